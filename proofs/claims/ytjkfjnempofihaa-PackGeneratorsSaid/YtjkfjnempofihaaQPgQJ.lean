/- Plain: generators that a law makes; the minimal ones of the minimal ones. -/
import Derived.Test.YtjkfjnempofihaaQPgQH
import Derived.Test.YtjkfjnempofihaaQPgQC
import Derived.Test.YtjkfjnempofihaaQPgE22
import Derived.Test.YtjkfjnempofihaaQPgFi0
import Derived.Test.YtjkfjnempofihaaQPgFi2
import Derived.Test.YtjkfjnempofihaaQPgE26
namespace Go.Proofs.Ytjkfjnempofihaa.Fi
open Go.RowKit Go.Shelf Go.Lib Go.Proofs.YtjkfjnempofihaaW.PrintWords Go.Proofs.YtjkfjnempofihaaW.PrintLast Go.Proofs.YtjkfjnempofihaaW.PrintMore
set_option linter.unusedVariables false
set_option linter.unusedSimpArgs false
theorem madK_in {n : Int} (h : 0 ≤ n) : 1 ≤ madK n ∧ madK n ≤ 4 := by unfold madK; omega
theorem monV_valid (x : M4) {k : Nat} (hk1 : 1 ≤ k) (hk4 : k ≤ 4) : validB k (monV (tl x) k) = true := by
  rw [valid_iff hk1]
  unfold monV
  refine ⟨by rw [List.length_map, List.length_take, tl_len]; omega, fun a ha => ?_⟩
  obtain ⟨b, _, rfl⟩ := List.mem_map.1 ha
  omega
theorem madV_valid {n : Int} (hn : 0 ≤ n) (xs : List M4) (most : Nat) : (madV n xs most).all (validB (madK n)) = true := by
  rw [List.all_eq_true]
  intro l hl
  obtain ⟨x, _, rfl⟩ := List.mem_map.1 hl
  exact monV_valid x (madK_in hn).1 (madK_in hn).2
theorem madV_len (n : Int) (xs : List M4) (most : Nat) : (madV n xs most).length ≤ most := by
  unfold madV
  rw [List.length_map, List.length_take]
  omega
theorem readErr_valid {k : Nat} {L : List (List Int)} (hk1 : 1 ≤ k) (hk4 : k ≤ 4) (hl : L.length ≤ 12) (h : L.all (validB k) = true) : readErr (k : Int) L = 0 := by
  unfold readErr
  rw [if_neg (by omega), if_neg (by omega), Int.toNat_natCast, if_pos h]
theorem minL_valid {k : Nat} {L : List (List Int)} (h : L.all (validB k) = true) : (minL L).all (validB k) = true := by
  rw [List.all_eq_true] at *
  exact fun l hl => h l ((mem_minL L l).1 hl).1
theorem minL_minL (L : List (List Int)) : minL (minL L) = minL L := by
  refine sorted_eq (r := fun a b => lexLt a b = true) lex_irr lexLt_tr _ _ (minL_sorted _) (minL_sorted _) (fun x => ?_)
  rw [mem_minL]
  constructor
  · exact fun h => h.1
  · exact fun h => ⟨h, fun y hy hne => ((mem_minL L x).1 h).2 y ((mem_minL L y).1 hy).1 hne⟩
theorem pad_cut {k : Nat} (hk4 : k ≤ 4) {L : List (List Int)} (hl : ∀ l ∈ L, l.length = k) : (minL L).map padM = lstM divM (L.map padM) := by
  rw [minL_eq hk4 hl, List.map_map]
  have e : ∀ m ∈ lstM divM (L.map padM), (padM ∘ cutM k) m = m := fun m hm => by
    obtain ⟨l, hl2, rfl⟩ := List.mem_map.1 ((mem_lstM _ _ _).1 hm).1
    show padM (cutM k (padM l)) = padM l
    rw [cut_pad hk4 (hl l hl2)]
  rw [List.map_congr_left e]
  simp
theorem hasL_iff {k : Nat} (hk4 : k ≤ 4) {L : List (List Int)} {m : List Int} (hl : ∀ l ∈ L, l.length = k) (hm : m.length = k) : hasL L m = true ↔ inI (L.map padM) (padM m) := by
  rw [← hasL_pad hk4 hl hm, List.any_eq_true]
  constructor
  · rintro ⟨g, hg, h⟩
    exact ⟨g, hg, (divM_iff _ _).1 h⟩
  · rintro ⟨g, hg, h⟩
    exact ⟨g, hg, (divM_iff _ _).2 h⟩
theorem hasL_min {k : Nat} (hk4 : k ≤ 4) {L : List (List Int)} {m : List Int} (hl : ∀ l ∈ L, l.length = k) (hm : m.length = k) : hasL (minL L) m = hasL L m := by
  rw [Bool.eq_iff_iff, hasL_iff hk4 (minL_lens hl) hm, hasL_iff hk4 hl hm, pad_cut hk4 hl, inI_least]
end Go.Proofs.Ytjkfjnempofihaa.Fi
