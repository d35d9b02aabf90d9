/- Plain: the reference's Radical, Over and Both are the program's. -/
import Derived.Test.YtjkfjnempofihaaQPmQF
import Derived.Test.YtjkfjnempofihaaQPmFi4
import Derived.Test.YtjkfjnempofihaaQPmFi0
import Derived.Test.YtjkfjnempofihaaQPmRM
import Derived.Test.YtjkfjnempofihaaQPmE21
namespace Go.Proofs.Ytjkfjnempofihaa.Fi
open Go.RowKit Go.Shelf Go.Lib Go.Proofs.YtjkfjnempofihaaW.PrintWords Go.Proofs.YtjkfjnempofihaaW.PrintLast Go.Proofs.YtjkfjnempofihaaW.PrintMore
set_option linter.unusedVariables false
set_option linter.unusedSimpArgs false
theorem rd_get (l : List Int) (j : Nat) (h : j < l.length) : rd l (j : Int) = l[j] := by
  unfold rd
  rw [Int.toNat_natCast, List.getD_eq_getElem?_getD, List.getElem?_eq_getElem h]
  rfl
theorem take_snoc {α : Type} (l : List α) (j : Nat) (h : j < l.length) : l.take (j + 1) = l.take j ++ [l[j]] := by
  rw [List.take_add_one, List.getElem?_eq_getElem h]
  rfl
def radL (l : List Int) : List Int := l.map (mn 1)
theorem radical_ev {n : Nat} (gens : List (List Int)) (hn : n ≤ 100000) (hg : gens.length ≤ 67108864) (hl : ∀ l ∈ gens, l.length = n) : Ev (fun k => woggleref04_Radical.f k gens) (minL (gens.map radL)) := by
  have key : ∀ (d i : Nat), i + d = gens.length → Ev (fun k => woggleref04_Radical.l0 k gens ((gens.take i).map radL) (i : Int)) (minL (gens.map radL)) := by
    intro d
    induction d with
    | zero =>
      intro i hi
      rw [show i = gens.length by omega, List.take_length]
      refine Ev.step (f := fun _ => some (minL (gens.map radL))) (fun k => ?_) (Ev.now _)
      simp only [woggleref04_Radical.l0]
      rw [if_neg (by omega), rmin_f (n := n) (by rw [List.length_map]; exact hg) hn (fun x hx => by obtain ⟨y, hy, rfl⟩ := List.mem_map.1 hx; unfold radL; rw [List.length_map]; exact hl y hy)]
      rfl
    | succ d ih =>
      intro i hi
      have hil : i < gens.length := by omega
      have hlen : gens[i].length = n := hl _ (List.getElem_mem _)
      have inner : ∀ (e j : Nat), j + e = gens[i].length → Ev (fun k => woggleref04_Radical.l1 k gens ((gens.take i).map radL) (i : Int) (radL (gens[i].take j)) (j : Int)) (minL (gens.map radL)) := by
        intro e
        induction e with
        | zero =>
          intro j hj
          rw [show j = gens[i].length by omega, List.take_length]
          refine Ev.step (fun k => ?_) (ih (i + 1) (by omega))
          simp only [woggleref04_Radical.l1]
          rw [if_pos (by omega), if_pos (by omega), rd_L1_get _ _ hil, if_neg (by omega), if_pos (by simp; omega), wrapS (by omega), take_snoc gens i hil, List.map_append]
          rfl
        | succ e ihe =>
          intro j hj
          have hjl : j < gens[i].length := by omega
          refine Ev.step (fun k => ?_) (ihe (j + 1) (by omega))
          simp only [woggleref04_Radical.l1]
          rw [if_pos (by omega), if_pos (by omega), rd_L1_get _ _ hil, if_pos (by omega), if_pos (by omega), if_pos (by unfold radL; simp; omega), wrapS (by omega), rd_get _ _ hjl, take_snoc gens[i] j hjl]
          unfold radL
          rw [List.map_append]
          rfl
      refine Ev.step (fun k => ?_) (inner gens[i].length 0 (by omega))
      simp only [woggleref04_Radical.l0]
      rw [if_pos (by omega)]
      rfl
  exact key gens.length 0 (by omega)
theorem rad_pad (l : List Int) : padM (radL l) = radM (padM l) := by
  have h : ∀ i, (radL l).getD i 0 = rad0 (l.getD i 0) := fun i => by
    unfold radL rad0
    rw [List.getD_eq_getElem?_getD, List.getElem?_map, List.getD_eq_getElem?_getD]
    cases l[i]? with
    | none => rfl
    | some a =>
      show mn 1 a = if 1 < a then 1 else a
      unfold mn
      split <;> split <;> omega
  unfold padM radM
  rw [h, h, h, h]
theorem radical_eq {n : Nat} (hn : n ≤ 4) {gens : List (List Int)} (hg : ∀ l ∈ gens, l.length = n) : minL (gens.map radL) = (lstM divM ((gens.map padM).map radM)).map (cutM n) := by
  rw [minL_eq hn (fun x hx => by obtain ⟨y, hy, rfl⟩ := List.mem_map.1 hx; unfold radL; rw [List.length_map]; exact hg y hy), List.map_map, List.map_map]
  congr 2
  exact List.map_congr_left (fun l _ => rad_pad l)
theorem valid_lens {k : Nat} {gens : List (List Int)} (h : gens.all (validB k) = true) : ∀ l ∈ gens, l.length = k := fun l hl => by
  rw [List.all_eq_true] at h
  have := h l hl
  unfold validB at this
  rw [Bool.and_eq_true, decide_eq_true_iff] at this
  exact this.1
theorem minL_len (gens : List (List Int)) : (minL gens).length ≤ gens.length := by
  unfold minL
  rw [List.length_map]
  exact (oT_lt gens _).2
theorem minL_lens {n : Nat} {gens : List (List Int)} (h : ∀ l ∈ gens, l.length = n) : ∀ l ∈ minL gens, l.length = n := fun l hl => h l ((mem_minL gens l).1 hl).1
end Go.Proofs.Ytjkfjnempofihaa.Fi
