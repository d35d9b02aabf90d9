/- Plain: the reference's Has and Over are the program's. -/
import Derived.Test.YtjkfjnempofihaaQPgQG
namespace Go.Proofs.Ytjkfjnempofihaa.Fi
open Go.RowKit Go.Shelf Go.Lib Go.Proofs.YtjkfjnempofihaaW.PrintWords Go.Proofs.YtjkfjnempofihaaW.PrintLast Go.Proofs.YtjkfjnempofihaaW.PrintMore
set_option linter.unusedVariables false
set_option linter.unusedSimpArgs false
theorem hasL_pad {n : Nat} (hn : n ≤ 4) {gens : List (List Int)} {m : List Int} (hg : ∀ l ∈ gens, l.length = n) (hm : m.length = n) : (gens.map padM).any (fun x => divM x (padM m)) = hasL gens m := by
  unfold hasL
  rw [List.any_map]
  rw [Bool.eq_iff_iff, List.any_eq_true, List.any_eq_true]
  constructor
  · rintro ⟨x, hx, h⟩
    exact ⟨x, hx, by rw [divL_pad n hn x m (hg x hx) hm]; exact h⟩
  · rintro ⟨x, hx, h⟩
    exact ⟨x, hx, by rw [divL_pad n hn x m (hg x hx) hm] at h; exact h⟩
theorem valid_len {k : Nat} {m : List Int} (h : validB k m = true) : m.length = k := by
  unfold validB at h
  rw [Bool.and_eq_true, decide_eq_true_iff] at h
  exact h.1
end Go.Proofs.Ytjkfjnempofihaa.Fi
