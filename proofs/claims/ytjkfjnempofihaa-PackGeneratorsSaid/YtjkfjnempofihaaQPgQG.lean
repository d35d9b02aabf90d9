/- Plain: the reference's Radical, Over and Both are the program's. -/
import Derived.Test.YtjkfjnempofihaaQPgQF
import Derived.Test.YtjkfjnempofihaaQPgFi0
import Derived.Test.YtjkfjnempofihaaQPgRM
import Derived.Test.YtjkfjnempofihaaQPgE21
namespace Go.Proofs.Ytjkfjnempofihaa.Fi
open Go.RowKit Go.Shelf Go.Lib Go.Proofs.YtjkfjnempofihaaW.PrintWords Go.Proofs.YtjkfjnempofihaaW.PrintLast Go.Proofs.YtjkfjnempofihaaW.PrintMore
set_option linter.unusedVariables false
set_option linter.unusedSimpArgs false
theorem valid_lens {k : Nat} {gens : List (List Int)} (h : gens.all (validB k) = true) : ∀ l ∈ gens, l.length = k := fun l hl => by
  rw [List.all_eq_true] at h
  have := h l hl
  unfold validB at this
  rw [Bool.and_eq_true, decide_eq_true_iff] at this
  exact this.1
theorem minL_len (gens : List (List Int)) : (minL gens).length ≤ gens.length := by
  unfold minL
  rw [List.length_map]
  exact (oT_lt gens _).2
theorem minL_lens {n : Nat} {gens : List (List Int)} (h : ∀ l ∈ gens, l.length = n) : ∀ l ∈ minL gens, l.length = n := fun l hl => h l ((mem_minL gens l).1 hl).1
end Go.Proofs.Ytjkfjnempofihaa.Fi
