/- The reference's Minimal as the printed texts call it. -/
import Derived.Test.YtjkfjnempofihaaQPgE24
namespace Go.Proofs.Ytjkfjnempofihaa.Fi
open Go.RowKit Go.Shelf Go.Lib Go.Proofs.YtjkfjnempofihaaW.PrintWords Go.Proofs.YtjkfjnempofihaaW.PrintLast Go.Proofs.YtjkfjnempofihaaW.PrintMore
set_option linter.unusedVariables false
/-- A value that reads as a list of lists. -/
def CV (w : World) (v : Value) (xs : List (List Int)) : Prop := ∃ A c, v = .slice A xs.length c ∧ xs.length ≤ c ∧ Kd.C kL w A xs.length xs
theorem CV.below {w w1 : World} {v : Value} {xs : List (List Int)} (h : CV w v xs) (hb : Below w.heap.size w w1) : CV w1 v xs := by
  obtain ⟨A, c, h1, h2, h3⟩ := h
  exact ⟨A, c, h1, h2, Kd.C_below h3 hb⟩
theorem CV.of_S {w : World} {base : Nat} {ok : Nat → Prop} {v : Value} {xs : List (List Int)} (h : Kd.S kL 25 w base ok v xs) : CV w v xs := by
  obtain ⟨A, c, rfl⟩ := Kd.S_slice h
  have h2 := Kd.S_reads' h
  exact ⟨A, c, rfl, h2.2.1, h2.2.2⟩
end Go.Proofs.Ytjkfjnempofihaa.Fi
