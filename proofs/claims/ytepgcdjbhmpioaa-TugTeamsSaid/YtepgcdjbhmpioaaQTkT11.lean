/- The least difference in plain words: it depends neither on the order nor, but for the factor, on the scale; differencing is never less, and the same for at most 4 pulls. -/
import Derived.Test.YtepgcdjbhmpioaaQTkT10
namespace Go.Proofs.Ytepgcdjbhmpioaa.Fi
open Go.RowKit Go.Proofs.YtepgcdjbhmpioaaW.PrintWords Go.Proofs.YtepgcdjbhmpioaaW.PrintLast Go.Proofs.YtepgcdjbhmpioaaW.PrintMore
set_option linter.unusedVariables false
/-- The least difference of any sides that a rule allows. -/
structure IsMin (may : List Int → Bool) (p : List Int) (d : Int) : Prop where
  got : ∃ s, Bits s ∧ s.length = p.length ∧ may s = true ∧ diffS p s = d
  least : ∀ s, Bits s → s.length = p.length → may s = true → d ≤ diffS p s
theorem IsMin.nonneg {may : List Int → Bool} {p : List Int} {d : Int} (h : IsMin may p d) : 0 ≤ d := by
  obtain ⟨s, _, _, _, h⟩ := h.got
  rw [← h]
  exact diffS_nonneg p s
end Go.Proofs.Ytepgcdjbhmpioaa.Fi
