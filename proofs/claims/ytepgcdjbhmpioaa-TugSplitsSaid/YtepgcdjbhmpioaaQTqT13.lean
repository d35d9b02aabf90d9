/- The laws TugSides and TugLeast in plain words. -/
import Derived.Test.YtepgcdjbhmpioaaQTqT11
import Derived.Test.YtepgcdjbhmpioaaQTqT8
import Derived.Test.YtepgcdjbhmpioaaQTqFi8
import Derived.Test.YtepgcdjbhmpioaaQTqFi13
namespace Go.Proofs.Ytepgcdjbhmpioaa.Fi
open Go.RowKit Go.Proofs.YtepgcdjbhmpioaaW.PrintWords Go.Proofs.YtepgcdjbhmpioaaW.PrintLast Go.Proofs.YtepgcdjbhmpioaaW.PrintMore
set_option linter.unusedVariables false
theorem OkL.nonneg {m : Nat} {l : List Int} (h : OkL m l) : ∀ x ∈ l, 0 ≤ x := fun x hx => by have := h.2.2 x hx; omega
theorem split_is {l : List Int} (h : OkL 14 l) : tug_Split.f l = some ((findS anyS l).1, (findS anyS l).2, 0) := by
  unfold tug_Split.f
  rw [if_pos (chk_ok h)]
theorem even_is {l : List Int} (h : OkL 14 l) : tug_Even.f l = some ((findS evS l).1, (findS evS l).2, 0) := by
  unfold tug_Even.f
  rw [if_pos (chk_ok h)]
end Go.Proofs.Ytepgcdjbhmpioaa.Fi
