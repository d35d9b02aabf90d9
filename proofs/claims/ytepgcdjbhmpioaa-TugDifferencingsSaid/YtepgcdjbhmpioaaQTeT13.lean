/- The laws TugSides and TugLeast in plain words. -/
import Derived.Test.YtepgcdjbhmpioaaQTeT11
import Derived.Test.YtepgcdjbhmpioaaQTeT6
import Derived.Test.YtepgcdjbhmpioaaQTeFi5
import Derived.Test.YtepgcdjbhmpioaaQTeFi0
import Derived.Test.YtepgcdjbhmpioaaQTeFi1
import Derived.Test.YtepgcdjbhmpioaaQTeH2
import Derived.Test.YtepgcdjbhmpioaaQTeH5
import Derived.Test.YtepgcdjbhmpioaaQTeHv
namespace Go.Proofs.Ytepgcdjbhmpioaa.Fi
open Go.RowKit Go.Proofs.YtepgcdjbhmpioaaW.PrintWords Go.Proofs.YtepgcdjbhmpioaaW.PrintLast Go.Proofs.YtepgcdjbhmpioaaW.PrintMore
set_option linter.unusedVariables false
theorem OkL.nonneg {m : Nat} {l : List Int} (h : OkL m l) : ∀ x ∈ l, 0 ≤ x := fun x hx => by have := h.2.2 x hx; omega
theorem kk_is {l : List Int} (h : OkL 14 l) : tug_Differencing.f l = some ((kkS l).1, (kkS l).2, 0) := by
  unfold tug_Differencing.f
  rw [if_pos (chk_ok h)]
end Go.Proofs.Ytepgcdjbhmpioaa.Fi
