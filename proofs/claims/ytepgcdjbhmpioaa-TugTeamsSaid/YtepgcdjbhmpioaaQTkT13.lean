/- The laws TugSides and TugLeast in plain words. -/
import Derived.Test.YtepgcdjbhmpioaaQTkT11
import Derived.Test.YtepgcdjbhmpioaaQTkT6
import Derived.Test.YtepgcdjbhmpioaaQTkFi5
import Derived.Test.YtepgcdjbhmpioaaQTkFi0
import Derived.Test.YtepgcdjbhmpioaaQTkFi2
import Derived.Test.YtepgcdjbhmpioaaQTkH2
import Derived.Test.YtepgcdjbhmpioaaQTkH5
import Derived.Test.YtepgcdjbhmpioaaQTkHv
namespace Go.Proofs.Ytepgcdjbhmpioaa.Fi
open Go.RowKit Go.Proofs.YtepgcdjbhmpioaaW.PrintWords Go.Proofs.YtepgcdjbhmpioaaW.PrintLast Go.Proofs.YtepgcdjbhmpioaaW.PrintMore
set_option linter.unusedVariables false
theorem OkL.widen {m k : Nat} {l : List Int} (h : OkL m l) (hm : m ≤ k) : OkL k l := ⟨h.1, Nat.le_trans h.2.1 hm, h.2.2⟩
theorem OkL.nonneg {m : Nat} {l : List Int} (h : OkL m l) : ∀ x ∈ l, 0 ≤ x := fun x hx => by have := h.2.2 x hx; omega
end Go.Proofs.Ytepgcdjbhmpioaa.Fi
