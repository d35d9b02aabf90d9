/- The laws TugSides and TugLeast in plain words. -/
import Derived.Test.YtepgcdjbhmpioaaQTgT11
import Derived.Test.YtepgcdjbhmpioaaQTgT8
import Derived.Test.YtepgcdjbhmpioaaQTgFi8
import Derived.Test.YtepgcdjbhmpioaaQTgFi13
namespace Go.Proofs.Ytepgcdjbhmpioaa.Fi
open Go.RowKit Go.Proofs.YtepgcdjbhmpioaaW.PrintWords Go.Proofs.YtepgcdjbhmpioaaW.PrintLast Go.Proofs.YtepgcdjbhmpioaaW.PrintMore
set_option linter.unusedVariables false
theorem u16_made {x : List Int} (h : ∀ v ∈ x, (Lit.int .u16 v).wf = true) : ∀ v ∈ x, 0 ≤ v ∧ v ≤ 65535 := fun v hv => by
  have := h v hv
  simp [Lit.wf] at this
  have a : IntKind.u16.min = 0 := by decide
  have b : IntKind.u16.max = 65535 := by decide
  omega
theorem u8_nat {v : Int} (h : (Lit.int .u8 v).wf = true) : 0 ≤ v ∧ v ≤ 255 := by
  simp [Lit.wf] at h
  have a : IntKind.u8.min = 0 := by decide
  have b : IntKind.u8.max = 255 := by decide
  omega
theorem OkL.widen {m k : Nat} {l : List Int} (h : OkL m l) (hm : m ≤ k) : OkL k l := ⟨h.1, Nat.le_trans h.2.1 hm, h.2.2⟩
theorem OkL.nonneg {m : Nat} {l : List Int} (h : OkL m l) : ∀ x ∈ l, 0 ≤ x := fun x hx => by have := h.2.2 x hx; omega
end Go.Proofs.Ytepgcdjbhmpioaa.Fi
