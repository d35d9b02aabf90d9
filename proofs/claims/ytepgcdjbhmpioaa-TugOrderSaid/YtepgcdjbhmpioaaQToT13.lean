/- The laws TugSides and TugLeast in plain words. -/
import Derived.Test.YtepgcdjbhmpioaaQToT11
import Derived.Test.YtepgcdjbhmpioaaQToT8
import Derived.Test.YtepgcdjbhmpioaaQToFi8
import Derived.Test.YtepgcdjbhmpioaaQToFi13
namespace Go.Proofs.Ytepgcdjbhmpioaa.Fi
open Go.RowKit Go.Proofs.YtepgcdjbhmpioaaW.PrintWords Go.Proofs.YtepgcdjbhmpioaaW.PrintLast Go.Proofs.YtepgcdjbhmpioaaW.PrintMore
set_option linter.unusedVariables false
theorem u16_made {x : List Int} (h : ∀ v ∈ x, (Lit.int .u16 v).wf = true) : ∀ v ∈ x, 0 ≤ v ∧ v ≤ 65535 := fun v hv => by
  have := h v hv
  simp [Lit.wf] at this
  have a : IntKind.u16.min = 0 := by decide
  have b : IntKind.u16.max = 65535 := by decide
  omega
theorem u8_nat {v : Int} (h : (Lit.int .u8 v).wf = true) : 0 ≤ v ∧ v ≤ 255 := by
  simp [Lit.wf] at h
  have a : IntKind.u8.min = 0 := by decide
  have b : IntKind.u8.max = 255 := by decide
  omega
theorem OkL.widen {m k : Nat} {l : List Int} (h : OkL m l) (hm : m ≤ k) : OkL k l := ⟨h.1, Nat.le_trans h.2.1 hm, h.2.2⟩
theorem OkL.nonneg {m : Nat} {l : List Int} (h : OkL m l) : ∀ x ∈ l, 0 ≤ x := fun x hx => by have := h.2.2 x hx; omega
theorem split_is {l : List Int} (h : OkL 14 l) : tug_Split.f l = some ((findS anyS l).1, (findS anyS l).2, 0) := by
  unfold tug_Split.f
  rw [if_pos (chk_ok h)]
theorem even_is {l : List Int} (h : OkL 14 l) : tug_Even.f l = some ((findS evS l).1, (findS evS l).2, 0) := by
  unfold tug_Even.f
  rw [if_pos (chk_ok h)]
theorem kk_is {l : List Int} (h : OkL 14 l) : tug_Differencing.f l = some ((kkS l).1, (kkS l).2, 0) := by
  unfold tug_Differencing.f
  rw [if_pos (chk_ok h)]
end Go.Proofs.Ytepgcdjbhmpioaa.Fi
