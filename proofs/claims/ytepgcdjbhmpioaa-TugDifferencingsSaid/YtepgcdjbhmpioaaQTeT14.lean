/- The laws TugMore and TugTwo in plain words. -/
import Derived.Test.YtepgcdjbhmpioaaQTeT12
import Derived.Test.YtepgcdjbhmpioaaQTeT13
import Derived.Test.YtepgcdjbhmpioaaQTeFi0
import Derived.Test.YtepgcdjbhmpioaaQTeFi1
import Derived.Test.YtepgcdjbhmpioaaQTeH2
import Derived.Test.YtepgcdjbhmpioaaQTeH3
import Derived.Test.YtepgcdjbhmpioaaQTeHv
namespace Go.Proofs.Ytepgcdjbhmpioaa.Fi
open Go.RowKit Go.Proofs.YtepgcdjbhmpioaaW.PrintWords Go.Proofs.YtepgcdjbhmpioaaW.PrintLast Go.Proofs.YtepgcdjbhmpioaaW.PrintMore
set_option linter.unusedVariables false
theorem before_self (l : List Int) (hl : l.length < 2 ^ 30) : Ev (fun k => woggleref01_Before.f k l l) false := by
  have key : ∀ d i : Nat, i + d = l.length → Ev (fun k => woggleref01_Before.l0 k l l (i : Int)) false := by
    intro d
    induction d with
    | zero =>
      intro i hi
      refine Ev.step (f := fun k => woggleref01_Before.j1 k l l (i : Int) false) (fun k => ?_) ?_
      · simp only [woggleref01_Before.l0]
        rw [if_neg (by omega)]
      · refine Ev.step (f := fun _ => some false) (fun k => ?_) (Ev.now _)
        simp only [woggleref01_Before.j1]
        rw [if_neg (by decide)]
        simp
    | succ d ih =>
      intro i hi
      refine Ev.step (f := fun k => woggleref01_Before.j1 k l l (i : Int) true) (fun k => ?_) ?_
      · simp only [woggleref01_Before.l0]
        rw [if_pos (by omega), decide_eq_true (by omega)]
      · refine Ev.step (fun k => ?_) (ih (i + 1) (by omega))
        simp only [woggleref01_Before.j1]
        rw [if_pos trivial, if_pos (by omega), if_pos (by omega), if_pos (by omega), if_pos trivial, wrapS (by omega)]
        rfl
  exact key l.length 0 (by omega)
theorem same_ev (l : List Int) (hl : l.length < 2 ^ 30) : Ev (fun k => woggleref01_Same.f k l l) true := by
  unfold woggleref01_Same.f
  refine Ev.bind (before_self l hl) ?_
  simp only [Bool.false_eq_true, if_false]
  refine Ev.bind (before_self l hl) ?_
  exact Ev.now _
end Go.Proofs.Ytepgcdjbhmpioaa.Fi
