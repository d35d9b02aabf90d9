-- Printed for this claim over the translation (with hand-proved callees). Lean checks it.
import Derived.Test.YtbgpnkchbcgekaaDoorQFcFi0
import Derived.Test.YtbgpnkchbcgekaaDoorQFcFi3
import Derived.Test.YtbgpnkchbcgekaaDoorQFcFi5
import Derived.Test.YtbgpnkchbcgekaaDoorQFcFi9
import Derived.Test.YtbgpnkchbcgekaaDoorQFcHc2
import Derived.Test.YtbgpnkchbcgekaaDoorQFcHe
import Derived.Test.YtbgpnkchbcgekaaDoorQFcR0
namespace Go.Proofs.YtbgpnkchbcgekaaDoor.Fi
open Go.RowKit Go.Proofs.YtbgpnkchbcgekaaDoorW.PrintWords Go.Proofs.YtbgpnkchbcgekaaDoorW.PrintLast Go.Proofs.YtbgpnkchbcgekaaDoorW.PrintMore
attribute [local go_sem] max2_int min2_int max_two min_two max_three min_three max_four min_four   -- for this text's walks alone
set_option linter.unusedVariables false
set_option linter.unusedSimpArgs false
def wogglelaw06_FireSaves.T14 : Bool × List (List Nat × List Nat) := (true, [([], []), ([], []), ([0, 1], [0, 1]), ([], []), ([], []), ([3, 4], [3, 4]), ([5], [5]), ([6], [6]), ([], []), ([7, 8], [7, 8]), ([9], [9]), ([2, 10, 2], [2, 10]), ([11, 11, 0, 1, 2, 3, 4, 5, 6, 7, 8, 9, 10, 11], [11])])
def wogglelaw06_FireSaves.B14 : List Nat := [0, 0, 3, 0, 0, 24, 56, 120, 0, 504, 1016, 2047, 4095]
theorem wogglelaw06_FireSaves.tab14 : rtab .any (opsOf Tryd.f8 14) = wogglelaw06_FireSaves.T14 := by kernel_rfl
theorem wogglelaw06_FireSaves.bits14 : waitsOk wogglelaw06_FireSaves.T14.2 wogglelaw06_FireSaves.B14 = true := by kernel_rfl
end Go.Proofs.YtbgpnkchbcgekaaDoor.Fi
