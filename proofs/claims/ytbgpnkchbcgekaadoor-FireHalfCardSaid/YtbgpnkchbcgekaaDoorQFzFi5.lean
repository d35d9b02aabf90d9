-- Printed for this claim over the translation (with hand-proved callees). Lean checks it.
import Derived.Test.YtbgpnkchbcgekaaDoorQFzFi0
import Derived.Test.YtbgpnkchbcgekaaDoorQFzFi1
import Derived.Test.YtbgpnkchbcgekaaDoorQFzFi3
namespace Go.Proofs.YtbgpnkchbcgekaaDoor.Fi
open Go.RowKit Go.Proofs.YtbgpnkchbcgekaaDoorW.PrintWords Go.Proofs.YtbgpnkchbcgekaaDoorW.PrintLast Go.Proofs.YtbgpnkchbcgekaaDoorW.PrintMore
attribute [local go_sem] max2_int min2_int max_two min_two max_three min_three max_four min_four   -- for this text's walks alone
set_option linter.unusedVariables false
set_option linter.unusedSimpArgs false
def woggleref06_Play.B1 : List Nat := [0, 0, 3, 0, 8, 0, 7, 95, 223, 511]
end Go.Proofs.YtbgpnkchbcgekaaDoor.Fi
