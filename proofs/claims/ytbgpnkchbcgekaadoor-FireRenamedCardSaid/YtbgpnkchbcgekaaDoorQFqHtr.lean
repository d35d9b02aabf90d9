/- The calls of graph.tree. -/
import Derived.Test.YtbgpnkchbcgekaaDoorQFqHd
import Derived.Deep.RegionHeld3
import Derived.Outline
namespace Go.Proofs.YtbgpnkchbcgekaaDoor.Fi
open Go.RowKit Go.Proofs.YtbgpnkchbcgekaaDoorW.PrintWords Go.Proofs.YtbgpnkchbcgekaaDoorW.PrintLast Go.Proofs.YtbgpnkchbcgekaaDoorW.PrintMore Wog
set_option linter.unusedVariables false
set_option linter.unusedSimpArgs false
theorem popc_le16 (x : Nat) : popc 16 x ≤ 16 := Nat.le_trans List.countP_le_length (by simp)
end Go.Proofs.YtbgpnkchbcgekaaDoor.Fi
