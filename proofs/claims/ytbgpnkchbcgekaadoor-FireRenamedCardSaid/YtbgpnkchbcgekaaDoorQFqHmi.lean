/- The calls of slices.Min and slices.Max at a list that is not empty. -/
import Derived.Test.YtbgpnkchbcgekaaDoorQFqHk
namespace Go.Proofs.YtbgpnkchbcgekaaDoor.Fi
open Go.RowKit Go.Proofs.YtbgpnkchbcgekaaDoorW.PrintWords Go.Proofs.YtbgpnkchbcgekaaDoorW.PrintLast Go.Proofs.YtbgpnkchbcgekaaDoorW.PrintMore Wog
set_option linter.unusedVariables false
set_option linter.unusedSimpArgs false
def minT (l : List Int) (k : Nat) : Int := (l.take k).foldl min (l.getD 0 0)
def maxT (l : List Int) (k : Nat) : Int := (l.take k).foldl max (l.getD 0 0)
end Go.Proofs.YtbgpnkchbcgekaaDoor.Fi
