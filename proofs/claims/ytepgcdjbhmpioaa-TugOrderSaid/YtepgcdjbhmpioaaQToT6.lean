/- The small functions of the reference and the examples, in plain words. -/
import Derived.Test.YtepgcdjbhmpioaaQToT5
import Derived.Test.YtepgcdjbhmpioaaQToHv
import Derived.Test.YtepgcdjbhmpioaaQToFi1
import Derived.Test.YtepgcdjbhmpioaaQToFi2
namespace Go.Proofs.Ytepgcdjbhmpioaa.Fi
open Go.RowKit Go.Proofs.YtepgcdjbhmpioaaW.PrintWords Go.Proofs.YtepgcdjbhmpioaaW.PrintLast Go.Proofs.YtepgcdjbhmpioaaW.PrintMore
set_option linter.unusedVariables false
theorem lives_ev : Ev (fun k => wogglelaw05_lives.f k) true := Ev.now _
theorem lives_then : Ev (fun k => (wogglelaw05_lives.f k).bind fun t => some t) true := Ev.bind lives_ev (Ev.now _)
end Go.Proofs.Ytepgcdjbhmpioaa.Fi
