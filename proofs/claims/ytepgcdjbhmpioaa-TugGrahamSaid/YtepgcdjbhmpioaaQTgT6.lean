/- The small functions of the reference and the examples, in plain words. -/
import Derived.Test.YtepgcdjbhmpioaaQTgT5
import Derived.Test.YtepgcdjbhmpioaaQTgHv
import Derived.Test.YtepgcdjbhmpioaaQTgFi1
import Derived.Test.YtepgcdjbhmpioaaQTgFi2
namespace Go.Proofs.Ytepgcdjbhmpioaa.Fi
open Go.RowKit Go.Proofs.YtepgcdjbhmpioaaW.PrintWords Go.Proofs.YtepgcdjbhmpioaaW.PrintLast Go.Proofs.YtepgcdjbhmpioaaW.PrintMore
set_option linter.unusedVariables false
theorem lives_ev : Ev (fun k => wogglelaw05_lives.f k) true := Ev.now _
theorem lives_then : Ev (fun k => (wogglelaw05_lives.f k).bind fun t => some t) true := Ev.bind lives_ev (Ev.now _)
end Go.Proofs.Ytepgcdjbhmpioaa.Fi
