/- The calls of woggleref05.Differencing, as printed (texts Fd), under the name that the laws use. -/
import Derived.Test.YtepgcdjbhmpioaaQTeH9
import Derived.Test.YtepgcdjbhmpioaaQTeFd2
namespace Go.Proofs.Ytepgcdjbhmpioaa.Fi
open Go.RowKit Go.Proofs.YtepgcdjbhmpioaaW.PrintWords Go.Proofs.YtepgcdjbhmpioaaW.PrintLast Go.Proofs.YtepgcdjbhmpioaaW.PrintMore
set_option linter.unusedVariables false
def woggleref05_Differencing.f (k : Nat) (l : List Int) : Option (Int × List Int) := Fd.woggleref05_Differencing.f k l
theorem woggleref05_Differencing.calls (k : Nat) (A0 : Option Addr) (c0 : Nat) (l0 : List Int) (r1 : Int) (r2 : List Int) (w : World) (hr0 : Kd.C (Kd.int .i64) w A0 l0.length l0) (hc0 : l0.length ≤ c0) (h : woggleref05_Differencing.f k l0 = some (r1, r2)) :
    Calls Try.prog 21 #[.slice A0 l0.length c0] w fun e w' => ∃ v1_ : Value, e = .returned (.tuple #[.int .i64 r1, v1_]) ∧ Kd.R (Kd.int .i64) 3 w' w.heap.size (fun _ => True) v1_ r2 ∧ Below w.heap.size w w' := Fd.woggleref05_Differencing.calls k A0 c0 l0 r1 r2 w hr0 hc0 h
end Go.Proofs.Ytepgcdjbhmpioaa.Fi
