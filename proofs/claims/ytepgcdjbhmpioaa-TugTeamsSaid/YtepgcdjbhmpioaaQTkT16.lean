/- Graham's bound of the greedy load, and the lower bounds of every load: plain. -/
import Derived.Test.YtepgcdjbhmpioaaQTkT12
namespace Go.Proofs.Ytepgcdjbhmpioaa.Fi
open Go.RowKit Go.Proofs.YtepgcdjbhmpioaaW.PrintWords Go.Proofs.YtepgcdjbhmpioaaW.PrintLast Go.Proofs.YtepgcdjbhmpioaaW.PrintMore
set_option linter.unusedVariables false
theorem tot_take : ∀ (m : Nat) (p : List Int) (ts : List Nat) (j : Nat), (∀ x ∈ p, 0 ≤ x) → tot (p.take m) (ts.take m) j ≤ tot p ts j
  | 0, p, ts, j, h => by
    rw [List.take_zero]
    exact tot_nonneg ts j h
  | m + 1, [], ts, j, _ => by simp [tot]
  | m + 1, a :: p, [], j, h => by simp [tot]
  | m + 1, a :: p, t :: ts, j, h => by
    have := tot_take m p ts j (fun x hx => h x (by simp [hx]))
    rw [List.take_succ_cons, List.take_succ_cons, tot, tot]
    omega
theorem take_succ_getD (l : List Int) (i : Nat) (h : i < l.length) : l.take (i + 1) = l.take i ++ [l.getD i 0] := by
  rw [List.take_add_one, List.getElem?_eq_getElem h, List.getD_eq_getElem?_getD, List.getElem?_eq_getElem h]
  rfl
end Go.Proofs.Ytepgcdjbhmpioaa.Fi
