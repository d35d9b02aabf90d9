/- The reference's sides, the ways, the sum, the pulls that are made: in plain words. -/
import Derived.Test.YtepgcdjbhmpioaaQTnT6
import Derived.Test.YtepgcdjbhmpioaaQTnFi5
namespace Go.Proofs.Ytepgcdjbhmpioaa.Fi
open Go.RowKit Go.Proofs.YtepgcdjbhmpioaaW.PrintWords Go.Proofs.YtepgcdjbhmpioaaW.PrintLast Go.Proofs.YtepgcdjbhmpioaaW.PrintMore
set_option linter.unusedVariables false
theorem take_snoc' (l : List Int) (i : Nat) (h : i < l.length) : l.take i ++ [l.getD i 0] = l.take (i + 1) := by
  rw [List.take_add_one, List.getElem?_eq_getElem h, List.getD_eq_getElem?_getD, List.getElem?_eq_getElem h]
  rfl
theorem sum_snoc (p : List Int) (i : Nat) (h : i < p.length) : (p.take (i + 1)).sum = (p.take i).sum + p.getD i 0 := by
  rw [← take_snoc' p i h, List.sum_append]
  simp
theorem sum_bound {p : List Int} (hp : ∀ x ∈ p, 1 ≤ x ∧ x ≤ 1000000) : ∀ i, i ≤ p.length → 0 ≤ (p.take i).sum ∧ (p.take i).sum ≤ 1000000 * (i : Int)
  | 0, _ => by simp
  | i + 1, h => by
    have := sum_bound hp i (by omega)
    have a := hp _ (getD_mem (l := p) (i := i) (by omega))
    rw [sum_snoc p i (by omega)]
    omega
theorem sum_ev (p : List Int) (hp : OkL 50 p) : Ev (fun k => woggleref05_Sum.f k p) p.sum := by
  obtain ⟨hp1, hp2, hp3⟩ := hp
  unfold woggleref05_Sum.f
  have key : ∀ d i : Nat, i + d = p.length → Ev (fun k => woggleref05_Sum.l0 k p (p.take i).sum (i : Int)) p.sum := by
    intro d
    induction d with
    | zero =>
      intro i hi
      refine Ev.step (f := fun _ => some p.sum) (fun k => ?_) (Ev.now _)
      simp only [woggleref05_Sum.l0]
      rw [if_neg (by omega), List.take_of_length_le (by omega)]
    | succ d ih =>
      intro i hi
      have hb := sum_bound hp3 (i + 1) (by omega)
      rw [sum_snoc p i (by omega)] at hb
      refine Ev.step (fun k => ?_) (ih (i + 1) (by omega))
      simp only [woggleref05_Sum.l0]
      rw [if_pos (by omega), if_pos (by omega), rdN, wrapS (by omega), wrapS (by omega), sum_snoc p i (by omega)]
      rfl
  exact key p.length 0 (by omega)
end Go.Proofs.Ytepgcdjbhmpioaa.Fi
