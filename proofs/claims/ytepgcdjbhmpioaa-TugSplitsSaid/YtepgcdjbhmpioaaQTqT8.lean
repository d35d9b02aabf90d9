/- The reference's sides, the ways, the sum, the pulls that are made: in plain words. -/
import Derived.Test.YtepgcdjbhmpioaaQTqT6
import Derived.Test.YtepgcdjbhmpioaaQTqFi5
namespace Go.Proofs.Ytepgcdjbhmpioaa.Fi
open Go.RowKit Go.Proofs.YtepgcdjbhmpioaaW.PrintWords Go.Proofs.YtepgcdjbhmpioaaW.PrintLast Go.Proofs.YtepgcdjbhmpioaaW.PrintMore
set_option linter.unusedVariables false
theorem take_snoc' (l : List Int) (i : Nat) (h : i < l.length) : l.take i ++ [l.getD i 0] = l.take (i + 1) := by
  rw [List.take_add_one, List.getElem?_eq_getElem h, List.getD_eq_getElem?_getD, List.getElem?_eq_getElem h]
  rfl
theorem rsides_ev (n set : Nat) (hn : n ≤ 50) (hs : set < 2 ^ 62) : Ev (fun k => woggleref05_sides.f k (n : Int) (set : Int)) (sidesS n set) := by
  unfold woggleref05_sides.f
  have key : ∀ d j : Nat, j + d = n → Ev (fun k => woggleref05_sides.l0 k (set : Int) ((sidesS n set).take j) ((n : Int) - 1 - j)) (sidesS n set) := by
    intro d
    induction d with
    | zero =>
      intro j hj
      refine Ev.step (f := fun _ => some (sidesS n set)) (fun k => ?_) (Ev.now _)
      simp only [woggleref05_sides.l0]
      rw [if_neg (by omega), List.take_of_length_le (by rw [sidesS_length]; omega)]
    | succ d ih =>
      intro j hj
      refine Ev.step (fun k => ?_) (ih (j + 1) (by omega))
      simp only [woggleref05_sides.l0]
      have e : ((n : Int) - 1 - j) = ((n - 1 - j : Nat) : Int) := by omega
      rw [if_pos (by omega), if_pos (by omega), if_pos (by rw [List.length_take, sidesS_length]; omega), e, bit64 set (n - 1 - j) hs (by omega), wrapS (by omega), ← sidesS_get n set j (by omega), take_snoc' _ _ (by rw [sidesS_length]; omega)]
      congr 1
      omega
  have := key n 0 (by omega)
  rw [wrapS (by omega)]
  simpa using this
theorem pow_le13 {n : Nat} (h : n ≤ 14) : 2 ^ (n - 1) ≤ 8192 := Nat.pow_le_pow_right (by decide) (by omega : n - 1 ≤ 13)
theorem sum_snoc (p : List Int) (i : Nat) (h : i < p.length) : (p.take (i + 1)).sum = (p.take i).sum + p.getD i 0 := by
  rw [← take_snoc' p i h, List.sum_append]
  simp
end Go.Proofs.Ytepgcdjbhmpioaa.Fi
