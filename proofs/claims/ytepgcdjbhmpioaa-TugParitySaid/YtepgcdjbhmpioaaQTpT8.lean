/- The reference's sides, the ways, the sum, the pulls that are made: in plain words. -/
import Derived.Test.YtepgcdjbhmpioaaQTpT6
import Derived.Test.YtepgcdjbhmpioaaQTpFi5
namespace Go.Proofs.Ytepgcdjbhmpioaa.Fi
open Go.RowKit Go.Proofs.YtepgcdjbhmpioaaW.PrintWords Go.Proofs.YtepgcdjbhmpioaaW.PrintLast Go.Proofs.YtepgcdjbhmpioaaW.PrintMore
set_option linter.unusedVariables false
theorem take_snoc' (l : List Int) (i : Nat) (h : i < l.length) : l.take i ++ [l.getD i 0] = l.take (i + 1) := by
  rw [List.take_add_one, List.getElem?_eq_getElem h, List.getD_eq_getElem?_getD, List.getElem?_eq_getElem h]
  rfl
/-- How many of the first sides have a difference. -/
def wayN (p : List Int) (d : Int) : Nat → Nat
  | 0 => 0
  | m + 1 => wayN p d m + if diffS p (sidesS p.length m) = d then 1 else 0
theorem wayN_le (p : List Int) (d : Int) : ∀ m, wayN p d m ≤ m
  | 0 => Nat.le_refl _
  | m + 1 => by
    have := wayN_le p d m
    unfold wayN
    split <;> omega
theorem pow_le13 {n : Nat} (h : n ≤ 14) : 2 ^ (n - 1) ≤ 8192 := Nat.pow_le_pow_right (by decide) (by omega : n - 1 ≤ 13)
theorem waysT_ev (p : List Int) (d : Int) : Ev (fun k => tug_Ways.f k p d) (if chk 14 p = 0 then (if d < 0 then (0, 1) else ((wayN p d (2 ^ (p.length - 1)) : Int), 0)) else (0, chk 14 p)) := by
  unfold tug_Ways.f
  have hc : tug_check.f p 14 = some (chk 14 p) := check_is 14 (by omega) p
  simp only [hc, Option.bind_some]
  by_cases h0 : chk 14 p = 0
  · simp only [if_pos h0]
    by_cases h1 : d < 0
    · simp only [if_pos h1]
      exact Ev.now _
    · simp only [if_neg h1]
      have hok := chk_zero h0
      obtain ⟨g1, g2, g3⟩ := hok
      have e1 : wrap64 ((p.length : Int) - 1) = ((p.length - 1 : Nat) : Int) := by rw [wrapS (by omega)]; omega
      simp only [e1, if_pos (show (0 : Int) ≤ ((p.length - 1 : Nat) : Int) by omega), shl64 (p.length - 1) (by omega)]
      have hM := pow_le13 g2
      obtain ⟨M, hMe⟩ : ∃ M, M = 2 ^ (p.length - 1) := ⟨_, rfl⟩
      rw [← hMe] at hM ⊢
      have key : ∀ dd i : Nat, i + dd = M → Ev (fun k => tug_Ways.l0 k p d (wayN p d i : Int) (M : Int) (i : Int)) ((wayN p d M : Int), 0) := by
        intro dd
        induction dd with
        | zero =>
          intro i hi
          obtain rfl : i = M := by omega
          refine Ev.step (f := fun _ => some ((wayN p d i : Int), 0)) (fun k => ?_) (Ev.now _)
          simp only [tug_Ways.l0]
          rw [if_neg (by omega)]
        | succ dd ih =>
          intro i hi
          have hl := wayN_le p d i
          refine Ev.step (fun k => by
            simp only [tug_Ways.l0]
            rw [if_pos (by omega)]) ?_
          refine Ev.bind (sides_ev p.length i (by omega) (Nat.lt_of_lt_of_le (show i < 8192 by omega) (by decide))) ?_
          refine Ev.bind (diff_ev p (sidesS p.length i) ⟨g1, by omega, g3⟩ (sidesS_bits _ _) (sidesS_length _ _)) ?_
          have := ih (i + 1) (by omega)
          by_cases h : diffS p (sidesS p.length i) = d
          · simp only [if_pos h]
            rw [wrapS (by omega), wrapS (by omega)]
            rw [show wayN p d (i + 1) = wayN p d i + 1 by simp only [wayN, if_pos h]] at this
            exact this
          · simp only [if_neg h]
            rw [wrapS (by omega)]
            rw [show wayN p d (i + 1) = wayN p d i by simp only [wayN, if_neg h, Nat.add_zero]] at this
            exact this
      exact key M 0 (by omega)
  · simp only [if_neg h0]
    exact Ev.now _
theorem sum_snoc (p : List Int) (i : Nat) (h : i < p.length) : (p.take (i + 1)).sum = (p.take i).sum + p.getD i 0 := by
  rw [← take_snoc' p i h, List.sum_append]
  simp
theorem sum_bound {p : List Int} (hp : ∀ x ∈ p, 1 ≤ x ∧ x ≤ 1000000) : ∀ i, i ≤ p.length → 0 ≤ (p.take i).sum ∧ (p.take i).sum ≤ 1000000 * (i : Int)
  | 0, _ => by simp
  | i + 1, h => by
    have := sum_bound hp i (by omega)
    have a := hp _ (getD_mem (l := p) (i := i) (by omega))
    rw [sum_snoc p i (by omega)]
    omega
theorem sum_ev (p : List Int) (hp : OkL 50 p) : Ev (fun k => woggleref05_Sum.f k p) p.sum := by
  obtain ⟨hp1, hp2, hp3⟩ := hp
  unfold woggleref05_Sum.f
  have key : ∀ d i : Nat, i + d = p.length → Ev (fun k => woggleref05_Sum.l0 k p (p.take i).sum (i : Int)) p.sum := by
    intro d
    induction d with
    | zero =>
      intro i hi
      refine Ev.step (f := fun _ => some p.sum) (fun k => ?_) (Ev.now _)
      simp only [woggleref05_Sum.l0]
      rw [if_neg (by omega), List.take_of_length_le (by omega)]
    | succ d ih =>
      intro i hi
      have hb := sum_bound hp3 (i + 1) (by omega)
      rw [sum_snoc p i (by omega)] at hb
      refine Ev.step (fun k => ?_) (ih (i + 1) (by omega))
      simp only [woggleref05_Sum.l0]
      rw [if_pos (by omega), if_pos (by omega), rdN, wrapS (by omega), wrapS (by omega), sum_snoc p i (by omega)]
      rfl
  exact key p.length 0 (by omega)
end Go.Proofs.Ytepgcdjbhmpioaa.Fi
