/- The reference's sides, the ways, the sum, the pulls that are made: in plain words. -/
import Derived.Test.YtepgcdjbhmpioaaQTwT6
import Derived.Test.YtepgcdjbhmpioaaQTwFi5
namespace Go.Proofs.Ytepgcdjbhmpioaa.Fi
open Go.RowKit Go.Proofs.YtepgcdjbhmpioaaW.PrintWords Go.Proofs.YtepgcdjbhmpioaaW.PrintLast Go.Proofs.YtepgcdjbhmpioaaW.PrintMore
set_option linter.unusedVariables false
theorem take_snoc' (l : List Int) (i : Nat) (h : i < l.length) : l.take i ++ [l.getD i 0] = l.take (i + 1) := by
  rw [List.take_add_one, List.getElem?_eq_getElem h, List.getD_eq_getElem?_getD, List.getElem?_eq_getElem h]
  rfl
theorem rsides_ev (n set : Nat) (hn : n ≤ 50) (hs : set < 2 ^ 62) : Ev (fun k => woggleref05_sides.f k (n : Int) (set : Int)) (sidesS n set) := by
  unfold woggleref05_sides.f
  have key : ∀ d j : Nat, j + d = n → Ev (fun k => woggleref05_sides.l0 k (set : Int) ((sidesS n set).take j) ((n : Int) - 1 - j)) (sidesS n set) := by
    intro d
    induction d with
    | zero =>
      intro j hj
      refine Ev.step (f := fun _ => some (sidesS n set)) (fun k => ?_) (Ev.now _)
      simp only [woggleref05_sides.l0]
      rw [if_neg (by omega), List.take_of_length_le (by rw [sidesS_length]; omega)]
    | succ d ih =>
      intro j hj
      refine Ev.step (fun k => ?_) (ih (j + 1) (by omega))
      simp only [woggleref05_sides.l0]
      have e : ((n : Int) - 1 - j) = ((n - 1 - j : Nat) : Int) := by omega
      rw [if_pos (by omega), if_pos (by omega), if_pos (by rw [List.length_take, sidesS_length]; omega), e, bit64 set (n - 1 - j) hs (by omega), wrapS (by omega), ← sidesS_get n set j (by omega), take_snoc' _ _ (by rw [sidesS_length]; omega)]
      congr 1
      omega
  have := key n 0 (by omega)
  rw [wrapS (by omega)]
  simpa using this
/-- How many of the first sides have a difference. -/
def wayN (p : List Int) (d : Int) : Nat → Nat
  | 0 => 0
  | m + 1 => wayN p d m + if diffS p (sidesS p.length m) = d then 1 else 0
theorem wayN_le (p : List Int) (d : Int) : ∀ m, wayN p d m ≤ m
  | 0 => Nat.le_refl _
  | m + 1 => by
    have := wayN_le p d m
    unfold wayN
    split <;> omega
theorem pow_le13 {n : Nat} (h : n ≤ 14) : 2 ^ (n - 1) ≤ 8192 := Nat.pow_le_pow_right (by decide) (by omega : n - 1 ≤ 13)
theorem waysT_ev (p : List Int) (d : Int) : Ev (fun k => tug_Ways.f k p d) (if chk 14 p = 0 then (if d < 0 then (0, 1) else ((wayN p d (2 ^ (p.length - 1)) : Int), 0)) else (0, chk 14 p)) := by
  unfold tug_Ways.f
  have hc : tug_check.f p 14 = some (chk 14 p) := check_is 14 (by omega) p
  simp only [hc, Option.bind_some]
  by_cases h0 : chk 14 p = 0
  · simp only [if_pos h0]
    by_cases h1 : d < 0
    · simp only [if_pos h1]
      exact Ev.now _
    · simp only [if_neg h1]
      have hok := chk_zero h0
      obtain ⟨g1, g2, g3⟩ := hok
      have e1 : wrap64 ((p.length : Int) - 1) = ((p.length - 1 : Nat) : Int) := by rw [wrapS (by omega)]; omega
      simp only [e1, if_pos (show (0 : Int) ≤ ((p.length - 1 : Nat) : Int) by omega), shl64 (p.length - 1) (by omega)]
      have hM := pow_le13 g2
      obtain ⟨M, hMe⟩ : ∃ M, M = 2 ^ (p.length - 1) := ⟨_, rfl⟩
      rw [← hMe] at hM ⊢
      have key : ∀ dd i : Nat, i + dd = M → Ev (fun k => tug_Ways.l0 k p d (wayN p d i : Int) (M : Int) (i : Int)) ((wayN p d M : Int), 0) := by
        intro dd
        induction dd with
        | zero =>
          intro i hi
          obtain rfl : i = M := by omega
          refine Ev.step (f := fun _ => some ((wayN p d i : Int), 0)) (fun k => ?_) (Ev.now _)
          simp only [tug_Ways.l0]
          rw [if_neg (by omega)]
        | succ dd ih =>
          intro i hi
          have hl := wayN_le p d i
          refine Ev.step (fun k => by
            simp only [tug_Ways.l0]
            rw [if_pos (by omega)]) ?_
          refine Ev.bind (sides_ev p.length i (by omega) (Nat.lt_of_lt_of_le (show i < 8192 by omega) (by decide))) ?_
          refine Ev.bind (diff_ev p (sidesS p.length i) ⟨g1, by omega, g3⟩ (sidesS_bits _ _) (sidesS_length _ _)) ?_
          have := ih (i + 1) (by omega)
          by_cases h : diffS p (sidesS p.length i) = d
          · simp only [if_pos h]
            rw [wrapS (by omega), wrapS (by omega)]
            rw [show wayN p d (i + 1) = wayN p d i + 1 by simp only [wayN, if_pos h]] at this
            exact this
          · simp only [if_neg h]
            rw [wrapS (by omega)]
            rw [show wayN p d (i + 1) = wayN p d i by simp only [wayN, if_neg h, Nat.add_zero]] at this
            exact this
      exact key M 0 (by omega)
  · simp only [if_neg h0]
    exact Ev.now _
theorem waysR_ev (p : List Int) (d : Int) (hok : OkL 14 p) : Ev (fun k => woggleref05_Ways.f k p d) (wayN p d (2 ^ (p.length - 1)) : Int) := by
  unfold woggleref05_Ways.f
  obtain ⟨g1, g2, g3⟩ := hok
  have e1 : wrap64 ((p.length : Int) - 1) = ((p.length - 1 : Nat) : Int) := by rw [wrapS (by omega)]; omega
  have hM := pow_le13 g2
  have e2 := shl64 (p.length - 1) (by omega)
  obtain ⟨M, hMe⟩ : ∃ M, M = 2 ^ (p.length - 1) := ⟨_, rfl⟩
  rw [← hMe] at hM e2 ⊢
  have key : ∀ dd i : Nat, i + dd = M → Ev (fun k => woggleref05_Ways.l0 k p d (wayN p d i : Int) (i : Int)) (wayN p d M : Int) := by
    intro dd
    induction dd with
    | zero =>
      intro i hi
      obtain rfl : i = M := by omega
      refine Ev.step (f := fun _ => some (wayN p d i : Int)) (fun k => ?_) (Ev.now _)
      simp only [woggleref05_Ways.l0]
      rw [e1, if_pos (by omega), e2, if_neg (by omega)]
    | succ dd ih =>
      intro i hi
      have hl := wayN_le p d i
      refine Ev.step (fun k => by
        simp only [woggleref05_Ways.l0]
        rw [e1, if_pos (by omega), e2, if_pos (by omega)]) ?_
      refine Ev.bind (rsides_ev p.length i (by omega) (Nat.lt_of_lt_of_le (show i < 8192 by omega) (by decide))) ?_
      refine Ev.bind (rDiff_ev p (sidesS p.length i) ⟨g1, by omega, g3⟩ (sidesS_bits _ _) (sidesS_length _ _)) ?_
      have := ih (i + 1) (by omega)
      by_cases h : diffS p (sidesS p.length i) = d
      · simp only [if_pos h]
        rw [wrapS (by omega), wrapS (by omega)]
        rw [show wayN p d (i + 1) = wayN p d i + 1 by simp only [wayN, if_pos h]] at this
        exact this
      · simp only [if_neg h]
        rw [wrapS (by omega)]
        rw [show wayN p d (i + 1) = wayN p d i by simp only [wayN, if_neg h, Nat.add_zero]] at this
        exact this
  exact key M 0 (by omega)
end Go.Proofs.Ytepgcdjbhmpioaa.Fi
