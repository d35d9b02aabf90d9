/- The small functions of the reference and the examples, in plain words. -/
import Derived.Test.YtepgcdjbhmpioaaQTlT5
import Derived.Test.YtepgcdjbhmpioaaQTlHv
import Derived.Test.YtepgcdjbhmpioaaQTlFi1
import Derived.Test.YtepgcdjbhmpioaaQTlFi2
namespace Go.Proofs.Ytepgcdjbhmpioaa.Fi
open Go.RowKit Go.Proofs.YtepgcdjbhmpioaaW.PrintWords Go.Proofs.YtepgcdjbhmpioaaW.PrintLast Go.Proofs.YtepgcdjbhmpioaaW.PrintMore
set_option linter.unusedVariables false
theorem lives_ev : Ev (fun k => wogglelaw05_lives.f k) true := Ev.now _
/-- Whether a list is sides of n pulls. -/
def sdB (n : Nat) (s : List Int) : Bool := decide (s.length = n ∧ 1 ≤ n ∧ (∀ b ∈ s, b = 0 ∨ b = 1) ∧ s.getD 0 0 = 0)
theorem sdB_iff (n : Nat) (s : List Int) : sdB n s = true ↔ s.length = n ∧ 1 ≤ n ∧ Bits s ∧ s.getD 0 0 = 0 := by unfold sdB Bits; rw [decide_eq_true_iff]
theorem rSides_ev (n : Nat) (s : List Int) (hl : s.length ≤ 1000) : Ev (fun k => woggleref05_Sides.f k (n : Int) s) (sdB n s) := by
  unfold woggleref05_Sides.f
  have key : ∀ d i : Nat, i + d = s.length → (∀ j, j < i → s.getD j 0 = 0 ∨ s.getD j 0 = 1) → Ev (fun k => woggleref05_Sides.l0 k (n : Int) s (i : Int)) (sdB n s) := by
    intro d
    induction d with
    | zero =>
      intro i hi hall
      obtain rfl : i = s.length := by omega
      have hb : Bits s := fun x hx => by
        obtain ⟨j, hj, rfl⟩ := List.getElem_of_mem hx
        have := hall j hj
        rwa [List.getD_eq_getElem?_getD, List.getElem?_eq_getElem hj] at this
      refine Ev.step (f := fun _ => some (sdB n s)) (fun k => ?_) (Ev.now _)
      simp only [woggleref05_Sides.l0]
      rw [if_neg (by omega)]
      by_cases h1 : s.length = n
      · rw [if_pos (by omega)]
        by_cases h2 : 1 ≤ n
        · rw [if_pos (by omega), if_pos (by omega)]
          congr 1
          rw [Bool.eq_iff_iff, beq_iff_eq, sdB_iff]
          exact ⟨fun h => ⟨h1, h2, hb, h⟩, fun h => h.2.2.2⟩
        · rw [if_neg (by omega)]
          congr 1
          have : ¬ sdB n s = true := fun h => h2 ((sdB_iff n s).1 h).2.1
          rw [Bool.not_eq_true] at this
          exact this.symm
      · rw [if_neg (by omega)]
        congr 1
        have : ¬ sdB n s = true := fun h => h1 ((sdB_iff n s).1 h).1
        rw [Bool.not_eq_true] at this
        exact this.symm
    | succ d ih =>
      intro i hi hall
      have hin : i < s.length := by omega
      by_cases hx : rd s (i : Int) = 0 ∨ rd s (i : Int) = 1
      · refine Ev.step (fun k => ?_) (ih (i + 1) (by omega) (fun j hj => by
          rcases Nat.lt_or_ge j i with h | h
          · exact hall j h
          · obtain rfl : j = i := by omega
            exact hx))
        simp only [woggleref05_Sides.l0, woggleref05_in.f]
        rw [if_pos (by omega), if_pos (by omega), if_pos (by omega), Option.bind_some, if_pos (decide_eq_true (by omega)), wrapS (by omega)]
        rfl
      · refine Ev.step (f := fun _ => some (sdB n s)) (fun k => ?_) (Ev.now _)
        have hc : sdB n s = false := by
          have : ¬ sdB n s = true := fun h => hx (((sdB_iff n s).1 h).2.2.1 _ (getD_mem hin))
          rwa [Bool.not_eq_true] at this
        simp only [woggleref05_Sides.l0, woggleref05_in.f]
        rw [if_pos (by omega), if_pos (by omega), hc]
        by_cases h2 : rd s (i : Int) ≥ 0
        · rw [if_pos h2, Option.bind_some, if_neg (by simp; omega)]
        · rw [if_neg h2, Option.bind_some, if_neg (by simp)]
  exact key s.length 0 (by omega) (fun j hj => by omega)
theorem rDiff_ev (p s : List Int) (hp : OkL 50 p) (hs : Bits s) (hl : s.length = p.length) : Ev (fun k => woggleref05_Difference.f k p s) (diffS p s) := by
  obtain ⟨hp1, hp2, hp3⟩ := hp
  unfold woggleref05_Difference.f
  have key : ∀ d i : Nat, i + d = p.length → Ev (fun k => woggleref05_Difference.l0 k p s (sgn (p.take i) (s.take i)) (i : Int)) (diffS p s) := by
    intro d
    induction d with
    | zero =>
      intro i hi
      obtain rfl : i = p.length := by omega
      have hb := sgn_bound hp3 hs p.length (Nat.le_refl _) (by omega)
      refine Ev.step (f := fun _ => some (diffS p s)) (fun k => ?_) (Ev.now _)
      simp only [woggleref05_Difference.l0]
      rw [if_neg (by omega), mx_is, wrapS (by omega), List.take_length, List.take_of_length_le (by omega)]
      rfl
    | succ d ih =>
      intro i hi
      have hb := sgn_bound hp3 hs i (by omega) (by omega)
      have hb' := sgn_bound hp3 hs (i + 1) (by omega) (by omega)
      have a := hp3 _ (getD_mem (l := p) (i := i) (by omega))
      have b := hs _ (getD_mem (l := s) (i := i) (by omega))
      refine Ev.step (fun k => ?_) (ih (i + 1) (by omega))
      simp only [woggleref05_Difference.l0, rdN]
      have e2 : wrap64 (2 * s.getD i 0) = 2 * s.getD i 0 := wrapS (by rcases b with b | b <;> rw [b] <;> omega)
      have e3 : wrap64 (1 - 2 * s.getD i 0) = 1 - 2 * s.getD i 0 := wrapS (by rcases b with b | b <;> rw [b] <;> omega)
      have e4 : wrap64 (p.getD i 0 * (1 - 2 * s.getD i 0)) = p.getD i 0 * (1 - 2 * s.getD i 0) := wrapS (by rcases b with b | b <;> rw [b] <;> omega)
      rw [sgn_snoc p s i (by omega) (by omega)] at hb'
      rw [if_pos (by omega), if_pos (by omega), if_pos (by omega), e2, e3, e4, wrapS (by omega), wrapS (by omega), sgn_snoc p s i (by omega) (by omega)]
      rfl
  have := key p.length 0 (by omega)
  simpa [sgn] using this
end Go.Proofs.Ytepgcdjbhmpioaa.Fi
