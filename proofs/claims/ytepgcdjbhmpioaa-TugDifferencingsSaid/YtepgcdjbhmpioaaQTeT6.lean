/- The small functions of the reference and the examples, in plain words. -/
import Derived.Test.YtepgcdjbhmpioaaQTeT5
import Derived.Test.YtepgcdjbhmpioaaQTeHv
import Derived.Test.YtepgcdjbhmpioaaQTeFi1
import Derived.Test.YtepgcdjbhmpioaaQTeFi0
namespace Go.Proofs.Ytepgcdjbhmpioaa.Fi
open Go.RowKit Go.Proofs.YtepgcdjbhmpioaaW.PrintWords Go.Proofs.YtepgcdjbhmpioaaW.PrintLast Go.Proofs.YtepgcdjbhmpioaaW.PrintMore
set_option linter.unusedVariables false
theorem lives_ev : Ev (fun k => wogglelaw05_lives.f k) true := Ev.now _
theorem lives_then : Ev (fun k => (wogglelaw05_lives.f k).bind fun t => some t) true := Ev.bind lives_ev (Ev.now _)
theorem cut_is (l : List Int) (hl : l.length ≤ 17592186043904) : wogglelaw05_cut.f l 14 = some (l.take 15) := by
  unfold wogglelaw05_cut.f mn
  by_cases h : (l.length : Int) > 14
  · rw [if_pos h]
    have e : (if (15 : Int) < (l.length : Int) then (15 : Int) else (l.length : Int)).toNat = min l.length 15 := by split <;> omega
    have e2 : (if (15 : Int) < (l.length : Int) then (15 : Int) else (l.length : Int)) = ((min l.length 15 : Nat) : Int) := by split <;> omega
    simp only [Option.bind_some, e2, Int.toNat_natCast, List.nil_append]
    rw [if_pos (by omega), if_pos (by omega), if_pos (by simp; omega)]
    congr 1
    rcases Nat.lt_or_ge l.length 15 with h1 | h1
    · rw [List.take_of_length_le (by omega), List.take_of_length_le (by omega)]
    · rw [Nat.min_eq_right h1]
  · rw [if_neg h]
    have e2 : (if (14 : Int) < (l.length : Int) then (14 : Int) else (l.length : Int)) = ((l.length : Nat) : Int) := by split <;> omega
    simp only [Option.bind_some, e2, Int.toNat_natCast, List.nil_append]
    rw [if_pos (by omega), if_pos (by omega), if_pos (by simp; omega), List.take_of_length_le (by omega), List.take_of_length_le (by omega)]
theorem pulls_ev (m : Nat) (l : List Int) (hl : l.length ≤ 1000) : Ev (fun k => woggleref05_Pulls.f k l (m : Int)) (chk m l) := by
  unfold woggleref05_Pulls.f
  by_cases h1 : l.length > m
  · simp only [if_pos (show (l.length : Int) > (m : Int) by omega)]
    have : chk m l = 3 := by unfold chk; rw [if_pos h1]
    rw [this]
    exact Ev.now _
  · simp only [if_neg (show ¬ (l.length : Int) > (m : Int) by omega)]
    have key : ∀ d i : Nat, i + d = l.length → (∀ j, j < i → 1 ≤ l.getD j 0 ∧ l.getD j 0 ≤ 1000000) → Ev (fun k => woggleref05_Pulls.l0 k l (i : Int)) (chk m l) := by
      intro d
      induction d with
      | zero =>
        intro i hi hall
        obtain rfl : i = l.length := by omega
        refine Ev.step (f := fun _ => some (chk m l)) (fun k => ?_) (Ev.now _)
        simp only [woggleref05_Pulls.l0]
        rw [if_neg (by omega)]
        by_cases h0 : l.length = 0
        · rw [if_pos (by omega)]
          unfold chk
          rw [if_neg h1, if_neg (fun h => by have := h.1; omega)]
        · rw [if_neg (by omega), chk_ok ⟨by omega, by omega, fun x hx => by
            obtain ⟨j, hj, rfl⟩ := List.getElem_of_mem hx
            have := hall j hj
            rwa [List.getD_eq_getElem?_getD, List.getElem?_eq_getElem hj] at this⟩]
      | succ d ih =>
        intro i hi hall
        have hin : i < l.length := by omega
        by_cases hx : 1 ≤ rd l (i : Int) ∧ rd l (i : Int) ≤ 1000000
        · refine Ev.step (fun k => ?_) (ih (i + 1) (by omega) (fun j hj => by
            rcases Nat.lt_or_ge j i with h | h
            · exact hall j h
            · obtain rfl : j = i := by omega
              exact hx))
          simp only [woggleref05_Pulls.l0, woggleref05_in.f]
          rw [if_pos (by omega), if_pos (by omega), if_pos (by omega), Option.bind_some, if_pos (decide_eq_true hx.2), wrapS (by omega)]
          rfl
        · refine Ev.step (f := fun _ => some (chk m l)) (fun k => ?_) (Ev.now _)
          have hc : chk m l = 1 := by
            unfold chk
            rw [if_neg h1, if_neg (fun h => hx (h.2.2 _ (getD_mem hin)))]
          simp only [woggleref05_Pulls.l0, woggleref05_in.f]
          rw [if_pos (by omega), if_pos (by omega), hc]
          by_cases h2 : rd l (i : Int) ≥ 1
          · rw [if_pos h2, Option.bind_some, if_neg (by simp; omega)]
          · rw [if_neg h2, Option.bind_some, if_neg (by simp)]
    exact key l.length 0 (by omega) (fun j hj => by omega)
end Go.Proofs.Ytepgcdjbhmpioaa.Fi
