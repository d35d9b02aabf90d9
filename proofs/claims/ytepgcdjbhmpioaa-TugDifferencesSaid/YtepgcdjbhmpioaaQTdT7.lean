/- The law TugDifferences in plain words. -/
import Derived.Test.YtepgcdjbhmpioaaQTdT6
import Derived.Test.YtepgcdjbhmpioaaQTdFi11
namespace Go.Proofs.Ytepgcdjbhmpioaa.Fi
open Go.RowKit Go.Proofs.YtepgcdjbhmpioaaW.PrintWords Go.Proofs.YtepgcdjbhmpioaaW.PrintLast Go.Proofs.YtepgcdjbhmpioaaW.PrintMore
set_option linter.unusedVariables false
theorem OkL.more {m k : Nat} {l : List Int} (h : OkL m l) (hm : m ≤ k) : OkL k l := ⟨h.1, Nat.le_trans h.2.1 hm, h.2.2⟩
theorem Difference_ev (l s : List Int) (hl : l.length ≤ 15) (hs : s.length ≤ 15) : Ev (fun k => tug_Difference.f k l s) (if chk 14 l = 0 then (if sdB l.length s = true then (diffS l s, 0) else (0, 2)) else (0, chk 14 l)) := by
  unfold tug_Difference.f
  have hc : tug_check.f l 14 = some (chk 14 l) := check_is 14 (by omega) l
  simp only [hc, Option.bind_some]
  by_cases h0 : chk 14 l = 0
  · simp only [if_pos h0]
    have hok := chk_zero h0
    by_cases h1 : s.length = l.length
    · simp only [if_pos (show (s.length : Int) = (l.length : Int) by omega), if_pos (show (0 : Int) < (s.length : Int) by have := hok.1; omega)]
      by_cases h2 : rd s 0 = 0
      · simp only [if_pos h2]
        have hpos : 0 < s.length := by have := hok.1; omega
        obtain ⟨a1, a2⟩ := minT_spec hpos
        obtain ⟨b1, b2⟩ := maxT_spec hpos
        simp only [slices_Min_int_int.f, slices_Max_int_int.f, if_pos (show 0 < s.length ∧ s.length ≤ 100000 from ⟨hpos, by omega⟩), Option.bind_some]
        by_cases h3 : minT s s.length < 0
        · simp only [if_pos h3]
          have : ¬ sdB l.length s = true := fun h => by
            have := ((sdB_iff _ _).1 h).2.2.1 _ a2
            omega
          rw [if_neg this]
          exact Ev.now _
        · simp only [if_neg h3]
          by_cases h4 : maxT s s.length > 1
          · simp only [if_pos h4]
            have : ¬ sdB l.length s = true := fun h => by
              have := ((sdB_iff _ _).1 h).2.2.1 _ b2
              omega
            rw [if_neg this]
            exact Ev.now _
          · simp only [if_neg h4]
            have hb : Bits s := fun x hx => by have := a1 x hx; have := b1 x hx; omega
            have : sdB l.length s = true := (sdB_iff _ _).2 ⟨h1, hok.1, hb, h2⟩
            rw [if_pos this]
            exact Ev.bind (diff_ev l s (hok.more (by omega)) hb h1) (Ev.now _)
      · simp only [if_neg h2]
        have : ¬ sdB l.length s = true := fun h => h2 ((sdB_iff _ _).1 h).2.2.2
        rw [if_neg this]
        exact Ev.now _
    · simp only [if_neg (show ¬ (s.length : Int) = (l.length : Int) by omega)]
      have : ¬ sdB l.length s = true := fun h => h1 ((sdB_iff _ _).1 h).1
      rw [if_neg this]
      exact Ev.now _
  · simp only [if_neg h0]
    exact Ev.now _
theorem TugDifferences_ev (x y : List Int) (hx : x.length ≤ 17592186043904) (hy : y.length ≤ 17592186043904) : Ev (fun k => wogglelaw05_TugDifferences.f k x y) true := by
  unfold wogglelaw05_TugDifferences.f
  obtain ⟨l, hl⟩ : ∃ l, l = x.take 15 := ⟨_, rfl⟩
  obtain ⟨s, hs⟩ : ∃ s, s = y.take 15 := ⟨_, rfl⟩
  have hll : l.length ≤ 15 := by rw [hl]; exact List.length_take_le _ _
  have hsl : s.length ≤ 15 := by rw [hs]; exact List.length_take_le _ _
  have e2 : mn (y.length : Int) 15 = ((min y.length 15 : Nat) : Int) := by unfold mn; split <;> omega
  have e3 : y.take (min y.length 15) = s := by
    rw [hs]
    rcases Nat.lt_or_ge y.length 15 with h1 | h1
    · rw [List.take_of_length_le (by omega), List.take_of_length_le (by omega)]
    · rw [Nat.min_eq_right h1]
  simp only [cut_is x hx, ← hl, Option.bind_some, e2, Int.toNat_natCast, e3, List.nil_append]
  simp only [if_pos (show (0 : Int) ≤ ((min y.length 15 : Nat) : Int) by omega), if_pos (show ((min y.length 15 : Nat) : Int) ≤ (y.length : Int) by omega), if_pos (show ([] : List Int).length + s.length < 17592186044416 by simp; omega)]
  refine Ev.bind (Difference_ev l s hll hsl) ?_
  refine Ev.bind (pulls_ev 14 l (by omega)) ?_
  have j1 : ∀ (a b c : Int), (c = 0 → Ev (fun k => (woggleref05_Difference.f k l s).bind fun t368 => (if a = t368 then (if b = 0 then ((wogglelaw05_lives.f k).bind fun t369 => (some t369)) else (some false)) else (some false))) true) → (c ≠ 0 → a = 0 ∧ b = c) → Ev (fun k => wogglelaw05_TugDifferences.j1 k l s a b c) true := fun a b c h1 h2 => by
    by_cases hc : c = 0
    · refine Ev.step (fun k => ?_) (h1 hc)
      simp only [wogglelaw05_TugDifferences.j1]
      rw [if_pos hc]
    · obtain ⟨ha, hb⟩ := h2 hc
      refine Ev.step (fun k => ?_) lives_then
      simp only [wogglelaw05_TugDifferences.j1]
      rw [if_neg hc, if_pos ha, if_pos hb]
  by_cases h0 : chk 14 l = 0
  · simp only [if_pos h0]
    have hok := chk_zero h0
    refine Ev.bind (rSides_ev l.length s (by omega)) ?_
    cases hsd : sdB l.length s with
    | true =>
      simp only [if_true]
      refine Ev.step (f := fun k => wogglelaw05_TugDifferences.j1 k l s (diffS l s) 0 (chk 14 l)) (fun k => ?_) ?_
      · simp only [wogglelaw05_TugDifferences.j0]
        rfl
      · refine j1 _ _ _ (fun _ => ?_) (fun h => absurd h0 h)
        obtain ⟨g1, g2, g3, g4⟩ := (sdB_iff _ _).1 hsd
        refine Ev.bind (rDiff_ev l s (hok.more (by omega)) g3 g1) ?_
        simp only [if_true]
        exact lives_then
    | false =>
      refine Ev.step (f := fun k => wogglelaw05_TugDifferences.j1 k l s 0 2 2) (fun k => ?_) ?_
      · simp only [wogglelaw05_TugDifferences.j0]
        rfl
      · exact j1 _ _ _ (fun h => absurd h (by decide)) (fun _ => ⟨rfl, rfl⟩)
  · simp only [if_neg h0]
    refine Ev.step (f := fun k => wogglelaw05_TugDifferences.j1 k l s 0 (chk 14 l) (chk 14 l)) (fun k => ?_) ?_
    · simp only [wogglelaw05_TugDifferences.j0]
      rfl
    · exact j1 _ _ _ (fun h => absurd h h0) (fun _ => ⟨rfl, rfl⟩)
theorem TugDifferences_pure : wogglelaw05_TugDifferences.Pure := by
  intro l0 l1 h1 h2 _ h3 h4 _
  exact (TugDifferences_ev l0 l1 (by omega) (by omega)).rounds
end Go.Proofs.Ytepgcdjbhmpioaa.Fi
