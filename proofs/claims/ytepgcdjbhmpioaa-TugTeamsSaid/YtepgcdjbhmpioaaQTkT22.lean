/- The law TugTeams in plain words. -/
import Derived.Test.YtepgcdjbhmpioaaQTkT20
import Derived.Test.YtepgcdjbhmpioaaQTkFi7
namespace Go.Proofs.Ytepgcdjbhmpioaa.Fi
open Go.RowKit Go.Proofs.YtepgcdjbhmpioaaW.PrintWords Go.Proofs.YtepgcdjbhmpioaaW.PrintLast Go.Proofs.YtepgcdjbhmpioaaW.PrintMore
set_option linter.unusedVariables false
theorem teams_tried {k : Nat} (hk : 1 ≤ k) {l : List Int} (hl : ∀ x ∈ l, 0 ≤ x) : tryT k (fun _ => 0) l [] (-1, []) (allT k l.length) = teamsS k l := by
  have hz : ∀ j, (List.replicate k (0 : Int)).getD j 0 = 0 := fun j => by
    rw [List.getD_eq_getElem?_getD, List.getElem?_replicate]
    split <;> rfl
  unfold teamsS
  rw [asgS_spec k hk l [] _ 0 (-1, []) (by simp) (by omega) hl (fun j => by rw [hz]; omega) (fun j _ => hz j), funext hz]
theorem TugTeams_j1 (l : List Int) (a : Int) (hl : l.length ≤ 11) : Ev (fun k => wogglelaw05_TugTeams.j1 k a l) true := by
  refine Ev.step (f := fun k => (tug_Teams.f l a).bind fun bt190 => ((wogglelaw05_why.f k l 10 a).bind fun t195 => (if t195 = 0 then ((woggleref05_Teams.f l a).bind fun t197 => ((woggleref05_Load.f k l t197 a).bind fun t200 => (if bt190.1 = t200 then ((woggleref01_Same.f k bt190.2.1 t197).bind fun t201 => (if t201 = true then (if bt190.2.2 = 0 then ((wogglelaw05_lives.f k).bind fun t202 => (some t202)) else (some false)) else (some false))) else (some false)))) else (if bt190.1 = 0 then (if (bt190.2.1.length : Int) = 0 then (if bt190.2.2 = t195 then ((wogglelaw05_lives.f k).bind fun t196 => (some t196)) else (some false)) else (some false)) else (some false))))) (fun k => ?_) ?_
  · simp only [wogglelaw05_TugTeams.j1]
  by_cases h0 : chk 10 l = 0 ∧ 1 ≤ a ∧ a ≤ 4
  · obtain ⟨h0, h1, h2⟩ := h0
    have hok := chk_zero h0
    obtain ⟨K, rfl⟩ := Int.eq_ofNat_of_zero_le (show 0 ≤ a by omega)
    have hK : 1 ≤ K ∧ K ≤ 4 := by omega
    have e1 : tug_Teams.f l (K : Int) = some ((teamsS K l).1, toZ (teamsS K l).2, 0) := by
      unfold tug_Teams.f
      rw [if_pos h0, if_pos (by omega), Int.toNat_natCast]
    have e2 : woggleref05_Teams.f l (K : Int) = some (toZ (teamsS K l).2) := by
      unfold woggleref05_Teams.f
      rw [if_pos ⟨hok, by omega, by omega⟩, Int.toNat_natCast, teams_tried hK.1 hok.nonneg]
    obtain ⟨t1, t2, _⟩ := teams_spec hK.1 hok.nonneg
    obtain ⟨a1, a2⟩ := allT_mem.1 t2
    have t5 : (teamsS K l).1 = loadT K l (teamsS K l).2 := congrArg Prod.fst t1
    simp only [e1, e2, Option.bind_some]
    refine Ev.bind (why_ev 10 l (K : Int) (by omega)) ?_
    have e3 : whyS 10 l (K : Int) = 0 := by unfold whyS; rw [if_pos h0, if_pos (by omega)]
    simp only [if_pos e3]
    refine Ev.bind (rLoad_ev K l (teamsS K l).2 hK (hok.widen (by omega)) a1 a2) ?_
    simp only [if_pos t5]
    refine Ev.bind (same_ev _ (by rw [toZ_length, a1]; omega)) ?_
    simp only [if_true]
    exact lives_then
  · have hw : whyS 10 l a ≠ 0 := by
      unfold whyS
      by_cases h : chk 10 l = 0
      · rw [if_pos h, if_neg (fun h' => h0 ⟨h, h'⟩)]; decide
      · rw [if_neg h]; exact h
    have e1 : tug_Teams.f l a = some (0, [], whyS 10 l a) := by
      unfold tug_Teams.f whyS
      by_cases h : chk 10 l = 0
      · rw [if_pos h, if_neg (fun h' => h0 ⟨h, h'⟩), if_pos h, if_neg (fun h' => h0 ⟨h, h'⟩)]
      · rw [if_neg h, if_neg h]
    simp only [e1, Option.bind_some]
    refine Ev.bind (why_ev 10 l a (by omega)) ?_
    simp only [if_neg hw, if_true, List.length_nil, if_pos (show ((0 : Nat) : Int) = 0 from rfl)]
    exact lives_then
theorem TugTeams_ev (x : List Int) (a : Int) (hx : x.length ≤ 17592186043904) : Ev (fun k => wogglelaw05_TugTeams.f k x a) true := by
  unfold wogglelaw05_TugTeams.f
  have e2 : mn (x.length : Int) 11 = ((min x.length 11 : Nat) : Int) := by unfold mn; split <;> omega
  obtain ⟨l, hl⟩ : ∃ l, l = x.take (min x.length 11) := ⟨_, rfl⟩
  have hll : l.length ≤ 11 := by rw [hl, List.length_take]; omega
  simp only [e2, Int.toNat_natCast, ← hl, Option.bind_some, List.nil_append]
  simp only [if_pos (show (0 : Int) ≤ ((min x.length 11 : Nat) : Int) by omega), if_pos (show ((min x.length 11 : Nat) : Int) ≤ (x.length : Int) by omega), if_pos (show ([] : List Int).length + l.length < 17592186044416 by simp; omega)]
  by_cases h7 : (l.length : Int) > 7
  · simp only [if_pos h7]
    by_cases h10 : (l.length : Int) ≤ 10
    · refine Ev.step (f := fun k => wogglelaw05_TugTeams.j1 k a (l.take 7)) (fun k => ?_) (TugTeams_j1 _ a (by rw [List.length_take]; omega))
      simp only [wogglelaw05_TugTeams.j0]
      rw [decide_eq_true h10, if_pos rfl, if_pos (by omega)]
      rfl
    · refine Ev.step (f := fun k => wogglelaw05_TugTeams.j1 k a l) (fun k => ?_) (TugTeams_j1 _ a hll)
      simp only [wogglelaw05_TugTeams.j0]
      rw [decide_eq_false h10, if_neg (by decide)]
  · simp only [if_neg h7]
    refine Ev.step (f := fun k => wogglelaw05_TugTeams.j1 k a l) (fun k => ?_) (TugTeams_j1 _ a hll)
    simp only [wogglelaw05_TugTeams.j0]
    rw [if_neg (by decide)]
theorem TugTeams_pure : wogglelaw05_TugTeams.Pure := by
  intro l0 a1 h1 h2 _ _
  exact (TugTeams_ev l0 a1 (by omega)).rounds
end Go.Proofs.Ytepgcdjbhmpioaa.Fi
