/- The law TugGraham in plain words. -/
import Derived.Test.YtepgcdjbhmpioaaQTgT18
import Derived.Test.YtepgcdjbhmpioaaQTgFi20
namespace Go.Proofs.Ytepgcdjbhmpioaa.Fi
open Go.RowKit Go.Proofs.YtepgcdjbhmpioaaW.PrintWords Go.Proofs.YtepgcdjbhmpioaaW.PrintLast Go.Proofs.YtepgcdjbhmpioaaW.PrintMore
set_option linter.unusedVariables false
theorem bound_fi {l : List Int} {k : Nat} (h : OkL 14 l) (hk : 1 ≤ k ∧ k ≤ 4) : tug_Bound.f l (k : Int) = some (boundS k l, 0) := by
  unfold tug_Bound.f
  rw [if_pos (chk_ok h), if_pos (by omega), Int.toNat_natCast]
theorem teams_ok {l : List Int} {k : Nat} (h : OkL 10 l) (hk : 1 ≤ k ∧ k ≤ 4) : tug_Teams.f l (k : Int) = some ((teamsS k l).1, toZ (teamsS k l).2, 0) := by
  unfold tug_Teams.f
  rw [if_pos (chk_ok h), if_pos (by omega), Int.toNat_natCast]
theorem greedy_fin {l : List Int} {k : Nat} (h : OkL 14 l) (hk : 1 ≤ k ∧ k ≤ 4) : tug_Greedy.f l (k : Int) = some (maxT (greedyS k l).2 k, (greedyS k l).1, 0) := by
  unfold tug_Greedy.f
  rw [if_pos (chk_ok h), if_pos (by omega), Int.toNat_natCast]
theorem TugGraham_ev (x : List Int) (a : Int) (hx : ∀ v ∈ x, 0 ≤ v ∧ v ≤ 65535) (ha : 0 ≤ a ∧ a ≤ 255) : Ev (fun k => wogglelaw05_TugGraham.f k x a) true := by
  unfold wogglelaw05_TugGraham.f
  refine Ev.bind (made_ev x 8 (by omega) hx) ?_
  obtain ⟨l, hl⟩ : ∃ l, l = madeS x 8 := ⟨_, rfl⟩
  have hok : OkL 8 l := by rw [hl]; exact made_ok hx (by omega)
  rw [← hl]
  have e1 : wrap64 a = a := wrapS (by omega)
  obtain ⟨K, hK1, hK⟩ : ∃ K : Nat, (1 ≤ K ∧ K ≤ 4) ∧ wrap64 (Int.tmod a 4 + 1) = (K : Int) := by
    rw [Int.tmod_eq_emod_of_nonneg ha.1, wrapS (by omega)]
    exact ⟨(a % 4 + 1).toNat, by omega, by omega⟩
  have h50 := hok.widen (k := 50) (by omega)
  obtain ⟨t1, t2, t3⟩ := teams_spec hK1.1 hok.nonneg
  have t4 := teams_low hK1.1 hok.nonneg
  obtain ⟨us, g1, g2, g3⟩ := greedy_teams hK1.1 hok.1 hok.nonneg
  have b1 := bound_le hK1 hok.1 hok.nonneg t4
  have b2 := graham hK1 hok.1 (fun y hy => (hok.2.2 y hy).1) t4
  obtain ⟨a1, a2⟩ := allT_mem.1 t2
  obtain ⟨a3, a4⟩ := allT_mem.1 g2
  have b3 := t3 us g2
  have l1 := load_small (k := K) h50 a1
  have l2 := load_small (k := K) h50 a3
  have t5 : loadT K l (teamsS K l).2 = (teamsS K l).1 := (congrArg Prod.fst t1).symm
  rw [t5] at l1
  rw [← g3] at l2 b3
  have hlen := hok.2.1
  simp only [e1, hK, teams_ok (hok.widen (by omega)) hK1, greedy_fin (hok.widen (by omega)) hK1, bound_fi (hok.widen (by omega)) hK1, Option.bind_some, if_true, g1]
  refine Ev.bind (isTeams_ev K l.length (teamsS K l).2 hK1 (by omega) a1 a2) ?_
  simp only [if_true]
  refine Ev.bind (isTeams_ev K l.length us hK1 (by omega) a3 a4) ?_
  simp only [if_true]
  refine Ev.bind (rLoad_ev K l (teamsS K l).2 hK1 h50 a1 a2) ?_
  simp only [if_pos t5]
  refine Ev.bind (rLoad_ev K l us hK1 h50 a3 a4) ?_
  simp only [if_pos g3.symm, if_pos b1, if_pos b3]
  have c1 : wrap64 (3 * (K : Int)) = 3 * (K : Int) := wrapS (by omega)
  have c2 : wrap64 (4 * (K : Int)) = 4 * (K : Int) := wrapS (by omega)
  have c3 : wrap64 (4 * (K : Int) - 1) = 4 * (K : Int) - 1 := wrapS (by omega)
  have c4 : wrap64 (3 * (K : Int) * maxT (greedyS K l).2 K) = 3 * (K : Int) * maxT (greedyS K l).2 K := by
    rcases (show K = 1 ∨ K = 2 ∨ K = 3 ∨ K = 4 by omega) with h | h | h | h <;> rw [h] at l2 ⊢ <;> exact wrapS (by omega)
  have c5 : wrap64 ((4 * (K : Int) - 1) * (teamsS K l).1) = (4 * (K : Int) - 1) * (teamsS K l).1 := by
    rcases (show K = 1 ∨ K = 2 ∨ K = 3 ∨ K = 4 by omega) with h | h | h | h <;> rw [h] at l1 ⊢ <;> exact wrapS (by omega)
  simp only [c1, c2, c3, c4, c5, if_pos b2]
  exact lives_then
theorem TugGraham_pure : wogglelaw05_TugGraham.Pure := by
  intro l0 a1 h1 h2 h3 h4
  exact (TugGraham_ev l0 a1 (u16_made h3) (u8_nat h4)).rounds
end Go.Proofs.Ytepgcdjbhmpioaa.Fi
