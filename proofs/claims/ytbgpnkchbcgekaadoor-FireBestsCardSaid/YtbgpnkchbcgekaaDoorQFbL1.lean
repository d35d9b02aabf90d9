/- The law FireBests in plain words. -/
import Derived.Test.YtbgpnkchbcgekaaDoorQFbP7
import Derived.Test.YtbgpnkchbcgekaaDoorQFbFi9
namespace Go.Proofs.YtbgpnkchbcgekaaDoor.Fi
open Go.RowKit Go.Proofs.YtbgpnkchbcgekaaDoorW.PrintWords Go.Proofs.YtbgpnkchbcgekaaDoorW.PrintLast Go.Proofs.YtbgpnkchbcgekaaDoorW.PrintMore Wog
set_option linter.unusedVariables false
theorem lives_best : fire_Best.f 4 ([(⟨0, 1⟩ : S42), (⟨1, 2⟩ : S42), (⟨2, 3⟩ : S42)] : List (S42)) 1 = some (2, [2], 0) := by decide +kernel
theorem lives_play : fire_Play.f 4 ([(⟨0, 1⟩ : S42), (⟨1, 2⟩ : S42), (⟨2, 3⟩ : S42)] : List (S42)) 1 [2] = some ([[0]], 0) := by decide +kernel
theorem lives_burning : fire_Burning.f 4 ([(⟨0, 1⟩ : S42), (⟨1, 2⟩ : S42), (⟨2, 3⟩ : S42)] : List (S42)) = some ([1, 3], 0) := by decide +kernel
theorem lives_ev : Ev (fun k => wogglelaw06_lives.f k) true := by
  unfold wogglelaw06_lives.f
  simp only [Option.bind_some, lives_best, lives_play, lives_burning, if_true]
  refine Ev.bind (same_ev [2] (by simp)) ?_
  simp only [if_true]
  refine Ev.bind (sameLists_ev [[0]] (by simp) (by simp)) ?_
  simp only [if_true]
  refine Ev.bind (same_ev [1, 3] (by simp)) ?_
  simp only [if_true]
  exact Ev.now _
theorem bestR_len {n : Int} {l : List S42} {f : Int} (h : GoodG n l) (h0 : 0 ≤ f) (hf : f < n) : (bestR n l f).2.length ≤ 30 := by
  have := bestR_is h h0 hf
  exact bestF_len this
theorem rbestR_ev {n : Int} {l : List S42} {f : Int} (h : GoodG n l) (h0 : 0 ≤ f) (hf : f < n) : Ev (fun k => woggleref06_Best.f k (toI (nearS n.toNat l)) (shl .i64 1 f) 0) (bestR n l f) := by
  have hl := nearS_length n.toNat l
  have h4 := h.2.2.2
  obtain ⟨q, hq⟩ := Int.eq_ofNat_of_zero_le h0
  have k := rbest_ev (nearS n.toNat l) (by rw [hl]; have := h.2.1; omega) (by rw [hl]; exact nearS_lt h4) 30 (2 ^ f.toNat) 0 _ (by omega) (by rw [hl]; exact Nat.pow_lt_pow_right (by omega) (by omega)) (Nat.two_pow_pos _) (fun i _ => by simp) (bestR_is h h0 hf)
  subst hq
  rw [shl64 q (by have := h.2.1; omega)]
  exact k
theorem FireBests_ev (n : Int) (l : List S42) (f : Int) (hn : n < 2 ^ 63) : Ev (fun k => wogglelaw06_FireBests.f k n l f) true := by
  unfold wogglelaw06_FireBests.f
  simp only [few_is, Option.bind_some]
  obtain ⟨e, he⟩ : ∃ e, e = l.take 61 := ⟨_, rfl⟩
  have hel : e.length ≤ 61 := by rw [he]; simp; omega
  rw [← he]
  clear he
  unfold fire_Best.f
  have bad : ¬ (GoodG n e ∧ 0 ≤ f ∧ f < n) → Ev (fun k => wogglelaw06_FireBests.j0 k f n e 0 [] 1 true) true := by
    intro _
    refine Ev.step (f := fun k => (wogglelaw06_lives.f k).bind fun t => some t) (fun k => ?_) ?_
    · simp only [wogglelaw06_FireBests.j0]
      simp
    · exact Ev.bind lives_ev (Ev.now _)
  by_cases hg : GoodG n e ∧ 0 ≤ f ∧ f < n
  · rw [if_pos hg]
    simp only [Option.bind_some]
    refine Ev.bind (graph_ev n e (by omega) hn) ?_
    simp only [hg.1, decide_true, if_true]
    simp only [if_neg (show ¬ f < 0 by omega)]
    have hge : decide (f ≥ n) = false := by simp; omega
    simp only [hge]
    refine Ev.step (f := fun k => (woggleref06_Near.f k n e).bind fun t => (woggleref06_Best.f k t (shl .i64 1 f) 0).bind fun bt => if (bestR n e f).1 = bt.1 then ((woggleref01_Same.f k (bestR n e f).2 bt.2).bind fun t => if t = true then (wogglelaw06_lives.f k).bind fun t => some t else some false) else some false) (fun k => ?_) ?_
    · simp only [wogglelaw06_FireBests.j0]
      simp [hg.2.1]
    · refine Ev.bind (near_ev n e hg.1) ?_
      refine Ev.bind (rbestR_ev hg.1 hg.2.1 hg.2.2) ?_
      simp only [if_true]
      refine Ev.bind (same_ev _ (by have := bestR_len hg.1 hg.2.1 hg.2.2; omega)) ?_
      simp only [if_true]
      exact Ev.bind lives_ev (Ev.now _)
  · rw [if_neg hg]
    simp only [Option.bind_some]
    refine Ev.bind (graph_ev n e (by omega) hn) ?_
    by_cases h1 : GoodG n e
    · simp only [h1, decide_true, if_true]
      by_cases h2 : f < 0
      · simp only [if_pos h2]; exact bad hg
      · have hge : decide (f ≥ n) = true := by
          have : ¬ (f < n) := fun h => hg ⟨h1, by omega, h⟩
          simp; omega
        simp only [if_neg h2, hge]
        exact bad hg
    · simp only [h1, decide_false, Bool.false_eq_true, if_false]
      exact bad hg
end Go.Proofs.YtbgpnkchbcgekaaDoor.Fi
