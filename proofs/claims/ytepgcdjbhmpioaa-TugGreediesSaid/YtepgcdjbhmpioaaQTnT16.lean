/- Graham's bound of the greedy load, and the lower bounds of every load: plain. -/
import Derived.Test.YtepgcdjbhmpioaaQTnT12
namespace Go.Proofs.Ytepgcdjbhmpioaa.Fi
open Go.RowKit Go.Proofs.YtepgcdjbhmpioaaW.PrintWords Go.Proofs.YtepgcdjbhmpioaaW.PrintLast Go.Proofs.YtepgcdjbhmpioaaW.PrintMore
set_option linter.unusedVariables false
theorem tot_take : ∀ (m : Nat) (p : List Int) (ts : List Nat) (j : Nat), (∀ x ∈ p, 0 ≤ x) → tot (p.take m) (ts.take m) j ≤ tot p ts j
  | 0, p, ts, j, h => by
    rw [List.take_zero]
    exact tot_nonneg ts j h
  | m + 1, [], ts, j, _ => by simp [tot]
  | m + 1, a :: p, [], j, h => by simp [tot]
  | m + 1, a :: p, t :: ts, j, h => by
    have := tot_take m p ts j (fun x hx => h x (by simp [hx]))
    rw [List.take_succ_cons, List.take_succ_cons, tot, tot]
    omega
theorem minAt_spec {s : List Int} (h : 1 ≤ s.length) : minAt s < s.length ∧ ∀ j, j < s.length → s.getD (minAt s) 0 ≤ s.getD j 0 := by
  obtain ⟨h1, h2⟩ := minT_spec (l := s) (by omega)
  have h3 : minAt s < s.length := List.idxOf_lt_length_iff.2 h2
  refine ⟨h3, fun j hj => ?_⟩
  have e : s.getD (minAt s) 0 = minT s s.length := by
    rw [List.getD_eq_getElem?_getD, List.getElem?_eq_getElem h3]
    exact List.getElem_idxOf h3
  rw [e]
  exact h1 _ (getD_mem hj)
theorem take_succ_getD (l : List Int) (i : Nat) (h : i < l.length) : l.take (i + 1) = l.take i ++ [l.getD i 0] := by
  rw [List.take_add_one, List.getElem?_eq_getElem h, List.getD_eq_getElem?_getD, List.getElem?_eq_getElem h]
  rfl
theorem maxT_at {s : List Int} {k : Nat} (hl : s.length = k) (hk : 1 ≤ k) : ∃ j, j < k ∧ maxT s k = s.getD j 0 := by
  obtain ⟨_, h2⟩ := maxT_spec (l := s) (by omega)
  rw [hl] at h2
  obtain ⟨j, hj, e⟩ := List.getElem_of_mem h2
  refine ⟨j, by omega, ?_⟩
  rw [← e, List.getD_eq_getElem?_getD, List.getElem?_eq_getElem hj]
  rfl
end Go.Proofs.Ytepgcdjbhmpioaa.Fi
