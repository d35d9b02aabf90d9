/- Teams and their loads in plain words: the least load depends neither on the order nor, but for the factor, on the scale; the greedy load likewise. -/
import Derived.Test.YtepgcdjbhmpioaaQTkT11
import Derived.Test.YtepgcdjbhmpioaaQTkH4b
namespace Go.Proofs.Ytepgcdjbhmpioaa.Fi
open Go.RowKit Go.Sort Go.Proofs.YtepgcdjbhmpioaaW.PrintWords Go.Proofs.YtepgcdjbhmpioaaW.PrintLast Go.Proofs.YtepgcdjbhmpioaaW.PrintMore
set_option linter.unusedVariables false
theorem tryT_in {k : Nat} {S : Nat → Int} {ps : List Int} {pre : List Nat} : ∀ (L : List (List Nat)) (acc : Int × List Nat), tryT k S ps pre acc L = acc ∨ ∃ ts ∈ L, tryT k S ps pre acc L = (ldT k S ps ts, pre ++ ts)
  | [], acc => .inl rfl
  | ts :: L, acc => by
    have ih := tryT_in (k := k) (S := S) (ps := ps) (pre := pre) L (betT acc (ldT k S ps ts, pre ++ ts))
    rcases ih with ih | ⟨us, h1, h2⟩
    · change tryT k S ps pre acc (ts :: L) = _ at ih
      unfold betT at ih
      split at ih
      · exact .inr ⟨ts, by simp, ih⟩
      · exact .inl ih
    · exact .inr ⟨us, by simp [h1], h2⟩
/-- The greatest of the teams' loads. -/
def loadT (k : Nat) (l : List Int) (ts : List Nat) : Int := maxF k (tot l ts)
theorem loadT_is (k : Nat) (l : List Int) (ts : List Nat) : ldT k (fun _ => 0) l ts = loadT k l ts := maxF_congr fun j _ => Int.zero_add _
theorem teams_spec {k : Nat} (hk : 1 ≤ k) {l : List Int} (hl : ∀ x ∈ l, 0 ≤ x) : teamsS k l = (loadT k l (teamsS k l).2, (teamsS k l).2) ∧ (teamsS k l).2 ∈ allT k l.length ∧ ∀ us ∈ allT k l.length, (teamsS k l).1 ≤ loadT k l us := by
  have hz : ∀ j, (List.replicate k (0 : Int)).getD j 0 = 0 := fun j => by
    rw [List.getD_eq_getElem?_getD, List.getElem?_replicate]
    split <;> rfl
  have e : teamsS k l = tryT k (fun _ => 0) l [] (-1, []) (allT k l.length) := by
    unfold teamsS
    rw [asgS_spec k hk l [] _ 0 (-1, []) (by simp) (by omega) hl (fun j => by rw [hz]; omega) (fun j _ => hz j), funext hz]
  have h1 := tryT_le' (k := k) (S := fun _ => 0) (ps := l) (pre := []) (-1, []) (allT_ne hk l.length)
  rcases tryT_in (k := k) (S := fun _ => 0) (ps := l) (pre := []) (allT k l.length) (-1, []) with h2 | ⟨ts, h2, h3⟩
  · rw [h2] at h1
    exact absurd h1.1 (by decide)
  · rw [← e] at h3 h1
    rw [List.nil_append, loadT_is] at h3
    have e2 : (teamsS k l).2 = ts := by rw [h3]
    refine ⟨by rw [e2]; exact h3, by rw [e2]; exact h2, fun us hus => ?_⟩
    have := h1.2 us hus
    rwa [loadT_is] at this
theorem tot_snoc (x : Int) (t j : Nat) : ∀ (p : List Int) (ts : List Nat), ts.length = p.length → tot (p ++ [x]) (ts ++ [t]) j = tot p ts j + if t = j then x else 0
  | [], [], _ => by simp [tot]
  | [], _ :: _, h => by simp at h
  | _ :: _, [], h => by simp at h
  | a :: p, u :: ts, h => by
    rw [List.cons_append, List.cons_append, tot, tot, tot_snoc x t j p ts (by simpa using h), Int.add_assoc]
end Go.Proofs.Ytepgcdjbhmpioaa.Fi
