/- Teams and their loads in plain words: the least load depends neither on the order nor, but for the factor, on the scale; the greedy load likewise. -/
import Derived.Test.YtepgcdjbhmpioaaQTnT11
import Derived.Test.YtepgcdjbhmpioaaQTnH4b
namespace Go.Proofs.Ytepgcdjbhmpioaa.Fi
open Go.RowKit Go.Sort Go.Proofs.YtepgcdjbhmpioaaW.PrintWords Go.Proofs.YtepgcdjbhmpioaaW.PrintLast Go.Proofs.YtepgcdjbhmpioaaW.PrintMore
set_option linter.unusedVariables false
/-- The greatest of the teams' loads. -/
def loadT (k : Nat) (l : List Int) (ts : List Nat) : Int := maxF k (tot l ts)
theorem tot_snoc (x : Int) (t j : Nat) : ∀ (p : List Int) (ts : List Nat), ts.length = p.length → tot (p ++ [x]) (ts ++ [t]) j = tot p ts j + if t = j then x else 0
  | [], [], _ => by simp [tot]
  | [], _ :: _, h => by simp at h
  | _ :: _, [], h => by simp at h
  | a :: p, u :: ts, h => by
    rw [List.cons_append, List.cons_append, tot, tot, tot_snoc x t j p ts (by simpa using h), Int.add_assoc]
theorem lt_cfP (l : List Int) (x y : Fin (l.length - 1 + 1)) : ltOf (cfP l) x y = decide (l.getD y.val 0 - l.getD x.val 0 < 0) := rfl
theorem orderS_perm {l : List Int} (h : 1 ≤ l.length) : (orderS l).Perm (List.range l.length) := by
  obtain ⟨⟨h1, _, h2⟩, _⟩ := insertionSort_holds (swoP l) (allP l) 0 (allP l).size (Nat.zero_le _) (Nat.le_refl _)
  have e1 : (Go.Sort.insertionSort (ltOf (cfP l)) (allP l) 0 (allP l).size).extract 0 (allP l).size = Go.Sort.insertionSort (ltOf (cfP l)) (allP l) 0 (allP l).size := by
    rw [Array.extract_eq_self_iff]; exact .inr ⟨rfl, by omega⟩
  have e2 : (allP l).extract 0 (allP l).size = allP l := Array.extract_size
  rw [e1, e2] at h2
  have h3 := h2.map Fin.val
  have e3 : (allP l).toList.map Fin.val = List.range l.length := by
    apply List.ext_getElem
    · simp [allP]; omega
    · intro i h4 h5
      rw [List.getElem_map, List.getElem_range, Array.getElem_toList]
      unfold allP
      rw [Array.getElem_ofFn]
      rfl
  rw [e3] at h3
  exact h3
end Go.Proofs.Ytepgcdjbhmpioaa.Fi
