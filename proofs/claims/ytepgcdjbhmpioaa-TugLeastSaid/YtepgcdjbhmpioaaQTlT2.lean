/- Plain words of tug: teams. -/
import Derived.Test.YtepgcdjbhmpioaaQTlT1
namespace Go.Proofs.Ytepgcdjbhmpioaa.Fi
set_option linter.unusedVariables false
/-- The greatest of the first k numbers, at least 0. -/
def maxF (k : Nat) (S : Nat → Int) : Int := (List.range k).foldl (fun a j => max a (S j)) 0
theorem foldl_max_le (S : Nat → Int) (M : Int) : ∀ (l : List Nat) (a : Int), l.foldl (fun a j => max a (S j)) a ≤ M ↔ a ≤ M ∧ ∀ j ∈ l, S j ≤ M
  | [], a => by simp
  | x :: l, a => by
    rw [List.foldl_cons, foldl_max_le S M l]
    simp only [List.mem_cons, forall_eq_or_imp]
    rw [Int.max_le, and_assoc]
theorem maxF_le {k : Nat} {S : Nat → Int} {M : Int} : maxF k S ≤ M ↔ 0 ≤ M ∧ ∀ j, j < k → S j ≤ M := by
  unfold maxF
  rw [foldl_max_le]
  simp only [List.mem_range]
theorem maxF_ge {k j : Nat} (S : Nat → Int) (h : j < k) : S j ≤ maxF k S := (maxF_le.1 (Int.le_refl (maxF k S))).2 j h
/-- The lesser load; as many: the first. -/
def betT (acc x : Int × List Nat) : Int × List Nat := if acc.1 < 0 ∨ x.1 < acc.1 then x else acc
/-- The search with the first teams only, and no more than the best. -/
def asgS (k : Nat) : List Int → List Nat → List Int → Nat → Int × List Nat → Int × List Nat
  | [], pre, sums, _, acc => betT acc (maxF k (fun j => sums.getD j 0), pre)
  | p :: ps, pre, sums, used, acc => (List.range (min (used + 1) k)).foldl (fun acc t => if acc.1 < 0 ∨ sums.getD t 0 + p < acc.1 then asgS k ps (pre ++ [t]) (sums.set t (sums.getD t 0 + p)) (max used (t + 1)) acc else acc) acc
end Go.Proofs.Ytepgcdjbhmpioaa.Fi
