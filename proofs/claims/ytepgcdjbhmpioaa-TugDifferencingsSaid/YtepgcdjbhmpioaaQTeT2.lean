/- Plain words of tug: teams. -/
import Derived.Test.YtepgcdjbhmpioaaQTeT1
namespace Go.Proofs.Ytepgcdjbhmpioaa.Fi
set_option linter.unusedVariables false
/-- The greatest of the first k numbers, at least 0. -/
def maxF (k : Nat) (S : Nat → Int) : Int := (List.range k).foldl (fun a j => max a (S j)) 0
theorem foldl_max_le (S : Nat → Int) (M : Int) : ∀ (l : List Nat) (a : Int), l.foldl (fun a j => max a (S j)) a ≤ M ↔ a ≤ M ∧ ∀ j ∈ l, S j ≤ M
  | [], a => by simp
  | x :: l, a => by
    rw [List.foldl_cons, foldl_max_le S M l]
    simp only [List.mem_cons, forall_eq_or_imp]
    rw [Int.max_le, and_assoc]
theorem maxF_le {k : Nat} {S : Nat → Int} {M : Int} : maxF k S ≤ M ↔ 0 ≤ M ∧ ∀ j, j < k → S j ≤ M := by
  unfold maxF
  rw [foldl_max_le]
  simp only [List.mem_range]
theorem maxF_ge {k j : Nat} (S : Nat → Int) (h : j < k) : S j ≤ maxF k S := (maxF_le.1 (Int.le_refl (maxF k S))).2 j h
theorem maxF_nonneg (k : Nat) (S : Nat → Int) : 0 ≤ maxF k S := (maxF_le.1 (Int.le_refl (maxF k S))).1
theorem maxF_congr {k : Nat} {S T : Nat → Int} (h : ∀ j, j < k → S j = T j) : maxF k S = maxF k T :=
  Int.le_antisymm (maxF_le.2 ⟨maxF_nonneg _ _, fun j hj => by rw [h j hj]; exact maxF_ge T hj⟩) (maxF_le.2 ⟨maxF_nonneg _ _, fun j hj => by rw [← h j hj]; exact maxF_ge S hj⟩)
/-- What a team gets. -/
def tot : List Int → List Nat → Nat → Int
  | p :: ps, t :: ts, j => (if t = j then p else 0) + tot ps ts j
  | _, _, _ => 0
/-- All teams of n pulls, in lexicographic order. -/
def allT (k : Nat) : Nat → List (List Nat)
  | 0 => [[]]
  | n + 1 => (List.range k).flatMap fun t => (allT k n).map (t :: ·)
theorem allT_mem {k : Nat} : ∀ {n : Nat} {ts : List Nat}, ts ∈ allT k n ↔ ts.length = n ∧ ∀ t ∈ ts, t < k
  | 0, ts => by
    simp only [allT, List.mem_singleton]
    constructor
    · rintro rfl; simp
    · rintro ⟨h, _⟩; exact List.length_eq_zero_iff.1 h
  | n + 1, ts => by
    simp only [allT, List.mem_flatMap, List.mem_range, List.mem_map]
    constructor
    · rintro ⟨t, ht, us, hus, rfl⟩
      obtain ⟨h1, h2⟩ := allT_mem.1 hus
      refine ⟨by simp [h1], fun x hx => ?_⟩
      rcases List.mem_cons.1 hx with rfl | hx
      · exact ht
      · exact h2 x hx
    · rintro ⟨h1, h2⟩
      cases ts with
      | nil => simp at h1
      | cons t us =>
        exact ⟨t, h2 t (by simp), us, allT_mem.2 ⟨by simpa using h1, fun x hx => h2 x (by simp [hx])⟩, rfl⟩
/-- The lesser load; as many: the first. -/
def betT (acc x : Int × List Nat) : Int × List Nat := if acc.1 < 0 ∨ x.1 < acc.1 then x else acc
/-- The search with the first teams only, and no more than the best. -/
def asgS (k : Nat) : List Int → List Nat → List Int → Nat → Int × List Nat → Int × List Nat
  | [], pre, sums, _, acc => betT acc (maxF k (fun j => sums.getD j 0), pre)
  | p :: ps, pre, sums, used, acc => (List.range (min (used + 1) k)).foldl (fun acc t => if acc.1 < 0 ∨ sums.getD t 0 + p < acc.1 then asgS k ps (pre ++ [t]) (sums.set t (sums.getD t 0 + p)) (max used (t + 1)) acc else acc) acc
end Go.Proofs.Ytepgcdjbhmpioaa.Fi
