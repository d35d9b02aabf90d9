/- Plain words of tug: sides, differences, the least difference. -/
import Derived.Test.YtepgcdjbhmpioaaQTeWSized
namespace Go.Proofs.Ytepgcdjbhmpioaa.Fi
set_option linter.unusedVariables false
/-- The signed sum of pulls. -/
def sgn : List Int → List Int → Int
  | x :: p, b :: s => x * (1 - 2 * b) + sgn p s
  | _, _ => 0
def diffS (p s : List Int) : Int := max (sgn p s) (-(sgn p s))
def sidesS (n set : Nat) : List Int := (List.range n).map fun i => (((set >>> (n - 1 - i)) % 2 : Nat) : Int)
def Bits (s : List Int) : Prop := ∀ b ∈ s, b = 0 ∨ b = 1
/-- Sides of n pulls: the first one is 0. -/
def Sd (n : Nat) (s : List Int) : Prop := s.length = n ∧ Bits s ∧ s.getD 0 0 = 0
theorem sidesS_length (n set : Nat) : (sidesS n set).length = n := by simp [sidesS]
theorem sidesS_bits (n set : Nat) : Bits (sidesS n set) := by
  intro b hb
  obtain ⟨i, _, rfl⟩ := List.mem_map.1 hb
  have := Nat.mod_lt (set >>> (n - 1 - i)) (show 2 > 0 by omega)
  omega
theorem sidesS_get (n set i : Nat) (hi : i < n) : (sidesS n set).getD i 0 = (((set >>> (n - 1 - i)) % 2 : Nat) : Int) := by
  rw [List.getD_eq_getElem?_getD, List.getElem?_eq_getElem (by rw [sidesS_length]; exact hi)]
  simp [sidesS]
/-- One more sides: kept if the rule allows them and their difference is less. -/
def pickS (may : List Int → Bool) (p : List Int) (acc : Int × List Int) (l : List Int) : Int × List Int := if may l = true ∧ (acc.1 < 0 ∨ diffS p l < acc.1) then (diffS p l, l) else acc
def findS (may : List Int → Bool) (p : List Int) : Int × List Int := (List.range (2 ^ (p.length - 1))).foldl (fun acc set => pickS may p acc (sidesS p.length set)) (-1, [])
theorem diffS_nonneg (p s : List Int) : 0 ≤ diffS p s := by unfold diffS; omega
end Go.Proofs.Ytepgcdjbhmpioaa.Fi
