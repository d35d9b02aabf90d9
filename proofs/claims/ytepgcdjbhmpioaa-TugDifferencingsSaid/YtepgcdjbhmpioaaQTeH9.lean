/- What the functions of tug that are shown by hand compute: plain words. -/
import Derived.Test.YtepgcdjbhmpioaaQTeH1
import Derived.Test.YtepgcdjbhmpioaaQTeT2
namespace Go.Proofs.Ytepgcdjbhmpioaa.Fi
set_option linter.unusedVariables false
/-- Valid pulls. -/
def OkL (most : Nat) (l : List Int) : Prop := 1 ≤ l.length ∧ l.length ≤ most ∧ ∀ x ∈ l, 1 ≤ x ∧ x ≤ 1000000
instance (most : Nat) (l : List Int) : Decidable (OkL most l) := by unfold OkL; infer_instance
/-- What check says. -/
def chk (most : Nat) (l : List Int) : Int := if l.length > most then 3 else if OkL most l then 0 else 1
theorem chk_ok {most : Nat} {l : List Int} (h : OkL most l) : chk most l = 0 := by
  unfold chk
  rw [if_neg (by have := h.2.1; omega), if_pos h]
theorem chk_zero {most : Nat} {l : List Int} (h : chk most l = 0) : OkL most l := by
  unfold chk at h
  split at h
  · cases h
  · split at h
    · assumption
    · cases h
def anyS (_ : List Int) : Bool := true
def tug_Split.f (l : List Int) : Option (Int × List Int × Int) := if chk 14 l = 0 then some ((findS anyS l).1, (findS anyS l).2, 0) else some (0, [], chk 14 l)
def toZ (q : List Nat) : List Int := List.map (fun x : Nat => (x : Int)) q
theorem toZ_length (q : List Nat) : (toZ q).length = q.length := by simp [toZ]
def teamsS (k : Nat) (l : List Int) : Int × List Nat := asgS k l [] (List.replicate k 0) 0 (-1, [])
def tug_Teams.f (l : List Int) (k : Int) : Option (Int × List Int × Int) := if chk 10 l = 0 then (if 1 ≤ k ∧ k ≤ 4 then some ((teamsS k.toNat l).1, toZ (teamsS k.toNat l).2, 0) else some (0, [], 1)) else some (0, [], chk 10 l)
/-- An item: its worth, and its two parts if it is a difference; it was made as the one with its number. -/
structure Nd where
  worth : Int
  kids : Option (Nat × Nat)
instance : Inhabited Nd := ⟨⟨0, none⟩⟩
def wth (nd : List Nd) (j : Nat) : Int := (nd.getD j default).worth
/-- Is greater, or was made first. -/
def befN (nd : List Nd) (a b : Nat) : Bool := decide (wth nd b < wth nd a ∨ (wth nd a = wth nd b ∧ a < b))
def srtN (nd : List Nd) (its : List Nat) : List Nat := its.mergeSort fun x y => !befN nd y x
/-- Rounds of differencing. -/
def kkR : Nat → List Nd → List Nat → List Nd × List Nat
  | 0, nd, its => (nd, its)
  | r + 1, nd, its => kkR r (nd ++ [⟨wth nd ((srtN nd its).getD 0 0) - wth nd ((srtN nd its).getD 1 0), some ((srtN nd its).getD 0 0, (srtN nd its).getD 1 0)⟩]) ((srtN nd its).drop 2 ++ [nd.length])
/-- All pulls of an item are put on sides. -/
def plc (nd : List Nd) : Nat → Nat → Int → List Int → List Int
  | 0, _, _, out => out
  | f + 1, j, side, out => match (nd.getD j default).kids with
    | none => out.set j side
    | some (a, b) => plc nd f b (1 - side) (plc nd f a side out)
def leaves (l : List Int) : List Nd := l.map fun x => ⟨x, none⟩
def kkEnd (l : List Int) : List Nd × List Nat := kkR (l.length - 1) (leaves l) (List.range l.length)
def kkOut (l : List Int) : List Int := plc (kkEnd l).1 ((kkEnd l).2.getD 0 0 + 1) ((kkEnd l).2.getD 0 0) 0 (List.replicate l.length 0)
def kkS (l : List Int) : Int × List Int := (wth (kkEnd l).1 ((kkEnd l).2.getD 0 0), if (kkOut l).getD 0 0 = 1 then (kkOut l).map (1 - ·) else kkOut l)
def tug_Differencing.f (l : List Int) : Option (Int × List Int × Int) := if chk 14 l = 0 then some ((kkS l).1, (kkS l).2, 0) else some (0, [], chk 14 l)
end Go.Proofs.Ytepgcdjbhmpioaa.Fi
