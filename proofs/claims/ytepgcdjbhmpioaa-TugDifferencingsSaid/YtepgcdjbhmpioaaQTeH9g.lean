/- What Greedy computes: plain words. -/
import Derived.Test.YtepgcdjbhmpioaaQTeH9
import Derived.Shelf.SlSortCmp.Insertion
namespace Go.Proofs.Ytepgcdjbhmpioaa.Fi
set_option linter.unusedVariables false
/-- The first place of the least number. -/
def minAt (l : List Int) : Nat := l.idxOf (minT l l.length)
/-- How the places of two pulls are compared. -/
def cfP (l : List Int) (i j : Fin (l.length - 1 + 1)) : Int := l.getD j.val 0 - l.getD i.val 0
def allP (l : List Int) : Array (Fin (l.length - 1 + 1)) := Array.ofFn id
/-- The pulls' places from the greatest pull down, equals in their order: as the program sorts them. -/
def orderS (l : List Int) : List Nat := (Go.Sort.insertionSort (ltOf (cfP l)) (allP l) 0 (allP l).size).toList.map Fin.val
def giveS (l : List Int) (st : List Int × List Int) (i : Nat) : List Int × List Int := (st.1.set i (minAt st.2 : Int), st.2.set (minAt st.2) (st.2.getD (minAt st.2) 0 + l.getD i 0))
def greedyS (k : Nat) (l : List Int) : List Int × List Int := (orderS l).foldl (giveS l) (List.replicate l.length 0, List.replicate k 0)
def tug_Greedy.f (l : List Int) (k : Int) : Option (Int × List Int × Int) := if chk 14 l = 0 then (if 1 ≤ k ∧ k ≤ 4 then some (maxT (greedyS k.toNat l).2 k.toNat, (greedyS k.toNat l).1, 0) else some (0, [], 1)) else some (0, [], chk 14 l)
end Go.Proofs.Ytepgcdjbhmpioaa.Fi
