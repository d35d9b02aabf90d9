/- The reference's sides, the ways, the sum, the pulls that are made: in plain words. -/
import Derived.Test.YtepgcdjbhmpioaaQTgT6
import Derived.Test.YtepgcdjbhmpioaaQTgFi5
namespace Go.Proofs.Ytepgcdjbhmpioaa.Fi
open Go.RowKit Go.Proofs.YtepgcdjbhmpioaaW.PrintWords Go.Proofs.YtepgcdjbhmpioaaW.PrintLast Go.Proofs.YtepgcdjbhmpioaaW.PrintMore
set_option linter.unusedVariables false
theorem take_snoc' (l : List Int) (i : Nat) (h : i < l.length) : l.take i ++ [l.getD i 0] = l.take (i + 1) := by
  rw [List.take_add_one, List.getElem?_eq_getElem h, List.getD_eq_getElem?_getD, List.getElem?_eq_getElem h]
  rfl
/-- The pulls that are made of arbitrary numbers. -/
def madeS (x : List Int) (most : Nat) : List Int := if (x.take most).length = 0 then [1] else (x.take most).map (· + 1)
theorem made_ok {x : List Int} {most : Nat} (hx : ∀ v ∈ x, 0 ≤ v ∧ v ≤ 65535) (hm : 1 ≤ most) : OkL most (madeS x most) := by
  unfold madeS
  split
  · refine ⟨by simp, by simpa using hm, fun v hv => ?_⟩
    simp at hv
    omega
  · refine ⟨by simp only [List.length_map]; omega, by simp only [List.length_map, List.length_take]; omega, fun v hv => ?_⟩
    obtain ⟨u, hu, rfl⟩ := List.mem_map.1 hv
    have := hx u (List.mem_of_mem_take hu)
    omega
theorem made_ev (x : List Int) (most : Nat) (hm : 1 ≤ most ∧ most ≤ 100) (hx : ∀ v ∈ x, 0 ≤ v ∧ v ≤ 65535) : Ev (fun k => wogglelaw05_made.f k x (most : Int)) (madeS x most) := by
  unfold wogglelaw05_made.f
  have key : ∀ d i : Nat, i + d = min x.length most → Ev (fun k => wogglelaw05_made.l0 k x (most : Int) ((x.take i).map (· + 1)) (i : Int)) (madeS x most) := by
    intro d
    induction d with
    | zero =>
      intro i hi
      have e1 : x.take i = x.take most := by
        rcases Nat.lt_or_ge x.length most with h | h
        · rw [List.take_of_length_le (by omega), List.take_of_length_le (by omega)]
        · congr 1
          omega
      have e2 : (x.take most).length = i := by rw [List.length_take]; omega
      refine Ev.step (f := fun _ => some (madeS x most)) (fun k => ?_) (Ev.now _)
      simp only [wogglelaw05_made.l0, e1, List.length_map, e2]
      have e3 : (if (i : Int) = 0 then (if i < 17592186044416 then (some (List.map (fun v : Int => v + 1) (x.take most) ++ [1])) else none) else some (List.map (fun v : Int => v + 1) (x.take most))) = some (madeS x most) := by
        unfold madeS
        rw [e2]
        by_cases h : i = 0
        · rw [if_pos (by omega), if_pos (by omega), if_pos h, List.eq_nil_of_length_eq_zero (e2.trans h)]
          rfl
        · rw [if_neg (by omega), if_neg h]
      by_cases h : (i : Int) < (x.length : Int)
      · rw [if_pos h, if_neg (by omega)]
        exact e3
      · rw [if_neg h]
        exact e3
    | succ d ih =>
      intro i hi
      have a := hx _ (getD_mem (l := x) (i := i) (by omega))
      refine Ev.step (fun k => ?_) (ih (i + 1) (by omega))
      simp only [wogglelaw05_made.l0]
      have e4 : wrap64 (x.getD i 0) = x.getD i 0 := wrapS (by omega)
      rw [if_pos (by omega), if_pos (by omega), if_pos (by omega), if_pos (by simp; omega), rdN, e4, wrapS (by omega), wrapS (by omega), ← take_snoc' x i (by omega), List.map_append]
      rfl
  exact key (min x.length most) 0 (by omega)
end Go.Proofs.Ytepgcdjbhmpioaa.Fi
