/- What the arguments of the laws give to the walks: lists of lists; an ideal by value. -/
import Derived.Test.YtjkfjnempofihaaQPkRM
import Derived.Test.YtjkfjnempofihaaRows
import Derived.WalkKit
import Derived.ProofKit
import Derived.OpenShut
import Derived.Deep.DeepHandedRow
import Derived.Deep.Slices
import Derived.Lib.SmallJoins
namespace Go.Proofs.Ytjkfjnempofihaa.Fi
open Go.ChangeShapes Go.WideShapes Go.ChangeAt Go.RowKit Go.Proofs.YtjkfjnempofihaaW.PrintWords Go.Proofs.YtjkfjnempofihaaW.PrintMore
set_option linter.unusedVariables false
set_option maxRecDepth 100000 in
theorem ints_of {H : Type} {enc : TypeId × Value → H} {W : World} {spare : Nat → Bool} {held : Bool} {fuel : Nat} {v : Value} {x : DataW H × List MemPlace} (h : DataW.trod enc Try.prog W 0 spare held fuel 25 [v] = some x) :
    ∃ (A : Option Addr) (c : Nat) (l : List Int), v = .slice A l.length c ∧ Kd.C (Kd.int .i64) W A l.length l ∧ l.length ≤ c ∧ ∀ n ∈ l, (Lit.int .i64 n).wf = true := by
  rcases open_ints Try.underlying25 Try.underlying3 (by kernel_rfl) h with ⟨hcs, _⟩ | ⟨a, len, cap, zs, hcs, _, hl, hm, hz, _, hcell, hwz⟩
  · injection hcs with hcs _
    subst hcs
    exact ⟨none, 0, [], rfl, ⟨rfl, by simp, fun h => absurd h (by simp)⟩, by simp, fun n hn => by cases hn⟩
  · injection hcs with hcs _
    subst hcs
    have hlz : len ≤ zs.length := by rw [hz]; split <;> omega
    have hlen : (zs.take len).length = len := by rw [List.length_take]; omega
    refine ⟨some a, cap, zs.take len, by rw [hlen], ⟨rfl, by rw [hlen]; unfold maxLen at hm; omega, fun _ => ⟨a, rfl, fun j p hj => ?_⟩⟩, by rw [hlen]; exact hl, fun n hn => hwz n (List.mem_of_mem_take hn)⟩
    obtain ⟨hjl, hjp⟩ := List.getElem?_eq_some_iff.1 hj
    rw [hlen] at hjl
    rw [List.getElem_take] at hjp
    refine ⟨[.int .i64 p], rfl, rfl, fun i u hu => ?_⟩
    have hi : i = 0 := by
      rcases Nat.eq_zero_or_pos i with h0 | h0
      · exact h0
      · rw [List.getElem?_eq_none (by simp; omega)] at hu; cases hu
    subst hi
    have hu2 : Value.int .i64 p = u := by simpa using hu
    subst hu2
    have hc := hcell j (by omega)
    rw [List.getD_eq_getElem?_getD, List.getElem?_eq_getElem (by omega), hjp] at hc
    show W.cell? (a.add (j * 1 + 0)) = _
    rw [Nat.mul_one, Nat.add_zero]
    exact hc
set_option maxRecDepth 100000 in
theorem lists_of {H : Type} {enc : TypeId × Value → H} {W : World} {spare : Nat → Bool} {held : Bool} {fuel : Nat} {v : Value} {x : DataW H × List MemPlace} (h : DataW.trod enc Try.prog W 0 spare held fuel 22 [v] = some x) :
    ∃ (A : Option Addr) (c : Nat) (l : List (List Int)), v = .slice A l.length c ∧ Kd.C kL W A l.length l ∧ l.length ≤ c := by
  rcases Go.Deep.open_slice1 Try.underlying22 (by kernel_rfl) h with ⟨e1, _⟩ | ⟨a, len, cap, m', k, V, D, Pl, e1, hb, hl, hcap, hm, _, hx⟩
  · injection e1 with e1 _
    subst e1
    exact ⟨none, 0, [], rfl, ⟨rfl, by simp, fun h => absurd h (by simp)⟩, by simp⟩
  · injection e1 with e1 _
    subst e1
    have hlm : len ≤ m' := by rw [hm]; split <;> omega
    have each : ∀ i, i < len → ∃ q : List Int, ∃ A c, W.cell? (a.add i) = some (.slice A q.length c) ∧ Kd.C (Kd.int .i64) W A q.length q ∧ q.length ≤ c := by
      intro i hi
      obtain ⟨g0, g1⟩ := hx i (by omega)
      obtain ⟨A, c, l, e2, h2, h3, _⟩ := ints_of g1
      exact ⟨l, A, c, by rw [g0, e2], h2, h3⟩
    obtain ⟨q, hq⟩ := Go.Deep.choose_lt each
    have hlen : ((List.range len).map q).length = len := by simp
    refine ⟨some a, cap, (List.range len).map q, by rw [hlen], ⟨rfl, by rw [hlen]; unfold maxLen at hcap; omega, fun _ => ⟨a, rfl, fun j p hj => ?_⟩⟩, by rw [hlen]; exact hl⟩
    have hj' : j < len := by
      have := (List.getElem?_eq_some_iff.1 hj).1
      simpa using this
    rw [List.getElem?_map, List.getElem?_range hj'] at hj
    obtain rfl := Option.some.inj hj
    obtain ⟨A, c, h1, h2, h3⟩ := hq j hj'
    refine ⟨[.slice A (q j).length c], rfl, ⟨A, c, rfl, h3, h2⟩, fun i u hu => ?_⟩
    have hi : i = 0 := by
      rcases Nat.eq_zero_or_pos i with h0 | h0
      · exact h0
      · rw [List.getElem?_eq_none (by simp; omega)] at hu; cases hu
    subst hi
    have hu2 : Value.slice A (q j).length c = u := by simpa using hu
    subst hu2
    show W.cell? (a.add (j * 1 + 0)) = _
    rw [Nat.mul_one, Nat.add_zero]
    exact h1
set_option maxRecDepth 100000 in
theorem ideal_open {H : Type} {enc : TypeId × Value → H} {W : World} {spare : Nat → Bool} {held : Bool} {r : Reach} {b0 : Nat} {v : Value} {d : DataW H} {p : List MemPlace} (hv : Value.okWide Try.prog W r b0 24 v) (h : DataW.Trod enc Try.prog W 0 spare held 24 v d p) :
    ∃ (n : Int) (A : Option Addr) (c : Nat) (l : List (List Int)), v = .agg #[.int .i64 n, .slice A l.length c] ∧ Kd.C kL W A l.length l ∧ l.length ≤ c ∧ (-9223372036854775808 ≤ n ∧ n ≤ 9223372036854775807) := by
  obtain ⟨v0, v1, y0, y1, m, rfl, rfl, rfl, h0, h1⟩ := Go.Joins.open_agg2 Try.underlying24 (by kernel_rfl) (by kernel_rfl) hv h
  obtain ⟨n, e0, _, hw⟩ := DataW.trod_int (k := .i64) Try.underlying3 h0
  have hn : -9223372036854775808 ≤ n ∧ n ≤ 9223372036854775807 := by
    have h9 : (decide (IntKind.i64.min ≤ n) && decide (n ≤ IntKind.i64.max)) = true := hw
    rw [Bool.and_eq_true, decide_eq_true_iff, decide_eq_true_iff] at h9
    have h8 : IntKind.i64.max = 9223372036854775807 := by kernel_rfl
    have h7 : IntKind.i64.min = -9223372036854775808 := by kernel_rfl
    rw [h8, h7] at h9
    exact h9
  injection e0 with e0 _
  subst e0
  obtain ⟨A, c, l, rfl, h2, h3⟩ := lists_of h1
  exact ⟨n, A, c, l, rfl, h2, h3, hn⟩
end Go.Proofs.Ytjkfjnempofihaa.Fi
