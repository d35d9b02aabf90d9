/- Monomials in memory; the calls of pack.lcm. -/
import Derived.Test.YtjkfjnempofihaaQPgWRepsOne
import Derived.Test.YtjkfjnempofihaaQPgFi0
import Derived.Outline
import Derived.Lib.SliceRun
import Derived.Laws.Cover3
namespace Go.Proofs.Ytjkfjnempofihaa.Fi
open Go.RowKit Go.Proofs.YtjkfjnempofihaaW.PrintWords Go.Proofs.YtjkfjnempofihaaW.PrintLast Go.Proofs.YtjkfjnempofihaaW.PrintMore
set_option linter.unusedVariables false
set_option linter.unusedSimpArgs false
attribute [local go_sem] max2_int min2_int max_two min_two max_three min_three max_four min_four
theorem wrapS {x : Int} (h : -9223372036854775808 ≤ x ∧ x ≤ 9223372036854775807) : wrap64 x = x := by unfold wrap64; omega
def ints (l : List Int) : List Value := l.map (Value.int .i64)
/-- A monomial as a value. -/
def agg4 (m : List Int) : Value := .agg (ints m).toArray
theorem len4 {m : List Int} (h : m.length = 4) : ∃ a b c d, m = [a, b, c, d] := by
  match m, h with
  | [a, b, c, d], _ => exact ⟨a, b, c, d, rfl⟩
theorem ints_cell {W : World} {g t : Nat} {l : List Int} (h : W.heap[g]? = some (.cells (ints l).toArray t (0, 0))) {i : Nat} (hi : i < l.length) : W.cell? ⟨g, i, none⟩ = some (.int .i64 (l.getD i 0)) := by
  rw [blk_cell h i]
  simp [ints, List.getD_eq_getElem?_getD, List.getElem?_eq_getElem hi]
theorem ints_set {W : World} {g t : Nat} {l : List Int} (h : W.heap[g]? = some (.cells (ints l).toArray t (0, 0))) (i : Nat) (x : Int) : (W.setCell ⟨g, i, none⟩ (.int .i64 x)).heap[g]? = some (.cells (ints (l.set i x)).toArray t (0, 0)) := by
  refine blk_put h i _ ?_
  rw [List.setIfInBounds_toArray]
  simp [ints, List.map_set]
/-- The least common multiple. -/
def lcmS (a b : List Int) : List Int := (List.range 4).map fun i => max (a.getD i 0) (b.getD i 0)
theorem lcmS_len (a b : List Int) : (lcmS a b).length = 4 := by simp [lcmS]
/-- .. of the first variables. -/
def lcmT (a b : List Int) (i : Nat) : List Int := (List.range 4).map fun j => if j < i then max (a.getD j 0) (b.getD j 0) else a.getD j 0
theorem lcmT_len (a b : List Int) (i : Nat) : (lcmT a b i).length = 4 := by simp [lcmT]
theorem lcmT_zero {a : List Int} (b : List Int) (h : a.length = 4) : lcmT a b 0 = a := by
  obtain ⟨p, q, r, s, rfl⟩ := len4 h
  rfl
theorem lcmT_four (a b : List Int) : lcmT a b 4 = lcmS a b := rfl
theorem lcmT_get (a b : List Int) {i : Nat} (h : i < 4) : (lcmT a b i).getD i 0 = a.getD i 0 := by
  unfold lcmT
  rw [List.getD_eq_getElem?_getD, List.getElem?_map, List.getElem?_range h]
  simp
theorem lcmT_set (a b : List Int) {i : Nat} (h : i < 4) : (lcmT a b i).set i (max (a.getD i 0) (b.getD i 0)) = lcmT a b (i + 1) := by
  rcases (show i = 0 ∨ i = 1 ∨ i = 2 ∨ i = 3 by omega) with rfl | rfl | rfl | rfl <;> rfl
set_option maxHeartbeats 4000000 in
set_option maxRecDepth 100000 in
theorem lcm_calls (a b : List Int) (ha : a.length = 4) (hb : b.length = 4) (w : World) :
    Calls Try.prog 80 #[agg4 a, agg4 b] w fun e w' => e = .returned (agg4 (lcmS a b)) ∧ Below w.heap.size w w' := by
  have HA := Aside0.mk ha
  have HBL := Aside0.mk hb
  have HB := Aside0.mk (Below.refl w.heap.size w)
  obtain ⟨a0, a1, a2, a3, hae⟩ := len4 ha
  obtain ⟨b0, b1, b2, b3, hbe⟩ := len4 hb
  have hav : agg4 a = .agg #[.int .i64 a0, .int .i64 a1, .int .i64 a2, .int .i64 a3] := by rw [hae]; rfl
  have hbv : agg4 b = .agg #[.int .i64 b0, .int .i64 b1, .int .i64 b2, .int .i64 b3] := by rw [hbe]; rfl
  have HAE : Aside0 ((#[.int .i64 a0, .int .i64 a1, .int .i64 a2, .int .i64 a3] : Array Value) = (ints a).toArray) := ⟨by rw [hae]; rfl⟩
  have HBE : Aside0 ((#[.int .i64 b0, .int .i64 b1, .int .i64 b2, .int .i64 b3] : Array Value) = (ints b).toArray) := ⟨by rw [hbe]; rfl⟩
  rw [hav, hbv]
  clear ha hb hae hbe hav hbv
  go_enter Try.func80, Try.ntmps80
  go_wp2_with (first
    | ((with_reducible refine gate_dst (N := 2) rfl ?_); refine box_event ?hg (N := 2) ?hd (cs := #[.int .i64 a0, .int .i64 a1, .int .i64 a2, .int .i64 a3]) (t := 75) ?hr ?_; (case hd => rfl); (case hg => rfl); (case hr => first | (go_simp; done) | (go_simp; rfl)); intro ga hga w1 hbox hb; rw [HAE.out] at hbox; have BA := Aside0.mk hbox; have HB1 := Aside0.mk (below_step HB.out hb); have HGA := Aside0.mk (show w.heap.size ≤ ga from by rw [hga]; exact HB.out.size); clear hbox hb hga)
    | ((with_reducible refine gate_dst (N := 3) rfl ?_); refine box_event ?hg (N := 3) ?hd (cs := #[.int .i64 b0, .int .i64 b1, .int .i64 b2, .int .i64 b3]) (t := 75) ?hr ?_; (case hd => rfl); (case hg => rfl); (case hr => first | (go_simp; done) | (go_simp; rfl)); intro gb hgb w2 hbox hb; rw [HBE.out] at hbox; have BB := Aside0.mk hbox; have BA2 := Aside0.mk (blk_below BA.out hb); have HGB := Aside0.mk (show ga < gb from by rw [hgb]; exact blk_lt BA.out); have HB2 := Aside0.mk (below_step HB1.out hb); clear hbox hb hgb)
    | ((with_reducible refine gate_dst (N := 4) rfl ?_); refine box_event ?hg (N := 4) ?hd (cs := #[.int .i64 0, .int .i64 0, .int .i64 0, .int .i64 0]) (t := 75) ?hr ?_; (case hd => rfl); (case hg => rfl); (case hr => first | (go_simp; done) | (go_simp; rfl)); intro go hgo w3 hbox hb; have BO := Aside0.mk hbox; have BA3 := Aside0.mk (blk_below BA2.out hb); have BB3 := Aside0.mk (blk_below BB.out hb); have HGO := Aside0.mk (show gb < go from by rw [hgo]; exact blk_lt BB.out); have HB3 := Aside0.mk (below_step HB2.out hb); clear hbox hb hgo))
  go_loopg [6] 4 (fun kq v6 wr => ∃ i : Nat, v6 = .int .i64 (i : Int) ∧ Aside0 (i + kq = 4) ∧ Aside0 (wr.heap[ga]? = some (.cells (ints (lcmT a b i)).toArray 75 (0, 0))) ∧ Aside0 (wr.heap[gb]? = some (.cells (ints b).toArray 75 (0, 0))) ∧ Aside0 (wr.heap[go]? = some (.cells #[.int .i64 0, .int .i64 0, .int .i64 0, .int .i64 0] 75 (0, 0))) ∧ Aside0 (Below w.heap.size w wr))
  case atStart => exact ⟨0, rfl, ⟨rfl⟩, ⟨by rw [lcmT_zero b HA.out]; exact BA3.out⟩, BB3, BO, HB3⟩
  case round =>
    clear BA3 BB3 BO HB3 BA BA2 BB HB1 HB2
    obtain ⟨i, rfl, HI, BA, BB, BO, HB⟩ := hrel
    cases gk with
    | zero =>
      obtain rfl : i = 4 := by have := HI.out; omega
      rw [lcmT_four] at BA
      obtain ⟨p, q, r, s, he⟩ := len4 (lcmS_len a b)
      have BAx : Aside0 (wr.heap[ga]? = some (.cells #[.int .i64 p, .int .i64 q, .int .i64 r, .int .i64 s] 75 (0, 0))) := ⟨by have h := BA.out; rw [he] at h; exact h⟩
      have HE := Aside0.mk he
      have s0 := blk_cell BAx.out 0
      have s1 := blk_cell BAx.out 1
      have s2 := blk_cell BAx.out 2
      have s3 := blk_cell BAx.out 3
      have o0 := blk_cell BO.out 0
      have o1 := blk_cell BO.out 1
      have o2 := blk_cell BO.out 2
      have o3 := blk_cell BO.out 3
      have z0 := blk_frozen BO.out 0
      have z1 := blk_frozen BO.out 1
      have z2 := blk_frozen BO.out 2
      have z3 := blk_frozen BO.out 3
      clear BA he
      go_wp2
      have B1 := blk_put (blk_put (blk_put (blk_put BO.out 0 (.int .i64 p) rfl) 1 (.int .i64 q) rfl) 2 (.int .i64 r) rfl) 3 (.int .i64 s) rfl
      have hgo : w.heap.size ≤ go := by have := HGA.out; have := HGB.out; have := HGO.out; omega
      refine bodyPost_ret (results_cell_row rfl _ _ go 75 #[.int .i64 p, .int .i64 q, .int .i64 r, .int .i64 s] (0, 0) _ rfl B1 Try.underlying75 rfl (by kernel_rfl)) rfl ?_
      refine ⟨?_, below_set (below_set (below_set (below_set HB.out hgo) hgo) hgo) hgo⟩
      rw [HE.out]
      rfl
    | succ kq =>
      have hi4 : i < 4 := by have := HI.out; omega
      have hd : decide ((i : Int) < 4) = true := decide_eq_true (by omega)
      have hq4 : ((i : Int) < 4) = True := eq_true (by omega)
      have sca := ints_cell BA.out (i := i) (by rw [lcmT_len]; exact hi4)
      rw [lcmT_get a b hi4] at sca
      have scb := ints_cell BB.out (i := i) (by rw [HBL.out]; exact hi4)
      have fza := blk_frozen BA.out i
      have hw1 : wrap64 ((i : Int) + 1) = ((i + 1 : Nat) : Int) := wrapS (by omega)
      obtain ⟨x, hx⟩ : ∃ x, x = a.getD i 0 := ⟨_, rfl⟩
      obtain ⟨y, hy⟩ : ∃ y, y = b.getD i 0 := ⟨_, rfl⟩
      rw [← hx] at sca
      rw [← hy] at scb
      have HX := Aside0.mk hx
      have HY := Aside0.mk hy
      clear hx hy
      obtain ⟨m, hm⟩ : ∃ m, (if x < y then y else x) = m := ⟨_, rfl⟩
      have HM : Aside0 (max x y = m) := ⟨by rw [← hm]; split <;> omega⟩
      go_wp2
      refine start_ (n := 10) (S := fun w' => w'.cell? ⟨ga, i, none⟩ = some (.int .i64 x) ∧ w'.cell? ⟨gb, i, none⟩ = some (.int .i64 y)) (ds := [9]) #[false, false, false, false, false, false, false, false, false, false] (by kernel_rfl) rfl rfl ⟨sca, scb⟩ (fun hHeld => ?_)
      refine pure_ (i := 0) (N := some 9) (v := ?_) (a' := ?_) #[true, false, false, false, false, false, false, false, false, false] rfl rfl (by kernel_rfl) (fun _ _ _ h => h) (Or.inl ⟨by rfl, ?_⟩) ?_ ?_
      rotate_left
      · intro w'
        go_simp
        with_reducible rfl
      rotate_left
      · simp only [Act.put, List.setIfInBounds_toArray, List.set_cons_zero, List.set_cons_succ, i64_w, i32_w]
        rfl
      refine pure_ (i := 1) (N := some 10) (v := ?_) (a' := ?_) #[true, true, false, false, false, false, false, false, false, false] rfl rfl (by kernel_rfl) (fun _ _ _ h => h) (Or.inl ⟨by rfl, ?_⟩) ?_ ?_
      rotate_left
      · intro w'
        go_simp
        with_reducible rfl
      rotate_left
      · simp only [Act.put, List.setIfInBounds_toArray, List.set_cons_zero, List.set_cons_succ, i64_w, i32_w]
        rfl
      refine pure_ (i := 2) (N := some 11) (v := ?_) (a' := ?_) #[true, true, true, false, false, false, false, false, false, false] rfl rfl (by kernel_rfl) (fun _ _ _ h => h) (Or.inl ⟨by rfl, ?_⟩) ?_ ?_
      rotate_left
      · intro w'
        go_simp
        with_reducible rfl
      rotate_left
      · simp only [Act.put, List.setIfInBounds_toArray, List.set_cons_zero, List.set_cons_succ, i64_w, i32_w]
        rfl
      refine take_ (i := 3) (N := some 12) (v := ?_) (a' := ?_) #[true, true, true, true, false, false, false, false, false, false] rfl rfl (by kernel_rfl) (fun _ _ _ h => h) (Or.inl ⟨by rfl, ?_⟩) hHeld ?_ ?_
      rotate_left
      · rintro w' ⟨s0, s1⟩
        go_simp
        with_reducible rfl
      rotate_left
      · simp only [Act.put, List.setIfInBounds_toArray, List.set_cons_zero, List.set_cons_succ, i64_w, i32_w]
        rfl
      refine pure_ (i := 4) (N := some 13) (v := ?_) (a' := ?_) #[true, true, true, true, true, false, false, false, false, false] rfl rfl (by kernel_rfl) (fun _ _ _ h => h) (Or.inl ⟨by rfl, ?_⟩) ?_ ?_
      rotate_left
      · intro w'
        go_simp
        with_reducible rfl
      rotate_left
      · simp only [Act.put, List.setIfInBounds_toArray, List.set_cons_zero, List.set_cons_succ, i64_w, i32_w]
        rfl
      refine pure_ (i := 5) (N := some 14) (v := ?_) (a' := ?_) #[true, true, true, true, true, true, false, false, false, false] rfl rfl (by kernel_rfl) (fun _ _ _ h => h) (Or.inl ⟨by rfl, ?_⟩) ?_ ?_
      rotate_left
      · intro w'
        go_simp
        with_reducible rfl
      rotate_left
      · simp only [Act.put, List.setIfInBounds_toArray, List.set_cons_zero, List.set_cons_succ, i64_w, i32_w]
        rfl
      refine take_ (i := 6) (N := some 15) (v := ?_) (a' := ?_) #[true, true, true, true, true, true, true, false, false, false] rfl rfl (by kernel_rfl) (fun _ _ _ h => h) (Or.inl ⟨by rfl, ?_⟩) hHeld ?_ ?_
      rotate_left
      · rintro w' ⟨s0, s1⟩
        go_simp
        with_reducible rfl
      rotate_left
      · simp only [Act.put, List.setIfInBounds_toArray, List.set_cons_zero, List.set_cons_succ, i64_w, i32_w]
        rfl
      refine pure_ (i := 7) (N := some 16) (v := ?_) (a' := ?_) #[true, true, true, true, true, true, true, true, false, false] rfl rfl (by kernel_rfl) (fun _ _ _ h => h) (Or.inl ⟨by rfl, ?_⟩) ?_ ?_
      rotate_left
      · intro w'
        go_simp
        with_reducible rfl
      rotate_left
      · simp only [Act.put, List.setIfInBounds_toArray, List.set_cons_zero, List.set_cons_succ, i64_w, i32_w]
        rfl
      refine pure_ (i := 8) (N := some 17) (v := ?_) (a' := ?_) #[true, true, true, true, true, true, true, true, true, false] rfl rfl (by kernel_rfl) (fun _ _ _ h => h) (Or.inl ⟨by rfl, ?_⟩) ?_ ?_
      rotate_left
      · intro w'
        go_simp
        with_reducible rfl
      rotate_left
      · simp only [Act.put, List.setIfInBounds_toArray, List.set_cons_zero, List.set_cons_succ, i64_w, i32_w]
        rfl
      refine last_ (i := 9) (N := none) #[true, true, true, true, true, true, true, true, true, true] rfl rfl (by kernel_rfl) (by decide) (fun K hK => ?_)
      refine skip_ (w1 := ?_) (by rfl) rfl ?_ ?_
      rotate_left
      · go_simp
        rfl
      refine hK.out _ _ ?_
      clear hK K
      refine done_ (by kernel_rfl) ?_
      go_wp2
      go_roundg kq
      case measure => have := HI.out; omega
      case rel => exact ⟨i + 1, by first | rfl | rw [hw1], ⟨by have := HI.out; omega⟩, ⟨by rw [← lcmT_set a b hi4, ← HX.out, ← HY.out, HM.out]; exact blk_drew (ints_set BA.out i _)⟩, ⟨blk_drew (blk_far BB.out (by have := HGB.out; exact (Nat.ne_of_lt this).symm) _)⟩, ⟨blk_drew (blk_far BO.out (by have := HGB.out; have := HGO.out; show go ≠ ga; omega) _)⟩, ⟨below_drew1 (below_set HB.out HGA.out)⟩⟩
end Go.Proofs.Ytjkfjnempofihaa.Fi
