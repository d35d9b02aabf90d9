/- The calls of read. -/
import Derived.Test.YtjkfjnempofihaaQPgE11
namespace Go.Proofs.Ytjkfjnempofihaa.Fi
open Go.RowKit Go.Shelf Go.Lib Go.Proofs.YtjkfjnempofihaaW.PrintWords Go.Proofs.YtjkfjnempofihaaW.PrintLast Go.Proofs.YtjkfjnempofihaaW.PrintMore
set_option linter.unusedVariables false
set_option linter.unusedSimpArgs false
/-- Whether a list is a monomial in n variables. -/
def validB (n : Nat) (l : List Int) : Bool := decide (l.length = n) && (decide (0 ≤ minT l l.length) && decide (maxT l l.length ≤ 6))
def oneV (n : Nat) (l : List Int) : M4 := if l.length = n then padM l else oneM
theorem one_calls (n : Nat) (A : Option Addr) (c : Nat) (l : List Int) (w : World) (hr : Kd.C (Kd.int .i64) w A l.length l) (h1 : 1 ≤ n) (h4 : n ≤ 4) (hl : l.length ≤ 100000) :
    Calls Try.prog 53 #[.int .i64 (n : Int), .slice A l.length c] w fun e w' => e = .returned (.tuple #[ag (oneV n l), .bool (validB n l)]) ∧ Below w.heap.size w w' := by
  by_cases h : l.length = n
  · subst h
    unfold validB oneV
    rw [if_pos rfl, decide_eq_true (show l.length = l.length from rfl), Bool.true_and]
    exact one_yes A c l w hr (by omega) h4
  · unfold validB oneV
    rw [if_neg h, decide_eq_false h, Bool.false_and]
    exact one_no n A c l w h hl h4
theorem oneV_valid {n : Nat} {l : List Int} (h : validB n l = true) : oneV n l = padM l := by
  unfold validB at h
  rw [Bool.and_eq_true, decide_eq_true_iff] at h
  unfold oneV
  rw [if_pos h.1]
theorem mr_setOther {w : World} {base g t : Nat} {v : Value} {l : List M4} {c : Array Value} (h : MR w base v l) (hb : w.heap[g]? = some (.cells c t (0, 0))) (ht : 75 ≠ t) (j : Nat) (u : Value) : MR (w.setCell ⟨g, j, none⟩ u) base v l := own_move h (fun k hk => Below.heap_setCell _ _ _ k (fun e => by
  subst e
  obtain ⟨c', h'⟩ := own_typed h _ hk
  rw [hb] at h'
  injection h' with h'
  injection h' with _ h'
  exact ht h'.symm))
section
variable {ops : Array Oper} {o : Oper} {a : Act} {K : Act → World → Prop} {Q : Exit → Act → World → Prop}
theorem MR_append_step {w0 W : World} (base : Nat) (hw : Region.wanted o (yielded ops a.tmps) = true) (s x : Operand) (ho : o.op = .call { callee := .builtin .append, args := #[s, x], argTypes := #[79, 79] })
    (v : Value) (l : List M4) (m : M4) (hs : a.eval s = v) (hx : a.eval x = .slice (some ⟨W.heap.size, 0, none⟩) 1 1) (HO : MR W base v l) (HB : Below base w0 W) (hbase : base ≤ W.heap.size) (hl : l.length ≤ 30000000)
    (h : ∀ v1 w1, MR w1 base v1 (l ++ [m]) → Below base w0 w1 → W.grownBy w1 v.ownBlock → (v1.ownBlock = v.ownBlock ∨ ∃ b, v1.ownBlock = some b ∧ W.heap.size ≤ b) → K (a.put o.dst v1) w1) :
    if Region.wanted o (yielded ops a.tmps) = true then Oper.wp Try.prog o a (W.alloc (.cells (enc4 m).toArray 75)) K Q else K (a.put o.dst undef) (W.alloc (.cells (enc4 m).toArray 75)) :=
  step_append_cells base hw s x 79 75 (.agg #[.int .i64 0, .int .i64 0, .int .i64 0, .int .i64 0]) 4 32 ho Try.underlying79 info75 rfl (by omega) (by omega) v l.length (flat l) (enc4 m) hs hx rfl (fun u hu => kM.K_one (w := W) (x := m) rfl u hu) HO HB hbase (by omega)
    (fun v1 w1 h1 h2 h3 h4 => h v1 w1 (by rw [MR, flat_app, flat_one, List.length_append, List.length_singleton]; exact h1) h2 h3 h4)
end
set_option maxHeartbeats 4000000 in
set_option maxRecDepth 100000 in
theorem read_long (n : Int) (A : Option Addr) (c : Nat) (gens : List (List Int)) (w : World) (hl : 12 < gens.length) :
    Calls Try.prog 52 #[.int .i64 n, .slice A gens.length c] w fun e w' => e = .returned (.tuple #[.pointer none, .int .i64 3]) ∧ Below w.heap.size w w' := by
  have d1 : decide ((12 : Int) < (gens.length : Int)) = true := decide_eq_true (by omega)
  have HB := Aside0.mk (Below.refl w.heap.size w)
  clear hl
  go_enter Try.func52, Try.ntmps52
  go_wp2
  go_ret2
  exact ⟨rfl, HB.out⟩
set_option maxHeartbeats 4000000 in
set_option maxRecDepth 100000 in
theorem read_arg (n : Int) (A : Option Addr) (c : Nat) (gens : List (List Int)) (w : World) (hl : gens.length ≤ 12) (hn : n < 1 ∨ 4 < n) :
    Calls Try.prog 52 #[.int .i64 n, .slice A gens.length c] w fun e w' => e = .returned (.tuple #[.pointer none, .int .i64 1]) ∧ Below w.heap.size w w' := by
  have d1 : decide ((12 : Int) < (gens.length : Int)) = false := decide_eq_false (by omega)
  have HB := Aside0.mk (Below.refl w.heap.size w)
  by_cases h1 : n < 1
  · have d2 : decide (n < 1) = true := decide_eq_true h1
    clear hl hn h1
    go_enter Try.func52, Try.ntmps52
    go_wp2
    go_ret2
    exact ⟨rfl, HB.out⟩
  · have d2 : decide (n < 1) = false := decide_eq_false h1
    have d3 : decide (4 < n) = true := decide_eq_true (by omega)
    clear hl hn h1
    go_enter Try.func52, Try.ntmps52
    go_wp2
    go_ret2
    exact ⟨rfl, HB.out⟩
/-- What read hands back: a new ideal, or the error of an invalid generator. -/
def readPost (n : Nat) (gens : List (List Int)) (w : World) (e : Ending) (w' : World) : Prop :=
  (gens.all (validB n) = true → ∃ g v, e = .returned (.tuple #[pt g, .int .i64 0]) ∧ w.heap.size ≤ g ∧ IA w' g (n : Int) v (gens.map padM)) ∧ (gens.all (validB n) = false → e = .returned (.tuple #[.pointer none, .int .i64 1]))
set_option maxHeartbeats 4000000 in
set_option maxRecDepth 100000 in
theorem read_gens (n : Nat) (A : Option Addr) (c : Nat) (gens : List (List Int)) (w : World) (hr : Kd.C kL w A gens.length gens) (hl : gens.length ≤ 12) (h1 : 1 ≤ n) (h4 : n ≤ 4) (hll : ∀ l ∈ gens, l.length ≤ 100000) :
    Calls Try.prog 52 #[.int .i64 (n : Int), .slice A gens.length c] w fun e w' => readPost n gens w e w' ∧ Below w.heap.size w w' := by
  have HR := Aside0.mk hr
  have HG := Aside0.mk hl
  have HN := Aside0.mk (show 1 ≤ n ∧ n ≤ 4 from ⟨h1, h4⟩)
  have HLL := Aside0.mk hll
  have d1 : decide ((12 : Int) < (gens.length : Int)) = false := decide_eq_false (by omega)
  have d2 : decide ((n : Int) < 1) = false := decide_eq_false (by omega)
  have d3 : decide (4 < (n : Int)) = false := decide_eq_false (by omega)
  have HB := Aside0.mk (Below.refl w.heap.size w)
  clear hr hl h1 h4 hll
  go_enter Try.func52, Try.ntmps52
  go_wp2_with ((with_reducible refine gate_dst (N := 24) rfl ?_); refine box_event ?hg (N := 24) ?hd (cs := #[.int .i64 (n : Int), .slice none 0 0]) (t := 81) ?hr ?_; (case hd => rfl); (case hg => rfl); (case hr => first | (go_simp; done) | (go_simp; rfl)); intro gx hgx w1 hbox hb; have BX := Aside0.mk hbox; have HB1 := Aside0.mk (below_step HB.out hb); have HGX := Aside0.mk (show w.heap.size ≤ gx from by rw [hgx]; exact HB.out.size); clear hbox hb hgx)
  clear d1 d2 d3
  go_loopg [8, 9, 10, 27] gens.length (fun kq v8 v9 v10 v27 wr => ∃ (i : Nat) (v : Value), v27 = .int .i64 (i : Int) ∧ Aside0 (i + kq = gens.length) ∧ Aside0 (MR wr w.heap.size v ((gens.take i).map padM)) ∧ Aside0 (wr.heap[gx]? = some (.cells #[.int .i64 (n : Int), v] 81 (0, 0))) ∧ Aside0 ((gens.take i).all (validB n) = true) ∧ Aside0 (Below w.heap.size w wr))
  case atStart => exact ⟨0, _, rfl, ⟨by omega⟩, ⟨World.ownsRow_nil _ _ _ _⟩, BX, ⟨by simp⟩, HB1⟩
  case round =>
    clear BX HB1 HB
    obtain ⟨i, v, rfl, HI, HV, HX, HA, HB⟩ := hrel
    obtain ⟨A3, c3, hv3, -⟩ := HV.out.slice
    obtain ⟨L3, hL3⟩ : ∃ L, L = ((gens.take i).map padM).length := ⟨_, rfl⟩
    rw [← hL3] at hv3
    subst hv3
    clear hL3
    cases gk with
    | zero =>
      obtain rfl : i = gens.length := by have := HI.out; omega
      have hd : decide ((gens.length : Int) < (gens.length : Int)) = false := by simp
      go_wp2
      go_ret2
      have hA := HA.out
      have hV := HV.out
      rw [List.take_length] at hA hV
      exact ⟨⟨fun _ => ⟨gx, _, rfl, HGX.out, HX.out, hV.zero⟩, fun h => by rw [hA] at h; cases h⟩, HB.out⟩
    | succ kq =>
      have hi : i < gens.length := by have := HI.out; omega
      have hq4 : ((i : Int) < (gens.length : Int)) = True := eq_true (by omega)
      have hw1 : wrap64 ((i : Int) + 1) = ((i + 1 : Nat) : Int) := wrapS (by have := HG.out; omega)
      obtain ⟨ad, A1, c1, rfl, hc1, hcc1, hr1⟩ := at_L1 HR.out (i : Int) (by omega) (by omega)
      have HR1 := Aside0.mk hr1
      have hcw : wr.cell? (ad.add i) = some (.slice A1 (rd_L1 gens (i : Int)).length c1) := pw_cell_below HB.out hc1
      have hrd : rd_L1 gens (i : Int) = gens[i]! := by unfold rd_L1; rw [Int.toNat_natCast, getElem!_pos gens i hi, List.getD_eq_getElem?_getD, List.getElem?_eq_getElem hi]; rfl
      have HRD := Aside0.mk hrd
      have HL1 := Aside0.mk (HLL.out (rd_L1 gens (i : Int)) (by rw [hrd, getElem!_pos gens i hi]; exact List.getElem_mem _))
      have HTK : Aside0 ((gens.take (i + 1)).all (validB n) = ((gens.take i).all (validB n) && validB n (rd_L1 gens (i : Int)))) := ⟨by rw [List.take_add_one, List.all_append, List.getElem?_eq_getElem hi, hrd, getElem!_pos gens i hi]; simp⟩
      have HTM : Aside0 ((gens.take (i + 1)).map padM = (gens.take i).map padM ++ [padM (rd_L1 gens (i : Int))]) := ⟨by rw [List.take_add_one, List.map_append, List.getElem?_eq_getElem hi, hrd, getElem!_pos gens i hi]; rfl⟩
      clear hc1 hcc1 hr1 hrd
      obtain ⟨⟨x0, x1, x2, x3⟩, hx⟩ : ∃ x, x = oneV n (rd_L1 gens (i : Int)) := ⟨_, rfl⟩
      have HXX := Aside0.mk hx
      have HOV : Aside0 (ag (oneV n (rd_L1 gens (i : Int))) = .agg #[.int .i64 x0, .int .i64 x1, .int .i64 x2, .int .i64 x3]) := ⟨by rw [← hx]; rfl⟩
      clear hx
      cases hV : validB n (rd_L1 gens (i : Int)) with
      | false => 
        have hAF : gens.all (validB n) = false := by
          rw [← Bool.not_eq_true, List.all_eq_true]
          intro h
          have := h (rd_L1 gens (i : Int)) (by rw [HRD.out, getElem!_pos gens i hi]; exact List.getElem_mem _)
          rw [hV] at this; cases this
        have HAF := Aside0.mk hAF
        clear hAF
        go_wp2_with (first | (go_at_call 53; refine (one_calls n _ c1 (rd_L1 gens (i : Int)) _ (Kd.C_below HR1.out HB.out) HN.out.1 HN.out.2 HL1.out).mono ?_; rintro e w3 ⟨he, hb⟩; rw [HOV.out, hV] at he; subst he; have HB3 := Aside0.mk (below_step HB.out hb); have HV3 := Aside0.mk (HV.out.below hb); have HX3 := Aside0.mk (blk_below HX.out hb); clear hb) | ((with_reducible refine gate_dst (N := 9) rfl ?_); refine box_event ?hg (N := 9) ?hd (cs := #[.int .i64 0, .int .i64 0, .int .i64 0, .int .i64 0]) (t := 75) ?hr ?_; (case hd => rfl); (case hg => rfl); (case hr => first | (go_simp; done) | (go_simp; rfl)); intro gm hgm w4 hbox hb; have o0 := blk_cell hbox 0; have o1 := blk_cell hbox 1; have o2 := blk_cell hbox 2; have o3 := blk_cell hbox 3; have z0 := blk_frozen hbox 0; have z1 := blk_frozen hbox 1; have z2 := blk_frozen hbox 2; have z3 := blk_frozen hbox 3; have BM4 := Aside0.mk hbox; have HGM := Aside0.mk (show gm = w3.heap.size from hgm); have HBW := Aside0.mk hb; clear hbox hb hgm))
        go_ret2
        exact ⟨⟨fun h => (by rw [HAF.out] at h; cases h), fun _ => rfl⟩, set4_below (g := gm) (below_step HB3.out HBW.out) (by rw [HGM.out]; exact HB3.out.size) (x0, x1, x2, x3)⟩
      | true =>
        have hPD := oneV_valid hV
        have hPX : (x0, x1, x2, x3) = padM (rd_L1 gens (i : Int)) := HXX.out.trans hPD
        have HPX := Aside0.mk hPX
        clear hPD hPX
        go_wp2_with (first | (go_at_call 53; refine (one_calls n _ c1 (rd_L1 gens (i : Int)) _ (Kd.C_below HR1.out HB.out) HN.out.1 HN.out.2 HL1.out).mono ?_; rintro e w3 ⟨he, hb⟩; rw [HOV.out, hV] at he; subst he; have HB3 := Aside0.mk (below_step HB.out hb); have HV3 := Aside0.mk (HV.out.below hb); have HX3 := Aside0.mk (blk_below HX.out hb); clear hb) | ((with_reducible refine gate_dst (N := 9) rfl ?_); refine box_event ?hg (N := 9) ?hd (cs := #[.int .i64 0, .int .i64 0, .int .i64 0, .int .i64 0]) (t := 75) ?hr ?_; (case hd => rfl); (case hg => rfl); (case hr => first | (go_simp; done) | (go_simp; rfl)); intro gm hgm w4 hbox hb; have o0 := blk_cell hbox 0; have o1 := blk_cell hbox 1; have o2 := blk_cell hbox 2; have o3 := blk_cell hbox 3; have z0 := blk_frozen hbox 0; have z1 := blk_frozen hbox 1; have z2 := blk_frozen hbox 2; have z3 := blk_frozen hbox 3; have BM4 := Aside0.mk hbox; have HGM := Aside0.mk (show gm = w3.heap.size from hgm); have HBW := Aside0.mk hb; clear hbox hb hgm))
        have BM5a := set4_blk BM4.out (x0, x1, x2, x3)
        have hbw := below_step HB3.out HBW.out
        have HB5 := Aside0.mk (set4_below (g := gm) hbw (by rw [HGM.out]; exact HB3.out.size) (x0, x1, x2, x3))
        have HX5 : Aside0 ((set4 w4 gm (x0, x1, x2, x3)).heap[gx]? = some (.cells #[.int .i64 (n : Int), .slice A3 L3 c3] 81 (0, 0))) := ⟨(set4_far (by rw [HGM.out]; exact Nat.ne_of_lt (blk_lt HX3.out)) _).trans (blk_below HX3.out HBW.out)⟩
        have HV5 : Aside0 (MR (set4 w4 gm (x0, x1, x2, x3)) w.heap.size (.slice A3 L3 c3) ((gens.take i).map padM)) := ⟨(HV3.out.below HBW.out).set4 (fun k hk e => by rw [e, HGM.out] at hk; exact absurd (own_lt HV3.out _ hk) (Nat.lt_irrefl _)) _⟩
        have BM5 : Aside0 ((set4 w4 gm (x0, x1, x2, x3)).heap[gm]? = some (.cells #[.int .i64 x0, .int .i64 x1, .int .i64 x2, .int .i64 x3] 75 (0, 0))) := ⟨BM5a⟩
        clear BM5a hbw
        show Code.wp _ _ _ _ (set4 w4 gm (x0, x1, x2, x3))
        generalize set4 w4 gm (x0, x1, x2, x3) = w5 at HB5 HX5 HV5 BM5 ⊢
        have fz := blk_frozen HX5.out 1
        clear HB3 HV3 HX3 BM4 HBW HGM HV HX HB o0 o1 o2 o3 z0 z1 z2 z3
        refine start_ (n := 11) (S := fun w' => w'.cell? ⟨gx, 1, none⟩ = some (.slice A3 L3 c3) ∧ w'.cell? ⟨gm, 0, none⟩ = some (.int .i64 x0) ∧ w'.cell? ⟨gm, 1, none⟩ = some (.int .i64 x1) ∧ w'.cell? ⟨gm, 2, none⟩ = some (.int .i64 x2) ∧ w'.cell? ⟨gm, 3, none⟩ = some (.int .i64 x3)) (ds := [7, 10]) #[false, false, false, false, false, false, false, false, false, false, false] (by kernel_rfl) rfl rfl ⟨blk_cell (blk_drew HX5.out) 1, blk_cell (blk_drew BM5.out) 0, blk_cell (blk_drew BM5.out) 1, blk_cell (blk_drew BM5.out) 2, blk_cell (blk_drew BM5.out) 3⟩ (fun hHeld => ?_)
        refine pure_ (i := 0) (N := some 39) (v := ?_) (a' := ?_) #[true, false, false, false, false, false, false, false, false, false, false] rfl rfl (by kernel_rfl) (fun _ _ _ h => h) (Or.inl ⟨by rfl, ?_⟩) ?_ ?_
        rotate_left
        · intro w'
          go_simp
          with_reducible rfl
        rotate_left
        · simp only [Act.put, List.setIfInBounds_toArray, List.set_cons_zero, List.set_cons_succ, i64_w, i32_w]
          rfl
        refine pure_ (i := 1) (N := some 40) (v := ?_) (a' := ?_) #[true, true, false, false, false, false, false, false, false, false, false] rfl rfl (by kernel_rfl) (fun _ _ _ h => h) (Or.inl ⟨by rfl, ?_⟩) ?_ ?_
        rotate_left
        · intro w'
          go_simp
          with_reducible rfl
        rotate_left
        · simp only [Act.put, List.setIfInBounds_toArray, List.set_cons_zero, List.set_cons_succ, i64_w, i32_w]
          rfl
        refine pure_ (i := 2) (N := some 41) (v := ?_) (a' := ?_) #[true, true, true, false, false, false, false, false, false, false, false] rfl rfl (by kernel_rfl) (fun _ _ _ h => h) (Or.inl ⟨by rfl, ?_⟩) ?_ ?_
        rotate_left
        · intro w'
          go_simp
          with_reducible rfl
        rotate_left
        · simp only [Act.put, List.setIfInBounds_toArray, List.set_cons_zero, List.set_cons_succ, i64_w, i32_w]
          rfl
        refine pure_ (i := 3) (N := some 42) (v := ?_) (a' := ?_) #[true, true, true, true, false, false, false, false, false, false, false] rfl rfl (by kernel_rfl) (fun _ _ _ h => h) (Or.inl ⟨by rfl, ?_⟩) ?_ ?_
        rotate_left
        · intro w'
          go_simp
          with_reducible rfl
        rotate_left
        · simp only [Act.put, List.setIfInBounds_toArray, List.set_cons_zero, List.set_cons_succ, i64_w, i32_w]
          rfl
        refine take_ (i := 4) (N := some 43) (v := ?_) (a' := ?_) #[true, true, true, true, true, false, false, false, false, false, false] rfl rfl (by kernel_rfl) (fun _ _ _ h => h) (Or.inl ⟨by rfl, ?_⟩) hHeld ?_ ?_
        rotate_left
        · rintro w' ⟨s0, s1, s2, s3, s4⟩
          go_simp
          with_reducible rfl
        rotate_left
        · simp only [Act.put, List.setIfInBounds_toArray, List.set_cons_zero, List.set_cons_succ, i64_w, i32_w]
          rfl
        refine take_ (i := 5) (N := some 44) (v := ?_) (a' := ?_) #[true, true, true, true, true, true, false, false, false, false, false] rfl rfl (by kernel_rfl) (fun _ _ _ h => h) (Or.inl ⟨by rfl, ?_⟩) hHeld ?_ ?_
        rotate_left
        · rintro w' ⟨s0, s1, s2, s3, s4⟩
          go_simp
          with_reducible rfl
        rotate_left
        · simp only [Act.put, List.setIfInBounds_toArray, List.set_cons_zero, List.set_cons_succ, i64_w, i32_w]
          rfl
        refine one_ (i := 6) (N := some 45) #[true, true, true, true, true, true, true, false, false, false, false] rfl rfl (by kernel_rfl) (by decide) (fun K hK => ?_)
        refine value_ (w1 := ?_) (v := ?_) (by rfl) rfl ?_ ?_
        rotate_left 2
        · go_simp
          constructor
          · rfl
          · rfl
        refine hK.out _ _ ⟨blk_cell (blk_alloc (blk_drew HX5.out) _) 1, blk_cell (blk_alloc (blk_drew BM5.out) _) 0, blk_cell (blk_alloc (blk_drew BM5.out) _) 1, blk_cell (blk_alloc (blk_drew BM5.out) _) 2, blk_cell (blk_alloc (blk_drew BM5.out) _) 3⟩ (fun hHeld => ?_)
        clear hK K
        refine norm_ (a' := ?_) ?_ ?_
        rotate_left
        · show Act.put _ (some 45) _ = _
          simp only [Act.put, List.setIfInBounds_toArray, List.set_cons_zero, List.set_cons_succ, i64_w, i32_w]
          rfl
        refine last_ (i := 7) (N := some 46) #[true, true, true, true, true, true, true, true, false, false, false] rfl rfl (by kernel_rfl) (by decide) (fun K hK => ?_)
        refine MR_append_step (w0 := w) (W := w5.drew) w.heap.size (by rfl) (.tmp 43) (.tmp 45) rfl (.slice A3 L3 c3) ((gens.take i).map padM) (x0, x1, x2, x3) rfl rfl HV5.out.drew (below_drew1 HB5.out) (below_drew1 HB5.out).size (by rw [List.length_map, List.length_take]; have := HG.out; omega) ?_
        intro v6 w6 ho hb hg hat
        have HV6 := Aside0.mk ho
        have HB6 := Aside0.mk hb
        have HX6 := Aside0.mk (blk_grownMR hg HV5.out.drew (blk_drew HX5.out) (by decide))
        obtain ⟨A6, c6, e6, -⟩ := ho.slice
        obtain ⟨L6, hL6⟩ : ∃ L, L = ((gens.take i).map padM ++ [(x0, x1, x2, x3)]).length := ⟨_, rfl⟩
        rw [← hL6] at e6
        subst e6
        clear ho hb hg hat hL6 fz
        have cx := blk_cell HX6.out 1
        have fx := blk_frozen HX6.out 1
        refine hK.out _ _ ?_
        clear hK K
        refine norm_ (a' := ?_) ?_ ?_
        rotate_left
        · show Act.put _ (some 46) _ = _
          simp only [Act.put, List.setIfInBounds_toArray, List.set_cons_zero, List.set_cons_succ, i64_w, i32_w]
          rfl
        refine pure_ (i := 8) (N := some 47) (v := ?_) (a' := ?_) #[true, true, true, true, true, true, true, true, true, false, false] rfl rfl (by kernel_rfl) (fun _ _ _ h => h) (Or.inl ⟨by rfl, ?_⟩) ?_ ?_
        rotate_left
        · intro w'
          go_simp
          with_reducible rfl
        rotate_left
        · simp only [Act.put, List.setIfInBounds_toArray, List.set_cons_zero, List.set_cons_succ, i64_w, i32_w]
          rfl
        refine pure_ (i := 9) (N := some 48) (v := ?_) (a' := ?_) #[true, true, true, true, true, true, true, true, true, true, false] rfl rfl (by kernel_rfl) (fun _ _ _ h => h) (Or.inl ⟨by rfl, ?_⟩) ?_ ?_
        rotate_left
        · intro w'
          go_simp
          with_reducible rfl
        rotate_left
        · simp only [Act.put, List.setIfInBounds_toArray, List.set_cons_zero, List.set_cons_succ, i64_w, i32_w]
          rfl
        refine last_ (i := 10) (N := none) #[true, true, true, true, true, true, true, true, true, true, true] rfl rfl (by kernel_rfl) (by decide) (fun K hK => ?_)
        refine skip_ (w1 := ?_) (by rfl) rfl ?_ ?_
        rotate_left
        · go_simp
          rfl
        refine hK.out _ _ ?_
        clear hK K
        refine done_ (by kernel_rfl) ?_
        go_wp2
        go_roundg kq
        case measure => have := HI.out; omega
        case rel => exact ⟨i + 1, .slice A6 L6 c6, by first | rfl | rw [hw1], ⟨by have := HI.out; omega⟩, ⟨by rw [HTM.out, ← HPX.out]; exact mr_setOther HV6.out HX6.out (by decide) 1 _⟩, ⟨blk_put HX6.out 1 _ rfl⟩, ⟨by rw [HTK.out, HA.out, hV]; rfl⟩, ⟨below_set HB6.out HGX.out⟩⟩
end Go.Proofs.Ytjkfjnempofihaa.Fi
