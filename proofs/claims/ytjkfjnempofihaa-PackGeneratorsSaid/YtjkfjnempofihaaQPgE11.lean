/- The calls of one. -/
import Derived.Test.YtjkfjnempofihaaQPgE10
import Derived.Laws.CopyOwn
namespace Go.Proofs.Ytjkfjnempofihaa.Fi
open Go.RowKit Go.Shelf Go.Lib Go.Proofs.YtjkfjnempofihaaW.PrintWords Go.Proofs.YtjkfjnempofihaaW.PrintLast Go.Proofs.YtjkfjnempofihaaW.PrintMore
set_option linter.unusedVariables false
set_option linter.unusedSimpArgs false
/-- A list of at most four numbers as a monomial. -/
def padM (l : List Int) : M4 := (l.getD 0 0, l.getD 1 0, l.getD 2 0, l.getD 3 0)
theorem hcp_src {w w2 : World} {ad : Addr} {l : List Int} (h : Kd.C (Kd.int .i64) w (some ad) l.length l) (hb : Below w.heap.size w w2) : ∀ j v, (ints l)[j]? = some v → w2.cell? (ad.add j) = some v := fun j v hj => by
  have hl : j < l.length := by have := (List.getElem?_eq_some_iff.1 hj).1; simpa [ints] using this
  obtain ⟨ad', e, hc⟩ := C_int_cell h (by omega)
  injection e with e
  subst e
  have h1 := pw_cell_below hb (hc j hl)
  rw [h1, ← hj]
  simp [ints, List.getD_eq_getElem?_getD, List.getElem?_eq_getElem hl]
theorem hcp_one (l : List Int) : ∀ v ∈ ints l, v.oneCell' = true := fun v hv => by
  obtain ⟨x, _, rfl⟩ := List.mem_map.1 hv
  rfl
theorem hcp_blk {w : World} {g : Nat} {l : List Int} (h : w.heap[g]? = some (.cells #[.int .i64 0, .int .i64 0, .int .i64 0, .int .i64 0] 75 (0, 0))) (hl : l.length ≤ 4) :
    (w.setRow g ((#[.int .i64 0, .int .i64 0, .int .i64 0, .int .i64 0] : Array Value).toList.take 0 ++ (ints l ++ (#[.int .i64 0, .int .i64 0, .int .i64 0, .int .i64 0] : Array Value).toList.drop (0 + (ints l).length))).toArray).heap[g]? = some (.cells #[.int .i64 (l.getD 0 0), .int .i64 (l.getD 1 0), .int .i64 (l.getD 2 0), .int .i64 (l.getD 3 0)] 75 (0, 0)) := by
  rw [setRow_heap w g _ _ 75 (0, 0) h]
  rcases l with _ | ⟨a, _ | ⟨b, _ | ⟨c, _ | ⟨d, _ | ⟨e, l⟩⟩⟩⟩⟩
  · rfl
  · rfl
  · rfl
  · rfl
  · rfl
  · simp at hl
theorem hcp_below {w0 w : World} {g : Nat} (h : Below w0.heap.size w0 w) (hk : w0.heap.size ≤ g) (l : List Int) :
    Below w0.heap.size w0 (w.setRow g ((#[.int .i64 0, .int .i64 0, .int .i64 0, .int .i64 0] : Array Value).toList.take 0 ++ (ints l ++ (#[.int .i64 0, .int .i64 0, .int .i64 0, .int .i64 0] : Array Value).toList.drop (0 + (ints l).length))).toArray) := below_setRow h hk _
theorem pad_blk {w : World} {g : Nat} {l : List Int} {x0 x1 x2 x3 : Int} (hx : (x0, x1, x2, x3) = padM l) (h : w.heap[g]? = some (.cells #[.int .i64 (l.getD 0 0), .int .i64 (l.getD 1 0), .int .i64 (l.getD 2 0), .int .i64 (l.getD 3 0)] 75 (0, 0))) : w.heap[g]? = some (.cells #[.int .i64 x0, .int .i64 x1, .int .i64 x2, .int .i64 x3] 75 (0, 0)) := by
  unfold padM at hx
  simp only [Prod.mk.injEq] at hx
  obtain ⟨rfl, rfl, rfl, rfl⟩ := hx
  exact h
section
variable {ops : Array Oper} {rest : List Oper} {o : Oper} {a : Act} {Q : Exit → Act → World → Prop}
theorem copy75 {w0 w : World} (hgd : o.guard = none) (d s : Operand) (ho : o.op = .call { callee := .builtin .copy, args := #[d, s], argTypes := #[25, 25] }) (gm : Nat) (ad : Addr) (l : List Int) (c : Nat)
    (hd : a.eval d = .slice (some ⟨gm, 0, none⟩) 4 4) (hs : a.eval s = .slice (some ad) l.length c) (hr : Kd.C (Kd.int .i64) w0 (some ad) l.length l) (hm : w.heap[gm]? = some (.cells #[.int .i64 0, .int .i64 0, .int .i64 0, .int .i64 0] 75 (0, 0))) (hb : Below w0.heap.size w0 w) (hg : w0.heap.size ≤ gm) (hl : l.length ≤ 4)
    (h : ∀ w3, w3.heap[gm]? = some (.cells #[.int .i64 (l.getD 0 0), .int .i64 (l.getD 1 0), .int .i64 (l.getD 2 0), .int .i64 (l.getD 3 0)] 75 (0, 0)) → (∀ k, k ≠ gm → w3.heap[k]? = w.heap[k]?) → Below w0.heap.size w0 w3 → wpList Try.prog ops Q rest (a.put o.dst (goInt (ints l).length)) w3) :
    wpList Try.prog ops Q (o :: rest) a w :=
  wpList_copy_own hgd d s 25 25 ho 3 Try.underlying25 (by kernel_rfl) gm 0 4 4 ad l.length c hd hs #[.int .i64 0, .int .i64 0, .int .i64 0, .int .i64 0] 75 hm (ints l) (by rw [ints, List.length_map]; exact (Nat.min_eq_left hl).symm) (hcp_src hr hb) (by simp [ints]; omega) (hcp_one l)
    (h _ (hcp_blk hm hl) (fun k hk => setRow_other w gm k _ hk) (hcp_below hb hg l))
end
set_option maxHeartbeats 4000000 in
set_option maxRecDepth 100000 in
theorem one_no (n : Nat) (A : Option Addr) (c : Nat) (l : List Int) (w : World) (hn : l.length ≠ n) (hl : l.length ≤ 100000) (hn4 : n ≤ 4) :
    Calls Try.prog 53 #[.int .i64 (n : Int), .slice A l.length c] w fun e w' => e = .returned (.tuple #[ag oneM, .bool false]) ∧ Below w.heap.size w w' := by
  have HB := Aside0.mk (Below.refl w.heap.size w)
  have hne : ((l.length : Int) != (n : Int)) = true := bne_iff_ne.2 (by omega)
  clear hn hl hn4
  go_enter Try.func53, Try.ntmps53
  go_wp2_with (first | ((with_reducible refine gate_dst (N := 4) rfl ?_); refine box_event ?hg (N := 4) ?hd (cs := #[.int .i64 0, .int .i64 0, .int .i64 0, .int .i64 0]) (t := 75) ?hr ?_; (case hd => rfl); (case hg => rfl); (case hr => first | (go_simp; done) | (go_simp; rfl)); intro gr hgr w1 hbox hb; have BR := Aside0.mk hbox; have HB1 := Aside0.mk (below_step HB.out hb); have HGR := Aside0.mk (show w.heap.size ≤ gr from by rw [hgr]; exact HB.out.size); clear hbox hb hgr) | ((with_reducible refine gate_dst (N := 6) rfl ?_); refine box_event ?hg (N := 6) ?hd (cs := #[.int .i64 0, .int .i64 0, .int .i64 0, .int .i64 0]) (t := 75) ?hr ?_; (case hd => rfl); (case hg => rfl); (case hr => first | (go_simp; done) | (go_simp; rfl)); intro gm hgm w2 hbox hb; have BR2 := Aside0.mk (blk_below BR.out hb); have BM := Aside0.mk hbox; have HB2 := Aside0.mk (below_step HB1.out hb); have HGM := Aside0.mk (show gr < gm from by rw [hgm]; exact blk_lt BR.out); clear hb hgm; have s0 := blk_cell hbox 0; have s1 := blk_cell hbox 1; have s2 := blk_cell hbox 2; have s3 := blk_cell hbox 3; have o0 := blk_cell BR2.out 0; have o1 := blk_cell BR2.out 1; have o2 := blk_cell BR2.out 2; have o3 := blk_cell BR2.out 3; have z0 := blk_frozen BR2.out 0; have z1 := blk_frozen BR2.out 1; have z2 := blk_frozen BR2.out 2; have z3 := blk_frozen BR2.out 3; clear hbox))
  have B1 := set4_blk BR2.out oneM
  have hb := set4_below HB2.out HGR.out oneM
  refine bodyPost_ret (results_ct rfl _ _ gr 75 (enc4 oneM).toArray (0, 0) _ rfl B1 Try.underlying75 rfl (by kernel_rfl)) rfl ?_
  exact ⟨rfl, hb⟩
set_option maxHeartbeats 4000000 in
set_option maxRecDepth 100000 in
theorem one_yes (A : Option Addr) (c : Nat) (l : List Int) (w : World) (hr : Kd.C (Kd.int .i64) w A l.length l) (h1 : 0 < l.length) (h4 : l.length ≤ 4) :
    Calls Try.prog 53 #[.int .i64 (l.length : Int), .slice A l.length c] w fun e w' => e = .returned (.tuple #[ag (padM l), .bool (decide (0 ≤ minT l l.length) && decide (maxT l l.length ≤ 6))]) ∧ Below w.heap.size w w' := by
  obtain ⟨ad, rfl, hc⟩ := C_int_cell hr h1
  have HR := Aside0.mk hr
  have HL1 := Aside0.mk h1
  have HL2 := Aside0.mk (show l.length ≤ 100000 by omega)
  have HLE := Aside0.mk h4
  have HMIN := Aside0.mk (show (ints l).length = Nat.min l.length 4 by rw [ints, List.length_map]; exact (Nat.min_eq_left h4).symm)
  have HB := Aside0.mk (Below.refl w.heap.size w)
  have hne : ((l.length : Int) != (l.length : Int)) = false := by simp
  obtain ⟨mn, hmn⟩ : ∃ m, m = minT l l.length := ⟨_, rfl⟩
  obtain ⟨mx, hmx⟩ : ∃ m, m = maxT l l.length := ⟨_, rfl⟩
  rw [← hmn, ← hmx]
  have HMN := Aside0.mk hmn
  have HMX := Aside0.mk hmx
  obtain ⟨⟨x0, x1, x2, x3⟩, hx⟩ : ∃ x, x = padM l := ⟨_, rfl⟩
  rw [← hx]
  have HP := Aside0.mk hx
  show Calls Try.prog 53 #[.int .i64 (l.length : Int), .slice (some ad) l.length c] w fun e w' => e = .returned (.tuple #[.agg #[.int .i64 x0, .int .i64 x1, .int .i64 x2, .int .i64 x3], .bool (decide (0 ≤ mn) && decide (mx ≤ 6))]) ∧ Below w.heap.size w w'
  clear hr h1 h4 hc hmn hmx hx
  cases d1 : decide (0 ≤ mn) with
  | true =>
    go_enter Try.func53, Try.ntmps53
    go_wp2_with (first | ((with_reducible refine gate_dst (N := 4) rfl ?_); refine box_event ?hg (N := 4) ?hd (cs := #[.int .i64 0, .int .i64 0, .int .i64 0, .int .i64 0]) (t := 75) ?hr ?_; (case hd => rfl); (case hg => rfl); (case hr => first | (go_simp; done) | (go_simp; rfl)); intro gr hgr w1 hbox hb; have BR := Aside0.mk hbox; have HB1 := Aside0.mk (below_step HB.out hb); have HGR := Aside0.mk (show w.heap.size ≤ gr from by rw [hgr]; exact HB.out.size); clear hbox hb hgr) | ((with_reducible refine gate_dst (N := 6) rfl ?_); refine box_event ?hg (N := 6) ?hd (cs := #[.int .i64 0, .int .i64 0, .int .i64 0, .int .i64 0]) (t := 75) ?hr ?_; (case hd => rfl); (case hg => rfl); (case hr => first | (go_simp; done) | (go_simp; rfl)); intro gm hgm w2 hbox hb; have BR2 := Aside0.mk (blk_below BR.out hb); have BM := Aside0.mk hbox; have HB2 := Aside0.mk (below_step HB1.out hb); have HGM := Aside0.mk (show gr < gm from by rw [hgm]; exact blk_lt BR.out); clear hb hgm hbox) | ((with_reducible refine gate_builtin (b := .copy) (xs := #[.tmp 12, .tmp 13]) rfl ?_); refine copy75 (w0 := w) rfl (.tmp 12) (.tmp 13) rfl gm ad l c rfl rfl HR.out BM.out HB2.out (Nat.le_trans HGR.out (Nat.le_of_lt HGM.out)) HLE.out ?_; intro w3 hm hf hb; have BM3 : Aside0 (w3.heap[gm]? = some (.cells #[.int .i64 x0, .int .i64 x1, .int .i64 x2, .int .i64 x3] 75 (0, 0))) := ⟨pad_blk HP.out hm⟩; have BR3 := Aside0.mk ((hf gr (Nat.ne_of_lt HGM.out)).trans BR2.out); have HB3 := Aside0.mk hb; clear hm hf hb))
    have BRW := BR3.out
    have o0 := blk_cell BRW 0
    have o1 := blk_cell BRW 1
    have o2 := blk_cell BRW 2
    have o3 := blk_cell BRW 3
    have z0 := blk_frozen BRW 0
    have z1 := blk_frozen BRW 1
    have z2 := blk_frozen BRW 2
    have z3 := blk_frozen BRW 3
    clear BRW
    refine start_ (n := 11) (S := fun w' => w'.cell? ⟨gm, 0, none⟩ = some (.int .i64 x0) ∧ w'.cell? ⟨gm, 1, none⟩ = some (.int .i64 x1) ∧ w'.cell? ⟨gm, 2, none⟩ = some (.int .i64 x2) ∧ w'.cell? ⟨gm, 3, none⟩ = some (.int .i64 x3)) (ds := [9]) #[false, false, false, false, false, false, false, false, false, false, false] (by kernel_rfl) rfl rfl ⟨blk_cell (blk_drew BM3.out) 0, blk_cell (blk_drew BM3.out) 1, blk_cell (blk_drew BM3.out) 2, blk_cell (blk_drew BM3.out) 3⟩ (fun hHeld => ?_)
    refine take_ (i := 0) (N := some 15) (v := ?_) (a' := ?_) #[true, false, false, false, false, false, false, false, false, false, false] rfl rfl (by kernel_rfl) (fun _ _ _ h => h) (Or.inl ⟨by rfl, ?_⟩) hHeld ?_ ?_
    rotate_left
    · rintro w' ⟨s0, s1, s2, s3⟩
      go_simp
      with_reducible rfl
    rotate_left
    · simp only [Act.put, List.setIfInBounds_toArray, List.set_cons_zero, List.set_cons_succ, i64_w, i32_w]
      rfl
    refine pure_ (i := 1) (N := some 16) (v := ?_) (a' := ?_) #[true, true, false, false, false, false, false, false, false, false, false] rfl rfl (by kernel_rfl) (fun _ _ _ h => h) (Or.inl ⟨by rfl, ?_⟩) ?_ ?_
    rotate_left
    · intro w'
      go_simp
      with_reducible rfl
    rotate_left
    · simp only [Act.put, List.setIfInBounds_toArray, List.set_cons_zero, List.set_cons_succ, i64_w, i32_w]
      rfl
    refine one_ (i := 2) (N := some 17) #[true, true, true, false, false, false, false, false, false, false, false] rfl rfl (by kernel_rfl) (by decide) (fun K hK => ?_)
    refine goes_ Try.func75 (by kernel_rfl) rfl #[.slice (some ad) l.length c] (by rfl) rfl rfl (by first | rfl | (simp only [List.map_toArray, List.map_cons, List.map_nil]; rfl)) ?_
    refine (min_called HMN.out (Kd.C_below HR.out (below_drew1 HB3.out)) HL1.out HL2.out).mono ?_
    rintro e w9 ⟨rfl, rfl⟩
    refine ⟨_, rfl, ?_⟩
    refine hK.out _ _ ⟨blk_cell (blk_drew BM3.out) 0, blk_cell (blk_drew BM3.out) 1, blk_cell (blk_drew BM3.out) 2, blk_cell (blk_drew BM3.out) 3⟩ (fun hHeld => ?_)
    clear hK K
    refine norm_ (a' := ?_) ?_ ?_
    rotate_left
    · show Act.put _ (some 17) _ = _
      simp only [Act.put, List.setIfInBounds_toArray, List.set_cons_zero, List.set_cons_succ, i64_w, i32_w]
      rfl
    refine pure_ (i := 3) (N := some 18) (v := ?_) (a' := ?_) #[true, true, true, true, false, false, false, false, false, false, false] rfl rfl (by kernel_rfl) (fun _ _ _ h => h) (Or.inl ⟨by rfl, ?_⟩) ?_ ?_
    rotate_left
    · intro w'
      go_simp
      with_reducible rfl
    rotate_left
    · simp only [Act.put, List.setIfInBounds_toArray, List.set_cons_zero, List.set_cons_succ, i64_w, i32_w]
      rfl
    refine pure_ (i := 4) (N := some 19) (v := ?_) (a' := ?_) #[true, true, true, true, true, false, false, false, false, false, false] rfl rfl (by kernel_rfl) (fun _ _ _ h => h) (Or.inl ⟨by rfl, ?_⟩) ?_ ?_
    rotate_left
    · intro w'
      go_simp
      with_reducible rfl
    rotate_left
    · simp only [Act.put, List.setIfInBounds_toArray, List.set_cons_zero, List.set_cons_succ, i64_w, i32_w]
      rfl
    refine pure_ (i := 5) (N := some 20) (v := ?_) (a' := ?_) #[true, true, true, true, true, true, false, false, false, false, false] rfl rfl (by kernel_rfl) (fun _ _ _ h => h) (Or.inl ⟨by rfl, ?_⟩) ?_ ?_
    rotate_left
    · intro w'
      go_simp
      with_reducible rfl
    rotate_left
    · simp only [Act.put, List.setIfInBounds_toArray, List.set_cons_zero, List.set_cons_succ, i64_w, i32_w]
      rfl
    refine one_ (i := 6) (N := some 21) #[true, true, true, true, true, true, true, false, false, false, false] rfl rfl (by kernel_rfl) (by decide) (fun K hK => ?_)
    refine goes_ Try.func76 (by kernel_rfl) rfl #[.slice (some ad) l.length c] (by rfl) rfl rfl (by first | rfl | (simp only [List.map_toArray, List.map_cons, List.map_nil]; rfl)) ?_
    refine (max_called HMX.out (Kd.C_below HR.out (below_drew1 HB3.out)) HL1.out HL2.out).mono ?_
    rintro e w9 ⟨rfl, rfl⟩
    refine ⟨_, rfl, ?_⟩
    refine hK.out _ _ ⟨blk_cell (blk_drew BM3.out) 0, blk_cell (blk_drew BM3.out) 1, blk_cell (blk_drew BM3.out) 2, blk_cell (blk_drew BM3.out) 3⟩ (fun hHeld => ?_)
    clear hK K
    refine norm_ (a' := ?_) ?_ ?_
    rotate_left
    · show Act.put _ (some 21) _ = _
      simp only [Act.put, List.setIfInBounds_toArray, List.set_cons_zero, List.set_cons_succ, i64_w, i32_w]
      rfl
    refine pure_ (i := 7) (N := some 22) (v := ?_) (a' := ?_) #[true, true, true, true, true, true, true, true, false, false, false] rfl rfl (by kernel_rfl) (fun _ _ _ h => h) (Or.inl ⟨by rfl, ?_⟩) ?_ ?_
    rotate_left
    · intro w'
      go_simp
      with_reducible rfl
    rotate_left
    · simp only [Act.put, List.setIfInBounds_toArray, List.set_cons_zero, List.set_cons_succ, i64_w, i32_w]
      rfl
    refine pure_ (i := 8) (N := some 23) (v := ?_) (a' := ?_) #[true, true, true, true, true, true, true, true, true, false, false] rfl rfl (by kernel_rfl) (fun _ _ _ h => h) (Or.inl ⟨by rfl, ?_⟩) ?_ ?_
    rotate_left
    · intro w'
      go_simp
      with_reducible rfl
    rotate_left
    · simp only [Act.put, List.setIfInBounds_toArray, List.set_cons_zero, List.set_cons_succ, i64_w, i32_w]
      rfl
    refine last_ (i := 9) (N := none) #[true, true, true, true, true, true, true, true, true, true, false] rfl rfl (by kernel_rfl) (by decide) (fun K hK => ?_)
    refine skip_ (w1 := ?_) (by rfl) rfl ?_ ?_
    rotate_left
    · go_simp
      rfl
    refine hK.out _ _ ?_
    clear hK K
    refine pure_ (i := 10) (N := some 5) (v := ?_) (a' := ?_) #[true, true, true, true, true, true, true, true, true, true, true] rfl rfl (by kernel_rfl) (fun _ _ _ h => h) (Or.inl ⟨by rfl, ?_⟩) ?_ ?_
    rotate_left
    · intro w'
      go_simp
      with_reducible rfl
    rotate_left
    · simp only [Act.put, List.setIfInBounds_toArray, List.set_cons_zero, List.set_cons_succ, i64_w, i32_w]
      rfl
    refine done_ (by kernel_rfl) ?_
    go_wp2
    have B1 := blk_drew (set4_blk BR3.out (x0, x1, x2, x3))
    have hb := below_drew1 (set4_below HB3.out HGR.out (x0, x1, x2, x3))
    refine bodyPost_ret (results_ct rfl _ _ gr 75 #[.int .i64 x0, .int .i64 x1, .int .i64 x2, .int .i64 x3] (0, 0) _ rfl B1 Try.underlying75 rfl (by kernel_rfl)) rfl ?_
    exact ⟨rfl, hb⟩
  | false =>
    go_enter Try.func53, Try.ntmps53
    go_wp2_with (first | ((with_reducible refine gate_dst (N := 4) rfl ?_); refine box_event ?hg (N := 4) ?hd (cs := #[.int .i64 0, .int .i64 0, .int .i64 0, .int .i64 0]) (t := 75) ?hr ?_; (case hd => rfl); (case hg => rfl); (case hr => first | (go_simp; done) | (go_simp; rfl)); intro gr hgr w1 hbox hb; have BR := Aside0.mk hbox; have HB1 := Aside0.mk (below_step HB.out hb); have HGR := Aside0.mk (show w.heap.size ≤ gr from by rw [hgr]; exact HB.out.size); clear hbox hb hgr) | ((with_reducible refine gate_dst (N := 6) rfl ?_); refine box_event ?hg (N := 6) ?hd (cs := #[.int .i64 0, .int .i64 0, .int .i64 0, .int .i64 0]) (t := 75) ?hr ?_; (case hd => rfl); (case hg => rfl); (case hr => first | (go_simp; done) | (go_simp; rfl)); intro gm hgm w2 hbox hb; have BR2 := Aside0.mk (blk_below BR.out hb); have BM := Aside0.mk hbox; have HB2 := Aside0.mk (below_step HB1.out hb); have HGM := Aside0.mk (show gr < gm from by rw [hgm]; exact blk_lt BR.out); clear hb hgm hbox) | ((with_reducible refine gate_builtin (b := .copy) (xs := #[.tmp 12, .tmp 13]) rfl ?_); refine copy75 (w0 := w) rfl (.tmp 12) (.tmp 13) rfl gm ad l c rfl rfl HR.out BM.out HB2.out (Nat.le_trans HGR.out (Nat.le_of_lt HGM.out)) HLE.out ?_; intro w3 hm hf hb; have BM3 : Aside0 (w3.heap[gm]? = some (.cells #[.int .i64 x0, .int .i64 x1, .int .i64 x2, .int .i64 x3] 75 (0, 0))) := ⟨pad_blk HP.out hm⟩; have BR3 := Aside0.mk ((hf gr (Nat.ne_of_lt HGM.out)).trans BR2.out); have HB3 := Aside0.mk hb; clear hm hf hb))
    have BRW := BR3.out
    have o0 := blk_cell BRW 0
    have o1 := blk_cell BRW 1
    have o2 := blk_cell BRW 2
    have o3 := blk_cell BRW 3
    have z0 := blk_frozen BRW 0
    have z1 := blk_frozen BRW 1
    have z2 := blk_frozen BRW 2
    have z3 := blk_frozen BRW 3
    clear BRW
    refine start_ (n := 11) (S := fun w' => w'.cell? ⟨gm, 0, none⟩ = some (.int .i64 x0) ∧ w'.cell? ⟨gm, 1, none⟩ = some (.int .i64 x1) ∧ w'.cell? ⟨gm, 2, none⟩ = some (.int .i64 x2) ∧ w'.cell? ⟨gm, 3, none⟩ = some (.int .i64 x3)) (ds := [9]) #[false, false, false, false, false, false, false, false, false, false, false] (by kernel_rfl) rfl rfl ⟨blk_cell (blk_drew BM3.out) 0, blk_cell (blk_drew BM3.out) 1, blk_cell (blk_drew BM3.out) 2, blk_cell (blk_drew BM3.out) 3⟩ (fun hHeld => ?_)
    refine take_ (i := 0) (N := some 15) (v := ?_) (a' := ?_) #[true, false, false, false, false, false, false, false, false, false, false] rfl rfl (by kernel_rfl) (fun _ _ _ h => h) (Or.inl ⟨by rfl, ?_⟩) hHeld ?_ ?_
    rotate_left
    · rintro w' ⟨s0, s1, s2, s3⟩
      go_simp
      with_reducible rfl
    rotate_left
    · simp only [Act.put, List.setIfInBounds_toArray, List.set_cons_zero, List.set_cons_succ, i64_w, i32_w]
      rfl
    refine pure_ (i := 1) (N := some 16) (v := ?_) (a' := ?_) #[true, true, false, false, false, false, false, false, false, false, false] rfl rfl (by kernel_rfl) (fun _ _ _ h => h) (Or.inl ⟨by rfl, ?_⟩) ?_ ?_
    rotate_left
    · intro w'
      go_simp
      with_reducible rfl
    rotate_left
    · simp only [Act.put, List.setIfInBounds_toArray, List.set_cons_zero, List.set_cons_succ, i64_w, i32_w]
      rfl
    refine one_ (i := 2) (N := some 17) #[true, true, true, false, false, false, false, false, false, false, false] rfl rfl (by kernel_rfl) (by decide) (fun K hK => ?_)
    refine goes_ Try.func75 (by kernel_rfl) rfl #[.slice (some ad) l.length c] (by rfl) rfl rfl (by first | rfl | (simp only [List.map_toArray, List.map_cons, List.map_nil]; rfl)) ?_
    refine (min_called HMN.out (Kd.C_below HR.out (below_drew1 HB3.out)) HL1.out HL2.out).mono ?_
    rintro e w9 ⟨rfl, rfl⟩
    refine ⟨_, rfl, ?_⟩
    refine hK.out _ _ ⟨blk_cell (blk_drew BM3.out) 0, blk_cell (blk_drew BM3.out) 1, blk_cell (blk_drew BM3.out) 2, blk_cell (blk_drew BM3.out) 3⟩ (fun hHeld => ?_)
    clear hK K
    refine norm_ (a' := ?_) ?_ ?_
    rotate_left
    · show Act.put _ (some 17) _ = _
      simp only [Act.put, List.setIfInBounds_toArray, List.set_cons_zero, List.set_cons_succ, i64_w, i32_w]
      rfl
    refine pure_ (i := 3) (N := some 18) (v := ?_) (a' := ?_) #[true, true, true, true, false, false, false, false, false, false, false] rfl rfl (by kernel_rfl) (fun _ _ _ h => h) (Or.inl ⟨by rfl, ?_⟩) ?_ ?_
    rotate_left
    · intro w'
      go_simp
      with_reducible rfl
    rotate_left
    · simp only [Act.put, List.setIfInBounds_toArray, List.set_cons_zero, List.set_cons_succ, i64_w, i32_w]
      rfl
    refine pure_ (i := 4) (N := some 19) (v := ?_) (a' := ?_) #[true, true, true, true, true, false, false, false, false, false, false] rfl rfl (by kernel_rfl) (fun _ _ _ h => h) (Or.inl ⟨by rfl, ?_⟩) ?_ ?_
    rotate_left
    · intro w'
      go_simp
      with_reducible rfl
    rotate_left
    · simp only [Act.put, List.setIfInBounds_toArray, List.set_cons_zero, List.set_cons_succ, i64_w, i32_w]
      rfl
    refine pure_ (i := 5) (N := some 20) (v := undef) (a' := ?_) #[true, true, true, true, true, true, false, false, false, false, false] rfl rfl (by kernel_rfl) (fun _ _ _ h => h) (Or.inr ⟨by rfl, rfl⟩) ?_ ?_
    rotate_left
    · simp only [Act.put, List.setIfInBounds_toArray, List.set_cons_zero, List.set_cons_succ, i64_w, i32_w]
      rfl
    refine pure_ (i := 6) (N := some 21) (v := undef) (a' := ?_) #[true, true, true, true, true, true, true, false, false, false, false] rfl rfl (by kernel_rfl) (fun _ _ _ h => h) (Or.inr ⟨by rfl, rfl⟩) ?_ ?_
    rotate_left
    · simp only [Act.put, List.setIfInBounds_toArray, List.set_cons_zero, List.set_cons_succ, i64_w, i32_w]
      rfl
    refine pure_ (i := 7) (N := some 22) (v := undef) (a' := ?_) #[true, true, true, true, true, true, true, true, false, false, false] rfl rfl (by kernel_rfl) (fun _ _ _ h => h) (Or.inr ⟨by rfl, rfl⟩) ?_ ?_
    rotate_left
    · simp only [Act.put, List.setIfInBounds_toArray, List.set_cons_zero, List.set_cons_succ, i64_w, i32_w]
      rfl
    refine pure_ (i := 8) (N := some 23) (v := ?_) (a' := ?_) #[true, true, true, true, true, true, true, true, true, false, false] rfl rfl (by kernel_rfl) (fun _ _ _ h => h) (Or.inl ⟨by rfl, ?_⟩) ?_ ?_
    rotate_left
    · intro w'
      go_simp
      with_reducible rfl
    rotate_left
    · simp only [Act.put, List.setIfInBounds_toArray, List.set_cons_zero, List.set_cons_succ, i64_w, i32_w]
      rfl
    refine last_ (i := 9) (N := none) #[true, true, true, true, true, true, true, true, true, true, false] rfl rfl (by kernel_rfl) (by decide) (fun K hK => ?_)
    refine skip_ (w1 := ?_) (by rfl) rfl ?_ ?_
    rotate_left
    · go_simp
      rfl
    refine hK.out _ _ ?_
    clear hK K
    refine pure_ (i := 10) (N := some 5) (v := ?_) (a' := ?_) #[true, true, true, true, true, true, true, true, true, true, true] rfl rfl (by kernel_rfl) (fun _ _ _ h => h) (Or.inl ⟨by rfl, ?_⟩) ?_ ?_
    rotate_left
    · intro w'
      go_simp
      with_reducible rfl
    rotate_left
    · simp only [Act.put, List.setIfInBounds_toArray, List.set_cons_zero, List.set_cons_succ, i64_w, i32_w]
      rfl
    refine done_ (by kernel_rfl) ?_
    go_wp2
    have B1 := blk_drew (set4_blk BR3.out (x0, x1, x2, x3))
    have hb := below_drew1 (set4_below HB3.out HGR.out (x0, x1, x2, x3))
    refine bodyPost_ret (results_ct rfl _ _ gr 75 #[.int .i64 x0, .int .i64 x1, .int .i64 x2, .int .i64 x3] (0, 0) _ rfl B1 Try.underlying75 rfl (by kernel_rfl)) rfl ?_
    exact ⟨rfl, hb⟩
end Go.Proofs.Ytjkfjnempofihaa.Fi
