/- The calls of minimal, has and whole. -/
import Derived.Test.YtjkfjnempofihaaQPgE7
namespace Go.Proofs.Ytjkfjnempofihaa.Fi
open Go.RowKit Go.Shelf Go.Lib Go.Proofs.YtjkfjnempofihaaW.PrintWords Go.Proofs.YtjkfjnempofihaaW.PrintLast Go.Proofs.YtjkfjnempofihaaW.PrintMore
set_option linter.unusedVariables false
set_option linter.unusedSimpArgs false
/-- An ideal in memory. -/
structure IA (w : World) (g : Nat) (n : Int) (v : Value) (l : List M4) : Prop where
  blk : w.heap[g]? = some (.cells #[.int .i64 n, v] 81 (0, 0))
  row : MR w 0 v l
theorem IA.below {w w1 : World} {g : Nat} {n : Int} {v : Value} {l : List M4} (h : IA w g n v l) (hb : Below w.heap.size w w1) : IA w1 g n v l := ⟨blk_below h.blk hb, h.row.below hb⟩
theorem IA.drew {w : World} {g : Nat} {n : Int} {v : Value} {l : List M4} (h : IA w g n v l) : IA w.drew g n v l := ⟨blk_drew h.blk, h.row.drew⟩
abbrev pt (g : Nat) : Value := .pointer (some ⟨g, 0, none⟩)
set_option maxHeartbeats 4000000 in
set_option maxRecDepth 20000000 in
theorem minimal_calls (g : Nat) (n : Int) (v : Value) (l : List M4) (w : World) (h : IA w g n v l) (hl : l.length ≤ 20000000) :
    Calls Try.prog 55 #[pt g] w fun e w' => ∃ g' v', e = .returned (pt g') ∧ w.heap.size ≤ g' ∧ IA w' g' n v' (lstM divM l) ∧ Below w.heap.size w w' := by
  have HI := Aside0.mk h
  have HL := Aside0.mk hl
  have HB := Aside0.mk (Below.refl w.heap.size w)
  have c0 := blk_cell h.blk 0
  have c1 := blk_cell h.blk 1
  obtain ⟨A, c, rfl, hbig⟩ := h.row.slice
  clear h hl hbig
  show Calls Try.prog 55 #[.pointer (some ⟨g, 0, none⟩)] w _
  go_enter Try.func55, Try.ntmps55
  go_wp2
  refine start_ (n := 12) (S := fun w' => w'.cell? ⟨g, 0, none⟩ = some (.int .i64 n) ∧ w'.cell? ⟨g, 1, none⟩ = some (.slice A l.length c)) (ds := [10]) #[false, false, false, false, false, false, false, false, false, false, false, false] (by kernel_rfl) rfl rfl ⟨c0, c1⟩ (fun hHeld => ?_)
  refine pure_ (i := 0) (N := some 3) (v := ?_) (a' := ?_) #[true, false, false, false, false, false, false, false, false, false, false, false] rfl rfl (by kernel_rfl) (fun _ _ _ h => h) (Or.inl ⟨by rfl, ?_⟩) ?_ ?_
  rotate_left
  · intro w'
    go_simp
    with_reducible rfl
  rotate_left
  · simp only [Act.put, List.setIfInBounds_toArray, List.set_cons_zero, List.set_cons_succ, i64_w, i32_w]
    rfl
  refine pure_ (i := 1) (N := some 4) (v := ?_) (a' := ?_) #[true, true, false, false, false, false, false, false, false, false, false, false] rfl rfl (by kernel_rfl) (fun _ _ _ h => h) (Or.inl ⟨by rfl, ?_⟩) ?_ ?_
  rotate_left
  · intro w'
    go_simp
    with_reducible rfl
  rotate_left
  · simp only [Act.put, List.setIfInBounds_toArray, List.set_cons_zero, List.set_cons_succ, i64_w, i32_w]
    rfl
  refine pure_ (i := 2) (N := some 5) (v := ?_) (a' := ?_) #[true, true, true, false, false, false, false, false, false, false, false, false] rfl rfl (by kernel_rfl) (fun _ _ _ h => h) (Or.inl ⟨by rfl, ?_⟩) ?_ ?_
  rotate_left
  · intro w'
    go_simp
    with_reducible rfl
  rotate_left
  · simp only [Act.put, List.setIfInBounds_toArray, List.set_cons_zero, List.set_cons_succ, i64_w, i32_w]
    rfl
  refine pure_ (i := 4) (N := some 7) (v := ?_) (a' := ?_) #[true, true, true, false, true, false, false, false, false, false, false, false] rfl rfl (by kernel_rfl) (fun _ _ _ h => h) (Or.inl ⟨by rfl, ?_⟩) ?_ ?_
  rotate_left
  · intro w'
    go_simp
    with_reducible rfl
  rotate_left
  · simp only [Act.put, List.setIfInBounds_toArray, List.set_cons_zero, List.set_cons_succ, i64_w, i32_w]
    rfl
  refine pure_ (i := 5) (N := some 8) (v := ?_) (a' := ?_) #[true, true, true, false, true, true, false, false, false, false, false, false] rfl rfl (by kernel_rfl) (fun _ _ _ h => h) (Or.inl ⟨by rfl, ?_⟩) ?_ ?_
  rotate_left
  · intro w'
    go_simp
    with_reducible rfl
  rotate_left
  · simp only [Act.put, List.setIfInBounds_toArray, List.set_cons_zero, List.set_cons_succ, i64_w, i32_w]
    rfl
  refine pure_ (i := 6) (N := some 9) (v := ?_) (a' := ?_) #[true, true, true, false, true, true, true, false, false, false, false, false] rfl rfl (by kernel_rfl) (fun _ _ _ h => h) (Or.inl ⟨by rfl, ?_⟩) ?_ ?_
  rotate_left
  · intro w'
    go_simp
    with_reducible rfl
  rotate_left
  · simp only [Act.put, List.setIfInBounds_toArray, List.set_cons_zero, List.set_cons_succ, i64_w, i32_w]
    rfl
  refine take_ (i := 3) (N := some 6) (v := ?_) (a' := ?_) #[true, true, true, true, true, true, true, false, false, false, false, false] rfl rfl (by kernel_rfl) (fun _ _ _ h => h) (Or.inl ⟨by rfl, ?_⟩) hHeld ?_ ?_
  rotate_left
  · rintro w' ⟨s0, s1⟩
    go_simp
    with_reducible rfl
  rotate_left
  · simp only [Act.put, List.setIfInBounds_toArray, List.set_cons_zero, List.set_cons_succ, i64_w, i32_w]
    rfl
  refine take_ (i := 7) (N := some 10) (v := ?_) (a' := ?_) #[true, true, true, true, true, true, true, true, false, false, false, false] rfl rfl (by kernel_rfl) (fun _ _ _ h => h) (Or.inl ⟨by rfl, ?_⟩) hHeld ?_ ?_
  rotate_left
  · rintro w' ⟨s0, s1⟩
    go_simp
    with_reducible rfl
  rotate_left
  · simp only [Act.put, List.setIfInBounds_toArray, List.set_cons_zero, List.set_cons_succ, i64_w, i32_w]
    rfl
  refine one_ (i := 8) (N := some 11) #[true, true, true, true, true, true, true, true, true, false, false, false] rfl rfl (by kernel_rfl) (by decide) (fun K hK => ?_)
  refine goes_ Try.func78 (by kernel_rfl) rfl #[.slice A l.length c, .func (.func 57) #[] #[], .func (.func 79) #[] #[]] (by rfl) rfl rfl (by first | rfl | (simp only [List.map_toArray, List.map_cons, List.map_nil]; rfl)) ?_
  refine (least_calls divM 57 divF _ l _ HI.out.drew.row HL.out).mono ?_
  rintro e w9 ⟨v9, rfl, hm, hb9⟩
  obtain ⟨A9, c9, rfl, -⟩ := hm.slice
  have HI9 := Aside0.mk (HI.out.drew.below hb9)
  have HM9 := Aside0.mk hm
  have HB9 := Aside0.mk (below_step (below_drew1 HB.out) hb9)
  clear hm hb9
  refine ⟨_, rfl, ?_⟩
  refine hK.out _ _ ⟨blk_cell HI9.out.blk 0, blk_cell HI9.out.blk 1⟩ (fun hHeld => ?_)
  clear hK K
  refine norm_ (a' := ?_) ?_ ?_
  rotate_left
  · show Act.put _ (some 11) _ = _
    simp only [Act.put, List.setIfInBounds_toArray, List.set_cons_zero, List.set_cons_succ, i64_w, i32_w]
    rfl
  refine pure_ (i := 9) (N := some 12) (v := ?_) (a' := ?_) #[true, true, true, true, true, true, true, true, true, true, false, false] rfl rfl (by kernel_rfl) (fun _ _ _ h => h) (Or.inl ⟨by rfl, ?_⟩) ?_ ?_
  rotate_left
  · intro w'
    go_simp
    with_reducible rfl
  rotate_left
  · simp only [Act.put, List.setIfInBounds_toArray, List.set_cons_zero, List.set_cons_succ, i64_w, i32_w]
    rfl
  refine last_ (i := 10) (N := some 13) #[true, true, true, true, true, true, true, true, true, true, true, false] rfl rfl (by kernel_rfl) (by decide) (fun K hK => ?_)
  refine value_ (w1 := ?_) (v := ?_) (by rfl) rfl ?_ ?_
  rotate_left 2
  · go_simp
    constructor
    · rfl
    · rfl
  refine hK.out _ _ ?_
  clear hK K
  refine norm_ (a' := ?_) ?_ ?_
  rotate_left
  · show Act.put _ (some 13) _ = _
    simp only [Act.put, List.setIfInBounds_toArray, List.set_cons_zero, List.set_cons_succ, i64_w, i32_w]
    rfl
  refine pure_ (i := 11) (N := some 2) (v := ?_) (a' := ?_) #[true, true, true, true, true, true, true, true, true, true, true, true] rfl rfl (by kernel_rfl) (fun _ _ _ h => h) (Or.inl ⟨by rfl, ?_⟩) ?_ ?_
  rotate_left
  · intro w'
    go_simp
    with_reducible rfl
  rotate_left
  · simp only [Act.put, List.setIfInBounds_toArray, List.set_cons_zero, List.set_cons_succ, i64_w, i32_w]
    rfl
  refine done_ (by kernel_rfl) ?_
  go_wp2
  go_ret
  have HM8 := HM9.out
  refine ⟨w9.heap.size, _, rfl, HB9.out.size, ⟨heap_alloc_new w9 _, (HM8.zero).alloc _⟩, below_alloc HB9.out _⟩
set_option maxHeartbeats 4000000 in
set_option maxRecDepth 20000000 in
theorem has1_calls (x m : M4) (gm : Nat) (w : World) (hm : w.heap[gm]? = some (.cells (enc4 m).toArray 75 (0, 0))) :
    Calls Try.prog 85 #[ag x, pt gm] w fun e w' => e = .returned (.bool (divM x m)) ∧ Below w.heap.size w w' := by
  have HB := Aside0.mk (Below.refl w.heap.size w)
  have HM := Aside0.mk hm
  have HC := Aside0.mk (divM_calls x m)
  obtain ⟨r, hr⟩ : ∃ r, divM x m = r := ⟨_, rfl⟩
  rw [hr] at HC ⊢
  clear hm hr
  obtain ⟨m0, m1, m2, m3⟩ := m
  obtain ⟨x0, x1, x2, x3⟩ := x
  show Calls Try.prog 85 #[.agg #[.int .i64 x0, .int .i64 x1, .int .i64 x2, .int .i64 x3], .pointer (some ⟨gm, 0, none⟩)] w _
  go_enter Try.func85, Try.ntmps85
  go_wp2_with (first
    | ((with_reducible refine gate_dst (N := 2) rfl ?_); refine box_event ?hg (N := 2) ?hd (cs := #[.int .i64 x0, .int .i64 x1, .int .i64 x2, .int .i64 x3]) (t := 75) ?hr ?_; (case hd => rfl); (case hg => rfl); (case hr => first | (go_simp; done) | (go_simp; rfl)); intro ga hga w1 hbox hb; have BX : w1.heap[gm]? = some (.cells #[.int .i64 m0, .int .i64 m1, .int .i64 m2, .int .i64 m3] 75 (0, 0)) := blk_below HM.out hb; have s0 := blk_cell hbox 0; have s1 := blk_cell hbox 1; have s2 := blk_cell hbox 2; have s3 := blk_cell hbox 3; have o0 := blk_cell BX 0; have o1 := blk_cell BX 1; have o2 := blk_cell BX 2; have o3 := blk_cell BX 3; have HB1 := Aside0.mk (below_step HB.out hb); clear hbox hb hga BX)
    | (go_at_call 57; refine (HC.out _).mono ?_; rintro e w2 ⟨rfl, hb⟩; have HB2 := Aside0.mk (below_step HB1.out hb); clear hb))
  go_ret
  exact ⟨rfl, HB2.out⟩
theorem eg85 (args : Array Value) (w : World) : (callFunc 85 args).run Try.prog w = .ok (.enter 85 args) w := enters_ Try.func85 (by kernel_rfl) rfl args w
theorem anyHas (l : List M4) (v : Value) (m : M4) (gm : Nat) (W : World) (hM : MR W 0 v l) (hm : W.heap[gm]? = some (.cells (enc4 m).toArray 75 (0, 0))) :
    Calls Try.prog 54 #[v, .func (.func 85) #[] #[.pointer (some ⟨gm, 0, none⟩)]] W fun e w' => e = .returned (.bool (l.any fun x => divM x m)) ∧ Below W.heap.size W w' :=
  any_calls v l (fun x => divM x m) 85 _ W eg85 hM (fun W' y hW => (has1_calls y m gm W' (blk_below hm hW)).mono (fun e w' hh => ⟨hh.1, below_step hW hh.2⟩))
set_option maxHeartbeats 4000000 in
set_option maxRecDepth 20000000 in
theorem ihas_calls (g : Nat) (n : Int) (v : Value) (l : List M4) (m : M4) (w : World) (h : IA w g n v l) :
    Calls Try.prog 67 #[pt g, ag m] w fun e w' => e = .returned (.bool (l.any fun x => divM x m)) ∧ Below w.heap.size w w' := by
  have HI := Aside0.mk h
  have HB := Aside0.mk (Below.refl w.heap.size w)
  obtain ⟨A, c, rfl, hbig⟩ := h.row.slice
  clear h hbig
  have HC := Aside0.mk (fun gm W h1 h2 => anyHas l (.slice A l.length c) m gm W h1 h2)
  obtain ⟨r, hr⟩ : ∃ r, (l.any fun x => divM x m) = r := ⟨_, rfl⟩
  rw [hr] at HC ⊢
  clear hr
  obtain ⟨m0, m1, m2, m3⟩ := m
  show Calls Try.prog 67 #[.pointer (some ⟨g, 0, none⟩), .agg #[.int .i64 m0, .int .i64 m1, .int .i64 m2, .int .i64 m3]] w _
  go_enter Try.func67, Try.ntmps67
  go_wp2_with (first
    | ((with_reducible refine gate_dst (N := 3) rfl ?_); refine box_event ?hg (N := 3) ?hd (cs := #[.int .i64 m0, .int .i64 m1, .int .i64 m2, .int .i64 m3]) (t := 75) ?hr ?_; (case hd => rfl); (case hg => rfl); (case hr => first | (go_simp; done) | (go_simp; rfl)); intro ga hga w1 hbox hb; have HI1 := Aside0.mk (HI.out.below hb); have c0 := blk_cell HI1.out.blk 0; have c1 := blk_cell HI1.out.blk 1; have BM := Aside0.mk hbox; have HB1 := Aside0.mk (below_step HB.out hb); clear hbox hb hga)
    | (go_at_call 54; refine (HC.out ga _ HI1.out.row BM.out).mono ?_; rintro e w2 ⟨rfl, hb⟩; have HB2 := Aside0.mk (below_step HB1.out hb); clear hb))
  go_ret
  exact ⟨rfl, HB2.out⟩
def oneM : M4 := (0, 0, 0, 0)
set_option maxHeartbeats 4000000 in
set_option maxRecDepth 20000000 in
theorem whole_calls (g : Nat) (n : Int) (v : Value) (l : List M4) (w : World) (h : IA w g n v l) :
    Calls Try.prog 58 #[pt g] w fun e w' => e = .returned (.bool (l.any fun x => divM x oneM)) ∧ Below w.heap.size w w' := by
  have HC := Aside0.mk (ihas_calls g n v l oneM w h)
  clear h
  show Calls Try.prog 58 #[.pointer (some ⟨g, 0, none⟩)] w _
  go_enter Try.func58, Try.ntmps58
  go_wp2_with (go_at_call 67; refine HC.out.mono ?_; rintro e w2 ⟨rfl, hb⟩; have HB2 := Aside0.mk hb; clear hb)
  go_ret
  exact ⟨rfl, HB2.out⟩
end Go.Proofs.Ytjkfjnempofihaa.Fi
