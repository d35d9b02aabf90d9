/- The calls of changed. -/
import Derived.Test.YtjkfjnempofihaaQPgE12
namespace Go.Proofs.Ytjkfjnempofihaa.Fi
open Go.RowKit Go.Shelf Go.Lib Go.Proofs.YtjkfjnempofihaaW.PrintWords Go.Proofs.YtjkfjnempofihaaW.PrintLast Go.Proofs.YtjkfjnempofihaaW.PrintMore
set_option linter.unusedVariables false
set_option linter.unusedSimpArgs false
theorem goesG_ {P : Go.Program} {ops : Array Oper} {Q : Exit → Act → World → Prop} {oi : Oper} {N : Option Tmp} {a : Act} {w : World} {K : Act → World → Prop} {f : FuncId} {o : Operand} {os : Array Operand} {ts : Array TypeId} {caps : Array Value} (eg : ∀ args w, (callFunc f args).run P w = .ok (.enter f args) w) (args : Array Value)
    (hw : Region.wanted oi (yielded ops a.tmps) = true) (hN : oi.dst = N) (hop : oi.op = .call { callee := .value o, args := os, argTypes := ts }) (ho : a.eval o = .func (.func f) #[] caps) (hargs : os.map a.eval ++ caps = args)
    (h : Calls P f args w fun e w' => ∃ v, e = .returned v ∧ K (a.put N v) w') : if Region.wanted oi (yielded ops a.tmps) = true then Oper.wp P oi a w K Q else K (a.put N undef) w := by
  refine call_ f args hw hN ?_ h
  have he := eg args w
  unfold execOp
  simp [hop, resolve, Deferred.ofValue, invoke, ho, hargs, he]
set_option maxHeartbeats 4000000 in
set_option maxRecDepth 20000000 in
theorem changed_calls (F : M4 → M4) (gf : Nat) (cb : Array Value) (g : Nat) (n : Int) (v : Value) (l : List M4) (w : World) (h : IA w g n v l) (hl : l.length ≤ 20000000) (eg : ∀ args w, (callFunc gf args).run Try.prog w = .ok (.enter gf args) w)
    (hF : ∀ (W : World) (m : M4), Below w.heap.size w W → Calls Try.prog gf (#[ag m] ++ cb) W fun e W' => e = .returned (ag (F m)) ∧ Below W.heap.size W W') :
    Calls Try.prog 60 #[pt g, .func (.func gf) #[] cb] w fun e w' => ∃ g' v', e = .returned (pt g') ∧ w.heap.size ≤ g' ∧ IA w' g' n v' (lstM divM (l.map F)) ∧ Below w.heap.size w w' := by
  have HI := Aside0.mk h
  have HF := Aside0.mk hF
  have HL := Aside0.mk hl
  have HB := Aside0.mk (Below.refl w.heap.size w)
  obtain ⟨A, c, rfl, hbig⟩ := h.row.slice
  have c0 := blk_cell h.blk 0
  have c1 := blk_cell h.blk 1
  clear h hF hl hbig
  show Calls Try.prog 60 #[.pointer (some ⟨g, 0, none⟩), .func (.func gf) #[] cb] w _
  go_enter Try.func60, Try.ntmps60
  go_wp2_with ((with_reducible refine gate_dst (N := 13) rfl ?_); refine box_event ?hg (N := 13) ?hd (cs := #[.int .i64 n, .slice none 0 0]) (t := 81) ?hr ?_; (case hd => rfl); (case hg => rfl); (case hr => first | (go_simp; done) | (go_simp; rfl)); intro gx hgx w1 hbox hb; have BX := Aside0.mk hbox; have HB1 := Aside0.mk (below_step HB.out hb); have HGX := Aside0.mk (show w.heap.size ≤ gx from by rw [hgx]; exact HB.out.size); have HI1 := HI.out.below hb; have c0 := blk_cell HI1.blk 0; have c1 := blk_cell HI1.blk 1; clear hbox hb hgx HI1)
  clear c0 c1
  go_loopg [7, 19] l.length (fun kq v7 v19 wr => ∃ (i : Nat) (v : Value), v19 = .int .i64 (i : Int) ∧ Aside0 (i + kq = l.length) ∧ Aside0 (MR wr w.heap.size v ((l.take i).map F)) ∧ Aside0 (wr.heap[gx]? = some (.cells #[.int .i64 n, v] 81 (0, 0))) ∧ Aside0 (Below w.heap.size w wr))
  case atStart => exact ⟨0, _, rfl, ⟨by omega⟩, ⟨World.ownsRow_nil _ _ _ _⟩, BX, HB1⟩
  case round =>
    clear BX HB1 HB
    obtain ⟨i, v, rfl, HI2, HV, HX, HB⟩ := hrel
    obtain ⟨A3, c3, hv3, -⟩ := HV.out.slice
    obtain ⟨L3, hL3⟩ : ∃ L, L = ((l.take i).map F).length := ⟨_, rfl⟩
    rw [← hL3] at hv3
    subst hv3
    clear hL3
    cases gk with
    | zero =>
      obtain rfl : i = l.length := by have := HI2.out; omega
      have hd : decide ((l.length : Int) < (l.length : Int)) = false := by simp
      have hv := HV.out
      rw [List.take_length] at hv
      have HV2 := Aside0.mk hv
      clear hv
      go_wp2_with (go_at_call 55; refine (minimal_calls gx n _ (l.map F) _ ⟨HX.out, HV2.out.zero⟩ (by rw [List.length_map]; exact HL.out)).mono ?_; rintro e w2 ⟨g', v', rfl, hg, hm, hb⟩; have HM2 := Aside0.mk hm; have HB2 := Aside0.mk (below_step HB.out hb); have HG2 := Aside0.mk hg; clear hm hb hg)
      go_ret
      exact ⟨_, _, rfl, Nat.le_trans HB.out.size HG2.out, HM2.out, HB2.out⟩
    | succ kq =>
      have hi : i < l.length := by have := HI2.out; omega
      have hq4 : ((i : Int) < (l.length : Int)) = True := eq_true (by omega)
      have hw1 : wrap64 ((i : Int) + 1) = ((i + 1 : Nat) : Int) := wrapS (by have := HL.out; omega)
      rcases (HI.out.row.below HB.out).cases with ⟨h1, h2⟩ | ⟨g2, c', hv, _, hlt, hc, hbig, hcells⟩
      · rw [h2] at hi; exact absurd hi (by simp)
      injection hv with hv1 hv2 hv3
      subst hv1
      subst hv3
      obtain ⟨⟨x0, x1, x2, x3⟩, hx⟩ : ∃ x, x = l[i]! := ⟨_, rfl⟩
      obtain ⟨s0, s1, s2, s3⟩ := mr_four hcells hi hx
      have HTM : Aside0 ((l.take (i + 1)).map F = (l.take i).map F ++ [F (x0, x1, x2, x3)]) := ⟨by rw [List.take_add_one, List.map_append, List.getElem?_eq_getElem hi, hx, getElem!_pos l i hi]; rfl⟩
      obtain ⟨⟨y0, y1, y2, y3⟩, hy⟩ : ∃ y, y = F (x0, x1, x2, x3) := ⟨_, rfl⟩
      have HFM : Aside0 (ag (F (x0, x1, x2, x3)) = .agg #[.int .i64 y0, .int .i64 y1, .int .i64 y2, .int .i64 y3]) := ⟨by rw [← hy]; rfl⟩
      rw [← hy] at HTM
      clear hcells hx hy
      go_wp2_with (((with_reducible refine gate_dst (N := 7) rfl ?_); refine box_event ?hg (N := 7) ?hd (cs := #[.int .i64 0, .int .i64 0, .int .i64 0, .int .i64 0]) (t := 75) ?hr ?_; (case hd => rfl); (case hg => rfl); (case hr => first | (go_simp; done) | (go_simp; rfl)); intro gm hgm w4 hbox hb; have o0 := blk_cell hbox 0; have o1 := blk_cell hbox 1; have o2 := blk_cell hbox 2; have o3 := blk_cell hbox 3; have z0 := blk_frozen hbox 0; have z1 := blk_frozen hbox 1; have z2 := blk_frozen hbox 2; have z3 := blk_frozen hbox 3; have BM4 := Aside0.mk hbox; have HGM := Aside0.mk (show gm = wr.heap.size from hgm); have HBW := Aside0.mk hb; clear hbox hb hgm))
      have BM5a := set4_blk BM4.out (x0, x1, x2, x3)
      have hbw := below_step HB.out HBW.out
      have HB5 := Aside0.mk (set4_below (g := gm) hbw (by rw [HGM.out]; exact HB.out.size) (x0, x1, x2, x3))
      have HX5 : Aside0 ((set4 w4 gm (x0, x1, x2, x3)).heap[gx]? = some (.cells #[.int .i64 n, .slice A3 L3 c3] 81 (0, 0))) := ⟨(set4_far (by rw [HGM.out]; exact Nat.ne_of_lt (blk_lt HX.out)) _).trans (blk_below HX.out HBW.out)⟩
      have HV5 : Aside0 (MR (set4 w4 gm (x0, x1, x2, x3)) w.heap.size (.slice A3 L3 c3) ((l.take i).map F)) := ⟨(HV.out.below HBW.out).set4 (fun k hk e => by rw [e, HGM.out] at hk; exact absurd (own_lt HV.out _ hk) (Nat.lt_irrefl _)) _⟩
      have BM5 : Aside0 ((set4 w4 gm (x0, x1, x2, x3)).heap[gm]? = some (.cells #[.int .i64 x0, .int .i64 x1, .int .i64 x2, .int .i64 x3] 75 (0, 0))) := ⟨BM5a⟩
      clear BM5a hbw
      show Code.wp _ _ _ _ (set4 w4 gm (x0, x1, x2, x3))
      generalize set4 w4 gm (x0, x1, x2, x3) = w5 at HB5 HX5 HV5 BM5 ⊢
      have fz := blk_frozen HX5.out 1
      clear BM4 HBW HGM HV HX HB o0 o1 o2 o3 z0 z1 z2 z3 s0 s1 s2 s3
      refine start_ (n := 13) (S := fun w' => w'.cell? ⟨gx, 1, none⟩ = some (.slice A3 L3 c3) ∧ w'.cell? ⟨gm, 0, none⟩ = some (.int .i64 x0) ∧ w'.cell? ⟨gm, 1, none⟩ = some (.int .i64 x1) ∧ w'.cell? ⟨gm, 2, none⟩ = some (.int .i64 x2) ∧ w'.cell? ⟨gm, 3, none⟩ = some (.int .i64 x3)) (ds := [9, 12]) #[false, false, false, false, false, false, false, false, false, false, false, false, false] (by kernel_rfl) rfl rfl ⟨blk_cell (blk_drew HX5.out) 1, blk_cell (blk_drew BM5.out) 0, blk_cell (blk_drew BM5.out) 1, blk_cell (blk_drew BM5.out) 2, blk_cell (blk_drew BM5.out) 3⟩ (fun hHeld => ?_)
      refine pure_ (i := 0) (N := some 23) (v := ?_) (a' := ?_) #[true, false, false, false, false, false, false, false, false, false, false, false, false] rfl rfl (by kernel_rfl) (fun _ _ _ h => h) (Or.inl ⟨by rfl, ?_⟩) ?_ ?_
      rotate_left
      · intro w'
        go_simp
        with_reducible rfl
      rotate_left
      · simp only [Act.put, List.setIfInBounds_toArray, List.set_cons_zero, List.set_cons_succ, i64_w, i32_w]
        rfl
      refine pure_ (i := 1) (N := some 24) (v := ?_) (a' := ?_) #[true, true, false, false, false, false, false, false, false, false, false, false, false] rfl rfl (by kernel_rfl) (fun _ _ _ h => h) (Or.inl ⟨by rfl, ?_⟩) ?_ ?_
      rotate_left
      · intro w'
        go_simp
        with_reducible rfl
      rotate_left
      · simp only [Act.put, List.setIfInBounds_toArray, List.set_cons_zero, List.set_cons_succ, i64_w, i32_w]
        rfl
      refine pure_ (i := 2) (N := some 25) (v := ?_) (a' := ?_) #[true, true, true, false, false, false, false, false, false, false, false, false, false] rfl rfl (by kernel_rfl) (fun _ _ _ h => h) (Or.inl ⟨by rfl, ?_⟩) ?_ ?_
      rotate_left
      · intro w'
        go_simp
        with_reducible rfl
      rotate_left
      · simp only [Act.put, List.setIfInBounds_toArray, List.set_cons_zero, List.set_cons_succ, i64_w, i32_w]
        rfl
      refine pure_ (i := 3) (N := some 26) (v := ?_) (a' := ?_) #[true, true, true, true, false, false, false, false, false, false, false, false, false] rfl rfl (by kernel_rfl) (fun _ _ _ h => h) (Or.inl ⟨by rfl, ?_⟩) ?_ ?_
      rotate_left
      · intro w'
        go_simp
        with_reducible rfl
      rotate_left
      · simp only [Act.put, List.setIfInBounds_toArray, List.set_cons_zero, List.set_cons_succ, i64_w, i32_w]
        rfl
      refine take_ (i := 4) (N := some 27) (v := ?_) (a' := ?_) #[true, true, true, true, true, false, false, false, false, false, false, false, false] rfl rfl (by kernel_rfl) (fun _ _ _ h => h) (Or.inl ⟨by rfl, ?_⟩) hHeld ?_ ?_
      rotate_left
      · rintro w' ⟨s0, s1, s2, s3, s4⟩
        go_simp
        with_reducible rfl
      rotate_left
      · simp only [Act.put, List.setIfInBounds_toArray, List.set_cons_zero, List.set_cons_succ, i64_w, i32_w]
        rfl
      refine pure_ (i := 5) (N := some 28) (v := ?_) (a' := ?_) #[true, true, true, true, true, true, false, false, false, false, false, false, false] rfl rfl (by kernel_rfl) (fun _ _ _ h => h) (Or.inl ⟨by rfl, ?_⟩) ?_ ?_
      rotate_left
      · intro w'
        go_simp
        with_reducible rfl
      rotate_left
      · simp only [Act.put, List.setIfInBounds_toArray, List.set_cons_zero, List.set_cons_succ, i64_w, i32_w]
        rfl
      refine take_ (i := 6) (N := some 29) (v := ?_) (a' := ?_) #[true, true, true, true, true, true, true, false, false, false, false, false, false] rfl rfl (by kernel_rfl) (fun _ _ _ h => h) (Or.inl ⟨by rfl, ?_⟩) hHeld ?_ ?_
      rotate_left
      · rintro w' ⟨s0, s1, s2, s3, s4⟩
        go_simp
        with_reducible rfl
      rotate_left
      · simp only [Act.put, List.setIfInBounds_toArray, List.set_cons_zero, List.set_cons_succ, i64_w, i32_w]
        rfl
      refine one_ (i := 7) (N := some 30) #[true, true, true, true, true, true, true, true, false, false, false, false, false] rfl rfl (by kernel_rfl) (by decide) (fun K hK => ?_)
      refine goesG_ eg (#[.agg #[.int .i64 x0, .int .i64 x1, .int .i64 x2, .int .i64 x3]] ++ cb) (by rfl) rfl rfl rfl (by first | rfl | (simp only [List.map_toArray, List.map_cons, List.map_nil]; rfl)) ?_
      refine (HF.out _ (x0, x1, x2, x3) (below_drew1 HB5.out)).mono ?_
      rintro e w7 ⟨he, hb⟩
      rw [HFM.out] at he
      subst he
      have HX7 : Aside0 (w7.heap[gx]? = some (.cells #[.int .i64 n, .slice A3 L3 c3] 81 (0, 0))) := ⟨blk_below (blk_drew HX5.out) hb⟩
      have BM7 : Aside0 (w7.heap[gm]? = some (.cells #[.int .i64 x0, .int .i64 x1, .int .i64 x2, .int .i64 x3] 75 (0, 0))) := ⟨blk_below (blk_drew BM5.out) hb⟩
      have HV7 := Aside0.mk (HV5.out.drew.below hb)
      have HB7 := Aside0.mk (below_step (below_drew1 HB5.out) hb)
      clear hb
      refine ⟨_, rfl, ?_⟩
      refine hK.out _ _ ⟨blk_cell HX7.out 1, blk_cell BM7.out 0, blk_cell BM7.out 1, blk_cell BM7.out 2, blk_cell BM7.out 3⟩ (fun hHeld => ?_)
      clear hK K
      refine norm_ (a' := ?_) ?_ ?_
      rotate_left
      · show Act.put _ (some 30) _ = _
        simp only [Act.put, List.setIfInBounds_toArray, List.set_cons_zero, List.set_cons_succ, i64_w, i32_w]
        rfl
      refine one_ (i := 8) (N := some 31) #[true, true, true, true, true, true, true, true, true, false, false, false, false] rfl rfl (by kernel_rfl) (by decide) (fun K hK => ?_)
      refine value_ (w1 := ?_) (v := ?_) (by rfl) rfl ?_ ?_
      rotate_left 2
      · go_simp
        constructor
        · rfl
        · rfl
      refine hK.out _ _ ⟨blk_cell (blk_alloc HX7.out _) 1, blk_cell (blk_alloc BM7.out _) 0, blk_cell (blk_alloc BM7.out _) 1, blk_cell (blk_alloc BM7.out _) 2, blk_cell (blk_alloc BM7.out _) 3⟩ (fun hHeld => ?_)
      clear hK K
      refine norm_ (a' := ?_) ?_ ?_
      rotate_left
      · show Act.put _ (some 31) _ = _
        simp only [Act.put, List.setIfInBounds_toArray, List.set_cons_zero, List.set_cons_succ, i64_w, i32_w]
        rfl
      refine last_ (i := 9) (N := some 32) #[true, true, true, true, true, true, true, true, true, true, false, false, false] rfl rfl (by kernel_rfl) (by decide) (fun K hK => ?_)
      refine MR_append_step (w0 := w) (W := w7) w.heap.size (by rfl) (.tmp 27) (.tmp 31) rfl (.slice A3 L3 c3) ((l.take i).map F) (y0, y1, y2, y3) rfl rfl HV7.out HB7.out HB7.out.size (by rw [List.length_map, List.length_take]; have := HL.out; omega) ?_
      intro v6 w6 ho hb hg hat
      have HV6 := Aside0.mk ho
      have HB6 := Aside0.mk hb
      have HX6 := Aside0.mk (blk_grownMR hg HV7.out HX7.out (by decide))
      obtain ⟨A6, c6, e6, -⟩ := ho.slice
      obtain ⟨L6, hL6⟩ : ∃ L, L = ((l.take i).map F ++ [(y0, y1, y2, y3)]).length := ⟨_, rfl⟩
      rw [← hL6] at e6
      subst e6
      clear ho hb hg hat hL6 fz
      have cx := blk_cell HX6.out 1
      have fx := blk_frozen HX6.out 1
      refine hK.out _ _ ?_
      clear hK K
      refine norm_ (a' := ?_) ?_ ?_
      rotate_left
      · show Act.put _ (some 32) _ = _
        simp only [Act.put, List.setIfInBounds_toArray, List.set_cons_zero, List.set_cons_succ, i64_w, i32_w]
        rfl
      refine pure_ (i := 10) (N := some 33) (v := ?_) (a' := ?_) #[true, true, true, true, true, true, true, true, true, true, true, false, false] rfl rfl (by kernel_rfl) (fun _ _ _ h => h) (Or.inl ⟨by rfl, ?_⟩) ?_ ?_
      rotate_left
      · intro w'
        go_simp
        with_reducible rfl
      rotate_left
      · simp only [Act.put, List.setIfInBounds_toArray, List.set_cons_zero, List.set_cons_succ, i64_w, i32_w]
        rfl
      refine pure_ (i := 11) (N := some 34) (v := ?_) (a' := ?_) #[true, true, true, true, true, true, true, true, true, true, true, true, false] rfl rfl (by kernel_rfl) (fun _ _ _ h => h) (Or.inl ⟨by rfl, ?_⟩) ?_ ?_
      rotate_left
      · intro w'
        go_simp
        with_reducible rfl
      rotate_left
      · simp only [Act.put, List.setIfInBounds_toArray, List.set_cons_zero, List.set_cons_succ, i64_w, i32_w]
        rfl
      refine last_ (i := 12) (N := none) #[true, true, true, true, true, true, true, true, true, true, true, true, true] rfl rfl (by kernel_rfl) (by decide) (fun K hK => ?_)
      refine skip_ (w1 := ?_) (by rfl) rfl ?_ ?_
      rotate_left
      · go_simp
        rfl
      refine hK.out _ _ ?_
      clear hK K
      refine done_ (by kernel_rfl) ?_
      go_wp2
      go_roundg kq
      case measure => have := HI2.out; omega
      case rel => exact ⟨i + 1, .slice A6 L6 c6, by first | rfl | rw [hw1], ⟨by have := HI2.out; omega⟩, ⟨by rw [HTM.out]; exact mr_setOther HV6.out HX6.out (by decide) 1 _⟩, ⟨blk_put HX6.out 1 _ rfl⟩, ⟨below_set HB6.out HGX.out⟩⟩
end Go.Proofs.Ytjkfjnempofihaa.Fi
