/- The calls of pack.least. -/
import Derived.Test.YtjkfjnempofihaaQPgE5
import Derived.Test.YtjkfjnempofihaaQPgE6
namespace Go.Proofs.Ytjkfjnempofihaa.Fi
open Go.RowKit Go.Shelf Go.Lib Go.Proofs.YtjkfjnempofihaaW.PrintWords Go.Proofs.YtjkfjnempofihaaW.PrintLast Go.Proofs.YtjkfjnempofihaaW.PrintMore
set_option linter.unusedVariables false
set_option linter.unusedSimpArgs false
/-- A monomial stored into a block. -/
def set4 (W : World) (g : Nat) (m : M4) : World := (((W.setCell ⟨g, 0, none⟩ (.int .i64 m.1)).setCell ⟨g, 1, none⟩ (.int .i64 m.2.1)).setCell ⟨g, 2, none⟩ (.int .i64 m.2.2.1)).setCell ⟨g, 3, none⟩ (.int .i64 m.2.2.2)
theorem set4_blk {W : World} {g : Nat} {a b c d : Value} (h : W.heap[g]? = some (.cells #[a, b, c, d] 75 (0, 0))) (m : M4) : (set4 W g m).heap[g]? = some (.cells (enc4 m).toArray 75 (0, 0)) :=
  blk_put (blk_put (blk_put (blk_put h 0 (.int .i64 m.1) rfl) 1 (.int .i64 m.2.1) rfl) 2 (.int .i64 m.2.2.1) rfl) 3 (.int .i64 m.2.2.2) rfl
theorem set4_far {W : World} {g k : Nat} (h : k ≠ g) (m : M4) : (set4 W g m).heap[k]? = W.heap[k]? :=
  (Below.heap_setCell _ _ _ k h).trans ((Below.heap_setCell _ _ _ k h).trans ((Below.heap_setCell _ _ _ k h).trans (Below.heap_setCell _ _ _ k h)))
theorem set4_below {W w0 : World} {g : Nat} (h : Below w0.heap.size w0 W) (hg : w0.heap.size ≤ g) (m : M4) : Below w0.heap.size w0 (set4 W g m) := below_set (below_set (below_set (below_set h hg) hg) hg) hg
theorem MR.set4 {W : World} {base g : Nat} {v : Value} {l : List M4} (h : MR W base v l) (hg : ∀ k, v.ownBlock = some k → k ≠ g) (m : M4) : MR (set4 W g m) base v l := own_move h (fun k hk => set4_far (hg k hk) m)
theorem info75 : (Try.prog.info? 75).map (fun i => (i.zero, i.size, i.bytes)) = some (some (.agg #[.int .i64 0, .int .i64 0, .int .i64 0, .int .i64 0]), 4, 32) := by kernel_rfl
section
variable {ops : Array Oper} {rest : List Oper} {o : Oper} {a : Act} {Q : Exit → Act → World → Prop}
theorem MR_append {w0 W : World} (base : Nat) (hgd : o.guard = none) (s x : Operand) (ho : o.op = .call { callee := .builtin .append, args := #[s, x], argTypes := #[79, 79] })
    (v : Value) (l : List M4) (m : M4) (hs : a.eval s = v) (hx : a.eval x = .slice (some ⟨W.heap.size, 0, none⟩) 1 1) (HO : MR W base v l) (HB : Below base w0 W) (hbase : base ≤ W.heap.size) (hl : l.length ≤ 30000000)
    (h : ∀ v1 w1, MR w1 base v1 (l ++ [m]) → Below base w0 w1 → W.grownBy w1 v.ownBlock → (v1.ownBlock = v.ownBlock ∨ ∃ b, v1.ownBlock = some b ∧ W.heap.size ≤ b) → wpList Try.prog ops Q rest (a.put o.dst v1) w1) :
    wpList Try.prog ops Q (o :: rest) a (W.alloc (.cells (enc4 m).toArray 75)) :=
  print_append_cells base hgd s x 79 75 (.agg #[.int .i64 0, .int .i64 0, .int .i64 0, .int .i64 0]) 4 32 ho Try.underlying79 info75 rfl (by omega) (by omega) v l.length (flat l) (enc4 m) hs hx rfl (fun u hu => kM.K_one (w := W) (x := m) rfl u hu) HO HB hbase (by omega)
    (fun v1 w1 h1 h2 h3 h4 => h v1 w1 (by rw [MR, flat_app, flat_one, List.length_append, List.length_singleton]; exact h1) h2 h3 h4)
end
theorem blk_grownMR {W w1 : World} {base g t : Nat} {v : Value} {l : List M4} {c : Array Value} (hg : W.grownBy w1 v.ownBlock) (HO : MR W base v l) (hb : W.heap[g]? = some (.cells c t (0, 0))) (ht : 75 ≠ t) : w1.heap[g]? = some (.cells c t (0, 0)) := by
  rw [hg.block g (blk_lt hb) (fun e => ?_)]
  · exact hb
  · obtain ⟨c', h'⟩ := own_typed HO g e.symm
    rw [hb] at h'
    injection h' with h'
    injection h' with _ h'
    exact ht h'.symm
/-- What stays of a list, each once, in its order. -/
def lstS (bel : M4 → M4 → Bool) (l out : List M4) (x : M4) : List M4 := if !(l.any fun y => decide (y ≠ x) && bel y x) && !(out.any fun y => decide (x = y)) then out ++ [x] else out
def lstT (bel : M4 → M4 → Bool) (l : List M4) (k : Nat) : List M4 := (l.take k).foldl (lstS bel l) []
def lstM (bel : M4 → M4 → Bool) (l : List M4) : List M4 := srtM (l.foldl (lstS bel l) [])
theorem lstS_any {bel : M4 → M4 → Bool} {l out : List M4} {x : M4} (h : l.any (fun y => decide (y ≠ x) && bel y x) = true) : lstS bel l out x = out := by unfold lstS; rw [h]; rfl
theorem lstS_has {bel : M4 → M4 → Bool} {l out : List M4} {x : M4} (h : out.any (fun y => decide (x = y)) = true) : lstS bel l out x = out := by unfold lstS; rw [h, Bool.not_true, Bool.and_false]; rfl
theorem lstS_new {bel : M4 → M4 → Bool} {l out : List M4} {x : M4} (h : l.any (fun y => decide (y ≠ x) && bel y x) = false) (h2 : out.any (fun y => decide (x = y)) = false) : lstS bel l out x = out ++ [x] := by unfold lstS; rw [h, h2]; rfl
theorem lstT_succ (bel : M4 → M4 → Bool) (l : List M4) (k : Nat) (h : k < l.length) : lstT bel l (k + 1) = lstS bel l (lstT bel l k) l[k]! := by
  unfold lstT
  rw [List.take_add_one, List.foldl_append, List.getElem?_eq_getElem h, getElem!_pos l k h]
  rfl
theorem lstT_le (bel : M4 → M4 → Bool) (l : List M4) (k : Nat) : (lstT bel l k).length ≤ k := by
  have : ∀ (x o : List M4), (x.foldl (lstS bel l) o).length ≤ o.length + x.length := fun x => by
    induction x with
    | nil => intro o; simp
    | cons m x ih =>
      intro o
      rw [List.foldl_cons, List.length_cons]
      have h2 : (lstS bel l o m).length ≤ o.length + 1 := by unfold lstS; split <;> simp
      have := ih (lstS bel l o m)
      omega
  have h := this (l.take k) []
  simp only [List.length_nil, Nat.zero_add, List.length_take] at h
  unfold lstT
  omega
theorem eg87 (args : Array Value) (w : World) : (callFunc 87 args).run Try.prog w = .ok (.enter 87 args) w := enters_ Try.func87 (by kernel_rfl) rfl args w
theorem anyLeast (bel : M4 → M4 → Bool) (gb : Nat) (hF : BelF bel gb) (l : List M4) (v : Value) (x : M4) (gx gf : Nat) (W : World) (hM : MR W 0 v l) (hx : W.heap[gx]? = some (.cells (enc4 x).toArray 75 (0, 0))) (hf : W.heap[gf]? = some (.cells #[.func (.func gb) #[] #[]] 83 (0, 0))) :
    Calls Try.prog 54 #[v, .func (.func 87) #[] #[.pointer (some ⟨gx, 0, none⟩), .pointer (some ⟨gf, 0, none⟩)]] W fun e w' => e = .returned (.bool (l.any fun y => decide (y ≠ x) && bel y x)) ∧ Below W.heap.size W w' :=
  any_calls v l (fun y => decide (y ≠ x) && bel y x) 87 _ W eg87 hM (fun W' y hW => (least1_calls bel gb hF x y gx gf W' (blk_below hx hW) (blk_below hf hW)).mono (fun e w' hh => ⟨hh.1, below_step hW hh.2⟩))
theorem mr_four {w : World} {g : Nat} {l : List M4} (h : ∀ j, j < l.length → ∀ i v, (enc4 l[j]!)[i]? = some v → w.cell? ⟨g, 0 + j * 4 + i, none⟩ = some v) {j : Nat} (hj : j < l.length) {x0 x1 x2 x3 : Int} (hx : (x0, x1, x2, x3) = l[j]!) :
    w.cell? ⟨g, j * 4, none⟩ = some (.int .i64 x0) ∧ w.cell? ⟨g, j * 4 + 1, none⟩ = some (.int .i64 x1) ∧ w.cell? ⟨g, j * 4 + 2, none⟩ = some (.int .i64 x2) ∧ w.cell? ⟨g, j * 4 + 3, none⟩ = some (.int .i64 x3) := by
  have h0 := h j hj
  rw [← hx] at h0
  have e : ∀ i, 0 + j * 4 + i = j * 4 + i := fun i => by omega
  have f0 := h0 0 _ rfl
  have f1 := h0 1 _ rfl
  have f2 := h0 2 _ rfl
  have f3 := h0 3 _ rfl
  rw [e] at f0 f1 f2 f3
  exact ⟨f0, f1, f2, f3⟩
set_option maxHeartbeats 4000000 in
set_option maxRecDepth 20000000 in
theorem least_calls (bel : M4 → M4 → Bool) (gb : Nat) (hF : BelF bel gb) (v : Value) (l : List M4) (w : World) (h : MR w 0 v l) (hl : l.length ≤ 20000000) :
    Calls Try.prog 78 #[v, .func (.func gb) #[] #[], .func (.func 79) #[] #[]] w fun e w' => ∃ v', e = .returned v' ∧ MR w' w.heap.size v' (lstM bel l) ∧ Below w.heap.size w w' := by
  have HM := Aside0.mk h
  have HF := Aside0.mk hF
  have HB := Aside0.mk (Below.refl w.heap.size w)
  obtain ⟨A, c, rfl, hbig⟩ := h.slice
  have HL := Aside0.mk hl
  have eg := hF.eg
  clear h hF hl
  go_enter Try.func78, Try.ntmps78
  go_wp2_with (first
    | ((with_reducible refine gate_dst (N := 4) rfl ?_); refine box_event ?hg (N := 4) ?hd (cs := #[.func (.func gb) #[] #[]]) (t := 83) ?hr ?_; (case hd => rfl); (case hg => rfl); (case hr => first | (go_simp; done) | (go_simp; rfl)); intro gf hgf w1 hbox hb; have BF := Aside0.mk hbox; have HB1 := Aside0.mk (below_step HB.out hb); have HGF := Aside0.mk (show w.heap.size ≤ gf from by rw [hgf]; exact HB.out.size); clear hbox hb hgf))
  go_loopg [7, 9, 12] l.length (fun kq v7 v9 v12 wr => ∃ i : Nat, v12 = .int .i64 (i : Int) ∧ Aside0 (i + kq = l.length) ∧ Aside0 (MR wr w.heap.size v7 (lstT bel l i)) ∧ Aside0 (wr.heap[gf]? = some (.cells #[.func (.func gb) #[] #[]] 83 (0, 0))) ∧ Aside0 (Below w.heap.size w wr))
  case atStart => exact ⟨0, rfl, ⟨by omega⟩, ⟨World.ownsRow_nil _ _ _ _⟩, BF, HB1⟩
  case round =>
    clear BF HB1 HB
    obtain ⟨i, rfl, HI, HO, BF, HB⟩ := hrel
    cases gk with
    | zero =>
      obtain rfl : i = l.length := by have := HI.out; omega
      have hd : decide ((l.length : Int) < (l.length : Int)) = false := by simp
      have HLE := Aside0.mk (lstT_le bel l l.length)
      have HLL := Aside0.mk (show srtM (lstT bel l l.length) = lstM bel l from by unfold lstT lstM; rw [List.take_length])
      go_wp2_with (go_at_call 89; refine (sort_calls _ _ w.heap.size w _ HO.out HB.out (by have := HLE.out; have := HL.out; omega)).mono ?_; rintro e w2 ⟨rfl, hm, hb⟩; rw [HLL.out] at hm; have HM2 := Aside0.mk hm; have HB2 := Aside0.mk hb; clear hm hb)
      go_ret
      exact ⟨_, rfl, HM2.out, HB2.out⟩
    | succ kq =>
      have hi : i < l.length := by have := HI.out; omega
      have hq4 : ((i : Int) < (l.length : Int)) = True := eq_true (by omega)
      rcases (HM.out.below HB.out).cases with ⟨h1, h2⟩ | ⟨g, c', hv, _, hlt, hc, hbig, hcells⟩
      · rw [h2] at hi; exact absurd hi (by simp)
      injection hv with hv1 hv2 hv3
      subst hv1
      subst hv3
      obtain ⟨⟨x0, x1, x2, x3⟩, hx⟩ : ∃ x, x = l[i]! := ⟨_, rfl⟩
      obtain ⟨s0, s1, s2, s3⟩ := mr_four hcells hi hx
      have HX := Aside0.mk hx
      have HHI := Aside0.mk hi
      clear hcells hx
      have hw1 : wrap64 ((i : Int) + 1) = ((i + 1 : Nat) : Int) := wrapS (by have := HL.out; omega)
      have HLE := Aside0.mk (lstT_le bel l i)
      have HST := Aside0.mk ((lstT_succ bel l i hi).trans (by rw [← HX.out]))
      cases hA : l.any (fun y => decide (y ≠ (x0, x1, x2, x3)) && bel y (x0, x1, x2, x3)) with
      | true =>
        go_wp2_with (first
          | ((with_reducible refine gate_dst (N := 9) rfl ?_); refine box_event ?hg (N := 9) ?hd (cs := #[.int .i64 0, .int .i64 0, .int .i64 0, .int .i64 0]) (t := 75) ?hr ?_; (case hd => rfl); (case hg => rfl); (case hr => first | (go_simp; done) | (go_simp; rfl)); intro gx hgx w3 hbox hb; have o0 := blk_cell hbox 0; have o1 := blk_cell hbox 1; have o2 := blk_cell hbox 2; have o3 := blk_cell hbox 3; have z0 := blk_frozen hbox 0; have z1 := blk_frozen hbox 1; have z2 := blk_frozen hbox 2; have z3 := blk_frozen hbox 3; have BX := Aside0.mk hbox; have HO3 := Aside0.mk (HO.out.below hb); have BF3 := Aside0.mk (blk_below BF.out hb); have HB3 := Aside0.mk (below_step HB.out hb); have HGX := Aside0.mk (show gx = wr.heap.size from hgx); clear hbox hb hgx)
          | (go_at_call 54; have h4b := set4_blk BX.out (x0, x1, x2, x3); have hge : w.heap.size ≤ gx := (by rw [HGX.out]; exact HB.out.size); have hfx : gf ≠ gx := (by rw [HGX.out]; exact Nat.ne_of_lt (blk_lt BF.out)); have h4f := (set4_far (W := w3) hfx (x0, x1, x2, x3)).trans BF3.out; have h4B := set4_below HB3.out hge (x0, x1, x2, x3); have h4O := MR.set4 (g := gx) HO3.out (fun k hk e => by rw [e, HGX.out] at hk; exact absurd (own_lt HO.out _ hk) (Nat.lt_irrefl _)) (x0, x1, x2, x3); refine (anyLeast bel gb HF.out l _ (x0, x1, x2, x3) gx gf (set4 w3 gx (x0, x1, x2, x3)) (HM.out.below h4B) h4b h4f).mono ?_; rintro e w4 ⟨rfl, hb⟩; rw [hA]; have BF4 := Aside0.mk (blk_below h4f hb); have hbx : w4.heap[gx]? = some (.cells #[.int .i64 x0, .int .i64 x1, .int .i64 x2, .int .i64 x3] 75 (0, 0)) := blk_below h4b hb; have t0 := blk_cell hbx 0; have t1 := blk_cell hbx 1; have t2 := blk_cell hbx 2; have t3 := blk_cell hbx 3; have BX4 := Aside0.mk hbx; have HB4 := Aside0.mk (below_step h4B hb); have HO4 := Aside0.mk (h4O.below hb); clear h4b hge hfx h4f h4B h4O hb hbx))
        go_roundg kq
        case measure => have := HI.out; omega
        case rel => exact ⟨i + 1, by first | rfl | rw [hw1], ⟨by have := HI.out; omega⟩, ⟨by rw [HST.out, lstS_any hA]; exact HO4.out⟩, BF4, HB4⟩
      | false =>
        cases hC : (lstT bel l i).any (fun y => decide ((x0, x1, x2, x3) = y)) with
        | true =>
          go_wp2_with (first
            | ((with_reducible refine gate_dst (N := 9) rfl ?_); refine box_event ?hg (N := 9) ?hd (cs := #[.int .i64 0, .int .i64 0, .int .i64 0, .int .i64 0]) (t := 75) ?hr ?_; (case hd => rfl); (case hg => rfl); (case hr => first | (go_simp; done) | (go_simp; rfl)); intro gx hgx w3 hbox hb; have o0 := blk_cell hbox 0; have o1 := blk_cell hbox 1; have o2 := blk_cell hbox 2; have o3 := blk_cell hbox 3; have z0 := blk_frozen hbox 0; have z1 := blk_frozen hbox 1; have z2 := blk_frozen hbox 2; have z3 := blk_frozen hbox 3; have BX := Aside0.mk hbox; have HO3 := Aside0.mk (HO.out.below hb); have BF3 := Aside0.mk (blk_below BF.out hb); have HB3 := Aside0.mk (below_step HB.out hb); have HGX := Aside0.mk (show gx = wr.heap.size from hgx); clear hbox hb hgx)
            | (go_at_call 54; have h4b := set4_blk BX.out (x0, x1, x2, x3); have hge : w.heap.size ≤ gx := (by rw [HGX.out]; exact HB.out.size); have hfx : gf ≠ gx := (by rw [HGX.out]; exact Nat.ne_of_lt (blk_lt BF.out)); have h4f := (set4_far (W := w3) hfx (x0, x1, x2, x3)).trans BF3.out; have h4B := set4_below HB3.out hge (x0, x1, x2, x3); have h4O := MR.set4 (g := gx) HO3.out (fun k hk e => by rw [e, HGX.out] at hk; exact absurd (own_lt HO.out _ hk) (Nat.lt_irrefl _)) (x0, x1, x2, x3); refine (anyLeast bel gb HF.out l _ (x0, x1, x2, x3) gx gf (set4 w3 gx (x0, x1, x2, x3)) (HM.out.below h4B) h4b h4f).mono ?_; rintro e w4 ⟨rfl, hb⟩; rw [hA]; have BF4 := Aside0.mk (blk_below h4f hb); have hbx : w4.heap[gx]? = some (.cells #[.int .i64 x0, .int .i64 x1, .int .i64 x2, .int .i64 x3] 75 (0, 0)) := blk_below h4b hb; have t0 := blk_cell hbx 0; have t1 := blk_cell hbx 1; have t2 := blk_cell hbx 2; have t3 := blk_cell hbx 3; have BX4 := Aside0.mk hbx; have HB4 := Aside0.mk (below_step h4B hb); have HO4 := Aside0.mk (h4O.below hb); clear h4b hge hfx h4f h4B h4O hb hbx)
            | (go_at_call 88; refine (has_calls _ (lstT bel l i) (x0, x1, x2, x3) _ HO4.out.zero).mono ?_; rintro e w5 ⟨rfl, hb⟩; rw [hC]; have BF5 := Aside0.mk (blk_below BF4.out hb); have hbx := blk_below BX4.out hb; have t0 := blk_cell hbx 0; have t1 := blk_cell hbx 1; have t2 := blk_cell hbx 2; have t3 := blk_cell hbx 3; have HB5 := Aside0.mk (below_step HB4.out hb); have HO5 := Aside0.mk (HO4.out.below hb); clear hb hbx))
          go_roundg kq
          case measure => have := HI.out; omega
          case rel => exact ⟨i + 1, by first | rfl | rw [hw1], ⟨by have := HI.out; omega⟩, ⟨by rw [HST.out, lstS_has hC]; exact HO5.out⟩, BF5, HB5⟩
        | false =>
          go_wp2_with (first
            | ((with_reducible refine gate_dst (N := 9) rfl ?_); refine box_event ?hg (N := 9) ?hd (cs := #[.int .i64 0, .int .i64 0, .int .i64 0, .int .i64 0]) (t := 75) ?hr ?_; (case hd => rfl); (case hg => rfl); (case hr => first | (go_simp; done) | (go_simp; rfl)); intro gx hgx w3 hbox hb; have o0 := blk_cell hbox 0; have o1 := blk_cell hbox 1; have o2 := blk_cell hbox 2; have o3 := blk_cell hbox 3; have z0 := blk_frozen hbox 0; have z1 := blk_frozen hbox 1; have z2 := blk_frozen hbox 2; have z3 := blk_frozen hbox 3; have BX := Aside0.mk hbox; have HO3 := Aside0.mk (HO.out.below hb); have BF3 := Aside0.mk (blk_below BF.out hb); have HB3 := Aside0.mk (below_step HB.out hb); have HGX := Aside0.mk (show gx = wr.heap.size from hgx); clear hbox hb hgx)
            | (go_at_call 54; have h4b := set4_blk BX.out (x0, x1, x2, x3); have hge : w.heap.size ≤ gx := (by rw [HGX.out]; exact HB.out.size); have hfx : gf ≠ gx := (by rw [HGX.out]; exact Nat.ne_of_lt (blk_lt BF.out)); have h4f := (set4_far (W := w3) hfx (x0, x1, x2, x3)).trans BF3.out; have h4B := set4_below HB3.out hge (x0, x1, x2, x3); have h4O := MR.set4 (g := gx) HO3.out (fun k hk e => by rw [e, HGX.out] at hk; exact absurd (own_lt HO.out _ hk) (Nat.lt_irrefl _)) (x0, x1, x2, x3); refine (anyLeast bel gb HF.out l _ (x0, x1, x2, x3) gx gf (set4 w3 gx (x0, x1, x2, x3)) (HM.out.below h4B) h4b h4f).mono ?_; rintro e w4 ⟨rfl, hb⟩; rw [hA]; have BF4 := Aside0.mk (blk_below h4f hb); have hbx : w4.heap[gx]? = some (.cells #[.int .i64 x0, .int .i64 x1, .int .i64 x2, .int .i64 x3] 75 (0, 0)) := blk_below h4b hb; have t0 := blk_cell hbx 0; have t1 := blk_cell hbx 1; have t2 := blk_cell hbx 2; have t3 := blk_cell hbx 3; have BX4 := Aside0.mk hbx; have HB4 := Aside0.mk (below_step h4B hb); have HO4 := Aside0.mk (h4O.below hb); clear h4b hge hfx h4f h4B h4O hb hbx)
            | (go_at_call 88; refine (has_calls _ (lstT bel l i) (x0, x1, x2, x3) _ HO4.out.zero).mono ?_; rintro e w5 ⟨rfl, hb⟩; rw [hC]; have BF5 := Aside0.mk (blk_below BF4.out hb); have hbx := blk_below BX4.out hb; have t0 := blk_cell hbx 0; have t1 := blk_cell hbx 1; have t2 := blk_cell hbx 2; have t3 := blk_cell hbx 3; have HB5 := Aside0.mk (below_step HB4.out hb); have HO5 := Aside0.mk (HO4.out.below hb); clear hb hbx)
            | ((with_reducible refine gate_builtin (b := .append) (xs := #[.tmp 26, .tmp 28]) rfl ?_); at_builtin; refine MR_append (w0 := w) w.heap.size rfl (.tmp 26) (.tmp 28) rfl _ (lstT bel l i) (x0, x1, x2, x3) rfl rfl HO5.out HB5.out HB5.out.size (by have := HLE.out; have := HL.out; have := HI.out; omega) ?_; intro v6 w6 ho hb hg hat; have HO6 := Aside0.mk ho; have BF6 := Aside0.mk (blk_grownMR hg HO5.out BF5.out (by decide)); have HB6 := Aside0.mk hb; clear ho hb hg hat))
          go_roundg kq
          case measure => have := HI.out; omega
          case rel => exact ⟨i + 1, by first | rfl | rw [hw1], ⟨by have := HI.out; omega⟩, ⟨by rw [HST.out, lstS_new hA hC]; exact HO6.out⟩, BF6, HB6⟩
end Go.Proofs.Ytjkfjnempofihaa.Fi
