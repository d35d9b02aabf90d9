/- The calls of parts. -/
import Derived.Test.YtjkfjnempofihaaQPgE13
namespace Go.Proofs.Ytjkfjnempofihaa.Fi
open Go.RowKit Go.Shelf Go.Lib Go.Proofs.YtjkfjnempofihaaW.PrintWords Go.Proofs.YtjkfjnempofihaaW.PrintLast Go.Proofs.YtjkfjnempofihaaW.PrintMore
set_option linter.unusedVariables false
set_option linter.unusedSimpArgs false
def ofL (l : List Int) : M4 := (l.getD 0 0, l.getD 1 0, l.getD 2 0, l.getD 3 0)
/-- A part with a variable's power in it. -/
def updM (p : M4) (i : Nat) (e : Int) : M4 := if (tl p).getD i 0 = 0 ∨ (tl p).getD i 0 > e then ofL ((tl p).set i e) else p
def candT (g p : M4) : Nat → List M4
  | 0 => []
  | i + 1 => if (tl g).getD i 0 = 0 then candT g p i else candT g p i ++ [updM p i ((tl g).getD i 0)]
def candS (g : M4) (l : List M4) : List M4 := l.flatMap fun p => candT g p 4
def partT (gs : List M4) (k : Nat) : List M4 := (gs.take k).foldl (fun l g => lstM wiM (candS g l)) [oneM]
/-- The parts, out of the minimal generators. -/
def partS (gs : List M4) : List M4 := partT gs gs.length
theorem partT_succ (gs : List M4) (k : Nat) (h : k < gs.length) : partT gs (k + 1) = lstM wiM (candS gs[k]! (partT gs k)) := by
  unfold partT
  rw [List.take_add_one, List.foldl_append, List.getElem?_eq_getElem h, getElem!_pos gs k h]
  rfl
theorem candT_le (g p : M4) (i : Nat) : (candT g p i).length ≤ i := by
  induction i with
  | zero => simp [candT]
  | succ i ih =>
    rw [candT]
    split
    · omega
    · rw [List.length_append, List.length_singleton]; omega
theorem candS_le (g : M4) (l : List M4) : (candS g l).length ≤ 4 * l.length := by
  unfold candS
  induction l with
  | nil => simp
  | cons p l ih => rw [List.flatMap_cons, List.length_append, List.length_cons]; have := candT_le g p 4; omega
theorem lstM_le (bel : M4 → M4 → Bool) (l : List M4) : (lstM bel l).length ≤ l.length := by
  unfold lstM
  rw [srtM_len]
  have := lstT_le bel l l.length
  unfold lstT at this
  rwa [List.take_length] at this
theorem partT_le (gs : List M4) (k : Nat) (h : k ≤ gs.length) : (partT gs k).length ≤ 4 ^ k := by
  induction k with
  | zero => simp [partT]
  | succ k ih =>
    rw [partT_succ gs k (by omega)]
    have h1 := lstM_le wiM (candS gs[k]! (partT gs k))
    have h2 := candS_le gs[k]! (partT gs k)
    have h3 := ih (by omega)
    rw [Nat.pow_succ]
    omega
theorem idx75 (x0 x1 x2 x3 : Int) (j : Nat) (hj : j < 4) (x : Int) (hx : [x0, x1, x2, x3].getD j 0 = x) (W : World) : (Instr.index 75 (.agg #[.int .i64 x0, .int .i64 x1, .int .i64 x2, .int .i64 x3]) (.int .i64 (j : Int))).run Try.prog W = .ok (.int .i64 x) W := by
  unfold Instr.index
  have h4 : 0 ≤ (j : Int) ∧ (j : Int) < 4 := by omega
  rcases (show j = 0 ∨ j = 1 ∨ j = 2 ∨ j = 3 by omega) with rfl | rfl | rfl | rfl <;> (simp at hx; simp [asIntOf, hx, go_sem])
theorem alloc_size1 (w : World) (o : Obj) : (w.alloc o).heap.size = w.heap.size + 1 := Array.size_push _
theorem ne_append {v v1 : Value} {gp n : Nat} (hat : v1.ownBlock = v.ownBlock ∨ ∃ b, v1.ownBlock = some b ∧ n ≤ b) (h : ∀ k, v.ownBlock = some k → k ≠ gp) (hlt : gp < n) : ∀ k, v1.ownBlock = some k → k ≠ gp := fun k hk e => by
  rcases hat with h1 | ⟨b, h1, h2⟩
  · rw [h1] at hk; exact h k hk e
  · rw [h1] at hk; injection hk with hk; omega
theorem mr_zero (w : World) : MR (w.alloc (.cells #[.int .i64 0, .int .i64 0, .int .i64 0, .int .i64 0] 75)) w.heap.size (.slice (some ⟨w.heap.size, 0, none⟩) 1 1) [oneM] :=
  ⟨rfl, .inr ⟨w.heap.size, 1, _, rfl, Nat.le_refl _, heap_alloc_new w _, Nat.le_refl _, by decide, rfl, rfl⟩⟩
set_option maxHeartbeats 4000000 in
set_option maxRecDepth 100000 in
theorem parts_calls (g : Nat) (n : Int) (v : Value) (l : List M4) (w : World) (h : IA w g n v l) (hl : l.length ≤ 12) :
    Calls Try.prog 59 #[pt g] w fun e w' => ∃ v', e = .returned v' ∧ MR w' w.heap.size v' (partS (lstM divM l)) ∧ Below w.heap.size w w' := by
  have HI := Aside0.mk h
  have HL := Aside0.mk (show l.length ≤ 20000000 by omega)
  have HGL := Aside0.mk (show (lstM divM l).length ≤ 12 from Nat.le_trans (lstM_le divM l) hl)
  have HB0 := Aside0.mk (Below.refl w.heap.size w)
  obtain ⟨G, hG⟩ : ∃ G, G = lstM divM l := ⟨_, rfl⟩
  have HGG := Aside0.mk hG
  rw [← hG] at HGL ⊢
  clear h hl hG
  show Calls Try.prog 59 #[.pointer (some ⟨g, 0, none⟩)] w _
  go_enter Try.func59, Try.ntmps59
  go_wp2_with ((go_at_call 55; refine (minimal_calls g n _ l _ (HI.out.below (below_alloc HB0.out _)) HL.out).mono ?_; rintro e w2 ⟨g', v', rfl, hg, hm, hb⟩; have HM2 := Aside0.mk hm; have HB2 := Aside0.mk (below_step (below_alloc HB0.out _) hb); have HZ2 := Aside0.mk ((mr_zero w).below hb); obtain ⟨AG, cG, hvG, -⟩ := hm.row.slice; subst hvG; have c0 := blk_cell HM2.out.blk 0; have c1 := blk_cell HM2.out.blk 1; clear hm hb hg))
  clear c0 c1
  rw [← HGG.out] at HM2
  have HGE := Aside0.mk (show G.length = (lstM divM l).length from by rw [HGG.out])
  rw [← HGE.out]
  go_loopg [3, 5, 6, 8, 9, 10, 11, 20] G.length (fun kq v3 v5 v6 v8 v9 v10 v11 v20 wr => ∃ (i : Nat), v20 = .int .i64 (i : Int) ∧ Aside0 (i + kq = G.length) ∧ Aside0 (MR wr w.heap.size v3 (partT G i)) ∧ Aside0 (Below w2.heap.size w2 wr))
  case atStart => exact ⟨0, rfl, ⟨by omega⟩, HZ2, ⟨Below.refl _ _⟩⟩
  case round =>
    clear HZ2 HB0
    obtain ⟨i, rfl, HI2, HV, HB⟩ := hrel
    cases gk with
    | zero =>
      obtain rfl : i = G.length := by have := HI2.out; omega
      have hd : decide ((G.length : Int) < (G.length : Int)) = false := by simp
      go_wp2
      go_ret
      exact ⟨_, rfl, HV.out, below_step HB2.out HB.out⟩
    | succ kq =>
      have hi : i < G.length := by have := HI2.out; omega
      have hq4 : ((i : Int) < (G.length : Int)) = True := eq_true (by omega)
      have hw1 : wrap64 ((i : Int) + 1) = ((i + 1 : Nat) : Int) := wrapS (by have := HGL.out; omega)
      have HST := Aside0.mk (partT_succ G i hi)
      have HLE : Aside0 ((partT G i).length ≤ 4194304) := ⟨by
        have h1 := partT_le G i (by omega)
        have h2 : 4 ^ i ≤ 4 ^ 11 := Nat.pow_le_pow_right (by omega) (by have := HGL.out; omega)
        exact Nat.le_trans h1 (Nat.le_trans h2 (by decide))⟩
      rcases (HM2.out.row.below HB.out).cases with ⟨h1, h2⟩ | ⟨g2, c', hv, _, hlt, hc, hbig, hcells⟩
      · rw [h2] at hi; exact absurd hi (by simp)
      injection hv with hv1 hv2 hv3
      subst hv1
      subst hv3
      obtain ⟨⟨g0, g1, g2', g3⟩, hx⟩ : ∃ x, x = G[i]! := ⟨_, rfl⟩
      obtain ⟨s0, s1, s2, s3⟩ := mr_four hcells hi hx
      rw [← hx] at HST
      clear hcells hx
      obtain ⟨L, hL⟩ : ∃ L, L = partT G i := ⟨_, rfl⟩
      rw [← hL] at HST HLE HV
      clear hL
      obtain ⟨A3, c3, hv3, -⟩ := HV.out.slice
      subst hv3
      go_wp2_with (((with_reducible refine gate_dst (N := 5) rfl ?_); refine box_event ?hg (N := 5) ?hd (cs := #[.int .i64 0, .int .i64 0, .int .i64 0, .int .i64 0]) (t := 75) ?hr ?_; (case hd => rfl); (case hg => rfl); (case hr => first | (go_simp; done) | (go_simp; rfl)); intro gg hgg w4 hbox hb; have o0 := blk_cell hbox 0; have o1 := blk_cell hbox 1; have o2 := blk_cell hbox 2; have o3 := blk_cell hbox 3; have z0 := blk_frozen hbox 0; have z1 := blk_frozen hbox 1; have z2 := blk_frozen hbox 2; have z3 := blk_frozen hbox 3; have BM4 := Aside0.mk hbox; have HGM := Aside0.mk (show gg = wr.heap.size from hgg); have HBW := Aside0.mk hb; clear hbox hb hgg))
      have BGa := set4_blk BM4.out (g0, g1, g2', g3)
      have BG : Aside0 ((set4 w4 gg (g0, g1, g2', g3)).heap[gg]? = some (.cells #[.int .i64 g0, .int .i64 g1, .int .i64 g2', .int .i64 g3] 75 (0, 0))) := ⟨BGa⟩
      have hws : w.heap.size ≤ wr.heap.size := Nat.le_trans HB2.out.size HB.out.size
      have HV5 : Aside0 (MR (set4 w4 gg (g0, g1, g2', g3)) w.heap.size (.slice A3 L.length c3) L) := ⟨(HV.out.below HBW.out).set4 (fun k hk e => by rw [e, HGM.out] at hk; exact absurd (own_lt HV.out _ hk) (Nat.lt_irrefl _)) _⟩
      have HB5 : Aside0 (Below w2.heap.size w2 (set4 w4 gg (g0, g1, g2', g3))) := ⟨set4_below (g := gg) (below_step HB.out HBW.out) (by rw [HGM.out]; exact HB.out.size) _⟩
      clear BGa BM4 HGM HBW HV HB o0 o1 o2 o3 z0 z1 z2 z3 s0 s1 s2 s3 hws
      show Code.wp _ _ _ _ (set4 w4 gg (g0, g1, g2', g3))
      generalize set4 w4 gg (g0, g1, g2', g3) = wm at BG HV5 HB5 ⊢
      go_loopg [6, 8, 9, 10, 11, 26] L.length (fun kq2 v6 v8 v9 v10 v11 v26 wr2 => ∃ (j : Nat), v26 = .int .i64 (j : Int) ∧ Aside0 (j + kq2 = L.length) ∧ Aside0 (MR wr2 wm.heap.size v6 (candS (g0, g1, g2', g3) (L.take j))) ∧ Aside0 (Below wm.heap.size wm wr2))
      case atStart => exact ⟨0, rfl, ⟨by omega⟩, ⟨World.ownsRow_nil _ _ _ _⟩, ⟨Below.refl _ _⟩⟩
      case round =>
        obtain ⟨j, rfl, HJ, HV6, HBm⟩ := hrel
        cases gk with
        | zero =>
          obtain rfl : j = L.length := by have := HJ.out; omega
          have hd : decide ((L.length : Int) < (L.length : Int)) = false := by simp
          have hv := HV6.out
          rw [List.take_length] at hv
          have HV7 := Aside0.mk hv
          have HCL := Aside0.mk (candS_le (g0, g1, g2', g3) L)
          clear hv HV6
          go_wp2_with (go_at_call 78; refine (least_calls wiM 81 wiF _ (candS (g0, g1, g2', g3) L) _ HV7.out.zero (by have := HCL.out; have := HLE.out; omega)).mono ?_; rintro e w7 ⟨v7, rfl, hm, hb⟩; have HM7 := Aside0.mk hm; have HB7 := Aside0.mk (below_step HB5.out (below_step HBm.out hb)); clear hm hb)
          go_roundg kq
          case measure => have := HI2.out; omega
          case rel => exact ⟨i + 1, by first | rfl | rw [hw1], ⟨by have := HI2.out; omega⟩, ⟨by rw [HST.out]; exact own_weaken HM7.out (by have := HB2.out.size; have := HB5.out.size; have := HBm.out.size; omega)⟩, HB7⟩
        | succ kq2 =>
          have hj : j < L.length := by have := HJ.out; omega
          have hq5 : ((j : Int) < (L.length : Int)) = True := eq_true (by omega)
          have hw2 : wrap64 ((j : Int) + 1) = ((j + 1 : Nat) : Int) := wrapS (by have := HLE.out; omega)
          rcases (HV5.out.below HBm.out).cases with ⟨h1, h2⟩ | ⟨g4, c', hv, _, hlt, hc, hbig, hcells⟩
          · rw [h2] at hj; exact absurd hj (by simp)
          injection hv with hv1 hv2 hv3
          subst hv1
          subst hv3
          obtain ⟨⟨p0, p1, p2, p3⟩, hx⟩ : ∃ x, x = L[j]! := ⟨_, rfl⟩
          obtain ⟨s0, s1, s2, s3⟩ := mr_four hcells hj hx
          have HTM : Aside0 (candS (g0, g1, g2', g3) (L.take (j + 1)) = candS (g0, g1, g2', g3) (L.take j) ++ candT (g0, g1, g2', g3) (p0, p1, p2, p3) 4) := ⟨by unfold candS; rw [List.take_add_one, List.flatMap_append, List.getElem?_eq_getElem hj, hx, getElem!_pos L j hj]; simp⟩
          clear hcells hx
          go_wp2_with (((with_reducible refine gate_dst (N := 8) rfl ?_); refine box_event ?hg (N := 8) ?hd (cs := #[.int .i64 0, .int .i64 0, .int .i64 0, .int .i64 0]) (t := 75) ?hr ?_; (case hd => rfl); (case hg => rfl); (case hr => first | (go_simp; done) | (go_simp; rfl)); intro gp hgp w6 hbox hb; have o0 := blk_cell hbox 0; have o1 := blk_cell hbox 1; have o2 := blk_cell hbox 2; have o3 := blk_cell hbox 3; have z0 := blk_frozen hbox 0; have z1 := blk_frozen hbox 1; have z2 := blk_frozen hbox 2; have z3 := blk_frozen hbox 3; have BM6 := Aside0.mk hbox; have HGP := Aside0.mk (show gp = wr.heap.size from hgp); have HBW2 := Aside0.mk hb; have hne : gg ≠ gp := (by rw [hgp]; exact Nat.ne_of_lt (Nat.lt_of_lt_of_le (blk_lt BG.out) HBm.out.size)); have hbg : (set4 w6 gp (p0, p1, p2, p3)).heap[gg]? = some (.cells #[.int .i64 g0, .int .i64 g1, .int .i64 g2', .int .i64 g3] 75 (0, 0)) := (set4_far hne _).trans (blk_below (blk_below BG.out HBm.out) hb); have m0 : ((((w6.setCell ⟨gp, 0, none⟩ (.int .i64 p0)).setCell ⟨gp, 1, none⟩ (.int .i64 p1)).setCell ⟨gp, 2, none⟩ (.int .i64 p2)).setCell ⟨gp, 3, none⟩ (.int .i64 p3)).cell? ⟨gg, 0, none⟩ = some (.int .i64 g0) := blk_cell hbg 0; have m1 : ((((w6.setCell ⟨gp, 0, none⟩ (.int .i64 p0)).setCell ⟨gp, 1, none⟩ (.int .i64 p1)).setCell ⟨gp, 2, none⟩ (.int .i64 p2)).setCell ⟨gp, 3, none⟩ (.int .i64 p3)).cell? ⟨gg, 1, none⟩ = some (.int .i64 g1) := blk_cell hbg 1; have m2 : ((((w6.setCell ⟨gp, 0, none⟩ (.int .i64 p0)).setCell ⟨gp, 1, none⟩ (.int .i64 p1)).setCell ⟨gp, 2, none⟩ (.int .i64 p2)).setCell ⟨gp, 3, none⟩ (.int .i64 p3)).cell? ⟨gg, 2, none⟩ = some (.int .i64 g2') := blk_cell hbg 2; have m3 : ((((w6.setCell ⟨gp, 0, none⟩ (.int .i64 p0)).setCell ⟨gp, 1, none⟩ (.int .i64 p1)).setCell ⟨gp, 2, none⟩ (.int .i64 p2)).setCell ⟨gp, 3, none⟩ (.int .i64 p3)).cell? ⟨gg, 3, none⟩ = some (.int .i64 g3) := blk_cell hbg 3; have HBG6 := Aside0.mk hbg; clear hbox hb hgp hne hbg))
          have BPa : Aside0 ((set4 w6 gp (p0, p1, p2, p3)).heap[gp]? = some (.cells #[.int .i64 p0, .int .i64 p1, .int .i64 p2, .int .i64 p3] 75 (0, 0))) := ⟨set4_blk BM6.out (p0, p1, p2, p3)⟩
          have HVa : Aside0 (MR (set4 w6 gp (p0, p1, p2, p3)) wm.heap.size u6 (candS (g0, g1, g2', g3) (L.take j))) := ⟨(HV6.out.below HBW2.out).set4 (fun k hk e => by rw [e, HGP.out] at hk; exact absurd (own_lt HV6.out _ hk) (Nat.lt_irrefl _)) _⟩
          have HNa : Aside0 (∀ k, u6.ownBlock = some k → k ≠ gp) := ⟨fun k hk e => by rw [e, HGP.out] at hk; exact absurd (own_lt HV6.out _ hk) (Nat.lt_irrefl _)⟩
          have HBa : Aside0 (Below wm.heap.size wm (set4 w6 gp (p0, p1, p2, p3))) := ⟨set4_below (g := gp) (below_step HBm.out HBW2.out) (by rw [HGP.out]; exact HBm.out.size) _⟩
          have HGPm : Aside0 (wm.heap.size ≤ gp) := ⟨by rw [HGP.out]; exact HBm.out.size⟩
          have HCL := Aside0.mk (Nat.le_trans (candS_le (g0, g1, g2', g3) (L.take j)) (Nat.mul_le_mul_left 4 (List.length_take_le j L)))
          clear BM6 HBW2 HGP HV6 HBm HBG6 o0 o1 o2 o3 z0 z1 z2 z3 s0 s1 s2 s3 m0 m1 m2 m3
          show Code.wp _ _ _ _ (set4 w6 gp (p0, p1, p2, p3))
          generalize set4 w6 gp (p0, p1, p2, p3) = wn at BPa HVa HBa ⊢
          go_loopg [6, 9, 10, 11, 31] 4 (fun kq3 v6 v9 v10 v11 v31 wr3 => ∃ (a : Nat), v31 = .int .i64 (a : Int) ∧ Aside0 (a + kq3 = 4) ∧ Aside0 (MR wr3 wm.heap.size v6 (candS (g0, g1, g2', g3) (L.take j) ++ candT (g0, g1, g2', g3) (p0, p1, p2, p3) a)) ∧ Aside0 (wr3.heap[gp]? = some (.cells #[.int .i64 p0, .int .i64 p1, .int .i64 p2, .int .i64 p3] 75 (0, 0))) ∧ Aside0 (∀ k, v6.ownBlock = some k → k ≠ gp) ∧ Aside0 (Below wm.heap.size wm wr3))
          case atStart => exact ⟨0, rfl, ⟨rfl⟩, ⟨by rw [candT, List.append_nil]; exact HVa.out⟩, BPa, HNa, HBa⟩
          case round =>
            clear BPa HVa HNa HBa
            obtain ⟨a, hv31, HA, HVI, BP, HNE, HBI⟩ := hrel
            cases gk with
            | zero =>
              obtain rfl : a = 4 := by have := HA.out; omega
              change _ = Value.int .i64 4 at hv31
              subst hv31
              go_wp2
              go_roundg kq2
              case measure => have := HJ.out; omega
              case rel => exact ⟨j + 1, by first | rfl | rw [hw2], ⟨by have := HJ.out; omega⟩, ⟨by rw [HTM.out]; exact HVI.out⟩, HBI⟩
            | succ kq3 =>
              have HCL3 := Aside0.mk (show (candS (g0, g1, g2', g3) (L.take j) ++ candT (g0, g1, g2', g3) (p0, p1, p2, p3) a).length ≤ 16777220 from by rw [List.length_append]; have h1 := HCL.out; have h2 := candT_le (g0, g1, g2', g3) (p0, p1, p2, p3) a; have h3 := HLE.out; have h4 := HA.out; omega)
              rcases (show a = 0 ∨ a = 1 ∨ a = 2 ∨ a = 3 by have := HA.out; omega) with rfl | rfl | rfl | rfl
              · change _ = Value.int .i64 0 at hv31
                subst hv31
                have ix : ∀ W, (Instr.index 75 (.agg #[.int .i64 g0, .int .i64 g1, .int .i64 g2', .int .i64 g3]) (.int .i64 0)).run Try.prog W = .ok (.int .i64 g0) W := fun W => idx75 g0 g1 g2' g3 0 (by omega) _ rfl W
                have HT : Aside0 (candT (g0, g1, g2', g3) (p0, p1, p2, p3) (0 + 1) = if g0 = 0 then candT (g0, g1, g2', g3) (p0, p1, p2, p3) 0 else candT (g0, g1, g2', g3) (p0, p1, p2, p3) 0 ++ [updM (p0, p1, p2, p3) 0 g0]) := ⟨rfl⟩
                by_cases he : g0 = 0
                · have d1 : (g0 == 0) = true := beq_iff_eq.2 he
                  rw [if_pos he] at HT
                  clear he
                  go_wp2
                  go_roundg kq3
                  case measure => have := HA.out; omega
                  case rel => exact ⟨0 + 1, rfl, ⟨by have := HA.out; omega⟩, ⟨by rw [HT.out]; exact HVI.out⟩, BP, HNE, HBI⟩
                · have d1 : (g0 == 0) = false := beq_eq_false_iff_ne.2 he
                  rw [if_neg he] at HT
                  clear he
                  have o0 := blk_cell BP.out 0
                  have o1 := blk_cell BP.out 1
                  have o2 := blk_cell BP.out 2
                  have o3 := blk_cell BP.out 3
                  have HPL := Aside0.mk (blk_lt BP.out)
                  by_cases h1 : p0 = 0
                  · have d2 : (p0 == 0) = true := beq_iff_eq.2 h1
                    have HQ : Aside0 (updM (p0, p1, p2, p3) 0 g0 = (g0, p1, p2, p3)) := ⟨if_pos (.inl h1)⟩
                    clear h1
                    go_wp2_with (((with_reducible refine gate_builtin (b := .append) (xs := #[.tmp 52, .tmp 54]) rfl ?_); at_builtin; refine MR_append (w0 := wm) (W := (wr.alloc (.cells #[.int .i64 g0, .int .i64 p1, .int .i64 p2, .int .i64 p3] 75))) wm.heap.size rfl (.tmp 52) (.tmp 54) rfl _ _ (g0, p1, p2, p3) rfl (by rw [alloc_size1]; rfl) (HVI.out.below (below_alloc (Below.refl _ _) _)) (below_alloc HBI.out _) (below_alloc HBI.out _).size (by have := HCL3.out; omega) ?_; intro v9 w9 ho hb hg hat; have HV9 := Aside0.mk ho; have HB9 := Aside0.mk hb; have BPW := blk_alloc BP.out (.cells #[.int .i64 g0, .int .i64 p1, .int .i64 p2, .int .i64 p3] 75); have BP9 : Aside0 (w9.heap[gp]? = some (.cells #[.int .i64 p0, .int .i64 p1, .int .i64 p2, .int .i64 p3] 75 (0, 0))) := ⟨(hg.block gp (blk_lt BPW) (fun e => HNE.out gp e.symm rfl)).trans BPW⟩; have HNE9 : Aside0 (∀ k, v9.ownBlock = some k → k ≠ gp) := ⟨ne_append hat HNE.out (blk_lt BPW)⟩; clear ho hb hg hat BPW))
                    go_roundg kq3
                    case measure => have := HA.out; omega
                    case rel => exact ⟨0 + 1, rfl, ⟨by have := HA.out; omega⟩, ⟨by rw [HT.out, HQ.out, ← List.append_assoc]; exact HV9.out⟩, BP9, HNE9, HB9⟩
                  · have d2 : (p0 == 0) = false := beq_eq_false_iff_ne.2 h1
                    by_cases h2 : g0 < p0
                    · have d3 : decide (g0 < p0) = true := decide_eq_true h2
                      have HQ : Aside0 (updM (p0, p1, p2, p3) 0 g0 = (g0, p1, p2, p3)) := ⟨if_pos (.inr h2)⟩
                      clear h1 h2
                      go_wp2_with (((with_reducible refine gate_builtin (b := .append) (xs := #[.tmp 52, .tmp 54]) rfl ?_); at_builtin; refine MR_append (w0 := wm) (W := (wr.alloc (.cells #[.int .i64 g0, .int .i64 p1, .int .i64 p2, .int .i64 p3] 75))) wm.heap.size rfl (.tmp 52) (.tmp 54) rfl _ _ (g0, p1, p2, p3) rfl (by rw [alloc_size1]; rfl) (HVI.out.below (below_alloc (Below.refl _ _) _)) (below_alloc HBI.out _) (below_alloc HBI.out _).size (by have := HCL3.out; omega) ?_; intro v9 w9 ho hb hg hat; have HV9 := Aside0.mk ho; have HB9 := Aside0.mk hb; have BPW := blk_alloc BP.out (.cells #[.int .i64 g0, .int .i64 p1, .int .i64 p2, .int .i64 p3] 75); have BP9 : Aside0 (w9.heap[gp]? = some (.cells #[.int .i64 p0, .int .i64 p1, .int .i64 p2, .int .i64 p3] 75 (0, 0))) := ⟨(hg.block gp (blk_lt BPW) (fun e => HNE.out gp e.symm rfl)).trans BPW⟩; have HNE9 : Aside0 (∀ k, v9.ownBlock = some k → k ≠ gp) := ⟨ne_append hat HNE.out (blk_lt BPW)⟩; clear ho hb hg hat BPW))
                      go_roundg kq3
                      case measure => have := HA.out; omega
                      case rel => exact ⟨0 + 1, rfl, ⟨by have := HA.out; omega⟩, ⟨by rw [HT.out, HQ.out, ← List.append_assoc]; exact HV9.out⟩, BP9, HNE9, HB9⟩
                    · have d3 : decide (g0 < p0) = false := decide_eq_false h2
                      have HQ : Aside0 (updM (p0, p1, p2, p3) 0 g0 = (p0, p1, p2, p3)) := ⟨if_neg (fun h => h.elim h1 h2)⟩
                      clear h1 h2
                      go_wp2_with (((with_reducible refine gate_builtin (b := .append) (xs := #[.tmp 52, .tmp 54]) rfl ?_); at_builtin; refine MR_append (w0 := wm) (W := (wr.alloc (.cells #[.int .i64 p0, .int .i64 p1, .int .i64 p2, .int .i64 p3] 75))) wm.heap.size rfl (.tmp 52) (.tmp 54) rfl _ _ (p0, p1, p2, p3) rfl (by rw [alloc_size1]; rfl) (HVI.out.below (below_alloc (Below.refl _ _) _)) (below_alloc HBI.out _) (below_alloc HBI.out _).size (by have := HCL3.out; omega) ?_; intro v9 w9 ho hb hg hat; have HV9 := Aside0.mk ho; have HB9 := Aside0.mk hb; have BPW := blk_alloc BP.out (.cells #[.int .i64 p0, .int .i64 p1, .int .i64 p2, .int .i64 p3] 75); have BP9 : Aside0 (w9.heap[gp]? = some (.cells #[.int .i64 p0, .int .i64 p1, .int .i64 p2, .int .i64 p3] 75 (0, 0))) := ⟨(hg.block gp (blk_lt BPW) (fun e => HNE.out gp e.symm rfl)).trans BPW⟩; have HNE9 : Aside0 (∀ k, v9.ownBlock = some k → k ≠ gp) := ⟨ne_append hat HNE.out (blk_lt BPW)⟩; clear ho hb hg hat BPW))
                      go_roundg kq3
                      case measure => have := HA.out; omega
                      case rel => exact ⟨0 + 1, rfl, ⟨by have := HA.out; omega⟩, ⟨by rw [HT.out, HQ.out, ← List.append_assoc]; exact HV9.out⟩, BP9, HNE9, HB9⟩
              · change _ = Value.int .i64 1 at hv31
                subst hv31
                have ix : ∀ W, (Instr.index 75 (.agg #[.int .i64 g0, .int .i64 g1, .int .i64 g2', .int .i64 g3]) (.int .i64 1)).run Try.prog W = .ok (.int .i64 g1) W := fun W => idx75 g0 g1 g2' g3 1 (by omega) _ rfl W
                have HT : Aside0 (candT (g0, g1, g2', g3) (p0, p1, p2, p3) (1 + 1) = if g1 = 0 then candT (g0, g1, g2', g3) (p0, p1, p2, p3) 1 else candT (g0, g1, g2', g3) (p0, p1, p2, p3) 1 ++ [updM (p0, p1, p2, p3) 1 g1]) := ⟨rfl⟩
                by_cases he : g1 = 0
                · have d1 : (g1 == 0) = true := beq_iff_eq.2 he
                  rw [if_pos he] at HT
                  clear he
                  go_wp2
                  go_roundg kq3
                  case measure => have := HA.out; omega
                  case rel => exact ⟨1 + 1, rfl, ⟨by have := HA.out; omega⟩, ⟨by rw [HT.out]; exact HVI.out⟩, BP, HNE, HBI⟩
                · have d1 : (g1 == 0) = false := beq_eq_false_iff_ne.2 he
                  rw [if_neg he] at HT
                  clear he
                  have o0 := blk_cell BP.out 0
                  have o1 := blk_cell BP.out 1
                  have o2 := blk_cell BP.out 2
                  have o3 := blk_cell BP.out 3
                  have HPL := Aside0.mk (blk_lt BP.out)
                  by_cases h1 : p1 = 0
                  · have d2 : (p1 == 0) = true := beq_iff_eq.2 h1
                    have HQ : Aside0 (updM (p0, p1, p2, p3) 1 g1 = (p0, g1, p2, p3)) := ⟨if_pos (.inl h1)⟩
                    clear h1
                    go_wp2_with (((with_reducible refine gate_builtin (b := .append) (xs := #[.tmp 52, .tmp 54]) rfl ?_); at_builtin; refine MR_append (w0 := wm) (W := (wr.alloc (.cells #[.int .i64 p0, .int .i64 g1, .int .i64 p2, .int .i64 p3] 75))) wm.heap.size rfl (.tmp 52) (.tmp 54) rfl _ _ (p0, g1, p2, p3) rfl (by rw [alloc_size1]; rfl) (HVI.out.below (below_alloc (Below.refl _ _) _)) (below_alloc HBI.out _) (below_alloc HBI.out _).size (by have := HCL3.out; omega) ?_; intro v9 w9 ho hb hg hat; have HV9 := Aside0.mk ho; have HB9 := Aside0.mk hb; have BPW := blk_alloc BP.out (.cells #[.int .i64 p0, .int .i64 g1, .int .i64 p2, .int .i64 p3] 75); have BP9 : Aside0 (w9.heap[gp]? = some (.cells #[.int .i64 p0, .int .i64 p1, .int .i64 p2, .int .i64 p3] 75 (0, 0))) := ⟨(hg.block gp (blk_lt BPW) (fun e => HNE.out gp e.symm rfl)).trans BPW⟩; have HNE9 : Aside0 (∀ k, v9.ownBlock = some k → k ≠ gp) := ⟨ne_append hat HNE.out (blk_lt BPW)⟩; clear ho hb hg hat BPW))
                    go_roundg kq3
                    case measure => have := HA.out; omega
                    case rel => exact ⟨1 + 1, rfl, ⟨by have := HA.out; omega⟩, ⟨by rw [HT.out, HQ.out, ← List.append_assoc]; exact HV9.out⟩, BP9, HNE9, HB9⟩
                  · have d2 : (p1 == 0) = false := beq_eq_false_iff_ne.2 h1
                    by_cases h2 : g1 < p1
                    · have d3 : decide (g1 < p1) = true := decide_eq_true h2
                      have HQ : Aside0 (updM (p0, p1, p2, p3) 1 g1 = (p0, g1, p2, p3)) := ⟨if_pos (.inr h2)⟩
                      clear h1 h2
                      go_wp2_with (((with_reducible refine gate_builtin (b := .append) (xs := #[.tmp 52, .tmp 54]) rfl ?_); at_builtin; refine MR_append (w0 := wm) (W := (wr.alloc (.cells #[.int .i64 p0, .int .i64 g1, .int .i64 p2, .int .i64 p3] 75))) wm.heap.size rfl (.tmp 52) (.tmp 54) rfl _ _ (p0, g1, p2, p3) rfl (by rw [alloc_size1]; rfl) (HVI.out.below (below_alloc (Below.refl _ _) _)) (below_alloc HBI.out _) (below_alloc HBI.out _).size (by have := HCL3.out; omega) ?_; intro v9 w9 ho hb hg hat; have HV9 := Aside0.mk ho; have HB9 := Aside0.mk hb; have BPW := blk_alloc BP.out (.cells #[.int .i64 p0, .int .i64 g1, .int .i64 p2, .int .i64 p3] 75); have BP9 : Aside0 (w9.heap[gp]? = some (.cells #[.int .i64 p0, .int .i64 p1, .int .i64 p2, .int .i64 p3] 75 (0, 0))) := ⟨(hg.block gp (blk_lt BPW) (fun e => HNE.out gp e.symm rfl)).trans BPW⟩; have HNE9 : Aside0 (∀ k, v9.ownBlock = some k → k ≠ gp) := ⟨ne_append hat HNE.out (blk_lt BPW)⟩; clear ho hb hg hat BPW))
                      go_roundg kq3
                      case measure => have := HA.out; omega
                      case rel => exact ⟨1 + 1, rfl, ⟨by have := HA.out; omega⟩, ⟨by rw [HT.out, HQ.out, ← List.append_assoc]; exact HV9.out⟩, BP9, HNE9, HB9⟩
                    · have d3 : decide (g1 < p1) = false := decide_eq_false h2
                      have HQ : Aside0 (updM (p0, p1, p2, p3) 1 g1 = (p0, p1, p2, p3)) := ⟨if_neg (fun h => h.elim h1 h2)⟩
                      clear h1 h2
                      go_wp2_with (((with_reducible refine gate_builtin (b := .append) (xs := #[.tmp 52, .tmp 54]) rfl ?_); at_builtin; refine MR_append (w0 := wm) (W := (wr.alloc (.cells #[.int .i64 p0, .int .i64 p1, .int .i64 p2, .int .i64 p3] 75))) wm.heap.size rfl (.tmp 52) (.tmp 54) rfl _ _ (p0, p1, p2, p3) rfl (by rw [alloc_size1]; rfl) (HVI.out.below (below_alloc (Below.refl _ _) _)) (below_alloc HBI.out _) (below_alloc HBI.out _).size (by have := HCL3.out; omega) ?_; intro v9 w9 ho hb hg hat; have HV9 := Aside0.mk ho; have HB9 := Aside0.mk hb; have BPW := blk_alloc BP.out (.cells #[.int .i64 p0, .int .i64 p1, .int .i64 p2, .int .i64 p3] 75); have BP9 : Aside0 (w9.heap[gp]? = some (.cells #[.int .i64 p0, .int .i64 p1, .int .i64 p2, .int .i64 p3] 75 (0, 0))) := ⟨(hg.block gp (blk_lt BPW) (fun e => HNE.out gp e.symm rfl)).trans BPW⟩; have HNE9 : Aside0 (∀ k, v9.ownBlock = some k → k ≠ gp) := ⟨ne_append hat HNE.out (blk_lt BPW)⟩; clear ho hb hg hat BPW))
                      go_roundg kq3
                      case measure => have := HA.out; omega
                      case rel => exact ⟨1 + 1, rfl, ⟨by have := HA.out; omega⟩, ⟨by rw [HT.out, HQ.out, ← List.append_assoc]; exact HV9.out⟩, BP9, HNE9, HB9⟩
              · change _ = Value.int .i64 2 at hv31
                subst hv31
                have ix : ∀ W, (Instr.index 75 (.agg #[.int .i64 g0, .int .i64 g1, .int .i64 g2', .int .i64 g3]) (.int .i64 2)).run Try.prog W = .ok (.int .i64 g2') W := fun W => idx75 g0 g1 g2' g3 2 (by omega) _ rfl W
                have HT : Aside0 (candT (g0, g1, g2', g3) (p0, p1, p2, p3) (2 + 1) = if g2' = 0 then candT (g0, g1, g2', g3) (p0, p1, p2, p3) 2 else candT (g0, g1, g2', g3) (p0, p1, p2, p3) 2 ++ [updM (p0, p1, p2, p3) 2 g2']) := ⟨rfl⟩
                by_cases he : g2' = 0
                · have d1 : (g2' == 0) = true := beq_iff_eq.2 he
                  rw [if_pos he] at HT
                  clear he
                  go_wp2
                  go_roundg kq3
                  case measure => have := HA.out; omega
                  case rel => exact ⟨2 + 1, rfl, ⟨by have := HA.out; omega⟩, ⟨by rw [HT.out]; exact HVI.out⟩, BP, HNE, HBI⟩
                · have d1 : (g2' == 0) = false := beq_eq_false_iff_ne.2 he
                  rw [if_neg he] at HT
                  clear he
                  have o0 := blk_cell BP.out 0
                  have o1 := blk_cell BP.out 1
                  have o2 := blk_cell BP.out 2
                  have o3 := blk_cell BP.out 3
                  have HPL := Aside0.mk (blk_lt BP.out)
                  by_cases h1 : p2 = 0
                  · have d2 : (p2 == 0) = true := beq_iff_eq.2 h1
                    have HQ : Aside0 (updM (p0, p1, p2, p3) 2 g2' = (p0, p1, g2', p3)) := ⟨if_pos (.inl h1)⟩
                    clear h1
                    go_wp2_with (((with_reducible refine gate_builtin (b := .append) (xs := #[.tmp 52, .tmp 54]) rfl ?_); at_builtin; refine MR_append (w0 := wm) (W := (wr.alloc (.cells #[.int .i64 p0, .int .i64 p1, .int .i64 g2', .int .i64 p3] 75))) wm.heap.size rfl (.tmp 52) (.tmp 54) rfl _ _ (p0, p1, g2', p3) rfl (by rw [alloc_size1]; rfl) (HVI.out.below (below_alloc (Below.refl _ _) _)) (below_alloc HBI.out _) (below_alloc HBI.out _).size (by have := HCL3.out; omega) ?_; intro v9 w9 ho hb hg hat; have HV9 := Aside0.mk ho; have HB9 := Aside0.mk hb; have BPW := blk_alloc BP.out (.cells #[.int .i64 p0, .int .i64 p1, .int .i64 g2', .int .i64 p3] 75); have BP9 : Aside0 (w9.heap[gp]? = some (.cells #[.int .i64 p0, .int .i64 p1, .int .i64 p2, .int .i64 p3] 75 (0, 0))) := ⟨(hg.block gp (blk_lt BPW) (fun e => HNE.out gp e.symm rfl)).trans BPW⟩; have HNE9 : Aside0 (∀ k, v9.ownBlock = some k → k ≠ gp) := ⟨ne_append hat HNE.out (blk_lt BPW)⟩; clear ho hb hg hat BPW))
                    go_roundg kq3
                    case measure => have := HA.out; omega
                    case rel => exact ⟨2 + 1, rfl, ⟨by have := HA.out; omega⟩, ⟨by rw [HT.out, HQ.out, ← List.append_assoc]; exact HV9.out⟩, BP9, HNE9, HB9⟩
                  · have d2 : (p2 == 0) = false := beq_eq_false_iff_ne.2 h1
                    by_cases h2 : g2' < p2
                    · have d3 : decide (g2' < p2) = true := decide_eq_true h2
                      have HQ : Aside0 (updM (p0, p1, p2, p3) 2 g2' = (p0, p1, g2', p3)) := ⟨if_pos (.inr h2)⟩
                      clear h1 h2
                      go_wp2_with (((with_reducible refine gate_builtin (b := .append) (xs := #[.tmp 52, .tmp 54]) rfl ?_); at_builtin; refine MR_append (w0 := wm) (W := (wr.alloc (.cells #[.int .i64 p0, .int .i64 p1, .int .i64 g2', .int .i64 p3] 75))) wm.heap.size rfl (.tmp 52) (.tmp 54) rfl _ _ (p0, p1, g2', p3) rfl (by rw [alloc_size1]; rfl) (HVI.out.below (below_alloc (Below.refl _ _) _)) (below_alloc HBI.out _) (below_alloc HBI.out _).size (by have := HCL3.out; omega) ?_; intro v9 w9 ho hb hg hat; have HV9 := Aside0.mk ho; have HB9 := Aside0.mk hb; have BPW := blk_alloc BP.out (.cells #[.int .i64 p0, .int .i64 p1, .int .i64 g2', .int .i64 p3] 75); have BP9 : Aside0 (w9.heap[gp]? = some (.cells #[.int .i64 p0, .int .i64 p1, .int .i64 p2, .int .i64 p3] 75 (0, 0))) := ⟨(hg.block gp (blk_lt BPW) (fun e => HNE.out gp e.symm rfl)).trans BPW⟩; have HNE9 : Aside0 (∀ k, v9.ownBlock = some k → k ≠ gp) := ⟨ne_append hat HNE.out (blk_lt BPW)⟩; clear ho hb hg hat BPW))
                      go_roundg kq3
                      case measure => have := HA.out; omega
                      case rel => exact ⟨2 + 1, rfl, ⟨by have := HA.out; omega⟩, ⟨by rw [HT.out, HQ.out, ← List.append_assoc]; exact HV9.out⟩, BP9, HNE9, HB9⟩
                    · have d3 : decide (g2' < p2) = false := decide_eq_false h2
                      have HQ : Aside0 (updM (p0, p1, p2, p3) 2 g2' = (p0, p1, p2, p3)) := ⟨if_neg (fun h => h.elim h1 h2)⟩
                      clear h1 h2
                      go_wp2_with (((with_reducible refine gate_builtin (b := .append) (xs := #[.tmp 52, .tmp 54]) rfl ?_); at_builtin; refine MR_append (w0 := wm) (W := (wr.alloc (.cells #[.int .i64 p0, .int .i64 p1, .int .i64 p2, .int .i64 p3] 75))) wm.heap.size rfl (.tmp 52) (.tmp 54) rfl _ _ (p0, p1, p2, p3) rfl (by rw [alloc_size1]; rfl) (HVI.out.below (below_alloc (Below.refl _ _) _)) (below_alloc HBI.out _) (below_alloc HBI.out _).size (by have := HCL3.out; omega) ?_; intro v9 w9 ho hb hg hat; have HV9 := Aside0.mk ho; have HB9 := Aside0.mk hb; have BPW := blk_alloc BP.out (.cells #[.int .i64 p0, .int .i64 p1, .int .i64 p2, .int .i64 p3] 75); have BP9 : Aside0 (w9.heap[gp]? = some (.cells #[.int .i64 p0, .int .i64 p1, .int .i64 p2, .int .i64 p3] 75 (0, 0))) := ⟨(hg.block gp (blk_lt BPW) (fun e => HNE.out gp e.symm rfl)).trans BPW⟩; have HNE9 : Aside0 (∀ k, v9.ownBlock = some k → k ≠ gp) := ⟨ne_append hat HNE.out (blk_lt BPW)⟩; clear ho hb hg hat BPW))
                      go_roundg kq3
                      case measure => have := HA.out; omega
                      case rel => exact ⟨2 + 1, rfl, ⟨by have := HA.out; omega⟩, ⟨by rw [HT.out, HQ.out, ← List.append_assoc]; exact HV9.out⟩, BP9, HNE9, HB9⟩
              · change _ = Value.int .i64 3 at hv31
                subst hv31
                have ix : ∀ W, (Instr.index 75 (.agg #[.int .i64 g0, .int .i64 g1, .int .i64 g2', .int .i64 g3]) (.int .i64 3)).run Try.prog W = .ok (.int .i64 g3) W := fun W => idx75 g0 g1 g2' g3 3 (by omega) _ rfl W
                have HT : Aside0 (candT (g0, g1, g2', g3) (p0, p1, p2, p3) (3 + 1) = if g3 = 0 then candT (g0, g1, g2', g3) (p0, p1, p2, p3) 3 else candT (g0, g1, g2', g3) (p0, p1, p2, p3) 3 ++ [updM (p0, p1, p2, p3) 3 g3]) := ⟨rfl⟩
                by_cases he : g3 = 0
                · have d1 : (g3 == 0) = true := beq_iff_eq.2 he
                  rw [if_pos he] at HT
                  clear he
                  go_wp2
                  go_roundg kq3
                  case measure => have := HA.out; omega
                  case rel => exact ⟨3 + 1, rfl, ⟨by have := HA.out; omega⟩, ⟨by rw [HT.out]; exact HVI.out⟩, BP, HNE, HBI⟩
                · have d1 : (g3 == 0) = false := beq_eq_false_iff_ne.2 he
                  rw [if_neg he] at HT
                  clear he
                  have o0 := blk_cell BP.out 0
                  have o1 := blk_cell BP.out 1
                  have o2 := blk_cell BP.out 2
                  have o3 := blk_cell BP.out 3
                  have HPL := Aside0.mk (blk_lt BP.out)
                  by_cases h1 : p3 = 0
                  · have d2 : (p3 == 0) = true := beq_iff_eq.2 h1
                    have HQ : Aside0 (updM (p0, p1, p2, p3) 3 g3 = (p0, p1, p2, g3)) := ⟨if_pos (.inl h1)⟩
                    clear h1
                    go_wp2_with (((with_reducible refine gate_builtin (b := .append) (xs := #[.tmp 52, .tmp 54]) rfl ?_); at_builtin; refine MR_append (w0 := wm) (W := (wr.alloc (.cells #[.int .i64 p0, .int .i64 p1, .int .i64 p2, .int .i64 g3] 75))) wm.heap.size rfl (.tmp 52) (.tmp 54) rfl _ _ (p0, p1, p2, g3) rfl (by rw [alloc_size1]; rfl) (HVI.out.below (below_alloc (Below.refl _ _) _)) (below_alloc HBI.out _) (below_alloc HBI.out _).size (by have := HCL3.out; omega) ?_; intro v9 w9 ho hb hg hat; have HV9 := Aside0.mk ho; have HB9 := Aside0.mk hb; have BPW := blk_alloc BP.out (.cells #[.int .i64 p0, .int .i64 p1, .int .i64 p2, .int .i64 g3] 75); have BP9 : Aside0 (w9.heap[gp]? = some (.cells #[.int .i64 p0, .int .i64 p1, .int .i64 p2, .int .i64 p3] 75 (0, 0))) := ⟨(hg.block gp (blk_lt BPW) (fun e => HNE.out gp e.symm rfl)).trans BPW⟩; have HNE9 : Aside0 (∀ k, v9.ownBlock = some k → k ≠ gp) := ⟨ne_append hat HNE.out (blk_lt BPW)⟩; clear ho hb hg hat BPW))
                    go_roundg kq3
                    case measure => have := HA.out; omega
                    case rel => exact ⟨3 + 1, rfl, ⟨by have := HA.out; omega⟩, ⟨by rw [HT.out, HQ.out, ← List.append_assoc]; exact HV9.out⟩, BP9, HNE9, HB9⟩
                  · have d2 : (p3 == 0) = false := beq_eq_false_iff_ne.2 h1
                    by_cases h2 : g3 < p3
                    · have d3 : decide (g3 < p3) = true := decide_eq_true h2
                      have HQ : Aside0 (updM (p0, p1, p2, p3) 3 g3 = (p0, p1, p2, g3)) := ⟨if_pos (.inr h2)⟩
                      clear h1 h2
                      go_wp2_with (((with_reducible refine gate_builtin (b := .append) (xs := #[.tmp 52, .tmp 54]) rfl ?_); at_builtin; refine MR_append (w0 := wm) (W := (wr.alloc (.cells #[.int .i64 p0, .int .i64 p1, .int .i64 p2, .int .i64 g3] 75))) wm.heap.size rfl (.tmp 52) (.tmp 54) rfl _ _ (p0, p1, p2, g3) rfl (by rw [alloc_size1]; rfl) (HVI.out.below (below_alloc (Below.refl _ _) _)) (below_alloc HBI.out _) (below_alloc HBI.out _).size (by have := HCL3.out; omega) ?_; intro v9 w9 ho hb hg hat; have HV9 := Aside0.mk ho; have HB9 := Aside0.mk hb; have BPW := blk_alloc BP.out (.cells #[.int .i64 p0, .int .i64 p1, .int .i64 p2, .int .i64 g3] 75); have BP9 : Aside0 (w9.heap[gp]? = some (.cells #[.int .i64 p0, .int .i64 p1, .int .i64 p2, .int .i64 p3] 75 (0, 0))) := ⟨(hg.block gp (blk_lt BPW) (fun e => HNE.out gp e.symm rfl)).trans BPW⟩; have HNE9 : Aside0 (∀ k, v9.ownBlock = some k → k ≠ gp) := ⟨ne_append hat HNE.out (blk_lt BPW)⟩; clear ho hb hg hat BPW))
                      go_roundg kq3
                      case measure => have := HA.out; omega
                      case rel => exact ⟨3 + 1, rfl, ⟨by have := HA.out; omega⟩, ⟨by rw [HT.out, HQ.out, ← List.append_assoc]; exact HV9.out⟩, BP9, HNE9, HB9⟩
                    · have d3 : decide (g3 < p3) = false := decide_eq_false h2
                      have HQ : Aside0 (updM (p0, p1, p2, p3) 3 g3 = (p0, p1, p2, p3)) := ⟨if_neg (fun h => h.elim h1 h2)⟩
                      clear h1 h2
                      go_wp2_with (((with_reducible refine gate_builtin (b := .append) (xs := #[.tmp 52, .tmp 54]) rfl ?_); at_builtin; refine MR_append (w0 := wm) (W := (wr.alloc (.cells #[.int .i64 p0, .int .i64 p1, .int .i64 p2, .int .i64 p3] 75))) wm.heap.size rfl (.tmp 52) (.tmp 54) rfl _ _ (p0, p1, p2, p3) rfl (by rw [alloc_size1]; rfl) (HVI.out.below (below_alloc (Below.refl _ _) _)) (below_alloc HBI.out _) (below_alloc HBI.out _).size (by have := HCL3.out; omega) ?_; intro v9 w9 ho hb hg hat; have HV9 := Aside0.mk ho; have HB9 := Aside0.mk hb; have BPW := blk_alloc BP.out (.cells #[.int .i64 p0, .int .i64 p1, .int .i64 p2, .int .i64 p3] 75); have BP9 : Aside0 (w9.heap[gp]? = some (.cells #[.int .i64 p0, .int .i64 p1, .int .i64 p2, .int .i64 p3] 75 (0, 0))) := ⟨(hg.block gp (blk_lt BPW) (fun e => HNE.out gp e.symm rfl)).trans BPW⟩; have HNE9 : Aside0 (∀ k, v9.ownBlock = some k → k ≠ gp) := ⟨ne_append hat HNE.out (blk_lt BPW)⟩; clear ho hb hg hat BPW))
                      go_roundg kq3
                      case measure => have := HA.out; omega
                      case rel => exact ⟨3 + 1, rfl, ⟨by have := HA.out; omega⟩, ⟨by rw [HT.out, HQ.out, ← List.append_assoc]; exact HV9.out⟩, BP9, HNE9, HB9⟩
end Go.Proofs.Ytjkfjnempofihaa.Fi
