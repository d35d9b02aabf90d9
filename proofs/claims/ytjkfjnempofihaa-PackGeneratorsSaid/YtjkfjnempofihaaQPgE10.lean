/- The calls of list. -/
import Derived.Test.YtjkfjnempofihaaQPgE8
import Derived.Test.YtjkfjnempofihaaQPgE9
namespace Go.Proofs.Ytjkfjnempofihaa.Fi
open Go.RowKit Go.Shelf Go.Lib Go.Proofs.YtjkfjnempofihaaW.PrintWords Go.Proofs.YtjkfjnempofihaaW.PrintLast Go.Proofs.YtjkfjnempofihaaW.PrintMore
set_option linter.unusedVariables false
set_option linter.unusedSimpArgs false
abbrev kL : Kd (List Int) := Kd.slice 3 (Kd.int .i64)
section
variable {ops : Array Oper} {rest : List Oper} {o : Oper} {a : Act} {Q : Exit → Act → World → Prop}
/-- A row of numbers is appended to a list of rows. -/
theorem row_append {w0 W : World} (hgd : o.guard = none) (s x : Operand) (ho : o.op = .call { callee := .builtin .append, args := #[s, x], argTypes := #[22, 22] })
    (u : Value) (xs : List (List Int)) (row : List Int) (A : Option Addr) (c : Nat) (hs : a.eval s = u) (hx : a.eval x = .slice (some ⟨W.heap.size, 0, none⟩) 1 1)
    (HO : Kd.S kL 25 W w0.heap.size (fun k => True ∧ some k ≠ (.slice A row.length c : Value).ownBlock) u xs) (HR : Kd.R (Kd.int .i64) 3 W w0.heap.size (fun _ => True) (.slice A row.length c) row) (HB : Below w0.heap.size w0 W) (hl : xs.length ≤ 30000000)
    (h : ∀ v1 w1, Kd.S kL 25 w1 w0.heap.size (fun _ => True) v1 (xs ++ [row]) → Below w0.heap.size w0 w1 → W.grownBy w1 u.ownBlock → wpList Try.prog ops Q rest (a.put o.dst v1) w1) :
    wpList Try.prog ops Q (o :: rest) a (W.alloc (.cells #[.slice A row.length c] 25)) := by
  refine Kd.S_append (Kd.slice 3 (Kd.int .i64)) (w0 := w0) w0.heap.size hgd s x 22 25 (.slice none 0 0) 24 ho Try.underlying22 info25 rfl (by decide) (by omega) u xs row [.slice A row.length c] (fun _ => True) (fun k_ => some k_ = (.slice A row.length c : Value).ownBlock) hs hx ?aP (fun k_ hk_ => ((Kd.R_mono (ok' := fun k_ => ((fun _ => True)) k_ ∧ some k_ ≠ (u : Value).ownBlock) (Kd.R_apart' HR (Kd.S_typed HO) (by decide)) (fun k_ hk => ⟨trivial, hk.2⟩))).1 k_ hk_.symm) ?aF ?aO ?aB ?aS ?aL ?_
  case aP => exact Kd.M_row (Kd.R_mono (Kd.R_tight rfl (Kd.R_mono (ok' := fun k_ => ((fun _ => True)) k_ ∧ some k_ ≠ (u : Value).ownBlock) (Kd.R_apart' HR (Kd.S_typed HO) (by decide)) (fun k_ hk => ⟨trivial, hk.2⟩))) (fun _ h_ => h_))
  case aB => exact HB
  case aF => exact (fun _ _ => trivial)
  case aO => exact Kd.S_mono HO (fun k_ hk => ⟨trivial, fun e_ => hk.2 e_⟩)
  case aS => exact HB.size
  case aL => omega
  intro v1 w1 h1 h2 h3 h4
  exact h v1 w1 h1 h2 h3
end
/-- The first numbers of a monomial. -/
def cutM (k : Nat) (m : M4) : List Int := (tl m).take k
theorem cutM_len {k : Nat} (h : k ≤ 4) (m : M4) : (cutM k m).length = k := by rw [cutM, List.length_take, tl_len]; omega
/-- The first cells of a block that holds a monomial. -/
theorem cut_C {w : World} {g k : Nat} {m : M4} (h : w.heap[g]? = some (.cells (enc4 m).toArray 75 (0, 0))) (hk : k ≤ 4) : Kd.C (Kd.int .i64) w (some ⟨g, 0, none⟩) (cutM k m).length (cutM k m) :=
  ⟨rfl, by rw [cutM_len hk]; omega, fun _ => ⟨_, rfl, fun j p hj => ⟨[.int .i64 p], rfl, rfl, fun i u hu => by
    have hi : i = 0 := by have := (List.getElem?_eq_some_iff.1 hu).1; simpa using this
    subst hi
    have e : u = .int .i64 p := by simpa using hu.symm
    have hj4 : j < k := by have := (List.getElem?_eq_some_iff.1 hj).1; rwa [cutM_len hk] at this
    rw [e, Addr.add_lit, blk_cell h]
    have hp : (tl m)[j]? = some p := by rw [cutM, List.getElem?_take, if_pos hj4] at hj; exact hj
    show (enc4 m).toArray[0 + (j * 1 + 0)]? = _
    rw [show 0 + (j * 1 + 0) = j by omega]
    have hE : enc4 m = (tl m).map (Value.int .i64) := rfl
    rw [hE]
    simp [hp]⟩⟩⟩
theorem S_set4 {wr w3 : World} {base gx : Nat} {ok : Nat → Prop} {v : Value} {xs : List (List Int)} (h : Kd.S kL 25 wr base ok v xs) (hb : Below wr.heap.size wr w3) (hg : wr.heap.size ≤ gx) (m : M4) : Kd.S kL 25 (set4 w3 gx m) base ok v xs := Kd.S_step h (fun k _ hk => (set4_far (by omega) m).trans (hb.block k hk))
theorem cut75 (g n : Nat) (h : n ≤ 4) (W : World) : (Instr.sliceAt 75 (.pointer (some ⟨g, 0, none⟩)) none (some (.int .i64 (n : Int))) none).run Try.prog W = .ok (.slice (some ⟨g, 0, none⟩) n 4) W := by
  have hl : Try.prog.arrayLen 75 = 4 := by kernel_rfl
  have hu : Try.prog.underlying 75 = some (.array (Try.prog.arrayLen 75) (Try.prog.elem 75)) := by kernel_rfl
  have hs : (Go.sizeOf (Try.prog.elem 75)).run Try.prog W = .ok 1 W := by
    have : Try.prog.elem 75 = 3 := by kernel_rfl
    rw [this]; exact Try.sizeOf3 W
  rw [run_sliceAt_array_h W 75 _ hu .i64 (n : Int) (by omega) (by rw [hl]; omega), hs, hl, Int.toNat_natCast]
  simp [Result.andThen, slicedAt]
  rfl
set_option maxHeartbeats 4000000 in
set_option maxRecDepth 20000000 in
theorem list_calls (g : Nat) (n : Nat) (v0 v : Value) (l0 l : List M4) (w : World) (h : IA w g (n : Int) v0 l0) (hm : MR w 0 v l) (hn : n ≤ 4) (hl : l.length ≤ 20000000) :
    Calls Try.prog 62 #[pt g, v] w fun e w' => ∃ v', e = .returned v' ∧ Kd.S kL 25 w' w.heap.size (fun _ => True) v' (l.map (cutM n)) ∧ Below w.heap.size w w' := by
  have HI := Aside0.mk h
  have HM := Aside0.mk hm
  have HL := Aside0.mk hl
  have HN := Aside0.mk hn
  obtain ⟨A, c, rfl, hbig⟩ := hm.slice
  have HB0 := Aside0.mk (Below.refl w.heap.size w)
  clear h hm hl hbig
  show Calls Try.prog 62 #[.pointer (some ⟨g, 0, none⟩), .slice A l.length c] w _
  go_enter Try.func62, Try.ntmps62
  go_wp2
  go_loopg [5, 7, 10] l.length (fun kq v5 v7 v10 wr => ∃ i : Nat, v10 = .int .i64 (i : Int) ∧ Aside0 (i + kq = l.length) ∧ Aside0 (Kd.S kL 25 wr w.heap.size (fun _ => True) v5 ((l.take i).map (cutM n))) ∧ Aside0 (Below w.heap.size w wr))
  case atStart => exact ⟨0, rfl, ⟨by omega⟩, ⟨by simpa using Kd.S_nil _ _ _ _ _⟩, HB0⟩
  case round =>
    clear HB0
    obtain ⟨i, rfl, HI2, HO, HB⟩ := hrel
    cases gk with
    | zero =>
      obtain rfl : i = l.length := by have := HI2.out; omega
      have hd : decide ((l.length : Int) < (l.length : Int)) = false := by simp
      have HO2 := HO.out
      rw [List.take_length] at HO2
      have HO3 := Aside0.mk HO2
      clear HO2
      go_wp2
      go_ret
      exact ⟨_, rfl, HO3.out, HB.out⟩
    | succ kq =>
      have hi : i < l.length := by have := HI2.out; omega
      have hq4 : ((i : Int) < (l.length : Int)) = True := eq_true (by omega)
      rcases (HM.out.below HB.out).cases with ⟨h1, h2⟩ | ⟨g2, c', hv, _, hlt, hc, hbig, hcells⟩
      · rw [h2] at hi; exact absurd hi (by simp)
      injection hv with hv1 hv2 hv3
      subst hv1
      subst hv3
      obtain ⟨⟨x0, x1, x2, x3⟩, hx⟩ : ∃ x, x = l[i]! := ⟨_, rfl⟩
      obtain ⟨s0, s1, s2, s3⟩ := mr_four hcells hi hx
      have hw1 : wrap64 ((i : Int) + 1) = ((i + 1 : Nat) : Int) := wrapS (by have := HL.out; omega)
      have HST : Aside0 ((l.take i).map (cutM n) ++ [cutM n (x0, x1, x2, x3)] = (l.take (i + 1)).map (cutM n)) := ⟨by rw [List.take_add_one, List.map_append, List.getElem?_eq_getElem hi, hx, getElem!_pos l i hi]; rfl⟩
      have HLN := Aside0.mk (show ((l.take i).map (cutM n)).length ≤ i from by rw [List.length_map, List.length_take]; omega)
      have hn4 : decide ((n : Int) ≤ 4) = true := decide_eq_true (by have := HN.out; omega)
      have hn0 : decide (0 ≤ (n : Int)) = true := decide_eq_true (by omega)
      have HCL := Aside0.mk (cutM_len HN.out (x0, x1, x2, x3))
      clear hcells hx
      go_wp2_with (first | ((with_reducible refine gate_dst (N := 7) rfl ?_); refine box_event ?hg (N := 7) ?hd (cs := #[.int .i64 0, .int .i64 0, .int .i64 0, .int .i64 0]) (t := 75) ?hr ?_; (case hd => rfl); (case hg => rfl); (case hr => first | (go_simp; done) | (go_simp; rfl)); intro gx hgx w3 hbox hb; have o0 := blk_cell hbox 0; have o1 := blk_cell hbox 1; have o2 := blk_cell hbox 2; have o3 := blk_cell hbox 3; have z0 := blk_frozen hbox 0; have z1 := blk_frozen hbox 1; have z2 := blk_frozen hbox 2; have z3 := blk_frozen hbox 3; have BX := Aside0.mk hbox; have HBW := Aside0.mk hb; have HI3 := Aside0.mk (HI.out.below (below_step HB.out hb)); have HB3 := Aside0.mk (below_step HB.out hb); have HGX := Aside0.mk (show gx = wr.heap.size from hgx); have hcut := cut75 gx n HN.out; have c0 : ((((w3.setCell ⟨gx, 0, none⟩ (.int .i64 x0)).setCell ⟨gx, 1, none⟩ (.int .i64 x1)).setCell ⟨gx, 2, none⟩ (.int .i64 x2)).setCell ⟨gx, 3, none⟩ (.int .i64 x3)).cell? ⟨g, 0, none⟩ = some (.int .i64 (n : Int)) := blk_cell ((set4_far (W := w3) (by rw [hgx]; exact Nat.ne_of_lt (Nat.lt_of_lt_of_le (blk_lt HI.out.blk) HB.out.size)) (x0, x1, x2, x3)).trans HI3.out.blk) 0; clear hbox hb hgx) | (go_at_call 82; have h4b := set4_blk BX.out (x0, x1, x2, x3); have h4B := set4_below (g := gx) HB3.out (by rw [HGX.out]; exact HB.out.size) (x0, x1, x2, x3); have h4O := S_set4 HO.out HBW.out (Nat.le_of_eq HGX.out.symm) (x0, x1, x2, x3); have hcc := clone_calls (some ⟨gx, 0, none⟩) 4 (cutM n (x0, x1, x2, x3)) _ (cut_C h4b HN.out) (by rw [HCL.out]; have := HN.out; omega); rw [HCL.out] at hcc; refine hcc.mono ?_; rintro e w4 ⟨v20, rfl, hr, hb⟩; have HO4 := Aside0.mk (Kd.S_elder' h4O (Kd.R_base hr) hb); have HR4 := Aside0.mk (Kd.R_lower hr (below_size h4B)); have HB4 := Aside0.mk (below_step h4B hb); obtain ⟨A20, c20, e20⟩ := Kd.R_slice HR4.out; subst e20; clear h4b h4B h4O hcc hr hb) | ((with_reducible refine gate_builtin (b := .append) (xs := #[.tmp 14, .tmp 21]) rfl ?_); at_builtin; refine row_append (w0 := w) rfl (.tmp 14) (.tmp 21) rfl _ ((l.take i).map (cutM n)) (cutM n (x0, x1, x2, x3)) A20 c20 rfl rfl HO4.out HR4.out HB4.out (by have := HLN.out; have := HL.out; omega) ?_; intro v6 w6 ho hb hg; rw [HST.out] at ho; have HO6 := Aside0.mk ho; have HB6 := Aside0.mk hb; clear ho hb hg))
      go_roundg kq
      case measure => have := HI2.out; omega
      case rel => exact ⟨i + 1, by first | rfl | rw [hw1], ⟨by have := HI2.out; omega⟩, HO6, HB6⟩
end Go.Proofs.Ytjkfjnempofihaa.Fi
