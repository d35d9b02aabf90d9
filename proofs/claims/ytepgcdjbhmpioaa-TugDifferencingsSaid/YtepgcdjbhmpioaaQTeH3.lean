/- The calls of tug.Teams. -/
import Derived.Test.YtepgcdjbhmpioaaQTeH3d
namespace Go.Proofs.Ytepgcdjbhmpioaa.Fi
open Go.RowKit Go.Proofs.YtepgcdjbhmpioaaW.PrintWords Go.Proofs.YtepgcdjbhmpioaaW.PrintLast Go.Proofs.YtepgcdjbhmpioaaW.PrintMore
set_option linter.unusedVariables false
set_option linter.unusedSimpArgs false
theorem run_store_func (P : Program) (w : World) (a : Addr) (m : Mode) (f : Fn) (ts cs : Array Value) : (store a (.func f ts cs) m).run P w = stored P w a (.func f ts cs) m := run_store P w a _ m rfl
attribute [local go_sem] run_store_func
section
variable {ops : Array Oper} {o : Oper} {a : Act} {Q : Exit → Act → World → Prop} {Kc : Act → World → Prop}
theorem make_step {W : World} (hw : Region.wanted o (yielded ops a.tmps) = true) {N : Tmp} (hd : o.dst = some N) (x y : Operand) (ho : o.op = .makeSlice 22 x y) (m : Nat) (hx : a.eval x = .int .i64 (m : Int)) (hy : a.eval y = .int .i64 (m : Int)) (hm : m ≤ 1000)
    (h : Kc (a.put o.dst (.slice (some ⟨W.heap.size, 0, none⟩) m m)) (W.alloc (.cells (ints (List.replicate m 0)).toArray 3))) : if Region.wanted o (yielded ops a.tmps) = true then Oper.wp Try.prog o a W Kc Q else Kc (a.put o.dst undef) W := by
  rw [if_pos hw]
  obtain ⟨i0, hi, hzz⟩ := Option.map_eq_some_iff.1 info3
  simp only [Prod.mk.injEq] at hzz
  obtain ⟨hz0, hz1, hz2⟩ := hzz
  have hr := run_make (P := Try.prog) W 22 3 i0 (.int .i64 0) Try.underlying22 hi hz0 .i64 .i64 (m : Int) (m : Int) (by omega) (by omega) (by rw [hz2]; omega) (by omega)
  simp only [Int.toNat_natCast] at hr
  rw [hz1, Nat.mul_one] at hr
  have e : madeCells (Value.int .i64 0).cells m = (ints (List.replicate m 0)).toArray := by
    apply Array.ext'
    show (madeCells #[Value.int .i64 0] m).toList = _
    rw [toList_madeCells_one]
    simp [ints]
  rw [e] at hr
  unfold Oper.wp execOp
  simp [ho, hx, hy, hr]
  exact h
end
set_option maxHeartbeats 2000000 in
set_option maxRecDepth 100000 in
theorem tug_Teams.calls (A0 : Option Addr) (c0 : Nat) (l0 : List Int) (a1 : Int) (r1 : Int) (r2 : List Int) (r3 : Int) (w : World) (hr0 : Kd.C (Kd.int .i64) w A0 l0.length l0) (hc0 : l0.length ≤ c0) (h : tug_Teams.f l0 a1 = some (r1, r2, r3)) :
    Calls Try.prog 23 #[.slice A0 l0.length c0, .int .i64 a1] w fun e w' => ∃ v0_ : Value, e = .returned (.tuple #[.int .i64 r1, v0_, .int .i64 r3]) ∧ Kd.R (Kd.int .i64) 3 w' w.heap.size (fun _ => True) v0_ r2 ∧ Below w.heap.size w w' := by
  have HR0 := Aside0.mk hr0
  have HC0 := Aside0.mk hc0
  have CK := Aside0.mk (check_is 10 (by omega) l0)
  have HB := Aside0.mk (Below.refl w.heap.size w)
  clear hr0 hc0
  unfold tug_Teams.f at h
  by_cases hk : chk 10 l0 = 0
  · rw [if_pos hk] at h
    rw [hk] at CK
    have HOK := Aside0.mk (chk_zero hk)
    by_cases h1 : a1 < 1
    · rw [if_neg (by omega)] at h
      obtain ⟨rfl, rfl, rfl⟩ : (0 : Int) = r1 ∧ [] = r2 ∧ (1 : Int) = r3 := by simpa using Option.some.inj h
      have e1 : decide (a1 < 1) = true := decide_eq_true h1
      clear h h1 hk
      go_enter Try.func23, Try.ntmps23
      go_wp2_with (first | ((with_reducible refine gate_dst (N := 2) rfl ?_); refine box_event ?hg (N := 2) ?hd (cs := #[.slice A0 l0.length c0]) (t := 22) ?hr ?_; (case hd => rfl); (case hg => rfl); (case hr => first | (go_simp; done) | (go_simp; rfl)); intro gp hgp w7 hbox hb; have HR1 := Aside0.mk (Kd.C_below HR0.out hb); have BP := Aside0.mk hbox; have HB1 := Aside0.mk (below_step HB.out hb); clear hb hbox hgp; have d1 := blk_cell BP.out 0) | ((with_reducible refine gate_dst (N := 3) rfl ?_); refine box_event ?hg (N := 3) ?hd (cs := #[.int .i64 a1]) (t := 3) ?hr ?_; (case hd => rfl); (case hg => rfl); (case hr => first | (go_simp; done) | (go_simp; rfl)); intro gk hgk w8 hbox hb; have HR2 := Aside0.mk (Kd.C_below HR1.out hb); have BP2 := Aside0.mk (blk_below BP.out hb); have BK := Aside0.mk hbox; have HB2 := Aside0.mk (below_step HB1.out hb); clear hb hbox hgk d1; have d1 := blk_cell BP2.out 0; have d2 := blk_cell BK.out 0) | (go_at_call 43; refine (tug_check.calls A0 c0 l0 10 0 _ HR2.out HC0.out CK.out).mono ?_; rintro e w9 ⟨rfl, nd, rfl⟩; have BK3 := Aside0.mk (blk_drewN BK.out nd); have HB3 := Aside0.mk (pw_below_drewN HB2.out nd); clear d1 d2; have d2 := blk_cell BK3.out 0))
      go_ret3
      exact ⟨_, rfl, Kd.R_nil _ _ _ _ _, HB3.out⟩
    · by_cases h2 : a1 > 4
      · rw [if_neg (by omega)] at h
        obtain ⟨rfl, rfl, rfl⟩ : (0 : Int) = r1 ∧ [] = r2 ∧ (1 : Int) = r3 := by simpa using Option.some.inj h
        have e1 : decide (a1 < 1) = false := decide_eq_false h1
        have e2 : decide (4 < a1) = true := decide_eq_true (by omega)
        clear h h1 h2 hk
        go_enter Try.func23, Try.ntmps23
        go_wp2_with (first | ((with_reducible refine gate_dst (N := 2) rfl ?_); refine box_event ?hg (N := 2) ?hd (cs := #[.slice A0 l0.length c0]) (t := 22) ?hr ?_; (case hd => rfl); (case hg => rfl); (case hr => first | (go_simp; done) | (go_simp; rfl)); intro gp hgp w7 hbox hb; have HR1 := Aside0.mk (Kd.C_below HR0.out hb); have BP := Aside0.mk hbox; have HB1 := Aside0.mk (below_step HB.out hb); clear hb hbox hgp; have d1 := blk_cell BP.out 0) | ((with_reducible refine gate_dst (N := 3) rfl ?_); refine box_event ?hg (N := 3) ?hd (cs := #[.int .i64 a1]) (t := 3) ?hr ?_; (case hd => rfl); (case hg => rfl); (case hr => first | (go_simp; done) | (go_simp; rfl)); intro gk hgk w8 hbox hb; have HR2 := Aside0.mk (Kd.C_below HR1.out hb); have BP2 := Aside0.mk (blk_below BP.out hb); have BK := Aside0.mk hbox; have HB2 := Aside0.mk (below_step HB1.out hb); clear hb hbox hgk d1; have d1 := blk_cell BP2.out 0; have d2 := blk_cell BK.out 0) | (go_at_call 43; refine (tug_check.calls A0 c0 l0 10 0 _ HR2.out HC0.out CK.out).mono ?_; rintro e w9 ⟨rfl, nd, rfl⟩; have BK3 := Aside0.mk (blk_drewN BK.out nd); have HB3 := Aside0.mk (pw_below_drewN HB2.out nd); clear d1 d2; have d2 := blk_cell BK3.out 0))
        go_ret3
        exact ⟨_, rfl, Kd.R_nil _ _ _ _ _, HB3.out⟩
      · rw [if_pos (by omega)] at h
        have e1 : decide (a1 < 1) = false := decide_eq_false h1
        have e2 : decide (4 < a1) = false := decide_eq_false (by omega)
        obtain ⟨k, rfl⟩ := Int.eq_ofNat_of_zero_le (show 0 ≤ a1 by omega)
        have HK : Aside0 (1 ≤ k ∧ k ≤ 4) := ⟨by omega⟩
        have HH := Aside0.mk h
        clear h h1 h2 hk
        go_enter Try.func23, Try.ntmps23
        go_wp2_with (first | ((with_reducible refine gate_dst (N := 2) rfl ?_); refine box_event ?hg (N := 2) ?hd (cs := #[.slice A0 l0.length c0]) (t := 22) ?hr ?_; (case hd => rfl); (case hg => rfl); (case hr => first | (go_simp; done) | (go_simp; rfl)); intro gp hgp w7 hbox hb; have HR1 := Aside0.mk (Kd.C_below HR0.out hb); have BP := Aside0.mk hbox; have HB1 := Aside0.mk (below_step HB.out hb); have GP := Aside0.mk hgp; clear hb hbox hgp; have d1 := blk_cell BP.out 0) | ((with_reducible refine gate_dst (N := 3) rfl ?_); refine box_event ?hg (N := 3) ?hd (cs := #[.int .i64 (k : Int)]) (t := 3) ?hr ?_; (case hd => rfl); (case hg => rfl); (case hr => first | (go_simp; done) | (go_simp; rfl)); intro gk hgk w8 hbox hb; have HR2 := Aside0.mk (Kd.C_below HR1.out hb); have BP2 := Aside0.mk (blk_below BP.out hb); have BK := Aside0.mk hbox; have HB2 := Aside0.mk (below_step HB1.out hb); have GK := Aside0.mk hgk; clear hb hbox hgk d1; have d1 := blk_cell BP2.out 0; have d2 := blk_cell BK.out 0) | (go_at_call 43; refine (tug_check.calls A0 c0 l0 10 0 _ HR2.out HC0.out CK.out).mono ?_; rintro e w9 ⟨rfl, nd, rfl⟩; have HR3 := Aside0.mk (Kd.C_drewN HR2.out nd); have BP3 := Aside0.mk (blk_drewN BP2.out nd); have BK3 := Aside0.mk (blk_drewN BK.out nd); have HB3 := Aside0.mk (pw_below_drewN HB2.out nd); clear d1 d2; have d1 := blk_cell BP3.out 0; have d2 := blk_cell BK3.out 0; generalize World.drewN w8 nd = w10 at HR3 BP3 BK3 HB3 d1 d2 ⊢))
        obtain ⟨gb, hgb⟩ : ∃ g, g = w10.heap.size := ⟨_, rfl⟩
        rw [← hgb]
        obtain ⟨w11, hw11⟩ : ∃ W, W = (((w10.alloc (.cells #[.int .i64 (-1)] 3)).alloc (.cells #[.slice none 0 0] 22)).alloc (.cells #[.func (.func 51) #[] #[.pointer (some ⟨gp, 0, none⟩), .pointer (some ⟨gb, 0, none⟩), .pointer (some ⟨gb + 1, 0, none⟩), .pointer (some ⟨gk, 0, none⟩), .pointer (some ⟨gb + 1 + 1, 0, none⟩)]] 74)) := ⟨_, rfl⟩
        rw [← hw11]
        have hs11 : w11.heap.size = gb + 1 + 1 + 1 := by rw [hw11]; simp [hgb]
        have BP4 : Aside0 (w11.heap[gp]? = some (.cells #[.slice A0 l0.length c0] 22 (0, 0))) := ⟨by rw [hw11]; exact blk_alloc (blk_alloc (blk_alloc BP3.out _) _) _⟩
        have BKK : Aside0 (w11.heap[gk]? = some (.cells #[.int .i64 (k : Int)] 3 (0, 0))) := ⟨by rw [hw11]; exact blk_alloc (blk_alloc (blk_alloc BK3.out _) _) _⟩
        have BB : Aside0 (w11.heap[gb]? = some (.cells #[.int .i64 (-1)] 3 (0, 0))) := ⟨by rw [hw11, hgb]; exact blk_alloc (blk_alloc (blk_new w10 _) _) _⟩
        have BO : Aside0 (w11.heap[gb + 1]? = some (.cells #[.slice none 0 0] 22 (0, 0))) := ⟨by
          have h := blk_alloc (blk_new (w10.alloc (.cells #[.int .i64 (-1)] 3)) (.cells #[.slice none 0 0] 22)) (.cells #[.func (.func 51) #[] #[.pointer (some ⟨gp, 0, none⟩), .pointer (some ⟨gb, 0, none⟩), .pointer (some ⟨gb + 1, 0, none⟩), .pointer (some ⟨gk, 0, none⟩), .pointer (some ⟨gb + 1 + 1, 0, none⟩)]] 74)
          rw [← hw11, show (w10.alloc (.cells #[.int .i64 (-1)] 3)).heap.size = gb + 1 by simp [hgb]] at h
          exact h⟩
        have BA : Aside0 (w11.heap[gb + 1 + 1]? = some (.cells #[.func (.func 51) #[] #[.pointer (some ⟨gp, 0, none⟩), .pointer (some ⟨gb, 0, none⟩), .pointer (some ⟨gb + 1, 0, none⟩), .pointer (some ⟨gk, 0, none⟩), .pointer (some ⟨gb + 1 + 1, 0, none⟩)]] 74 (0, 0))) := ⟨by
          have h := blk_new ((w10.alloc (.cells #[.int .i64 (-1)] 3)).alloc (.cells #[.slice none 0 0] 22)) (.cells #[.func (.func 51) #[] #[.pointer (some ⟨gp, 0, none⟩), .pointer (some ⟨gb, 0, none⟩), .pointer (some ⟨gb + 1, 0, none⟩), .pointer (some ⟨gk, 0, none⟩), .pointer (some ⟨gb + 1 + 1, 0, none⟩)]] 74)
          rw [← hw11, show ((w10.alloc (.cells #[.int .i64 (-1)] 3)).alloc (.cells #[.slice none 0 0] 22)).heap.size = gb + 1 + 1 by simp [hgb]] at h
          exact h⟩
        have HB11 : Aside0 (Below w.heap.size w w11) := ⟨by rw [hw11]; exact below_alloc (below_alloc (below_alloc HB3.out _) _) _⟩
        have hgp1 : w.heap.size ≤ gp := by rw [GP.out]; exact Nat.le_refl _
        have hgk1 : gp < gk ∧ w.heap.size ≤ gk := by
          have := blk_lt BP.out
          rw [GK.out]
          exact ⟨this, by omega⟩
        have hgb1 : gk < gb := by have := blk_lt BK3.out; omega
        have HAD : Aside0 (TK.Ad ⟨gp, gb, gb + 1, gk, gb + 1 + 1, w11.heap.size⟩ w.heap.size) := ⟨⟨hgp1, by show w.heap.size ≤ gb; omega, by show w.heap.size ≤ gb + 1; omega, hgk1.2, by show w.heap.size ≤ gb + 1 + 1; omega, by show w.heap.size ≤ w11.heap.size; omega, by show gb ≠ gk; omega, by show gb ≠ w11.heap.size; omega, by show gk ≠ w11.heap.size; omega, by show gp ≠ gb + 1; omega⟩⟩
        have HT11 : Aside0 (TI w (w11.drew.alloc (.cells (ints (List.replicate k 0)).toArray 3)) ⟨gp, gb, gb + 1, gk, gb + 1 + 1, w11.heap.size⟩ A0 c0 l0 k (-1, []) (.slice none 0 0) (List.replicate k 0)) := ⟨⟨below_alloc (below_drew1 HB11.out) _, blk_alloc (blk_drew BP4.out) _, blk_alloc (blk_drew BB.out) _, blk_alloc (blk_drew BO.out) _, blk_alloc (blk_drew BKK.out) _, blk_alloc (blk_drew BA.out) _, blk_new w11.drew _, ⟨rfl, .inl ⟨rfl, rfl⟩⟩, fun q hq => by cases hq⟩⟩
        have HN11 : Aside0 (TRow (w11.drew.alloc (.cells (ints (List.replicate k 0)).toArray 3)) w.heap.size (.slice none 0 0) (toZ [])) := ⟨⟨rfl, .inl ⟨rfl, rfl⟩⟩⟩
        have HK1000 : Aside0 (k ≤ 1000) := ⟨by have := HK.out; omega⟩
        have HZ : Aside0 (∀ j, 0 ≤ (List.replicate k (0 : Int)).getD j 0 ∧ (List.replicate k (0 : Int)).getD j 0 ≤ 1000000 * ((0 : Nat) : Int)) := ⟨fun j => by
          rw [List.getD_eq_getElem?_getD, List.getElem?_replicate]
          split <;> simp⟩
        clear hw11 hgb hs11 hgp1 hgk1 hgb1 d1 d2
        refine start_ (n := 4) (S := fun w' => w'.cell? ⟨gb + 1 + 1, 0, none⟩ = some (.func (.func 51) #[] #[.pointer (some ⟨gp, 0, none⟩), .pointer (some ⟨gb, 0, none⟩), .pointer (some ⟨gb + 1, 0, none⟩), .pointer (some ⟨gk, 0, none⟩), .pointer (some ⟨gb + 1 + 1, 0, none⟩)]) ∧ w'.cell? ⟨gk, 0, none⟩ = some (.int .i64 (k : Int))) (ds := [3]) #[false, false, false, false] (by kernel_rfl) rfl rfl ⟨blk_cell (blk_drew BA.out) 0, blk_cell (blk_drew BKK.out) 0⟩ (fun hHeld => ?_)
        refine take_ (i := 0) (N := some 23) (v := ?_) (a' := ?_) #[true, false, false, false] rfl rfl (by kernel_rfl) (fun _ _ _ h => h) (Or.inl ⟨by rfl, ?_⟩) hHeld ?_ ?_
        rotate_left
        · rintro w' ⟨s0, s1⟩
          go_simp
          with_reducible rfl
        rotate_left
        · simp only [Act.put, List.setIfInBounds_toArray, List.set_cons_zero, List.set_cons_succ, i64_w, i32_w]
          rfl
        refine take_ (i := 1) (N := some 24) (v := ?_) (a' := ?_) #[true, true, false, false] rfl rfl (by kernel_rfl) (fun _ _ _ h => h) (Or.inl ⟨by rfl, ?_⟩) hHeld ?_ ?_
        rotate_left
        · rintro w' ⟨s0, s1⟩
          go_simp
          with_reducible rfl
        rotate_left
        · simp only [Act.put, List.setIfInBounds_toArray, List.set_cons_zero, List.set_cons_succ, i64_w, i32_w]
          rfl
        refine one_ (i := 2) (N := some 25) #[true, true, true, false] rfl rfl (by kernel_rfl) (by decide) (fun K hK => ?_)
        refine make_step (W := w11.drew) (by rfl) (N := 25) rfl (.tmp 24) (.tmp 24) rfl k rfl rfl HK1000.out ?_
        refine hK.out _ _ ⟨blk_cell (blk_alloc (blk_drew BA.out) _) 0, blk_cell (blk_alloc (blk_drew BKK.out) _) 0⟩ (fun hHeld => ?_)
        clear hK K
        refine norm_ (a' := ?_) ?_ ?_
        rotate_left
        · show Act.put _ (some 25) _ = _
          simp only [Act.put, List.setIfInBounds_toArray, List.set_cons_zero, List.set_cons_succ, i64_w, i32_w]
          rfl
        refine last_ (i := 3) (N := some 26) #[true, true, true, true] rfl rfl (by kernel_rfl) (by decide) (fun K hK => ?_)
        refine goesC_ Try.func51 (by kernel_rfl) rfl #[.slice none 0 0, .slice (some ⟨w11.heap.size, 0, none⟩) k k, .int .i64 0, .pointer (some ⟨gp, 0, none⟩), .pointer (some ⟨gb, 0, none⟩), .pointer (some ⟨gb + 1, 0, none⟩), .pointer (some ⟨gk, 0, none⟩), .pointer (some ⟨gb + 1 + 1, 0, none⟩)] (by rfl) rfl rfl rfl (by first | rfl | (simp only [List.map_toArray, List.map_cons, List.map_nil]; rfl)) ?_
        show Calls Try.prog 51 (aArgs ⟨gp, gb, gb + 1, gk, gb + 1 + 1, w11.heap.size⟩ (.slice none 0 0) k 0) _ _
        refine (assign_any w ⟨gp, gb, gb + 1, gk, gb + 1 + 1, w11.heap.size⟩ A0 c0 l0 k HOK.out HK.out HR0.out HAD.out l0.length 0 (by omega) [] (List.replicate k 0) 0 (-1, []) (.slice none 0 0) (.slice none 0 0) _ rfl (by simp) HZ.out (Nat.zero_le _) HT11.out HN11.out (fun q hq => by cases hq)).mono ?_
        rintro e w5 ⟨rfl, vo5, hT5, hs5⟩
        have HT5 := Aside0.mk hT5
        clear hT5 hs5
        refine ⟨_, rfl, ?_⟩
        refine hK.out _ _ ?_
        clear hK K
        refine norm_ (a' := ?_) ?_ ?_
        rotate_left
        · show Act.put _ (some 26) _ = _
          simp only [Act.put, List.setIfInBounds_toArray, List.set_cons_zero, List.set_cons_succ, i64_w, i32_w]
          rfl
        refine done_ (by kernel_rfl) ?_
        have hT5 := HT5.out
        clear HT5
        have e5 : asgS k (l0.drop 0) [] (List.replicate k 0) 0 (-1, []) = teamsS k l0 := rfl
        rw [e5] at hT5
        have hH := HH.out
        rw [Int.toNat_natCast] at hH
        obtain ⟨g1, g2, g3⟩ : (teamsS k l0).1 = r1 ∧ toZ (teamsS k l0).2 = r2 ∧ 0 = r3 := by simpa using Option.some.inj hH
        subst g3
        have HT6 := Aside0.mk hT5
        have d3 := blk_cell hT5.hb 0
        have d4 := blk_cell hT5.ho 0
        rw [g1] at d3
        have HG2 := Aside0.mk g2
        clear hT5 hH e5 g1 g2 HH hHeld
        go_wp2
        go_quiet (fail)
        go_wp2
        go_ret3
        exact ⟨vo5, rfl, by have := HT6.out.out.R; rw [HG2.out] at this; exact this, pw_below_drewN HT6.out.bel _⟩
  · rw [if_neg hk] at h
    obtain ⟨z, hz⟩ : ∃ z, z = chk 10 l0 := ⟨_, rfl⟩
    rw [← hz] at h hk CK
    obtain ⟨rfl, rfl, rfl⟩ : (0 : Int) = r1 ∧ [] = r2 ∧ z = r3 := by simpa using Option.some.inj h
    have hk0 : (z == 0) = false := beq_eq_false_iff_ne.mpr hk
    have hk1 : (z != 0) = true := bne_iff_ne.mpr hk
    clear hz hk h
    go_enter Try.func23, Try.ntmps23
    go_wp2_with (first | ((with_reducible refine gate_dst (N := 2) rfl ?_); refine box_event ?hg (N := 2) ?hd (cs := #[.slice A0 l0.length c0]) (t := 22) ?hr ?_; (case hd => rfl); (case hg => rfl); (case hr => first | (go_simp; done) | (go_simp; rfl)); intro gp hgp w7 hbox hb; have HR1 := Aside0.mk (Kd.C_below HR0.out hb); have BP := Aside0.mk hbox; have HB1 := Aside0.mk (below_step HB.out hb); clear hb hbox hgp; have d1 := blk_cell BP.out 0) | ((with_reducible refine gate_dst (N := 3) rfl ?_); refine box_event ?hg (N := 3) ?hd (cs := #[.int .i64 a1]) (t := 3) ?hr ?_; (case hd => rfl); (case hg => rfl); (case hr => first | (go_simp; done) | (go_simp; rfl)); intro gk hgk w8 hbox hb; have HR2 := Aside0.mk (Kd.C_below HR1.out hb); have BP2 := Aside0.mk (blk_below BP.out hb); have BK := Aside0.mk hbox; have HB2 := Aside0.mk (below_step HB1.out hb); clear hb hbox hgk d1; have d1 := blk_cell BP2.out 0; have d2 := blk_cell BK.out 0) | (go_at_call 43; refine (tug_check.calls A0 c0 l0 10 z _ HR2.out HC0.out CK.out).mono ?_; rintro e w9 ⟨rfl, nd, rfl⟩; have BK3 := Aside0.mk (blk_drewN BK.out nd); have HB3 := Aside0.mk (pw_below_drewN HB2.out nd); clear d1 d2; have d2 := blk_cell BK3.out 0))
    go_ret3
    exact ⟨_, rfl, Kd.R_nil _ _ _ _ _, HB3.out⟩
end Go.Proofs.Ytepgcdjbhmpioaa.Fi
