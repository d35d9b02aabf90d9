/- The calls of the closures of Radical and Dual. -/
import Derived.Test.YtjkfjnempofihaaQPgE14
import Derived.Test.YtjkfjnempofihaaQPgE8
namespace Go.Proofs.Ytjkfjnempofihaa.Fi
open Go.RowKit Go.Proofs.YtjkfjnempofihaaW.PrintWords Go.Proofs.YtjkfjnempofihaaW.PrintLast Go.Proofs.YtjkfjnempofihaaW.PrintMore
set_option linter.unusedVariables false
set_option linter.unusedSimpArgs false
attribute [local go_sem] max2_int min2_int max_two min_two max_three min_three max_four min_four
def mir0 (x y : Int) : Int := if 0 < x then wrap64 (wrap64 (y + 1) - x) else x
def mirM (k m : M4) : M4 := (mir0 m.1 k.1, mir0 m.2.1 k.2.1, mir0 m.2.2.1 k.2.2.1, mir0 m.2.2.2 k.2.2.2)
theorem set_getD (l : List Int) (i : Nat) (h : i < l.length) : l.set i (l.getD i 0) = l := by
  rw [List.getD_eq_getElem?_getD, List.getElem?_eq_getElem h]
  simp
set_option maxHeartbeats 4000000 in
set_option maxRecDepth 100000 in
theorem mir61_calls (m k : M4) (gg : Nat) (w : World) (hg : w.heap[gg]? = some (.cells (enc4 k).toArray 75 (0, 0))) :
    Calls Try.prog 61 #[ag m, .pointer (some ⟨gg, 0, none⟩)] w fun e w' => e = .returned (ag (mirM k m)) ∧ Below w.heap.size w w' := by
  have HG : Aside0 (w.heap[gg]? = some (.cells (ints (tl k)).toArray 75 (0, 0))) := ⟨hg⟩
  have HGL : Aside0 (gg < w.heap.size) := ⟨blk_lt hg⟩
  have HB := Aside0.mk (Below.refl w.heap.size w)
  have HAE0 : Aside0 ((enc4 m).toArray = (ints (tl m)).toArray) := ⟨rfl⟩
  have HLA := Aside0.mk (tl_len m)
  have HLK := Aside0.mk (tl_len k)
  have HFIN : Aside0 (∀ l, l = mapT (fun x y => mir0 x y) (tl m) (tl k) 4 → .agg (ints l).toArray = ag (mirM k m)) := ⟨fun l hl => by rw [hl]; rfl⟩
  have HZ := Aside0.mk (mapT_zero (fun x y => mir0 x y) (tl m) (tl k) (tl_len m))
  obtain ⟨la, hla⟩ : ∃ l, l = tl m := ⟨_, rfl⟩
  obtain ⟨lk, hlk⟩ : ∃ l, l = tl k := ⟨_, rfl⟩
  rw [← hla, ← hlk] at HFIN HZ
  rw [← hla] at HAE0 HLA
  rw [← hlk] at HG HLK
  obtain ⟨R, hR⟩ : ∃ R, ag (mirM k m) = R := ⟨_, rfl⟩
  rw [hR] at HFIN ⊢
  obtain ⟨a0, a1, a2, a3⟩ := m
  have HAE : Aside0 (#[.int .i64 a0, .int .i64 a1, .int .i64 a2, .int .i64 a3] = (ints la).toArray) := ⟨HAE0.out⟩
  clear hg hla hlk hR HAE0
  show Calls Try.prog 61 #[.agg #[.int .i64 a0, .int .i64 a1, .int .i64 a2, .int .i64 a3], .pointer (some ⟨gg, 0, none⟩)] w _
  go_enter Try.func61, Try.ntmps61
  go_wp2_with (first | ((with_reducible refine gate_dst (N := 2) rfl ?_); refine box_event ?hg (N := 2) ?hd (cs := #[.int .i64 a0, .int .i64 a1, .int .i64 a2, .int .i64 a3]) (t := 75) ?hr ?_; (case hd => rfl); (case hg => rfl); (case hr => first | (go_simp; done) | (go_simp; rfl)); intro ga hga w1 hbox hb; rw [HAE.out] at hbox; have BA := Aside0.mk hbox; have BG1 := Aside0.mk (blk_below HG.out hb); have HB1 := Aside0.mk (below_step HB.out hb); have HGA := Aside0.mk (show w.heap.size ≤ ga from by rw [hga]; exact HB.out.size); clear hbox hb hga) | ((with_reducible refine gate_dst (N := 3) rfl ?_); refine box_event ?hg (N := 3) ?hd (cs := #[.int .i64 0, .int .i64 0, .int .i64 0, .int .i64 0]) (t := 75) ?hr ?_; (case hd => rfl); (case hg => rfl); (case hr => first | (go_simp; done) | (go_simp; rfl)); intro go hgo w2 hbox hb; have BO := Aside0.mk hbox; have BA2 := Aside0.mk (blk_below BA.out hb); have BG2 := Aside0.mk (blk_below BG1.out hb); have HGO := Aside0.mk (show ga < go from by rw [hgo]; exact blk_lt BA.out); have HB2 := Aside0.mk (below_step HB1.out hb); clear hbox hb hgo))
  go_loopg [4, 5] 4 (fun kq v4 v5 wr => ∃ i : Nat, v5 = .int .i64 (i : Int) ∧ Aside0 (i + kq = 4) ∧ Aside0 (wr.heap[ga]? = some (.cells (ints (mapT (fun x y => mir0 x y) la lk i)).toArray 75 (0, 0))) ∧ Aside0 (wr.heap[gg]? = some (.cells (ints lk).toArray 75 (0, 0))) ∧ Aside0 (wr.heap[go]? = some (.cells #[.int .i64 0, .int .i64 0, .int .i64 0, .int .i64 0] 75 (0, 0))) ∧ Aside0 (Below w.heap.size w wr))
  case atStart => exact ⟨0, rfl, ⟨rfl⟩, ⟨by rw [HZ.out]; exact BA2.out⟩, BG2, BO, HB2⟩
  case round =>
    clear BA BG1 BA2 BG2 BO HB1 HB2
    obtain ⟨i, rfl, HI, BA, BB, BO, HB⟩ := hrel
    cases gk with
    | zero =>
      obtain rfl : i = 4 := by have := HI.out; omega
      obtain ⟨p, q, r, s, he⟩ := len4 (mapT_len (fun x y => mir0 x y) la lk 4)
      have BAx : Aside0 (wr.heap[ga]? = some (.cells #[.int .i64 p, .int .i64 q, .int .i64 r, .int .i64 s] 75 (0, 0))) := ⟨by have h := BA.out; rw [he] at h; exact h⟩
      have HE := Aside0.mk he
      have s0 := blk_cell BAx.out 0
      have s1 := blk_cell BAx.out 1
      have s2 := blk_cell BAx.out 2
      have s3 := blk_cell BAx.out 3
      have o0 := blk_cell BO.out 0
      have o1 := blk_cell BO.out 1
      have o2 := blk_cell BO.out 2
      have o3 := blk_cell BO.out 3
      have z0 := blk_frozen BO.out 0
      have z1 := blk_frozen BO.out 1
      have z2 := blk_frozen BO.out 2
      have z3 := blk_frozen BO.out 3
      clear BA he
      go_wp2
      have B1 := set4_blk BO.out (p, q, r, s)
      have hgo : w.heap.size ≤ go := by have := HGA.out; have := HGO.out; omega
      refine bodyPost_ret (results_cell_row rfl _ _ go 75 #[.int .i64 p, .int .i64 q, .int .i64 r, .int .i64 s] (0, 0) _ rfl B1 Try.underlying75 rfl (by kernel_rfl)) rfl ?_
      exact ⟨by rw [← HFIN.out _ HE.out.symm]; rfl, set4_below HB.out hgo (p, q, r, s)⟩
    | succ kq =>
      have hi4 : i < 4 := by have := HI.out; omega
      have hq4 : ((i : Int) < 4) = True := eq_true (by omega)
      have sca := ints_cell BA.out (i := i) (by rw [mapT_len]; exact hi4)
      rw [mapT_get _ la lk hi4] at sca
      have scb := ints_cell BB.out (i := i) (by rw [HLK.out]; exact hi4)
      have fza := blk_frozen BA.out i
      have hw1 : wrap64 ((i : Int) + 1) = ((i + 1 : Nat) : Int) := wrapS (by omega)
      obtain ⟨x, hx⟩ : ∃ x, x = la.getD i 0 := ⟨_, rfl⟩
      obtain ⟨y, hy⟩ : ∃ y, y = lk.getD i 0 := ⟨_, rfl⟩
      rw [← hx] at sca
      rw [← hy] at scb
      have HX := Aside0.mk hx
      have HY := Aside0.mk hy
      by_cases hp : 0 < x
      · have d1 : decide (0 < x) = true := decide_eq_true hp
        obtain ⟨y1, hy1⟩ : ∃ z, wrap64 (y + 1) = z := ⟨_, rfl⟩
        have hy2 : IntKind.i64.wrap (y + 1) = y1 := (i64_w _).trans hy1
        obtain ⟨m, hm⟩ : ∃ z, wrap64 (y1 - x) = z := ⟨_, rfl⟩
        have hm2 : IntKind.i64.wrap (y1 - x) = m := (i64_w _).trans hm
        have HM : Aside0 (mir0 (la.getD i 0) (lk.getD i 0) = m) := ⟨by rw [← hx, ← hy, ← hm, ← hy1]; unfold mir0; rw [if_pos hp]⟩
        clear hx hy hp
        go_wp2
        refine start_ (n := 11) (S := fun w' => w'.cell? ⟨ga, i, none⟩ = some (.int .i64 x) ∧ w'.cell? ⟨gg, i, none⟩ = some (.int .i64 y)) (ds := [10]) #[false, false, false, false, false, false, false, false, false, false, false] (by kernel_rfl) rfl rfl ⟨sca, scb⟩ (fun hHeld => ?_)
        refine pure_ (i := 0) (N := some 12) (v := ?_) (a' := ?_) #[true, false, false, false, false, false, false, false, false, false, false] rfl rfl (by kernel_rfl) (fun _ _ _ h => h) (Or.inl ⟨by rfl, ?_⟩) ?_ ?_
        rotate_left
        · intro w'
          go_simp
          with_reducible rfl
        rotate_left
        · simp only [Act.put, List.setIfInBounds_toArray, List.set_cons_zero, List.set_cons_succ, i64_w, i32_w]
          rfl
        refine pure_ (i := 1) (N := some 13) (v := ?_) (a' := ?_) #[true, true, false, false, false, false, false, false, false, false, false] rfl rfl (by kernel_rfl) (fun _ _ _ h => h) (Or.inl ⟨by rfl, ?_⟩) ?_ ?_
        rotate_left
        · intro w'
          go_simp
          with_reducible rfl
        rotate_left
        · simp only [Act.put, List.setIfInBounds_toArray, List.set_cons_zero, List.set_cons_succ, i64_w, i32_w]
          rfl
        refine pure_ (i := 2) (N := some 14) (v := ?_) (a' := ?_) #[true, true, true, false, false, false, false, false, false, false, false] rfl rfl (by kernel_rfl) (fun _ _ _ h => h) (Or.inl ⟨by rfl, ?_⟩) ?_ ?_
        rotate_left
        · intro w'
          go_simp
          with_reducible rfl
        rotate_left
        · simp only [Act.put, List.setIfInBounds_toArray, List.set_cons_zero, List.set_cons_succ, i64_w, i32_w]
          rfl
        refine take_ (i := 3) (N := some 15) (v := ?_) (a' := ?_) #[true, true, true, true, false, false, false, false, false, false, false] rfl rfl (by kernel_rfl) (fun _ _ _ h => h) (Or.inl ⟨by rfl, ?_⟩) hHeld ?_ ?_
        rotate_left
        · rintro w' ⟨s0, s1⟩
          go_simp
          with_reducible rfl
        rotate_left
        · simp only [Act.put, List.setIfInBounds_toArray, List.set_cons_zero, List.set_cons_succ, i64_w, i32_w]
          rfl
        refine pure_ (i := 4) (N := some 16) (v := ?_) (a' := ?_) #[true, true, true, true, true, false, false, false, false, false, false] rfl rfl (by kernel_rfl) (fun _ _ _ h => h) (Or.inl ⟨by rfl, ?_⟩) ?_ ?_
        rotate_left
        · intro w'
          go_simp
          with_reducible rfl
        rotate_left
        · simp only [Act.put, List.setIfInBounds_toArray, List.set_cons_zero, List.set_cons_succ, i64_w, i32_w]
          rfl
        refine pure_ (i := 5) (N := some 17) (v := ?_) (a' := ?_) #[true, true, true, true, true, true, false, false, false, false, false] rfl rfl (by kernel_rfl) (fun _ _ _ h => h) (Or.inl ⟨by rfl, ?_⟩) ?_ ?_
        rotate_left
        · intro w'
          go_simp
          with_reducible rfl
        rotate_left
        · simp only [Act.put, List.setIfInBounds_toArray, List.set_cons_zero, List.set_cons_succ, i64_w, i32_w]
          rfl
        refine pure_ (i := 6) (N := some 18) (v := ?_) (a' := ?_) #[true, true, true, true, true, true, true, false, false, false, false] rfl rfl (by kernel_rfl) (fun _ _ _ h => h) (Or.inl ⟨by rfl, ?_⟩) ?_ ?_
        rotate_left
        · intro w'
          go_simp
          with_reducible rfl
        rotate_left
        · simp only [Act.put, List.setIfInBounds_toArray, List.set_cons_zero, List.set_cons_succ, i64_w, i32_w]
          rfl
        refine take_ (i := 7) (N := some 19) (v := ?_) (a' := ?_) #[true, true, true, true, true, true, true, true, false, false, false] rfl rfl (by kernel_rfl) (fun _ _ _ h => h) (Or.inl ⟨by rfl, ?_⟩) hHeld ?_ ?_
        rotate_left
        · rintro w' ⟨s0, s1⟩
          go_simp
          with_reducible rfl
        rotate_left
        · simp only [Act.put, List.setIfInBounds_toArray, List.set_cons_zero, List.set_cons_succ, i64_w, i32_w]
          rfl
        refine pure_ (i := 8) (N := some 20) (v := ?_) (a' := ?_) #[true, true, true, true, true, true, true, true, true, false, false] rfl rfl (by kernel_rfl) (fun _ _ _ h => h) (Or.inl ⟨by rfl, ?_⟩) ?_ ?_
        rotate_left
        · intro w'
          go_simp
          with_reducible rfl
        rotate_left
        · simp only [Act.put, List.setIfInBounds_toArray, List.set_cons_zero, List.set_cons_succ, i64_w, i32_w]
          rfl
        refine pure_ (i := 9) (N := some 21) (v := ?_) (a' := ?_) #[true, true, true, true, true, true, true, true, true, true, false] rfl rfl (by kernel_rfl) (fun _ _ _ h => h) (Or.inl ⟨by rfl, ?_⟩) ?_ ?_
        rotate_left
        · intro w'
          go_simp
          with_reducible rfl
        rotate_left
        · simp only [Act.put, List.setIfInBounds_toArray, List.set_cons_zero, List.set_cons_succ, i64_w, i32_w]
          rfl
        refine last_ (i := 10) (N := none) #[true, true, true, true, true, true, true, true, true, true, true] rfl rfl (by kernel_rfl) (by decide) (fun K hK => ?_)
        refine skip_ (w1 := ?_) (by rfl) rfl ?_ ?_
        rotate_left
        · go_simp
          rfl
        refine hK.out _ _ ?_
        clear hK K
        refine done_ (by kernel_rfl) ?_
        go_wp2
        go_roundg kq
        case measure => have := HI.out; omega
        case rel => exact ⟨i + 1, by first | rfl | rw [hw1], ⟨by have := HI.out; omega⟩, ⟨by rw [← mapT_set _ la lk hi4, HM.out]; exact blk_drew (ints_set BA.out i _)⟩, ⟨blk_drew (blk_far BB.out (Nat.ne_of_lt (Nat.lt_of_lt_of_le HGL.out HGA.out)) _)⟩, ⟨blk_drew (blk_far BO.out (Nat.ne_of_gt HGO.out) _)⟩, ⟨below_drew1 (below_set HB.out HGA.out)⟩⟩
      · have d1 : decide (0 < x) = false := decide_eq_false hp
        have HM : Aside0 (mir0 (la.getD i 0) (lk.getD i 0) = (mapT (fun x y => mir0 x y) la lk i).getD i 0) := ⟨by rw [mapT_get _ la lk hi4, ← hx, ← hy]; unfold mir0; rw [if_neg hp]⟩
        have HLT := Aside0.mk (mapT_len (fun x y => mir0 x y) la lk i)
        clear hx hy hp
        go_wp2
        go_roundg kq
        case measure => have := HI.out; omega
        case rel => exact ⟨i + 1, by first | rfl | rw [hw1], ⟨by have := HI.out; omega⟩, ⟨by rw [← mapT_set _ la lk hi4, HM.out, set_getD _ i (by rw [HLT.out]; exact hi4)]; exact BA.out⟩, BB, BO, HB⟩
end Go.Proofs.Ytjkfjnempofihaa.Fi
