/- The calls of woggleref05.Falling. -/
import Derived.Test.YtepgcdjbhmpioaaQTnT10
import Derived.Test.YtepgcdjbhmpioaaQTnH4b
namespace Go.Proofs.Ytepgcdjbhmpioaa.Fi
open Go.RowKit Go.Shelf Go.Lib Go.Sort Go.Proofs.YtepgcdjbhmpioaaW.PrintWords Go.Proofs.YtepgcdjbhmpioaaW.PrintLast Go.Proofs.YtepgcdjbhmpioaaW.PrintMore
set_option linter.unusedVariables false
set_option linter.unusedSimpArgs false
theorem tk_snoc (l : List Int) (i : Nat) (h : i < l.length) : l.take (i + 1) = l.take i ++ [l.getD i 0] := by
  rw [List.take_add_one, List.getElem?_eq_getElem h, List.getD_eq_getElem?_getD, List.getElem?_eq_getElem h]
  rfl
/-- One more pull goes behind all that are not less. -/
theorem fall_insert {L m : List Int} {x : Int} {j : Nat} (hL : L = fallS m) (hj : j ≤ L.length) (h1 : ∀ p, j ≤ p → p < L.length → L.getD p 0 < x) (h2 : 0 < j → x ≤ L.getD (j - 1) 0) : L.take j ++ [x] ++ L.drop j = fallS (m ++ [x]) := by
  have hs : L.Pairwise fun x y => y ≤ x := by rw [hL]; exact fall_sorted m
  have hp : L.Perm m := by rw [hL]; exact fall_perm m
  symm
  refine fall_is ?_ ?_
  · refine List.Perm.trans ?_ (hp.append_right [x])
    rw [List.append_assoc]
    refine ((List.perm_append_comm (l₁ := [x]) (l₂ := L.drop j)).append_left (L.take j)).trans ?_
    rw [← List.append_assoc, List.take_append_drop]
  · have hs2 := hs
    rw [List.pairwise_iff_getElem] at hs2
    have hb : ∀ y ∈ L.drop j, y < x := fun y hy => by
      obtain ⟨i, hi, rfl⟩ := List.getElem_of_mem hy
      rw [List.length_drop] at hi
      have := h1 (j + i) (by omega) (by omega)
      rw [List.getD_eq_getElem?_getD, List.getElem?_eq_getElem (by omega)] at this
      rw [List.getElem_drop]
      exact this
    have ha : ∀ y ∈ L.take j, x ≤ y := fun y hy => by
      obtain ⟨i, hi, rfl⟩ := List.getElem_of_mem hy
      rw [List.length_take] at hi
      have h3 := h2 (by omega)
      rw [List.getD_eq_getElem?_getD, List.getElem?_eq_getElem (by omega)] at h3
      rw [List.getElem_take]
      rcases Nat.lt_or_ge i (j - 1) with h | h
      · exact Int.le_trans h3 (hs2 i (j - 1) (by omega) (by omega) h)
      · have : i = j - 1 := by omega
        subst this
        exact h3
    have hs3 := hs
    rw [← List.take_append_drop j L, List.pairwise_append] at hs3
    rw [List.append_assoc, List.pairwise_append]
    refine ⟨hs3.1, ?_, fun a h3 b h4 => ?_⟩
    · refine List.pairwise_append.2 ⟨by simp, hs3.2.1, fun a h3 b h4 => ?_⟩
      have : a = x := by simpa using h3
      rw [this]
      exact Int.le_of_lt (hb b h4)
    · rcases List.mem_append.1 h4 with h4 | h4
      · have : b = x := by simpa using h4
        rw [this]
        exact ha a h3
      · exact hs3.2.2 a h3 b h4
set_option maxHeartbeats 4000000 in
set_option maxRecDepth 100000 in
theorem falling_ok (A0 : Option Addr) (c0 : Nat) (l0 : List Int) (w : World) (hok : OkL 14 l0) (hr0 : Kd.C (Kd.int .i64) w A0 l0.length l0) (hc0 : l0.length ≤ c0) :
    Calls Try.prog 66 #[.slice A0 l0.length c0] w fun e w' => ∃ v0_ : Value, e = .returned v0_ ∧ Kd.R (Kd.int .i64) 3 w' w.heap.size (fun _ => True) v0_ (fallS l0) ∧ Below w.heap.size w w' := by
  obtain ⟨ad, rfl, hcell⟩ := C_int_cell hr0 hok.1
  have HR0 := Aside0.mk hr0
  have HC0 := Aside0.mk hc0
  have HOK := Aside0.mk hok
  have HB := Aside0.mk (Below.refl w.heap.size w)
  clear hr0 hc0 hok hcell
  go_enter Try.func66, Try.ntmps66
  go_wp2_with (first | ((with_reducible refine gate_dst (N := 6) rfl ?_); refine Kd.R_lit (Kd.int .i64) (w0 := w) w.heap.size 3 ?hg (N := 6) ?hd (xs := ([] : List Int)) (inner := []) (ok := fun _ => True) (okp := fun _ => True) ?hr ?hp (fun _ hk => hk) trivial (Below.refl _ _) (Nat.le_refl _) (by simp) ?_; (case hd => rfl); (case hg => rfl); (case hr => first | (go_simp; done) | (go_simp; rfl)); (case hp => exact (Reps.none _ _)); intro v1 w1 h1 h2 h3 h4; clear h3 h4; have H1 := Aside0.mk h1; have H2 := Aside0.mk h2; have HR1 := Aside0.mk (Kd.C_below HR0.out h2); clear h1 h2 HR0 HB))
  go_loopg [3, 4] l0.length (fun kq v3 v4 wr => ∃ i : Nat, v4 = .int .i64 (i : Int) ∧ Aside0 (i + kq = l0.length) ∧ Aside0 (Kd.R (Kd.int .i64) 3 wr w.heap.size (fun _ => True) v3 (fallS (l0.take i))) ∧ Aside0 (Kd.C (Kd.int .i64) wr (some ad) l0.length l0) ∧ Aside0 (Below w.heap.size w wr))
  case atStart => exact ⟨0, rfl, ⟨by omega⟩, ⟨by rw [List.take_zero, show fallS [] = [] from by unfold fallS; simp]; exact H1.out⟩, HR1, H2⟩
  case round =>
    clear H1 HR1 H2
    obtain ⟨i, rfl, HI, HO, HR, HB⟩ := hrel
    cases gk with
    | zero =>
      obtain rfl : i = l0.length := by have := HI.out; omega
      have hd : decide ((l0.length : Int) < (l0.length : Int)) = false := by simp
      go_wp2
      go_ret
      have h := HO.out
      rw [List.take_length] at h
      exact ⟨_, rfl, h, HB.out⟩
    | succ kq =>
      have hin : i < l0.length := by have := HI.out; omega
      have hd : decide ((i : Int) < (l0.length : Int)) = true := decide_eq_true (by omega)
      have hlen := HOK.out.2.1
      have hw1 : wrap64 ((i : Int) + 1) = ((i + 1 : Nat) : Int) := wrapS (by omega)
      obtain ⟨Ao, co, rfl⟩ := Kd.R_slice HO.out
      obtain ⟨L, hL⟩ : ∃ L, L = fallS (l0.take i) := ⟨_, rfl⟩
      have hLl : L.length = i := by rw [hL, (fall_perm _).length_eq, List.length_take]; omega
      rw [← hL] at HO ⊢
      have hx : wr.cell? (ad.add i) = some (.int .i64 (l0.getD i 0)) := by
        obtain ⟨ad', p1, p2⟩ := C_int_cell HR.out (by omega)
        injection p1 with p1
        subst p1
        exact p2 i hin
      have HOC := Aside0.mk (Kd.R_reads' HO.out)
      have hnext := tk_snoc l0 i hin
      obtain ⟨x, hxe⟩ : ∃ x, x = l0.getD i 0 := ⟨_, rfl⟩
      rw [← hxe] at hx hnext
      have HL := Aside0.mk hL
      have HLL := Aside0.mk hLl
      have HNX := Aside0.mk hnext
      have HXC := Aside0.mk hx
      clear hL hxe hnext hlen hx hLl
      go_wp2
      have HBZ := Aside0.mk (Below.refl wr.heap.size wr)
      go_loopg [5] L.length (fun kj v5 wi => ∃ j : Nat, v5 = .int .i64 (j : Int) ∧ Aside0 (j = kj) ∧ Aside0 (j ≤ L.length) ∧ Aside0 (∀ p, j ≤ p → p < L.length → L.getD p 0 < x) ∧ ∃ m, wi = wr.drewN m)
      case atStart => exact ⟨L.length, rfl, ⟨rfl⟩, ⟨Nat.le_refl _⟩, ⟨fun p h1 h2 => by omega⟩, 0, rfl⟩
      case round =>
        obtain ⟨j, rfl, HJ, HJL, HLT, m, rfl⟩ := hrel
        have hj14 : j ≤ 14 := by have := HJL.out; have := HLL.out; have := HOK.out.2.1; omega
        have hxm : (wr.drewN m).cell? (ad.add i) = some (.int .i64 x) := HXC.out
        by_cases hj0 : j = 0
        · have hd0 : decide ((0 : Int) < (j : Int)) = false := decide_eq_false (by omega)
          have hdn : decide (0 < j) = false := decide_eq_false (by omega)
          have HJ00 := Aside0.mk hj0
          clear hj0
          go_wp2
          go_quiet (fail)
          try go_wp2
          have HRW := Aside0.mk (Kd.C_drewN (Kd.C_drewN HR.out m) nq)
          have HOW := Aside0.mk (Kd.R_drewN (Kd.R_drewN HO.out m) nq)
          have HBW := Aside0.mk (pw_below_drewN (pw_below_drewN HB.out m) nq)
          have HXW : Aside0 (((wr.drewN m).drewN nq).cell? (ad.add i) = some (.int .i64 x)) := ⟨HXC.out⟩
          have hins := fall_insert (x := x) (j := j) HL.out HJL.out HLT.out (fun h => absurd h (by have := HJ00.out; omega))
          have HINS := Aside0.mk hins
          clear hins
          generalize (wr.drewN m).drewN nq = W at HRW HOW HBW HXW ⊢
          obtain ⟨i0_, hi0_, _, hsz_, _⟩ := info_parts info3
          have hroom_ : L.length ≤ co := (Kd.R_reads' HOW.out).2.1
          have hcut1 := cut_to (P := Try.prog) 22 3 .i64 Try.underlying22 hi0_ Ao L.length co (j : Int) (by omega) (by have := HJL.out; omega) hroom_
          have hcut2 := cut_from (P := Try.prog) 22 3 .i64 Try.underlying22 hi0_ 1 hsz_ Ao L.length co (j : Int) (by omega) (by have := HJL.out; omega)
          rw [Int.toNat_natCast] at hcut1 hcut2
          have hjt : (L.take j).length = j := by rw [List.length_take]; have := HJL.out; omega
          have hjd : (L.drop j).length = L.length - j := List.length_drop
          obtain ⟨A2, hA2⟩ : ∃ A2, A2 = (if co = j then Ao else (Ao : Option Addr).map (·.add (j * 1))) := ⟨_, rfl⟩
          have hl14 : L.length ≤ 14 := by have := HLL.out; have := HOK.out.2.1; omega
          rw [← hA2] at hcut2
          clear hi0_ hsz_
          refine start_ (n := 16) (S := fun w' => w'.cell? (ad.add i) = some (.int .i64 x)) (ds := []) #[false, false, false, false, false, false, false, false, false, false, false, false, false, false, false, false] (by kernel_rfl) rfl rfl HXW.out (fun hHeld => ?_)
          have HR0 := Aside0.mk (Kd.C_drew HRW.out)
          have HO0 := Aside0.mk (Kd.R_drew HOW.out)
          have HBZ2 := Aside0.mk (below_drew1 HBW.out)
          have HX0 : Aside0 (W.drew.cell? (ad.add i) = some (.int .i64 x)) := ⟨HXW.out⟩
          generalize W.drew = W0 at HR0 HO0 HBZ2 HX0 hHeld ⊢
          clear HRW HOW HBW HXW
          have HTK : Aside0 (Kd.C (Kd.int .i64) W0 Ao j (L.take j)) := ⟨by have h_ := Kd.C_take (Kd.R_reads' HO0.out).2.2 HJL.out; rwa [hjt] at h_⟩
          have HDR : Aside0 (Kd.C (Kd.int .i64) W0 A2 (L.length - j) (L.drop j)) := ⟨by rw [hA2]; have h_ := Kd.C_drop (m := j) (c := co) (Kd.R_reads' HO0.out).2.2 HJL.out hroom_; rwa [hjd] at h_⟩
          clear hjt hjd hA2
          have HXL : Aside0 ((ad.add i).block < W0.heap.size) := ⟨World.block_lt_of_cell? _ _ HX0.out⟩
          have HB0 := Aside0.mk (Below.refl W0.heap.size W0)
          have hi14 : i < l0.length := hin
          refine pure_ (i := 1) (N := some 32) (v := ?_) (a' := ?_) #[false, true, false, false, false, false, false, false, false, false, false, false, false, false, false, false] rfl rfl (by kernel_rfl) (fun _ _ _ h => h) (Or.inl ⟨by rfl, ?_⟩) ?_ ?_
          rotate_left
          · intro w'
            go_simp
            with_reducible rfl
          rotate_left
          · simp only [Act.put, List.setIfInBounds_toArray, List.set_cons_zero, List.set_cons_succ, i64_w, i32_w]
            rfl
          refine pure_ (i := 2) (N := some 33) (v := ?_) (a' := ?_) #[false, true, true, false, false, false, false, false, false, false, false, false, false, false, false, false] rfl rfl (by kernel_rfl) (fun _ _ _ h => h) (Or.inl ⟨by rfl, ?_⟩) ?_ ?_
          rotate_left
          · intro w'
            go_simp
            with_reducible rfl
          rotate_left
          · simp only [Act.put, List.setIfInBounds_toArray, List.set_cons_zero, List.set_cons_succ, i64_w, i32_w]
            rfl
          refine pure_ (i := 3) (N := some 34) (v := ?_) (a' := ?_) #[false, true, true, true, false, false, false, false, false, false, false, false, false, false, false, false] rfl rfl (by kernel_rfl) (fun _ _ _ h => h) (Or.inl ⟨by rfl, ?_⟩) ?_ ?_
          rotate_left
          · intro w'
            go_simp
            with_reducible rfl
          rotate_left
          · simp only [Act.put, List.setIfInBounds_toArray, List.set_cons_zero, List.set_cons_succ, i64_w, i32_w]
            rfl
          refine pure_ (i := 5) (N := some 36) (v := ?_) (a' := ?_) #[false, true, true, true, false, true, false, false, false, false, false, false, false, false, false, false] rfl rfl (by kernel_rfl) (fun _ _ _ h => h) (Or.inl ⟨by rfl, ?_⟩) ?_ ?_
          rotate_left
          · intro w'
            go_simp
            with_reducible rfl
          rotate_left
          · simp only [Act.put, List.setIfInBounds_toArray, List.set_cons_zero, List.set_cons_succ, i64_w, i32_w]
            rfl
          refine pure_ (i := 6) (N := some 37) (v := ?_) (a' := ?_) #[false, true, true, true, false, true, true, false, false, false, false, false, false, false, false, false] rfl rfl (by kernel_rfl) (fun _ _ _ h => h) (Or.inl ⟨by rfl, ?_⟩) ?_ ?_
          rotate_left
          · intro w'
            go_simp
            with_reducible rfl
          rotate_left
          · simp only [Act.put, List.setIfInBounds_toArray, List.set_cons_zero, List.set_cons_succ, i64_w, i32_w]
            rfl
          refine pure_ (i := 7) (N := some 38) (v := ?_) (a' := ?_) #[false, true, true, true, false, true, true, true, false, false, false, false, false, false, false, false] rfl rfl (by kernel_rfl) (fun _ _ _ h => h) (Or.inl ⟨by rfl, ?_⟩) ?_ ?_
          rotate_left
          · intro w'
            go_simp
            with_reducible rfl
          rotate_left
          · simp only [Act.put, List.setIfInBounds_toArray, List.set_cons_zero, List.set_cons_succ, i64_w, i32_w]
            rfl
          refine take_ (i := 8) (N := some 39) (v := ?_) (a' := ?_) #[false, true, true, true, false, true, true, true, true, false, false, false, false, false, false, false] rfl rfl (by kernel_rfl) (fun _ _ _ h => h) (Or.inl ⟨by rfl, ?_⟩) hHeld ?_ ?_
          rotate_left
          · rintro w' s0
            go_simp
            with_reducible rfl
          rotate_left
          · simp only [Act.put, List.setIfInBounds_toArray, List.set_cons_zero, List.set_cons_succ, i64_w, i32_w]
            rfl
          refine pure_ (i := 11) (N := some 42) (v := ?_) (a' := ?_) #[false, true, true, true, false, true, true, true, true, false, false, true, false, false, false, false] rfl rfl (by kernel_rfl) (fun _ _ _ h => h) (Or.inl ⟨by rfl, ?_⟩) ?_ ?_
          rotate_left
          · intro w'
            go_simp
            with_reducible rfl
          rotate_left
          · simp only [Act.put, List.setIfInBounds_toArray, List.set_cons_zero, List.set_cons_succ, i64_w, i32_w]
            rfl
          refine pure_ (i := 12) (N := some 43) (v := ?_) (a' := ?_) #[false, true, true, true, false, true, true, true, true, false, false, true, true, false, false, false] rfl rfl (by kernel_rfl) (fun _ _ _ h => h) (Or.inl ⟨by rfl, ?_⟩) ?_ ?_
          rotate_left
          · intro w'
            go_simp
            with_reducible rfl
          rotate_left
          · simp only [Act.put, List.setIfInBounds_toArray, List.set_cons_zero, List.set_cons_succ, i64_w, i32_w]
            rfl
          refine pure_ (i := 13) (N := some 44) (v := ?_) (a' := ?_) #[false, true, true, true, false, true, true, true, true, false, false, true, true, true, false, false] rfl rfl (by kernel_rfl) (fun _ _ _ h => h) (Or.inl ⟨by rfl, ?_⟩) ?_ ?_
          rotate_left
          · intro w'
            go_simp
            with_reducible rfl
          rotate_left
          · simp only [Act.put, List.setIfInBounds_toArray, List.set_cons_zero, List.set_cons_succ, i64_w, i32_w]
            rfl
          refine join_ (σ := Value × Value × Value × Value × Value) 1 #[true, true, true, true, true, true, true, true, true, true, true, true, true, true, true, false] (fun s_ => [(31, s_.1), (35, s_.2.1), (40, s_.2.2.1), (41, s_.2.2.2.1), (45, s_.2.2.2.2)]) (fun s_ w' => Kd.R (Kd.int .i64) 3 w' W0.heap.size (fun _ => True) s_.2.2.2.2 ([] ++ L.take j ++ [x] ++ L.drop j) ∧ Below W0.heap.size W0 w') ?_ ?_
          rotate_left
          · intro hJ
            refine two_ (i := 0) (j := 9) (Ni := some 31) (Nj := some 40) #[true, true, true, true, false, true, true, true, true, false, false, true, true, true, false, false] #[false, true, true, true, false, true, true, true, true, true, false, true, true, true, false, false] rfl rfl rfl rfl (by kernel_rfl) (by decide) (by decide) (fun K hK => ?_) (fun K hK => ?_)
            · skip
              refine Kd.R_lit_step (Kd.int .i64) W0.heap.size 3 (by rfl) (N := 31) rfl (xs := ([] : List Int)) (inner := []) (ok := fun k_ => True) (okp := fun _ => True) ?hr (Reps.none _ _) (fun k_ hk => trivial) trivial HB0.out (below_size HB0.out) (by simp) ?_
              (case hr => first | (go_simp; done) | (go_simp; rfl))
              intro v31 w0q ho hb hg hn
              have HV31 := Aside0.mk ho
              have HB1 := Aside0.mk hb
              clear ho hb hg hn
              refine hK.out _ _ ((Below.cell HB1.out HXL.out).trans HX0.out) (fun hHeld => ?_)
              clear hK K
              refine norm_ (a' := ?_) ?_ ?_
              rotate_left
              · show Act.put _ (some 31) _ = _
                simp only [Act.put, List.setIfInBounds_toArray, List.set_cons_zero, List.set_cons_succ, i64_w, i32_w]
                rfl
              refine two_ (i := 4) (j := 9) (Ni := some 35) (Nj := some 40) #[true, true, true, true, true, true, true, true, true, false, false, true, true, true, false, false] #[true, true, true, true, false, true, true, true, true, true, false, true, true, true, false, false] rfl rfl rfl rfl (by kernel_rfl) (by decide) (by decide) (fun K hK => ?_) (fun K hK => ?_)
              · skip
                refine Kd.R_append_rows_step (Kd.int .i64) (w0 := W0) W0.heap.size (by rfl) (.tmp 31) (.tmp 34) 22 3 (.int .i64 0) 8 rfl Try.underlying22 info3 rfl (by decide) (by omega) v31 ([] : List Int) (L.take j) _ _ _ (fun _ => True) (fun _ => False) rfl rfl ?aO ?aR (fun _ _ h => h) (fun _ h => h.elim) ?aF HB1.out (below_size HB1.out) ?aL ?_
                (case aR => exact (Kd.C_below HTK.out HB1.out))
                (case aO => exact Kd.R_mono HV31.out (fun k_ hk_ => trivial))
                (case aF => exact fun _ _ => trivial)
                (case aL => simp only [List.length_append, List.length_take, List.length_drop, List.length_cons, List.length_nil]; omega)
                intro v35 w1q ho hb hg hat
                have HV35 := Aside0.mk ho
                have HB2 := Aside0.mk hb
                clear ho hb hg hat
                refine hK.out _ _ ((Below.cell HB2.out HXL.out).trans HX0.out) (fun hHeld => ?_)
                clear hK K
                refine norm_ (a' := ?_) ?_ ?_
                rotate_left
                · show Act.put _ (some 35) _ = _
                  simp only [Act.put, List.setIfInBounds_toArray, List.set_cons_zero, List.set_cons_succ, i64_w, i32_w]
                  rfl
                refine one_ (i := 9) (N := some 40) #[true, true, true, true, true, true, true, true, true, true, false, true, true, true, false, false] rfl rfl (by kernel_rfl) (by decide) (fun K hK => ?_)
                refine Kd.R_lit_step (Kd.int .i64) W0.heap.size 3 (by rfl) (N := 40) rfl (xs := [x]) (inner := [.int .i64 x]) (ok := fun k_ => some k_ ≠ v35.ownBlock) (okp := fun _ => False) ?hr ?hp (fun k_ hk => hk.elim) ?hf HB2.out (below_size HB2.out) (by simp) ?_
                (case hf => exact fun e_ => by have := Kd.R_lt HV35.out _ e_.symm; omega)
                (case hr => first | (go_simp; done) | (go_simp; rfl))
                (case hp => exact Kd.reps_scalar [x])
                intro v40 w2q ho hb hg hn
                have HV40 := Aside0.mk ho
                have HB3 := Aside0.mk hb
                have HVb := Aside0.mk (Kd.R_step (ok := fun k_ => some k_ ≠ v40.ownBlock) (Kd.R_mono (Kd.R_bound HV35.out) (fun k_ hk_ e_ => by obtain ⟨b_, h1_, h2_⟩ := hn; rw [h1_] at e_; injection e_ with e_; have := hk_.2.2.1; omega)) (fun k_ hk_ hl_ => hg.block k_ hl_ (by simp)))
                clear HV35
                have HV35 := HVb
                clear HVb
                clear ho hb hg hn
                refine hK.out _ _ ((Below.cell HB3.out HXL.out).trans HX0.out) (fun hHeld => ?_)
                clear hK K
                refine norm_ (a' := ?_) ?_ ?_
                rotate_left
                · show Act.put _ (some 40) _ = _
                  simp only [Act.put, List.setIfInBounds_toArray, List.set_cons_zero, List.set_cons_succ, i64_w, i32_w]
                  rfl
                refine one_ (i := 10) (N := some 41) #[true, true, true, true, true, true, true, true, true, true, true, true, true, true, false, false] rfl rfl (by kernel_rfl) (by decide) (fun K hK => ?_)
                obtain ⟨A40, c40, rfl⟩ := Kd.R_slice HV40.out
                refine Kd.R_append_rows_step (Kd.int .i64) (w0 := W0) W0.heap.size (by rfl) (.tmp 35) (.tmp 40) 22 3 (.int .i64 0) 8 rfl Try.underlying22 info3 rfl (by decide) (by omega) v35 ([] ++ L.take j) [x] _ _ _ (fun _ => True) (fun _ => False) rfl rfl ?aO ?aR (fun _ _ h => h) (fun _ h => h.elim) ?aF HB3.out (below_size HB3.out) ?aL ?_
                (case aR => exact (Kd.R_reads' HV40.out).2.2)
                (case aO => exact Kd.R_mono HV35.out (fun k_ hk_ => trivial))
                (case aF => exact fun _ _ => trivial)
                (case aL => simp only [List.length_append, List.length_take, List.length_drop, List.length_cons, List.length_nil]; omega)
                intro v41 w3q ho hb hg hat
                have HV41 := Aside0.mk ho
                have HB4 := Aside0.mk hb
                clear ho hb hg hat
                refine hK.out _ _ ((Below.cell HB4.out HXL.out).trans HX0.out) (fun hHeld => ?_)
                clear hK K
                refine norm_ (a' := ?_) ?_ ?_
                rotate_left
                · show Act.put _ (some 41) _ = _
                  simp only [Act.put, List.setIfInBounds_toArray, List.set_cons_zero, List.set_cons_succ, i64_w, i32_w]
                  rfl
                refine one_ (i := 14) (N := some 45) #[true, true, true, true, true, true, true, true, true, true, true, true, true, true, true, false] rfl rfl (by kernel_rfl) (by decide) (fun K hK => ?_)
                refine Kd.R_append_rows_step (Kd.int .i64) (w0 := W0) W0.heap.size (by rfl) (.tmp 41) (.tmp 44) 22 3 (.int .i64 0) 8 rfl Try.underlying22 info3 rfl (by decide) (by omega) v41 ([] ++ L.take j ++ [x]) (L.drop j) _ _ _ (fun _ => True) (fun _ => False) rfl rfl ?aO ?aR (fun _ _ h => h) (fun _ h => h.elim) ?aF HB4.out (below_size HB4.out) ?aL ?_
                (case aR => exact (Kd.C_below HDR.out HB4.out))
                (case aO => exact Kd.R_mono HV41.out (fun k_ hk_ => trivial))
                (case aF => exact fun _ _ => trivial)
                (case aL => simp only [List.length_append, List.length_take, List.length_drop, List.length_cons, List.length_nil]; omega)
                intro v45 w4q ho hb hg hat
                have HV45 := Aside0.mk ho
                have HB5 := Aside0.mk hb
                clear ho hb hg hat
                refine hK.out _ _ ((Below.cell HB5.out HXL.out).trans HX0.out) (fun hHeld => ?_)
                clear hK K
                refine norm_ (a' := ?_) ?_ ?_
                rotate_left
                · show Act.put _ (some 45) _ = _
                  simp only [Act.put, List.setIfInBounds_toArray, List.set_cons_zero, List.set_cons_succ, i64_w, i32_w]
                  rfl
                exact norm_ (by simp only [putAll, Act.put, List.setIfInBounds_toArray, List.set_cons_zero, List.set_cons_succ]) (hJ (v31, v35, .slice A40 [x].length c40, v41, v45) _ ⟨HV45.out, HB5.out⟩)
              · skip
                refine Kd.R_lit_step (Kd.int .i64) W0.heap.size 3 (by rfl) (N := 40) rfl (xs := [x]) (inner := [.int .i64 x]) (ok := fun k_ => some k_ ≠ v31.ownBlock) (okp := fun _ => False) ?hr ?hp (fun k_ hk => hk.elim) ?hf HB1.out (below_size HB1.out) (by simp) ?_
                (case hf => exact fun e_ => by have := Kd.R_lt HV31.out _ e_.symm; omega)
                (case hr => first | (go_simp; done) | (go_simp; rfl))
                (case hp => exact Kd.reps_scalar [x])
                intro v40 w1q ho hb hg hn
                have HV40 := Aside0.mk ho
                have HB2 := Aside0.mk hb
                have HVb := Aside0.mk (Kd.R_step (ok := fun k_ => some k_ ≠ v40.ownBlock) (Kd.R_mono (Kd.R_bound HV31.out) (fun k_ hk_ e_ => by obtain ⟨b_, h1_, h2_⟩ := hn; rw [h1_] at e_; injection e_ with e_; have := hk_.2.2.1; omega)) (fun k_ hk_ hl_ => hg.block k_ hl_ (by simp)))
                clear HV31
                have HV31 := HVb
                clear HVb
                clear ho hb hg hn
                refine hK.out _ _ ((Below.cell HB2.out HXL.out).trans HX0.out) (fun hHeld => ?_)
                clear hK K
                refine norm_ (a' := ?_) ?_ ?_
                rotate_left
                · show Act.put _ (some 40) _ = _
                  simp only [Act.put, List.setIfInBounds_toArray, List.set_cons_zero, List.set_cons_succ, i64_w, i32_w]
                  rfl
                refine one_ (i := 4) (N := some 35) #[true, true, true, true, true, true, true, true, true, true, false, true, true, true, false, false] rfl rfl (by kernel_rfl) (by decide) (fun K hK => ?_)
                refine Kd.R_append_rows_step (Kd.int .i64) (w0 := W0) W0.heap.size (by rfl) (.tmp 31) (.tmp 34) 22 3 (.int .i64 0) 8 rfl Try.underlying22 info3 rfl (by decide) (by omega) v31 ([] : List Int) (L.take j) _ _ _ (fun k_ => some k_ ≠ v40.ownBlock) (fun _ => False) rfl rfl ?aO ?aR (fun _ _ h => h) (fun _ h => h.elim) ?aF HB2.out (below_size HB2.out) ?aL ?_
                (case aR => exact (Kd.C_below HTK.out HB2.out))
                (case aO => exact Kd.R_mono HV31.out (fun k_ hk_ => hk_))
                (case aF => exact fun k_ hk_ e_ => by have := Kd.R_lt HV40.out _ e_.symm; omega)
                (case aL => simp only [List.length_append, List.length_take, List.length_drop, List.length_cons, List.length_nil]; omega)
                intro v35 w2q ho hb hg hat
                have HV35 := Aside0.mk ho
                have HB3 := Aside0.mk hb
                have HV40b := Aside0.mk (Kd.R_after (ok := fun _ => True) (Kd.R_mono HV40.out (fun k_ hk_ => ⟨trivial, hk_⟩)) hg hat)
                clear HV40
                have HV40 := Aside0.mk (Kd.R_mono HV40b.out (fun k_ hk_ => hk_.2))
                clear HV40b
                clear ho hb hg hat
                refine hK.out _ _ ((Below.cell HB3.out HXL.out).trans HX0.out) (fun hHeld => ?_)
                clear hK K
                refine norm_ (a' := ?_) ?_ ?_
                rotate_left
                · show Act.put _ (some 35) _ = _
                  simp only [Act.put, List.setIfInBounds_toArray, List.set_cons_zero, List.set_cons_succ, i64_w, i32_w]
                  rfl
                refine one_ (i := 10) (N := some 41) #[true, true, true, true, true, true, true, true, true, true, true, true, true, true, false, false] rfl rfl (by kernel_rfl) (by decide) (fun K hK => ?_)
                obtain ⟨A40, c40, rfl⟩ := Kd.R_slice HV40.out
                refine Kd.R_append_rows_step (Kd.int .i64) (w0 := W0) W0.heap.size (by rfl) (.tmp 35) (.tmp 40) 22 3 (.int .i64 0) 8 rfl Try.underlying22 info3 rfl (by decide) (by omega) v35 ([] ++ L.take j) [x] _ _ _ (fun _ => True) (fun _ => False) rfl rfl ?aO ?aR (fun _ _ h => h) (fun _ h => h.elim) ?aF HB3.out (below_size HB3.out) ?aL ?_
                (case aR => exact (Kd.R_reads' HV40.out).2.2)
                (case aO => exact Kd.R_mono HV35.out (fun k_ hk_ => trivial))
                (case aF => exact fun _ _ => trivial)
                (case aL => simp only [List.length_append, List.length_take, List.length_drop, List.length_cons, List.length_nil]; omega)
                intro v41 w3q ho hb hg hat
                have HV41 := Aside0.mk ho
                have HB4 := Aside0.mk hb
                clear ho hb hg hat
                refine hK.out _ _ ((Below.cell HB4.out HXL.out).trans HX0.out) (fun hHeld => ?_)
                clear hK K
                refine norm_ (a' := ?_) ?_ ?_
                rotate_left
                · show Act.put _ (some 41) _ = _
                  simp only [Act.put, List.setIfInBounds_toArray, List.set_cons_zero, List.set_cons_succ, i64_w, i32_w]
                  rfl
                refine one_ (i := 14) (N := some 45) #[true, true, true, true, true, true, true, true, true, true, true, true, true, true, true, false] rfl rfl (by kernel_rfl) (by decide) (fun K hK => ?_)
                refine Kd.R_append_rows_step (Kd.int .i64) (w0 := W0) W0.heap.size (by rfl) (.tmp 41) (.tmp 44) 22 3 (.int .i64 0) 8 rfl Try.underlying22 info3 rfl (by decide) (by omega) v41 ([] ++ L.take j ++ [x]) (L.drop j) _ _ _ (fun _ => True) (fun _ => False) rfl rfl ?aO ?aR (fun _ _ h => h) (fun _ h => h.elim) ?aF HB4.out (below_size HB4.out) ?aL ?_
                (case aR => exact (Kd.C_below HDR.out HB4.out))
                (case aO => exact Kd.R_mono HV41.out (fun k_ hk_ => trivial))
                (case aF => exact fun _ _ => trivial)
                (case aL => simp only [List.length_append, List.length_take, List.length_drop, List.length_cons, List.length_nil]; omega)
                intro v45 w4q ho hb hg hat
                have HV45 := Aside0.mk ho
                have HB5 := Aside0.mk hb
                clear ho hb hg hat
                refine hK.out _ _ ((Below.cell HB5.out HXL.out).trans HX0.out) (fun hHeld => ?_)
                clear hK K
                refine norm_ (a' := ?_) ?_ ?_
                rotate_left
                · show Act.put _ (some 45) _ = _
                  simp only [Act.put, List.setIfInBounds_toArray, List.set_cons_zero, List.set_cons_succ, i64_w, i32_w]
                  rfl
                exact norm_ (by simp only [putAll, Act.put, List.setIfInBounds_toArray, List.set_cons_zero, List.set_cons_succ]) (hJ (v31, v35, .slice A40 [x].length c40, v41, v45) _ ⟨HV45.out, HB5.out⟩)
            · skip
              refine Kd.R_lit_step (Kd.int .i64) W0.heap.size 3 (by rfl) (N := 40) rfl (xs := [x]) (inner := [.int .i64 x]) (ok := fun k_ => True) (okp := fun _ => True) ?hr ?hp (fun _ hk => hk) trivial HB0.out (below_size HB0.out) (by simp) ?_
              (case hr => first | (go_simp; done) | (go_simp; rfl))
              (case hp => exact Kd.reps_scalar [x])
              intro v40 w0q ho hb hg hn
              have HV40 := Aside0.mk ho
              have HB1 := Aside0.mk hb
              clear ho hb hg hn
              refine hK.out _ _ ((Below.cell HB1.out HXL.out).trans HX0.out) (fun hHeld => ?_)
              clear hK K
              refine norm_ (a' := ?_) ?_ ?_
              rotate_left
              · show Act.put _ (some 40) _ = _
                simp only [Act.put, List.setIfInBounds_toArray, List.set_cons_zero, List.set_cons_succ, i64_w, i32_w]
                rfl
              refine one_ (i := 0) (N := some 31) #[true, true, true, true, false, true, true, true, true, true, false, true, true, true, false, false] rfl rfl (by kernel_rfl) (by decide) (fun K hK => ?_)
              refine Kd.R_lit_step (Kd.int .i64) W0.heap.size 3 (by rfl) (N := 31) rfl (xs := ([] : List Int)) (inner := []) (ok := fun k_ => some k_ ≠ v40.ownBlock) (okp := fun _ => False) ?hr (Reps.none _ _) (fun k_ hk => hk.elim) ?hf HB1.out (below_size HB1.out) (by simp) ?_
              (case hf => exact fun e_ => by have := Kd.R_lt HV40.out _ e_.symm; omega)
              (case hr => first | (go_simp; done) | (go_simp; rfl))
              intro v31 w1q ho hb hg hn
              have HV31 := Aside0.mk ho
              have HB2 := Aside0.mk hb
              have HV40b := Aside0.mk (Kd.R_step (ok := fun k_ => some k_ ≠ v31.ownBlock) (Kd.R_mono (Kd.R_bound HV40.out) (fun k_ hk_ e_ => by obtain ⟨b_, h1_, h2_⟩ := hn; rw [h1_] at e_; injection e_ with e_; have := hk_.2.2.1; omega)) (fun k_ hk_ hl_ => hg.block k_ hl_ (by simp)))
              clear HV40
              have HV40 := HV40b
              clear HV40b
              clear ho hb hg hn
              refine hK.out _ _ ((Below.cell HB2.out HXL.out).trans HX0.out) (fun hHeld => ?_)
              clear hK K
              refine norm_ (a' := ?_) ?_ ?_
              rotate_left
              · show Act.put _ (some 31) _ = _
                simp only [Act.put, List.setIfInBounds_toArray, List.set_cons_zero, List.set_cons_succ, i64_w, i32_w]
                rfl
              refine one_ (i := 4) (N := some 35) #[true, true, true, true, true, true, true, true, true, true, false, true, true, true, false, false] rfl rfl (by kernel_rfl) (by decide) (fun K hK => ?_)
              refine Kd.R_append_rows_step (Kd.int .i64) (w0 := W0) W0.heap.size (by rfl) (.tmp 31) (.tmp 34) 22 3 (.int .i64 0) 8 rfl Try.underlying22 info3 rfl (by decide) (by omega) v31 ([] : List Int) (L.take j) _ _ _ (fun k_ => some k_ ≠ v40.ownBlock) (fun _ => False) rfl rfl ?aO ?aR (fun _ _ h => h) (fun _ h => h.elim) ?aF HB2.out (below_size HB2.out) ?aL ?_
              (case aR => exact (Kd.C_below HTK.out HB2.out))
              (case aO => exact Kd.R_mono HV31.out (fun k_ hk_ => hk_))
              (case aF => exact fun k_ hk_ e_ => by have := Kd.R_lt HV40.out _ e_.symm; omega)
              (case aL => simp only [List.length_append, List.length_take, List.length_drop, List.length_cons, List.length_nil]; omega)
              intro v35 w2q ho hb hg hat
              have HV35 := Aside0.mk ho
              have HB3 := Aside0.mk hb
              have HV40b := Aside0.mk (Kd.R_after (ok := fun _ => True) (Kd.R_mono HV40.out (fun k_ hk_ => ⟨trivial, hk_⟩)) hg hat)
              clear HV40
              have HV40 := Aside0.mk (Kd.R_mono HV40b.out (fun k_ hk_ => hk_.2))
              clear HV40b
              clear ho hb hg hat
              refine hK.out _ _ ((Below.cell HB3.out HXL.out).trans HX0.out) (fun hHeld => ?_)
              clear hK K
              refine norm_ (a' := ?_) ?_ ?_
              rotate_left
              · show Act.put _ (some 35) _ = _
                simp only [Act.put, List.setIfInBounds_toArray, List.set_cons_zero, List.set_cons_succ, i64_w, i32_w]
                rfl
              refine one_ (i := 10) (N := some 41) #[true, true, true, true, true, true, true, true, true, true, true, true, true, true, false, false] rfl rfl (by kernel_rfl) (by decide) (fun K hK => ?_)
              obtain ⟨A40, c40, rfl⟩ := Kd.R_slice HV40.out
              refine Kd.R_append_rows_step (Kd.int .i64) (w0 := W0) W0.heap.size (by rfl) (.tmp 35) (.tmp 40) 22 3 (.int .i64 0) 8 rfl Try.underlying22 info3 rfl (by decide) (by omega) v35 ([] ++ L.take j) [x] _ _ _ (fun _ => True) (fun _ => False) rfl rfl ?aO ?aR (fun _ _ h => h) (fun _ h => h.elim) ?aF HB3.out (below_size HB3.out) ?aL ?_
              (case aR => exact (Kd.R_reads' HV40.out).2.2)
              (case aO => exact Kd.R_mono HV35.out (fun k_ hk_ => trivial))
              (case aF => exact fun _ _ => trivial)
              (case aL => simp only [List.length_append, List.length_take, List.length_drop, List.length_cons, List.length_nil]; omega)
              intro v41 w3q ho hb hg hat
              have HV41 := Aside0.mk ho
              have HB4 := Aside0.mk hb
              clear ho hb hg hat
              refine hK.out _ _ ((Below.cell HB4.out HXL.out).trans HX0.out) (fun hHeld => ?_)
              clear hK K
              refine norm_ (a' := ?_) ?_ ?_
              rotate_left
              · show Act.put _ (some 41) _ = _
                simp only [Act.put, List.setIfInBounds_toArray, List.set_cons_zero, List.set_cons_succ, i64_w, i32_w]
                rfl
              refine one_ (i := 14) (N := some 45) #[true, true, true, true, true, true, true, true, true, true, true, true, true, true, true, false] rfl rfl (by kernel_rfl) (by decide) (fun K hK => ?_)
              refine Kd.R_append_rows_step (Kd.int .i64) (w0 := W0) W0.heap.size (by rfl) (.tmp 41) (.tmp 44) 22 3 (.int .i64 0) 8 rfl Try.underlying22 info3 rfl (by decide) (by omega) v41 ([] ++ L.take j ++ [x]) (L.drop j) _ _ _ (fun _ => True) (fun _ => False) rfl rfl ?aO ?aR (fun _ _ h => h) (fun _ h => h.elim) ?aF HB4.out (below_size HB4.out) ?aL ?_
              (case aR => exact (Kd.C_below HDR.out HB4.out))
              (case aO => exact Kd.R_mono HV41.out (fun k_ hk_ => trivial))
              (case aF => exact fun _ _ => trivial)
              (case aL => simp only [List.length_append, List.length_take, List.length_drop, List.length_cons, List.length_nil]; omega)
              intro v45 w4q ho hb hg hat
              have HV45 := Aside0.mk ho
              have HB5 := Aside0.mk hb
              clear ho hb hg hat
              refine hK.out _ _ ((Below.cell HB5.out HXL.out).trans HX0.out) (fun hHeld => ?_)
              clear hK K
              refine norm_ (a' := ?_) ?_ ?_
              rotate_left
              · show Act.put _ (some 45) _ = _
                simp only [Act.put, List.setIfInBounds_toArray, List.set_cons_zero, List.set_cons_succ, i64_w, i32_w]
                rfl
              exact norm_ (by simp only [putAll, Act.put, List.setIfInBounds_toArray, List.set_cons_zero, List.set_cons_succ]) (hJ (v31, v35, .slice A40 [x].length c40, v41, v45) _ ⟨HV45.out, HB5.out⟩)
          rintro ⟨u31, u35, u40, u41, v45⟩ w9 ⟨f1, f2⟩
          have HF1 := Aside0.mk f1
          have HF2 := Aside0.mk f2
          simp only at HF1
          clear f1 f2 hHeld
          refine norm_ (a' := ?_) ?_ ?_
          rotate_left
          · simp only [putAll, Act.put, List.setIfInBounds_toArray, List.set_cons_zero, List.set_cons_succ]
            rfl
          refine pure_ (i := 15) (N := some 3) (v := ?_) (a' := ?_) #[true, true, true, true, true, true, true, true, true, true, true, true, true, true, true, true] rfl rfl (by kernel_rfl) (fun _ _ _ h => h) (Or.inl ⟨by rfl, ?_⟩) ?_ ?_
          rotate_left
          · intro w'
            go_simp
            with_reducible rfl
          rotate_left
          · simp only [Act.put, List.setIfInBounds_toArray, List.set_cons_zero, List.set_cons_succ, i64_w, i32_w]
            rfl
          refine done_ (by kernel_rfl) ?_
          have HFIN : Aside0 (Kd.R (Kd.int .i64) 3 w9 w.heap.size (fun _ => True) v45 (fallS (l0.take (i + 1)))) := ⟨by rw [HNX.out, ← HINS.out]; exact Kd.R_lower HF1.out (below_size HBZ2.out)⟩
          have HRF := Aside0.mk (Kd.C_below HR0.out HF2.out)
          have HBF := Aside0.mk (below_step HBZ2.out HF2.out)
          go_wp2
          go_roundg kq
          case measure => have := HI.out; omega
          case rel => exact ⟨i + 1, by first | rfl | rw [hw1], ⟨by have := HI.out; omega⟩, HFIN, HRF, HBF⟩
        · obtain ⟨j1, hj1⟩ : ∃ j1, j1 = j - 1 := ⟨_, rfl⟩
          have hw2 : wrap64 ((j : Int) - 1) = (j1 : Int) := by rw [wrapS (by omega)]; omega
          have hw2w : IntKind.i64.wrap ((j : Int) - 1) = (j1 : Int) := (i64_w _).trans hw2
          have hd0 : decide ((0 : Int) < (j : Int)) = true := decide_eq_true (by omega)
          have hdn : decide (0 < j) = true := decide_eq_true (by omega)
          have hj1L : j1 < L.length := by have := HJL.out; omega
          obtain ⟨ado, hAo, hcello⟩ := C_int_cell HOC.out.2.2 (by omega)
          have hy : (wr.drewN m).cell? (ado.add j1) = some (.int .i64 (L.getD j1 0)) := hcello j1 hj1L
          obtain ⟨y, hye⟩ : ∃ y, y = L.getD j1 0 := ⟨_, rfl⟩
          rw [← hye] at hy
          have hyr : wr.cell? (ado.add j1) = some (.int .i64 y) := hy
          have hxr : wr.cell? (ad.add i) = some (.int .i64 x) := HXC.out
          have HY := Aside0.mk hye
          have HJ1 := Aside0.mk hj1
          have HJ0 := Aside0.mk hj0
          subst hAo
          clear hcello hye hj1 hj0
          by_cases hyx : y < x
          · have hd1 : decide (y < x) = true := decide_eq_true hyx
            go_wp2
            go_quiet (fail)
            go_wp2
            go_roundg j1
            case measure => have h1 := HJ.out; have h2 := HJ1.out; have h3 := HJ0.out; omega
            case rel => exact ⟨j1, by first | rfl | rw [hw2], ⟨rfl⟩, ⟨Nat.le_of_lt hj1L⟩, ⟨fun p h1 h2 => by
              rcases Nat.lt_or_ge p j with h | h
              · have h3 := HJ1.out
                have : p = j1 := by omega
                rw [this, ← HY.out]
                exact hyx
              · exact HLT.out p h h2⟩, _, rfl⟩
          · have hd1 : decide (y < x) = false := decide_eq_false hyx
            go_wp2
            go_quiet (fail)
            try go_wp2
            have HRW := Aside0.mk (Kd.C_drewN (Kd.C_drewN HR.out m) nq)
            have HOW := Aside0.mk (Kd.R_drewN (Kd.R_drewN HO.out m) nq)
            have HBW := Aside0.mk (pw_below_drewN (pw_below_drewN HB.out m) nq)
            have HXW : Aside0 (((wr.drewN m).drewN nq).cell? (ad.add i) = some (.int .i64 x)) := ⟨HXC.out⟩
            have hins := fall_insert (x := x) (j := j) HL.out HJL.out HLT.out (fun _ => by rw [← HJ1.out, ← HY.out]; omega)
            have HINS := Aside0.mk hins
            clear hins
            generalize (wr.drewN m).drewN nq = W at HRW HOW HBW HXW ⊢
            obtain ⟨i0_, hi0_, _, hsz_, _⟩ := info_parts info3
            have hroom_ : L.length ≤ co := (Kd.R_reads' HOW.out).2.1
            have hcut1 := cut_to (P := Try.prog) 22 3 .i64 Try.underlying22 hi0_ (some ado) L.length co (j : Int) (by omega) (by have := HJL.out; omega) hroom_
            have hcut2 := cut_from (P := Try.prog) 22 3 .i64 Try.underlying22 hi0_ 1 hsz_ (some ado) L.length co (j : Int) (by omega) (by have := HJL.out; omega)
            rw [Int.toNat_natCast] at hcut1 hcut2
            have hjt : (L.take j).length = j := by rw [List.length_take]; have := HJL.out; omega
            have hjd : (L.drop j).length = L.length - j := List.length_drop
            obtain ⟨A2, hA2⟩ : ∃ A2, A2 = (if co = j then (some ado) else ((some ado) : Option Addr).map (·.add (j * 1))) := ⟨_, rfl⟩
            have hl14 : L.length ≤ 14 := by have := HLL.out; have := HOK.out.2.1; omega
            rw [← hA2] at hcut2
            clear hi0_ hsz_
            refine start_ (n := 16) (S := fun w' => w'.cell? (ad.add i) = some (.int .i64 x)) (ds := []) #[false, false, false, false, false, false, false, false, false, false, false, false, false, false, false, false] (by kernel_rfl) rfl rfl HXW.out (fun hHeld => ?_)
            have HR0 := Aside0.mk (Kd.C_drew HRW.out)
            have HO0 := Aside0.mk (Kd.R_drew HOW.out)
            have HBZ2 := Aside0.mk (below_drew1 HBW.out)
            have HX0 : Aside0 (W.drew.cell? (ad.add i) = some (.int .i64 x)) := ⟨HXW.out⟩
            generalize W.drew = W0 at HR0 HO0 HBZ2 HX0 hHeld ⊢
            clear HRW HOW HBW HXW
            have HTK : Aside0 (Kd.C (Kd.int .i64) W0 (some ado) j (L.take j)) := ⟨by have h_ := Kd.C_take (Kd.R_reads' HO0.out).2.2 HJL.out; rwa [hjt] at h_⟩
            have HDR : Aside0 (Kd.C (Kd.int .i64) W0 A2 (L.length - j) (L.drop j)) := ⟨by rw [hA2]; have h_ := Kd.C_drop (m := j) (c := co) (Kd.R_reads' HO0.out).2.2 HJL.out hroom_; rwa [hjd] at h_⟩
            clear hjt hjd hA2
            have HXL : Aside0 ((ad.add i).block < W0.heap.size) := ⟨World.block_lt_of_cell? _ _ HX0.out⟩
            have HB0 := Aside0.mk (Below.refl W0.heap.size W0)
            have hi14 : i < l0.length := hin
            refine pure_ (i := 1) (N := some 32) (v := ?_) (a' := ?_) #[false, true, false, false, false, false, false, false, false, false, false, false, false, false, false, false] rfl rfl (by kernel_rfl) (fun _ _ _ h => h) (Or.inl ⟨by rfl, ?_⟩) ?_ ?_
            rotate_left
            · intro w'
              go_simp
              with_reducible rfl
            rotate_left
            · simp only [Act.put, List.setIfInBounds_toArray, List.set_cons_zero, List.set_cons_succ, i64_w, i32_w]
              rfl
            refine pure_ (i := 2) (N := some 33) (v := ?_) (a' := ?_) #[false, true, true, false, false, false, false, false, false, false, false, false, false, false, false, false] rfl rfl (by kernel_rfl) (fun _ _ _ h => h) (Or.inl ⟨by rfl, ?_⟩) ?_ ?_
            rotate_left
            · intro w'
              go_simp
              with_reducible rfl
            rotate_left
            · simp only [Act.put, List.setIfInBounds_toArray, List.set_cons_zero, List.set_cons_succ, i64_w, i32_w]
              rfl
            refine pure_ (i := 3) (N := some 34) (v := ?_) (a' := ?_) #[false, true, true, true, false, false, false, false, false, false, false, false, false, false, false, false] rfl rfl (by kernel_rfl) (fun _ _ _ h => h) (Or.inl ⟨by rfl, ?_⟩) ?_ ?_
            rotate_left
            · intro w'
              go_simp
              with_reducible rfl
            rotate_left
            · simp only [Act.put, List.setIfInBounds_toArray, List.set_cons_zero, List.set_cons_succ, i64_w, i32_w]
              rfl
            refine pure_ (i := 5) (N := some 36) (v := ?_) (a' := ?_) #[false, true, true, true, false, true, false, false, false, false, false, false, false, false, false, false] rfl rfl (by kernel_rfl) (fun _ _ _ h => h) (Or.inl ⟨by rfl, ?_⟩) ?_ ?_
            rotate_left
            · intro w'
              go_simp
              with_reducible rfl
            rotate_left
            · simp only [Act.put, List.setIfInBounds_toArray, List.set_cons_zero, List.set_cons_succ, i64_w, i32_w]
              rfl
            refine pure_ (i := 6) (N := some 37) (v := ?_) (a' := ?_) #[false, true, true, true, false, true, true, false, false, false, false, false, false, false, false, false] rfl rfl (by kernel_rfl) (fun _ _ _ h => h) (Or.inl ⟨by rfl, ?_⟩) ?_ ?_
            rotate_left
            · intro w'
              go_simp
              with_reducible rfl
            rotate_left
            · simp only [Act.put, List.setIfInBounds_toArray, List.set_cons_zero, List.set_cons_succ, i64_w, i32_w]
              rfl
            refine pure_ (i := 7) (N := some 38) (v := ?_) (a' := ?_) #[false, true, true, true, false, true, true, true, false, false, false, false, false, false, false, false] rfl rfl (by kernel_rfl) (fun _ _ _ h => h) (Or.inl ⟨by rfl, ?_⟩) ?_ ?_
            rotate_left
            · intro w'
              go_simp
              with_reducible rfl
            rotate_left
            · simp only [Act.put, List.setIfInBounds_toArray, List.set_cons_zero, List.set_cons_succ, i64_w, i32_w]
              rfl
            refine take_ (i := 8) (N := some 39) (v := ?_) (a' := ?_) #[false, true, true, true, false, true, true, true, true, false, false, false, false, false, false, false] rfl rfl (by kernel_rfl) (fun _ _ _ h => h) (Or.inl ⟨by rfl, ?_⟩) hHeld ?_ ?_
            rotate_left
            · rintro w' s0
              go_simp
              with_reducible rfl
            rotate_left
            · simp only [Act.put, List.setIfInBounds_toArray, List.set_cons_zero, List.set_cons_succ, i64_w, i32_w]
              rfl
            refine pure_ (i := 11) (N := some 42) (v := ?_) (a' := ?_) #[false, true, true, true, false, true, true, true, true, false, false, true, false, false, false, false] rfl rfl (by kernel_rfl) (fun _ _ _ h => h) (Or.inl ⟨by rfl, ?_⟩) ?_ ?_
            rotate_left
            · intro w'
              go_simp
              with_reducible rfl
            rotate_left
            · simp only [Act.put, List.setIfInBounds_toArray, List.set_cons_zero, List.set_cons_succ, i64_w, i32_w]
              rfl
            refine pure_ (i := 12) (N := some 43) (v := ?_) (a' := ?_) #[false, true, true, true, false, true, true, true, true, false, false, true, true, false, false, false] rfl rfl (by kernel_rfl) (fun _ _ _ h => h) (Or.inl ⟨by rfl, ?_⟩) ?_ ?_
            rotate_left
            · intro w'
              go_simp
              with_reducible rfl
            rotate_left
            · simp only [Act.put, List.setIfInBounds_toArray, List.set_cons_zero, List.set_cons_succ, i64_w, i32_w]
              rfl
            refine pure_ (i := 13) (N := some 44) (v := ?_) (a' := ?_) #[false, true, true, true, false, true, true, true, true, false, false, true, true, true, false, false] rfl rfl (by kernel_rfl) (fun _ _ _ h => h) (Or.inl ⟨by rfl, ?_⟩) ?_ ?_
            rotate_left
            · intro w'
              go_simp
              with_reducible rfl
            rotate_left
            · simp only [Act.put, List.setIfInBounds_toArray, List.set_cons_zero, List.set_cons_succ, i64_w, i32_w]
              rfl
            refine join_ (σ := Value × Value × Value × Value × Value) 1 #[true, true, true, true, true, true, true, true, true, true, true, true, true, true, true, false] (fun s_ => [(31, s_.1), (35, s_.2.1), (40, s_.2.2.1), (41, s_.2.2.2.1), (45, s_.2.2.2.2)]) (fun s_ w' => Kd.R (Kd.int .i64) 3 w' W0.heap.size (fun _ => True) s_.2.2.2.2 ([] ++ L.take j ++ [x] ++ L.drop j) ∧ Below W0.heap.size W0 w') ?_ ?_
            rotate_left
            · intro hJ
              refine two_ (i := 0) (j := 9) (Ni := some 31) (Nj := some 40) #[true, true, true, true, false, true, true, true, true, false, false, true, true, true, false, false] #[false, true, true, true, false, true, true, true, true, true, false, true, true, true, false, false] rfl rfl rfl rfl (by kernel_rfl) (by decide) (by decide) (fun K hK => ?_) (fun K hK => ?_)
              · skip
                refine Kd.R_lit_step (Kd.int .i64) W0.heap.size 3 (by rfl) (N := 31) rfl (xs := ([] : List Int)) (inner := []) (ok := fun k_ => True) (okp := fun _ => True) ?hr (Reps.none _ _) (fun k_ hk => trivial) trivial HB0.out (below_size HB0.out) (by simp) ?_
                (case hr => first | (go_simp; done) | (go_simp; rfl))
                intro v31 w0q ho hb hg hn
                have HV31 := Aside0.mk ho
                have HB1 := Aside0.mk hb
                clear ho hb hg hn
                refine hK.out _ _ ((Below.cell HB1.out HXL.out).trans HX0.out) (fun hHeld => ?_)
                clear hK K
                refine norm_ (a' := ?_) ?_ ?_
                rotate_left
                · show Act.put _ (some 31) _ = _
                  simp only [Act.put, List.setIfInBounds_toArray, List.set_cons_zero, List.set_cons_succ, i64_w, i32_w]
                  rfl
                refine two_ (i := 4) (j := 9) (Ni := some 35) (Nj := some 40) #[true, true, true, true, true, true, true, true, true, false, false, true, true, true, false, false] #[true, true, true, true, false, true, true, true, true, true, false, true, true, true, false, false] rfl rfl rfl rfl (by kernel_rfl) (by decide) (by decide) (fun K hK => ?_) (fun K hK => ?_)
                · skip
                  refine Kd.R_append_rows_step (Kd.int .i64) (w0 := W0) W0.heap.size (by rfl) (.tmp 31) (.tmp 34) 22 3 (.int .i64 0) 8 rfl Try.underlying22 info3 rfl (by decide) (by omega) v31 ([] : List Int) (L.take j) _ _ _ (fun _ => True) (fun _ => False) rfl rfl ?aO ?aR (fun _ _ h => h) (fun _ h => h.elim) ?aF HB1.out (below_size HB1.out) ?aL ?_
                  (case aR => exact (Kd.C_below HTK.out HB1.out))
                  (case aO => exact Kd.R_mono HV31.out (fun k_ hk_ => trivial))
                  (case aF => exact fun _ _ => trivial)
                  (case aL => simp only [List.length_append, List.length_take, List.length_drop, List.length_cons, List.length_nil]; omega)
                  intro v35 w1q ho hb hg hat
                  have HV35 := Aside0.mk ho
                  have HB2 := Aside0.mk hb
                  clear ho hb hg hat
                  refine hK.out _ _ ((Below.cell HB2.out HXL.out).trans HX0.out) (fun hHeld => ?_)
                  clear hK K
                  refine norm_ (a' := ?_) ?_ ?_
                  rotate_left
                  · show Act.put _ (some 35) _ = _
                    simp only [Act.put, List.setIfInBounds_toArray, List.set_cons_zero, List.set_cons_succ, i64_w, i32_w]
                    rfl
                  refine one_ (i := 9) (N := some 40) #[true, true, true, true, true, true, true, true, true, true, false, true, true, true, false, false] rfl rfl (by kernel_rfl) (by decide) (fun K hK => ?_)
                  refine Kd.R_lit_step (Kd.int .i64) W0.heap.size 3 (by rfl) (N := 40) rfl (xs := [x]) (inner := [.int .i64 x]) (ok := fun k_ => some k_ ≠ v35.ownBlock) (okp := fun _ => False) ?hr ?hp (fun k_ hk => hk.elim) ?hf HB2.out (below_size HB2.out) (by simp) ?_
                  (case hf => exact fun e_ => by have := Kd.R_lt HV35.out _ e_.symm; omega)
                  (case hr => first | (go_simp; done) | (go_simp; rfl))
                  (case hp => exact Kd.reps_scalar [x])
                  intro v40 w2q ho hb hg hn
                  have HV40 := Aside0.mk ho
                  have HB3 := Aside0.mk hb
                  have HVb := Aside0.mk (Kd.R_step (ok := fun k_ => some k_ ≠ v40.ownBlock) (Kd.R_mono (Kd.R_bound HV35.out) (fun k_ hk_ e_ => by obtain ⟨b_, h1_, h2_⟩ := hn; rw [h1_] at e_; injection e_ with e_; have := hk_.2.2.1; omega)) (fun k_ hk_ hl_ => hg.block k_ hl_ (by simp)))
                  clear HV35
                  have HV35 := HVb
                  clear HVb
                  clear ho hb hg hn
                  refine hK.out _ _ ((Below.cell HB3.out HXL.out).trans HX0.out) (fun hHeld => ?_)
                  clear hK K
                  refine norm_ (a' := ?_) ?_ ?_
                  rotate_left
                  · show Act.put _ (some 40) _ = _
                    simp only [Act.put, List.setIfInBounds_toArray, List.set_cons_zero, List.set_cons_succ, i64_w, i32_w]
                    rfl
                  refine one_ (i := 10) (N := some 41) #[true, true, true, true, true, true, true, true, true, true, true, true, true, true, false, false] rfl rfl (by kernel_rfl) (by decide) (fun K hK => ?_)
                  obtain ⟨A40, c40, rfl⟩ := Kd.R_slice HV40.out
                  refine Kd.R_append_rows_step (Kd.int .i64) (w0 := W0) W0.heap.size (by rfl) (.tmp 35) (.tmp 40) 22 3 (.int .i64 0) 8 rfl Try.underlying22 info3 rfl (by decide) (by omega) v35 ([] ++ L.take j) [x] _ _ _ (fun _ => True) (fun _ => False) rfl rfl ?aO ?aR (fun _ _ h => h) (fun _ h => h.elim) ?aF HB3.out (below_size HB3.out) ?aL ?_
                  (case aR => exact (Kd.R_reads' HV40.out).2.2)
                  (case aO => exact Kd.R_mono HV35.out (fun k_ hk_ => trivial))
                  (case aF => exact fun _ _ => trivial)
                  (case aL => simp only [List.length_append, List.length_take, List.length_drop, List.length_cons, List.length_nil]; omega)
                  intro v41 w3q ho hb hg hat
                  have HV41 := Aside0.mk ho
                  have HB4 := Aside0.mk hb
                  clear ho hb hg hat
                  refine hK.out _ _ ((Below.cell HB4.out HXL.out).trans HX0.out) (fun hHeld => ?_)
                  clear hK K
                  refine norm_ (a' := ?_) ?_ ?_
                  rotate_left
                  · show Act.put _ (some 41) _ = _
                    simp only [Act.put, List.setIfInBounds_toArray, List.set_cons_zero, List.set_cons_succ, i64_w, i32_w]
                    rfl
                  refine one_ (i := 14) (N := some 45) #[true, true, true, true, true, true, true, true, true, true, true, true, true, true, true, false] rfl rfl (by kernel_rfl) (by decide) (fun K hK => ?_)
                  refine Kd.R_append_rows_step (Kd.int .i64) (w0 := W0) W0.heap.size (by rfl) (.tmp 41) (.tmp 44) 22 3 (.int .i64 0) 8 rfl Try.underlying22 info3 rfl (by decide) (by omega) v41 ([] ++ L.take j ++ [x]) (L.drop j) _ _ _ (fun _ => True) (fun _ => False) rfl rfl ?aO ?aR (fun _ _ h => h) (fun _ h => h.elim) ?aF HB4.out (below_size HB4.out) ?aL ?_
                  (case aR => exact (Kd.C_below HDR.out HB4.out))
                  (case aO => exact Kd.R_mono HV41.out (fun k_ hk_ => trivial))
                  (case aF => exact fun _ _ => trivial)
                  (case aL => simp only [List.length_append, List.length_take, List.length_drop, List.length_cons, List.length_nil]; omega)
                  intro v45 w4q ho hb hg hat
                  have HV45 := Aside0.mk ho
                  have HB5 := Aside0.mk hb
                  clear ho hb hg hat
                  refine hK.out _ _ ((Below.cell HB5.out HXL.out).trans HX0.out) (fun hHeld => ?_)
                  clear hK K
                  refine norm_ (a' := ?_) ?_ ?_
                  rotate_left
                  · show Act.put _ (some 45) _ = _
                    simp only [Act.put, List.setIfInBounds_toArray, List.set_cons_zero, List.set_cons_succ, i64_w, i32_w]
                    rfl
                  exact norm_ (by simp only [putAll, Act.put, List.setIfInBounds_toArray, List.set_cons_zero, List.set_cons_succ]) (hJ (v31, v35, .slice A40 [x].length c40, v41, v45) _ ⟨HV45.out, HB5.out⟩)
                · skip
                  refine Kd.R_lit_step (Kd.int .i64) W0.heap.size 3 (by rfl) (N := 40) rfl (xs := [x]) (inner := [.int .i64 x]) (ok := fun k_ => some k_ ≠ v31.ownBlock) (okp := fun _ => False) ?hr ?hp (fun k_ hk => hk.elim) ?hf HB1.out (below_size HB1.out) (by simp) ?_
                  (case hf => exact fun e_ => by have := Kd.R_lt HV31.out _ e_.symm; omega)
                  (case hr => first | (go_simp; done) | (go_simp; rfl))
                  (case hp => exact Kd.reps_scalar [x])
                  intro v40 w1q ho hb hg hn
                  have HV40 := Aside0.mk ho
                  have HB2 := Aside0.mk hb
                  have HVb := Aside0.mk (Kd.R_step (ok := fun k_ => some k_ ≠ v40.ownBlock) (Kd.R_mono (Kd.R_bound HV31.out) (fun k_ hk_ e_ => by obtain ⟨b_, h1_, h2_⟩ := hn; rw [h1_] at e_; injection e_ with e_; have := hk_.2.2.1; omega)) (fun k_ hk_ hl_ => hg.block k_ hl_ (by simp)))
                  clear HV31
                  have HV31 := HVb
                  clear HVb
                  clear ho hb hg hn
                  refine hK.out _ _ ((Below.cell HB2.out HXL.out).trans HX0.out) (fun hHeld => ?_)
                  clear hK K
                  refine norm_ (a' := ?_) ?_ ?_
                  rotate_left
                  · show Act.put _ (some 40) _ = _
                    simp only [Act.put, List.setIfInBounds_toArray, List.set_cons_zero, List.set_cons_succ, i64_w, i32_w]
                    rfl
                  refine one_ (i := 4) (N := some 35) #[true, true, true, true, true, true, true, true, true, true, false, true, true, true, false, false] rfl rfl (by kernel_rfl) (by decide) (fun K hK => ?_)
                  refine Kd.R_append_rows_step (Kd.int .i64) (w0 := W0) W0.heap.size (by rfl) (.tmp 31) (.tmp 34) 22 3 (.int .i64 0) 8 rfl Try.underlying22 info3 rfl (by decide) (by omega) v31 ([] : List Int) (L.take j) _ _ _ (fun k_ => some k_ ≠ v40.ownBlock) (fun _ => False) rfl rfl ?aO ?aR (fun _ _ h => h) (fun _ h => h.elim) ?aF HB2.out (below_size HB2.out) ?aL ?_
                  (case aR => exact (Kd.C_below HTK.out HB2.out))
                  (case aO => exact Kd.R_mono HV31.out (fun k_ hk_ => hk_))
                  (case aF => exact fun k_ hk_ e_ => by have := Kd.R_lt HV40.out _ e_.symm; omega)
                  (case aL => simp only [List.length_append, List.length_take, List.length_drop, List.length_cons, List.length_nil]; omega)
                  intro v35 w2q ho hb hg hat
                  have HV35 := Aside0.mk ho
                  have HB3 := Aside0.mk hb
                  have HV40b := Aside0.mk (Kd.R_after (ok := fun _ => True) (Kd.R_mono HV40.out (fun k_ hk_ => ⟨trivial, hk_⟩)) hg hat)
                  clear HV40
                  have HV40 := Aside0.mk (Kd.R_mono HV40b.out (fun k_ hk_ => hk_.2))
                  clear HV40b
                  clear ho hb hg hat
                  refine hK.out _ _ ((Below.cell HB3.out HXL.out).trans HX0.out) (fun hHeld => ?_)
                  clear hK K
                  refine norm_ (a' := ?_) ?_ ?_
                  rotate_left
                  · show Act.put _ (some 35) _ = _
                    simp only [Act.put, List.setIfInBounds_toArray, List.set_cons_zero, List.set_cons_succ, i64_w, i32_w]
                    rfl
                  refine one_ (i := 10) (N := some 41) #[true, true, true, true, true, true, true, true, true, true, true, true, true, true, false, false] rfl rfl (by kernel_rfl) (by decide) (fun K hK => ?_)
                  obtain ⟨A40, c40, rfl⟩ := Kd.R_slice HV40.out
                  refine Kd.R_append_rows_step (Kd.int .i64) (w0 := W0) W0.heap.size (by rfl) (.tmp 35) (.tmp 40) 22 3 (.int .i64 0) 8 rfl Try.underlying22 info3 rfl (by decide) (by omega) v35 ([] ++ L.take j) [x] _ _ _ (fun _ => True) (fun _ => False) rfl rfl ?aO ?aR (fun _ _ h => h) (fun _ h => h.elim) ?aF HB3.out (below_size HB3.out) ?aL ?_
                  (case aR => exact (Kd.R_reads' HV40.out).2.2)
                  (case aO => exact Kd.R_mono HV35.out (fun k_ hk_ => trivial))
                  (case aF => exact fun _ _ => trivial)
                  (case aL => simp only [List.length_append, List.length_take, List.length_drop, List.length_cons, List.length_nil]; omega)
                  intro v41 w3q ho hb hg hat
                  have HV41 := Aside0.mk ho
                  have HB4 := Aside0.mk hb
                  clear ho hb hg hat
                  refine hK.out _ _ ((Below.cell HB4.out HXL.out).trans HX0.out) (fun hHeld => ?_)
                  clear hK K
                  refine norm_ (a' := ?_) ?_ ?_
                  rotate_left
                  · show Act.put _ (some 41) _ = _
                    simp only [Act.put, List.setIfInBounds_toArray, List.set_cons_zero, List.set_cons_succ, i64_w, i32_w]
                    rfl
                  refine one_ (i := 14) (N := some 45) #[true, true, true, true, true, true, true, true, true, true, true, true, true, true, true, false] rfl rfl (by kernel_rfl) (by decide) (fun K hK => ?_)
                  refine Kd.R_append_rows_step (Kd.int .i64) (w0 := W0) W0.heap.size (by rfl) (.tmp 41) (.tmp 44) 22 3 (.int .i64 0) 8 rfl Try.underlying22 info3 rfl (by decide) (by omega) v41 ([] ++ L.take j ++ [x]) (L.drop j) _ _ _ (fun _ => True) (fun _ => False) rfl rfl ?aO ?aR (fun _ _ h => h) (fun _ h => h.elim) ?aF HB4.out (below_size HB4.out) ?aL ?_
                  (case aR => exact (Kd.C_below HDR.out HB4.out))
                  (case aO => exact Kd.R_mono HV41.out (fun k_ hk_ => trivial))
                  (case aF => exact fun _ _ => trivial)
                  (case aL => simp only [List.length_append, List.length_take, List.length_drop, List.length_cons, List.length_nil]; omega)
                  intro v45 w4q ho hb hg hat
                  have HV45 := Aside0.mk ho
                  have HB5 := Aside0.mk hb
                  clear ho hb hg hat
                  refine hK.out _ _ ((Below.cell HB5.out HXL.out).trans HX0.out) (fun hHeld => ?_)
                  clear hK K
                  refine norm_ (a' := ?_) ?_ ?_
                  rotate_left
                  · show Act.put _ (some 45) _ = _
                    simp only [Act.put, List.setIfInBounds_toArray, List.set_cons_zero, List.set_cons_succ, i64_w, i32_w]
                    rfl
                  exact norm_ (by simp only [putAll, Act.put, List.setIfInBounds_toArray, List.set_cons_zero, List.set_cons_succ]) (hJ (v31, v35, .slice A40 [x].length c40, v41, v45) _ ⟨HV45.out, HB5.out⟩)
              · skip
                refine Kd.R_lit_step (Kd.int .i64) W0.heap.size 3 (by rfl) (N := 40) rfl (xs := [x]) (inner := [.int .i64 x]) (ok := fun k_ => True) (okp := fun _ => True) ?hr ?hp (fun _ hk => hk) trivial HB0.out (below_size HB0.out) (by simp) ?_
                (case hr => first | (go_simp; done) | (go_simp; rfl))
                (case hp => exact Kd.reps_scalar [x])
                intro v40 w0q ho hb hg hn
                have HV40 := Aside0.mk ho
                have HB1 := Aside0.mk hb
                clear ho hb hg hn
                refine hK.out _ _ ((Below.cell HB1.out HXL.out).trans HX0.out) (fun hHeld => ?_)
                clear hK K
                refine norm_ (a' := ?_) ?_ ?_
                rotate_left
                · show Act.put _ (some 40) _ = _
                  simp only [Act.put, List.setIfInBounds_toArray, List.set_cons_zero, List.set_cons_succ, i64_w, i32_w]
                  rfl
                refine one_ (i := 0) (N := some 31) #[true, true, true, true, false, true, true, true, true, true, false, true, true, true, false, false] rfl rfl (by kernel_rfl) (by decide) (fun K hK => ?_)
                refine Kd.R_lit_step (Kd.int .i64) W0.heap.size 3 (by rfl) (N := 31) rfl (xs := ([] : List Int)) (inner := []) (ok := fun k_ => some k_ ≠ v40.ownBlock) (okp := fun _ => False) ?hr (Reps.none _ _) (fun k_ hk => hk.elim) ?hf HB1.out (below_size HB1.out) (by simp) ?_
                (case hf => exact fun e_ => by have := Kd.R_lt HV40.out _ e_.symm; omega)
                (case hr => first | (go_simp; done) | (go_simp; rfl))
                intro v31 w1q ho hb hg hn
                have HV31 := Aside0.mk ho
                have HB2 := Aside0.mk hb
                have HV40b := Aside0.mk (Kd.R_step (ok := fun k_ => some k_ ≠ v31.ownBlock) (Kd.R_mono (Kd.R_bound HV40.out) (fun k_ hk_ e_ => by obtain ⟨b_, h1_, h2_⟩ := hn; rw [h1_] at e_; injection e_ with e_; have := hk_.2.2.1; omega)) (fun k_ hk_ hl_ => hg.block k_ hl_ (by simp)))
                clear HV40
                have HV40 := HV40b
                clear HV40b
                clear ho hb hg hn
                refine hK.out _ _ ((Below.cell HB2.out HXL.out).trans HX0.out) (fun hHeld => ?_)
                clear hK K
                refine norm_ (a' := ?_) ?_ ?_
                rotate_left
                · show Act.put _ (some 31) _ = _
                  simp only [Act.put, List.setIfInBounds_toArray, List.set_cons_zero, List.set_cons_succ, i64_w, i32_w]
                  rfl
                refine one_ (i := 4) (N := some 35) #[true, true, true, true, true, true, true, true, true, true, false, true, true, true, false, false] rfl rfl (by kernel_rfl) (by decide) (fun K hK => ?_)
                refine Kd.R_append_rows_step (Kd.int .i64) (w0 := W0) W0.heap.size (by rfl) (.tmp 31) (.tmp 34) 22 3 (.int .i64 0) 8 rfl Try.underlying22 info3 rfl (by decide) (by omega) v31 ([] : List Int) (L.take j) _ _ _ (fun k_ => some k_ ≠ v40.ownBlock) (fun _ => False) rfl rfl ?aO ?aR (fun _ _ h => h) (fun _ h => h.elim) ?aF HB2.out (below_size HB2.out) ?aL ?_
                (case aR => exact (Kd.C_below HTK.out HB2.out))
                (case aO => exact Kd.R_mono HV31.out (fun k_ hk_ => hk_))
                (case aF => exact fun k_ hk_ e_ => by have := Kd.R_lt HV40.out _ e_.symm; omega)
                (case aL => simp only [List.length_append, List.length_take, List.length_drop, List.length_cons, List.length_nil]; omega)
                intro v35 w2q ho hb hg hat
                have HV35 := Aside0.mk ho
                have HB3 := Aside0.mk hb
                have HV40b := Aside0.mk (Kd.R_after (ok := fun _ => True) (Kd.R_mono HV40.out (fun k_ hk_ => ⟨trivial, hk_⟩)) hg hat)
                clear HV40
                have HV40 := Aside0.mk (Kd.R_mono HV40b.out (fun k_ hk_ => hk_.2))
                clear HV40b
                clear ho hb hg hat
                refine hK.out _ _ ((Below.cell HB3.out HXL.out).trans HX0.out) (fun hHeld => ?_)
                clear hK K
                refine norm_ (a' := ?_) ?_ ?_
                rotate_left
                · show Act.put _ (some 35) _ = _
                  simp only [Act.put, List.setIfInBounds_toArray, List.set_cons_zero, List.set_cons_succ, i64_w, i32_w]
                  rfl
                refine one_ (i := 10) (N := some 41) #[true, true, true, true, true, true, true, true, true, true, true, true, true, true, false, false] rfl rfl (by kernel_rfl) (by decide) (fun K hK => ?_)
                obtain ⟨A40, c40, rfl⟩ := Kd.R_slice HV40.out
                refine Kd.R_append_rows_step (Kd.int .i64) (w0 := W0) W0.heap.size (by rfl) (.tmp 35) (.tmp 40) 22 3 (.int .i64 0) 8 rfl Try.underlying22 info3 rfl (by decide) (by omega) v35 ([] ++ L.take j) [x] _ _ _ (fun _ => True) (fun _ => False) rfl rfl ?aO ?aR (fun _ _ h => h) (fun _ h => h.elim) ?aF HB3.out (below_size HB3.out) ?aL ?_
                (case aR => exact (Kd.R_reads' HV40.out).2.2)
                (case aO => exact Kd.R_mono HV35.out (fun k_ hk_ => trivial))
                (case aF => exact fun _ _ => trivial)
                (case aL => simp only [List.length_append, List.length_take, List.length_drop, List.length_cons, List.length_nil]; omega)
                intro v41 w3q ho hb hg hat
                have HV41 := Aside0.mk ho
                have HB4 := Aside0.mk hb
                clear ho hb hg hat
                refine hK.out _ _ ((Below.cell HB4.out HXL.out).trans HX0.out) (fun hHeld => ?_)
                clear hK K
                refine norm_ (a' := ?_) ?_ ?_
                rotate_left
                · show Act.put _ (some 41) _ = _
                  simp only [Act.put, List.setIfInBounds_toArray, List.set_cons_zero, List.set_cons_succ, i64_w, i32_w]
                  rfl
                refine one_ (i := 14) (N := some 45) #[true, true, true, true, true, true, true, true, true, true, true, true, true, true, true, false] rfl rfl (by kernel_rfl) (by decide) (fun K hK => ?_)
                refine Kd.R_append_rows_step (Kd.int .i64) (w0 := W0) W0.heap.size (by rfl) (.tmp 41) (.tmp 44) 22 3 (.int .i64 0) 8 rfl Try.underlying22 info3 rfl (by decide) (by omega) v41 ([] ++ L.take j ++ [x]) (L.drop j) _ _ _ (fun _ => True) (fun _ => False) rfl rfl ?aO ?aR (fun _ _ h => h) (fun _ h => h.elim) ?aF HB4.out (below_size HB4.out) ?aL ?_
                (case aR => exact (Kd.C_below HDR.out HB4.out))
                (case aO => exact Kd.R_mono HV41.out (fun k_ hk_ => trivial))
                (case aF => exact fun _ _ => trivial)
                (case aL => simp only [List.length_append, List.length_take, List.length_drop, List.length_cons, List.length_nil]; omega)
                intro v45 w4q ho hb hg hat
                have HV45 := Aside0.mk ho
                have HB5 := Aside0.mk hb
                clear ho hb hg hat
                refine hK.out _ _ ((Below.cell HB5.out HXL.out).trans HX0.out) (fun hHeld => ?_)
                clear hK K
                refine norm_ (a' := ?_) ?_ ?_
                rotate_left
                · show Act.put _ (some 45) _ = _
                  simp only [Act.put, List.setIfInBounds_toArray, List.set_cons_zero, List.set_cons_succ, i64_w, i32_w]
                  rfl
                exact norm_ (by simp only [putAll, Act.put, List.setIfInBounds_toArray, List.set_cons_zero, List.set_cons_succ]) (hJ (v31, v35, .slice A40 [x].length c40, v41, v45) _ ⟨HV45.out, HB5.out⟩)
            rintro ⟨u31, u35, u40, u41, v45⟩ w9 ⟨f1, f2⟩
            have HF1 := Aside0.mk f1
            have HF2 := Aside0.mk f2
            simp only at HF1
            clear f1 f2 hHeld
            refine norm_ (a' := ?_) ?_ ?_
            rotate_left
            · simp only [putAll, Act.put, List.setIfInBounds_toArray, List.set_cons_zero, List.set_cons_succ]
              rfl
            refine pure_ (i := 15) (N := some 3) (v := ?_) (a' := ?_) #[true, true, true, true, true, true, true, true, true, true, true, true, true, true, true, true] rfl rfl (by kernel_rfl) (fun _ _ _ h => h) (Or.inl ⟨by rfl, ?_⟩) ?_ ?_
            rotate_left
            · intro w'
              go_simp
              with_reducible rfl
            rotate_left
            · simp only [Act.put, List.setIfInBounds_toArray, List.set_cons_zero, List.set_cons_succ, i64_w, i32_w]
              rfl
            refine done_ (by kernel_rfl) ?_
            have HFIN : Aside0 (Kd.R (Kd.int .i64) 3 w9 w.heap.size (fun _ => True) v45 (fallS (l0.take (i + 1)))) := ⟨by rw [HNX.out, ← HINS.out]; exact Kd.R_lower HF1.out (below_size HBZ2.out)⟩
            have HRF := Aside0.mk (Kd.C_below HR0.out HF2.out)
            have HBF := Aside0.mk (below_step HBZ2.out HF2.out)
            go_wp2
            go_roundg kq
            case measure => have := HI.out; omega
            case rel => exact ⟨i + 1, by first | rfl | rw [hw1], ⟨by have := HI.out; omega⟩, HFIN, HRF, HBF⟩
theorem woggleref05_Falling.calls (A0 : Option Addr) (c0 : Nat) (l0 : List Int) (r : List Int) (w : World) (hr0 : Kd.C (Kd.int .i64) w A0 l0.length l0) (hc0 : l0.length ≤ c0) (h : woggleref05_Falling.f l0 = some r) :
    Calls Try.prog 66 #[.slice A0 l0.length c0] w fun e w' => ∃ v0_ : Value, e = .returned v0_ ∧ Kd.R (Kd.int .i64) 3 w' w.heap.size (fun _ => True) v0_ r ∧ Below w.heap.size w w' := by
  unfold woggleref05_Falling.f at h
  by_cases hc : OkL 14 l0
  · rw [if_pos hc] at h
    obtain rfl := Option.some.inj h
    exact falling_ok A0 c0 l0 w hc hr0 hc0
  · rw [if_neg hc] at h
    cases h
end Go.Proofs.Ytepgcdjbhmpioaa.Fi
