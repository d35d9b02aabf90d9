/- The calls of FireRenamed. -/
import Derived.Test.YtbgpnkchbcgekaaDoorQFqFi0
import Derived.Test.YtbgpnkchbcgekaaDoorQFqFi5
import Derived.Test.YtbgpnkchbcgekaaDoorQFqFi9
import Derived.Test.YtbgpnkchbcgekaaDoorQFqHbu
import Derived.Test.YtbgpnkchbcgekaaDoorQFqHc2
import Derived.Test.YtbgpnkchbcgekaaDoorQFqR1
import Derived.Test.YtbgpnkchbcgekaaDoorQFqHcl
import Derived.Outline
namespace Go.Proofs.YtbgpnkchbcgekaaDoor.Fi
open Go.RowKit Go.Proofs.YtbgpnkchbcgekaaDoorW.PrintWords Go.Proofs.YtbgpnkchbcgekaaDoorW.PrintLast Go.Proofs.YtbgpnkchbcgekaaDoorW.PrintMore Wog
set_option linter.unusedVariables false
set_option linter.unusedSimpArgs false
/-- The other names of the pairs. -/
def otherR (kk x0 x2 : Nat) (l : List S42) : List S42 := l.map fun p => ⟨((nameR kk x0 x2 p.f0.toNat : Nat) : Int), ((nameR kk x0 x2 p.f1.toNat : Nat) : Int)⟩
theorem otherR_length (kk x0 x2 : Nat) (l : List S42) : (otherR kk x0 x2 l).length = l.length := by rw [otherR, List.length_map]
theorem other_snoc {kk x0 x2 i : Nat} {l : List S42} (hi : i < l.length) : otherR kk x0 x2 (l.take (i + 1)) = otherR kk x0 x2 (l.take i) ++ [(⟨((nameR kk x0 x2 (rd_T42 l (i : Int)).f0.toNat : Nat) : Int), ((nameR kk x0 x2 (rd_T42 l (i : Int)).f1.toNat : Nat) : Int)⟩ : S42)] := by
  rw [otherR, List.take_add_one, List.getElem?_eq_getElem hi, List.map_append, rd_mem hi]
  rfl
set_option maxHeartbeats 4000000 in
set_option maxRecDepth 100000 in
theorem renamed_calls (k : Nat) (a0 a1 : Int) (x0 x1 x2 : Nat) (h0 : x0 ≤ 255) (h1 : x1 ≤ 255) (h2 : x2 ≤ 255) (kk : Nat) (l : List S42) (w : World) (hT : TabIn w) (hkk : 1 ≤ kk) (hkk10 : kk ≤ 10) (hl : l.length ≤ 100) (hg : GoodG kk l)
    (hmade : wogglelaw06_made.f k a0 a1 = some ((kk : Int), l)) (s : Int) (q1 q2 u1 u2 : List Int)
    (hb1 : fire_Best.f kk l ((x1 % kk : Nat) : Int) = some (s, q1, 0)) (hb2 : fire_Best.f kk (otherR kk x0 x2 l) ((nameR kk x0 x2 (x1 % kk) : Nat) : Int) = some (s, q2, 0))
    (hu1 : fire_Burning.f kk l = some (u1, 0)) (hu2 : fire_Burning.f kk (otherR kk x0 x2 l) = some (u2, 0)) (hu : u1.length = u2.length) (hlv : wogglelaw06_lives.f k = some true) :
    Calls Tryd.prog 5 #[.int .u8 a0, .int .u64 a1, .agg #[.int .u8 (x0 : Int), .int .u8 (x1 : Int), .int .u8 (x2 : Int)]] w fun e w' => e = .returned (.bool true) ∧ Below w.heap.size w w' := by
  have HT := Aside0.mk hT
  have HM := Aside0.mk hmade
  have HBe1 := Aside0.mk hb1
  have HBe2 := Aside0.mk hb2
  have HU1 := Aside0.mk hu1
  have HU2 := Aside0.mk hu2
  have HUL := Aside0.mk hu
  have HLV := Aside0.mk hlv
  have HG := Aside0.mk hg
  clear hT hmade hb1 hb2 hu1 hu2 hu hlv hg
  have hu39 := Tryd.underlying39
  have hu42 := Tryd.underlying42
  have HB := Aside0.mk (Below.refl w.heap.size w)
  go_enter Tryd.func5, Tryd.ntmps5
  go_wp2_with (first | ((with_reducible refine gate_dst (N := 5) rfl ?_); (try (refine gate_guard (by rfl) ?_; dsimp only)); refine box_event ?hg (N := 5) ?hd (cs := #[.int .u8 (x0 : Int), .int .u8 (x1 : Int), .int .u8 (x2 : Int)]) (t := 39) ?hr ?_; (case hd => rfl); (case hg => rfl); (case hr => first | (go_simp; done) | (go_simp; rfl)); intro gb610 hg w7 hbox hb; have n0_ := Aside0.mk (below_step (by repeat (first | (with_reducible first | exact HB.out | apply below_alloc | apply pw_below_drewN | apply below_drew1) | exact HB.out)) hb); have n1_ := Aside0.mk (hbox); have n2_ := Aside0.mk ((by rw [hg]; exact (below_size (by repeat (first | (with_reducible first | exact HB.out | apply below_alloc | apply pw_below_drewN | apply below_drew1) | exact HB.out))) : w.heap.size ≤ gb610)); clear HB; have HB := n0_; have BK610 := n1_; have GW610 := n2_; clear n0_ n1_ n2_; clear hb hbox hg))
  refine (wogglelaw06_made.calls k a0 a1 kk l _ HM.out).mono ?_
  rintro e w8 ⟨v613, rfl, ho0, hb⟩
  have n0_ := Aside0.mk (Kd.R_lower ho0 (below_size HB.out))
  have n1_ := Aside0.mk (blk_below BK610.out hb)
  have n2_ := Aside0.mk (below_step HB.out hb)
  clear BK610 HB ho0 hb
  have HO614 := n0_
  obtain ⟨A6, c6, e6⟩ := Kd.R_slice HO614.out
  subst e6
  have BK610 := n1_
  have HB := n2_
  clear n0_ n1_ n2_
  obtain ⟨gc, hgk⟩ : ∃ g, g = w8.heap.size := ⟨_, rfl⟩
  have GK := Aside0.mk hgk
  clear hgk
  go_wp2_with ((with_reducible refine gate_dst (N := 30) rfl ?_); refine Kd.R_lit k42 _ 42 ?hg (N := 30) ?hd (xs := ([] : List (S42))) (inner := []) (ok := fun _ => True) (okp := fun _ => True) ?hr ?hp (fun _ hk => hk) trivial (Below.refl _ _) (Nat.le_refl _) (by simp) ?_; (case hd => rfl); (case hg => rfl); (case hr => first | (go_simp; done) | (go_simp; rfl)); (case hp => exact (Reps.none _ _)); intro v9 w9 ho9 hb9 hg_ hnew_; clear hg_ hnew_; have HO := Aside0.mk ho9; have HB9 := Aside0.mk hb9; clear ho9 hb9)
  rw [← GK.out]
  have n0_ := Aside0.mk (show w9.heap[gc]? = some (.cells #[.int .i64 (kk : Int)] 3 (0, 0)) from blk_below (by rw [GK.out]; exact blk_new w8 _) HB9.out)
  have n1_ := Aside0.mk (blk_below (blk_alloc BK610.out _) HB9.out)
  have n2_ := Aside0.mk (Kd.R_elder' (Kd.R_alloc HO614.out _) (Kd.R_base HO.out) HB9.out)
  have n3_ := Aside0.mk (below_step (below_alloc HB.out _) HB9.out)
  have n4_ := Aside0.mk (Kd.R_lower HO.out (below_size (below_alloc HB.out _)))
  clear HO HB9 HB BK610 HO614
  have CK := n0_
  have BK := n1_
  have HL := n2_
  have HB := n3_
  have HO := n4_
  clear n0_ n1_ n2_ n3_ n4_ GK
  go_loopg [10, 11] l.length (fun kq v10 v11 wr => ∃ i : Nat, v11 = .int .i64 (i : Int) ∧ Aside0 (i + kq = l.length) ∧ Aside0 (Kd.R k42 42 wr w.heap.size (fun _ => True) v10 (otherR kk x0 x2 (l.take i))) ∧ Aside0 (Kd.R k42 42 wr w.heap.size (fun q => True ∧ some q ≠ v10.ownBlock) (.slice A6 l.length c6) l) ∧ Aside0 (wr.heap[gc]? = some (.cells #[.int .i64 (kk : Int)] 3 (0, 0))) ∧ Aside0 (wr.heap[gb610]? = some (.cells #[.int .u8 (x0 : Int), .int .u8 (x1 : Int), .int .u8 (x2 : Int)] 39 (0, 0))) ∧ Aside0 (Below w.heap.size w wr))
  case atStart => exact ⟨0, rfl, ⟨by omega⟩, HO, HL, CK, BK, HB⟩
  case round =>
    obtain ⟨i, rfl, HI, HO, HL, CK, BK, HB⟩ := hrel
    cases gk with
    | zero =>
      obtain rfl : i = l.length := by have := HI.out; omega
      have hd9 : decide ((l.length : Int) < (l.length : Int)) = false := by simp
      have d1 : wr.cell? ⟨gb610, 1, none⟩ = some (.int .u8 (x1 : Int)) := blk_cell BK.out 1
      have dk : wr.cell? ⟨gc, 0, none⟩ = some (.int .i64 (kk : Int)) := blk_cell CK.out 0
      have k9 : ((kk : Int) == 0) = false := by simp; omega
      go_wp2_with (go_at_call 17; refine (fire_Best.calls kk A6 c6 l ((x1 % kk : Nat) : Int) s q1 0 _ (Kd.R_reads' HL.out).2.2 (Kd.R_reads' HL.out).2.1 HBe1.out).mono ?_; rintro e w10 ⟨vq1, rfl, hq, hb⟩; have HO2 := Aside0.mk (Kd.R_below HO.out hb); have HL2 := Aside0.mk (Kd.R_below HL.out hb); have CK2 := Aside0.mk (blk_below CK.out hb); have BK2 := Aside0.mk (blk_below BK.out hb); have HB2 := Aside0.mk (below_step HB.out hb); clear hq hb HO HL CK BK HB d1 dk)
      have HO3 : Aside0 (Kd.R k42 42 w10 w.heap.size (fun _ => True) u10 (otherR kk x0 x2 l)) := ⟨by have := HO2.out; rwa [List.take_length] at this⟩
      clear HO2
      obtain ⟨Ao, co, eo⟩ := Kd.R_slice HO3.out
      subst eo
      refine start_ (n := 13) (S := fun w' => w'.cell? ⟨gc, 0, none⟩ = some (.int .i64 (kk : Int))) (ds := []) #[false, false, false, false, false, false, false, false, false, false, false, false, false] (by kernel_rfl) rfl rfl (blk_cell (blk_drew CK2.out) 0) (fun hHeld => ?_)
      refine take_ (i := 0) (N := some 69) (v := ?_) (a' := ?_) #[true, false, false, false, false, false, false, false, false, false, false, false, false] rfl rfl (by kernel_rfl) (fun _ _ _ h => h) (Or.inl ⟨by rfl, ?_⟩) hHeld ?_ ?_
      rotate_left
      · rintro w' s0
        go_simp
        with_reducible rfl
      rotate_left
      · simp only [Act.put, List.setIfInBounds_toArray, List.set_cons_zero, List.set_cons_succ, i64_w, i32_w]
        rfl
      refine pure_ (i := 1) (N := some 70) (v := ?_) (a' := ?_) #[true, true, false, false, false, false, false, false, false, false, false, false, false] rfl rfl (by kernel_rfl) (fun _ _ _ h => h) (Or.inl ⟨by rfl, ?_⟩) ?_ ?_
      rotate_left
      · intro w'
        go_simp
        with_reducible rfl
      rotate_left
      · simp only [Act.put, List.setIfInBounds_toArray, List.set_cons_zero, List.set_cons_succ, i64_w, i32_w]
        rfl
      refine pure_ (i := 2) (N := some 71) (v := ?_) (a' := ?_) #[true, true, true, false, false, false, false, false, false, false, false, false, false] rfl rfl (by kernel_rfl) (fun _ _ _ h => h) (Or.inl ⟨by rfl, ?_⟩) ?_ ?_
      rotate_left
      · intro w'
        go_simp
        with_reducible rfl
      rotate_left
      · simp only [Act.put, List.setIfInBounds_toArray, List.set_cons_zero, List.set_cons_succ, i64_w, i32_w]
        rfl
      refine pure_ (i := 3) (N := some 72) (v := ?_) (a' := ?_) #[true, true, true, true, false, false, false, false, false, false, false, false, false] rfl rfl (by kernel_rfl) (fun _ _ _ h => h) (Or.inl ⟨by rfl, ?_⟩) ?_ ?_
      rotate_left
      · intro w'
        go_simp
        with_reducible rfl
      rotate_left
      · simp only [Act.put, List.setIfInBounds_toArray, List.set_cons_zero, List.set_cons_succ, i64_w, i32_w]
        rfl
      refine one_ (i := 4) (N := some 73) #[true, true, true, true, true, false, false, false, false, false, false, false, false] rfl rfl (by kernel_rfl) (by decide) (fun K hK => ?_)
      refine goesC_ Tryd.func25 (by kernel_rfl) rfl #[.int .i64 ((x1 % kk : Nat) : Int), .pointer (some ⟨gb610, 0, none⟩), .pointer (some ⟨gc, 0, none⟩)] (by rfl) rfl rfl rfl (by first | rfl | (simp only [List.map_toArray, List.map_cons, List.map_nil]; rfl)) ?_
      refine (name_calls gb610 gc x0 x1 x2 kk (x1 % kk) h0 h2 hkk hkk10 (Nat.mod_lt _ (by omega)) _ (blk_drew BK2.out) (blk_drew CK2.out)).mono ?_
      rintro e w1 ⟨rfl, ⟨nd, rfl⟩⟩
      refine ⟨_, rfl, ?_⟩
      refine hK.out _ _ (blk_cell (blk_drewN (blk_drew CK2.out) _) 0) (fun hHeld => ?_)
      clear hK K
      refine norm_ (a' := ?_) ?_ ?_
      rotate_left
      · show Act.put _ (some 73) _ = _
        simp only [Act.put, List.setIfInBounds_toArray, List.set_cons_zero, List.set_cons_succ, i64_w, i32_w]
        rfl
      refine one_ (i := 5) (N := some 74) #[true, true, true, true, true, true, false, false, false, false, false, false, false] rfl rfl (by kernel_rfl) (by decide) (fun K hK => ?_)
      refine goes_ Tryd.func17 (by kernel_rfl) rfl #[.int .i64 (kk : Int), .slice Ao (otherR kk x0 x2 l).length co, .int .i64 ((nameR kk x0 x2 (x1 % kk) : Nat) : Int)] (by rfl) rfl rfl (by (try simp only [List.map_toArray, List.map_cons, List.map_nil]); first | done | rfl) ?_
      refine (fire_Best.calls kk Ao co (otherR kk x0 x2 l) _ s q2 0 _ (Kd.C_drewN (Kd.C_drew (Kd.R_reads' HO3.out).2.2) _) (Kd.R_reads' HO3.out).2.1 HBe2.out).mono ?_
      rintro e w12 ⟨vq2, rfl, hq, hb⟩
      refine ⟨_, rfl, ?_⟩
      refine hK.out _ _ (blk_cell (blk_below (blk_drewN (blk_drew CK2.out) nd) hb) 0) (fun hHeld => ?_)
      have HO4 := Aside0.mk (Kd.R_below (Kd.R_drewN (Kd.R_drew HO3.out) nd) hb)
      have HL4 := Aside0.mk (Kd.R_below (Kd.R_drewN (Kd.R_drew HL2.out) nd) hb)
      have CK4 := Aside0.mk (blk_below (blk_drewN (blk_drew CK2.out) nd) hb)
      have HB4 := Aside0.mk (below_step (pw_below_drewN (below_drew1 HB2.out) nd) hb)
      clear HO3 HL2 CK2 BK2 HB2 hq hb
      clear hK K
      refine norm_ (a' := ?_) ?_ ?_
      rotate_left
      · show Act.put _ (some 74) _ = _
        simp only [Act.put, List.setIfInBounds_toArray, List.set_cons_zero, List.set_cons_succ, i64_w, i32_w]
        rfl
      refine pure_ (i := 6) (N := some 68) (v := ?_) (a' := ?_) #[true, true, true, true, true, true, true, false, false, false, false, false, false] rfl rfl (by kernel_rfl) (fun _ _ _ h => h) (Or.inl ⟨by rfl, ?_⟩) ?_ ?_
      rotate_left
      · intro w'
        go_simp
        with_reducible rfl
      rotate_left
      · simp only [Act.put, List.setIfInBounds_toArray, List.set_cons_zero, List.set_cons_succ, i64_w, i32_w]
        rfl
      refine pure_ (i := 7) (N := some 75) (v := ?_) (a' := ?_) #[true, true, true, true, true, true, true, true, false, false, false, false, false] rfl rfl (by kernel_rfl) (fun _ _ _ h => h) (Or.inl ⟨by rfl, ?_⟩) ?_ ?_
      rotate_left
      · intro w'
        go_simp
        with_reducible rfl
      rotate_left
      · simp only [Act.put, List.setIfInBounds_toArray, List.set_cons_zero, List.set_cons_succ, i64_w, i32_w]
        rfl
      refine pure_ (i := 8) (N := some 76) (v := ?_) (a' := ?_) #[true, true, true, true, true, true, true, true, true, false, false, false, false] rfl rfl (by kernel_rfl) (fun _ _ _ h => h) (Or.inl ⟨by rfl, ?_⟩) ?_ ?_
      rotate_left
      · intro w'
        go_simp
        with_reducible rfl
      rotate_left
      · simp only [Act.put, List.setIfInBounds_toArray, List.set_cons_zero, List.set_cons_succ, i64_w, i32_w]
        rfl
      refine pure_ (i := 9) (N := some 77) (v := ?_) (a' := ?_) #[true, true, true, true, true, true, true, true, true, true, false, false, false] rfl rfl (by kernel_rfl) (fun _ _ _ h => h) (Or.inl ⟨by rfl, ?_⟩) ?_ ?_
      rotate_left
      · intro w'
        go_simp
        with_reducible rfl
      rotate_left
      · simp only [Act.put, List.setIfInBounds_toArray, List.set_cons_zero, List.set_cons_succ, i64_w, i32_w]
        rfl
      refine pure_ (i := 10) (N := some 16) (v := ?_) (a' := ?_) #[true, true, true, true, true, true, true, true, true, true, true, false, false] rfl rfl (by kernel_rfl) (fun _ _ _ h => h) (Or.inl ⟨by rfl, ?_⟩) ?_ ?_
      rotate_left
      · intro w'
        go_simp
        with_reducible rfl
      rotate_left
      · simp only [Act.put, List.setIfInBounds_toArray, List.set_cons_zero, List.set_cons_succ, i64_w, i32_w]
        rfl
      refine pure_ (i := 11) (N := some 17) (v := ?_) (a' := ?_) #[true, true, true, true, true, true, true, true, true, true, true, true, false] rfl rfl (by kernel_rfl) (fun _ _ _ h => h) (Or.inl ⟨by rfl, ?_⟩) ?_ ?_
      rotate_left
      · intro w'
        go_simp
        with_reducible rfl
      rotate_left
      · simp only [Act.put, List.setIfInBounds_toArray, List.set_cons_zero, List.set_cons_succ, i64_w, i32_w]
        rfl
      refine pure_ (i := 12) (N := some 18) (v := ?_) (a' := ?_) #[true, true, true, true, true, true, true, true, true, true, true, true, true] rfl rfl (by kernel_rfl) (fun _ _ _ h => h) (Or.inl ⟨by rfl, ?_⟩) ?_ ?_
      rotate_left
      · intro w'
        go_simp
        with_reducible rfl
      rotate_left
      · simp only [Act.put, List.setIfInBounds_toArray, List.set_cons_zero, List.set_cons_succ, i64_w, i32_w]
        rfl
      refine done_ (by kernel_rfl) ?_
      have dk2 : w12.cell? ⟨gc, 0, none⟩ = some (.int .i64 (kk : Int)) := blk_cell CK4.out 0
      go_wp2_with (go_at_call 24; refine (fire_Burning.calls kk A6 c6 l u1 0 _ (Kd.R_reads' HL4.out).2.2 (Kd.R_reads' HL4.out).2.1 (TabIn.below' HT.out HB4.out) HU1.out).mono ?_; rintro e w13 ⟨vu1, rfl, hq, hb⟩; have HU3 := Aside0.mk (Kd.R_lower hq (below_size HB4.out)); have HO5 := Aside0.mk (Kd.R_below HO4.out hb); have HB5 := Aside0.mk (below_step HB4.out hb); have dk3 := blk_cell (blk_below CK4.out hb) 0; clear hq hb HO4 HL4 CK4 HB4 dk2)
      go_wp2_with (go_at_call 24; refine (fire_Burning.calls kk Ao co (otherR kk x0 x2 l) u2 0 _ (Kd.R_reads' HO5.out).2.2 (Kd.R_reads' HO5.out).2.1 (TabIn.below' HT.out HB5.out) HU2.out).mono ?_; rintro e w14 ⟨vu2, rfl, hq, hb⟩; have HU4 := Aside0.mk (Kd.R_below HU3.out hb); have HU5 := Aside0.mk (Kd.R_lower hq (below_size HB5.out)); have HB6 := Aside0.mk (below_step HB5.out hb); clear hq hb HO5 HB5 HU3 dk3; obtain ⟨Au1, cu1, eu1⟩ := Kd.R_slice HU4.out; subst eu1; obtain ⟨Au2, cu2, eu2⟩ := Kd.R_slice HU5.out; subst eu2; have hlen : ((u1.length : Int) == (u2.length : Int)) = true := beq_iff_eq.2 (congrArg _ HUL.out))
      go_wp2_with (go_at_call 19; refine (wogglelaw06_lives.calls k true _ (TabIn.below' HT.out HB6.out) HLV.out).mono ?_; rintro e w15 ⟨rfl, hb⟩; have HB7 := Aside0.mk (below_step HB6.out hb); clear hb HB6)
      go_ret
      exact ⟨rfl, HB7.out⟩
    | succ kq =>
      have hi : i < l.length := by have := HI.out; omega
      have hd9 : decide ((i : Int) < (l.length : Int)) = true := decide_eq_true (by omega)
      go_wp2
      have hgo := HG.out
      have hie : rd_T42 l (i : Int) = l[i] := rd_mem hi
      obtain ⟨g1_, g2_, g3_, g4_, g5_⟩ := hgo.2.2.2 (rd_T42 l (i : Int)) (by rw [hie]; exact List.getElem_mem _)
      rw [Int.toNat_natCast] at g3_ g4_
      clear hgo
      have p1_ : (0 : Int) ≤ (i : Int) := by omega
      have p2_ : (i : Int) < (l.length : Int) := by omega
      obtain ⟨ad1, e1, hx1_0, hx1_1⟩ := at_T42 (Kd.R_reads' HL.out).2.2 (i : Int) p1_ p2_
      obtain ⟨m0, hm0⟩ := Int.eq_ofNat_of_zero_le g1_
      obtain ⟨m1, hm1⟩ := Int.eq_ofNat_of_zero_le g2_
      rw [show ((i : Int)).toNat = i from rfl] at hx1_0 hx1_1
      rw [hm0] at hx1_0 g3_
      rw [hm1] at hx1_1 g4_
      have HM0 := Aside0.mk hm0
      have HM1 := Aside0.mk hm1
      have hm0k : m0 < kk := by omega
      have hm1k : m1 < kk := by omega
      clear hm0 hm1 g1_ g2_ g3_ g4_ g5_ hie
      cases e1
      have hneC := Kd.R_ne HO.out CK.out (by decide)
      have hneB := Kd.R_ne HO.out BK.out (by decide)
      refine start_ (n := 19) (S := fun w' => w'.cell? (ad1.add (i * 2)) = some (.int .i64 (m0 : Int)) ∧ w'.cell? ⟨(ad1.add (i * 2)).block, (ad1.add (i * 2)).off + 1, none⟩ = some (.int .i64 (m1 : Int))) (ds := [16, 17]) #[false, false, false, false, false, false, false, false, false, false, false, false, false, false, false, false, false, false, false] (by kernel_rfl) rfl rfl ⟨hx1_0, hx1_1⟩ (fun hHeld => ?_)
      refine pure_ (i := 0) (N := some 37) (v := ?_) (a' := ?_) #[true, false, false, false, false, false, false, false, false, false, false, false, false, false, false, false, false, false, false] rfl rfl (by kernel_rfl) (fun _ _ _ h => h) (Or.inl ⟨by rfl, ?_⟩) ?_ ?_
      rotate_left
      · intro w'
        go_simp
        with_reducible rfl
      rotate_left
      · simp only [Act.put, List.setIfInBounds_toArray, List.set_cons_zero, List.set_cons_succ, i64_w, i32_w]
        rfl
      refine pure_ (i := 1) (N := some 38) (v := ?_) (a' := ?_) #[true, true, false, false, false, false, false, false, false, false, false, false, false, false, false, false, false, false, false] rfl rfl (by kernel_rfl) (fun _ _ _ h => h) (Or.inl ⟨by rfl, ?_⟩) ?_ ?_
      rotate_left
      · intro w'
        go_simp
        with_reducible rfl
      rotate_left
      · simp only [Act.put, List.setIfInBounds_toArray, List.set_cons_zero, List.set_cons_succ, i64_w, i32_w]
        rfl
      refine pure_ (i := 2) (N := some 39) (v := ?_) (a' := ?_) #[true, true, true, false, false, false, false, false, false, false, false, false, false, false, false, false, false, false, false] rfl rfl (by kernel_rfl) (fun _ _ _ h => h) (Or.inl ⟨by rfl, ?_⟩) ?_ ?_
      rotate_left
      · intro w'
        go_simp
        with_reducible rfl
      rotate_left
      · simp only [Act.put, List.setIfInBounds_toArray, List.set_cons_zero, List.set_cons_succ, i64_w, i32_w]
        rfl
      refine pure_ (i := 3) (N := some 40) (v := ?_) (a' := ?_) #[true, true, true, true, false, false, false, false, false, false, false, false, false, false, false, false, false, false, false] rfl rfl (by kernel_rfl) (fun _ _ _ h => h) (Or.inl ⟨by rfl, ?_⟩) ?_ ?_
      rotate_left
      · intro w'
        go_simp
        with_reducible rfl
      rotate_left
      · simp only [Act.put, List.setIfInBounds_toArray, List.set_cons_zero, List.set_cons_succ, i64_w, i32_w]
        rfl
      refine pure_ (i := 4) (N := some 41) (v := ?_) (a' := ?_) #[true, true, true, true, true, false, false, false, false, false, false, false, false, false, false, false, false, false, false] rfl rfl (by kernel_rfl) (fun _ _ _ h => h) (Or.inl ⟨by rfl, ?_⟩) ?_ ?_
      rotate_left
      · intro w'
        go_simp
        with_reducible rfl
      rotate_left
      · simp only [Act.put, List.setIfInBounds_toArray, List.set_cons_zero, List.set_cons_succ, i64_w, i32_w]
        rfl
      refine pure_ (i := 5) (N := some 42) (v := ?_) (a' := ?_) #[true, true, true, true, true, true, false, false, false, false, false, false, false, false, false, false, false, false, false] rfl rfl (by kernel_rfl) (fun _ _ _ h => h) (Or.inl ⟨by rfl, ?_⟩) ?_ ?_
      rotate_left
      · intro w'
        go_simp
        with_reducible rfl
      rotate_left
      · simp only [Act.put, List.setIfInBounds_toArray, List.set_cons_zero, List.set_cons_succ, i64_w, i32_w]
        rfl
      refine pure_ (i := 8) (N := some 45) (v := ?_) (a' := ?_) #[true, true, true, true, true, true, false, false, true, false, false, false, false, false, false, false, false, false, false] rfl rfl (by kernel_rfl) (fun _ _ _ h => h) (Or.inl ⟨by rfl, ?_⟩) ?_ ?_
      rotate_left
      · intro w'
        go_simp
        with_reducible rfl
      rotate_left
      · simp only [Act.put, List.setIfInBounds_toArray, List.set_cons_zero, List.set_cons_succ, i64_w, i32_w]
        rfl
      refine pure_ (i := 9) (N := some 46) (v := ?_) (a' := ?_) #[true, true, true, true, true, true, false, false, true, true, false, false, false, false, false, false, false, false, false] rfl rfl (by kernel_rfl) (fun _ _ _ h => h) (Or.inl ⟨by rfl, ?_⟩) ?_ ?_
      rotate_left
      · intro w'
        go_simp
        with_reducible rfl
      rotate_left
      · simp only [Act.put, List.setIfInBounds_toArray, List.set_cons_zero, List.set_cons_succ, i64_w, i32_w]
        rfl
      refine pure_ (i := 10) (N := some 47) (v := ?_) (a' := ?_) #[true, true, true, true, true, true, false, false, true, true, true, false, false, false, false, false, false, false, false] rfl rfl (by kernel_rfl) (fun _ _ _ h => h) (Or.inl ⟨by rfl, ?_⟩) ?_ ?_
      rotate_left
      · intro w'
        go_simp
        with_reducible rfl
      rotate_left
      · simp only [Act.put, List.setIfInBounds_toArray, List.set_cons_zero, List.set_cons_succ, i64_w, i32_w]
        rfl
      refine pure_ (i := 11) (N := some 48) (v := ?_) (a' := ?_) #[true, true, true, true, true, true, false, false, true, true, true, true, false, false, false, false, false, false, false] rfl rfl (by kernel_rfl) (fun _ _ _ h => h) (Or.inl ⟨by rfl, ?_⟩) ?_ ?_
      rotate_left
      · intro w'
        go_simp
        with_reducible rfl
      rotate_left
      · simp only [Act.put, List.setIfInBounds_toArray, List.set_cons_zero, List.set_cons_succ, i64_w, i32_w]
        rfl
      refine pure_ (i := 12) (N := some 49) (v := ?_) (a' := ?_) #[true, true, true, true, true, true, false, false, true, true, true, true, true, false, false, false, false, false, false] rfl rfl (by kernel_rfl) (fun _ _ _ h => h) (Or.inl ⟨by rfl, ?_⟩) ?_ ?_
      rotate_left
      · intro w'
        go_simp
        with_reducible rfl
      rotate_left
      · simp only [Act.put, List.setIfInBounds_toArray, List.set_cons_zero, List.set_cons_succ, i64_w, i32_w]
        rfl
      refine take_ (i := 6) (N := some 43) (v := ?_) (a' := ?_) #[true, true, true, true, true, true, true, false, true, true, true, true, true, false, false, false, false, false, false] rfl rfl (by kernel_rfl) (fun _ _ _ h => h) (Or.inl ⟨by rfl, ?_⟩) hHeld ?_ ?_
      rotate_left
      · rintro w' ⟨s0, s1⟩
        go_simp
        with_reducible rfl
      rotate_left
      · simp only [Act.put, List.setIfInBounds_toArray, List.set_cons_zero, List.set_cons_succ, i64_w, i32_w]
        rfl
      refine take_ (i := 13) (N := some 50) (v := ?_) (a' := ?_) #[true, true, true, true, true, true, true, false, true, true, true, true, true, true, false, false, false, false, false] rfl rfl (by kernel_rfl) (fun _ _ _ h => h) (Or.inl ⟨by rfl, ?_⟩) hHeld ?_ ?_
      rotate_left
      · rintro w' ⟨s0, s1⟩
        go_simp
        with_reducible rfl
      rotate_left
      · simp only [Act.put, List.setIfInBounds_toArray, List.set_cons_zero, List.set_cons_succ, i64_w, i32_w]
        rfl
      refine one_ (i := 7) (N := some 44) #[true, true, true, true, true, true, true, true, true, true, true, true, true, true, false, false, false, false, false] rfl rfl (by kernel_rfl) (by decide) (fun K hK => ?_)
      refine goesC_ Tryd.func25 (by kernel_rfl) rfl #[.int .i64 (m0 : Int), .pointer (some ⟨gb610, 0, none⟩), .pointer (some ⟨gc, 0, none⟩)] (by rfl) rfl rfl rfl (by first | rfl | (simp only [List.map_toArray, List.map_cons, List.map_nil]; rfl)) ?_
      refine (name_calls gb610 gc x0 x1 x2 kk m0 h0 h2 hkk hkk10 hm0k _ (blk_drew BK.out) (blk_drew CK.out)).mono ?_
      rintro e w1 ⟨rfl, ⟨nd, rfl⟩⟩
      refine ⟨_, rfl, ?_⟩
      refine hK.out _ _ hHeld (fun hHeld => ?_)
      clear hK K
      refine norm_ (a' := ?_) ?_ ?_
      rotate_left
      · show Act.put _ (some 44) _ = _
        simp only [Act.put, List.setIfInBounds_toArray, List.set_cons_zero, List.set_cons_succ, i64_w, i32_w]
        rfl
      refine one_ (i := 14) (N := some 51) #[true, true, true, true, true, true, true, true, true, true, true, true, true, true, true, false, false, false, false] rfl rfl (by kernel_rfl) (by decide) (fun K hK => ?_)
      refine goesC_ Tryd.func25 (by kernel_rfl) rfl #[.int .i64 (m1 : Int), .pointer (some ⟨gb610, 0, none⟩), .pointer (some ⟨gc, 0, none⟩)] (by rfl) rfl rfl rfl (by first | rfl | (simp only [List.map_toArray, List.map_cons, List.map_nil]; rfl)) ?_
      refine (name_calls gb610 gc x0 x1 x2 kk m1 h0 h2 hkk hkk10 hm1k _ (blk_drewN (blk_drew BK.out) nd) (blk_drewN (blk_drew CK.out) nd)).mono ?_
      rintro e w1 ⟨rfl, ⟨ne, rfl⟩⟩
      refine ⟨_, rfl, ?_⟩
      refine hK.out _ _ hHeld (fun hHeld => ?_)
      clear hK K
      refine norm_ (a' := ?_) ?_ ?_
      rotate_left
      · show Act.put _ (some 51) _ = _
        simp only [Act.put, List.setIfInBounds_toArray, List.set_cons_zero, List.set_cons_succ, i64_w, i32_w]
        rfl
      refine pure_ (i := 15) (N := some 52) (v := ?_) (a' := ?_) #[true, true, true, true, true, true, true, true, true, true, true, true, true, true, true, true, false, false, false] rfl rfl (by kernel_rfl) (fun _ _ _ h => h) (Or.inl ⟨by rfl, ?_⟩) ?_ ?_
      rotate_left
      · intro w'
        go_simp
        with_reducible rfl
      rotate_left
      · simp only [Act.put, List.setIfInBounds_toArray, List.set_cons_zero, List.set_cons_succ, i64_w, i32_w]
        rfl
      refine last_ (i := 16) (N := some 53) #[true, true, true, true, true, true, true, true, true, true, true, true, true, true, true, true, true, false, false] rfl rfl (by kernel_rfl) (by decide) (fun K hK => ?_)
      refine value_ (w1 := ?_) (v := ?_) (by rfl) rfl ?_ ?_
      rotate_left 2
      · go_simp
        constructor
        · rfl
        · rfl
      refine hK.out _ _ ?_
      clear hK K
      refine norm_ (a' := ?_) ?_ ?_
      rotate_left
      · show Act.put _ (some 53) _ = _
        simp only [Act.put, List.setIfInBounds_toArray, List.set_cons_zero, List.set_cons_succ, i64_w, i32_w]
        rfl
      refine last_ (i := 17) (N := some 54) #[true, true, true, true, true, true, true, true, true, true, true, true, true, true, true, true, true, true, false] rfl rfl (by kernel_rfl) (by decide) (fun K hK => ?_)
      refine Kd.R_append_step k42 (w0 := w) w.heap.size (by rfl) (.tmp 37) (.tmp 53) 22 42 (.agg #[(.int .i64 0), (.int .i64 0)]) 16 rfl Tryd.underlying22 info42 rfl (by decide) (by omega) u10 (otherR kk x0 x2 (l.take i)) (⟨((nameR kk x0 x2 m0 : Nat) : Int), ((nameR kk x0 x2 m1 : Nat) : Int)⟩ : S42) [.int .i64 ((nameR kk x0 x2 m0 : Nat) : Int), .int .i64 ((nameR kk x0 x2 m1 : Nat) : Int)] (fun _ => True) (fun _ => False) rfl rfl ?aP (fun _ hk => hk.elim) ?aF ?aO ?aB ?aS ?aL ?_
      (case aP => exact k42_mkM _ _ _ (⟨((nameR kk x0 x2 m0 : Nat) : Int), ((nameR kk x0 x2 m1 : Nat) : Int)⟩ : S42))
      (case aB => exact (by repeat (first | (with_reducible first | exact HB.out | apply below_alloc | apply pw_below_drewN | apply below_drew1) | exact HB.out)))
      (case aF => exact (fun _ _ => trivial))
      (case aO => exact (by (with_reducible repeat (first | apply Kd.R_alloc | apply Kd.R_drewN | apply Kd.R_drew)); exact HO.out))
      (case aS => exact (below_size (by repeat (first | (with_reducible first | exact HB.out | apply below_alloc | apply pw_below_drewN | apply below_drew1) | exact HB.out))))
      (case aL => rw [otherR_length]; have := List.length_take_le i l; omega)
      intro v301 w42 ho hb hg hat
      have n0_ := Aside0.mk (Kd.R_after (ok := (fun _ => True)) (by (with_reducible repeat (first | apply Kd.R_alloc | apply Kd.R_drewN | apply Kd.R_drew)); exact HL.out) hg hat)
      have n1_ := Aside0.mk (blk_grown (by (with_reducible repeat (first | apply blk_alloc | apply blk_drewN | apply blk_drew)); exact CK.out) hg hneC)
      have n2_ := Aside0.mk (blk_grown (by (with_reducible repeat (first | apply blk_alloc | apply blk_drewN | apply blk_drew)); exact BK.out) hg hneB)
      have n3_ := Aside0.mk hb
      have n4_ := Aside0.mk ho
      clear HO HL CK BK HB ho hb hg hat
      have HO := n4_
      have HL := n0_
      have CK := n1_
      have BK := n2_
      have HB := n3_
      clear n0_ n1_ n2_ n3_ n4_
      refine hK.out _ _ ?_
      clear hK K
      refine norm_ (a' := ?_) ?_ ?_
      rotate_left
      · show Act.put _ (some 54) _ = _
        simp only [Act.put, List.setIfInBounds_toArray, List.set_cons_zero, List.set_cons_succ, i64_w, i32_w]
        rfl
      refine pure_ (i := 18) (N := some 10) (v := ?_) (a' := ?_) #[true, true, true, true, true, true, true, true, true, true, true, true, true, true, true, true, true, true, true] rfl rfl (by kernel_rfl) (fun _ _ _ h => h) (Or.inl ⟨by rfl, ?_⟩) ?_ ?_
      rotate_left
      · intro w'
        go_simp
        with_reducible rfl
      rotate_left
      · simp only [Act.put, List.setIfInBounds_toArray, List.set_cons_zero, List.set_cons_succ, i64_w, i32_w]
        rfl
      refine done_ (by kernel_rfl) ?_
      have hw1 : wrap64 ((i : Int) + 1) = ((i + 1 : Nat) : Int) := by unfold wrap64; omega
      go_wp2
      go_roundg kq
      case measure => have := HI.out; omega
      case rel => exact ⟨i + 1, by first | rfl | rw [hw1], ⟨by have := HI.out; omega⟩, ⟨by rw [other_snoc hi]; rw [HM0.out, HM1.out]; exact HO.out⟩, HL, CK, BK, HB⟩
end Go.Proofs.YtbgpnkchbcgekaaDoor.Fi
