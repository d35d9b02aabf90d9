/- The calls of burner.hopeless. -/
import Derived.Test.YtbgpnkchbcgekaaDoorQFqHe
import Derived.Test.YtbgpnkchbcgekaaDoorQFqR1
import Derived.Test.YtbgpnkchbcgekaaDoorQFqP4
import Derived.Outline
namespace Go.Proofs.YtbgpnkchbcgekaaDoor.Fi
open Go.RowKit Go.Proofs.YtbgpnkchbcgekaaDoorW.PrintWords Go.Proofs.YtbgpnkchbcgekaaDoorW.PrintLast Go.Proofs.YtbgpnkchbcgekaaDoorW.PrintMore Wog
set_option linter.unusedVariables false
set_option linter.unusedSimpArgs false
/-- A burner in the world: the graph and its balls. -/
structure BI (w0 : World) (bb g base : Nat) (nx : List Nat) (W : World) : Prop where
  st : IsS105 w0 W g nx.length (toI nx)
  bel : Below w0.heap.size w0 W
  blk : ∃ vb, W.heap[bb]? = some (.cells #[.pointer (some ⟨g, 0, none⟩), vb] 92 (0, 0)) ∧ Kd.R (Kd.slice 81 (Kd.int .u16)) 94 W base (fun q => q ≠ g) vb ((ballsS nx).map toI)
  ne : bb ≠ g
section
variable {w0 W W1 : World} {bb g base : Nat} {nx : List Nat}
theorem BI.below (h : BI w0 bb g base nx W) (k : Below W.heap.size W W1) : BI w0 bb g base nx W1 := by
  obtain ⟨vb, h1, h2⟩ := h.blk
  exact ⟨h.st.below k, below_then h.bel h.bel.size k, ⟨vb, blk_below h1 k, Kd.R_below h2 k⟩, h.ne⟩
theorem BI.alloc (h : BI w0 bb g base nx W) (o : Obj) : BI w0 bb g base nx (W.alloc o) := h.below (below_alloc (Below.refl _ _) o)
theorem BI.drewN (h : BI w0 bb g base nx W) (m : Nat) : BI w0 bb g base nx (W.drewN m) := h.below (pw_below_drewN (Below.refl _ _) m)
theorem BI.drew (h : BI w0 bb g base nx W) : BI w0 bb g base nx W.drew := h.below (below_drew (Below.refl _ _))
theorem BI.after (h : BI w0 bb g base nx W) (k1 : IsS105 w0 W1 g nx.length (toI nx)) (k2 : Below w0.heap.size w0 W1) (k3 : KeepBut W W1 g none) : BI w0 bb g base nx W1 := by
  obtain ⟨vb, h1, h2⟩ := h.blk
  exact ⟨k1, k2, ⟨vb, k3.blk h1 h.ne (by simp), Kd.R_step h2 (fun q hq hl => k3.2 q hl hq (by simp))⟩, h.ne⟩
end
theorem popc_diff_lt {n a b i : Nat} (hi : i < n) (ha : a.testBit i = true) (hb : b.testBit i = true) : popc n (diff a b) < popc n a := by
  unfold popc
  refine countP_lt (j := i) (fun j _ h => ?_) (List.mem_range.2 hi) ?_ ha
  · rw [testBit_diff, Bool.and_eq_true] at h; exact h.1
  · rw [testBit_diff, hb]; simp
theorem balls_row {w : World} {base gv cv : Nat} {ok : Nat → Prop} {nx : List Nat} (h : Kd.R (Kd.slice 81 (Kd.int .u16)) 94 w base ok (.slice (some ⟨gv, 0, none⟩) nx.length cv) ((ballsS nx).map toI)) {i r : Nat} (hi : i < nx.length) (hr : r < nx.length) :
    ∃ ad2 c2, w.cell? ⟨gv, i, none⟩ = some (.slice (some ad2) nx.length c2) ∧ w.cell? (ad2.add r) = some (.int .u16 ((ball nx i r : Nat) : Int)) := by
  have hC := (Kd.R_reads' h).2.2
  obtain ⟨ad, c, h1, h2, h3, h4⟩ := Kd.C_get hC [] (i : Int) (by omega) (by simp [ballsS]; omega)
  injection h1 with h1
  subst h1
  have hrow : ((ballsS nx).map toI).getD (i : Int).toNat [] = toI (ballsRow nx i) := by
    rw [Int.toNat_natCast, List.getD_eq_getElem?_getD, List.getElem?_map]
    unfold ballsS
    rw [List.getElem?_map, List.getElem?_range hi]
    rfl
  rw [hrow] at h3
  obtain ⟨A2, c2, h5, h6, h7⟩ := h3
  have hl2 : (toI (ballsRow nx i)).length = nx.length := by simp [toI, ballsRow]
  have h8 := h4 0 (.slice A2 (toI (ballsRow nx i)).length c2) (by rw [h5]; rfl)
  rw [add_plain] at h8
  obtain ⟨ad2, c', h9, h10, h11, h12⟩ := Kd.C_get h7 0 (r : Int) (by omega) (by rw [hl2]; omega)
  subst h9
  have hrd : (toI (ballsRow nx i)).getD (r : Int).toNat 0 = ((ball nx i r : Nat) : Int) := by
    rw [Int.toNat_natCast, List.getD_eq_getElem?_getD]
    unfold toI ballsRow
    rw [List.getElem?_map, List.getElem?_map, List.getElem?_range hr]
    rfl
  rw [hrd] at h11
  have h13 := h12 0 (.int .u16 ((ball nx i r : Nat) : Int)) (by rw [show c' = _ from h11]; rfl)
  refine ⟨ad2, c2, ?_, ?_⟩
  · rw [← hl2]
    have e : (i : Int).toNat * (Kd.slice 81 (Kd.int .u16)).sz + 0 = i := by show (i : Int).toNat * 1 + 0 = i; simp
    rw [e] at h8
    exact h8
  · have e : (r : Int).toNat * (Kd.int .u16).sz + 0 = r := by show (r : Int).toNat * 1 + 0 = r; simp
    rw [e] at h13
    exact h13
theorem quiet_of_drawn {f : FuncId} {args : Array Value} {w : World} {n : Nat} {v : Value} (h : Calls Tryd.prog f args (w.drewN n) fun e w' => e = .returned v ∧ Drawn0 (w.drewN n) w') : Calls Tryd.prog f args (w.drewN n) fun e w'' => e = .returned v ∧ ∃ m, w'' = w.drewN m := by
  refine h.mono ?_
  rintro e w' ⟨he, ⟨nd, rfl⟩⟩
  exact ⟨he, n + nd, by simp⟩
theorem most_le (nx : List Nat) (r : Nat) : ∀ i, (List.range i).foldl (fun m v => max m (popc 16 (ball nx v r))) 0 ≤ 16 := by
  intro i
  induction i with
  | zero => simp
  | succ i ih =>
    rw [List.range_succ, List.foldl_append]
    have : popc 16 (ball nx i r) ≤ 16 := Nat.le_trans List.countP_le_length (by simp)
    simp only [List.foldl_cons, List.foldl_nil]
    omega
theorem room_le (nx : List Nat) : ∀ r, (List.range r).foldl (fun a r => a + mostS nx r) 0 ≤ 16 * r := by
  intro r
  induction r with
  | zero => simp
  | succ r ih =>
    rw [List.range_succ, List.foldl_append]
    have := most_le nx r nx.length
    simp only [List.foldl_cons, List.foldl_nil]
    unfold mostS
    unfold mostS at ih
    omega
set_option maxHeartbeats 2000000 in
set_option maxRecDepth 100000 in
theorem hop_any (nx : List Nat) (hn : nx.length ≤ 10) (hx : ∀ x ∈ nx, x < 2 ^ nx.length) (w0 : World) (bb g base b left : Nat) (hb : b < 2 ^ nx.length) (hl : left ≤ nx.length) (w : World) (hBI : BI w0 bb g base nx w) (hT : TabIn w0) :
    Calls Tryd.prog 65 #[.pointer (some ⟨bb, 0, none⟩), .int .u16 (b : Int), .int .i64 (left : Int)] w fun e w' => e = .returned (.bool (hopS nx b left)) ∧ BI w0 bb g base nx w' ∧ KeepBut w w' g none := by
  have HBI := Aside0.mk hBI
  have HTAB := Aside0.mk hT
  clear hT
  have hpow : (2 : Nat) ^ nx.length ≤ 2 ^ 10 := Nat.pow_le_pow_right (by omega) hn
  obtain ⟨vb, hblk, hvb⟩ := hBI.blk
  have hst := hBI.st
  obtain ⟨A1, c1, hgb, _⟩ := hst
  have hcb0 : w.cell? ⟨bb, 0, none⟩ = some (.pointer (some ⟨g, 0, none⟩)) := blk_cell hblk 0
  have hcg0 : w.cell? ⟨g, 0, none⟩ = some (.int .i64 (nx.length : Int)) := blk_cell hgb 0
  have hpos := Nat.two_pow_pos nx.length
  have h1 : IntKind.u16.wrap (2 ^ nx.length) = ((2 ^ nx.length : Nat) : Int) := by
    rw [← shl16 nx.length (by omega)]
    simp [shl, IntKind.bits, Nat.min_eq_left (show nx.length ≤ 16 by omega)]
  have h2 : IntKind.u16.wrap (((2 ^ nx.length : Nat) : Int) - 1) = ((2 ^ nx.length - 1 : Nat) : Int) := by
    obtain ⟨q, hq⟩ : ∃ q, q = 2 ^ nx.length := ⟨_, rfl⟩
    rw [← hq] at hpow hpos ⊢
    have : (0 : Int) ≤ (q : Int) - 1 ∧ (q : Int) - 1 < 65536 := by omega
    rw [show IntKind.u16.wrap ((q : Int) - 1) = (q : Int) - 1 from by simp [IntKind.wrap, IntKind.bits]; omega]
    omega
  have h2' : IntKind.u16.wrap ((2 : Int) ^ nx.length - 1) = ((2 ^ nx.length - 1 : Nat) : Int) := by
    rw [← h2]
    congr 1
  have h3 : Go.bits .andNot .u16 ((2 ^ nx.length - 1 : Nat) : Int) (b : Int) = ((restS nx b : Nat) : Int) := andNot16 _ _ (by omega) (by omega)
  have hrl := restS_lt nx b
  obtain ⟨rs, hrs⟩ : ∃ rs, rs = restS nx b := ⟨_, rfl⟩
  obtain ⟨full, hfull⟩ : ∃ full, full = 2 ^ nx.length - 1 := ⟨_, rfl⟩
  rw [← hfull] at h2 h2' h3
  rw [← hrs] at h3 hrl
  have HRL := Aside0.mk hrl
  have HPOW := Aside0.mk hpow
  have HRS := Aside0.mk hrs
  obtain ⟨P, hP⟩ : ∃ P, P = partsF nx nx.length rs := ⟨_, rfl⟩
  have HP := Aside0.mk hP
  clear hpow hpos hfull hrl hrs hP
  go_enter Tryd.func65, Tryd.ntmps65
  go_wp2
  go_loopg [7, 9] nx.length (fun kq v7 v9 wr => ∃ (p rest : Nat), v7 = .int .i64 (p : Int) ∧ v9 = .int .u16 (rest : Int) ∧ Aside0 (rest < 2 ^ nx.length) ∧ Aside0 (popc nx.length rest ≤ kq) ∧ Aside0 (p + partsF nx kq rest = P) ∧ Aside0 (p + kq ≤ nx.length) ∧ Aside0 (BI w0 bb g base nx wr) ∧ Aside0 (KeepBut w wr g none))
  case atStart => exact ⟨0, rs, rfl, rfl, HRL, ⟨by have := popc_zer nx.length rs; omega⟩, ⟨by rw [HP.out]; omega⟩, ⟨by omega⟩, HBI, ⟨KeepBut.refl _ _ _⟩⟩
  case round =>
    clear HBI hblk hvb hgb hcb0 hcg0
    obtain ⟨p, rest, rfl, rfl, HRL2, HPC, HPP, HPK, HBI, HK⟩ := hrel
    by_cases hrest : rest = 0
    · subst hrest
      obtain rfl : p = P := by
        have := HPP.out
        cases gk <;> simpa [partsF] using this
      have hPn : p ≤ nx.length := by have := HPK.out; omega
      clear HRL2 HPC HPP HPK
      go_wp2
      go_loopg [8, 39] left (fun kq v8 v39 wq => ∃ (r room : Nat), v8 = .int .i64 (room : Int) ∧ v39 = .int .i64 (r : Int) ∧ Aside0 (r + kq = left) ∧ Aside0 (room = (List.range r).foldl (fun a r => a + mostS nx r) 0) ∧ Aside0 (BI w0 bb g base nx wq) ∧ Aside0 (KeepBut w wq g none))
      case atStart => exact ⟨0, 0, rfl, rfl, ⟨by omega⟩, ⟨rfl⟩, HBI, HK⟩
      case round =>
        clear HBI HK
        obtain ⟨r, room, rfl, rfl, HRK, HRM, HBI, HK⟩ := hrel
        cases gk with
        | zero =>
          obtain rfl : r = left := by have := HRK.out; omega
          have hdec : decide ((r : Int) < (r : Int)) = false := by simp
          have hr16 := room_le nx r
          rw [← HRM.out] at hr16
          obtain ⟨vb, hblk, hvb⟩ := HBI.out.blk
          obtain ⟨A1, c1, hgb, _⟩ := HBI.out.st
          have hcb0 : wr.cell? ⟨bb, 0, none⟩ = some (.pointer (some ⟨g, 0, none⟩)) := blk_cell hblk 0
          have hcg0 : wr.cell? ⟨g, 0, none⟩ = some (.int .i64 (nx.length : Int)) := blk_cell hgb 0
          have hpl : popc 16 b ≤ 16 := Nat.le_trans List.countP_le_length (by simp)
          have HSZ := Aside0.mk (size_is b (lt16' hn hb))
          obtain ⟨pb, hpb⟩ : ∃ pb, pb = popc 16 b := ⟨_, rfl⟩
          rw [← hpb] at hpl HSZ
          obtain ⟨df, hdf⟩ : ∃ df : Int, df = (nx.length : Int) - (pb : Int) := ⟨_, rfl⟩
          have hhop : hopS nx b r = (decide (r < p) || decide ((room : Int) < df)) := by
            rw [hdf, hpb, HRM.out, HP.out, HRS.out]
            rfl
          have hwsub : IntKind.i64.wrap ((nx.length : Int) - (pb : Int)) = df := by rw [hdf]; exact IntWalk.i64_in _ (by omega)
          clear hblk hvb hgb hdf hpl hpb hr16
          by_cases hgt : r < p
          · have hd1 : decide ((p : Int) > (r : Int)) = true := by simp; omega
            have hd2 : decide ((r : Int) < (p : Int)) = true := by simp; omega
            have HOP : Aside0 (hopS nx b r = true) := ⟨by rw [hhop]; simp [hgt]⟩
            clear hhop
            go_wp2
            go_quiet (first | (go_at_call 56; exact quiet_of_drawn (fire_set_size.calls _ _ _ HSZ.out)))
            go_wp2
            go_ret
            exact ⟨by rw [HOP.out]; first | rfl | (rw [htt]; rfl), HBI.out.drewN _, keep_drewN HK.out _⟩
          · have hd1 : decide ((p : Int) > (r : Int)) = false := by simp; omega
            have hd2 : decide ((r : Int) < (p : Int)) = false := by simp; omega
            obtain ⟨tt, htt⟩ : ∃ tt, tt = decide ((room : Int) < df) := ⟨_, rfl⟩
            have HOP : Aside0 (hopS nx b r = tt) := ⟨by rw [hhop, htt]; simp [hgt]⟩
            clear hhop
            go_wp2
            go_quiet (first | (go_at_call 56; exact quiet_of_drawn (fire_set_size.calls _ _ _ HSZ.out)))
            go_wp2
            go_ret
            exact ⟨by rw [HOP.out]; first | rfl | (rw [htt]; rfl), HBI.out.drewN _, keep_drewN HK.out _⟩
        | succ q2 =>
          have hrl : r < left := by have := HRK.out; omega
          have hdec : decide ((r : Int) < (left : Int)) = true := by simp; omega
          obtain ⟨vb, hblk, hvb⟩ := HBI.out.blk
          have hlen : ((ballsS nx).map toI).length = nx.length := by simp [ballsS]
          obtain ⟨gv, cv, rfl, _, _, _⟩ := Kd.R_form hvb (by rw [hlen]; omega)
          rw [hlen] at hblk hvb
          have hcb1 : wr.cell? ⟨bb, 1, none⟩ = some (.slice (some ⟨gv, 0, none⟩) nx.length cv) := blk_cell hblk 1
          have HVB := Aside0.mk hvb
          clear hblk hvb
          go_wp2
          go_loopg [11, 47] nx.length (fun kq v11 v47 wz => ∃ (i m : Nat), v11 = .int .i64 (m : Int) ∧ v47 = .int .i64 (i : Int) ∧ Aside0 (i + kq = nx.length) ∧ Aside0 (m = (List.range i).foldl (fun m v => max m (popc 16 (ball nx v r))) 0) ∧ Aside0 (BI w0 bb g base nx wz) ∧ Aside0 (KeepBut w wz g none) ∧ Aside0 (Kd.R (Kd.slice 81 (Kd.int .u16)) 94 wz base (fun q => q ≠ g) (.slice (some ⟨gv, 0, none⟩) nx.length cv) ((ballsS nx).map toI)))
          case atStart => exact ⟨0, 0, rfl, rfl, ⟨by omega⟩, ⟨rfl⟩, HBI, HK, HVB⟩
          case round =>
            clear HBI HK HVB hcb1
            obtain ⟨i, m, rfl, rfl, HIK, HMM, HBI, HK, HVB⟩ := hrel
            cases gk with
            | zero =>
              obtain rfl : i = nx.length := by have := HIK.out; omega
              have hdec2 : decide ((nx.length : Int) < (nx.length : Int)) = false := by simp
              have hm16 := most_le nx r nx.length
              have hr16 := room_le nx r
              rw [← HMM.out] at hm16
              rw [← HRM.out] at hr16
              have hwrm : IntKind.i64.wrap ((room : Int) + (m : Int)) = ((room + m : Nat) : Int) := by rw [IntWalk.i64_in _ (by omega)]; simp
              have hwr1 : IntKind.i64.wrap ((r : Int) + 1) = ((r + 1 : Nat) : Int) := by rw [IntWalk.i64_in _ (by omega)]; simp
              have hsum : room + m = (List.range (r + 1)).foldl (fun a r => a + mostS nx r) 0 := by
                rw [List.range_succ, List.foldl_append, ← HRM.out, HMM.out]; rfl
              have HSUM := Aside0.mk hsum
              clear hsum hm16 hr16
              go_wp2
              go_roundg q2
              · exact ⟨r + 1, room + m, by first | rfl | rw [hwrm] | simp [hwrm], by first | rfl | rw [hwr1], ⟨by have := HRK.out; omega⟩, HSUM, HBI, HK⟩
              · exact Nat.lt_succ_self _
            | succ q3 =>
              have hin : i < nx.length := by have := HIK.out; omega
              have hdec2 : decide ((i : Int) < (nx.length : Int)) = true := by simp; omega
              obtain ⟨ad2, c2, hx1, hx2⟩ := balls_row HVB.out hin (show r < nx.length by omega)
              have hbl := ball_lt hx hin r
              have HSZ := Aside0.mk (size_is (ball nx i r) (lt16' hn hbl))
              have hwi : IntKind.i64.wrap ((i : Int) + 1) = ((i + 1 : Nat) : Int) := by rw [IntWalk.i64_in _ (by omega)]; simp
              have hrn : r < nx.length := by omega
              have hMM : max m (popc 16 (ball nx i r)) = (List.range (i + 1)).foldl (fun m v => max m (popc 16 (ball nx v r))) 0 := by
                rw [List.range_succ, List.foldl_append, ← HMM.out]; rfl
              have HMM' := Aside0.mk hMM
              obtain ⟨bl, hbl2⟩ : ∃ bl, bl = ball nx i r := ⟨_, rfl⟩
              obtain ⟨pc, hpc⟩ : ∃ pc, pc = popc 16 bl := ⟨_, rfl⟩
              rw [← hbl2] at hx2 HSZ HMM'
              rw [← hpc] at HSZ HMM'
              have HBL := Aside0.mk hbl2
              clear hbl hbl2 hpc hMM
              go_wp2_with (first | (go_at_call 56; refine (fire_set_size.calls _ _ _ HSZ.out).mono ?_; rintro e w1 ⟨rfl, ⟨nd, rfl⟩⟩))
              all_goals go_roundg q3
              all_goals first
                | exact Nat.lt_succ_self _
                | exact ⟨i + 1, m, rfl, by first | rfl | rw [hwi], ⟨by have := HIK.out; omega⟩, ⟨by rw [← HMM'.out]; omega⟩, ⟨HBI.out.drewN _⟩, ⟨keep_drewN HK.out _⟩, ⟨Kd.R_drewN HVB.out _⟩⟩
                | exact ⟨i + 1, pc, rfl, by first | rfl | rw [hwi], ⟨by have := HIK.out; omega⟩, ⟨by rw [← HMM'.out]; omega⟩, ⟨HBI.out.drewN _⟩, ⟨keep_drewN HK.out _⟩, ⟨Kd.R_drewN HVB.out _⟩⟩
    · cases gk with
      | zero =>
        exfalso
        have h4 := low_is hrest (Nat.lt_of_lt_of_le HRL2.out HPOW.out)
        have h5 : 0 < popc nx.length rest := by
          unfold popc
          exact List.countP_pos_iff.2 ⟨low rest, List.mem_range.2 (lt_of_bit HRL2.out h4.2), h4.2⟩
        have := HPC.out
        omega
      | succ q1 =>
        have h4 := low_is hrest (Nat.lt_of_lt_of_le HRL2.out HPOW.out)
        have h5 := lt_of_bit HRL2.out h4.2
        obtain ⟨kr, hkr⟩ := (reach_ev nx nx.length hn hx (low rest) 0 h5 (Nat.two_pow_pos _) (by simp)).rounds
        have HKR := Aside0.mk hkr
        have hr6 := reach_is hx (D := 0) h5 (by simp)
        have hr7 := reach_self hx (D := 0) h5 (by simp)
        have hr8 := popc_diff_lt h5 h4.2 hr7
        have hA : Go.bits .andNot .u16 (rest : Int) ((reachS nx 0 (low rest) : Nat) : Int) = ((diff rest (reachS nx 0 (low rest)) : Nat) : Int) := andNot16 _ _ (lt16' hn HRL2.out) (lt16' hn hr6.2)
        have hlt9 := diff_le _ (reachS nx 0 (low rest)) _ HRL2.out
        have hPP := HPP.out
        rw [partsF, if_neg hrest] at hPP
        obtain ⟨rest', hre⟩ : ∃ r', r' = diff rest (reachS nx 0 (low rest)) := ⟨_, rfl⟩
        rw [← hre] at hA hr8 hlt9 hPP
        obtain ⟨rr, hrr⟩ : ∃ rr, rr = reachS nx 0 (low rest) := ⟨_, rfl⟩
        rw [← hrr] at hA HKR
        have HR8 := Aside0.mk hr8
        have HLT9 := Aside0.mk hlt9
        have HPP' := Aside0.mk hPP
        have hne0 : ((rest : Int) != 0) = true := by simp; omega
        have hrest10 : rest < 1024 := Nat.lt_of_lt_of_le HRL2.out HPOW.out
        have hwp : IntKind.i64.wrap ((p : Int) + 1) = ((p + 1 : Nat) : Int) := by have := HPK.out; rw [IntWalk.i64_in _ (by omega)]; simp
        obtain ⟨vb, hblk, hvb⟩ := HBI.out.blk
        clear hkr hr6 hr7 hr8 hlt9 hPP hre hrr HPP h4 h5 hvb
        go_wp2
        refine start_ (n := 10) (S := fun w' => w'.cell? ⟨bb, 0, none⟩ = some (.pointer (some ⟨g, 0, none⟩))) (ds := []) #[false, false, false, false, false, false, false, false, false, false] (by kernel_rfl) rfl rfl (blk_cell (blk_drew hblk) 0) (fun hHeld => ?_)
        refine pure_ (i := 0) (N := some 29) (v := ?_) (a' := ?_) #[true, false, false, false, false, false, false, false, false, false] rfl rfl (by kernel_rfl) (fun _ _ _ h => h) (Or.inl ⟨by rfl, ?_⟩) ?_ ?_
        rotate_left
        · intro w'
          go_simp
          with_reducible rfl
        rotate_left
        · simp only [Act.put, List.setIfInBounds_toArray, List.set_cons_zero, List.set_cons_succ, i64_w, i32_w]
          rfl
        refine pure_ (i := 1) (N := some 30) (v := ?_) (a' := ?_) #[true, true, false, false, false, false, false, false, false, false] rfl rfl (by kernel_rfl) (fun _ _ _ h => h) (Or.inl ⟨by rfl, ?_⟩) ?_ ?_
        rotate_left
        · intro w'
          go_simp
          with_reducible rfl
        rotate_left
        · simp only [Act.put, List.setIfInBounds_toArray, List.set_cons_zero, List.set_cons_succ, i64_w, i32_w]
          rfl
        refine pure_ (i := 2) (N := some 31) (v := ?_) (a' := ?_) #[true, true, true, false, false, false, false, false, false, false] rfl rfl (by kernel_rfl) (fun _ _ _ h => h) (Or.inl ⟨by rfl, ?_⟩) ?_ ?_
        rotate_left
        · intro w'
          go_simp
          with_reducible rfl
        rotate_left
        · simp only [Act.put, List.setIfInBounds_toArray, List.set_cons_zero, List.set_cons_succ, i64_w, i32_w]
          rfl
        refine pure_ (i := 3) (N := some 32) (v := ?_) (a' := ?_) #[true, true, true, true, false, false, false, false, false, false] rfl rfl (by kernel_rfl) (fun _ _ _ h => h) (Or.inl ⟨by rfl, ?_⟩) ?_ ?_
        rotate_left
        · intro w'
          go_simp
          with_reducible rfl
        rotate_left
        · simp only [Act.put, List.setIfInBounds_toArray, List.set_cons_zero, List.set_cons_succ, i64_w, i32_w]
          rfl
        refine take_ (i := 4) (N := some 33) (v := ?_) (a' := ?_) #[true, true, true, true, true, false, false, false, false, false] rfl rfl (by kernel_rfl) (fun _ _ _ h => h) (Or.inl ⟨by rfl, ?_⟩) hHeld ?_ ?_
        rotate_left
        · rintro w' s0
          go_simp
          with_reducible rfl
        rotate_left
        · simp only [Act.put, List.setIfInBounds_toArray, List.set_cons_zero, List.set_cons_succ, i64_w, i32_w]
          rfl
        refine pure_ (i := 5) (N := some 34) (v := ?_) (a' := ?_) #[true, true, true, true, true, true, false, false, false, false] rfl rfl (by kernel_rfl) (fun _ _ _ h => h) (Or.inl ⟨by rfl, ?_⟩) ?_ ?_
        rotate_left
        · intro w'
          go_simp
          with_reducible rfl
        rotate_left
        · simp only [Act.put, List.setIfInBounds_toArray, List.set_cons_zero, List.set_cons_succ, i64_w, i32_w]
          rfl
        refine one_ (i := 6) (N := some 35) #[true, true, true, true, true, true, true, false, false, false] rfl rfl (by kernel_rfl) (by decide) (fun K hK => ?_)
        refine goes_ Tryd.func69 (by kernel_rfl) rfl #[.int .u16 (rest : Int)] (by rfl) rfl rfl (by (try simp only [List.map_toArray, List.map_cons, List.map_nil]); first | done | rfl) ?_
        refine (tz_calls rest hrest hrest10 _ (HTAB.out.below HBI.out.drew.bel HTAB.out.lt)).mono ?_
        rintro e w1 ⟨rfl, ⟨nd, rfl⟩⟩
        refine ⟨_, rfl, ?_⟩
        refine hK.out _ _ (blk_cell (blk_drewN (blk_drew hblk) _) 0) (fun hHeld => ?_)
        clear hK K
        refine norm_ (a' := ?_) ?_ ?_
        rotate_left
        · show Act.put _ (some 35) _ = _
          simp only [Act.put, List.setIfInBounds_toArray, List.set_cons_zero, List.set_cons_succ, i64_w, i32_w]
          rfl
        refine one_ (i := 7) (N := some 36) #[true, true, true, true, true, true, true, true, false, false] rfl rfl (by kernel_rfl) (by decide) (fun K hK => ?_)
        refine goes_ Tryd.func55 (by kernel_rfl) rfl #[.pointer (some ⟨g, 0, none⟩), .int .i64 ((low rest : Nat) : Int), .int .u16 0] (by rfl) rfl rfl (by (try simp only [List.map_toArray, List.map_cons, List.map_nil]); first | done | rfl) ?_
        refine (fire_graph_reach.calls kr g _ _ _ _ _ _ w0 _ (HBI.out.drew.drewN nd).st (HBI.out.drew.drewN nd).bel HKR.out).mono ?_
        rintro e w2 ⟨rfl, j1, j2, j3⟩
        refine ⟨_, rfl, ?_⟩
        refine hK.out _ _ (blk_cell (j3.blk (blk_drewN (blk_drew hblk) nd) HBI.out.ne (by simp)) 0) (fun hHeld => ?_)
        clear hK K
        refine norm_ (a' := ?_) ?_ ?_
        rotate_left
        · show Act.put _ (some 36) _ = _
          simp only [Act.put, List.setIfInBounds_toArray, List.set_cons_zero, List.set_cons_succ, i64_w, i32_w]
          rfl
        refine pure_ (i := 8) (N := some 37) (v := ?_) (a' := ?_) #[true, true, true, true, true, true, true, true, true, false] rfl rfl (by kernel_rfl) (fun _ _ _ h => h) (Or.inl ⟨by rfl, ?_⟩) ?_ ?_
        rotate_left
        · intro w'
          go_simp
          with_reducible rfl
        rotate_left
        · simp only [Act.put, List.setIfInBounds_toArray, List.set_cons_zero, List.set_cons_succ, i64_w, i32_w]
          rfl
        refine pure_ (i := 9) (N := some 9) (v := ?_) (a' := ?_) #[true, true, true, true, true, true, true, true, true, true] rfl rfl (by kernel_rfl) (fun _ _ _ h => h) (Or.inl ⟨by rfl, ?_⟩) ?_ ?_
        rotate_left
        · intro w'
          go_simp
          with_reducible rfl
        rotate_left
        · simp only [Act.put, List.setIfInBounds_toArray, List.set_cons_zero, List.set_cons_succ, i64_w, i32_w]
          rfl
        refine done_ (by kernel_rfl) ?_
        go_wp2
        go_roundg q1
        · exact ⟨p + 1, rest', by first | rfl | rw [hwp], rfl, HLT9, ⟨by have := HPC.out; have := HR8.out; omega⟩, ⟨by have := HPP'.out; omega⟩, ⟨by have := HPK.out; omega⟩, ⟨(HBI.out.drew.drewN nd).after j1 j2 j3⟩, ⟨HK.out.trans ((keep_drewN (keep_drew (KeepBut.refl wr g none)) nd).trans j3 (.inl rfl)) (.inl rfl)⟩⟩
        · exact Nat.lt_succ_self _
end Go.Proofs.YtbgpnkchbcgekaaDoor.Fi
