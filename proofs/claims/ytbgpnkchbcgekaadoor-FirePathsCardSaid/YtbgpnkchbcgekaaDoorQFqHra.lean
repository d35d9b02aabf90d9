/- The calls of fire.Radius. -/
import Derived.Test.YtbgpnkchbcgekaaDoorQFqHbu
import Derived.Test.YtbgpnkchbcgekaaDoorQFqHd
import Derived.Deep.RegionHeld3
import Derived.Outline
import Derived.Deep.LoopGhost
namespace Go.Proofs.YtbgpnkchbcgekaaDoor.Fi
open Go.RowKit Go.Proofs.YtbgpnkchbcgekaaDoorW.PrintWords Go.Proofs.YtbgpnkchbcgekaaDoorW.PrintLast Go.Proofs.YtbgpnkchbcgekaaDoorW.PrintMore Wog
set_option linter.unusedVariables false
set_option linter.unusedSimpArgs false
/-- The first radius from j on whose ball is all. -/
def eccF (nx : List Nat) (v j : Nat) : Option Nat := ((List.range nx.length).drop j).find? (fun r => decide (popc 16 (ball nx v r) = nx.length))
def radStep (nx : List Nat) (b v : Nat) : Nat := match eccF nx v 0 with | some r => min b r | none => b
def radS (nx : List Nat) : Nat := (List.range nx.length).foldl (radStep nx) nx.length
def fire_Radius.f (n : Int) (l : List S42) : Option (Int × Int) := if GoodG n l then (if popc 16 (reachS (nearS n.toNat l) 0 0) < (nearS n.toNat l).length then some (0, 5) else some ((radS (nearS n.toNat l) : Nat), 0)) else some (0, 1)
theorem eccF_at {nx : List Nat} {v j : Nat} (h : j < nx.length) : eccF nx v j = if popc 16 (ball nx v j) = nx.length then some j else eccF nx v (j + 1) := by
  unfold eccF
  rw [drop_range h, List.find?_cons]
  by_cases e : popc 16 (ball nx v j) = nx.length
  · simp [e]
  · simp [e]
theorem balls_rows {w : World} {base gv cv : Nat} {ok : Nat → Prop} {nx : List Nat} (h : Kd.R (Kd.slice 81 (Kd.int .u16)) 94 w base ok (.slice (some ⟨gv, 0, none⟩) nx.length cv) ((ballsS nx).map toI)) {i : Nat} (hi : i < nx.length) :
    ∃ ad2 c2, w.cell? ⟨gv, i, none⟩ = some (.slice (some ad2) nx.length c2) ∧ ∀ r, r < nx.length → w.cell? (ad2.add r) = some (.int .u16 ((ball nx i r : Nat) : Int)) := by
  obtain ⟨ad2, c2, h1, _⟩ := balls_row h hi (r := 0) (by omega)
  refine ⟨ad2, c2, h1, fun r hr => ?_⟩
  obtain ⟨ad3, c3, h3, h4⟩ := balls_row h hi hr
  rw [h1] at h3
  injection h3 with h3
  injection h3 with h3
  injection h3 with h3
  subst h3
  exact h4
theorem balls_form {nx : List Nat} (h0 : 0 < nx.length) {w : World} {base : Nat} {ok : Nat → Prop} {v : Value} (h : Kd.S (Kd.slice 81 (Kd.int .u16)) 94 w base ok v ((ballsS nx).map toI)) : ∃ g c, v = .slice (some ⟨g, 0, none⟩) nx.length c := by
  have hbl : ((ballsS nx).map toI).length = nx.length := by simp [ballsS]
  obtain ⟨g, c, hv, _⟩ := Kd.R_form (Kd.S_R h) (by rw [hbl]; exact h0)
  rw [hbl] at hv
  exact ⟨g, c, hv⟩
set_option maxHeartbeats 2000000 in
set_option maxRecDepth 100000 in
theorem fire_Radius.calls (n : Int) (A1 : Option Addr) (c1 : Nat) (l : List S42) (r1 : Int) (r2 : Int) (w : World) (hr1 : Kd.C k42 w A1 l.length l) (hc1 : l.length ≤ c1) (h : fire_Radius.f n l = some (r1, r2)) :
    Calls Tryd.prog 34 #[.int .i64 n, .slice A1 l.length c1] w fun e w' => e = .returned (.tuple #[.int .i64 r1, .int .i64 r2]) ∧ Below w.heap.size w w' := by
  have HR1 := Aside0.mk hr1
  clear hr1
  unfold fire_Radius.f at h
  by_cases hg : GoodG n l
  · rw [if_pos hg] at h
    obtain ⟨nx, hnx⟩ : ∃ nx, nx = nearS n.toNat l := ⟨_, rfl⟩
    have hnl : nx.length = n.toNat := by rw [hnx, nearS_length]
    have hx : ∀ x ∈ nx, x < 2 ^ nx.length := by rw [hnl, hnx]; exact nearS_lt hg.2.2.2
    have hn10 : nx.length ≤ 10 := by rw [hnl]; have := hg.2.1; omega
    have hn0 : 0 < nx.length := by rw [hnl]; have := hg.1; omega
    have hn1 : n = (nx.length : Int) := by rw [hnl]; have := hg.1; omega
    have HRD := Aside0.mk (read_yes n A1 c1 l w HR1.out hc1 hg)
    rw [← hnx] at HRD h
    rw [hn1] at HRD ⊢
    obtain ⟨kb, hkb⟩ := (balls_ev nx nx.length rfl hn10 hx).rounds
    have HKB := Aside0.mk hkb
    have hR := reach_ev nx (nx.length : Int) hn10 hx 0 0 hn0 (Nat.two_pow_pos _) (by simp)
    obtain ⟨kr, hkr⟩ := hR.rounds
    have HKR : Aside0 (fire_graph_reach.f kr (nx.length : Int) (toI nx) 0 0 = some (((reachS nx 0 0 : Nat) : Int), (nx.length : Int))) := ⟨by simpa using hkr⟩
    have hR16 := lt16' hn10 (reach_is hx hn0 (D := 0) (by simp)).2
    obtain ⟨R, hRR⟩ : ∃ R, R = reachS nx 0 0 := ⟨_, rfl⟩
    rw [← hRR] at HKR hR16 h
    have HSZ := Aside0.mk (size_is R hR16)
    obtain ⟨p, hp⟩ : ∃ p, p = popc 16 R := ⟨_, rfl⟩
    rw [← hp] at HSZ h
    have HX := Aside0.mk hx
    have hbl : ((ballsS nx).map toI).length = nx.length := by simp [ballsS]
    clear hkb hx hg hnx hn1 hnl hkr hR hRR hp hR16
    by_cases hq : p < nx.length
    · rw [if_pos hq] at h
      injection h with h
      injection h with e1 e2
      subst e1 e2
      have hdec : decide (p < nx.length) = true := by simp; omega
      clear hq
      go_enter Tryd.func34, Tryd.ntmps34
      go_wp2
      go_step3
      go_wp2_with (first | (go_at_call 49; refine HRD.out.mono ?_; rintro e w1 ⟨w0, g, rfl, k1, k2, k3⟩; have K1 := Aside0.mk k1; have K2 := Aside0.mk k2; have K3 := Aside0.mk k3; clear k1 k2 k3) | (go_at_call 55; refine (fire_graph_reach.calls kr g _ _ _ _ _ _ w0 _ K1.out K2.out HKR.out).mono ?_; rintro e w3 ⟨rfl, i1, i2, i3⟩; have I1 := Aside0.mk i1; have I2 := Aside0.mk i2; clear i1 i2 i3) | (go_at_call 56; refine (fire_set_size.calls _ _ _ HSZ.out).mono ?_; rintro e w3 ⟨rfl, ⟨nd3, rfl⟩⟩))
      try rw [Exit.noGoto_ret]
      go_ret2
      exact ⟨rfl, below_then K3.out K3.out.size (pw_below_drewN I2.out _)⟩
    · rw [if_neg hq] at h
      injection h with h
      injection h with e1 e2
      subst e1 e2
      have hdec : decide (p < nx.length) = false := by simp; omega
      obtain ⟨rs, hrs⟩ : ∃ rs, rs = radS nx := ⟨_, rfl⟩
      have HRS := Aside0.mk hrs
      rw [← hrs]
      clear hq hrs
      go_enter Tryd.func34, Tryd.ntmps34
      go_wp2
      go_step3
      go_wp2_with (first | (go_at_call 49; refine HRD.out.mono ?_; rintro e w1 ⟨w0, g, rfl, k1, k2, k3⟩; have K1 := Aside0.mk k1; have K2 := Aside0.mk k2; have K3 := Aside0.mk k3; clear k1 k2 k3) | (go_at_call 55; refine (fire_graph_reach.calls kr g _ _ _ _ _ _ w0 _ K1.out K2.out HKR.out).mono ?_; rintro e w3 ⟨rfl, i1, i2, i3⟩; have I1 := Aside0.mk i1; have I2 := Aside0.mk i2; clear i1 i2 i3) | (go_at_call 56; refine (fire_set_size.calls _ _ _ HSZ.out).mono ?_; rintro e w3 ⟨rfl, ⟨nd3, rfl⟩⟩))
      go_step3
      go_wp2_with (first | (go_at_call 50; refine (fire_graph_balls.calls kb g _ _ _ _ w0 _ (IsS105.drewN I1.out nd3) (pw_below_drewN I2.out nd3) HKB.out).mono ?_; rintro e w4 ⟨v2, rfl, j1, j2, j3, j4⟩; obtain ⟨g7, cap7, hv2⟩ := balls_form hn0 j1; subst hv2; have J1 := Aside0.mk (Kd.S_R j1); have J3 := Aside0.mk j3; clear j1 j2 j3 j4))
      go_loopg [8, 32] nx.length (fun kq v8 v32 wr => ∃ b v nd : Nat, v8 = .int .i64 (b : Int) ∧ v32 = .int .i64 (v : Int) ∧ Aside0 (v + kq = nx.length) ∧ Aside0 (b ≤ 10) ∧ Aside0 (((List.range nx.length).drop v).foldl (radStep nx) b = rs) ∧ wr = w4.drewN nd)
      case atStart => exact ⟨nx.length, 0, 0, rfl, rfl, ⟨by omega⟩, ⟨hn10⟩, ⟨by rw [HRS.out]; rfl⟩, by first | rfl | simp⟩
      case round =>
        obtain ⟨b, v, nd, rfl, rfl, HV, HB, HF, rfl⟩ := hrel
        cases gk with
        | zero =>
          obtain rfl : v = nx.length := by have := HV.out; omega
          have hdec2 : decide ((nx.length : Int) < (nx.length : Int)) = false := by simp
          have hbr : b = rs := by have := HF.out; rw [List.drop_eq_nil_of_le (by simp)] at this; exact this
          go_wp2
          try rw [Exit.noGoto_ret]
          go_ret2
          exact ⟨by first | rfl | (rw [hbr]; rfl), below_then K3.out K3.out.size (pw_below_drewN J3.out _)⟩
        | succ q1 =>
          have hv : v < nx.length := by have := HV.out; omega
          have hdec2 : decide ((v : Int) < (nx.length : Int)) = true := by simp; omega
          have hd0 : decide ((0 : Int) ≤ (v : Int)) = true := by simp
          obtain ⟨ad2, c2, hc2, hcells⟩ := balls_rows J1.out hv
          have HCELLS := Aside0.mk hcells
          have hF := HF.out
          rw [drop_range hv, List.foldl_cons] at hF
          have HF2 := Aside0.mk hF
          have hwv : IntKind.i64.wrap ((v : Int) + 1) = ((v + 1 : Nat) : Int) := by rw [IntWalk.i64_in _ (by omega)]; simp
          clear hcells hF
          go_wp2
          go_loopg [8, 38] nx.length (fun kq v8 v38 wr => ∃ r nd : Nat, v8 = .int .i64 (b : Int) ∧ v38 = .int .i64 (r : Int) ∧ Aside0 (r + kq = nx.length) ∧ Aside0 (eccF nx v r = eccF nx v 0) ∧ wr = w4.drewN nd)
          case atStart => exact ⟨0, nd, rfl, rfl, ⟨by omega⟩, ⟨rfl⟩, rfl⟩
          case round =>
            obtain ⟨r, nd2, rfl, rfl, HJ, HE, rfl⟩ := hrel
            cases gk with
            | zero =>
              obtain rfl : r = nx.length := by have := HJ.out; omega
              have hdec3 : decide ((nx.length : Int) < (nx.length : Int)) = false := by simp
              have hst : radStep nx b v = b := by
                have h0 : eccF nx v nx.length = none := by unfold eccF; rw [List.drop_eq_nil_of_le (by simp)]; rfl
                unfold radStep
                rw [← HE.out, h0]
              rw [hst] at HF2
              go_wp2
              go_roundg q1
              · exact ⟨b, v + 1, nd2, rfl, by first | rfl | rw [hwv], ⟨by have := HV.out; omega⟩, HB, HF2, rfl⟩
              · exact Nat.lt_succ_self _
            | succ q2 =>
              have hr : r < nx.length := by have := HJ.out; omega
              have hdec3 : decide ((r : Int) < (nx.length : Int)) = true := by simp; omega
              have hd1 : decide ((0 : Int) ≤ (r : Int)) = true := by simp
              have hcell := HCELLS.out r hr
              obtain ⟨B, hBB⟩ : ∃ B, B = ball nx v r := ⟨_, rfl⟩
              have hB16 : B < 65536 := by rw [hBB]; exact lt16' hn10 (ball_lt HX.out hv r)
              have HE2 := Aside0.mk (eccF_at (v := v) hr)
              rw [← hBB] at hcell HE2
              have HSB := Aside0.mk (size_is B hB16)
              obtain ⟨pb, hpb⟩ : ∃ pb, pb = popc 16 B := ⟨_, rfl⟩
              rw [← hpb] at HSB HE2
              have hwr : IntKind.i64.wrap ((r : Int) + 1) = ((r + 1 : Nat) : Int) := by rw [IntWalk.i64_in _ (by omega)]; simp
              clear hBB hpb
              by_cases hq : pb = nx.length
              · have heq : ((pb : Int) == (nx.length : Int)) = true := by simp; omega
                have hmn : (if (r : Int) < (b : Int) then (r : Int) else (b : Int)) = ((min b r : Nat) : Int) := by split <;> omega
                have hst : radStep nx b v = min b r := by
                  unfold radStep
                  rw [← HE.out, HE2.out, if_pos hq]
                rw [hst] at HF2
                have HMN := Aside0.mk hmn
                clear hq hmn
                go_wp2_with (first | (go_at_call 56; refine (fire_set_size.calls _ _ _ HSB.out).mono ?_; rintro e w5 ⟨rfl, ⟨nd5, rfl⟩⟩))
                all_goals
                  go_roundg q1
                  · exact ⟨min b r, v + 1, nd2 + nd5, by (congr 1; omega), by first | rfl | rw [hwv], ⟨by have := HV.out; omega⟩, ⟨by have := HB.out; omega⟩, HF2, by simp⟩
                  · exact Nat.lt_succ_self _
              · have heq : ((pb : Int) == (nx.length : Int)) = false := by simp; omega
                have HE3 : Aside0 (eccF nx v (r + 1) = eccF nx v 0) := ⟨by rw [← HE.out, HE2.out, if_neg hq]⟩
                clear hq
                go_wp2_with (first | (go_at_call 56; refine (fire_set_size.calls _ _ _ HSB.out).mono ?_; rintro e w5 ⟨rfl, ⟨nd5, rfl⟩⟩))
                go_roundg q2
                · exact ⟨r + 1, nd2 + nd5, rfl, by first | rfl | rw [hwr], ⟨by have := HJ.out; omega⟩, HE3, by simp⟩
                · exact Nat.lt_succ_self _
  · rw [if_neg hg] at h
    injection h with h
    injection h with e1 e2
    subst e1 e2
    have HG := Aside0.mk hg
    clear hg
    go_enter Tryd.func34, Tryd.ntmps34
    go_wp2
    go_step3
    go_wp2_with (first | (go_at_call 49; refine (read_no n A1 c1 l w HR1.out hc1 HG.out).mono ?_; rintro e w1 ⟨rfl, k1⟩; have K1 := Aside0.mk k1; clear k1))
    try rw [Exit.noGoto_ret]
    go_ret2
    exact ⟨rfl, K1.out⟩
end Go.Proofs.YtbgpnkchbcgekaaDoor.Fi
