/- The calls of fire.Burns. -/
import Derived.Test.YtbgpnkchbcgekaaDoorQFhHra
import Derived.Test.YtbgpnkchbcgekaaDoorQFhHmi
import Derived.Outline
namespace Go.Proofs.YtbgpnkchbcgekaaDoor.Fi
open Go.RowKit Go.Proofs.YtbgpnkchbcgekaaDoorW.PrintWords Go.Proofs.YtbgpnkchbcgekaaDoorW.PrintLast Go.Proofs.YtbgpnkchbcgekaaDoorW.PrintMore Wog
set_option linter.unusedVariables false
set_option linter.unusedSimpArgs false
/-- What the fires of a sequence burn, from the i-th one on. -/
def burntF (nx : List Nat) (len : Nat) : List Int → Nat → Nat → Nat
  | [], _, b => b
  | v :: q, i, b => burntF nx len q (i + 1) (b ||| ball nx v.toNat (len - 1 - i))
def burntS (nx : List Nat) (q : List Int) : Nat := burntF nx q.length q 0 0
def SeqOk (n : Int) (q : List Int) : Prop := 1 ≤ q.length ∧ (q.length : Int) ≤ n ∧ 0 ≤ minT q q.length ∧ maxT q q.length < n
instance (n : Int) (q : List Int) : Decidable (SeqOk n q) := by unfold SeqOk; infer_instance
def fire_Burns.f (n : Int) (l : List S42) (q : List Int) : Option (Bool × Int) :=
  if q.length ≤ 1000 then (if GoodG n l then (if SeqOk n q then some (decide (popc 16 (burntS (nearS n.toNat l) q) = n.toNat), 0) else some (false, 2)) else some (false, 1)) else none
theorem foldl_min_le (l : List Int) : ∀ a, l.foldl min a ≤ a ∧ ∀ x ∈ l, l.foldl min a ≤ x := by
  induction l with
  | nil => intro a; simp
  | cons y l ih =>
    intro a
    rw [List.foldl_cons]
    have h := ih (min a y)
    refine ⟨by omega, fun x hx => ?_⟩
    rcases List.mem_cons.1 hx with rfl | hx
    · omega
    · exact h.2 x hx
theorem foldl_max_ge (l : List Int) : ∀ a, a ≤ l.foldl max a ∧ ∀ x ∈ l, x ≤ l.foldl max a := by
  induction l with
  | nil => intro a; simp
  | cons y l ih =>
    intro a
    rw [List.foldl_cons]
    have h := ih (max a y)
    refine ⟨by omega, fun x hx => ?_⟩
    rcases List.mem_cons.1 hx with rfl | hx
    · omega
    · exact h.2 x hx
theorem SeqOk.all {n : Int} {q : List Int} (h : SeqOk n q) : ∀ x ∈ q, 0 ≤ x ∧ x < n := by
  intro x hx
  obtain ⟨_, _, h1, h2⟩ := h
  unfold minT at h1
  unfold maxT at h2
  rw [List.take_length] at h1 h2
  have h3 := (foldl_min_le q (q.getD 0 0)).2 x hx
  have h4 := (foldl_max_ge q (q.getD 0 0)).2 x hx
  omega
set_option maxHeartbeats 4000000 in
set_option maxRecDepth 100000 in
theorem fire_Burns.calls (n : Int) (A1 : Option Addr) (c1 : Nat) (l : List S42) (A2 : Option Addr) (c2 : Nat) (q : List Int) (r1 : Bool) (r2 : Int) (w : World) (hr1 : Kd.C k42 w A1 l.length l) (hc1 : l.length ≤ c1) (hr2 : Kd.C (Kd.int .i64) w A2 q.length q) (hc2 : q.length ≤ c2) (h : fire_Burns.f n l q = some (r1, r2)) :
    Calls Tryd.prog 41 #[.int .i64 n, .slice A1 l.length c1, .slice A2 q.length c2] w fun e w' => e = .returned (.tuple #[.bool r1, .int .i64 r2]) ∧ Below w.heap.size w w' := by
  have HR1 := Aside0.mk hr1
  have HR2 := Aside0.mk hr2
  clear hr1 hr2
  unfold fire_Burns.f at h
  by_cases hq : q.length ≤ 1000
  · rw [if_pos hq] at h
    by_cases hg : GoodG n l
    · rw [if_pos hg] at h
      obtain ⟨nx, hnx⟩ : ∃ nx, nx = nearS n.toNat l := ⟨_, rfl⟩
      have hnl : nx.length = n.toNat := by rw [hnx, nearS_length]
      have hx : ∀ x ∈ nx, x < 2 ^ nx.length := by rw [hnl, hnx]; exact nearS_lt hg.2.2.2
      have hn10 : nx.length ≤ 10 := by rw [hnl]; have := hg.2.1; omega
      have hn0 : 0 < nx.length := by rw [hnl]; have := hg.1; omega
      have hn1 : n = (nx.length : Int) := by rw [hnl]; have := hg.1; omega
      have HRD := Aside0.mk (read_yes n A1 c1 l w HR1.out hc1 hg)
      rw [← hnx] at HRD h
      rw [← hnl] at h
      rw [hn1] at HRD h ⊢
      obtain ⟨kb, hkb⟩ := (balls_ev nx nx.length rfl hn10 hx).rounds
      have HKB := Aside0.mk hkb
      have HX := Aside0.mk hx
      clear hkb hx hg hnx hn1 hnl
      by_cases hs : SeqOk (nx.length : Int) q
      · rw [if_pos hs] at h
        injection h with h
        injection h with e1 e2
        subst e1 e2
        have HS := Aside0.mk hs
        have HALL := Aside0.mk hs.all
        obtain ⟨h1, h2, h3, h4⟩ := hs
        have d1 : decide ((q.length : Int) < 1) = false := by simp; omega
        have d2 : decide (nx.length < q.length) = false := by simp; omega
        obtain ⟨mi, hmi⟩ : ∃ m, m = minT q q.length := ⟨_, rfl⟩
        obtain ⟨ma, hma⟩ : ∃ m, m = maxT q q.length := ⟨_, rfl⟩
        have HMI := Aside0.mk hmi
        have HMA := Aside0.mk hma
        have d3 : decide (mi < 0) = false := by rw [hmi]; simp; omega
        have d4 : decide ((nx.length : Int) ≤ ma) = false := by rw [hma]; simp; omega
        have hql : q.length ≤ nx.length := by omega
        have hq1 : 1 ≤ q.length := h1
        obtain ⟨R, hRR⟩ : ∃ R, R = burntS nx q := ⟨_, rfl⟩
        have HRR := Aside0.mk hRR
        rw [← hRR]
        clear h1 h2 h3 h4 hmi hma hRR
        go_enter Tryd.func41, Tryd.ntmps41
        go_wp2_with (first | (go_at_call 49; refine HRD.out.mono ?_; rintro e w1 ⟨w0, g, rfl, k1, k2, k3⟩; have K1 := Aside0.mk k1; have K2 := Aside0.mk k2; have K3 := Aside0.mk k3; have K4 := Aside0.mk (Kd.C_below HR2.out (below_then k3 k3.size k2)); clear k1 k2 k3) | (go_at_call 61; refine (min_called HMI.out K4.out (by omega) (by omega)).mono ?_; rintro e w2 ⟨rfl, rfl⟩) | (go_at_call 62; refine (max_called HMA.out K4.out (by omega) (by omega)).mono ?_; rintro e w2 ⟨rfl, rfl⟩) | (go_at_call 50; refine (fire_graph_balls.calls kb g _ _ _ _ w0 _ K1.out K2.out HKB.out).mono ?_; rintro e w4 ⟨v2, rfl, j1, j2, j3, j4⟩; obtain ⟨g7, cap7, hv2⟩ := balls_form hn0 j1; subst hv2; have J1 := Aside0.mk (Kd.S_R j1); have J3 := Aside0.mk j3; clear j1 j2 j3 j4))
        obtain ⟨ad, hA2, hqc⟩ := C_int_cell (Kd.C_below HR2.out (below_then K3.out K3.out.size J3.out)) (by omega)
        subst hA2
        have HQC := Aside0.mk hqc
        clear hqc
        go_loopg [11, 48] q.length (fun kq v11 v48 wr => ∃ b i : Nat, v11 = .int .u16 (b : Int) ∧ v48 = .int .i64 (i : Int) ∧ Aside0 (i + kq = q.length) ∧ Aside0 (b < 2 ^ nx.length) ∧ Aside0 (burntF nx q.length (q.drop i) i b = R) ∧ wr = w4)
        case atStart => exact ⟨0, 0, rfl, rfl, ⟨by omega⟩, ⟨Nat.two_pow_pos _⟩, ⟨by rw [HRR.out]; rfl⟩, rfl⟩
        case round =>
          obtain ⟨b, i, rfl, rfl, HI, HB, HF, rfl⟩ := hrel
          cases gk with
          | zero =>
            obtain rfl : i = q.length := by have := HI.out; omega
            have hd9 : decide ((q.length : Int) < (q.length : Int)) = false := by simp
            have hbR : b = R := by have := HF.out; rw [List.drop_length] at this; exact this
            subst hbR
            have HSZ := Aside0.mk (size_is b (lt16' hn10 HB.out))
            obtain ⟨pb, hpb⟩ : ∃ pb, pb = popc 16 b := ⟨_, rfl⟩
            rw [← hpb] at HSZ
            have HPB := Aside0.mk hpb
            clear hpb
            go_wp2_with (first | (go_at_call 56; refine (fire_set_size.calls _ _ _ HSZ.out).mono ?_; rintro e w5 ⟨rfl, ⟨nd5, rfl⟩⟩))
            go_ret2
            have hp : ((pb : Int) == (nx.length : Int)) = decide (pb = nx.length) := by rw [Bool.eq_iff_iff]; simp; omega
            exact ⟨by rw [← HPB.out, ← hp]; rfl, below_then K3.out K3.out.size (pw_below_drewN J3.out _)⟩
          | succ q1 =>
            have hi : i < q.length := by have := HI.out; omega
            have hd9 : decide ((i : Int) < (q.length : Int)) = true := by simp; omega
            have hd8 : decide ((0 : Int) ≤ (i : Int)) = true := by simp
            have hqc := HQC.out i hi
            obtain ⟨x, hx⟩ : ∃ x, x = q.getD i 0 := ⟨_, rfl⟩
            have hxm : 0 ≤ x ∧ x < nx.length := HALL.out x (by rw [hx, List.getD_eq_getElem?_getD, List.getElem?_eq_getElem hi]; exact List.getElem_mem hi)
            have HF2 := HF.out
            rw [List.drop_eq_getElem_cons hi, burntF, show q[i] = x by rw [hx, List.getD_eq_getElem?_getD, List.getElem?_eq_getElem hi]; rfl] at HF2
            rw [← hx] at hqc
            obtain ⟨hx0, hxn⟩ := hxm
            obtain ⟨v, rfl⟩ := Int.eq_ofNat_of_zero_le hx0
            rw [Int.toNat_natCast] at HF2
            have hvn : v < nx.length := by omega
            obtain ⟨r, hr⟩ : ∃ r, r = q.length - 1 - i := ⟨_, rfl⟩
            have hrn : r < nx.length := by omega
            obtain ⟨ad2, c2', hc2', hcells⟩ := balls_rows J1.out hvn
            have hcell := hcells r hrn
            rw [← hr] at HF2
            obtain ⟨B, hBB⟩ : ∃ B, B = ball nx v r := ⟨_, rfl⟩
            have hBl : B < 2 ^ nx.length := by rw [hBB]; exact ball_lt HX.out hvn r
            rw [← hBB] at hcell HF2
            have HF3 := Aside0.mk HF2
            have hor := or16 b B (lt16' hn10 HB.out) (lt16' hn10 hBl)
            have HBB : Aside0 (b ||| B < 2 ^ nx.length) := ⟨Nat.or_lt_two_pow HB.out hBl⟩
            have hw1 : IntKind.i64.wrap ((q.length : Int) - 1) = (q.length : Int) - 1 := IntWalk.i64_in _ (by omega)
            have hw2 : IntKind.i64.wrap ((q.length : Int) - 1 - (i : Int)) = (r : Int) := by rw [IntWalk.i64_in _ (by omega)]; omega
            have hwi : IntKind.i64.wrap ((i : Int) + 1) = ((i + 1 : Nat) : Int) := by rw [IntWalk.i64_in _ (by omega)]; simp
            have hd7 : decide ((0 : Int) ≤ (v : Int)) = true := by simp
            have hd6 : decide ((v : Int) < (nx.length : Int)) = true := by simp; omega
            have hd5 : decide ((0 : Int) ≤ (r : Int)) = true := by simp
            have hd4 : decide ((r : Int) < (nx.length : Int)) = true := by simp; omega
            clear hcells hBB HF2 hx hr hBl
            go_wp2
            go_roundg q1
            · exact ⟨b ||| B, i + 1, rfl, by first | rfl | rw [hwi], ⟨by have := HI.out; omega⟩, HBB, HF3, rfl⟩
            · exact Nat.lt_succ_self _
      · rw [if_neg hs] at h
        injection h with h
        injection h with e1 e2
        subst e1 e2
        obtain ⟨mi, hmi⟩ : ∃ m, m = minT q q.length := ⟨_, rfl⟩
        obtain ⟨ma, hma⟩ : ∃ m, m = maxT q q.length := ⟨_, rfl⟩
        have HMI := Aside0.mk hmi
        have HMA := Aside0.mk hma
        by_cases c1' : q.length < 1
        · have d1 : decide ((q.length : Int) < 1) = true := by simp; omega
          clear hs hmi hma
          go_enter Tryd.func41, Tryd.ntmps41
          go_wp2_with (first | (go_at_call 49; refine HRD.out.mono ?_; rintro e w1 ⟨w0, g, rfl, k1, k2, k3⟩; have K1 := Aside0.mk k1; have K2 := Aside0.mk k2; have K3 := Aside0.mk k3; have K4 := Aside0.mk (Kd.C_below HR2.out (below_then k3 k3.size k2)); clear k1 k2 k3) | (go_at_call 61; refine (min_called HMI.out K4.out (by omega) (by omega)).mono ?_; rintro e w2 ⟨rfl, rfl⟩) | (go_at_call 62; refine (max_called HMA.out K4.out (by omega) (by omega)).mono ?_; rintro e w2 ⟨rfl, rfl⟩))
          go_ret2
          exact ⟨rfl, below_then K3.out K3.out.size K2.out⟩
        · have d1 : decide ((q.length : Int) < 1) = false := by simp; omega
          have hq1 : 1 ≤ q.length := by omega
          by_cases c2' : nx.length < q.length
          · have d2 : decide (nx.length < q.length) = true := by simp; omega
            clear hs hmi hma c1' c2'
            go_enter Tryd.func41, Tryd.ntmps41
            go_wp2_with (first | (go_at_call 49; refine HRD.out.mono ?_; rintro e w1 ⟨w0, g, rfl, k1, k2, k3⟩; have K1 := Aside0.mk k1; have K2 := Aside0.mk k2; have K3 := Aside0.mk k3; have K4 := Aside0.mk (Kd.C_below HR2.out (below_then k3 k3.size k2)); clear k1 k2 k3) | (go_at_call 61; refine (min_called HMI.out K4.out (by omega) (by omega)).mono ?_; rintro e w2 ⟨rfl, rfl⟩) | (go_at_call 62; refine (max_called HMA.out K4.out (by omega) (by omega)).mono ?_; rintro e w2 ⟨rfl, rfl⟩))
            go_ret2
            exact ⟨rfl, below_then K3.out K3.out.size K2.out⟩
          · have d2 : decide (nx.length < q.length) = false := by simp; omega
            by_cases c3' : mi < 0
            · have d3 : decide (mi < 0) = true := by simp; omega
              clear hs hmi hma c1' c2' c3'
              go_enter Tryd.func41, Tryd.ntmps41
              go_wp2_with (first | (go_at_call 49; refine HRD.out.mono ?_; rintro e w1 ⟨w0, g, rfl, k1, k2, k3⟩; have K1 := Aside0.mk k1; have K2 := Aside0.mk k2; have K3 := Aside0.mk k3; have K4 := Aside0.mk (Kd.C_below HR2.out (below_then k3 k3.size k2)); clear k1 k2 k3) | (go_at_call 61; refine (min_called HMI.out K4.out (by omega) (by omega)).mono ?_; rintro e w2 ⟨rfl, rfl⟩) | (go_at_call 62; refine (max_called HMA.out K4.out (by omega) (by omega)).mono ?_; rintro e w2 ⟨rfl, rfl⟩))
              go_ret2
              exact ⟨rfl, below_then K3.out K3.out.size K2.out⟩
            · have d3 : decide (mi < 0) = false := by simp; omega
              have d4 : decide ((nx.length : Int) ≤ ma) = true := by
                have : ¬ ma < nx.length := fun h4 => hs ⟨by omega, by omega, by omega, by omega⟩
                simp; omega
              clear hs hmi hma c1' c2' c3'
              go_enter Tryd.func41, Tryd.ntmps41
              go_wp2_with (first | (go_at_call 49; refine HRD.out.mono ?_; rintro e w1 ⟨w0, g, rfl, k1, k2, k3⟩; have K1 := Aside0.mk k1; have K2 := Aside0.mk k2; have K3 := Aside0.mk k3; have K4 := Aside0.mk (Kd.C_below HR2.out (below_then k3 k3.size k2)); clear k1 k2 k3) | (go_at_call 61; refine (min_called HMI.out K4.out (by omega) (by omega)).mono ?_; rintro e w2 ⟨rfl, rfl⟩) | (go_at_call 62; refine (max_called HMA.out K4.out (by omega) (by omega)).mono ?_; rintro e w2 ⟨rfl, rfl⟩))
              go_ret2
              exact ⟨rfl, below_then K3.out K3.out.size K2.out⟩
    · rw [if_neg hg] at h
      injection h with h
      injection h with e1 e2
      subst e1 e2
      have HG := Aside0.mk hg
      clear hg
      go_enter Tryd.func41, Tryd.ntmps41
      go_wp2_with (first | (go_at_call 49; refine (read_no n A1 c1 l w HR1.out hc1 HG.out).mono ?_; rintro e w1 ⟨rfl, k1⟩; have K1 := Aside0.mk k1; clear k1))
      go_ret2
      exact ⟨rfl, K1.out⟩
  · rw [if_neg hq] at h
    cases h
end Go.Proofs.YtbgpnkchbcgekaaDoor.Fi
