/- The calls of fire.Play and fire.Saved. -/
import Derived.Test.YtbgpnkchbcgekaaDoorQFqHb2
import Derived.Test.YtbgpnkchbcgekaaDoorQFqHc2
import Derived.Test.YtbgpnkchbcgekaaDoorQFqP4
import Derived.Outline
namespace Go.Proofs.YtbgpnkchbcgekaaDoor.Fi
open Go.RowKit Go.Proofs.YtbgpnkchbcgekaaDoorW.PrintWords Go.Proofs.YtbgpnkchbcgekaaDoorW.PrintLast Go.Proofs.YtbgpnkchbcgekaaDoorW.PrintMore Wog
set_option linter.unusedVariables false
set_option linter.unusedSimpArgs false
/-- A number of vertices and edges, a fire and a plan are read. -/
def PlayOk (n : Int) (l : List S42) (f : Int) : Prop := GoodG n l ∧ 0 ≤ f ∧ f < n
instance (n : Int) (l : List S42) (f : Int) : Decidable (PlayOk n l f) := by unfold PlayOk; infer_instance
def playR (n : Int) (l : List S42) (f : Int) (plan : List Int) : Option (List Nat) := playS (nearS n.toNat l) plan (2 ^ f.toNat) 0
def fire_Play.f (n : Int) (l : List S42) (f : Int) (plan : List Int) : Option (List (List Int) × Int) :=
  if plan.length ≤ 1000 then (if PlayOk n l f then (match playR n l f plan with | some o => some (o.map mem10, 0) | none => some ([], 2)) else some ([], 1)) else none
theorem playR_ev {n : Int} {l : List S42} {f : Int} (h : PlayOk n l f) (plan : List Int) (hp : plan.length ≤ 1000) : Ev (fun k => fire_graph_play.f k n (toI (nearS n.toNat l)) f plan) (playOut n (playR n l f plan) []) := by
  obtain ⟨⟨h1, h2, h3, h4⟩, h5, h6⟩ := h
  have hl := nearS_length n.toNat l
  have k := play_ev (nearS n.toNat l) n (by rw [hl]; omega) (by rw [hl]; omega) (by rw [hl]; exact nearS_lt h4) plan (by omega) f.toNat (by rw [hl]; omega)
  rwa [Int.toNat_of_nonneg h5] at k
theorem playN_len (nx : List Nat) : ∀ k B D, (playN nx k B D).length ≤ k := by
  intro k
  induction k with
  | zero => intro B D; simp [playN]
  | succ k ih =>
    intro B D
    rw [playN]
    split
    · simp
    · have := ih (B ||| moreS nx B D) D
      simp
      omega
theorem playS_len (nx : List Nat) : ∀ (p : List Int) (B D : Nat) (o : List Nat), playS nx p B D = some o → o.length ≤ p.length + nx.length := by
  intro p
  induction p with
  | nil => intro B D o h; obtain rfl := Option.some.inj h; have := playN_len nx nx.length B D; simpa using this
  | cons d p ih =>
    intro B D o h
    rw [playS] at h
    split at h
    · obtain ⟨q, h1, h2⟩ := Option.map_eq_some_iff.1 h
      have := ih _ _ _ h1
      split at h2 <;> subst h2 <;> simp <;> omega
    · cases h
theorem playN_lt {nx : List Nat} (hx : ∀ x ∈ nx, x < 2 ^ nx.length) : ∀ k B D, B < 2 ^ nx.length → ∀ x ∈ playN nx k B D, x < 2 ^ nx.length := by
  intro k
  induction k with
  | zero => intro B D _ x h; simp [playN] at h
  | succ k ih =>
    intro B D hB x h
    rw [playN] at h
    split at h
    · simp at h
    · rcases List.mem_cons.1 h with rfl | h
      · exact moreS_lt hx hB D
      · exact ih _ D (Nat.or_lt_two_pow hB (moreS_lt hx hB D)) x h
theorem playS_lt {nx : List Nat} (hx : ∀ x ∈ nx, x < 2 ^ nx.length) : ∀ (p : List Int) (B D : Nat) (o : List Nat), B < 2 ^ nx.length → playS nx p B D = some o → ∀ x ∈ o, x < 2 ^ nx.length := by
  intro p
  induction p with
  | nil => intro B D o hB h; obtain rfl := Option.some.inj h; exact playN_lt hx _ B D hB
  | cons d p ih =>
    intro B D o hB h
    rw [playS] at h
    split at h
    · obtain ⟨q, h1, h2⟩ := Option.map_eq_some_iff.1 h
      have := ih _ _ _ (Nat.or_lt_two_pow hB (moreS_lt hx hB _)) h1
      split at h2 <;> subst h2
      · exact this
      · intro x hx'
        rcases List.mem_cons.1 hx' with rfl | hx'
        · exact moreS_lt hx hB _
        · exact this x hx'
    · cases h
theorem C_far {w : World} {A : Option Addr} {xs : List Int} {k : IntKind} (h : Kd.C (Kd.int k) w A xs.length xs) {g : Nat} (hg : w.heap.size ≤ g) : ∀ ad, A = some ad → 0 < xs.length → ad.block ≠ g := by
  rintro ad rfl hl e
  obtain ⟨ad', c, h1, h2, h3, h4⟩ := ReadsRow.get_ h 0 0 (by omega) (by omega)
  injection h1 with h1
  subst h1
  have h5 : c = [Value.int k _] := h3
  have h6 := World.block_lt_of_cell? w _ (h4 0 _ (by rw [h5]; rfl))
  have h7 : ad.block < w.heap.size := h6
  omega
theorem IsS105.ge' {w0 W : World} {g : Nat} {f0 : Int} {f1 : List Int} (h : IsS105 w0 W g f0 f1) : w0.heap.size ≤ g := by
  obtain ⟨_, _, _, h, _⟩ := h
  exact h
set_option maxHeartbeats 2000000 in
set_option maxRecDepth 100000 in
theorem fire_Play.calls (n : Int) (A1 : Option Addr) (c1 : Nat) (l : List S42) (f : Int) (A3 : Option Addr) (c3 : Nat) (plan : List Int) (r1 : List (List Int)) (r2 : Int) (w : World) (hr1 : Kd.C k42 w A1 l.length l) (hc1 : l.length ≤ c1) (hr3 : Kd.C (Kd.int .i64) w A3 plan.length plan) (hc3 : plan.length ≤ c3) (h : fire_Play.f n l f plan = some (r1, r2)) :
    Calls Tryd.prog 29 #[.int .i64 n, .slice A1 l.length c1, .int .i64 f, .slice A3 plan.length c3] w fun e w' => ∃ v0_ : Value, e = .returned (.tuple #[v0_, .int .i64 r2]) ∧ Kd.S (Kd.slice 3 (Kd.int .i64)) 27 w' w.heap.size (fun _ => True) v0_ r1 ∧ Below w.heap.size w w' := by
  have HR1 := Aside0.mk hr1
  have HR3 := Aside0.mk hr3
  clear hr1 hr3
  unfold fire_Play.f at h
  by_cases hp : plan.length ≤ 1000
  · rw [if_pos hp] at h
    by_cases hg : PlayOk n l f
    · rw [if_pos hg] at h
      obtain ⟨kp, hkp⟩ := (playR_ev hg plan hp).rounds
      have HG := Aside0.mk hg
      cases ho : playR n l f plan with
      | none =>
        rw [ho] at h hkp
        injection h with h
        injection h with e1 e2
        subst e1 e2
        have HKP : Aside0 (fire_graph_play.f kp n (toI (nearS n.toNat l)) f plan = some ([], false, n)) := ⟨hkp⟩
        clear hkp ho hg
        go_enter Tryd.func29, Tryd.ntmps29
        go_wp2_with (first | (go_at_call 44; refine (lit_yes n A1 c1 l f w HR1.out hc1 HG.out.1 HG.out.2.1 HG.out.2.2).mono ?_; rintro e w1 ⟨w0, g, rfl, k1, k2, k3⟩; have K1 := Aside0.mk k1; have K2 := Aside0.mk k2; have K3 := Aside0.mk k3; clear k1 k2 k3) | (go_at_call 52; refine (fire_graph_play.calls kp g n (toI (nearS n.toNat l)) f A3 c3 plan [] false n w0 _ K1.out K2.out (Kd.C_below HR3.out (below_then K3.out K3.out.size K2.out)) hc3 ?far HKP.out).mono ?_; (case far => exact C_far HR3.out (Nat.le_trans K3.out.size K1.out.ge')); rintro e w2 ⟨v2, rfl, j1, j2, j3, j4⟩; have J3 := Aside0.mk j3; have J1 := Aside0.mk j1; clear j1 j2 j3 j4))
        go_ret2
        exact ⟨_, rfl, Kd.S_nil _ _ _ _ _, below_then K3.out K3.out.size J3.out⟩
      | some o =>
        rw [ho] at h hkp
        injection h with h
        injection h with e1 e2
        subst e1 e2
        have HKP : Aside0 (fire_graph_play.f kp n (toI (nearS n.toNat l)) f plan = some (toI o, true, n)) := ⟨by simpa [playOut] using hkp⟩
        have hn10 : n ≤ 10 := hg.1.2.1
        have hpow : (2 : Nat) ^ n.toNat ≤ 2 ^ 10 := Nat.pow_le_pow_right (by omega) (by omega)
        have hlo := playS_len _ _ _ _ _ ho
        have hlt := playS_lt (nx := nearS n.toNat l) (by rw [nearS_length]; exact nearS_lt hg.1.2.2.2) _ _ _ _ (by rw [nearS_length]; exact Nat.pow_lt_pow_right (by omega) (by have := hg.2; omega)) ho
        rw [nearS_length] at hlo hlt
        have HLT : Aside0 (∀ x ∈ o, x < 65536) := ⟨fun x hx => by have := hlt x hx; omega⟩
        have hlo' : o.length ≤ 1100 := by omega
        clear hkp ho hg hlt hlo hpow
        go_enter Tryd.func29, Tryd.ntmps29
        go_wp2_with (first | (go_at_call 44; refine (lit_yes n A1 c1 l f w HR1.out hc1 HG.out.1 HG.out.2.1 HG.out.2.2).mono ?_; rintro e w1 ⟨w0, g, rfl, k1, k2, k3⟩; have K1 := Aside0.mk k1; have K2 := Aside0.mk k2; have K3 := Aside0.mk k3; clear k1 k2 k3) | (go_at_call 52; refine (fire_graph_play.calls kp g n (toI (nearS n.toNat l)) f A3 c3 plan (toI o) true n w0 _ K1.out K2.out (Kd.C_below HR3.out (below_then K3.out K3.out.size K2.out)) hc3 ?far HKP.out).mono ?_; (case far => exact C_far HR3.out (Nat.le_trans K3.out.size K1.out.ge')); rintro e w2 ⟨v2, rfl, j1, j2, j3, j4⟩; obtain ⟨A7, c7, rfl⟩ := Kd.R_slice j1; have HRO := Aside0.mk (Kd.R_lower j1 (below_size (below_then K3.out K3.out.size K2.out))); have HB := Aside0.mk (below_then K3.out K3.out.size j3); have hlen : (toI o).length = o.length := toI_length o; clear j1 j2 j3 j4))
        go_loopg [13, 36] o.length (fun kq v13 v36 wr => ∃ (j : Nat), v36 = .int .i64 (j : Int) ∧ Aside0 (j + kq = o.length) ∧ Aside0 (Kd.S (Kd.slice 3 (Kd.int .i64)) 27 wr w.heap.size (fun _ => True) v13 ((o.take j).map mem10)) ∧ Aside0 (Kd.R (Kd.int .u16) 81 wr w.heap.size (fun _ => True) (.slice A7 (toI o).length c7) (toI o)) ∧ Aside0 (Below w.heap.size w wr))
        case atStart => exact ⟨0, rfl, ⟨by omega⟩, ⟨by simpa using Kd.S_nil _ _ _ _ _⟩, HRO, HB⟩
        case round =>
          clear HRO HB
          obtain ⟨j, rfl, HJ, HO, HRO, HB⟩ := hrel
          cases gk with
          | zero =>
            obtain rfl : j = o.length := by have := HJ.out; omega
            have hdec : decide ((o.length : Int) < (o.length : Int)) = false := by simp
            go_wp2
            go_ret2
            exact ⟨_, rfl, by simpa using HO.out, HB.out⟩
          | succ q1 =>
            have hj : j < o.length := by have := HJ.out; omega
            have hdec : decide ((j : Int) < (o.length : Int)) = true := by simp; omega
            obtain ⟨x, hx⟩ : ∃ x, o[j]? = some x := ⟨o[j], List.getElem?_eq_getElem hj⟩
            have hx16 : x < 65536 := HLT.out x (List.mem_of_getElem? hx)
            obtain ⟨g7, cap7, eq7, _, _, _⟩ := Kd.R_form HRO.out (by rw [hlen]; omega)
            injection eq7 with ea en ec
            subst ea ec
            have hcell : wr.cell? ⟨g7, j, none⟩ = some (.int .u16 (x : Int)) := by
              have := (Kd.R_cell 0 HRO.out (j : Int) (by omega) (by rw [hlen]; omega)).1
              rw [show rdOf 0 (toI o) (j : Int) = (x : Int) by unfold rdOf toI; rw [Int.toNat_natCast, List.getD_eq_getElem?_getD, List.getElem?_map, hx]; rfl] at this
              simpa using this
            have hd0 : decide ((0 : Int) ≤ (j : Int)) = true := by simp
            obtain ⟨kl, hkl⟩ := (list_ev x hx16).rounds
            have HKL := Aside0.mk hkl
            have hwj : IntKind.i64.wrap ((j : Int) + 1) = ((j + 1 : Nat) : Int) := by rw [IntWalk.i64_in _ (by omega)]; simp
            have htk : (o.take (j + 1)).map mem10 = (o.take j).map mem10 ++ [mem10 x] := by
              rw [List.take_add_one, hx]; simp
            have HTK := Aside0.mk htk
            have HX := Aside0.mk hx
            clear en hkl htk hx
            go_wp2_with (first | (go_at_call 53; refine (fire_set_list.calls kl x (mem10 x) _ HKL.out).mono ?_; rintro e w3 ⟨v3, rfl, h1, h2⟩; obtain ⟨A9, c9, rfl⟩ := Kd.R_slice h1; have n0 := Aside0.mk (Kd.R_lower h1 (below_size HB.out)); have n1 := Aside0.mk (Kd.S_elder' HO.out (Kd.R_base h1) h2); have n2 := Aside0.mk (Kd.R_below HRO.out h2); have n3 := Aside0.mk (below_step HB.out h2); clear HO HRO HB h1 h2; have HO := n1; have HRO := n2; have HB := n3; clear n1 n2 n3) | ((with_reducible refine gate_builtin (b := .append) (xs := #[.tmp 40, .tmp 43]) rfl ?_); at_builtin; refine Kd.S_append (Kd.slice 3 (Kd.int .i64)) (w0 := w) w.heap.size rfl (.tmp 40) (.tmp 43) 51 27 (.slice none 0 0) 24 rfl Tryd.underlying51 info27 rfl (by decide) (by omega) u13 ((o.take j).map mem10) (mem10 x) [.slice A9 (mem10 x).length c9] (fun _ => True) (fun k_ => some k_ = (.slice A9 (mem10 x).length c9 : Value).ownBlock) rfl rfl ?aP ?aK (fun _ _ => trivial) ?aO HB.out (below_size HB.out) ?aL ?_; (case aP => exact Kd.M_row (Kd.R_tight rfl n0.out)); (case aK => exact fun k_ hk_ => (Kd.R_apart' n0.out (Kd.S_typed HO.out) (by decide)).1 k_ hk_.symm); (case aO => exact Kd.S_mono HO.out (fun k_ hk => ⟨trivial, fun e_ => hk.2 e_⟩)); (case aL => simp; omega); intro v5 w5 i1 i2 i3 i4; have n1 := Aside0.mk i1; have n2 := Aside0.mk (Kd.R_over' HRO.out (Kd.S_typed HO.out) (by decide) i3); have n3 := Aside0.mk i2; clear HO HRO HB n0 i1 i2 i3 i4; have HO := n1; have HRO := n2; have HB := n3; clear n1 n2 n3))
            go_roundg q1
            · exact ⟨j + 1, by first | rfl | rw [hwj], ⟨by have := HJ.out; omega⟩, ⟨by rw [HTK.out]; exact HO.out⟩, HRO, HB⟩
            · exact Nat.lt_succ_self _
    · rw [if_neg hg] at h
      injection h with h
      injection h with e1 e2
      subst e1 e2
      have HG : Aside0 (¬ (GoodG n l ∧ 0 ≤ f ∧ f < n)) := ⟨hg⟩
      clear hg
      go_enter Tryd.func29, Tryd.ntmps29
      go_wp2_with (first | (go_at_call 44; refine (lit_no n A1 c1 l f w HR1.out hc1 HG.out).mono ?_; rintro e w1 ⟨p1, rfl, k1⟩; have K1 := Aside0.mk k1; clear k1))
      go_ret2
      exact ⟨_, rfl, Kd.S_nil _ _ _ _ _, K1.out⟩
  · rw [if_neg hp] at h
    cases h
end Go.Proofs.YtbgpnkchbcgekaaDoor.Fi
