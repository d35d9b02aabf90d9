/- The calls of tug.Split and tug.Even. -/
import Derived.Test.YtepgcdjbhmpioaaQTeT4
namespace Go.Proofs.Ytepgcdjbhmpioaa.Fi
open Go.RowKit Go.Proofs.YtepgcdjbhmpioaaW.PrintWords Go.Proofs.YtepgcdjbhmpioaaW.PrintLast Go.Proofs.YtepgcdjbhmpioaaW.PrintMore
set_option linter.unusedVariables false
set_option linter.unusedSimpArgs false
theorem any_calls (A : Option Addr) (c : Nat) (s : List Int) (w : World) : Calls Try.prog 54 #[.slice A s.length c] w fun e w' => e = .returned (.bool (anyS s)) ∧ Drawn0 w w' := by
  go_enter Try.func54, Try.ntmps54
  go_wp2
  go_ret
  exact ⟨rfl, 0, rfl⟩
def accS (may : List Int → Bool) (p : List Int) (i : Nat) : Int × List Int := (List.range i).foldl (fun acc set => pickS may p acc (sidesS p.length set)) (-1, [])
theorem accS_succ (may : List Int → Bool) (p : List Int) (i : Nat) : accS may p (i + 1) = pickS may p (accS may p i) (sidesS p.length i) := by
  unfold accS
  rw [List.range_succ, List.foldl_append]
  rfl
def MayC (g : Nat) (may : List Int → Bool) (n : Nat) : Prop := ∀ (A : Option Addr) (c : Nat) (s : List Int) (w : World), Kd.C (Kd.int .i64) w A s.length s → s.length ≤ c → Bits s → s.length = n → Calls Try.prog g #[.slice A s.length c] w fun e w' => e = .returned (.bool (may s)) ∧ Drawn0 w w'
set_option maxHeartbeats 2000000 in
set_option maxRecDepth 100000 in
theorem find_calls (g : Nat) (may : List Int → Bool) (A0 : Option Addr) (c0 : Nat) (l0 : List Int) (heg : ∀ args w, (callFunc g args).run Try.prog w = .ok (.enter g args) w) (hmay : chk 14 l0 = 0 → MayC g may l0.length) (w : World) (hr0 : Kd.C (Kd.int .i64) w A0 l0.length l0) (hc0 : l0.length ≤ c0) :
    Calls Try.prog 55 #[.agg #[.slice A0 l0.length c0, .func (.func g) #[] #[]]] w fun e w' => ∃ v0_ : Value, e = .returned (.tuple #[.int .i64 (if chk 14 l0 = 0 then (findS may l0).1 else 0), v0_, .int .i64 (chk 14 l0)]) ∧ Kd.R (Kd.int .i64) 3 w' w.heap.size (fun _ => True) v0_ (if chk 14 l0 = 0 then (findS may l0).2 else []) ∧ Below w.heap.size w w' := by
  have HR0 := Aside0.mk hr0
  have HC0 := Aside0.mk hc0
  have HM := Aside0.mk hmay
  have HEG := Aside0.mk heg
  have CK := Aside0.mk (check_is 14 (by omega) l0)
  have HB := Aside0.mk (Below.refl w.heap.size w)
  clear hr0 hc0 hmay heg
  by_cases hk : chk 14 l0 = 0
  · rw [hk] at CK
    have hok := chk_zero hk
    simp only [if_pos hk, hk]
    obtain ⟨ji6, hji6⟩ : ∃ j_ : Int, (wrap64 ((l0.length : Int) - 1)) = j_ := ⟨_, rfl⟩
    have hji6w : (IntKind.i64.wrap ((l0.length : Int) - 1)) = ji6 := (i64_w _).trans hji6
    have h6 : ji6 = ((l0.length - 1 : Nat) : Int) := by rw [← hji6, wrapS (by have := hok.1; have := hok.2.1; omega)]; have := hok.1; omega
    have c7b0 : (0 ≤ ji6) = True := eq_true (by rw [h6]; omega)
    have c7b1 : decide (0 ≤ (ji6)) = true := decide_eq_true (by rw [h6]; omega)
    obtain ⟨ji8, hji8⟩ : ∃ j_ : Int, (shl .i64 1 (ji6)) = j_ := ⟨_, rfl⟩
    have HJ8 : Aside0 (ji8 = ((2 ^ (l0.length - 1) : Nat) : Int)) := ⟨by rw [← hji8, h6]; exact shl64 _ (by have := hok.2.1; omega)⟩
    have hji8_ : (IntKind.i64.wrap (1 * 2 ^ min (ji6).toNat 64)) = ji8 := hji8
    have hji8z : (ji6) ≤ 64 → (IntKind.i64.wrap (1 * 2 ^ (ji6).toNat)) = ji8 := shl_small hji8
    have hji8u : (IntKind.i64.wrap (2 ^ min (ji6).toNat 64)) = ji8 := by have h_ := hji8_; rw [Int.one_mul] at h_; exact h_
    have hji8v : (ji6) ≤ 64 → (IntKind.i64.wrap (2 ^ (ji6).toNat)) = ji8 := fun hle_ => by have h_ := hji8z hle_; rw [Int.one_mul] at h_; exact h_
    have hji8y : (wrap64 (1 * 2 ^ min (ji6).toNat 64)) = ji8 := (i64_w _).symm.trans hji8_
    have hji8x : (ji6) ≤ 64 → (wrap64 (1 * 2 ^ (ji6).toNat)) = ji8 := fun h_ => (i64_w _).symm.trans (hji8z h_)
    have HOK := Aside0.mk hok
    clear hok h6
    go_enter Try.func55, Try.ntmps55
    go_wp2_with (first | ((with_reducible refine gate_dst (N := 1) rfl ?_); refine box_event ?hg (N := 1) ?hd (cs := #[.slice A0 l0.length c0, .func (.func g) #[] #[]]) (t := 77) ?hr ?_; (case hd => rfl); (case hg => rfl); (case hr => first | (go_simp; done) | (go_simp; rfl)); intro gb hg w7 hbox hb; have HR1 := Aside0.mk (Kd.C_below HR0.out hb); have BK := Aside0.mk hbox; have HB1 := Aside0.mk (below_step HB.out hb); clear hb hbox hg HR0 HB; have d1 := blk_cell BK.out 0) | (go_at_call 43; refine (tug_check.calls A0 c0 l0 14 0 _ HR1.out HC0.out CK.out).mono ?_; rintro e w8 ⟨rfl, nd, rfl⟩; have HR2 := Aside0.mk (Kd.C_drewN HR1.out nd); have BK2 := Aside0.mk (blk_drewN BK.out nd); have HB2 := Aside0.mk (pw_below_drewN HB1.out nd); have d2 := blk_cell BK2.out 0; clear HR1 BK HB1 d1; generalize World.drewN w7 nd = w9 at HR2 BK2 HB2 d2 ⊢))
    obtain ⟨m, hm⟩ : ∃ m : Nat, m = 2 ^ (l0.length - 1) := ⟨_, rfl⟩
    have HJ : Aside0 (ji8 = (m : Int)) := ⟨by rw [HJ8.out, hm]⟩
    have HMM := Aside0.mk hm
    clear HJ8 hm hji8 hji8_ hji8z hji8u hji8v hji8y hji8x hji6 hji6w c7b0 c7b1 d2
    go_loopg [6, 7, 22] m (fun kq v6 v7 v22 wr => ∃ i : Nat, v22 = .int .i64 (i : Int) ∧ Aside0 (i + kq = m) ∧ v6 = .int .i64 (accS may l0 i).1 ∧ Aside0 (Kd.R (Kd.int .i64) 3 wr w.heap.size (fun _ => True) v7 (accS may l0 i).2) ∧ Aside0 (Kd.C (Kd.int .i64) wr A0 l0.length l0) ∧ Aside0 (wr.heap[gb]? = some (.cells #[.slice A0 l0.length c0, .func (.func g) #[] #[]] 77 (0, 0))) ∧ Aside0 (Below w.heap.size w wr))
    case atStart => exact ⟨0, rfl, ⟨by omega⟩, rfl, ⟨Kd.R_nil _ _ _ _ _⟩, HR2, BK2, HB2⟩
    case round =>
      clear HR2 BK2 HB2
      obtain ⟨i, rfl, HI, rfl, HO, HR, BK, HB⟩ := hrel
      have d1 := blk_cell BK.out 0
      have d2 := blk_cell BK.out 1
      cases gk with
      | zero =>
        have hd : decide ((i : Int) < ji8) = false := by rw [HJ.out]; exact decide_eq_false (by have := HI.out; omega)
        go_wp2
        go_ret3
        obtain rfl : i = m := by have := HI.out; omega
        have hf : accS may l0 i = findS may l0 := by unfold accS findS; rw [← HMM.out]
        rw [hf] at HO ⊢
        exact ⟨_, rfl, HO.out, HB.out⟩
      | succ kq =>
        have hd : decide ((i : Int) < ji8) = true := by rw [HJ.out]; exact decide_eq_true (by have := HI.out; omega)
        obtain ⟨k1, hk1⟩ := (sides_ev l0.length i (by have := HOK.out.2.1; omega) (by have h1 := HI.out; have h2 := HMM.out; have := HOK.out.2.1; have : 2 ^ (l0.length - 1) ≤ 2 ^ 13 := Nat.pow_le_pow_right (by omega) (by omega); omega)).rounds
        have HK1 := Aside0.mk hk1
        clear hk1
        obtain ⟨k2, hk2⟩ := (diff_ev l0 (sidesS l0.length i) ⟨HOK.out.1, by have := HOK.out.2.1; omega, HOK.out.2.2⟩ (sidesS_bits _ _) (sidesS_length _ _)).rounds
        have HK2 := Aside0.mk hk2
        clear hk2
        go_wp2_with (first | (go_at_call 60; refine (tug_sides.calls k1 (i : Int) (l0.length : Int) _ _ HK1.out).mono ?_; rintro e w1 ⟨v9, rfl, hq, hb⟩; have HO1 := Aside0.mk (Kd.R_below HO.out hb); have HR1 := Aside0.mk (Kd.C_below HR.out hb); have BK1 := Aside0.mk (blk_below BK.out hb); have HS1 := Aside0.mk (Kd.R_lower hq (below_size HB.out)); have HB1 := Aside0.mk (below_step HB.out hb); clear hq hb HO HR BK HB d1 d2; have d1 := blk_cell BK1.out 0; have d2 := blk_cell BK1.out 1; obtain ⟨As, cs, es⟩ := Kd.R_slice HS1.out; subst es; have HS2 := Aside0.mk (Kd.R_reads' HS1.out)) | (go_at_call 57; refine (tug_difference.calls k2 A0 c0 l0 As cs (sidesS l0.length i) _ _ HR1.out HC0.out HS2.out.2.2 HS2.out.2.1 HK2.out).mono ?_; rintro e w2 ⟨rfl, hb⟩; have HO2 := Aside0.mk (Kd.R_below HO1.out hb); have HR2 := Aside0.mk (Kd.C_below HR1.out hb); have BK2 := Aside0.mk (blk_below BK1.out hb); have HS3 := Aside0.mk (Kd.R_below HS1.out hb); have HB2 := Aside0.mk (below_step HB1.out hb); clear hb HO1 HR1 BK1 HB1 HS1 HS2 d1 d2; have d1 := blk_cell BK2.out 0; have d2 := blk_cell BK2.out 1; have HS4 := Aside0.mk (Kd.R_reads' HS3.out)))
        rw [HEG.out]
        show Calls Try.prog g _ _ _
        refine (HM.out hk As cs (sidesS l0.length i) _ HS4.out.2.2 HS4.out.2.1 (sidesS_bits _ _) (sidesS_length _ _)).mono ?_
        rintro e w3 ⟨rfl, nd, rfl⟩
        have HO5 := Aside0.mk (Kd.R_drewN HO2.out nd)
        have HR5 := Aside0.mk (Kd.C_drewN HR2.out nd)
        have BK5 := Aside0.mk (blk_drewN BK2.out nd)
        have HS5 := Aside0.mk (Kd.R_drewN HS3.out nd)
        have HB5 := Aside0.mk (pw_below_drewN HB2.out nd)
        clear HO2 HR2 BK2 HS3 HB2 HS4 d1 d2 HK1 HK2
        generalize World.drewN w2 nd = w4 at HO5 HR5 BK5 HS5 HB5 ⊢
        have HP := Aside0.mk (accS_succ may l0 i)
        unfold pickS at HP
        obtain ⟨b0, hb0⟩ : ∃ b, b = (accS may l0 i).1 := ⟨_, rfl⟩
        obtain ⟨d0, hd0⟩ : ∃ d, d = diffS l0 (sidesS l0.length i) := ⟨_, rfl⟩
        rw [← hb0, ← hd0] at HP
        rw [← hb0, ← hd0]
        have HBB := Aside0.mk hb0
        clear hb0 hd0
        have hw1 : wrap64 ((i : Int) + 1) = ((i + 1 : Nat) : Int) := wrapS (by have h1 := HI.out; have h2 := HMM.out; have := HOK.out.2.1; have : 2 ^ (l0.length - 1) ≤ 2 ^ 13 := Nat.pow_le_pow_right (by omega) (by omega); omega)
        cases hmb : may (sidesS l0.length i) with
        | false =>
          have hacc : accS may l0 (i + 1) = accS may l0 i := by rw [HP.out, hmb]; simp
          clear HP
          go_wp2
          go_roundg kq
          case measure => have := HI.out; omega
          case rel => exact ⟨i + 1, by first | rfl | rw [hw1], ⟨by have := HI.out; omega⟩, by rw [hacc, HBB.out], ⟨by rw [hacc]; exact HO5.out⟩, HR5, BK5, HB5⟩
        | true =>
          by_cases hc : b0 < 0 ∨ d0 < b0
          · have hacc : accS may l0 (i + 1) = (d0, sidesS l0.length i) := by rw [HP.out, hmb, if_pos ⟨rfl, hc⟩]
            clear HP
            by_cases h1 : b0 < 0
            · have e1 : decide (b0 < 0) = true := decide_eq_true h1
              clear hc h1
              go_wp2
              go_roundg kq
              case measure => have := HI.out; omega
              case rel => exact ⟨i + 1, by first | rfl | rw [hw1], ⟨by have := HI.out; omega⟩, by rw [hacc], ⟨by rw [hacc]; exact HS5.out⟩, HR5, BK5, HB5⟩
            · have e1 : decide (b0 < 0) = false := decide_eq_false h1
              have e2 : decide (d0 < b0) = true := decide_eq_true (hc.resolve_left h1)
              clear hc h1
              go_wp2
              go_roundg kq
              case measure => have := HI.out; omega
              case rel => exact ⟨i + 1, by first | rfl | rw [hw1], ⟨by have := HI.out; omega⟩, by rw [hacc], ⟨by rw [hacc]; exact HS5.out⟩, HR5, BK5, HB5⟩
          · have hacc : accS may l0 (i + 1) = accS may l0 i := by rw [HP.out, hmb, if_neg (fun h => hc h.2)]
            clear HP
            rw [not_or] at hc
            have e1 : decide (b0 < 0) = false := decide_eq_false hc.1
            have e2 : decide (d0 < b0) = false := decide_eq_false hc.2
            clear hc
            go_wp2
            go_roundg kq
            case measure => have := HI.out; omega
            case rel => exact ⟨i + 1, by first | rfl | rw [hw1], ⟨by have := HI.out; omega⟩, by rw [hacc, HBB.out], ⟨by rw [hacc]; exact HO5.out⟩, HR5, BK5, HB5⟩
  · obtain ⟨z, hz⟩ : ∃ z, z = chk 14 l0 := ⟨_, rfl⟩
    simp only [if_neg hk]
    simp only [← hz]
    rw [← hz] at hk CK
    have hk0 : (z == 0) = false := beq_eq_false_iff_ne.mpr hk
    have hk1 : (z != 0) = true := bne_iff_ne.mpr hk
    clear hz hk
    go_enter Try.func55, Try.ntmps55
    go_wp2_with (first | ((with_reducible refine gate_dst (N := 1) rfl ?_); refine box_event ?hg (N := 1) ?hd (cs := #[.slice A0 l0.length c0, .func (.func g) #[] #[]]) (t := 77) ?hr ?_; (case hd => rfl); (case hg => rfl); (case hr => first | (go_simp; done) | (go_simp; rfl)); intro gb hg w7 hbox hb; have HR1 := Aside0.mk (Kd.C_below HR0.out hb); have BK := Aside0.mk hbox; have HB1 := Aside0.mk (below_step HB.out hb); clear hb hbox hg HR0 HB; have d1 := blk_cell BK.out 0) | (go_at_call 43; refine (tug_check.calls A0 c0 l0 14 z _ HR1.out HC0.out CK.out).mono ?_; rintro e w8 ⟨rfl, nd, rfl⟩; have HB2 := Aside0.mk (pw_below_drewN HB1.out nd)))
    go_ret3
    exact ⟨_, rfl, Kd.R_nil _ _ _ _ _, HB2.out⟩
theorem find_callsR (g : Nat) (may : List Int → Bool) (A0 : Option Addr) (c0 : Nat) (l0 : List Int) (heg : ∀ args w, (callFunc g args).run Try.prog w = .ok (.enter g args) w) (hmay : chk 14 l0 = 0 → MayC g may l0.length) (w : World) (hr0 : Kd.C (Kd.int .i64) w A0 l0.length l0) (hc0 : l0.length ≤ c0) (r1 : Int) (r2 : List Int) (r3 : Int) (h0 : r1 = (if chk 14 l0 = 0 then (findS may l0).1 else 0) ∧ r2 = (if chk 14 l0 = 0 then (findS may l0).2 else []) ∧ r3 = chk 14 l0) :
    Calls Try.prog 55 #[.agg #[.slice A0 l0.length c0, .func (.func g) #[] #[]]] w fun e w' => ∃ v0_ : Value, e = .returned (.tuple #[.int .i64 r1, v0_, .int .i64 r3]) ∧ Kd.R (Kd.int .i64) 3 w' w.heap.size (fun _ => True) v0_ r2 ∧ Below w.heap.size w w' := by
  obtain ⟨rfl, rfl, rfl⟩ := h0
  exact find_calls g may A0 c0 l0 heg hmay w hr0 hc0
set_option maxHeartbeats 1000000 in
set_option maxRecDepth 100000 in
theorem tug_Split.calls (A0 : Option Addr) (c0 : Nat) (l0 : List Int) (r1 : Int) (r2 : List Int) (r3 : Int) (w : World) (hr0 : Kd.C (Kd.int .i64) w A0 l0.length l0) (hc0 : l0.length ≤ c0) (h : tug_Split.f l0 = some (r1, r2, r3)) :
    Calls Try.prog 30 #[.slice A0 l0.length c0] w fun e w' => ∃ v0_ : Value, e = .returned (.tuple #[.int .i64 r1, v0_, .int .i64 r3]) ∧ Kd.R (Kd.int .i64) 3 w' w.heap.size (fun _ => True) v0_ r2 ∧ Below w.heap.size w w' := by
  have HR0 := Aside0.mk hr0
  have HC0 := Aside0.mk hc0
  have h0 : r1 = (if chk 14 l0 = 0 then (findS anyS l0).1 else 0) ∧ r2 = (if chk 14 l0 = 0 then (findS anyS l0).2 else []) ∧ r3 = chk 14 l0 := by
    unfold tug_Split.f at h
    split at h
    · rename_i hk
      obtain ⟨rfl, rfl, rfl⟩ : _ ∧ _ ∧ _ := by simpa using Option.some.inj h
      exact ⟨by rw [if_pos hk], by rw [if_pos hk], hk.symm⟩
    · rename_i hk
      obtain ⟨rfl, rfl, rfl⟩ : _ ∧ _ ∧ _ := by simpa using Option.some.inj h
      exact ⟨by rw [if_neg hk], by rw [if_neg hk], rfl⟩
  have H0 := Aside0.mk h0
  have hM : chk 14 l0 = 0 → MayC 54 anyS l0.length := fun hk => fun A c s w _ _ _ _ => any_calls A c s w
  have HM := Aside0.mk hM
  clear hr0 hc0 h h0 hM
  go_enter Try.func30, Try.ntmps30
  go_wp2_with (go_at_call 55; refine (find_callsR 54 anyS A0 c0 l0 (fun args w => enters_ Try.func54 (by kernel_rfl) rfl args w) HM.out _ HR0.out HC0.out r1 r2 r3 H0.out).mono ?_; rintro e w1 ⟨v0, rfl, hq, hb⟩)
  go_ret3
  exact ⟨_, rfl, hq, hb⟩
end Go.Proofs.Ytepgcdjbhmpioaa.Fi
