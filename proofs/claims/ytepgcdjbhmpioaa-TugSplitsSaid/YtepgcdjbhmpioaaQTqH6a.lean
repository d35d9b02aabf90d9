/- The calls of woggleref05.Best. -/
import Derived.Test.YtepgcdjbhmpioaaQTqT8
import Derived.Test.YtepgcdjbhmpioaaQTqH2
namespace Go.Proofs.Ytepgcdjbhmpioaa.Fi
open Go.RowKit Go.Proofs.YtepgcdjbhmpioaaW.PrintWords Go.Proofs.YtepgcdjbhmpioaaW.PrintLast Go.Proofs.YtepgcdjbhmpioaaW.PrintMore
set_option linter.unusedVariables false
set_option linter.unusedSimpArgs false
attribute [local go_sem] eql22 neq22
/-- The least number so far; 0 if there is none. -/
def lstS (a : Int) : Int := if a < 0 then 0 else a
/-- The best is nil if and only if there is none. -/
def BestV (a : Int) (v : Value) : Prop := (a < 0 ∧ v = .slice none 0 0) ∨ (0 ≤ a ∧ ∃ ad n c, v = .slice (some ad) n c)
theorem accS_cases (may : List Int → Bool) (p : List Int) (i : Nat) : accS may p i = (-1, []) ∨ (0 ≤ (accS may p i).1 ∧ (accS may p i).2.length = p.length) := by
  rcases held_fold may p i with ⟨h, _⟩ | ⟨set, _, _, h, _⟩
  · exact .inl h
  · refine .inr ?_
    have e : accS may p i = _ := h
    rw [e]
    exact ⟨diffS_nonneg _ _, sidesS_length _ _⟩
theorem R_some {w : World} {base : Nat} {ok : Nat → Prop} {v : Value} {l : List Int} (h : Kd.R (Kd.int .i64) 3 w base ok v l) (h0 : 0 < l.length) : ∃ ad n c, v = .slice (some ad) n c := by
  obtain ⟨A, c, rfl⟩ := Kd.R_slice h
  obtain ⟨ad, h1, _⟩ := C_int_cell (Kd.R_reads' h).2.2 h0
  exact ⟨ad, _, _, by rw [h1]⟩
theorem bits_sum {s : List Int} (hs : Bits s) : ∀ i, i ≤ s.length → 0 ≤ (s.take i).sum ∧ (s.take i).sum ≤ i
  | 0, _ => by simp
  | i + 1, hi => by
    have := bits_sum hs i (by omega)
    have := hs _ (getD_mem (l := s) (i := i) (by omega))
    rw [sum_snoc s i (by omega)]
    omega
theorem in_even (s : List Int) : woggleref05_in.f ((s.length : Int) - 2 * s.sum) (-1) 1 = some (evS s) := by
  unfold woggleref05_in.f evS
  by_cases h : (s.length : Int) - 2 * s.sum ≥ -1
  · rw [if_pos h]
    congr 1
    rw [decide_eq_decide]
    omega
  · rw [if_neg h]
    congr 1
    symm
    rw [decide_eq_false_iff_not]
    omega
set_option maxHeartbeats 4000000 in
set_option maxRecDepth 100000 in
theorem best_calls (ev : Bool) (A0 : Option Addr) (c0 : Nat) (l0 : List Int) (hok : OkL 14 l0) (w : World) (hr0 : Kd.C (Kd.int .i64) w A0 l0.length l0) (hc0 : l0.length ≤ c0) :
    Calls Try.prog 34 #[.slice A0 l0.length c0, .bool ev] w fun e w' => ∃ v0_ : Value, e = .returned (.tuple #[v0_, .int .i64 (lstS (findS (mayS ev) l0).1)]) ∧ Kd.R (Kd.int .i64) 3 w' w.heap.size (fun _ => True) v0_ (findS (mayS ev) l0).2 ∧ Below w.heap.size w w' := by
  have HR0 := Aside0.mk hr0
  have HC0 := Aside0.mk hc0
  have HB := Aside0.mk (Below.refl w.heap.size w)
  clear hr0 hc0
  obtain ⟨ji6, hji6⟩ : ∃ j_ : Int, (wrap64 ((l0.length : Int) - 1)) = j_ := ⟨_, rfl⟩
  have hji6w : (IntKind.i64.wrap ((l0.length : Int) - 1)) = ji6 := (i64_w _).trans hji6
  have h6 : ji6 = ((l0.length - 1 : Nat) : Int) := by rw [← hji6, wrapS (by have := hok.1; have := hok.2.1; omega)]; have := hok.1; omega
  have c7b0 : (0 ≤ ji6) = True := eq_true (by rw [h6]; omega)
  have c7b1 : decide (0 ≤ (ji6)) = true := decide_eq_true (by rw [h6]; omega)
  obtain ⟨ji8, hji8⟩ : ∃ j_ : Int, (shl .i64 1 (ji6)) = j_ := ⟨_, rfl⟩
  have HJ8 : Aside0 (ji8 = ((2 ^ (l0.length - 1) : Nat) : Int)) := ⟨by rw [← hji8, h6]; exact shl64 _ (by have := hok.2.1; omega)⟩
  have hji8_ : (IntKind.i64.wrap (1 * 2 ^ min (ji6).toNat 64)) = ji8 := hji8
  have hji8z : (ji6) ≤ 64 → (IntKind.i64.wrap (1 * 2 ^ (ji6).toNat)) = ji8 := shl_small hji8
  have hji8u : (IntKind.i64.wrap (2 ^ min (ji6).toNat 64)) = ji8 := by have h_ := hji8_; rw [Int.one_mul] at h_; exact h_
  have hji8v : (ji6) ≤ 64 → (IntKind.i64.wrap (2 ^ (ji6).toNat)) = ji8 := fun hle_ => by have h_ := hji8z hle_; rw [Int.one_mul] at h_; exact h_
  have hji8y : (wrap64 (1 * 2 ^ min (ji6).toNat 64)) = ji8 := (i64_w _).symm.trans hji8_
  have hji8x : (ji6) ≤ 64 → (wrap64 (1 * 2 ^ (ji6).toNat)) = ji8 := fun h_ => (i64_w _).symm.trans (hji8z h_)
  have HOK := Aside0.mk hok
  clear hok h6
  obtain ⟨m, hm⟩ : ∃ m : Nat, m = 2 ^ (l0.length - 1) := ⟨_, rfl⟩
  have HJ : Aside0 (ji8 = (m : Int)) := ⟨by rw [HJ8.out, hm]⟩
  have HMM := Aside0.mk hm
  have HM13 : Aside0 (m ≤ 8192) := ⟨by rw [hm]; exact pow_le13 HOK.out.2.1⟩
  clear HJ8 hm
  go_enter Try.func34, Try.ntmps34
  go_wp2
  go_loopg [6, 7, 8] m (fun kq v6 v7 v8 wr => ∃ i : Nat, v8 = .int .i64 (i : Int) ∧ Aside0 (i + kq = m) ∧ v7 = .int .i64 (lstS (accS (mayS ev) l0 i).1) ∧ Aside0 (BestV (accS (mayS ev) l0 i).1 v6) ∧ Aside0 (Kd.R (Kd.int .i64) 3 wr w.heap.size (fun _ => True) v6 (accS (mayS ev) l0 i).2) ∧ Aside0 (Kd.C (Kd.int .i64) wr A0 l0.length l0) ∧ Aside0 (Below w.heap.size w wr))
  case atStart => exact ⟨0, rfl, ⟨by omega⟩, rfl, ⟨.inl ⟨by show (-1 : Int) < 0; decide, rfl⟩⟩, ⟨Kd.R_nil _ _ _ _ _⟩, HR0, HB⟩
  case round =>
    clear HR0 HB
    obtain ⟨i, rfl, HI, rfl, HBV, HO, HR, HB⟩ := hrel
    cases gk with
    | zero =>
      have hd : decide ((i : Int) < ji8) = false := by rw [HJ.out]; exact decide_eq_false (by have := HI.out; omega)
      go_wp2
      go_ret2
      obtain rfl : i = m := by have := HI.out; omega
      have hf : accS (mayS ev) l0 i = findS (mayS ev) l0 := by unfold accS findS; rw [← HMM.out]
      rw [hf] at HO ⊢
      exact ⟨_, rfl, HO.out, HB.out⟩
    | succ kq =>
      have hd : decide ((i : Int) < ji8) = true := by rw [HJ.out]; exact decide_eq_true (by have := HI.out; omega)
      have hlen := HOK.out.2.1
      obtain ⟨k1, hk1⟩ := (rsides_ev l0.length i (by omega) (by have h1 := HI.out; have := HM13.out; omega)).rounds
      have HK1 := Aside0.mk hk1
      obtain ⟨k2, hk2⟩ := (rDiff_ev l0 (sidesS l0.length i) ⟨HOK.out.1, by omega, HOK.out.2.2⟩ (sidesS_bits _ _) (sidesS_length _ _)).rounds
      have HK2 := Aside0.mk hk2
      have hw1 : wrap64 ((i : Int) + 1) = ((i + 1 : Nat) : Int) := wrapS (by have h1 := HI.out; have := HM13.out; omega)
      have HSB := Aside0.mk (sidesS_bits l0.length i)
      have HSL := Aside0.mk (sidesS_length l0.length i)
      have HIE := Aside0.mk (in_even (sidesS l0.length i))
      have HP := Aside0.mk (accS_succ (mayS ev) l0 i)
      have HBV1 := Aside0.mk (accS_cases (mayS ev) l0 i)
      obtain ⟨s, hs⟩ : ∃ s, s = sidesS l0.length i := ⟨_, rfl⟩
      rw [← hs] at HK1 HK2 HSB HSL HIE HP
      clear hk1 hk2 hs hlen
      go_wp2_with (go_at_call 59; refine (woggleref05_sides.calls k1 (l0.length : Int) (i : Int) _ _ HK1.out).mono ?_; rintro e w1 ⟨v9, rfl, hq, hb⟩; have HO1 := Aside0.mk (Kd.R_below HO.out hb); have HR1 := Aside0.mk (Kd.C_below HR.out hb); have HS1 := Aside0.mk (Kd.R_lower hq (below_size HB.out)); have HB1 := Aside0.mk (below_step HB.out hb); clear hq hb HO HR HB; obtain ⟨As, cs, es⟩ := Kd.R_slice HS1.out; subst es; have HS2 := Aside0.mk (Kd.R_reads' HS1.out))
      obtain ⟨ad, hAs, hcell⟩ := C_int_cell HS2.out.2.2 (by rw [HSL.out]; exact HOK.out.1)
      subst hAs
      have HCELL := Aside0.mk hcell
      clear hcell
      go_loop [10, 11] (fun o x => ∃ j : Nat, j ≤ s.length ∧ x = .int .i64 (j : Int) ∧ o = .int .i64 (s.take j).sum) (fun _ x => s.length - (intOf x).toNat)
      case atStart => exact ⟨0, by omega, rfl, by simp⟩
      case round =>
        obtain ⟨j, hj, rfl, rfl⟩ := hrel
        by_cases hlt : j < s.length
        · have hcj := HCELL.out j hlt
          have hs1 := sum_snoc s j hlt
          have hs2 := bits_sum HSB.out (j + 1) (by omega)
          have hl2 := HSL.out
          have hl3 := HOK.out.2.1
          have hwj : wrap64 ((s.take j).sum + s.getD j 0) = (s.take (j + 1)).sum := by rw [← hs1]; exact wrapS (by omega)
          have hdj : decide ((j : Int) < (s.length : Int)) = true := decide_eq_true (by omega)
          obtain ⟨x, hx⟩ : ∃ x, x = s.getD j 0 := ⟨_, rfl⟩
          rw [← hx] at hcj hwj
          have HW := Aside0.mk hwj
          have hl4 : s.length ≤ 14 := by omega
          clear hs1 hs2 hwj hx hl2 hl3
          go_wp2
          go_round
          case rel => exact ⟨j + 1, by omega, by go_num, by rw [HW.out]⟩
          case measure => simp [intOf]; omega
        · obtain rfl : j = s.length := by omega
          have hdj : decide ((s.length : Int) < (s.length : Int)) = false := by simp
          have hs2 := bits_sum HSB.out s.length (Nat.le_refl _)
          have hl2 := HSL.out
          have hl3 := HOK.out.2.1
          rw [List.take_length] at hs2
          have hwa : wrap64 (2 * s.sum) = 2 * s.sum := wrapS (by omega)
          have hwb : wrap64 ((l0.length : Int) - 2 * s.sum) = (s.length : Int) - 2 * s.sum := by rw [← hl2]; exact wrapS (by omega)
          rw [List.take_length]
          obtain ⟨o, ho⟩ : ∃ o, o = s.sum := ⟨_, rfl⟩
          rw [← ho] at hwa hwb HIE ⊢
          obtain ⟨z, hz⟩ : ∃ z, z = (s.length : Int) - 2 * o := ⟨_, rfl⟩
          rw [← hz] at hwb HIE
          clear hs2 hl2 hl3 ho hz hj hlt
          cases ev with
          | false =>
            have hacc : ∀ b : Bool, (mayS false s = true ∧ ((accS (mayS false) l0 i).1 < 0 ∨ diffS l0 s < (accS (mayS false) l0 i).1)) = (b = true) → accS (mayS false) l0 (i + 1) = if b = true then (diffS l0 s, s) else accS (mayS false) l0 i := fun b hb => by
              rw [HP.out]
              unfold pickS
              simp only [hb]
            have HACC := Aside0.mk hacc
            have hmay : mayS false s = true := rfl
            have HD0 := Aside0.mk (diffS_nonneg l0 s)
            obtain ⟨d0, hd0⟩ : ∃ d, d = diffS l0 s := ⟨_, rfl⟩
            rw [← hd0] at HACC HD0 HK2
            obtain ⟨b0, hb0⟩ : ∃ b, b = (accS (mayS false) l0 i).1 := ⟨_, rfl⟩
            have HB0 := Aside0.mk hb0
            rw [← hb0] at HACC HBV HBV1 ⊢
            have hls : lstS d0 = d0 := by unfold lstS; rw [if_neg (by have := HD0.out; omega)]
            have HLS := Aside0.mk hls
            have hds : 0 < s.length := by rw [HSL.out]; exact HOK.out.1
            have HDS := Aside0.mk hds
            clear hacc hd0 hb0 hls hds HP
            rcases HBV.out with ⟨hneg, rfl⟩ | ⟨hpos, ad2, n2, c2, rfl⟩
            · have HX := Aside0.mk (HACC.out true (by simp [hmay, hneg]))
              clear HACC hmay hneg
              go_wp2_with (go_at_call 29; refine (woggleref05_Difference.calls k2 A0 c0 l0 (some ad) cs s _ _ HR1.out HC0.out HS2.out.2.2 HS2.out.2.1 HK2.out).mono ?_; rintro e w2 ⟨rfl, hb⟩; have HO2 := Aside0.mk (Kd.R_below HO1.out hb); have HR2 := Aside0.mk (Kd.C_below HR1.out hb); have HS3 := Aside0.mk (Kd.R_below HS1.out hb); have HB2 := Aside0.mk (below_step HB1.out hb); clear hb HO1 HR1 HB1)
              have HNX := Aside0.mk (R_some HS3.out HDS.out)
              go_roundg kq
              case measure => have := HI.out; omega
              case rel => exact ⟨i + 1, by first | rfl | rw [hw1], ⟨by have := HI.out; omega⟩, by rw [HX.out]; simp only [if_true]; rw [HLS.out], ⟨by rw [HX.out]; exact .inr ⟨HD0.out, HNX.out⟩⟩, ⟨by rw [HX.out]; exact HS3.out⟩, HR2, HB2⟩
            · have hl0 : lstS b0 = b0 := by unfold lstS; rw [if_neg (by omega)]
              by_cases hc : d0 < b0
              · have HX := Aside0.mk (HACC.out true (by simp [hmay, hc]))
                have e2 : decide (d0 < b0) = true := decide_eq_true hc
                rw [hl0]
                clear HACC hmay hc hl0
                go_wp2_with (go_at_call 29; refine (woggleref05_Difference.calls k2 A0 c0 l0 (some ad) cs s _ _ HR1.out HC0.out HS2.out.2.2 HS2.out.2.1 HK2.out).mono ?_; rintro e w2 ⟨rfl, hb⟩; have HO2 := Aside0.mk (Kd.R_below HO1.out hb); have HR2 := Aside0.mk (Kd.C_below HR1.out hb); have HS3 := Aside0.mk (Kd.R_below HS1.out hb); have HB2 := Aside0.mk (below_step HB1.out hb); clear hb HO1 HR1 HB1)
                have HNX := Aside0.mk (R_some HS3.out HDS.out)
                go_roundg kq
                case measure => have := HI.out; omega
                case rel => exact ⟨i + 1, by first | rfl | rw [hw1], ⟨by have := HI.out; omega⟩, by rw [HX.out]; simp only [if_true]; rw [HLS.out], ⟨by rw [HX.out]; exact .inr ⟨HD0.out, HNX.out⟩⟩, ⟨by rw [HX.out]; exact HS3.out⟩, HR2, HB2⟩
              · have hnn : ¬ b0 < 0 := by omega
                have HX := Aside0.mk (HACC.out false (by simp [hc, hnn]))
                have e2 : decide (d0 < b0) = false := decide_eq_false hc
                have HPB := Aside0.mk hpos
                have HL0 := Aside0.mk hl0
                rw [hl0]
                clear HACC hmay hc hnn hl0 hpos
                go_wp2_with (go_at_call 29; refine (woggleref05_Difference.calls k2 A0 c0 l0 (some ad) cs s _ _ HR1.out HC0.out HS2.out.2.2 HS2.out.2.1 HK2.out).mono ?_; rintro e w2 ⟨rfl, hb⟩; have HO2 := Aside0.mk (Kd.R_below HO1.out hb); have HR2 := Aside0.mk (Kd.C_below HR1.out hb); have HS3 := Aside0.mk (Kd.R_below HS1.out hb); have HB2 := Aside0.mk (below_step HB1.out hb); clear hb HO1 HR1 HB1)
                go_roundg kq
                case measure => have := HI.out; omega
                case rel => exact ⟨i + 1, by first | rfl | rw [hw1], ⟨by have := HI.out; omega⟩, by rw [HX.out]; simp only [Bool.false_eq_true, if_false]; rw [← HB0.out, HL0.out], ⟨by rw [HX.out]; simp only [Bool.false_eq_true, if_false]; rw [← HB0.out]; exact .inr ⟨HPB.out, _, _, _, rfl⟩⟩, ⟨by rw [HX.out]; exact HO2.out⟩, HR2, HB2⟩
          | true =>
            cases hev : evS s with
            | false =>
              rw [hev] at HIE
              have HX : Aside0 (accS (mayS true) l0 (i + 1) = accS (mayS true) l0 i) := ⟨by rw [HP.out]; unfold pickS; rw [if_neg (fun h => by have h1 : evS s = true := h.1; rw [hev] at h1; cases h1)]⟩
              go_wp2_with (go_at_call 48; refine (woggleref05_in.calls z (-1) 1 _ _ HIE.out).mono ?_; rintro e w5 ⟨rfl, nd, rfl⟩; have HO3 := Aside0.mk (Kd.R_drewN HO1.out nd); have HR3 := Aside0.mk (Kd.C_drewN HR1.out nd); have HB3 := Aside0.mk (pw_below_drewN HB1.out nd); clear HO1 HR1 HS1 HB1)
              go_roundg kq
              case measure => have := HI.out; omega
              case rel => exact ⟨i + 1, by first | rfl | rw [hw1], ⟨by have := HI.out; omega⟩, by rw [HX.out], ⟨by rw [HX.out]; exact HBV.out⟩, ⟨by rw [HX.out]; exact HO3.out⟩, HR3, HB3⟩
            | true =>
              rw [hev] at HIE
              have hacc : ∀ b : Bool, (mayS true s = true ∧ ((accS (mayS true) l0 i).1 < 0 ∨ diffS l0 s < (accS (mayS true) l0 i).1)) = (b = true) → accS (mayS true) l0 (i + 1) = if b = true then (diffS l0 s, s) else accS (mayS true) l0 i := fun b hb => by
                rw [HP.out]
                unfold pickS
                simp only [hb]
              have HACC := Aside0.mk hacc
              have hmay : mayS true s = true := hev
              have HD0 := Aside0.mk (diffS_nonneg l0 s)
              obtain ⟨d0, hd0⟩ : ∃ d, d = diffS l0 s := ⟨_, rfl⟩
              rw [← hd0] at HACC HD0 HK2
              obtain ⟨b0, hb0⟩ : ∃ b, b = (accS (mayS true) l0 i).1 := ⟨_, rfl⟩
              have HB0 := Aside0.mk hb0
              rw [← hb0] at HACC HBV HBV1 ⊢
              have hls : lstS d0 = d0 := by unfold lstS; rw [if_neg (by have := HD0.out; omega)]
              have HLS := Aside0.mk hls
              have hds : 0 < s.length := by rw [HSL.out]; exact HOK.out.1
              have HDS := Aside0.mk hds
              clear hacc hd0 hb0 hls hds HP
              rcases HBV.out with ⟨hneg, rfl⟩ | ⟨hpos, ad2, n2, c2, rfl⟩
              · have HX := Aside0.mk (HACC.out true (by simp [hmay, hneg]))
                clear HACC hmay hneg
                go_wp2_with (first | (go_at_call 48; refine (woggleref05_in.calls z (-1) 1 _ _ HIE.out).mono ?_; rintro e w5 ⟨rfl, nd, rfl⟩; have HO3 := Aside0.mk (Kd.R_drewN HO1.out nd); have HR3 := Aside0.mk (Kd.C_drewN HR1.out nd); have HS4 := Aside0.mk (Kd.R_drewN HS1.out nd); have HB3 := Aside0.mk (pw_below_drewN HB1.out nd); have HS5 := Aside0.mk (Kd.R_reads' HS4.out); clear HO1 HR1 HS1 HB1; generalize World.drewN w1 nd = w6 at HO3 HR3 HS4 HB3 HS5 ⊢) | (go_at_call 29; refine (woggleref05_Difference.calls k2 A0 c0 l0 (some ad) cs s _ _ HR3.out HC0.out HS5.out.2.2 HS5.out.2.1 HK2.out).mono ?_; rintro e w2 ⟨rfl, hb⟩; have HO2 := Aside0.mk (Kd.R_below HO3.out hb); have HR2 := Aside0.mk (Kd.C_below HR3.out hb); have HS3 := Aside0.mk (Kd.R_below HS4.out hb); have HB2 := Aside0.mk (below_step HB3.out hb); clear hb HO3 HR3 HB3))
                have HNX := Aside0.mk (R_some HS3.out HDS.out)
                go_roundg kq
                case measure => have := HI.out; omega
                case rel => exact ⟨i + 1, by first | rfl | rw [hw1], ⟨by have := HI.out; omega⟩, by rw [HX.out]; simp only [if_true]; rw [HLS.out], ⟨by rw [HX.out]; exact .inr ⟨HD0.out, HNX.out⟩⟩, ⟨by rw [HX.out]; exact HS3.out⟩, HR2, HB2⟩
              · have hl0 : lstS b0 = b0 := by unfold lstS; rw [if_neg (by omega)]
                by_cases hc : d0 < b0
                · have HX := Aside0.mk (HACC.out true (by simp [hmay, hc]))
                  have e2 : decide (d0 < b0) = true := decide_eq_true hc
                  rw [hl0]
                  clear HACC hmay hc hl0
                  go_wp2_with (first | (go_at_call 48; refine (woggleref05_in.calls z (-1) 1 _ _ HIE.out).mono ?_; rintro e w5 ⟨rfl, nd, rfl⟩; have HO3 := Aside0.mk (Kd.R_drewN HO1.out nd); have HR3 := Aside0.mk (Kd.C_drewN HR1.out nd); have HS4 := Aside0.mk (Kd.R_drewN HS1.out nd); have HB3 := Aside0.mk (pw_below_drewN HB1.out nd); have HS5 := Aside0.mk (Kd.R_reads' HS4.out); clear HO1 HR1 HS1 HB1; generalize World.drewN w1 nd = w6 at HO3 HR3 HS4 HB3 HS5 ⊢) | (go_at_call 29; refine (woggleref05_Difference.calls k2 A0 c0 l0 (some ad) cs s _ _ HR3.out HC0.out HS5.out.2.2 HS5.out.2.1 HK2.out).mono ?_; rintro e w2 ⟨rfl, hb⟩; have HO2 := Aside0.mk (Kd.R_below HO3.out hb); have HR2 := Aside0.mk (Kd.C_below HR3.out hb); have HS3 := Aside0.mk (Kd.R_below HS4.out hb); have HB2 := Aside0.mk (below_step HB3.out hb); clear hb HO3 HR3 HB3))
                  have HNX := Aside0.mk (R_some HS3.out HDS.out)
                  go_roundg kq
                  case measure => have := HI.out; omega
                  case rel => exact ⟨i + 1, by first | rfl | rw [hw1], ⟨by have := HI.out; omega⟩, by rw [HX.out]; simp only [if_true]; rw [HLS.out], ⟨by rw [HX.out]; exact .inr ⟨HD0.out, HNX.out⟩⟩, ⟨by rw [HX.out]; exact HS3.out⟩, HR2, HB2⟩
                · have hnn : ¬ b0 < 0 := by omega
                  have HX := Aside0.mk (HACC.out false (by simp [hc, hnn]))
                  have e2 : decide (d0 < b0) = false := decide_eq_false hc
                  have HPB := Aside0.mk hpos
                  have HL0 := Aside0.mk hl0
                  rw [hl0]
                  clear HACC hmay hc hnn hl0 hpos
                  go_wp2_with (first | (go_at_call 48; refine (woggleref05_in.calls z (-1) 1 _ _ HIE.out).mono ?_; rintro e w5 ⟨rfl, nd, rfl⟩; have HO3 := Aside0.mk (Kd.R_drewN HO1.out nd); have HR3 := Aside0.mk (Kd.C_drewN HR1.out nd); have HS4 := Aside0.mk (Kd.R_drewN HS1.out nd); have HB3 := Aside0.mk (pw_below_drewN HB1.out nd); have HS5 := Aside0.mk (Kd.R_reads' HS4.out); clear HO1 HR1 HS1 HB1; generalize World.drewN w1 nd = w6 at HO3 HR3 HS4 HB3 HS5 ⊢) | (go_at_call 29; refine (woggleref05_Difference.calls k2 A0 c0 l0 (some ad) cs s _ _ HR3.out HC0.out HS5.out.2.2 HS5.out.2.1 HK2.out).mono ?_; rintro e w2 ⟨rfl, hb⟩; have HO2 := Aside0.mk (Kd.R_below HO3.out hb); have HR2 := Aside0.mk (Kd.C_below HR3.out hb); have HS3 := Aside0.mk (Kd.R_below HS4.out hb); have HB2 := Aside0.mk (below_step HB3.out hb); clear hb HO3 HR3 HB3))
                  go_roundg kq
                  case measure => have := HI.out; omega
                  case rel => exact ⟨i + 1, by first | rfl | rw [hw1], ⟨by have := HI.out; omega⟩, by rw [HX.out]; simp only [Bool.false_eq_true, if_false]; rw [← HB0.out, HL0.out], ⟨by rw [HX.out]; simp only [Bool.false_eq_true, if_false]; rw [← HB0.out]; exact .inr ⟨HPB.out, _, _, _, rfl⟩⟩, ⟨by rw [HX.out]; exact HO2.out⟩, HR2, HB2⟩
theorem woggleref05_Best.calls (A0 : Option Addr) (c0 : Nat) (l0 : List Int) (a1 : Bool) (r1 : List Int) (r2 : Int) (w : World) (hr0 : Kd.C (Kd.int .i64) w A0 l0.length l0) (hc0 : l0.length ≤ c0) (h : woggleref05_Best.f l0 a1 = some (r1, r2)) :
    Calls Try.prog 34 #[.slice A0 l0.length c0, .bool a1] w fun e w' => ∃ v0_ : Value, e = .returned (.tuple #[v0_, .int .i64 r2]) ∧ Kd.R (Kd.int .i64) 3 w' w.heap.size (fun _ => True) v0_ r1 ∧ Below w.heap.size w w' := by
  unfold woggleref05_Best.f at h
  by_cases hc : OkL 14 l0 ∧ 0 ≤ (findS (mayS a1) l0).1
  · rw [if_pos hc] at h
    obtain ⟨rfl, rfl⟩ : (findS (mayS a1) l0).2 = r1 ∧ (findS (mayS a1) l0).1 = r2 := by simpa using Option.some.inj h
    have := best_calls a1 A0 c0 l0 hc.1 w hr0 hc0
    have e : lstS (findS (mayS a1) l0).1 = (findS (mayS a1) l0).1 := by unfold lstS; rw [if_neg (by omega)]
    rwa [e] at this
  · rw [if_neg hc] at h
    cases h
end Go.Proofs.Ytepgcdjbhmpioaa.Fi
