/- The walk of PackHas. -/
import Derived.Test.YtjkfjnempofihaaQPhQH
import Derived.Test.YtjkfjnempofihaaQPhM1
namespace Go.Proofs.Ytjkfjnempofihaa.Fi
open Go.RowKit Go.Shelf Go.Lib Go.Proofs.YtjkfjnempofihaaW.PrintWords Go.Proofs.YtjkfjnempofihaaW.PrintLast Go.Proofs.YtjkfjnempofihaaW.PrintMore
set_option linter.unusedVariables false
set_option linter.unusedSimpArgs false
set_option maxHeartbeats 8000000 in
set_option maxRecDepth 100000 in
theorem PackHas_walk (n : Int) (Al : Option Addr) (cl : Nat) (l : List (List Int)) (Ay : Option Addr) (cy : Nat) (y : List Int) (w0 : World) (hr : Kd.C kL w0 Al l.length l) (hc : l.length ≤ cl) (hn : -9223372036854775808 ≤ n ∧ n ≤ 9223372036854775807) (hr2 : Kd.C (Kd.int .i64) w0 Ay y.length y) (hc2 : y.length ≤ cy) (hy : ∀ a ∈ y, (Lit.int .i64 a).wf = true) :
    Calls Try.prog 14 #[.agg #[.int .i64 n, .slice Al l.length cl], .slice Ay y.length cy] w0 fun e w' => e = .returned (.bool true) ∧ Below w0.heap.size w0 w' := by
  have HSl := Aside0.mk hr
  have HCl := Aside0.mk hc
  have HSy := Aside0.mk hr2
  have HCy := Aside0.mk hc2
  have HFEW := Aside0.mk (few_ev n l).rounds
  have HLN13 := Aside0.mk (cutG_len l)
  have HL5 := Aside0.mk (cutG_lens l)
  obtain ⟨L, hL⟩ : ∃ L, L = cutG l := ⟨_, rfl⟩
  rw [← hL] at HFEW HLN13 HL5
  obtain ⟨m, hm⟩ : ∃ m, m = y.take 5 := ⟨_, rfl⟩
  have HCUTm : Aside0 (wogglelaw04_cut.f y = some m) := ⟨by rw [hm]; exact cut_f y⟩
  have HM5 : Aside0 (m.length ≤ 5) := ⟨by rw [hm, List.length_take]; omega⟩
  have HML : Aside0 (m.length ≤ 100000) := ⟨Nat.le_trans HM5.out (by decide)⟩
  clear hr hc hr2 hc2 hy hL hm
  have HLL : Aside0 (∀ x ∈ L, x.length ≤ 100000) := ⟨fun x hx => Nat.le_trans (HL5.out x hx) (by decide)⟩
  have HLN : Aside0 (L.length ≤ 67108864) := ⟨Nat.le_trans HLN13.out (by decide)⟩
  obtain ⟨E, hE⟩ : ∃ E, readErr n L = E := ⟨_, rfl⟩
  have HID : Aside0 (∃ k, woggleref04_Ideal.f k n [L] = some E) := ⟨by
    have h := (ideal_ev n [L] (by simp) (fun x hx => by rw [List.mem_singleton] at hx; subst hx; exact ⟨by have := HLN13.out; omega, fun y hy => by have := HL5.out y hy; omega⟩)).rounds
    rwa [errI_one, hE] at h⟩
  by_cases h0 : E = 0
  · subst h0
    obtain ⟨h12, k, rfl, hk1, hk4, hall⟩ := readErr_ok hE
    have hlens := valid_lens hall
    have HK : Aside0 (k ≤ 100000) := ⟨by omega⟩
    have HMO : Aside0 (∃ K, woggleref04_Monomial.f K (k : Int) m = some (validB k m)) := ⟨by
      have h := (mono_ev (k : Int) m (by have := HM5.out; omega)).rounds
      rwa [monoB_valid hk1] at h⟩
    cases hv : validB k m with
    | false =>
      rw [hv] at HMO
      have HHE : Aside0 (hasE (k : Int) L m = 1) := ⟨by unfold hasE; rw [if_pos hE, Int.toNat_natCast, hv, if_neg (by decide)]⟩
      have HHR : Aside0 (hasR (k : Int) L m = false) := ⟨by unfold hasR; rw [HHE.out, if_neg (by decide)]⟩
      have HOV : Aside0 (overR (k : Int) L m = []) := ⟨by unfold overR; rw [HHE.out, if_neg (by decide)]⟩
      clear hE h12 hk1 hk4 hall hlens hv hn
      go_enter Try.func14, Try.ntmps14
      go_wp2_with (first | (go_at_call 25; refine (lives_calls _).mono ?_; rintro e w8 ⟨rfl, hb⟩; have HB8 := Aside0.mk (hb); clear hb) | (go_at_call 22; obtain ⟨K, hK⟩ := HMO.out; refine (woggleref04_Monomial.calls K (k : Int) Am cm m false w6 (Kd.C_below HSm.out (below_step HB4.out (below_step HB5.out (HB6.out)))) HCm.out hK).mono ?_; rintro e w7 ⟨rfl, hd⟩; have hb := hd.below; have HB7 := Aside0.mk (hb); clear hb hd hK) | (go_at_call 21; obtain ⟨K, hK⟩ := HID.out; have q := lit_C3 (heap_alloc_new w5 (.cells #[.slice AL L.length cL] 22)) HCL.out (Kd.C_below HSL.out (below_step (below_step HB3.out (below_step HB4.out (HB5.out))) (below_alloc (Below.refl w5.heap.size w5) (.cells #[.slice AL L.length cL] 22)))); refine (woggleref04_Ideal.calls K (k : Int) (some ⟨w5.heap.size, 0, none⟩) 1 [L] 0 _ q (Nat.le_refl _) hK).mono ?_; rintro e w6 ⟨rfl, hd⟩; have hb := hd.below; have HB6 := Aside0.mk (below_step (below_alloc (Below.refl w5.heap.size w5) (.cells #[.slice AL L.length cL] 22)) hb); clear hb hd hK q) | (go_at_call 46; refine (over_out (k : Int) AL cL L Am cm m w4 (Kd.C_below HSL.out (below_step HB3.out (HB4.out))) (Kd.C_below HSm.out (HB4.out)) HML.out HLL.out).mono ?_; rintro e w5 ⟨vO, he, hs, hb⟩; rw [HHE.out] at he; rw [HOV.out] at hs; subst he; obtain ⟨AO, cO, rfl⟩ := Kd.S_slice hs; have HSO := Aside0.mk (Kd.S_reads' hs).2.2; have HCO := Aside0.mk (Kd.S_reads' hs).2.1; have HB5 := Aside0.mk (hb); clear hb hs) | (go_at_call 40; refine (has_out (k : Int) AL cL L Am cm m w3 (Kd.C_below HSL.out (HB3.out)) HSm.out HML.out HLL.out).mono ?_; rintro e w4 ⟨he, hb⟩; rw [HHE.out, HHR.out] at he; subst he; have HB4 := Aside0.mk (hb); clear hb) | (go_at_call 19; refine (wogglelaw04_cut.calls Ay cy y m w2 (Kd.C_below HSy.out (below_step HB1.out (HB2.out))) HCy.out HCUTm.out).mono ?_; rintro e w3 ⟨vm, rfl, hs, hb⟩; obtain ⟨Am, cm, rfl⟩ := Kd.R_slice hs; have HSm := Aside0.mk (Kd.R_reads' hs).2.2; have HCm := Aside0.mk (Kd.R_reads' hs).2.1; have HB3 := Aside0.mk (hb); clear hb hs) | (go_at_call 18; obtain ⟨K, hK⟩ := HFEW.out; refine (wogglelaw04_Ideal_few.calls K (k : Int) Al cl l (k : Int) L w1 (Kd.C_below HSl.out (HB1.out)) HCl.out hK).mono ?_; rintro e w2 ⟨vL, rfl, hs, hb⟩; obtain ⟨AL, cL, rfl⟩ := Kd.S_slice hs; have HSL := Aside0.mk (Kd.S_reads' hs).2.2; have HCL := Aside0.mk (Kd.S_reads' hs).2.1; have HB2 := Aside0.mk (hb); clear hb hs hK) | ((with_reducible refine gate_dst (N := 2) rfl ?_); refine box_event ?hg (N := 2) ?hd (cs := #[.int .i64 (k : Int), .slice Al l.length cl]) (t := 24) ?hr ?_; (case hd => rfl); (case hg => rfl); (case hr => first | (go_simp; done) | (go_simp; rfl)); intro gx hgx w1 hbox hb; have b0 := blk_cell hbox 0; have b1 := blk_cell hbox 1; have HB1 := Aside0.mk hb; clear hbox hgx hb))
      go_ret
      exact ⟨rfl, (below_step HB1.out (below_step HB2.out (below_step HB3.out (below_step HB4.out (below_step HB5.out (below_step HB6.out (below_step HB7.out (HB8.out))))))))⟩
    | true =>
      rw [hv] at HMO
      have hmk := valid_len hv
      have HHE : Aside0 (hasE (k : Int) L m = 0) := ⟨by unfold hasE; rw [if_pos hE, Int.toNat_natCast, hv, if_pos rfl]⟩
      obtain ⟨b, hb⟩ : ∃ b, hasL L m = b := ⟨_, rfl⟩
      have HHR : Aside0 (hasR (k : Int) L m = b) := ⟨by unfold hasR; rw [HHE.out, if_pos rfl, Int.toNat_natCast, oneV_valid hv, hasL_pad hk4 hlens hmk, hb]⟩
      have HHA : Aside0 (∃ K, woggleref04_Has.f K L m = some b) := ⟨by
        have h := (has_ev L m (by have := HLN13.out; omega) (by have := HM5.out; omega) (fun g hg => by rw [hlens g hg, hmk]; exact Nat.le_refl _)).rounds
        rwa [hb] at h⟩
      obtain ⟨D, hD⟩ : ∃ D, minL (L.map (overL m)) = D := ⟨_, rfl⟩
      have HOV : Aside0 (overR (k : Int) L m = D) := ⟨by unfold overR; rw [HHE.out, if_pos rfl, Int.toNat_natCast, oneV_valid hv, ← over_eq hk4 hlens hmk, hD]⟩
      have HOE : Aside0 (∃ K, woggleref04_Over.f K L m = some D) := ⟨by rw [← hD]; exact (over_ev L m HK.out HLN.out hlens hmk).rounds⟩
      have HSD : Aside0 (∃ K, woggleref01_SameLists.f K D D = some true) := ⟨(sameLists_ev D (by rw [← hD]; have := minL_len (L.map (overL m)); rw [List.length_map] at this; have := HLN13.out; omega) (fun x hx => by
        rw [← hD] at hx
        rw [minL_lens (n := k) (fun z hz => by obtain ⟨u, hu, rfl⟩ := List.mem_map.1 hz; rw [overL_len, hmk]) x hx]
        omega)).rounds⟩
      clear hE h12 hk1 hk4 hall hlens hv hn hb hD hmk
      go_enter Try.func14, Try.ntmps14
      cases b <;>
      go_wp2_with (first | (go_at_call 25; refine (lives_calls _).mono ?_; rintro e w11 ⟨rfl, hb⟩; have HB11 := Aside0.mk (hb); clear hb) | (go_at_call 26; obtain ⟨K, hK⟩ := HSD.out; refine (woggleref01_SameLists.calls K AO cO D AP cP D true w9 (Kd.C_below HSO.out (below_step HB6.out (below_step HB7.out (below_step HB8.out (HB9.out))))) HCO.out HSP.out HCP.out hK).mono ?_; rintro e w10 ⟨rfl, hd⟩; have hb := hd.below; have HB10 := Aside0.mk (hb); clear hb hd hK) | (go_at_call 47; obtain ⟨K, hK⟩ := HOE.out; refine (woggleref04_Over.calls K AL cL L Am cm m D w8 (Kd.C_below HSL.out (below_step HB3.out (below_step HB4.out (below_step HB5.out (below_step HB6.out (below_step HB7.out (HB8.out))))))) HCL.out (Kd.C_below HSm.out (below_step HB4.out (below_step HB5.out (below_step HB6.out (below_step HB7.out (HB8.out)))))) HCm.out hK).mono ?_; rintro e w9 ⟨vP, rfl, ⟨AP, cP, rfl, h6, h7⟩, hb⟩; have HCP := Aside0.mk h6; have HSP := Aside0.mk h7; have HB9 := Aside0.mk (hb); clear hb h6 h7 hK) | (go_at_call 35; obtain ⟨K, hK⟩ := HHA.out; refine (woggleref04_Has.calls K AL cL L Am cm m _ w7 (Kd.C_below HSL.out (below_step HB3.out (below_step HB4.out (below_step HB5.out (below_step HB6.out (HB7.out)))))) HCL.out (Kd.C_below HSm.out (below_step HB4.out (below_step HB5.out (below_step HB6.out (HB7.out))))) HCm.out hK).mono ?_; rintro e w8 ⟨rfl, hd⟩; have hb := hd.below; have HB8 := Aside0.mk (hb); clear hb hd hK) | (go_at_call 22; obtain ⟨K, hK⟩ := HMO.out; refine (woggleref04_Monomial.calls K (k : Int) Am cm m true w6 (Kd.C_below HSm.out (below_step HB4.out (below_step HB5.out (HB6.out)))) HCm.out hK).mono ?_; rintro e w7 ⟨rfl, hd⟩; have hb := hd.below; have HB7 := Aside0.mk (hb); clear hb hd hK) | (go_at_call 21; obtain ⟨K, hK⟩ := HID.out; have q := lit_C3 (heap_alloc_new w5 (.cells #[.slice AL L.length cL] 22)) HCL.out (Kd.C_below HSL.out (below_step (below_step HB3.out (below_step HB4.out (HB5.out))) (below_alloc (Below.refl w5.heap.size w5) (.cells #[.slice AL L.length cL] 22)))); refine (woggleref04_Ideal.calls K (k : Int) (some ⟨w5.heap.size, 0, none⟩) 1 [L] 0 _ q (Nat.le_refl _) hK).mono ?_; rintro e w6 ⟨rfl, hd⟩; have hb := hd.below; have HB6 := Aside0.mk (below_step (below_alloc (Below.refl w5.heap.size w5) (.cells #[.slice AL L.length cL] 22)) hb); clear hb hd hK q) | (go_at_call 46; refine (over_out (k : Int) AL cL L Am cm m w4 (Kd.C_below HSL.out (below_step HB3.out (HB4.out))) (Kd.C_below HSm.out (HB4.out)) HML.out HLL.out).mono ?_; rintro e w5 ⟨vO, he, hs, hb⟩; rw [HHE.out] at he; rw [HOV.out] at hs; subst he; obtain ⟨AO, cO, rfl⟩ := Kd.S_slice hs; have HSO := Aside0.mk (Kd.S_reads' hs).2.2; have HCO := Aside0.mk (Kd.S_reads' hs).2.1; have HB5 := Aside0.mk (hb); clear hb hs) | (go_at_call 40; refine (has_out (k : Int) AL cL L Am cm m w3 (Kd.C_below HSL.out (HB3.out)) HSm.out HML.out HLL.out).mono ?_; rintro e w4 ⟨he, hb⟩; rw [HHE.out, HHR.out] at he; subst he; have HB4 := Aside0.mk (hb); clear hb) | (go_at_call 19; refine (wogglelaw04_cut.calls Ay cy y m w2 (Kd.C_below HSy.out (below_step HB1.out (HB2.out))) HCy.out HCUTm.out).mono ?_; rintro e w3 ⟨vm, rfl, hs, hb⟩; obtain ⟨Am, cm, rfl⟩ := Kd.R_slice hs; have HSm := Aside0.mk (Kd.R_reads' hs).2.2; have HCm := Aside0.mk (Kd.R_reads' hs).2.1; have HB3 := Aside0.mk (hb); clear hb hs) | (go_at_call 18; obtain ⟨K, hK⟩ := HFEW.out; refine (wogglelaw04_Ideal_few.calls K (k : Int) Al cl l (k : Int) L w1 (Kd.C_below HSl.out (HB1.out)) HCl.out hK).mono ?_; rintro e w2 ⟨vL, rfl, hs, hb⟩; obtain ⟨AL, cL, rfl⟩ := Kd.S_slice hs; have HSL := Aside0.mk (Kd.S_reads' hs).2.2; have HCL := Aside0.mk (Kd.S_reads' hs).2.1; have HB2 := Aside0.mk (hb); clear hb hs hK) | ((with_reducible refine gate_dst (N := 2) rfl ?_); refine box_event ?hg (N := 2) ?hd (cs := #[.int .i64 (k : Int), .slice Al l.length cl]) (t := 24) ?hr ?_; (case hd => rfl); (case hg => rfl); (case hr => first | (go_simp; done) | (go_simp; rfl)); intro gx hgx w1 hbox hb; have b0 := blk_cell hbox 0; have b1 := blk_cell hbox 1; have HB1 := Aside0.mk hb; clear hbox hgx hb))
      all_goals go_ret
      all_goals exact ⟨rfl, (below_step HB1.out (below_step HB2.out (below_step HB3.out (below_step HB4.out (below_step HB5.out (below_step HB6.out (below_step HB7.out (below_step HB8.out (below_step HB9.out (below_step HB10.out (HB11.out)))))))))))⟩
  · have HHE : Aside0 (hasE n L m = E) := ⟨by unfold hasE; rw [hE, if_neg h0]⟩
    have HHR : Aside0 (hasR n L m = false) := ⟨by unfold hasR; rw [HHE.out, if_neg h0]⟩
    have HOV : Aside0 (overR n L m = []) := ⟨by unfold overR; rw [HHE.out, if_neg h0]⟩
    have d1 : (E != 0) = true := bne_iff_ne.2 h0
    have d2 : (E == 0) = false := beq_eq_false_iff_ne.2 h0
    clear hE h0 hn
    go_enter Try.func14, Try.ntmps14
    go_wp2_with (first | (go_at_call 25; refine (lives_calls _).mono ?_; rintro e w7 ⟨rfl, hb⟩; have HB7 := Aside0.mk (hb); clear hb) | (go_at_call 21; obtain ⟨K, hK⟩ := HID.out; have q := lit_C3 (heap_alloc_new w5 (.cells #[.slice AL L.length cL] 22)) HCL.out (Kd.C_below HSL.out (below_step (below_step HB3.out (below_step HB4.out (HB5.out))) (below_alloc (Below.refl w5.heap.size w5) (.cells #[.slice AL L.length cL] 22)))); refine (woggleref04_Ideal.calls K n (some ⟨w5.heap.size, 0, none⟩) 1 [L] E _ q (Nat.le_refl _) hK).mono ?_; rintro e w6 ⟨rfl, hd⟩; have hb := hd.below; have HB6 := Aside0.mk (below_step (below_alloc (Below.refl w5.heap.size w5) (.cells #[.slice AL L.length cL] 22)) hb); clear hb hd hK q) | (go_at_call 46; refine (over_out n AL cL L Am cm m w4 (Kd.C_below HSL.out (below_step HB3.out (HB4.out))) (Kd.C_below HSm.out (HB4.out)) HML.out HLL.out).mono ?_; rintro e w5 ⟨vO, he, hs, hb⟩; rw [HHE.out] at he; rw [HOV.out] at hs; subst he; obtain ⟨AO, cO, rfl⟩ := Kd.S_slice hs; have HSO := Aside0.mk (Kd.S_reads' hs).2.2; have HCO := Aside0.mk (Kd.S_reads' hs).2.1; have HB5 := Aside0.mk (hb); clear hb hs) | (go_at_call 40; refine (has_out n AL cL L Am cm m w3 (Kd.C_below HSL.out (HB3.out)) HSm.out HML.out HLL.out).mono ?_; rintro e w4 ⟨he, hb⟩; rw [HHE.out, HHR.out] at he; subst he; have HB4 := Aside0.mk (hb); clear hb) | (go_at_call 19; refine (wogglelaw04_cut.calls Ay cy y m w2 (Kd.C_below HSy.out (below_step HB1.out (HB2.out))) HCy.out HCUTm.out).mono ?_; rintro e w3 ⟨vm, rfl, hs, hb⟩; obtain ⟨Am, cm, rfl⟩ := Kd.R_slice hs; have HSm := Aside0.mk (Kd.R_reads' hs).2.2; have HCm := Aside0.mk (Kd.R_reads' hs).2.1; have HB3 := Aside0.mk (hb); clear hb hs) | (go_at_call 18; obtain ⟨K, hK⟩ := HFEW.out; refine (wogglelaw04_Ideal_few.calls K n Al cl l n L w1 (Kd.C_below HSl.out (HB1.out)) HCl.out hK).mono ?_; rintro e w2 ⟨vL, rfl, hs, hb⟩; obtain ⟨AL, cL, rfl⟩ := Kd.S_slice hs; have HSL := Aside0.mk (Kd.S_reads' hs).2.2; have HCL := Aside0.mk (Kd.S_reads' hs).2.1; have HB2 := Aside0.mk (hb); clear hb hs hK) | ((with_reducible refine gate_dst (N := 2) rfl ?_); refine box_event ?hg (N := 2) ?hd (cs := #[.int .i64 n, .slice Al l.length cl]) (t := 24) ?hr ?_; (case hd => rfl); (case hg => rfl); (case hr => first | (go_simp; done) | (go_simp; rfl)); intro gx hgx w1 hbox hb; have b0 := blk_cell hbox 0; have b1 := blk_cell hbox 1; have HB1 := Aside0.mk hb; clear hbox hgx hb))
    go_ret
    exact ⟨rfl, (below_step HB1.out (below_step HB2.out (below_step HB3.out (below_step HB4.out (below_step HB5.out (below_step HB6.out (HB7.out)))))))⟩
end Go.Proofs.Ytjkfjnempofihaa.Fi
