/- The walk of PackGenerators. -/
import Derived.Test.YtjkfjnempofihaaQPgQJ
import Derived.Test.YtjkfjnempofihaaQPgM1
import Derived.Test.YtjkfjnempofihaaQPgR1
namespace Go.Proofs.Ytjkfjnempofihaa.Fi
open Go.RowKit Go.Shelf Go.Lib Go.Proofs.YtjkfjnempofihaaW.PrintWords Go.Proofs.YtjkfjnempofihaaW.PrintLast Go.Proofs.YtjkfjnempofihaaW.PrintMore
set_option linter.unusedVariables false
set_option linter.unusedSimpArgs false
set_option maxHeartbeats 8000000 in
set_option maxRecDepth 100000 in
theorem PackGenerators_walk (n : Int) (Ax : Option Addr) (cx : Nat) (xs : List M4) (y : M4) (w0 : World) (hn : 0 ≤ n ∧ n ≤ 255) (hx : Kd.C kU w0 Ax xs.length xs) (hxc : xs.length ≤ cx) (hx8 : ∀ x ∈ xs, U8 x) (hy : U8 y) :
    Calls Try.prog 9 #[.int .u8 n, .slice Ax xs.length cx, .agg (encU y).toArray] w0 fun e w' => e = .returned (.bool true) ∧ Below w0.heap.size w0 w' := by
  have HN8 := Aside0.mk hn
  have HXxs := Aside0.mk hx
  have HX8xs := Aside0.mk hx8
  obtain ⟨y0, y1, y2, y3⟩ := y
  have HY8 := Aside0.mk hy
  obtain ⟨k, hk⟩ : ∃ k, madK n = k := ⟨_, rfl⟩
  have HMK := Aside0.mk hk
  obtain ⟨hk1, hk4⟩ := madK_in hn.1
  rw [hk] at hk1 hk4
  have hall := madV_valid hn.1 xs 12
  have h12 := madV_len n xs 12
  rw [hk] at hall
  obtain ⟨L, hL⟩ : ∃ L, madV n xs 12 = L := ⟨_, rfl⟩
  have HMVL := Aside0.mk hL
  rw [hL] at hall h12
  have hlens := valid_lens hall
  have he0 := readErr_valid hk1 hk4 h12 hall
  have HE0 := Aside0.mk he0
  obtain ⟨M, hM⟩ : ∃ M, minL L = M := ⟨_, rfl⟩
  have hMv : M.all (validB k) = true := by rw [← hM]; exact minL_valid hall
  have hM12 : M.length ≤ 12 := by rw [← hM]; exact Nat.le_trans (minL_len L) h12
  have hMl := valid_lens hMv
  have he1 := readErr_valid hk1 hk4 hM12 hMv
  have HE1 := Aside0.mk he1
  have HM1 : Aside0 (minimalR (k : Int) L = M) := ⟨by unfold minimalR; rw [if_pos he0, Int.toNat_natCast, ← hM, minL_eq hk4 hlens]⟩
  have HM2 : Aside0 (minimalR (k : Int) M = M) := ⟨by unfold minimalR; rw [if_pos he1, Int.toNat_natCast, ← minL_eq hk4 hMl, ← hM, minL_minL]⟩
  have HLL : Aside0 (∀ x ∈ L, x.length ≤ 100000) := ⟨fun x hx => by rw [hlens x hx]; omega⟩
  have HLM : Aside0 (∀ x ∈ M, x.length ≤ 100000) := ⟨fun x hx => by rw [hMl x hx]; omega⟩
  have HK4 := Aside0.mk hk4
  obtain ⟨m, hm⟩ : ∃ m, monV [y0, y1, y2, y3] k = m := ⟨_, rfl⟩
  have HMM := Aside0.mk hm
  have hmv : validB k m = true := by rw [← hm]; exact monV_valid (y0, y1, y2, y3) hk1 hk4
  have hmk := valid_len hmv
  have HML : Aside0 (m.length ≤ 100000) := ⟨by omega⟩
  obtain ⟨b, hb⟩ : ∃ b, hasL L m = b := ⟨_, rfl⟩
  have HHE : Aside0 (hasE (k : Int) L m = 0) := ⟨by unfold hasE; rw [if_pos he0, Int.toNat_natCast, hmv, if_pos rfl]⟩
  have HHR : Aside0 (hasR (k : Int) L m = b) := ⟨by unfold hasR; rw [HHE.out, if_pos rfl, Int.toNat_natCast, oneV_valid hmv, hasL_pad hk4 hlens hmk, hb]⟩
  have HHA : Aside0 (∃ K, woggleref04_Has.f K M m = some b) := ⟨by
    have h := (has_ev M m (by omega) (by omega) (fun g hg => by rw [hMl g hg, hmk]; exact Nat.le_refl _)).rounds
    rwa [← hM, hasL_min hk4 hlens hmk, hb, hM] at h⟩
  have HSD : Aside0 (∃ K, woggleref01_SameLists.f K M M = some true) := ⟨(sameLists_ev M (by omega) (fun x hx => by rw [hMl x hx]; omega)).rounds⟩
  have HID : Aside0 (∃ K, woggleref04_Ideal.f K (k : Int) [M] = some 0) := ⟨by
    have h := (ideal_ev (k : Int) [M] (by simp) (fun x hx => by rw [List.mem_singleton] at hx; subst hx; exact ⟨by omega, fun y hy => by rw [hMl y hy]; omega⟩)).rounds
    rwa [errI_one, he1] at h⟩
  clear hn hx hxc hx8 hy hk hL hk1 hk4 hall h12 hlens he0 hM hMv hM12 hMl he1 hm hmv hmk hb
  show Calls Try.prog 9 #[.int .u8 n, .slice Ax xs.length cx, .agg #[.int .u8 y0, .int .u8 y1, .int .u8 y2, .int .u8 y3]] w0 _
  go_enter Try.func9, Try.ntmps9
  cases b <;>
  go_wp2_with (first | (go_at_call 35; obtain ⟨K, hK⟩ := HHA.out; refine (woggleref04_Has.calls K AM cM M Am cm m _ w9 (Kd.C_below HSM.out (below_step HB5.out (below_step HB6.out (below_step HB7.out (below_step HB8.out (HB9.out)))))) HCM.out (Kd.C_below HSm.out (below_step HB4.out (below_step HB5.out (below_step HB6.out (below_step HB7.out (below_step HB8.out (HB9.out))))))) HCm.out hK).mono ?_; rintro e w10 ⟨rfl, hd⟩; have hb := hd.below; have HB10 := Aside0.mk (hb); clear hb hd hK) | (go_at_call 25; refine (lives_calls _).mono ?_; rintro e w9 ⟨rfl, hb⟩; have HB9 := Aside0.mk (hb); clear hb) | (go_at_call 21; obtain ⟨K, hK⟩ := HID.out; have q := lit_C3 (heap_alloc_new w7 (.cells #[.slice AM M.length cM] 22)) HCM.out (Kd.C_below HSM.out (below_step (below_step HB5.out (below_step HB6.out (HB7.out))) (below_alloc (Below.refl w7.heap.size w7) (.cells #[.slice AM M.length cM] 22)))); refine (woggleref04_Ideal.calls K (k : Int) (some ⟨w7.heap.size, 0, none⟩) 1 [M] 0 _ q (Nat.le_refl _) hK).mono ?_; rintro e w8 ⟨rfl, hd⟩; have hb := hd.below; have HB8 := Aside0.mk (below_step (below_alloc (Below.refl w7.heap.size w7) (.cells #[.slice AM M.length cM] 22)) hb); clear hb hd hK q) | (go_at_call 26; obtain ⟨K, hK⟩ := HSD.out; refine (woggleref01_SameLists.calls K AM cM M AN cN M true w6 (Kd.C_below HSM.out (below_step HB5.out (HB6.out))) HCM.out (Kd.C_below HSN.out (HB6.out)) HCN.out hK).mono ?_; rintro e w7 ⟨rfl, hd⟩; have hb := hd.below; have HB7 := Aside0.mk (hb); clear hb hd hK) | (go_at_call 40; refine (has_out (k : Int) AL cL L Am cm m w5 (Kd.C_below HSL.out (below_step HB3.out (below_step HB4.out (HB5.out)))) (Kd.C_below HSm.out (below_step HB4.out (HB5.out))) HML.out HLL.out).mono ?_; rintro e w6 ⟨he, hb⟩; rw [HHE.out, HHR.out] at he; subst he; have HB6 := Aside0.mk (hb); clear hb) | (go_at_call 36; refine (minimal_out (k : Int) AM cM M  w4 HSM.out  HLM.out).mono ?_; rintro e w5 ⟨vN, he, hs, hb⟩; rw [HE1.out] at he; rw [HM2.out] at hs; subst he; obtain ⟨AN, cN, rfl⟩ := Kd.S_slice hs; have HSN := Aside0.mk (Kd.S_reads' hs).2.2; have HCN := Aside0.mk (Kd.S_reads' hs).2.1; have HB5 := Aside0.mk (hb); clear hb hs) | (go_at_call 36; refine (minimal_out (k : Int) AL cL L  w3 (Kd.C_below HSL.out (HB3.out))  HLL.out).mono ?_; rintro e w4 ⟨vM, he, hs, hb⟩; rw [HE0.out] at he; rw [HM1.out] at hs; subst he; obtain ⟨AM, cM, rfl⟩ := Kd.S_slice hs; have HSM := Aside0.mk (Kd.S_reads' hs).2.2; have HCM := Aside0.mk (Kd.S_reads' hs).2.1; have HB4 := Aside0.mk (hb); clear hb hs) | (go_at_call 34; refine (monomial_calls k y0 y1 y2 y3 w2 HK4.out HY8.out.1 HY8.out.2.1 HY8.out.2.2.1 HY8.out.2.2.2).mono ?_; rintro e w3 ⟨vm, rfl, hs, hb⟩; rw [HMM.out] at hs; obtain ⟨Am, cm, rfl⟩ := Kd.R_slice hs; have HSm := Aside0.mk (Kd.R_reads' hs).2.2; have HCm := Aside0.mk (Kd.R_reads' hs).2.1; have HB3 := Aside0.mk (hb); clear hb hs) | (go_at_call 33; refine (made_calls n Ax cx xs 12 w1 HN8.out (Kd.C_below HXxs.out (HB1.out)) HX8xs.out (by decide)).mono ?_; rintro e w2 ⟨vL, rfl, hs, hb⟩; rw [HMVL.out] at hs; obtain ⟨AL, cL, rfl⟩ := Kd.S_slice hs; rw [HMK.out]; have HSL := Aside0.mk (Kd.S_reads' hs).2.2; have HCL := Aside0.mk (Kd.S_reads' hs).2.1; have by_ := blk_below (blk_below BX.out (Below.refl _ _)) hb; have s0 := blk_cell by_ 0; have s1 := blk_cell by_ 1; have s2 := blk_cell by_ 2; have s3 := blk_cell by_ 3; have HB2 := Aside0.mk (hb); clear hb hs by_) | ((with_reducible refine gate_dst (N := 5) rfl ?_); refine box_event ?hg (N := 5) ?hd (cs := #[.int .u8 y0, .int .u8 y1, .int .u8 y2, .int .u8 y3]) (t := 51) ?hr ?_; (case hd => rfl); (case hg => rfl); (case hr => first | (go_simp; done) | (go_simp; rfl)); intro gx hgx w1 hbox hb; have BX := Aside0.mk hbox; have HB1 := Aside0.mk hb; clear hbox hgx hb))
  all_goals go_ret
  all_goals exact ⟨rfl, (below_step HB1.out (below_step HB2.out (below_step HB3.out (below_step HB4.out (below_step HB5.out (below_step HB6.out (below_step HB7.out (below_step HB8.out (below_step HB9.out (HB10.out))))))))))⟩
end Go.Proofs.Ytjkfjnempofihaa.Fi
