/- The walk of PackMinimals. -/
import Derived.Test.YtjkfjnempofihaaQPmQG
import Derived.Test.YtjkfjnempofihaaQPmHv
namespace Go.Proofs.Ytjkfjnempofihaa.Fi
open Go.RowKit Go.Shelf Go.Lib Go.Proofs.YtjkfjnempofihaaW.PrintWords Go.Proofs.YtjkfjnempofihaaW.PrintLast Go.Proofs.YtjkfjnempofihaaW.PrintMore
set_option linter.unusedVariables false
set_option linter.unusedSimpArgs false
theorem lit_C3 {w : World} {g c : Nat} {A : Option Addr} {L : List (List Int)} (h : w.heap[g]? = some (.cells #[.slice A L.length c] 22 (0, 0))) (hc : L.length ≤ c) (hr : Kd.C kL w A L.length L) : Kd.C (Kd.slice 25 kL) w (some ⟨g, 0, none⟩) [L].length [L] := by
  refine ⟨rfl, by simp, fun _ => ⟨⟨g, 0, none⟩, rfl, fun j p hj => ?_⟩⟩
  have hj0 : j = 0 := by
    rcases Nat.eq_zero_or_pos j with h0 | h0
    · exact h0
    · rw [List.getElem?_eq_none (by simp; omega)] at hj; cases hj
  subst hj0
  have hp : L = p := by simpa using hj
  subst hp
  refine ⟨[.slice A L.length c], rfl, ⟨A, c, rfl, hc, hr⟩, fun i u hu => ?_⟩
  have hi : i = 0 := by
    rcases Nat.eq_zero_or_pos i with h0 | h0
    · exact h0
    · rw [List.getElem?_eq_none (by simp; omega)] at hu; cases hu
  subst hi
  have hu2 : Value.slice A L.length c = u := by simpa using hu
  subst hu2
  have e : (⟨g, 0, none⟩ : Addr).add (0 * (Kd.slice 25 kL).sz + 0) = ⟨g, 0, none⟩ := by
    rw [Nat.zero_mul]
    rfl
  rw [e, blk_cell h 0]
  rfl
set_option maxHeartbeats 8000000 in
set_option maxRecDepth 100000 in
theorem PackMinimals_walk (n : Int) (A : Option Addr) (c : Nat) (l : List (List Int)) (w : World) (hr : Kd.C kL w A l.length l) (hc : l.length ≤ c) (hn : -9223372036854775808 ≤ n ∧ n ≤ 9223372036854775807) :
    Calls Try.prog 10 #[.agg #[.int .i64 n, .slice A l.length c]] w fun e w' => e = .returned (.bool true) ∧ Below w.heap.size w w' := by
  have HR := Aside0.mk hr
  have HC := Aside0.mk hc
  have HFEW := Aside0.mk (few_ev n l).rounds
  have HLN13 := Aside0.mk (cutG_len l)
  have HL5 := Aside0.mk (cutG_lens l)
  obtain ⟨L, hL⟩ : ∃ L, L = cutG l := ⟨_, rfl⟩
  rw [← hL] at HFEW HLN13 HL5
  clear hr hc hL
  have HLL : Aside0 (∀ x ∈ L, x.length ≤ 100000) := ⟨fun x hx => Nat.le_trans (HL5.out x hx) (by decide)⟩
  have HLN : Aside0 (L.length ≤ 67108864) := ⟨Nat.le_trans HLN13.out (by decide)⟩
  obtain ⟨E, hE⟩ : ∃ E, readErr n L = E := ⟨_, rfl⟩
  have HE := Aside0.mk hE
  have HID : Aside0 (∃ k, woggleref04_Ideal.f k n [L] = some E) := ⟨by
    have h := (ideal_ev n [L] (by simp) (fun x hx => by rw [List.mem_singleton] at hx; subst hx; exact ⟨by have := HLN13.out; omega, fun y hy => by have := HL5.out y hy; omega⟩)).rounds
    rwa [errI_one, hE] at h⟩
  by_cases h0 : E = 0
  · subst h0
    obtain ⟨h12, k, rfl, hk1, hk4, hall⟩ := readErr_ok hE
    have hlens := valid_lens hall
    have HK : Aside0 (k ≤ 100000) := ⟨by omega⟩
    have HLK := Aside0.mk hlens
    obtain ⟨M, hM⟩ : ∃ M, minL L = M := ⟨_, rfl⟩
    have HMM := Aside0.mk hM
    have HM : Aside0 (minimalR (k : Int) L = M) := ⟨by unfold minimalR; rw [if_pos hE, Int.toNat_natCast, ← hM, minL_eq hk4 hlens]⟩
    obtain ⟨D, hD⟩ : ∃ D, minL (L.map radL) = D := ⟨_, rfl⟩
    have HD : Aside0 (radicalR (k : Int) L = D) := ⟨by unfold radicalR; rw [if_pos hE, Int.toNat_natCast, ← hD, radical_eq hk4 hlens]⟩
    have HRA : Aside0 (∃ K, woggleref04_Radical.f K L = some D) := ⟨by rw [← hD]; exact (radical_ev L HK.out HLN.out hlens).rounds⟩
    have HSL1 : Aside0 (∃ K, woggleref01_SameLists.f K M M = some true) := ⟨(sameLists_ev M (by rw [← hM]; have := minL_len L; have := HLN13.out; omega) (fun x hx => by rw [← hM] at hx; rw [minL_lens hlens x hx]; omega)).rounds⟩
    have HSL2 : Aside0 (∃ K, woggleref01_SameLists.f K D D = some true) := ⟨(sameLists_ev D (by rw [← hD]; have := minL_len (L.map radL); rw [List.length_map] at this; have := HLN13.out; omega) (fun x hx => by
      rw [← hD] at hx
      rw [minL_lens (n := k) (fun y hy => by obtain ⟨z, hz, rfl⟩ := List.mem_map.1 hy; unfold radL; rw [List.length_map]; exact hlens z hz) x hx]
      omega)).rounds⟩
    clear hE h12 hk1 hk4 hall hlens hM hD
    go_enter Try.func10, Try.ntmps10
    go_wp2_with (first | ((with_reducible refine gate_dst (N := 1) rfl ?_); refine box_event ?hg (N := 1) ?hd (cs := #[.int .i64 (k : Int), .slice A l.length c]) (t := 24) ?hr ?_; (case hd => rfl); (case hg => rfl); (case hr => first | (go_simp; done) | (go_simp; rfl)); intro gx hgx w1 hbox hb; have b0 := blk_cell hbox 0; have b1 := blk_cell hbox 1; have HR1 := Aside0.mk (Kd.C_below HR.out hb); have HB1 := Aside0.mk hb; clear hbox hgx hb) | (go_at_call 18; obtain ⟨K, hK⟩ := HFEW.out; refine (wogglelaw04_Ideal_few.calls K (k : Int) A c l (k : Int) L w1 HR1.out HC.out hK).mono ?_; rintro e w2 ⟨v2, rfl, hs, hb⟩; obtain ⟨A2, c2, rfl⟩ := Kd.S_slice hs; have HS2 := Aside0.mk (Kd.S_reads' hs).2.2; have HC2 := Aside0.mk (Kd.S_reads' hs).2.1; have HB2 := Aside0.mk (below_step HB1.out hb); clear hs hb hK) | (go_at_call 36; refine (minimal_out (k : Int) A2 c2 L w2 HS2.out HLL.out).mono ?_; rintro e w3 ⟨v3, he, hs, hb⟩; rw [HE.out] at he; rw [HM.out] at hs; subst he; obtain ⟨A3, c3, rfl⟩ := Kd.S_slice hs; have HS3 := Aside0.mk (Kd.S_reads' hs).2.2; have HC3 := Aside0.mk (Kd.S_reads' hs).2.1; have HS23 := Aside0.mk (Kd.C_below HS2.out hb); have HB3 := Aside0.mk (below_step HB2.out hb); clear hs hb) | (go_at_call 41; refine (radical_out (k : Int) A2 c2 L w3 HS23.out HLL.out).mono ?_; rintro e w4 ⟨v4, he, hs, hb⟩; rw [HE.out] at he; rw [HD.out] at hs; subst he; obtain ⟨A4, c4, rfl⟩ := Kd.S_slice hs; have HS4 := Aside0.mk (Kd.S_reads' hs).2.2; have HC4 := Aside0.mk (Kd.S_reads' hs).2.1; have HS24 := Aside0.mk (Kd.C_below HS23.out hb); have HS34 := Aside0.mk (Kd.C_below HS3.out hb); have HB4 := Aside0.mk (below_step HB3.out hb); clear hs hb) | (go_at_call 21; obtain ⟨K, hK⟩ := HID.out; have q := lit_C3 (heap_alloc_new w4 (.cells #[.slice A2 L.length c2] 22)) HC2.out (Kd.C_below HS24.out (below_alloc (Below.refl _ _) _)); refine (woggleref04_Ideal.calls K (k : Int) (some ⟨w4.heap.size, 0, none⟩) 1 [L] 0 _ q (Nat.le_refl _) hK).mono ?_; rintro e w5 ⟨rfl, hd⟩; have HB5 := Aside0.mk (below_step (below_alloc (Below.refl w4.heap.size w4) (.cells #[.slice A2 L.length c2] 22)) hd.below); clear hd hK q) | (go_at_call 23; refine (rmin_calls A2 c2 k L w5 (Kd.C_below HS24.out HB5.out) HLN.out HK.out HLK.out).mono ?_; rintro e w6 ⟨v6, A6, c6, rfl, rfl, h6, h7, hb⟩; rw [HMM.out] at h6 h7; rw [HMM.out]; have HC6 := Aside0.mk h6; have HS6 := Aside0.mk h7; have HB6 := Aside0.mk hb; clear h6 h7 hb) | (go_at_call 26; have q8 := HC8.out; obtain ⟨K, hK⟩ := HSL2.out; refine (woggleref01_SameLists.calls K A4 c4 D A8 c8 D true w8 (Kd.C_below HS4.out (below_step HB5.out (below_step HB6.out (below_step HB7.out HB8.out)))) HC4.out HS8.out q8 hK).mono ?_; rintro e w10 ⟨rfl, hd⟩; have HB10 := Aside0.mk hd.below; clear hd hK q8) | (go_at_call 26; obtain ⟨K, hK⟩ := HSL1.out; refine (woggleref01_SameLists.calls K A3 c3 M A6 c6 M true w6 (Kd.C_below HS34.out (below_step HB5.out HB6.out)) HC3.out HS6.out HC6.out hK).mono ?_; rintro e w7 ⟨rfl, hd⟩; have HB7 := Aside0.mk hd.below; clear hd hK) | (go_at_call 42; obtain ⟨K, hK⟩ := HRA.out; refine (woggleref04_Radical.calls K A2 c2 L D w7 (Kd.C_below HS24.out (below_step HB5.out (below_step HB6.out HB7.out))) HC2.out hK).mono ?_; rintro e w8 ⟨v8, rfl, ⟨A8, c8, rfl, h6, h7⟩, hb⟩; have HC8 := Aside0.mk h6; have HS8 := Aside0.mk h7; have HB8 := Aside0.mk hb; clear h6 h7 hb hK) | (go_at_call 25; refine (lives_calls _).mono ?_; rintro e w9 ⟨rfl, hb⟩; have HB9 := Aside0.mk hb; clear hb))
    go_ret
    exact ⟨rfl, below_step HB4.out (below_step HB5.out (below_step HB6.out (below_step HB7.out (below_step HB8.out (below_step HB10.out HB9.out)))))⟩
  · have HM : Aside0 (minimalR n L = []) := ⟨by unfold minimalR; rw [hE, if_neg h0]⟩
    have HD : Aside0 (radicalR n L = []) := ⟨by unfold radicalR; rw [hE, if_neg h0]⟩
    have d1 : (E != 0) = true := bne_iff_ne.2 h0
    clear hE h0
    go_enter Try.func10, Try.ntmps10
    go_wp2_with (first | ((with_reducible refine gate_dst (N := 1) rfl ?_); refine box_event ?hg (N := 1) ?hd (cs := #[.int .i64 n, .slice A l.length c]) (t := 24) ?hr ?_; (case hd => rfl); (case hg => rfl); (case hr => first | (go_simp; done) | (go_simp; rfl)); intro gx hgx w1 hbox hb; have b0 := blk_cell hbox 0; have b1 := blk_cell hbox 1; have HR1 := Aside0.mk (Kd.C_below HR.out hb); have HB1 := Aside0.mk hb; clear hbox hgx hb) | (go_at_call 18; obtain ⟨K, hK⟩ := HFEW.out; refine (wogglelaw04_Ideal_few.calls K n A c l n L w1 HR1.out HC.out hK).mono ?_; rintro e w2 ⟨v2, rfl, hs, hb⟩; obtain ⟨A2, c2, rfl⟩ := Kd.S_slice hs; have HS2 := Aside0.mk (Kd.S_reads' hs).2.2; have HC2 := Aside0.mk (Kd.S_reads' hs).2.1; have HB2 := Aside0.mk (below_step HB1.out hb); clear hs hb hK) | (go_at_call 36; refine (minimal_out n A2 c2 L w2 HS2.out HLL.out).mono ?_; rintro e w3 ⟨v3, he, hs, hb⟩; rw [HE.out] at he; rw [HM.out] at hs; subst he; obtain ⟨A3, c3, rfl⟩ := Kd.S_slice hs; have HS3 := Aside0.mk (Kd.S_reads' hs).2.2; have HC3 := Aside0.mk (Kd.S_reads' hs).2.1; have HS23 := Aside0.mk (Kd.C_below HS2.out hb); have HB3 := Aside0.mk (below_step HB2.out hb); clear hs hb) | (go_at_call 41; refine (radical_out n A2 c2 L w3 HS23.out HLL.out).mono ?_; rintro e w4 ⟨v4, he, hs, hb⟩; rw [HE.out] at he; rw [HD.out] at hs; subst he; obtain ⟨A4, c4, rfl⟩ := Kd.S_slice hs; have HS4 := Aside0.mk (Kd.S_reads' hs).2.2; have HC4 := Aside0.mk (Kd.S_reads' hs).2.1; have HS24 := Aside0.mk (Kd.C_below HS23.out hb); have HS34 := Aside0.mk (Kd.C_below HS3.out hb); have HB4 := Aside0.mk (below_step HB3.out hb); clear hs hb) | (go_at_call 21; obtain ⟨K, hK⟩ := HID.out; have q := lit_C3 (heap_alloc_new w4 (.cells #[.slice A2 L.length c2] 22)) HC2.out (Kd.C_below HS24.out (below_alloc (Below.refl _ _) _)); refine (woggleref04_Ideal.calls K n (some ⟨w4.heap.size, 0, none⟩) 1 [L] E _ q (Nat.le_refl _) hK).mono ?_; rintro e w5 ⟨rfl, hd⟩; have HB5 := Aside0.mk (below_step (below_alloc (Below.refl w4.heap.size w4) (.cells #[.slice A2 L.length c2] 22)) hd.below); clear hd hK q) | (go_at_call 25; refine (lives_calls _).mono ?_; rintro e w9 ⟨rfl, hb⟩; have HB9 := Aside0.mk hb; clear hb))
    go_ret
    exact ⟨rfl, below_step HB4.out (below_step HB5.out HB9.out)⟩
end Go.Proofs.Ytjkfjnempofihaa.Fi
