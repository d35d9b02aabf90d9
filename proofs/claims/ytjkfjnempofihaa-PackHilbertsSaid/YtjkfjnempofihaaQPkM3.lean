/- The walk of PackHilberts. -/
import Derived.Test.YtjkfjnempofihaaQPkQI
import Derived.Test.YtjkfjnempofihaaQPkM1
namespace Go.Proofs.Ytjkfjnempofihaa.Fi
open Go.RowKit Go.Shelf Go.Lib Go.Proofs.YtjkfjnempofihaaW.PrintWords Go.Proofs.YtjkfjnempofihaaW.PrintLast Go.Proofs.YtjkfjnempofihaaW.PrintMore
set_option linter.unusedVariables false
set_option linter.unusedSimpArgs false
set_option maxHeartbeats 8000000 in
set_option maxRecDepth 100000 in
theorem PackHilberts_walk (n : Int) (Al : Option Addr) (cl : Nat) (l : List (List Int)) (d : Int) (w0 : World) (hr : Kd.C kL w0 Al l.length l) (hc : l.length ≤ cl) (hn : -9223372036854775808 ≤ n ∧ n ≤ 9223372036854775807) (hd : (Lit.int .i64 d).wf = true) :
    Calls Try.prog 4 #[.agg #[.int .i64 n, .slice Al l.length cl], .int .i64 d] w0 fun e w' => e = .returned (.bool true) ∧ Below w0.heap.size w0 w' := by
  have HSl := Aside0.mk hr
  have HCl := Aside0.mk hc
  have HFEW := Aside0.mk (few_ev n l).rounds
  have HLN13 := Aside0.mk (cutG_len l)
  have HL5 := Aside0.mk (cutG_lens l)
  obtain ⟨L, hL⟩ : ∃ L, L = cutG l := ⟨_, rfl⟩
  rw [← hL] at HFEW HLN13 HL5
  clear hr hc hL hd
  have HLL : Aside0 (∀ x ∈ L, x.length ≤ 100000) := ⟨fun x hx => Nat.le_trans (HL5.out x hx) (by decide)⟩
  obtain ⟨E, hE⟩ : ∃ E, readErr n L = E := ⟨_, rfl⟩
  have HID : Aside0 (∃ k, woggleref04_Ideal.f k n [L] = some E) := ⟨by
    have h := (ideal_ev n [L] (by simp) (fun x hx => by rw [List.mem_singleton] at hx; subst hx; exact ⟨by have := HLN13.out; omega, fun y hy => by have := HL5.out y hy; omega⟩)).rounds
    rwa [errI_one, hE] at h⟩
  by_cases h0 : E = 0
  · subst h0
    obtain ⟨h12, k, rfl, hk1, hk4, hall⟩ := readErr_ok hE
    have hlens := valid_lens hall
    by_cases hd1 : 16 < d
    · by_cases hd2 : d ≤ 60
      · have p1 : (16 < d) = True := eq_true hd1
        have p2 : (d ≤ 60) = True := eq_true hd2
        have HHE : Aside0 (hilbE (k : Int) L 16 = 0) := ⟨by unfold hilbE; rw [if_pos hE, if_neg (by omega)]⟩
        obtain ⟨R, hR⟩ : ∃ R, cntL L [] (k - 1) 16 = R := ⟨_, rfl⟩
        have HHR : Aside0 (hilbR (k : Int) L 16 = R) := ⟨by unfold hilbR; rw [HHE.out, if_pos rfl, Int.toNat_natCast, show (16 : Int).toNat = 16 by omega, hil_count (by omega) (gens_topN hk1 hk4 hall), ← cntL_eq hk1 hk4 hlens, hR]⟩
        have HHB : Aside0 (∃ K, woggleref04_Hilbert.f K (k : Int) L [] 16 = some R) := ⟨by
          have h := (hilbert_ev k hk4 L HLN13.out hlens (k - 1) [] 16 (by simp; omega) (by omega)).rounds
          rw [hR] at h
          exact h⟩
        clear hE h12 hk1 hk4 hall hlens hn hR hd1 hd2
        go_enter Try.func4, Try.ntmps4
        go_wp2_with (first | (go_at_call 25; refine (lives_calls _).mono ?_; rintro e w6 ⟨rfl, hb⟩; have HB6 := Aside0.mk (hb); clear hb) | (go_at_call 29; obtain ⟨K, hK⟩ := HHB.out; refine (woggleref04_Hilbert.calls K (k : Int) AL cL L none 0 [] 16 R w4 (Kd.C_below HSL.out (below_step HB3.out (HB4.out))) HCL.out ⟨rfl, by simp, fun h => absurd h (by simp)⟩ (Nat.le_refl _) hK).mono ?_; rintro e w5 ⟨rfl, hb⟩; have HB5 := Aside0.mk (hb); clear hb hK) | (go_at_call 21; obtain ⟨K, hK⟩ := HID.out; have q := lit_C3 (heap_alloc_new w3 (.cells #[.slice AL L.length cL] 22)) HCL.out (Kd.C_below HSL.out (below_step (HB3.out) (below_alloc (Below.refl w3.heap.size w3) (.cells #[.slice AL L.length cL] 22)))); refine (woggleref04_Ideal.calls K (k : Int) (some ⟨w3.heap.size, 0, none⟩) 1 [L] 0 _ q (Nat.le_refl _) hK).mono ?_; rintro e w4 ⟨rfl, hd⟩; have hb := hd.below; have HB4 := Aside0.mk (below_step (below_alloc (Below.refl w3.heap.size w3) (.cells #[.slice AL L.length cL] 22)) hb); clear hb hd hK q) | (go_at_call 28; refine (hilb_out (k : Int) AL cL L 16 w2 HSL.out  HLL.out).mono ?_; rintro e w3 ⟨he, hb⟩; rw [HHE.out, HHR.out] at he; subst he; have HB3 := Aside0.mk (hb); clear hb) | (go_at_call 18; obtain ⟨K, hK⟩ := HFEW.out; refine (wogglelaw04_Ideal_few.calls K (k : Int) Al cl l (k : Int) L w1 (Kd.C_below HSl.out (HB1.out)) HCl.out hK).mono ?_; rintro e w2 ⟨vL, rfl, hs, hb⟩; obtain ⟨AL, cL, rfl⟩ := Kd.S_slice hs; have HSL := Aside0.mk (Kd.S_reads' hs).2.2; have HCL := Aside0.mk (Kd.S_reads' hs).2.1; have HB2 := Aside0.mk (hb); clear hb hs hK) | ((with_reducible refine gate_dst (N := 2) rfl ?_); refine box_event ?hg (N := 2) ?hd (cs := #[.int .i64 (k : Int), .slice Al l.length cl]) (t := 24) ?hr ?_; (case hd => rfl); (case hg => rfl); (case hr => first | (go_simp; done) | (go_simp; rfl)); intro gx hgx w1 hbox hb; have b0 := blk_cell hbox 0; have b1 := blk_cell hbox 1; have HB1 := Aside0.mk hb; clear hbox hgx hb))
        go_ret
        exact ⟨rfl, (below_step HB1.out (below_step HB2.out (below_step HB3.out (below_step HB4.out (below_step HB5.out (HB6.out))))))⟩
      · have p1 : (16 < d) = True := eq_true hd1
        have p2 : (d ≤ 60) = False := eq_false hd2
        have p3 : (d < 0) = False := eq_false (by omega)
        have p4 : (60 < d) = True := eq_true (by omega)
        have HHE : Aside0 (hilbE (k : Int) L d = 1) := ⟨by unfold hilbE; rw [if_pos hE, if_pos (by omega)]⟩
        have HHR : Aside0 (hilbR (k : Int) L d = 0) := ⟨by unfold hilbR; rw [HHE.out, if_neg (by decide)]⟩
        clear hE h12 hk1 hk4 hall hlens hn hd1 hd2
        go_enter Try.func4, Try.ntmps4
        go_wp2_with (first | (go_at_call 25; refine (lives_calls _).mono ?_; rintro e w5 ⟨rfl, hb⟩; have HB5 := Aside0.mk (hb); clear hb) | (go_at_call 21; obtain ⟨K, hK⟩ := HID.out; have q := lit_C3 (heap_alloc_new w3 (.cells #[.slice AL L.length cL] 22)) HCL.out (Kd.C_below HSL.out (below_step (HB3.out) (below_alloc (Below.refl w3.heap.size w3) (.cells #[.slice AL L.length cL] 22)))); refine (woggleref04_Ideal.calls K (k : Int) (some ⟨w3.heap.size, 0, none⟩) 1 [L] 0 _ q (Nat.le_refl _) hK).mono ?_; rintro e w4 ⟨rfl, hd⟩; have hb := hd.below; have HB4 := Aside0.mk (below_step (below_alloc (Below.refl w3.heap.size w3) (.cells #[.slice AL L.length cL] 22)) hb); clear hb hd hK q) | (go_at_call 28; refine (hilb_out (k : Int) AL cL L d w2 HSL.out  HLL.out).mono ?_; rintro e w3 ⟨he, hb⟩; rw [HHE.out, HHR.out] at he; subst he; have HB3 := Aside0.mk (hb); clear hb) | (go_at_call 18; obtain ⟨K, hK⟩ := HFEW.out; refine (wogglelaw04_Ideal_few.calls K (k : Int) Al cl l (k : Int) L w1 (Kd.C_below HSl.out (HB1.out)) HCl.out hK).mono ?_; rintro e w2 ⟨vL, rfl, hs, hb⟩; obtain ⟨AL, cL, rfl⟩ := Kd.S_slice hs; have HSL := Aside0.mk (Kd.S_reads' hs).2.2; have HCL := Aside0.mk (Kd.S_reads' hs).2.1; have HB2 := Aside0.mk (hb); clear hb hs hK) | ((with_reducible refine gate_dst (N := 2) rfl ?_); refine box_event ?hg (N := 2) ?hd (cs := #[.int .i64 (k : Int), .slice Al l.length cl]) (t := 24) ?hr ?_; (case hd => rfl); (case hg => rfl); (case hr => first | (go_simp; done) | (go_simp; rfl)); intro gx hgx w1 hbox hb; have b0 := blk_cell hbox 0; have b1 := blk_cell hbox 1; have HB1 := Aside0.mk hb; clear hbox hgx hb))
        go_ret
        exact ⟨rfl, (below_step HB1.out (below_step HB2.out (below_step HB3.out (below_step HB4.out (HB5.out)))))⟩
    · by_cases hd3 : d < 0
      · have p1 : (16 < d) = False := eq_false hd1
        have p3 : (d < 0) = True := eq_true hd3
        have HHE : Aside0 (hilbE (k : Int) L d = 1) := ⟨by unfold hilbE; rw [if_pos hE, if_pos (by omega)]⟩
        have HHR : Aside0 (hilbR (k : Int) L d = 0) := ⟨by unfold hilbR; rw [HHE.out, if_neg (by decide)]⟩
        clear hE h12 hk1 hk4 hall hlens hn hd1 hd3
        go_enter Try.func4, Try.ntmps4
        go_wp2_with (first | (go_at_call 25; refine (lives_calls _).mono ?_; rintro e w5 ⟨rfl, hb⟩; have HB5 := Aside0.mk (hb); clear hb) | (go_at_call 21; obtain ⟨K, hK⟩ := HID.out; have q := lit_C3 (heap_alloc_new w3 (.cells #[.slice AL L.length cL] 22)) HCL.out (Kd.C_below HSL.out (below_step (HB3.out) (below_alloc (Below.refl w3.heap.size w3) (.cells #[.slice AL L.length cL] 22)))); refine (woggleref04_Ideal.calls K (k : Int) (some ⟨w3.heap.size, 0, none⟩) 1 [L] 0 _ q (Nat.le_refl _) hK).mono ?_; rintro e w4 ⟨rfl, hd⟩; have hb := hd.below; have HB4 := Aside0.mk (below_step (below_alloc (Below.refl w3.heap.size w3) (.cells #[.slice AL L.length cL] 22)) hb); clear hb hd hK q) | (go_at_call 28; refine (hilb_out (k : Int) AL cL L d w2 HSL.out  HLL.out).mono ?_; rintro e w3 ⟨he, hb⟩; rw [HHE.out, HHR.out] at he; subst he; have HB3 := Aside0.mk (hb); clear hb) | (go_at_call 18; obtain ⟨K, hK⟩ := HFEW.out; refine (wogglelaw04_Ideal_few.calls K (k : Int) Al cl l (k : Int) L w1 (Kd.C_below HSl.out (HB1.out)) HCl.out hK).mono ?_; rintro e w2 ⟨vL, rfl, hs, hb⟩; obtain ⟨AL, cL, rfl⟩ := Kd.S_slice hs; have HSL := Aside0.mk (Kd.S_reads' hs).2.2; have HCL := Aside0.mk (Kd.S_reads' hs).2.1; have HB2 := Aside0.mk (hb); clear hb hs hK) | ((with_reducible refine gate_dst (N := 2) rfl ?_); refine box_event ?hg (N := 2) ?hd (cs := #[.int .i64 (k : Int), .slice Al l.length cl]) (t := 24) ?hr ?_; (case hd => rfl); (case hg => rfl); (case hr => first | (go_simp; done) | (go_simp; rfl)); intro gx hgx w1 hbox hb; have b0 := blk_cell hbox 0; have b1 := blk_cell hbox 1; have HB1 := Aside0.mk hb; clear hbox hgx hb))
        go_ret
        exact ⟨rfl, (below_step HB1.out (below_step HB2.out (below_step HB3.out (below_step HB4.out (HB5.out)))))⟩
      · obtain ⟨D, rfl⟩ : ∃ D : Nat, d = (D : Int) := ⟨d.toNat, by omega⟩
        have p1 : decide (16 < (D : Int)) = false := decide_eq_false hd1
        have p1n : (16 < D) = False := eq_false (by omega)
        have p3 : decide ((D : Int) < 0) = false := decide_eq_false hd3
        have p4 : decide (60 < (D : Int)) = false := decide_eq_false (by omega)
        have p4n : (60 < D) = False := eq_false (by omega)
        have HHE : Aside0 (hilbE (k : Int) L (D : Int) = 0) := ⟨by unfold hilbE; rw [if_pos hE, if_neg (by omega)]⟩
        obtain ⟨R, hR⟩ : ∃ R, cntL L [] (k - 1) D = R := ⟨_, rfl⟩
        have HHR : Aside0 (hilbR (k : Int) L (D : Int) = R) := ⟨by unfold hilbR; rw [HHE.out, if_pos rfl, Int.toNat_natCast, show ((D : Int) : Int).toNat = D by omega, hil_count (by omega) (gens_topN hk1 hk4 hall), ← cntL_eq hk1 hk4 hlens, hR]⟩
        have HHB : Aside0 (∃ K, woggleref04_Hilbert.f K (k : Int) L [] (D : Int) = some R) := ⟨by
          have h := (hilbert_ev k hk4 L HLN13.out hlens (k - 1) [] D (by simp; omega) (by omega)).rounds
          rw [hR] at h
          exact h⟩
        clear hE h12 hk1 hk4 hall hlens hn hR hd1 hd3
        go_enter Try.func4, Try.ntmps4
        go_wp2_with (first | (go_at_call 25; refine (lives_calls _).mono ?_; rintro e w6 ⟨rfl, hb⟩; have HB6 := Aside0.mk (hb); clear hb) | (go_at_call 29; obtain ⟨K, hK⟩ := HHB.out; refine (woggleref04_Hilbert.calls K (k : Int) AL cL L none 0 [] (D : Int) R w4 (Kd.C_below HSL.out (below_step HB3.out (HB4.out))) HCL.out ⟨rfl, by simp, fun h => absurd h (by simp)⟩ (Nat.le_refl _) hK).mono ?_; rintro e w5 ⟨rfl, hb⟩; have HB5 := Aside0.mk (hb); clear hb hK) | (go_at_call 21; obtain ⟨K, hK⟩ := HID.out; have q := lit_C3 (heap_alloc_new w3 (.cells #[.slice AL L.length cL] 22)) HCL.out (Kd.C_below HSL.out (below_step (HB3.out) (below_alloc (Below.refl w3.heap.size w3) (.cells #[.slice AL L.length cL] 22)))); refine (woggleref04_Ideal.calls K (k : Int) (some ⟨w3.heap.size, 0, none⟩) 1 [L] 0 _ q (Nat.le_refl _) hK).mono ?_; rintro e w4 ⟨rfl, hd⟩; have hb := hd.below; have HB4 := Aside0.mk (below_step (below_alloc (Below.refl w3.heap.size w3) (.cells #[.slice AL L.length cL] 22)) hb); clear hb hd hK q) | (go_at_call 28; refine (hilb_out (k : Int) AL cL L (D : Int) w2 HSL.out  HLL.out).mono ?_; rintro e w3 ⟨he, hb⟩; rw [HHE.out, HHR.out] at he; subst he; have HB3 := Aside0.mk (hb); clear hb) | (go_at_call 18; obtain ⟨K, hK⟩ := HFEW.out; refine (wogglelaw04_Ideal_few.calls K (k : Int) Al cl l (k : Int) L w1 (Kd.C_below HSl.out (HB1.out)) HCl.out hK).mono ?_; rintro e w2 ⟨vL, rfl, hs, hb⟩; obtain ⟨AL, cL, rfl⟩ := Kd.S_slice hs; have HSL := Aside0.mk (Kd.S_reads' hs).2.2; have HCL := Aside0.mk (Kd.S_reads' hs).2.1; have HB2 := Aside0.mk (hb); clear hb hs hK) | ((with_reducible refine gate_dst (N := 2) rfl ?_); refine box_event ?hg (N := 2) ?hd (cs := #[.int .i64 (k : Int), .slice Al l.length cl]) (t := 24) ?hr ?_; (case hd => rfl); (case hg => rfl); (case hr => first | (go_simp; done) | (go_simp; rfl)); intro gx hgx w1 hbox hb; have b0 := blk_cell hbox 0; have b1 := blk_cell hbox 1; have HB1 := Aside0.mk hb; clear hbox hgx hb))
        go_ret
        exact ⟨rfl, (below_step HB1.out (below_step HB2.out (below_step HB3.out (below_step HB4.out (below_step HB5.out (HB6.out))))))⟩
  · have d1 : (E != 0) = true := bne_iff_ne.2 h0
    have d2 : (E == 0) = false := beq_eq_false_iff_ne.2 h0
    have hbad : ∀ d, hilbE n L d = E := fun d => by unfold hilbE; rw [hE, if_neg h0]
    have hbr : ∀ d, hilbR n L d = 0 := fun d => by unfold hilbR; rw [hbad, if_neg h0]
    by_cases hd1 : 16 < d
    · by_cases hd2 : d ≤ 60
      · have p1 : (16 < d) = True := eq_true hd1
        have p2 : (d ≤ 60) = True := eq_true hd2
        have HHE := Aside0.mk (hbad 16)
        have HHR := Aside0.mk (hbr 16)
        clear hE h0 hn hbad hbr hd1 hd2
        go_enter Try.func4, Try.ntmps4
        go_wp2_with (first | (go_at_call 25; refine (lives_calls _).mono ?_; rintro e w5 ⟨rfl, hb⟩; have HB5 := Aside0.mk (hb); clear hb) | (go_at_call 21; obtain ⟨K, hK⟩ := HID.out; have q := lit_C3 (heap_alloc_new w3 (.cells #[.slice AL L.length cL] 22)) HCL.out (Kd.C_below HSL.out (below_step (HB3.out) (below_alloc (Below.refl w3.heap.size w3) (.cells #[.slice AL L.length cL] 22)))); refine (woggleref04_Ideal.calls K n (some ⟨w3.heap.size, 0, none⟩) 1 [L] E _ q (Nat.le_refl _) hK).mono ?_; rintro e w4 ⟨rfl, hd⟩; have hb := hd.below; have HB4 := Aside0.mk (below_step (below_alloc (Below.refl w3.heap.size w3) (.cells #[.slice AL L.length cL] 22)) hb); clear hb hd hK q) | (go_at_call 28; refine (hilb_out n AL cL L 16 w2 HSL.out  HLL.out).mono ?_; rintro e w3 ⟨he, hb⟩; rw [HHE.out, HHR.out] at he; subst he; have HB3 := Aside0.mk (hb); clear hb) | (go_at_call 18; obtain ⟨K, hK⟩ := HFEW.out; refine (wogglelaw04_Ideal_few.calls K n Al cl l n L w1 (Kd.C_below HSl.out (HB1.out)) HCl.out hK).mono ?_; rintro e w2 ⟨vL, rfl, hs, hb⟩; obtain ⟨AL, cL, rfl⟩ := Kd.S_slice hs; have HSL := Aside0.mk (Kd.S_reads' hs).2.2; have HCL := Aside0.mk (Kd.S_reads' hs).2.1; have HB2 := Aside0.mk (hb); clear hb hs hK) | ((with_reducible refine gate_dst (N := 2) rfl ?_); refine box_event ?hg (N := 2) ?hd (cs := #[.int .i64 n, .slice Al l.length cl]) (t := 24) ?hr ?_; (case hd => rfl); (case hg => rfl); (case hr => first | (go_simp; done) | (go_simp; rfl)); intro gx hgx w1 hbox hb; have b0 := blk_cell hbox 0; have b1 := blk_cell hbox 1; have HB1 := Aside0.mk hb; clear hbox hgx hb))
        go_ret
        exact ⟨rfl, (below_step HB1.out (below_step HB2.out (below_step HB3.out (below_step HB4.out (HB5.out)))))⟩
      · have p1 : (16 < d) = True := eq_true hd1
        have p2 : (d ≤ 60) = False := eq_false hd2
        have HHE := Aside0.mk (hbad d)
        have HHR := Aside0.mk (hbr d)
        clear hE h0 hn hbad hbr hd1 hd2
        go_enter Try.func4, Try.ntmps4
        go_wp2_with (first | (go_at_call 25; refine (lives_calls _).mono ?_; rintro e w5 ⟨rfl, hb⟩; have HB5 := Aside0.mk (hb); clear hb) | (go_at_call 21; obtain ⟨K, hK⟩ := HID.out; have q := lit_C3 (heap_alloc_new w3 (.cells #[.slice AL L.length cL] 22)) HCL.out (Kd.C_below HSL.out (below_step (HB3.out) (below_alloc (Below.refl w3.heap.size w3) (.cells #[.slice AL L.length cL] 22)))); refine (woggleref04_Ideal.calls K n (some ⟨w3.heap.size, 0, none⟩) 1 [L] E _ q (Nat.le_refl _) hK).mono ?_; rintro e w4 ⟨rfl, hd⟩; have hb := hd.below; have HB4 := Aside0.mk (below_step (below_alloc (Below.refl w3.heap.size w3) (.cells #[.slice AL L.length cL] 22)) hb); clear hb hd hK q) | (go_at_call 28; refine (hilb_out n AL cL L d w2 HSL.out  HLL.out).mono ?_; rintro e w3 ⟨he, hb⟩; rw [HHE.out, HHR.out] at he; subst he; have HB3 := Aside0.mk (hb); clear hb) | (go_at_call 18; obtain ⟨K, hK⟩ := HFEW.out; refine (wogglelaw04_Ideal_few.calls K n Al cl l n L w1 (Kd.C_below HSl.out (HB1.out)) HCl.out hK).mono ?_; rintro e w2 ⟨vL, rfl, hs, hb⟩; obtain ⟨AL, cL, rfl⟩ := Kd.S_slice hs; have HSL := Aside0.mk (Kd.S_reads' hs).2.2; have HCL := Aside0.mk (Kd.S_reads' hs).2.1; have HB2 := Aside0.mk (hb); clear hb hs hK) | ((with_reducible refine gate_dst (N := 2) rfl ?_); refine box_event ?hg (N := 2) ?hd (cs := #[.int .i64 n, .slice Al l.length cl]) (t := 24) ?hr ?_; (case hd => rfl); (case hg => rfl); (case hr => first | (go_simp; done) | (go_simp; rfl)); intro gx hgx w1 hbox hb; have b0 := blk_cell hbox 0; have b1 := blk_cell hbox 1; have HB1 := Aside0.mk hb; clear hbox hgx hb))
        go_ret
        exact ⟨rfl, (below_step HB1.out (below_step HB2.out (below_step HB3.out (below_step HB4.out (HB5.out)))))⟩
    · have p1 : (16 < d) = False := eq_false hd1
      have HHE := Aside0.mk (hbad d)
      have HHR := Aside0.mk (hbr d)
      clear hE h0 hn hbad hbr hd1
      go_enter Try.func4, Try.ntmps4
      go_wp2_with (first | (go_at_call 25; refine (lives_calls _).mono ?_; rintro e w5 ⟨rfl, hb⟩; have HB5 := Aside0.mk (hb); clear hb) | (go_at_call 21; obtain ⟨K, hK⟩ := HID.out; have q := lit_C3 (heap_alloc_new w3 (.cells #[.slice AL L.length cL] 22)) HCL.out (Kd.C_below HSL.out (below_step (HB3.out) (below_alloc (Below.refl w3.heap.size w3) (.cells #[.slice AL L.length cL] 22)))); refine (woggleref04_Ideal.calls K n (some ⟨w3.heap.size, 0, none⟩) 1 [L] E _ q (Nat.le_refl _) hK).mono ?_; rintro e w4 ⟨rfl, hd⟩; have hb := hd.below; have HB4 := Aside0.mk (below_step (below_alloc (Below.refl w3.heap.size w3) (.cells #[.slice AL L.length cL] 22)) hb); clear hb hd hK q) | (go_at_call 28; refine (hilb_out n AL cL L d w2 HSL.out  HLL.out).mono ?_; rintro e w3 ⟨he, hb⟩; rw [HHE.out, HHR.out] at he; subst he; have HB3 := Aside0.mk (hb); clear hb) | (go_at_call 18; obtain ⟨K, hK⟩ := HFEW.out; refine (wogglelaw04_Ideal_few.calls K n Al cl l n L w1 (Kd.C_below HSl.out (HB1.out)) HCl.out hK).mono ?_; rintro e w2 ⟨vL, rfl, hs, hb⟩; obtain ⟨AL, cL, rfl⟩ := Kd.S_slice hs; have HSL := Aside0.mk (Kd.S_reads' hs).2.2; have HCL := Aside0.mk (Kd.S_reads' hs).2.1; have HB2 := Aside0.mk (hb); clear hb hs hK) | ((with_reducible refine gate_dst (N := 2) rfl ?_); refine box_event ?hg (N := 2) ?hd (cs := #[.int .i64 n, .slice Al l.length cl]) (t := 24) ?hr ?_; (case hd => rfl); (case hg => rfl); (case hr => first | (go_simp; done) | (go_simp; rfl)); intro gx hgx w1 hbox hb; have b0 := blk_cell hbox 0; have b1 := blk_cell hbox 1; have HB1 := Aside0.mk hb; clear hbox hgx hb))
      go_ret
      exact ⟨rfl, (below_step HB1.out (below_step HB2.out (below_step HB3.out (below_step HB4.out (HB5.out)))))⟩
end Go.Proofs.Ytjkfjnempofihaa.Fi
