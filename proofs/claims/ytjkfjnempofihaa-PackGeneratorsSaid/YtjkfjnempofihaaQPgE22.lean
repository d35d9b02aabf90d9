/- The calls of the exported Hilbert. -/
import Derived.Test.YtjkfjnempofihaaQPgE20
import Derived.Test.YtjkfjnempofihaaQPgQC
namespace Go.Proofs.Ytjkfjnempofihaa.Fi
open Go.RowKit Go.Shelf Go.Lib Go.Proofs.YtjkfjnempofihaaW.PrintWords Go.Proofs.YtjkfjnempofihaaW.PrintLast Go.Proofs.YtjkfjnempofihaaW.PrintMore
set_option linter.unusedVariables false
set_option linter.unusedSimpArgs false
def hilbE (n : Int) (gens : List (List Int)) (d : Int) : Int := if readErr n gens = 0 then (if d < 0 ∨ 60 < d then 1 else 0) else readErr n gens
/-- Hilbert. -/
def hilbR (n : Int) (gens : List (List Int)) (d : Int) : Int := if hilbE n gens d = 0 then hilT (numS (gens.map padM)) (n.toNat - 1) d.toNat (numS (gens.map padM)).length else 0
set_option maxHeartbeats 4000000 in
set_option maxRecDepth 100000 in
theorem hilb_out (n : Int) (A : Option Addr) (c : Nat) (gens : List (List Int)) (d : Int) (w : World) (hr : Kd.C kL w A gens.length gens) (hll : ∀ l ∈ gens, l.length ≤ 100000) :
    Calls Try.prog 28 #[.int .i64 n, .slice A gens.length c, .int .i64 d] w fun e w' => e = .returned (.tuple #[.int .i64 (hilbR n gens d), .int .i64 (hilbE n gens d)]) ∧ Below w.heap.size w w' := by
  have HR := Aside0.mk hr
  have HLL := Aside0.mk hll
  have HB0 := Aside0.mk (Below.refl w.heap.size w)
  unfold hilbR hilbE
  obtain ⟨E, hE⟩ : ∃ E, E = readErr n gens := ⟨_, rfl⟩
  by_cases h0 : E = 0
  rotate_left
  · have HE : Aside0 (readErr n gens ≠ 0) := ⟨by rw [← hE]; exact h0⟩
    have HEE := Aside0.mk hE.symm
    have d1 : (E != 0) = true := bne_iff_ne.2 h0
    rw [if_neg HE.out, ← hE, if_neg h0]
    clear hr hll hE h0
    go_enter Try.func28, Try.ntmps28
    go_wp2_with ((go_at_call 52; refine (read_calls n A c gens w HR.out HLL.out).mono ?_; rintro e w2 ⟨⟨he, ho⟩, hb⟩; have e2 := ho HE.out; rw [HEE.out] at e2; subst e2; clear he ho; have HB2 := Aside0.mk hb; clear hb))
    go_ret2
    exact ⟨rfl, HB2.out⟩
  subst h0
  have HE := Aside0.mk hE.symm
  obtain ⟨h12, k, hnk, hk1, hk4, hall⟩ := readErr_ok hE.symm
  subst hnk
  have HL : Aside0 ((gens.map padM).length ≤ 12) := ⟨by rw [List.length_map]; exact h12⟩
  have HK4 := Aside0.mk hk4
  have HK1 := Aside0.mk hk1
  have HALL := Aside0.mk hall
  clear hr hll hE h12 hk1 hk4 hall
  rw [if_pos HE.out, Int.toNat_natCast]
  by_cases hd : d < 0 ∨ 60 < d
  · rw [if_pos hd, if_neg (by decide)]
    by_cases hd1 : d < 0
    · have d1 : decide (d < 0) = true := decide_eq_true hd1
      clear hd hd1
      go_enter Try.func28, Try.ntmps28
      go_wp2_with (first | (go_at_call 52; refine (read_calls (k : Int) A c gens w HR.out HLL.out).mono ?_; rintro e w2 ⟨⟨he, ho⟩, hb⟩; obtain ⟨g, v, e2, hg, hi⟩ := he HE.out; subst e2; obtain ⟨Av, cv, ev, -⟩ := hi.row.slice; subst ev; have HI2 := Aside0.mk hi; clear he ho hi hg; have HB2 := Aside0.mk hb; clear hb))
      go_ret2
      exact ⟨rfl, HB2.out⟩
    · have d1 : decide (d < 0) = false := decide_eq_false hd1
      have d2 : decide (60 < d) = true := decide_eq_true (by omega)
      clear hd hd1
      go_enter Try.func28, Try.ntmps28
      go_wp2_with (first | (go_at_call 52; refine (read_calls (k : Int) A c gens w HR.out HLL.out).mono ?_; rintro e w2 ⟨⟨he, ho⟩, hb⟩; obtain ⟨g, v, e2, hg, hi⟩ := he HE.out; subst e2; obtain ⟨Av, cv, ev, -⟩ := hi.row.slice; subst ev; have HI2 := Aside0.mk hi; clear he ho hi hg; have HB2 := Aside0.mk hb; clear hb))
      go_ret2
      exact ⟨rfl, HB2.out⟩
  rw [if_neg hd, if_pos rfl]
  obtain ⟨D, rfl⟩ : ∃ D : Nat, d = (D : Int) := ⟨d.toNat, by omega⟩
  rw [Int.toNat_natCast]
  have d1 : decide ((D : Int) < 0) = false := decide_eq_false (by omega)
  have d2 : decide (60 < (D : Int)) = false := decide_eq_false (by omega)
  have HD : Aside0 (D ≤ 60) := ⟨by omega⟩
  have HGD := Aside0.mk (gens_Gd HK1.out HALL.out)
  obtain ⟨C, hC⟩ : ∃ C, numS (gens.map padM) = C := ⟨_, rfl⟩
  have HCE := Aside0.mk hC
  have HCB : Aside0 (∀ j, -1000000 ≤ cf C j ∧ cf C j ≤ 1000000) := ⟨by rw [← hC]; exact numS_bound HGD.out HL.out⟩
  rw [hC]
  obtain ⟨LC, hLC⟩ : ∃ LC, C.length = LC := ⟨_, rfl⟩
  have HLC := Aside0.mk hLC
  have HL25 : Aside0 (LC ≤ 25) := ⟨by rw [← hLC, ← hC]; exact numS_len _⟩
  rw [hLC]
  have HTF : Aside0 (∀ i, i ≤ 1000 → i ≤ D → wrap64 (hilT C (k - 1) D i + wrap64 (cf C i * cF (k - 1) ((D - i : Nat) : Int))) = hilT C (k - 1) D (i + 1)) := ⟨fun i h1 h2 => by
    have := hil_step C (k - 1) D (by have := HK4.out; omega) HD.out HCB.out i h1 h2
    rw [show ((D - i : Nat) : Int) = (D : Int) - (i : Int) by omega]
    exact this⟩
  obtain ⟨T, hT⟩ : ∃ T, T = hilT C (k - 1) D := ⟨_, rfl⟩
  have HT0 : Aside0 (T 0 = 0) := ⟨by rw [hT]; rfl⟩
  have HTN : Aside0 (∀ i, D < i → T (i + 1) = T i) := ⟨fun i h => by rw [hT, hilT, if_neg (by omega)]⟩
  rw [← hT] at HTF ⊢
  clear hd hC hLC hT
  go_enter Try.func28, Try.ntmps28
  go_wp2_with (first | (go_at_call 52; refine (read_calls (k : Int) A c gens w HR.out HLL.out).mono ?_; rintro e w2 ⟨⟨he, ho⟩, hb⟩; obtain ⟨g, v, e2, hg, hi⟩ := he HE.out; subst e2; obtain ⟨Av, cv, ev, -⟩ := hi.row.slice; subst ev; have HI2 := Aside0.mk hi; clear he ho hi hg; have HB2 := Aside0.mk hb; clear hb) | (go_at_call 65; refine (num_calls g (k : Int) _ (gens.map padM) _ HI2.out HL.out HGD.out).mono ?_; rintro e w3 ⟨v3, rfl, hs, hb⟩; rw [HCE.out] at hs; obtain ⟨A3, c3, e3⟩ := Kd.R_slice hs; subst e3; rw [HLC.out] at hs; rw [HLC.out]; have HS3 := Aside0.mk hs; have HB3 := Aside0.mk (below_step HB2.out hb); clear hs hb))
  clear d1 d2
  go_loopg [10, 11, 12, 33] LC (fun kq v10 v11 v12 v33 wr => ∃ (i : Nat), v33 = .int .i64 (i : Int) ∧ v10 = .int .i64 (T i) ∧ Aside0 (i + kq = LC) ∧ Aside0 (RI wr w2.heap.size (.slice A3 LC c3) C) ∧ Aside0 (Below w.heap.size w wr))
  case atStart => exact ⟨0, rfl, by rw [HT0.out], ⟨by omega⟩, HS3, HB3⟩
  case round =>
    clear HS3 HB3
    obtain ⟨i, rfl, rfl, HI, HS, HB⟩ := hrel
    cases gk with
    | zero =>
      obtain rfl : i = LC := by have := HI.out; omega
      have hd : decide ((i : Int) < (i : Int)) = false := by simp
      go_wp2
      go_ret2
      exact ⟨rfl, HB.out⟩
    | succ kq =>
      have hi : i < LC := by have := HI.out; omega
      have hq4 : ((i : Int) < (LC : Int)) = True := eq_true (by omega)
      have hw1 : wrap64 ((i : Int) + 1) = ((i + 1 : Nat) : Int) := wrapS (by have := HL25.out; omega)
      have hrd := (Kd.R_reads' HS.out).2.2
      obtain ⟨ad, hA, hcell⟩ := C_int_cell hrd (by rw [HLC.out]; omega)
      subst hA
      have hcm := hcell i (by rw [HLC.out]; exact hi)
      obtain ⟨x, hx⟩ : ∃ x, x = cf C i := ⟨_, rfl⟩
      have hcm2 : wr.cell? (ad.add i) = some (.int .i64 x) := by rw [hx]; exact hcm
      have HST := Aside0.mk (HTF.out i (by have := HL25.out; omega))
      have HSN := Aside0.mk (HTN.out i)
      rw [← hx] at HST
      clear hrd hcell hcm hx
      by_cases hj : i ≤ D
      · have hjd : ((i : Int) ≤ (D : Int)) = True := eq_true (by omega)
        have hjw : wrap64 ((D : Int) - (i : Int)) = ((D - i : Nat) : Int) := by rw [wrapS (by have := HD.out; omega)]; omega
        have HMO : Aside0 (∃ K, pack_monomials.f K (k : Int) ((D - i : Nat) : Int) = some (cF (k - 1) ((D - i : Nat) : Int))) := ⟨by
          have h := mono_some (k - 1) (by have := HK4.out; omega) (D - i) (by have := HD.out; omega)
          rw [show ((k - 1 : Nat) : Int) + 1 = (k : Int) by have := HK1.out; omega] at h
          exact h⟩
        obtain ⟨y, hy⟩ : ∃ y, y = cF (k - 1) ((D - i : Nat) : Int) := ⟨_, rfl⟩
        have hst := HST.out hj
        rw [← hy] at HMO hst
        obtain ⟨t, ht⟩ : ∃ t, t = T i := ⟨_, rfl⟩
        rw [← ht] at hst ⊢
        clear hy ht HST HSN hj
        go_wp2_with (first | (go_at_call 66; obtain ⟨K, hK⟩ := HMO.out; refine (pack_monomials.calls K (k : Int) ((D - i : Nat) : Int) _ _ hK).mono ?_; rintro e w5 ⟨rfl, hd⟩; have HB5 := Aside0.mk hd.below; clear hd hK))
        go_roundg kq
        case measure => have := HI.out; omega
        case rel => exact ⟨i + 1, by first | rfl | rw [hw1], by first | rw [hst] | (simp only [hst]), ⟨by have := HI.out; omega⟩, ⟨RI.below HS.out HB5.out⟩, ⟨below_step HB.out HB5.out⟩⟩
      · have hjd : ((i : Int) ≤ (D : Int)) = False := eq_false (by omega)
        have hst := HSN.out (by omega)
        clear HST HSN hj
        go_wp2
        go_roundg kq
        case measure => have := HI.out; omega
        case rel => exact ⟨i + 1, by first | rfl | rw [hw1], by rw [hst], ⟨by have := HI.out; omega⟩, HS, HB⟩
end Go.Proofs.Ytjkfjnempofihaa.Fi
