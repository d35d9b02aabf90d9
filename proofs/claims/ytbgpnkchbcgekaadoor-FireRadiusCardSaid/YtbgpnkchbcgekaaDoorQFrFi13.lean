-- Printed for this claim over the translation (with hand-proved callees). Lean checks it.
import Derived.Test.YtbgpnkchbcgekaaDoorQFrFi0
import Derived.Test.YtbgpnkchbcgekaaDoorQFrFi1
import Derived.Test.YtbgpnkchbcgekaaDoorQFrFi3
import Derived.Test.YtbgpnkchbcgekaaDoorQFrFi5
import Derived.Test.YtbgpnkchbcgekaaDoorQFrFi6
import Derived.Test.YtbgpnkchbcgekaaDoorQFrFi9
import Derived.Test.YtbgpnkchbcgekaaDoorQFrHbu
import Derived.Test.YtbgpnkchbcgekaaDoorQFrHgr
import Derived.Test.YtbgpnkchbcgekaaDoorQFrHra
import Derived.Test.YtbgpnkchbcgekaaDoorQFrR0
namespace Go.Proofs.YtbgpnkchbcgekaaDoor.Fi
open Go.RowKit Go.Proofs.YtbgpnkchbcgekaaDoorW.PrintWords Go.Proofs.YtbgpnkchbcgekaaDoorW.PrintLast Go.Proofs.YtbgpnkchbcgekaaDoorW.PrintMore
attribute [local go_sem] max2_int min2_int max_two min_two max_three min_three max_four min_four   -- for this text's walks alone
set_option linter.unusedVariables false
set_option linter.unusedSimpArgs false
def wogglelaw06_FireRadius.j0 : Nat → Int → List (S42) → List Int → Int → Int → Bool → Option (Bool)
  | 0, _, _, _, _, _, _ => none
  | k + 1, x5, x6, x7, x9, x10, x45 => if x45 = true then (some false) else (if x10 = 0 then (if (x7.length : Int) ≤ (wrap64 (x9 + 1)) then (some (decide (x9 < x5))) else (some false)) else (if x10 = 5 then ((woggleref06_Near.f k x5 x6).bind fun t472 => ((woggleref06_Connected.f k t472).bind fun t475 => (some (!t475)))) else (some false)))
def wogglelaw06_FireRadius.f (k : Nat) (a0 : Int) (a1 : Int) : Option (Bool) := (wogglelaw06_made.f k a0 a1).bind fun bt461 => ((fire_Burning.f bt461.1 bt461.2).bind fun bt465 => ((fire_Radius.f bt461.1 bt461.2).bind fun bt469 => (if bt465.2 = 0 then (if (bt465.1.length : Int) < 1 then (wogglelaw06_FireRadius.j0 k bt461.1 bt461.2 bt465.1 bt469.1 bt469.2 true) else (if (bt465.1.length : Int) > bt461.1 then (wogglelaw06_FireRadius.j0 k bt461.1 bt461.2 bt465.1 bt469.1 bt469.2 true) else ((wogglelaw06_lives.f k).bind fun t471 => (wogglelaw06_FireRadius.j0 k bt461.1 bt461.2 bt465.1 bt469.1 bt469.2 (!t471))))) else (wogglelaw06_FireRadius.j0 k bt461.1 bt461.2 bt465.1 bt469.1 bt469.2 true))))
set_option maxHeartbeats 8000000 in
set_option maxRecDepth 100000 in
theorem wogglelaw06_FireRadius.calls (k : Nat) (a0 : Int) (a1 : Int) (r : Bool) (w : World) (hT : TabIn w) (h : wogglelaw06_FireRadius.f k a0 a1 = some r) :
    Calls Tryd.prog 10 #[.int .u8 a0, .int .u64 a1] w fun e w' => e = .returned (.bool r) ∧ Below w.heap.size w w' := by
  have HT := Aside0.mk hT
  clear hT
  have HB := Aside0.mk (Below.refl w.heap.size w)
  have H : ((wogglelaw06_made.f k a0 a1).bind fun bt461 => ((fire_Burning.f bt461.1 bt461.2).bind fun bt465 => ((fire_Radius.f bt461.1 bt461.2).bind fun bt469 => (if bt465.2 = 0 then (if (bt465.1.length : Int) < 1 then (wogglelaw06_FireRadius.j0 k bt461.1 bt461.2 bt465.1 bt469.1 bt469.2 true) else (if (bt465.1.length : Int) > bt461.1 then (wogglelaw06_FireRadius.j0 k bt461.1 bt461.2 bt465.1 bt469.1 bt469.2 true) else ((wogglelaw06_lives.f k).bind fun t471 => (wogglelaw06_FireRadius.j0 k bt461.1 bt461.2 bt465.1 bt469.1 bt469.2 (!t471))))) else (wogglelaw06_FireRadius.j0 k bt461.1 bt461.2 bt465.1 bt469.1 bt469.2 true))))) = some r := h
  clear h
  replace H := Option.bind_eq_some_iff.mp H
  obtain ⟨⟨t461, t462⟩, A30, H⟩ := H
  replace H : ((fire_Burning.f t461 t462).bind fun bt465 => ((fire_Radius.f t461 t462).bind fun bt469 => (if bt465.2 = 0 then (if (bt465.1.length : Int) < 1 then (wogglelaw06_FireRadius.j0 k t461 t462 bt465.1 bt469.1 bt469.2 true) else (if (bt465.1.length : Int) > t461 then (wogglelaw06_FireRadius.j0 k t461 t462 bt465.1 bt469.1 bt469.2 true) else ((wogglelaw06_lives.f k).bind fun t471 => (wogglelaw06_FireRadius.j0 k t461 t462 bt465.1 bt469.1 bt469.2 (!t471))))) else (wogglelaw06_FireRadius.j0 k t461 t462 bt465.1 bt469.1 bt469.2 true)))) = some r := H
  have A3 := Aside0.mk A30
  clear A30
  replace H := Option.bind_eq_some_iff.mp H
  obtain ⟨⟨t465, t466⟩, A40, H⟩ := H
  replace H : ((fire_Radius.f t461 t462).bind fun bt469 => (if t466 = 0 then (if (t465.length : Int) < 1 then (wogglelaw06_FireRadius.j0 k t461 t462 t465 bt469.1 bt469.2 true) else (if (t465.length : Int) > t461 then (wogglelaw06_FireRadius.j0 k t461 t462 t465 bt469.1 bt469.2 true) else ((wogglelaw06_lives.f k).bind fun t471 => (wogglelaw06_FireRadius.j0 k t461 t462 t465 bt469.1 bt469.2 (!t471))))) else (wogglelaw06_FireRadius.j0 k t461 t462 t465 bt469.1 bt469.2 true))) = some r := H
  have A4 := Aside0.mk A40
  clear A40
  replace H := Option.bind_eq_some_iff.mp H
  obtain ⟨⟨t469, t470⟩, A50, H⟩ := H
  replace H : (if t466 = 0 then (if (t465.length : Int) < 1 then (wogglelaw06_FireRadius.j0 k t461 t462 t465 t469 t470 true) else (if (t465.length : Int) > t461 then (wogglelaw06_FireRadius.j0 k t461 t462 t465 t469 t470 true) else ((wogglelaw06_lives.f k).bind fun t471 => (wogglelaw06_FireRadius.j0 k t461 t462 t465 t469 t470 (!t471))))) else (wogglelaw06_FireRadius.j0 k t461 t462 t465 t469 t470 true)) = some r := H
  have A5 := Aside0.mk A50
  clear A50
  have HC6 := Aside0.mk H
  clear H
  go_enter Tryd.func10, Tryd.ntmps10
  go_upto_region 4 with (first | ((with_reducible refine gate_callee (f := 23) rfl ?_); refine goesL_ (some 14) rfl rfl Tryd.func23 (by kernel_rfl) rfl #[.int .u8 a0, .int .u64 a1] rfl (by (try simp only [List.map_toArray, List.map_cons, List.map_nil]); first | done | rfl | (simp only [List.length_drop, List.length_take]; rfl)) ?_; (with_reducible refine (wogglelaw06_made.calls k a0 a1 t461 t462 _ A3.out).mono ?_); rintro e w7 ⟨v463, rfl, ho0, hb⟩; refine ⟨_, rfl, ?_⟩; have n0_ := Aside0.mk (Kd.R_lower ho0 (below_size (by repeat (first | (with_reducible first | exact HB.out | apply below_alloc | apply pw_below_drewN | apply below_drew1) | exact HB.out)))); have n1_ := Aside0.mk (below_step (by repeat (first | (with_reducible first | exact HB.out | apply below_alloc | apply pw_below_drewN | apply below_drew1) | exact HB.out)) hb); clear HB; have HO464 := n0_; have HB := n1_; clear n0_ n1_; (try clear hb); (try clear hb2); (try clear hk); (try clear hi); (try clear ho0); obtain ⟨Ao8, co8, eo8⟩ := Kd.R_slice HO464.out; subst eo8) | ((with_reducible refine gate_callee (f := 24) rfl ?_); refine goesL_ (some 20) rfl rfl Tryd.func24 (by kernel_rfl) rfl #[.int .i64 t461, .slice Ao8 t462.length co8] rfl (by (try simp only [List.map_toArray, List.map_cons, List.map_nil]); first | done | rfl | (simp only [List.length_drop, List.length_take]; rfl)) ?_; (with_reducible refine (fire_Burning.calls t461 _ _ t462 t465 t466 _ ?side1 ?side2 (TabIn.below' HT.out (by first | exact Below.refl _ _ | (repeat (first | (with_reducible first | exact HB.out | apply below_alloc | apply pw_below_drewN | apply below_drew1) | exact HB.out)))) A4.out).mono ?_); (case side1 => repeat (first | exact (Kd.R_reads' HO464.out).2.2 | (with_reducible refine Kd.C_alloc ?_ _) | (with_reducible refine Kd.C_drewN ?_ _) | (with_reducible refine Kd.C_drew ?_))); (case side2 => exact (Kd.R_reads' HO464.out).2.1); rintro e w9 ⟨v467, rfl, ho0, hb⟩; refine ⟨_, rfl, ?_⟩; have n0_ := Aside0.mk (Kd.R_below (by (with_reducible repeat (first | apply Kd.R_alloc | apply Kd.R_drewN | apply Kd.R_drew)); exact HO464.out) hb); have n1_ := Aside0.mk (Kd.R_lower ho0 (below_size (by repeat (first | (with_reducible first | exact HB.out | apply below_alloc | apply pw_below_drewN | apply below_drew1) | exact HB.out)))); have n2_ := Aside0.mk (below_step (by repeat (first | (with_reducible first | exact HB.out | apply below_alloc | apply pw_below_drewN | apply below_drew1) | exact HB.out)) hb); clear HO464; clear HB; have HO464 := n0_; have HO468 := n1_; have HB := n2_; clear n0_ n1_ n2_; (try clear hb); (try clear hb2); (try clear hk); (try clear hi); (try clear ho0)) | ((with_reducible refine gate_callee (f := 34) rfl ?_); refine goesL_ (some 26) rfl rfl Tryd.func34 (by kernel_rfl) rfl #[.int .i64 t461, .slice Ao8 t462.length co8] rfl (by (try simp only [List.map_toArray, List.map_cons, List.map_nil]); first | done | rfl | (simp only [List.length_drop, List.length_take]; rfl)) ?_; (with_reducible refine (fire_Radius.calls t461 _ _ t462 t469 t470 _ ?side1 ?side2 A5.out).mono ?_); (case side1 => repeat (first | exact (Kd.R_reads' HO464.out).2.2 | (with_reducible refine Kd.C_alloc ?_ _) | (with_reducible refine Kd.C_drewN ?_ _) | (with_reducible refine Kd.C_drew ?_))); (case side2 => exact (Kd.R_reads' HO464.out).2.1); rintro e w10 ⟨rfl, hb⟩; refine ⟨_, rfl, ?_⟩; have n0_ := Aside0.mk (Kd.R_below (by (with_reducible repeat (first | apply Kd.R_alloc | apply Kd.R_drewN | apply Kd.R_drew)); exact HO464.out) hb); have n1_ := Aside0.mk (Kd.R_below (by (with_reducible repeat (first | apply Kd.R_alloc | apply Kd.R_drewN | apply Kd.R_drew)); exact HO468.out) hb); have n2_ := Aside0.mk (below_step (by repeat (first | (with_reducible first | exact HB.out | apply below_alloc | apply pw_below_drewN | apply below_drew1) | exact HB.out)) hb); clear HO464; clear HO468; clear HB; have HO464 := n0_; have HO468 := n1_; have HB := n2_; clear n0_ n1_ n2_; (try clear hb); (try clear hb2); (try clear hk); (try clear hi)))
  (try simp only [Act.put, List.setIfInBounds_toArray, List.set_cons_zero, List.set_cons_succ])
  go_cut [45] (fun v45 wc => ∃ (kq : Nat) (x45_5 : Bool), v45 = .bool x45_5 ∧ Aside0 (wogglelaw06_FireRadius.j0 kq t461 t462 t465 t469 t470 x45_5 = some r) ∧ Aside0 (kq ≤ k) ∧ Aside0 (Kd.R k42 42 wc w.heap.size (fun _ => True) (.slice Ao8 t462.length co8) t462) ∧ Aside0 (Kd.R (Kd.int .i64) 3 wc w.heap.size (fun _ => True) v467 t465) ∧ Aside0 (Below w.heap.size w wc))
  case first =>
    have H := HC6.out
    clear HC6
    by_cases c11 : t466 = 0
    · rw [if_pos c11] at H
      have c11b0 : (t466 == 0) = true := beq_iff_eq.mpr c11
      have c11b1 : (t466 != 0) = false := bne_eq_false_iff_eq.mpr c11
      clear c11
      (first | rw [c11b0] | (simp only [i64_w, i32_w]; rw [c11b0]) | skip)
      by_cases c12 : (t465.length : Int) < 1
      · rw [if_pos c12] at H
        have c12b0 : decide ((t465.length : Int) < 1) = true := decide_eq_true c12
        have c12b1 : decide (t465.length < 1) = true := decide_eq_true (by omega)
        clear c12
        have H' := Aside0.mk H
        clear H
        obtain ⟨Ao13, co13, eo13⟩ := Kd.R_slice HO468.out
        subst eo13
        go_wp2
        go_meet
        case rel => exact ⟨_, (true), (by first | rfl | (simp; done) | (simp [*]; done)), H', ⟨by first | omega | exact Nat.le_refl _⟩, ⟨by (with_reducible repeat (first | apply Kd.R_alloc | apply Kd.R_drewN | apply Kd.R_drew)); exact HO464.out⟩, ⟨by (with_reducible repeat (first | apply Kd.R_alloc | apply Kd.R_drewN | apply Kd.R_drew)); exact HO468.out⟩, ⟨by repeat (first | (with_reducible first | exact HB.out | apply below_alloc | apply pw_below_drewN | apply below_drew1) | exact HB.out)⟩⟩
      · rw [if_neg c12] at H
        have c12b0 : decide ((t465.length : Int) < 1) = false := decide_eq_false c12
        have c12b1 : decide (t465.length < 1) = false := decide_eq_false (by omega)
        clear c12
        by_cases c14 : (t465.length : Int) > t461
        · rw [if_pos c14] at H
          have c14b0 : decide (t461 < (t465.length : Int)) = true := decide_eq_true c14
          clear c14
          have H' := Aside0.mk H
          clear H
          obtain ⟨Ao15, co15, eo15⟩ := Kd.R_slice HO468.out
          subst eo15
          go_wp2
          go_meet
          case rel => exact ⟨_, (true), (by first | rfl | (simp; done) | (simp [*]; done)), H', ⟨by first | omega | exact Nat.le_refl _⟩, ⟨by (with_reducible repeat (first | apply Kd.R_alloc | apply Kd.R_drewN | apply Kd.R_drew)); exact HO464.out⟩, ⟨by (with_reducible repeat (first | apply Kd.R_alloc | apply Kd.R_drewN | apply Kd.R_drew)); exact HO468.out⟩, ⟨by repeat (first | (with_reducible first | exact HB.out | apply below_alloc | apply pw_below_drewN | apply below_drew1) | exact HB.out)⟩⟩
        · rw [if_neg c14] at H
          have c14b0 : decide (t461 < (t465.length : Int)) = false := decide_eq_false c14
          clear c14
          replace H := Option.bind_eq_some_iff.mp H
          obtain ⟨t471, A160, H⟩ := H
          replace H : (wogglelaw06_FireRadius.j0 k t461 t462 t465 t469 t470 (!t471)) = some r := H
          have A16 := Aside0.mk A160
          clear A160
          have H' := Aside0.mk H
          clear H
          obtain ⟨Ao17, co17, eo17⟩ := Kd.R_slice HO468.out
          subst eo17
          go_wp2_with (first | (go_at_call 19; (with_reducible refine (wogglelaw06_lives.calls k  t471 _ (TabIn.below' HT.out (by first | exact Below.refl _ _ | (repeat (first | (with_reducible first | exact HB.out | apply below_alloc | apply pw_below_drewN | apply below_drew1) | exact HB.out)))) A16.out).mono ?_); rintro e w18 ⟨rfl, hb⟩; have n0_ := Aside0.mk (Kd.R_below (by (with_reducible repeat (first | apply Kd.R_alloc | apply Kd.R_drewN | apply Kd.R_drew)); exact HO464.out) hb); have n1_ := Aside0.mk (Kd.R_below (by (with_reducible repeat (first | apply Kd.R_alloc | apply Kd.R_drewN | apply Kd.R_drew)); exact HO468.out) hb); have n2_ := Aside0.mk (below_step (by repeat (first | (with_reducible first | exact HB.out | apply below_alloc | apply pw_below_drewN | apply below_drew1) | exact HB.out)) hb); clear HO464; clear HO468; clear HB; have HO464 := n0_; have HO468 := n1_; have HB := n2_; clear n0_ n1_ n2_; (try clear hb); (try clear hb2); (try clear hk); (try clear hi)))
          go_meet
          case rel => exact ⟨_, (!t471), (by first | rfl | (simp; done) | (simp [*]; done)), H', ⟨by first | omega | exact Nat.le_refl _⟩, ⟨by (with_reducible repeat (first | apply Kd.R_alloc | apply Kd.R_drewN | apply Kd.R_drew)); exact HO464.out⟩, ⟨by (with_reducible repeat (first | apply Kd.R_alloc | apply Kd.R_drewN | apply Kd.R_drew)); exact HO468.out⟩, ⟨by repeat (first | (with_reducible first | exact HB.out | apply below_alloc | apply pw_below_drewN | apply below_drew1) | exact HB.out)⟩⟩
    · rw [if_neg c11] at H
      have c11b0 : (t466 == 0) = false := beq_eq_false_iff_ne.mpr c11
      have c11b1 : (t466 != 0) = true := bne_iff_ne.mpr c11
      (first | rw [c11b0] | (simp only [i64_w, i32_w]; rw [c11b0]) | skip)
      have H' := Aside0.mk H
      clear H
      go_wp2
      go_meet
      case rel => exact ⟨_, (true), (by first | rfl | (simp; done) | (simp [*]; done)), H', ⟨by first | omega | exact Nat.le_refl _⟩, ⟨by (with_reducible repeat (first | apply Kd.R_alloc | apply Kd.R_drewN | apply Kd.R_drew)); exact HO464.out⟩, ⟨by (with_reducible repeat (first | apply Kd.R_alloc | apply Kd.R_drewN | apply Kd.R_drew)); exact HO468.out⟩, ⟨by repeat (first | (with_reducible first | exact HB.out | apply below_alloc | apply pw_below_drewN | apply below_drew1) | exact HB.out)⟩⟩
  case rest =>
    clear HC6
    try clear c1
    try clear c2
    try clear p2
    try clear c3
    try clear c10
    try clear c11
    try clear c11b0
    try clear c11b1
    try clear c12
    try clear c12b0
    try clear c12b1
    try clear c14
    try clear c14b0
    obtain ⟨kq, x45_5, rfl, HA, HJ5, HO_6, HO_7, HB⟩ := hcut
    cases kq with
    | zero => exact absurd HA.out (by simp [wogglelaw06_FireRadius.j0])
    | succ kj5 =>
      have H := HA.out
      clear HA
      simp only [wogglelaw06_FireRadius.j0] at H
      by_cases c19 : x45_5 = true
      · subst c19
        have H1 : (some false) = some r := by rw [if_pos rfl] at H; exact H
        clear H
        have H := H1
        clear H1
        obtain rfl := Option.some.inj H
        go_wp2
        go_ret
        exact ⟨by first | rfl | (simp [errW_none, errW_some] <;> rfl) | (simp [*, errW_none, errW_some] <;> rfl), by repeat (first | (with_reducible first | exact HB.out | apply below_alloc | apply pw_below_drewN | apply below_drew1) | exact HB.out)⟩
      · replace c19 := Bool.eq_false_iff.mpr c19
        subst c19
        have H1 : (if t470 = 0 then (if (t465.length : Int) ≤ (wrap64 (t469 + 1)) then (some (decide (t469 < t461))) else (some false)) else (if t470 = 5 then ((woggleref06_Near.f kj5 t461 t462).bind fun t472 => ((woggleref06_Connected.f kj5 t472).bind fun t475 => (some (!t475)))) else (some false))) = some r := by rw [if_neg (show ¬ (false = true) by decide)] at H; exact H
        clear H
        have H := H1
        clear H1
        by_cases c20 : t470 = 0
        · rw [if_pos c20] at H
          have c20b0 : (t470 == 0) = true := beq_iff_eq.mpr c20
          have c20b1 : (t470 != 0) = false := bne_eq_false_iff_eq.mpr c20
          clear c20
          by_cases c21 : (t465.length : Int) ≤ (wrap64 (t469 + 1))
          · rw [if_pos c21] at H
            have c21b0 : decide ((t465.length : Int) ≤ (wrap64 (t469 + 1))) = true := decide_eq_true c21
            clear c21
            obtain rfl := Option.some.inj H
            obtain ⟨Ao22, co22, eo22⟩ := Kd.R_slice HO_7.out
            subst eo22
            go_wp2
            go_ret
            exact ⟨by first | rfl | (simp [errW_none, errW_some] <;> rfl) | (simp [*, errW_none, errW_some] <;> rfl), by repeat (first | (with_reducible first | exact HB.out | apply below_alloc | apply pw_below_drewN | apply below_drew1) | exact HB.out)⟩
          · rw [if_neg c21] at H
            have c21b0 : decide ((t465.length : Int) ≤ (wrap64 (t469 + 1))) = false := decide_eq_false c21
            clear c21
            obtain rfl := Option.some.inj H
            obtain ⟨Ao23, co23, eo23⟩ := Kd.R_slice HO_7.out
            subst eo23
            go_wp2
            go_ret
            exact ⟨by first | rfl | (simp [errW_none, errW_some] <;> rfl) | (simp [*, errW_none, errW_some] <;> rfl), by repeat (first | (with_reducible first | exact HB.out | apply below_alloc | apply pw_below_drewN | apply below_drew1) | exact HB.out)⟩
        · rw [if_neg c20] at H
          have c20b0 : (t470 == 0) = false := beq_eq_false_iff_ne.mpr c20
          have c20b1 : (t470 != 0) = true := bne_iff_ne.mpr c20
          by_cases c24 : t470 = 5
          · rw [if_pos c24] at H
            have c24b0 : (t470 == 5) = true := beq_iff_eq.mpr c24
            have c24b1 : (t470 != 5) = false := bne_eq_false_iff_eq.mpr c24
            clear c24
            replace H := Option.bind_eq_some_iff.mp H
            obtain ⟨t472, A250, H⟩ := H
            replace H : ((woggleref06_Connected.f kj5 t472).bind fun t475 => (some (!t475))) = some r := H
            have A25 := Aside0.mk A250
            clear A250
            replace H := Option.bind_eq_some_iff.mp H
            obtain ⟨t475, A260, H⟩ := H
            replace H : (some (!t475)) = some r := H
            have A26 := Aside0.mk A260
            clear A260
            obtain rfl := Option.some.inj H
            go_wp2_with (first | (go_at_call 21; (with_reducible refine (woggleref06_Near.calls kj5 t461 _ _ t462 t472 _ ?side1 ?side2 A25.out).mono ?_); (case side1 => repeat (first | exact (Kd.R_reads' HO_6.out).2.2 | (with_reducible refine Kd.C_alloc ?_ _) | (with_reducible refine Kd.C_drewN ?_ _) | (with_reducible refine Kd.C_drew ?_))); (case side2 => exact (Kd.R_reads' HO_6.out).2.1); rintro e w27 ⟨v473, rfl, ho0, hb⟩; have n0_ := Aside0.mk (Kd.R_below (by (with_reducible repeat (first | apply Kd.R_alloc | apply Kd.R_drewN | apply Kd.R_drew)); exact HO_6.out) hb); have n1_ := Aside0.mk (Kd.R_elder' (by (with_reducible repeat (first | apply Kd.R_alloc | apply Kd.R_drewN | apply Kd.R_drew)); exact HO_7.out) (Kd.R_base ho0) hb); have n2_ := Aside0.mk (Kd.R_lower (Kd.R_new' ho0 (Kd.R_lt (by (with_reducible repeat (first | apply Kd.R_alloc | apply Kd.R_drewN | apply Kd.R_drew)); exact HO_7.out))) (below_size (by repeat (first | (with_reducible first | exact HB.out | apply below_alloc | apply pw_below_drewN | apply below_drew1) | exact HB.out)))); have n3_ := Aside0.mk (below_step (by repeat (first | (with_reducible first | exact HB.out | apply below_alloc | apply pw_below_drewN | apply below_drew1) | exact HB.out)) hb); clear HO_6; clear HO_7; clear HB; have HO_6 := n0_; have HO_7 := n1_; have HO474 := n2_; have HB := n3_; clear n0_ n1_ n2_ n3_; (try clear hb); (try clear hb2); (try clear hk); (try clear hi); (try clear ho0); obtain ⟨Ao28, co28, eo28⟩ := Kd.R_slice HO474.out; subst eo28) | (go_at_call 36; (with_reducible refine (woggleref06_Connected.calls kj5 _ _ t472 t475 _ ?side1 ?side2 A26.out).mono ?_); (case side1 => repeat (first | exact (Kd.R_reads' HO474.out).2.2 | (with_reducible refine Kd.C_alloc ?_ _) | (with_reducible refine Kd.C_drewN ?_ _) | (with_reducible refine Kd.C_drew ?_))); (case side2 => exact (Kd.R_reads' HO474.out).2.1); rintro e w' ⟨rfl, ⟨nd, rfl⟩⟩))
            go_ret
            exact ⟨by first | rfl | (simp [errW_none, errW_some] <;> rfl) | (simp [*, errW_none, errW_some] <;> rfl), by repeat (first | (with_reducible first | exact HB.out | apply below_alloc | apply pw_below_drewN | apply below_drew1) | exact HB.out)⟩
          · rw [if_neg c24] at H
            have c24b0 : (t470 == 5) = false := beq_eq_false_iff_ne.mpr c24
            have c24b1 : (t470 != 5) = true := bne_iff_ne.mpr c24
            obtain rfl := Option.some.inj H
            go_wp2
            go_ret
            exact ⟨by first | rfl | (simp [errW_none, errW_some] <;> rfl) | (simp [*, errW_none, errW_some] <;> rfl), by repeat (first | (with_reducible first | exact HB.out | apply below_alloc | apply pw_below_drewN | apply below_drew1) | exact HB.out)⟩
end Go.Proofs.YtbgpnkchbcgekaaDoor.Fi
