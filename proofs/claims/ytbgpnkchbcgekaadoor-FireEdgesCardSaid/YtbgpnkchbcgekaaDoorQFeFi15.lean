-- Printed for this claim over the translation (with hand-proved callees). Lean checks it.
import Derived.Test.YtbgpnkchbcgekaaDoorQFeFi0
import Derived.Test.YtbgpnkchbcgekaaDoorQFeFi5
import Derived.Test.YtbgpnkchbcgekaaDoorQFeFi9
import Derived.Test.YtbgpnkchbcgekaaDoorQFeHbu
import Derived.Test.YtbgpnkchbcgekaaDoorQFeHc2
import Derived.Test.YtbgpnkchbcgekaaDoorQFeR1
namespace Go.Proofs.YtbgpnkchbcgekaaDoor.Fi
open Go.RowKit Go.Proofs.YtbgpnkchbcgekaaDoorW.PrintWords Go.Proofs.YtbgpnkchbcgekaaDoorW.PrintLast Go.Proofs.YtbgpnkchbcgekaaDoorW.PrintMore
attribute [local go_sem] max2_int min2_int max_two min_two max_three min_three max_four min_four   -- for this text's walks alone
set_option linter.unusedVariables false
set_option linter.unusedSimpArgs false
def wogglelaw06_FireEdges.f (k : Nat) (a0 : Int) (a1 : Int) (a2_0 : Int) (a2_1 : Int) (a2_2 : Int) : Option (Bool) := (wogglelaw06_made.f k a0 a1).bind fun bt611 => (if bt611.1 < 2 then ((wogglelaw06_lives.f k).bind fun t615 => (some t615)) else (if bt611.1 = 0 then (none) else ((some (([] : List (S42)) : List (S42))).bind fun y616 => (if y616.length + bt611.2.length < 8796093022208 then ((some (y616 ++ bt611.2 : List (S42))).bind fun y619 => (if (wrap64 (bt611.1 - 1)) = 0 then (none) else ((some (([(⟨Int.tmod (wrap64 (a2_0)) bt611.1, Int.tmod (wrap64 ((wrap64 ((Int.tmod (wrap64 (a2_0)) bt611.1) + 1)) + (Int.tmod (wrap64 (a2_1)) (wrap64 (bt611.1 - 1))))) bt611.1⟩ : S42)] : List (S42)) : List (S42))).bind fun y622 => (if y619.length + y622.length < 8796093022208 then ((some (y619 ++ y622 : List (S42))).bind fun y625 => ((fire_Best.f bt611.1 bt611.2 (Int.tmod (wrap64 (a2_2)) bt611.1)).bind fun bt628 => ((fire_Best.f bt611.1 y625 (Int.tmod (wrap64 (a2_2)) bt611.1)).bind fun bt633 => ((fire_Burning.f bt611.1 bt611.2).bind fun bt638 => ((fire_Burning.f bt611.1 y625).bind fun bt642 => (if bt628.2.2 = 0 then (if bt633.2.2 = 0 then (if bt638.2 = 0 then (if bt642.2 = 0 then (if bt633.1 ≤ bt628.1 then (if (bt642.1.length : Int) ≤ (bt638.1.length : Int) then ((wogglelaw06_lives.f k).bind fun t646 => (some t646)) else (some false)) else (some false)) else (some false)) else (some false)) else (some false)) else (some false))))))) else (none))))) else (none)))))
def wogglelaw06_FireEdges.T5 : Bool × List (List Nat × List Nat) := (true, [([], []), ([], []), ([0, 1], [0, 1]), ([], []), ([], []), ([4], [4]), ([], []), ([6], [6]), ([7], [7]), ([], []), ([9], [9]), ([8, 10], [8, 10]), ([5, 11], [5, 11]), ([], []), ([12, 13], [12, 13]), ([3, 14], [3, 14]), ([15], [15]), ([2, 16, 2], [2, 16]), ([17, 17, 0, 1, 2, 3, 4, 5, 6, 7, 8, 9, 10, 11, 12, 13, 14, 15, 16, 17], [17])])
def wogglelaw06_FireEdges.B5 : List Nat := [0, 0, 3, 0, 0, 16, 0, 64, 192, 0, 512, 1984, 4080, 0, 16368, 32760, 65528, 131071, 262143]
theorem wogglelaw06_FireEdges.tab5 : rtab .any (opsOf Tryd.f4 5) = wogglelaw06_FireEdges.T5 := by kernel_rfl
theorem wogglelaw06_FireEdges.bits5 : waitsOk wogglelaw06_FireEdges.T5.2 wogglelaw06_FireEdges.B5 = true := by kernel_rfl
set_option maxHeartbeats 8000000 in
set_option maxRecDepth 100000 in
theorem wogglelaw06_FireEdges.calls (k : Nat) (a0 : Int) (a1 : Int) (a2_0 : Int) (a2_1 : Int) (a2_2 : Int) (r : Bool) (w : World) (hr_ : r = true) (hT : TabIn w) (h : wogglelaw06_FireEdges.f k a0 a1 a2_0 a2_1 a2_2 = some r) :
    Calls Tryd.prog 4 #[.int .u8 a0, .int .u64 a1, .agg #[.int .u8 a2_0, .int .u8 a2_1, .int .u8 a2_2]] w fun e w' => e = .returned (.bool r) ∧ Below w.heap.size w w' := by
  have HT := Aside0.mk hT
  clear hT
  have HRT := Aside0.mk hr_
  clear hr_
  have hu39 := Tryd.underlying39
  have hu42 := Tryd.underlying42
  have HB := Aside0.mk (Below.refl w.heap.size w)
  have H : ((wogglelaw06_made.f k a0 a1).bind fun bt611 => (if bt611.1 < 2 then ((wogglelaw06_lives.f k).bind fun t615 => (some t615)) else (if bt611.1 = 0 then (none) else ((some (([] : List (S42)) : List (S42))).bind fun y616 => (if y616.length + bt611.2.length < 8796093022208 then ((some (y616 ++ bt611.2 : List (S42))).bind fun y619 => (if (wrap64 (bt611.1 - 1)) = 0 then (none) else ((some (([(⟨Int.tmod (wrap64 (a2_0)) bt611.1, Int.tmod (wrap64 ((wrap64 ((Int.tmod (wrap64 (a2_0)) bt611.1) + 1)) + (Int.tmod (wrap64 (a2_1)) (wrap64 (bt611.1 - 1))))) bt611.1⟩ : S42)] : List (S42)) : List (S42))).bind fun y622 => (if y619.length + y622.length < 8796093022208 then ((some (y619 ++ y622 : List (S42))).bind fun y625 => ((fire_Best.f bt611.1 bt611.2 (Int.tmod (wrap64 (a2_2)) bt611.1)).bind fun bt628 => ((fire_Best.f bt611.1 y625 (Int.tmod (wrap64 (a2_2)) bt611.1)).bind fun bt633 => ((fire_Burning.f bt611.1 bt611.2).bind fun bt638 => ((fire_Burning.f bt611.1 y625).bind fun bt642 => (if bt628.2.2 = 0 then (if bt633.2.2 = 0 then (if bt638.2 = 0 then (if bt642.2 = 0 then (if bt633.1 ≤ bt628.1 then (if (bt642.1.length : Int) ≤ (bt638.1.length : Int) then ((wogglelaw06_lives.f k).bind fun t646 => (some t646)) else (some false)) else (some false)) else (some false)) else (some false)) else (some false)) else (some false))))))) else (none))))) else (none)))))) = some r := h
  clear h
  replace H := Option.bind_eq_some_iff.mp H
  obtain ⟨⟨t611, t612⟩, A40, H⟩ := H
  replace H : (if t611 < 2 then ((wogglelaw06_lives.f k).bind fun t615 => (some t615)) else (if t611 = 0 then (none) else ((some (([] : List (S42)) : List (S42))).bind fun y616 => (if y616.length + t612.length < 8796093022208 then ((some (y616 ++ t612 : List (S42))).bind fun y619 => (if (wrap64 (t611 - 1)) = 0 then (none) else ((some (([(⟨Int.tmod (wrap64 (a2_0)) t611, Int.tmod (wrap64 ((wrap64 ((Int.tmod (wrap64 (a2_0)) t611) + 1)) + (Int.tmod (wrap64 (a2_1)) (wrap64 (t611 - 1))))) t611⟩ : S42)] : List (S42)) : List (S42))).bind fun y622 => (if y619.length + y622.length < 8796093022208 then ((some (y619 ++ y622 : List (S42))).bind fun y625 => ((fire_Best.f t611 t612 (Int.tmod (wrap64 (a2_2)) t611)).bind fun bt628 => ((fire_Best.f t611 y625 (Int.tmod (wrap64 (a2_2)) t611)).bind fun bt633 => ((fire_Burning.f t611 t612).bind fun bt638 => ((fire_Burning.f t611 y625).bind fun bt642 => (if bt628.2.2 = 0 then (if bt633.2.2 = 0 then (if bt638.2 = 0 then (if bt642.2 = 0 then (if bt633.1 ≤ bt628.1 then (if (bt642.1.length : Int) ≤ (bt638.1.length : Int) then ((wogglelaw06_lives.f k).bind fun t646 => (some t646)) else (some false)) else (some false)) else (some false)) else (some false)) else (some false)) else (some false))))))) else (none))))) else (none))))) = some r := H
  have A4 := Aside0.mk A40
  clear A40
  by_cases c5 : t611 < 2
  · rw [if_pos c5] at H
    have c5b0 : decide (t611 < 2) = true := decide_eq_true c5
    clear c5
    replace H := Option.bind_eq_some_iff.mp H
    obtain ⟨t615, A60, H⟩ := H
    replace H : (some t615) = some r := H
    have A6 := Aside0.mk A60
    clear A60
    obtain rfl := Option.some.inj H
    go_enter Tryd.func4, Tryd.ntmps4
    go_wp2_with (first | ((with_reducible refine gate_dst (N := 5) rfl ?_); (try (refine gate_guard (by rfl) ?_; dsimp only)); refine box_event ?hg (N := 5) ?hd (cs := #[.int .u8 a2_0, .int .u8 a2_1, .int .u8 a2_2]) (t := 39) ?hr ?_; (case hd => rfl); (case hg => rfl); (case hr => first | (go_simp; done) | (go_simp; rfl)); intro gb610 hg w7 hbox hb; have n0_ := Aside0.mk (below_step (by repeat (first | (with_reducible first | exact HB.out | apply below_alloc | apply pw_below_drewN | apply below_drew1) | exact HB.out)) hb); have n1_ := Aside0.mk (hbox); have n2_ := Aside0.mk ((by rw [hg]; exact (below_size (by repeat (first | (with_reducible first | exact HB.out | apply below_alloc | apply pw_below_drewN | apply below_drew1) | exact HB.out))) : w.heap.size ≤ gb610)); have n3_ := Aside0.mk ((by rw [hg]; exact (below_size (by repeat (first | (with_reducible first | exact HB.out | apply below_alloc | apply pw_below_drewN | apply below_drew1) | exact HB.out))) : w.heap.size ≤ gb610)); clear HB; have HB := n0_; have BK610 := n1_; have GW610 := n2_; have GE610 := n3_; clear n0_ n1_ n2_ n3_; clear hb hbox hg) | ((with_reducible refine gate_callee (f := 23) rfl ?_); refine goesL_ (some 25) rfl rfl Tryd.func23 (by kernel_rfl) rfl #[.int .u8 a0, .int .u64 a1] rfl (by (try simp only [List.map_toArray, List.map_cons, List.map_nil]); first | done | rfl | (simp only [List.length_drop, List.length_take]; rfl)) ?_; (with_reducible refine (wogglelaw06_made.calls k a0 a1 t611 t612 _ A4.out).mono ?_); rintro e w8 ⟨v613, rfl, ho0, hb⟩; refine ⟨_, rfl, ?_⟩; have n0_ := Aside0.mk (Kd.R_lower ho0 (below_size (by repeat (first | (with_reducible first | exact HB.out | apply below_alloc | apply pw_below_drewN | apply below_drew1 | refine below_set ?_ GE610.out) | exact HB.out)))); have n1_ := Aside0.mk (blk_below (g := gb610) (o := .cells #[.int .u8 a2_0, .int .u8 a2_1, .int .u8 a2_2] 39 (0, 0)) (by (with_reducible repeat (first | refine blk_drewN ?_ _ | refine blk_drew ?_ | refine blk_alloc ?_ _)); exact BK610.out) hb); have n2_ := Aside0.mk (below_step (by repeat (first | (with_reducible first | exact HB.out | apply below_alloc | apply pw_below_drewN | apply below_drew1 | refine below_set ?_ GE610.out) | exact HB.out)) hb); clear BK610; clear HB; have HO614 := n0_; have BK610 := n1_; have HB := n2_; clear n0_ n1_ n2_; (try clear hb); (try clear hb2); (try clear hk); (try clear hi); (try clear ho0)) | ((with_reducible refine gate_callee (f := 19) rfl ?_); refine goesL_ (some 30) rfl rfl Tryd.func19 (by kernel_rfl) rfl #[] rfl (by (try simp only [List.map_toArray, List.map_cons, List.map_nil]); first | done | rfl | (simp only [List.length_drop, List.length_take]; rfl)) ?_; (with_reducible refine (wogglelaw06_lives.calls k  t615 _ (TabIn.below' HT.out (by first | exact Below.refl _ _ | (repeat (first | (with_reducible first | exact HB.out | apply below_alloc | apply pw_below_drewN | apply below_drew1) | exact HB.out)))) A6.out).mono ?_); rintro e w9 ⟨rfl, hb⟩; refine ⟨_, rfl, ?_⟩; have n0_ := Aside0.mk (Kd.R_below (by (with_reducible repeat (first | apply Kd.R_alloc | apply Kd.R_drewN | apply Kd.R_drew)); exact HO614.out) hb); have n1_ := Aside0.mk (blk_below (g := gb610) (o := .cells #[.int .u8 a2_0, .int .u8 a2_1, .int .u8 a2_2] 39 (0, 0)) (by (with_reducible repeat (first | refine blk_drewN ?_ _ | refine blk_drew ?_ | refine blk_alloc ?_ _)); exact BK610.out) hb); have n2_ := Aside0.mk (below_step (by repeat (first | (with_reducible first | exact HB.out | apply below_alloc | apply pw_below_drewN | apply below_drew1 | refine below_set ?_ GE610.out) | exact HB.out)) hb); clear HO614; clear BK610; clear HB; have HO614 := n0_; have BK610 := n1_; have HB := n2_; clear n0_ n1_ n2_; (try clear hb); (try clear hb2); (try clear hk); (try clear hi)))
    go_ret
    exact ⟨by first | rfl | (simp [errW_none, errW_some] <;> rfl) | (simp [*, errW_none, errW_some] <;> rfl), by repeat (first | (with_reducible first | exact HB.out | apply below_alloc | apply pw_below_drewN | apply below_drew1 | refine below_set ?_ GE610.out) | exact HB.out)⟩
  · rw [if_neg c5] at H
    have c5b0 : decide (t611 < 2) = false := decide_eq_false c5
    clear c5
    by_cases c10 : t611 = 0
    · rw [if_pos c10] at H
      exact absurd H (by simp)
    · rw [if_neg c10] at H
      have c10b0 : (t611 == 0) = false := beq_eq_false_iff_ne.mpr c10
      have c10b1 : (t611 != 0) = true := bne_iff_ne.mpr c10
      obtain ⟨y616, hy616⟩ : ∃ y_ : List (S42), y_ = (([] : List (S42))) := ⟨_, rfl⟩
      replace H : (if y616.length + t612.length < 8796093022208 then ((some (y616 ++ t612 : List (S42))).bind fun y619 => (if (wrap64 (t611 - 1)) = 0 then (none) else ((some (([(⟨Int.tmod (wrap64 (a2_0)) t611, Int.tmod (wrap64 ((wrap64 ((Int.tmod (wrap64 (a2_0)) t611) + 1)) + (Int.tmod (wrap64 (a2_1)) (wrap64 (t611 - 1))))) t611⟩ : S42)] : List (S42)) : List (S42))).bind fun y622 => (if y619.length + y622.length < 8796093022208 then ((some (y619 ++ y622 : List (S42))).bind fun y625 => ((fire_Best.f t611 t612 (Int.tmod (wrap64 (a2_2)) t611)).bind fun bt628 => ((fire_Best.f t611 y625 (Int.tmod (wrap64 (a2_2)) t611)).bind fun bt633 => ((fire_Burning.f t611 t612).bind fun bt638 => ((fire_Burning.f t611 y625).bind fun bt642 => (if bt628.2.2 = 0 then (if bt633.2.2 = 0 then (if bt638.2 = 0 then (if bt642.2 = 0 then (if bt633.1 ≤ bt628.1 then (if (bt642.1.length : Int) ≤ (bt638.1.length : Int) then ((wogglelaw06_lives.f k).bind fun t646 => (some t646)) else (some false)) else (some false)) else (some false)) else (some false)) else (some false)) else (some false))))))) else (none))))) else (none)) = some r := by first | (rw [hy616]; with_reducible exact H) | (have H2_ := (Option.bind_some _ _).symm.trans H; rw [hy616]; with_reducible exact H2_) | (have H2_ := (Option.bind_some _ _).symm.trans H; with_reducible exact H2_) | with_reducible exact H | (rw [hy616]; exact H) | exact H
      have Ny616 := Aside0.mk hy616
      clear hy616
      by_cases c11 : y616.length + t612.length < 8796093022208
      · rw [if_pos c11] at H
        have LMc11 := Aside0.mk c11
        clear c11
        obtain ⟨y619, hy619⟩ : ∃ y_ : List (S42), y_ = (y616 ++ t612) := ⟨_, rfl⟩
        replace H : (if (wrap64 (t611 - 1)) = 0 then (none) else ((some (([(⟨Int.tmod (wrap64 (a2_0)) t611, Int.tmod (wrap64 ((wrap64 ((Int.tmod (wrap64 (a2_0)) t611) + 1)) + (Int.tmod (wrap64 (a2_1)) (wrap64 (t611 - 1))))) t611⟩ : S42)] : List (S42)) : List (S42))).bind fun y622 => (if y619.length + y622.length < 8796093022208 then ((some (y619 ++ y622 : List (S42))).bind fun y625 => ((fire_Best.f t611 t612 (Int.tmod (wrap64 (a2_2)) t611)).bind fun bt628 => ((fire_Best.f t611 y625 (Int.tmod (wrap64 (a2_2)) t611)).bind fun bt633 => ((fire_Burning.f t611 t612).bind fun bt638 => ((fire_Burning.f t611 y625).bind fun bt642 => (if bt628.2.2 = 0 then (if bt633.2.2 = 0 then (if bt638.2 = 0 then (if bt642.2 = 0 then (if bt633.1 ≤ bt628.1 then (if (bt642.1.length : Int) ≤ (bt638.1.length : Int) then ((wogglelaw06_lives.f k).bind fun t646 => (some t646)) else (some false)) else (some false)) else (some false)) else (some false)) else (some false)) else (some false))))))) else (none)))) = some r := by first | (rw [hy619]; with_reducible exact H) | (have H2_ := (Option.bind_some _ _).symm.trans H; rw [hy619]; with_reducible exact H2_) | (have H2_ := (Option.bind_some _ _).symm.trans H; with_reducible exact H2_) | with_reducible exact H | (rw [hy619]; exact H) | exact H
        have Ny619 := Aside0.mk hy619
        clear hy619
        by_cases c12 : (wrap64 (t611 - 1)) = 0
        · rw [if_pos c12] at H
          exact absurd H (by simp)
        · rw [if_neg c12] at H
          have c12b0 : ((wrap64 (t611 - 1)) == 0) = false := beq_eq_false_iff_ne.mpr c12
          have c12b1 : ((wrap64 (t611 - 1)) != 0) = true := bne_iff_ne.mpr c12
          obtain ⟨y622, hy622⟩ : ∃ y_ : List (S42), y_ = (([(⟨Int.tmod (wrap64 (a2_0)) t611, Int.tmod (wrap64 ((wrap64 ((Int.tmod (wrap64 (a2_0)) t611) + 1)) + (Int.tmod (wrap64 (a2_1)) (wrap64 (t611 - 1))))) t611⟩ : S42)] : List (S42))) := ⟨_, rfl⟩
          replace H : (if y619.length + y622.length < 8796093022208 then ((some (y619 ++ y622 : List (S42))).bind fun y625 => ((fire_Best.f t611 t612 (Int.tmod (wrap64 (a2_2)) t611)).bind fun bt628 => ((fire_Best.f t611 y625 (Int.tmod (wrap64 (a2_2)) t611)).bind fun bt633 => ((fire_Burning.f t611 t612).bind fun bt638 => ((fire_Burning.f t611 y625).bind fun bt642 => (if bt628.2.2 = 0 then (if bt633.2.2 = 0 then (if bt638.2 = 0 then (if bt642.2 = 0 then (if bt633.1 ≤ bt628.1 then (if (bt642.1.length : Int) ≤ (bt638.1.length : Int) then ((wogglelaw06_lives.f k).bind fun t646 => (some t646)) else (some false)) else (some false)) else (some false)) else (some false)) else (some false)) else (some false))))))) else (none)) = some r := by first | (rw [hy622]; with_reducible exact H) | (have H2_ := (Option.bind_some _ _).symm.trans H; rw [hy622]; with_reducible exact H2_) | (have H2_ := (Option.bind_some _ _).symm.trans H; with_reducible exact H2_) | with_reducible exact H | (rw [hy622]; exact H) | exact H
          have Ny622 := Aside0.mk hy622
          clear hy622
          by_cases c13 : y619.length + y622.length < 8796093022208
          · rw [if_pos c13] at H
            have LMc13 := Aside0.mk c13
            clear c13
            obtain ⟨y625, hy625⟩ : ∃ y_ : List (S42), y_ = (y619 ++ y622) := ⟨_, rfl⟩
            replace H : ((fire_Best.f t611 t612 (Int.tmod (wrap64 (a2_2)) t611)).bind fun bt628 => ((fire_Best.f t611 y625 (Int.tmod (wrap64 (a2_2)) t611)).bind fun bt633 => ((fire_Burning.f t611 t612).bind fun bt638 => ((fire_Burning.f t611 y625).bind fun bt642 => (if bt628.2.2 = 0 then (if bt633.2.2 = 0 then (if bt638.2 = 0 then (if bt642.2 = 0 then (if bt633.1 ≤ bt628.1 then (if (bt642.1.length : Int) ≤ (bt638.1.length : Int) then ((wogglelaw06_lives.f k).bind fun t646 => (some t646)) else (some false)) else (some false)) else (some false)) else (some false)) else (some false)) else (some false)))))) = some r := by first | (rw [hy625]; with_reducible exact H) | (have H2_ := (Option.bind_some _ _).symm.trans H; rw [hy625]; with_reducible exact H2_) | (have H2_ := (Option.bind_some _ _).symm.trans H; with_reducible exact H2_) | with_reducible exact H | (rw [hy625]; exact H) | exact H
            have Ny625 := Aside0.mk hy625
            clear hy625
            replace H := Option.bind_eq_some_iff.mp H
            obtain ⟨⟨t628, t629, t630⟩, A140, H⟩ := H
            replace H : ((fire_Best.f t611 y625 (Int.tmod (wrap64 (a2_2)) t611)).bind fun bt633 => ((fire_Burning.f t611 t612).bind fun bt638 => ((fire_Burning.f t611 y625).bind fun bt642 => (if t630 = 0 then (if bt633.2.2 = 0 then (if bt638.2 = 0 then (if bt642.2 = 0 then (if bt633.1 ≤ t628 then (if (bt642.1.length : Int) ≤ (bt638.1.length : Int) then ((wogglelaw06_lives.f k).bind fun t646 => (some t646)) else (some false)) else (some false)) else (some false)) else (some false)) else (some false)) else (some false))))) = some r := H
            have A14 := Aside0.mk A140
            clear A140
            replace H := Option.bind_eq_some_iff.mp H
            obtain ⟨⟨t633, t634, t635⟩, A150, H⟩ := H
            replace H : ((fire_Burning.f t611 t612).bind fun bt638 => ((fire_Burning.f t611 y625).bind fun bt642 => (if t630 = 0 then (if t635 = 0 then (if bt638.2 = 0 then (if bt642.2 = 0 then (if t633 ≤ t628 then (if (bt642.1.length : Int) ≤ (bt638.1.length : Int) then ((wogglelaw06_lives.f k).bind fun t646 => (some t646)) else (some false)) else (some false)) else (some false)) else (some false)) else (some false)) else (some false)))) = some r := H
            have A15 := Aside0.mk A150
            clear A150
            replace H := Option.bind_eq_some_iff.mp H
            obtain ⟨⟨t638, t639⟩, A160, H⟩ := H
            replace H : ((fire_Burning.f t611 y625).bind fun bt642 => (if t630 = 0 then (if t635 = 0 then (if t639 = 0 then (if bt642.2 = 0 then (if t633 ≤ t628 then (if (bt642.1.length : Int) ≤ (t638.length : Int) then ((wogglelaw06_lives.f k).bind fun t646 => (some t646)) else (some false)) else (some false)) else (some false)) else (some false)) else (some false)) else (some false))) = some r := H
            have A16 := Aside0.mk A160
            clear A160
            replace H := Option.bind_eq_some_iff.mp H
            obtain ⟨⟨t642, t643⟩, A170, H⟩ := H
            replace H : (if t630 = 0 then (if t635 = 0 then (if t639 = 0 then (if t643 = 0 then (if t633 ≤ t628 then (if (t642.length : Int) ≤ (t638.length : Int) then ((wogglelaw06_lives.f k).bind fun t646 => (some t646)) else (some false)) else (some false)) else (some false)) else (some false)) else (some false)) else (some false)) = some r := H
            have A17 := Aside0.mk A170
            clear A170
            by_cases c18 : t630 = 0
            · rw [if_pos c18] at H
              have c18b0 : (t630 == 0) = true := beq_iff_eq.mpr c18
              have c18b1 : (t630 != 0) = false := bne_eq_false_iff_eq.mpr c18
              clear c18
              by_cases c19 : t635 = 0
              · rw [if_pos c19] at H
                have c19b0 : (t635 == 0) = true := beq_iff_eq.mpr c19
                have c19b1 : (t635 != 0) = false := bne_eq_false_iff_eq.mpr c19
                clear c19
                by_cases c20 : t639 = 0
                · rw [if_pos c20] at H
                  have c20b0 : (t639 == 0) = true := beq_iff_eq.mpr c20
                  have c20b1 : (t639 != 0) = false := bne_eq_false_iff_eq.mpr c20
                  clear c20
                  by_cases c21 : t643 = 0
                  · rw [if_pos c21] at H
                    have c21b0 : (t643 == 0) = true := beq_iff_eq.mpr c21
                    have c21b1 : (t643 != 0) = false := bne_eq_false_iff_eq.mpr c21
                    clear c21
                    by_cases c22 : t633 ≤ t628
                    · rw [if_pos c22] at H
                      have c22b0 : decide (t633 ≤ t628) = true := decide_eq_true c22
                      clear c22
                      by_cases c23 : (t642.length : Int) ≤ (t638.length : Int)
                      · rw [if_pos c23] at H
                        have c23b0 : decide ((t642.length : Int) ≤ (t638.length : Int)) = true := decide_eq_true c23
                        have c23b1 : decide (t642.length ≤ t638.length) = true := decide_eq_true (Int.ofNat_le.mp c23)
                        clear c23
                        replace H := Option.bind_eq_some_iff.mp H
                        obtain ⟨t646, A240, H⟩ := H
                        replace H : (some t646) = some r := H
                        have A24 := Aside0.mk A240
                        clear A240
                        obtain rfl := Option.some.inj H
                        go_enter Tryd.func4, Tryd.ntmps4
                        try go_wp2_with (first | ((with_reducible refine gate_dst (N := 5) rfl ?_); (try (refine gate_guard (by rfl) ?_; dsimp only)); refine box_event ?hg (N := 5) ?hd (cs := #[.int .u8 a2_0, .int .u8 a2_1, .int .u8 a2_2]) (t := 39) ?hr ?_; (case hd => rfl); (case hg => rfl); (case hr => first | (go_simp; done) | (go_simp; rfl)); intro gb610 hg w25 hbox hb; have n0_ := Aside0.mk (below_step (by repeat (first | (with_reducible first | exact HB.out | apply below_alloc | apply pw_below_drewN | apply below_drew1) | exact HB.out)) hb); have n1_ := Aside0.mk (hbox); have n2_ := Aside0.mk ((by rw [hg]; exact (below_size (by repeat (first | (with_reducible first | exact HB.out | apply below_alloc | apply pw_below_drewN | apply below_drew1) | exact HB.out))) : w.heap.size ≤ gb610)); have n3_ := Aside0.mk ((by rw [hg]; exact (below_size (by repeat (first | (with_reducible first | exact HB.out | apply below_alloc | apply pw_below_drewN | apply below_drew1) | exact HB.out))) : w.heap.size ≤ gb610)); clear HB; have HB := n0_; have BK610 := n1_; have GW610 := n2_; have GE610 := n3_; clear n0_ n1_ n2_ n3_; clear hb hbox hg) | ((with_reducible refine gate_callee (f := 23) rfl ?_); refine goesL_ (some 25) rfl rfl Tryd.func23 (by kernel_rfl) rfl #[.int .u8 a0, .int .u64 a1] rfl (by (try simp only [List.map_toArray, List.map_cons, List.map_nil]); first | done | rfl | (simp only [List.length_drop, List.length_take]; rfl)) ?_; (with_reducible refine (wogglelaw06_made.calls k a0 a1 t611 t612 _ A4.out).mono ?_); rintro e w26 ⟨v613, rfl, ho0, hb⟩; refine ⟨_, rfl, ?_⟩; have n0_ := Aside0.mk (Kd.R_lower ho0 (below_size (by repeat (first | (with_reducible first | exact HB.out | apply below_alloc | apply pw_below_drewN | apply below_drew1 | refine below_set ?_ GE610.out) | exact HB.out)))); have n1_ := Aside0.mk (blk_below (g := gb610) (o := .cells #[.int .u8 a2_0, .int .u8 a2_1, .int .u8 a2_2] 39 (0, 0)) (by (with_reducible repeat (first | refine blk_drewN ?_ _ | refine blk_drew ?_ | refine blk_alloc ?_ _)); exact BK610.out) hb); have n2_ := Aside0.mk (below_step (by repeat (first | (with_reducible first | exact HB.out | apply below_alloc | apply pw_below_drewN | apply below_drew1 | refine below_set ?_ GE610.out) | exact HB.out)) hb); clear BK610; clear HB; have HO614 := n0_; have BK610 := n1_; have HB := n2_; clear n0_ n1_ n2_; (try clear hb); (try clear hb2); (try clear hk); (try clear hi); (try clear ho0); have hcz27_0 : w26.cell? ⟨gb610, 0, none⟩ = some (.int .u8 a2_0) := (blk_cell BK610.out 0).trans rfl; have hcz27_1 : w26.cell? ⟨gb610, 1, none⟩ = some (.int .u8 a2_1) := (blk_cell BK610.out 1).trans rfl; have hcz27_2 : w26.cell? ⟨gb610, 2, none⟩ = some (.int .u8 a2_2) := (blk_cell BK610.out 2).trans rfl; have hfz27_0 := blk_frozen BK610.out 0; have hfz27_1 := blk_frozen BK610.out 1; have hfz27_2 := blk_frozen BK610.out 2; obtain ⟨Ao28, co28, eo28⟩ := Kd.R_slice HO614.out; subst eo28))
                        have n0_ := Aside0.mk (Kd.R_drew HO614.out)
                        have n1_ := Aside0.mk (blk_drew BK610.out)
                        have n2_ := Aside0.mk (below_drew1 HB.out)
                        clear HO614
                        clear BK610
                        clear HB
                        have HO614 := n0_
                        have BK610 := n1_
                        have HB := n2_
                        clear n0_ n1_ n2_
                        refine start_ (n := 19) (S := fun w' => w'.cell? ⟨gb610, 0, none⟩ = some (.int .u8 a2_0) ∧ w'.cell? ⟨gb610, 1, none⟩ = some (.int .u8 a2_1) ∧ w'.cell? ⟨gb610, 2, none⟩ = some (.int .u8 a2_2)) (ds := []) #[false, false, false, false, false, false, false, false, false, false, false, false, false, false, false, false, false, false, false] (by kernel_rfl) rfl rfl ⟨(blk_cell BK610.out 0).trans rfl, (blk_cell BK610.out 1).trans rfl, (blk_cell BK610.out 2).trans rfl⟩ (fun hHeld => ?_); refine with_tabW wogglelaw06_FireEdges.tab5 wogglelaw06_FireEdges.bits5 (fun HT_ HW_ => ?_)
                        generalize w26.drew = w29 at HO614 BK610 HB hHeld ⊢
                        refine pure_ (i := 1) (N := some 37) (v := ?_) (a' := ?_) #[false, true, false, false, false, false, false, false, false, false, false, false, false, false, false, false, false, false, false] rfl rfl (any_of HT_.out (by kernel_rfl)) (fun _ _ _ h => h) (Or.inl ⟨by rfl, ?_⟩) ?_ ?_
                        rotate_left
                        · intro w'
                          go_simp
                          with_reducible rfl
                        rotate_left
                        · simp only [Act.put, List.setIfInBounds_toArray, List.set_cons_zero, List.set_cons_succ, i64_w, i32_w]
                          rfl
                        refine pure_ (i := 3) (N := some 39) (v := ?_) (a' := ?_) #[false, true, false, true, false, false, false, false, false, false, false, false, false, false, false, false, false, false, false] rfl rfl (any_of HT_.out (by kernel_rfl)) (fun _ _ _ h => h) (Or.inl ⟨by rfl, ?_⟩) ?_ ?_
                        rotate_left
                        · intro w'
                          go_simp
                          with_reducible rfl
                        rotate_left
                        · simp only [Act.put, List.setIfInBounds_toArray, List.set_cons_zero, List.set_cons_succ, i64_w, i32_w]
                          rfl
                        refine pure_ (i := 4) (N := some 40) (v := ?_) (a' := ?_) #[false, true, false, true, true, false, false, false, false, false, false, false, false, false, false, false, false, false, false] rfl rfl (any_of HT_.out (by kernel_rfl)) (fun _ _ _ h => h) (Or.inl ⟨by rfl, ?_⟩) ?_ ?_
                        rotate_left
                        · intro w'
                          go_simp
                          with_reducible rfl
                        rotate_left
                        · simp only [Act.put, List.setIfInBounds_toArray, List.set_cons_zero, List.set_cons_succ, i64_w, i32_w]
                          rfl
                        refine pure_ (i := 5) (N := some 41) (v := ?_) (a' := ?_) #[false, true, false, true, true, true, false, false, false, false, false, false, false, false, false, false, false, false, false] rfl rfl (any_of HT_.out (by kernel_rfl)) (fun _ _ _ h => h) (Or.inl ⟨by rfl, ?_⟩) ?_ ?_
                        rotate_left
                        · intro w'
                          go_simp
                          with_reducible rfl
                        rotate_left
                        · simp only [Act.put, List.setIfInBounds_toArray, List.set_cons_zero, List.set_cons_succ, i64_w, i32_w]
                          rfl
                        refine pure_ (i := 6) (N := some 42) (v := ?_) (a' := ?_) #[false, true, false, true, true, true, true, false, false, false, false, false, false, false, false, false, false, false, false] rfl rfl (any_of HT_.out (by kernel_rfl)) (fun _ _ _ h => h) (Or.inl ⟨by rfl, ?_⟩) ?_ ?_
                        rotate_left
                        · intro w'
                          go_simp
                          with_reducible rfl
                        rotate_left
                        · simp only [Act.put, List.setIfInBounds_toArray, List.set_cons_zero, List.set_cons_succ, i64_w, i32_w]
                          rfl
                        refine pure_ (i := 9) (N := some 45) (v := ?_) (a' := ?_) #[false, true, false, true, true, true, true, false, false, true, false, false, false, false, false, false, false, false, false] rfl rfl (any_of HT_.out (by kernel_rfl)) (fun _ _ _ h => h) (Or.inl ⟨by rfl, ?_⟩) ?_ ?_
                        rotate_left
                        · intro w'
                          go_simp
                          with_reducible rfl
                        rotate_left
                        · simp only [Act.put, List.setIfInBounds_toArray, List.set_cons_zero, List.set_cons_succ, i64_w, i32_w]
                          rfl
                        refine pure_ (i := 10) (N := some 46) (v := ?_) (a' := ?_) #[false, true, false, true, true, true, true, false, false, true, true, false, false, false, false, false, false, false, false] rfl rfl (any_of HT_.out (by kernel_rfl)) (fun _ _ _ h => h) (Or.inl ⟨by rfl, ?_⟩) ?_ ?_
                        rotate_left
                        · intro w'
                          go_simp
                          with_reducible rfl
                        rotate_left
                        · simp only [Act.put, List.setIfInBounds_toArray, List.set_cons_zero, List.set_cons_succ, i64_w, i32_w]
                          rfl
                        refine pure_ (i := 13) (N := some 49) (v := ?_) (a' := ?_) #[false, true, false, true, true, true, true, false, false, true, true, false, false, true, false, false, false, false, false] rfl rfl (any_of HT_.out (by kernel_rfl)) (fun _ _ _ h => h) (Or.inl ⟨by rfl, ?_⟩) ?_ ?_
                        rotate_left
                        · intro w'
                          go_simp
                          with_reducible rfl
                        rotate_left
                        · simp only [Act.put, List.setIfInBounds_toArray, List.set_cons_zero, List.set_cons_succ, i64_w, i32_w]
                          rfl
                        refine take_ (i := 7) (N := some 43) (v := ?_) (a' := ?_) #[false, true, false, true, true, true, true, true, false, true, true, false, false, true, false, false, false, false, false] rfl rfl (take_ofW HT_.out HW_.out (by kernel_rfl)) (fun _ _ _ h => h) (Or.inl ⟨by rfl, ?_⟩) hHeld ?_ ?_
                        rotate_left
                        · rintro w' ⟨s0, s1, s2⟩
                          go_simp
                          with_reducible rfl
                        rotate_left
                        · simp only [Act.put, List.setIfInBounds_toArray, List.set_cons_zero, List.set_cons_succ, i64_w, i32_w]
                          rfl
                        refine pure_ (i := 8) (N := some 44) (v := ?_) (a' := ?_) #[false, true, false, true, true, true, true, true, true, true, true, false, false, true, false, false, false, false, false] rfl rfl (any_of HT_.out (by kernel_rfl)) (fun _ _ _ h => h) (Or.inl ⟨by rfl, ?_⟩) ?_ ?_
                        rotate_left
                        · intro w'
                          go_simp
                          with_reducible rfl
                        rotate_left
                        · simp only [Act.put, List.setIfInBounds_toArray, List.set_cons_zero, List.set_cons_succ, i64_w, i32_w]
                          rfl
                        refine pure_ (i := 11) (N := some 47) (v := ?_) (a' := ?_) #[false, true, false, true, true, true, true, true, true, true, true, true, false, true, false, false, false, false, false] rfl rfl (any_of HT_.out (by kernel_rfl)) (fun _ _ _ h => h) (Or.inl ⟨by rfl, ?_⟩) ?_ ?_
                        rotate_left
                        · intro w'
                          go_simp
                          with_reducible rfl
                        rotate_left
                        · simp only [Act.put, List.setIfInBounds_toArray, List.set_cons_zero, List.set_cons_succ, i64_w, i32_w]
                          rfl
                        refine pure_ (i := 12) (N := some 48) (v := ?_) (a' := ?_) #[false, true, false, true, true, true, true, true, true, true, true, true, true, true, false, false, false, false, false] rfl rfl (any_of HT_.out (by kernel_rfl)) (fun _ _ _ h => h) (Or.inl ⟨by rfl, ?_⟩) ?_ ?_
                        rotate_left
                        · intro w'
                          go_simp
                          with_reducible rfl
                        rotate_left
                        · simp only [Act.put, List.setIfInBounds_toArray, List.set_cons_zero, List.set_cons_succ, i64_w, i32_w]
                          rfl
                        refine pure_ (i := 14) (N := some 50) (v := ?_) (a' := ?_) #[false, true, false, true, true, true, true, true, true, true, true, true, true, true, true, false, false, false, false] rfl rfl (any_of HT_.out (by kernel_rfl)) (fun _ _ _ h => h) (Or.inl ⟨by rfl, ?_⟩) ?_ ?_
                        rotate_left
                        · intro w'
                          go_simp
                          with_reducible rfl
                        rotate_left
                        · simp only [Act.put, List.setIfInBounds_toArray, List.set_cons_zero, List.set_cons_succ, i64_w, i32_w]
                          rfl
                        refine pure_ (i := 15) (N := some 51) (v := ?_) (a' := ?_) #[false, true, false, true, true, true, true, true, true, true, true, true, true, true, true, true, false, false, false] rfl rfl (any_of HT_.out (by kernel_rfl)) (fun _ _ _ h => h) (Or.inl ⟨by rfl, ?_⟩) ?_ ?_
                        rotate_left
                        · intro w'
                          go_simp
                          with_reducible rfl
                        rotate_left
                        · simp only [Act.put, List.setIfInBounds_toArray, List.set_cons_zero, List.set_cons_succ, i64_w, i32_w]
                          rfl
                        refine join_ (σ := Value × Value × Value) 2 #[true, true, true, true, true, true, true, true, true, true, true, true, true, true, true, true, true, false, false] (fun s_ => [(36, s_.1), (38, s_.2.1), (52, s_.2.2)]) (fun s_ w' => (w'.cell? ⟨gb610, 0, none⟩ = some (.int .u8 a2_0) ∧ w'.cell? ⟨gb610, 1, none⟩ = some (.int .u8 a2_1) ∧ w'.cell? ⟨gb610, 2, none⟩ = some (.int .u8 a2_2)) ∧ (Kd.R k42 42 w' w.heap.size (fun k_ => some k_ ≠ (s_.2.1 : Value).ownBlock ∧ some k_ ≠ (s_.2.2 : Value).ownBlock) (.slice Ao28 t612.length co28) t612) ∧ (Kd.R k42 42 w' w.heap.size (fun k_ => some k_ ≠ (.slice Ao28 t612.length co28 : Value).ownBlock ∧ some k_ ≠ (s_.2.2 : Value).ownBlock) s_.2.1 y619) ∧ (Kd.R k42 42 w' w.heap.size (fun k_ => some k_ ≠ (.slice Ao28 t612.length co28 : Value).ownBlock ∧ some k_ ≠ (s_.2.1 : Value).ownBlock) s_.2.2 y622) ∧ (w'.heap[gb610]? = some (.cells #[.int .u8 a2_0, .int .u8 a2_1, .int .u8 a2_2] 39 (0, 0))) ∧ (Below w.heap.size w w')) ?_ ?_
                        rotate_left
                        · intro hCont
                          refine two_ (i := 0) (j := 16) (Ni := some 36) (Nj := some 52) #[true, true, false, true, true, true, true, true, true, true, true, true, true, true, true, true, false, false, false] #[false, true, false, true, true, true, true, true, true, true, true, true, true, true, true, true, true, false, false] rfl rfl rfl rfl (two_of HT_.out (by kernel_rfl)) (by decide) (by decide) (fun K hK => ?_) (fun K hK => ?_)
                          · skip
                            refine Kd.R_lit_step k42 _ 42 ?hg (N := 36) ?hd (xs := ([] : List (S42))) (inner := []) (ok := fun _ => True) (okp := fun _ => True) ?hr ?hp (fun _ hk => hk) trivial (Below.refl _ _) (Nat.le_refl _) (by simp) ?_; (case hd => rfl); (case hg => rfl); (case hr => first | (go_simp; done) | (go_simp; rfl)); (case hp => exact (Reps.none _ _))
                            intro v617 w30 ho31 hb hg_ hnew_
                            clear hg_ hnew_
                            (first | rw [← Ny616.out] at ho31 | (simp only [Int.reduceToNat] at ho31; rw [← Ny616.out] at ho31))
                            have n0_ := Aside0.mk (Kd.R_elder' (by (with_reducible repeat (first | apply Kd.R_alloc | apply Kd.R_drewN | apply Kd.R_drew)); exact HO614.out) (Kd.R_base ho31) hb)
                            have n1_ := Aside0.mk (Kd.R_lower (Kd.R_new' ho31 (Kd.R_lt (by (with_reducible repeat (first | apply Kd.R_alloc | apply Kd.R_drewN | apply Kd.R_drew)); exact HO614.out))) (below_size (by repeat (first | (with_reducible first | exact HB.out | apply below_alloc | apply pw_below_drewN | apply below_drew1 | refine below_set ?_ GE610.out) | exact HB.out))))
                            have n2_ := Aside0.mk (blk_below (g := gb610) (o := .cells #[.int .u8 a2_0, .int .u8 a2_1, .int .u8 a2_2] 39 (0, 0)) (by (with_reducible repeat (first | refine blk_drewN ?_ _ | refine blk_drew ?_ | refine blk_alloc ?_ _)); exact BK610.out) hb)
                            have n3_ := Aside0.mk (below_step (by repeat (first | (with_reducible first | exact HB.out | apply below_alloc | apply pw_below_drewN | apply below_drew1 | refine below_set ?_ GE610.out) | exact HB.out)) hb)
                            clear HO614
                            clear BK610
                            clear HB
                            have HO614 := n0_
                            have HO618 := n1_
                            have BK610 := n2_
                            have HB := n3_
                            clear n0_ n1_ n2_ n3_
                            clear hb ho31
                            refine hK.out _ _ ⟨(blk_cell BK610.out 0).trans rfl, (blk_cell BK610.out 1).trans rfl, (blk_cell BK610.out 2).trans rfl⟩ (fun hHeld => ?_)
                            clear hK K
                            refine norm_ (a' := ?_) ?_ ?_
                            rotate_left
                            · show Act.put _ (some 36) _ = _
                              simp only [Act.put, List.setIfInBounds_toArray, List.set_cons_zero, List.set_cons_succ, i64_w, i32_w]
                              rfl
                            refine two_ (i := 2) (j := 16) (Ni := some 38) (Nj := some 52) #[true, true, true, true, true, true, true, true, true, true, true, true, true, true, true, true, false, false, false] #[true, true, false, true, true, true, true, true, true, true, true, true, true, true, true, true, true, false, false] rfl rfl rfl rfl (two_of HT_.out (by kernel_rfl)) (by decide) (by decide) (fun K hK => ?_) (fun K hK => ?_)
                            · skip
                              refine Kd.R_append_rows_step k42 (w0 := w) w.heap.size (by rfl) (.tmp 36) (.tmp 37) 22 42 (.agg #[(.int .i64 0), (.int .i64 0)]) 16 rfl Tryd.underlying22 info42 rfl (by decide) (by omega) v617 y616 t612 _ _ _ (fun k_ => some k_ ≠ (.slice Ao28 t612.length co28 : Value).ownBlock) (fun _ => False) rfl rfl ?aO ?aR (fun _ _ h => h) (fun _ h => h.elim) ?aF ?aB ?aS ?aL ?_
                              (case aR => repeat (first | exact (Kd.R_reads' HO614.out).2.2 | (with_reducible refine Kd.C_alloc ?_ _) | (with_reducible refine Kd.C_drewN ?_ _) | (with_reducible refine Kd.C_drew ?_)))
                              (case aB => exact (by repeat (first | (with_reducible first | exact HB.out | apply below_alloc | apply pw_below_drewN | apply below_drew1 | refine below_set ?_ GE610.out) | exact HB.out)))
                              (case aF => exact (fun k_ hk => Kd.fresh' (Kd.R_lt (by (with_reducible repeat (first | apply Kd.R_alloc | apply Kd.R_drewN | apply Kd.R_drew)); exact HO614.out)) k_ hk))
                              (case aO => exact (by (with_reducible repeat (first | apply Kd.R_alloc | apply Kd.R_drewN | apply Kd.R_drew)); exact Kd.R_mono HO618.out (fun _ hk => hk.2)))
                              (case aS => exact (below_size (by repeat (first | (with_reducible first | exact HB.out | apply below_alloc | apply pw_below_drewN | apply below_drew1 | refine below_set ?_ GE610.out) | exact HB.out))))
                              (case aL => have := LMc11.out; omega)
                              intro v620 w32 ho hb hg hat
                              rw [← Ny619.out] at ho
                              have n0_ := Aside0.mk (blk_grown (g := gb610) (o := .cells #[.int .u8 a2_0, .int .u8 a2_1, .int .u8 a2_2] 39 (0, 0)) (by (with_reducible repeat (first | refine blk_drewN ?_ _ | refine blk_drew ?_ | refine blk_alloc ?_ _)); exact BK610.out) hg (Kd.R_ne HO618.out BK610.out (by decide)))
                              have n1_ := Aside0.mk (Kd.R_after (ok := (fun _ => True)) (by (with_reducible repeat (first | apply Kd.R_alloc | apply Kd.R_drewN | apply Kd.R_drew)); exact HO614.out) hg hat)
                              have n2_ := Aside0.mk (hb)
                              have n3_ := Aside0.mk (ho)
                              clear BK610
                              clear HO614
                              clear HB
                              clear HO618
                              have BK610 := n0_
                              have HO614 := n1_
                              have HB := n2_
                              have HO621 := n3_
                              clear n0_ n1_ n2_ n3_
                              clear ho hb hg hat
                              refine hK.out _ _ ⟨(blk_cell BK610.out 0).trans rfl, (blk_cell BK610.out 1).trans rfl, (blk_cell BK610.out 2).trans rfl⟩ (fun hHeld => ?_)
                              clear hK K
                              refine norm_ (a' := ?_) ?_ ?_
                              rotate_left
                              · show Act.put _ (some 38) _ = _
                                simp only [Act.put, List.setIfInBounds_toArray, List.set_cons_zero, List.set_cons_succ, i64_w, i32_w]
                                rfl
                              refine one_ (i := 16) (N := some 52) #[true, true, true, true, true, true, true, true, true, true, true, true, true, true, true, true, true, false, false] rfl rfl (one_of HT_.out (by kernel_rfl)) (by decide) (fun K hK => ?_)
                              refine Kd.R_lit_step k42 _ 42 ?hg (N := 52) ?hd (xs := ([(⟨Int.tmod (wrap64 (a2_0)) t611, Int.tmod (wrap64 ((wrap64 ((Int.tmod (wrap64 (a2_0)) t611) + 1)) + (Int.tmod (wrap64 (a2_1)) (wrap64 (t611 - 1))))) t611⟩ : S42)] : List (S42))) (inner := [.int .i64 (Int.tmod (wrap64 (a2_0)) t611), .int .i64 (Int.tmod (wrap64 ((wrap64 ((Int.tmod (wrap64 (a2_0)) t611) + 1)) + (Int.tmod (wrap64 (a2_1)) (wrap64 (t611 - 1))))) t611)]) (ok := fun _ => True) (okp := fun _ => True) ?hr ?hp (fun _ hk => hk) trivial (Below.refl _ _) (Nat.le_refl _) (by simp) ?_; (case hd => rfl); (case hg => rfl); (case hr => first | (go_simp; done) | (go_simp; rfl)); (case hp => exact (Reps.c2 (show Kd.M k42 _ _ _ (⟨Int.tmod (wrap64 (a2_0)) t611, Int.tmod (wrap64 ((wrap64 ((Int.tmod (wrap64 (a2_0)) t611) + 1)) + (Int.tmod (wrap64 (a2_1)) (wrap64 (t611 - 1))))) t611⟩ : S42) [.int .i64 (Int.tmod (wrap64 (a2_0)) t611), .int .i64 (Int.tmod (wrap64 ((wrap64 ((Int.tmod (wrap64 (a2_0)) t611) + 1)) + (Int.tmod (wrap64 (a2_1)) (wrap64 (t611 - 1))))) t611)] from (k42_mkM _ _ _ (⟨Int.tmod (wrap64 (a2_0)) t611, Int.tmod (wrap64 ((wrap64 ((Int.tmod (wrap64 (a2_0)) t611) + 1)) + (Int.tmod (wrap64 (a2_1)) (wrap64 (t611 - 1))))) t611⟩ : S42) )) (Reps.none _ _)))
                              intro v623 w33 ho34 hb hg_ hnew_
                              clear hg_ hnew_
                              (first | rw [← Ny622.out] at ho34 | (simp only [Int.reduceToNat] at ho34; rw [← Ny622.out] at ho34))
                              have n0_ := Aside0.mk (Kd.R_elder' (by (with_reducible repeat (first | apply Kd.R_alloc | apply Kd.R_drewN | apply Kd.R_drew)); exact HO614.out) (Kd.R_base ho34) hb)
                              have n1_ := Aside0.mk (Kd.R_elder' (by (with_reducible repeat (first | apply Kd.R_alloc | apply Kd.R_drewN | apply Kd.R_drew)); exact HO621.out) (Kd.R_base ho34) hb)
                              have n2_ := Aside0.mk (Kd.R_lower (Kd.R_new' (Kd.R_new' ho34 (Kd.R_lt (by (with_reducible repeat (first | apply Kd.R_alloc | apply Kd.R_drewN | apply Kd.R_drew)); exact HO614.out))) (Kd.R_lt (by (with_reducible repeat (first | apply Kd.R_alloc | apply Kd.R_drewN | apply Kd.R_drew)); exact HO621.out))) (below_size (by repeat (first | (with_reducible first | exact HB.out | apply below_alloc | apply pw_below_drewN | apply below_drew1 | refine below_set ?_ GE610.out) | exact HB.out))))
                              have n3_ := Aside0.mk (blk_below (g := gb610) (o := .cells #[.int .u8 a2_0, .int .u8 a2_1, .int .u8 a2_2] 39 (0, 0)) (by (with_reducible repeat (first | refine blk_drewN ?_ _ | refine blk_drew ?_ | refine blk_alloc ?_ _)); exact BK610.out) hb)
                              have n4_ := Aside0.mk (below_step (by repeat (first | (with_reducible first | exact HB.out | apply below_alloc | apply pw_below_drewN | apply below_drew1 | refine below_set ?_ GE610.out) | exact HB.out)) hb)
                              clear HO614
                              clear HO621
                              clear BK610
                              clear HB
                              have HO614 := n0_
                              have HO621 := n1_
                              have HO624 := n2_
                              have BK610 := n3_
                              have HB := n4_
                              clear n0_ n1_ n2_ n3_ n4_
                              clear hb ho34
                              refine hK.out _ _ ⟨(blk_cell BK610.out 0).trans rfl, (blk_cell BK610.out 1).trans rfl, (blk_cell BK610.out 2).trans rfl⟩ (fun hHeld => ?_)
                              clear hK K
                              refine norm_ (a' := ?_) ?_ ?_
                              rotate_left
                              · show Act.put _ (some 52) _ = _
                                simp only [Act.put, List.setIfInBounds_toArray, List.set_cons_zero, List.set_cons_succ, i64_w, i32_w]
                                rfl
                              exact norm_ (by simp only [putAll, Act.put, List.setIfInBounds_toArray, List.set_cons_zero, List.set_cons_succ]) (hCont (v617, v620, v623) _ ⟨hHeld, (by (with_reducible repeat (first | apply Kd.R_alloc | apply Kd.R_drewN | apply Kd.R_drew)); exact Kd.R_mono HO614.out (fun _ hk => ⟨hk.1.2, hk.2⟩)), (by (with_reducible repeat (first | apply Kd.R_alloc | apply Kd.R_drewN | apply Kd.R_drew)); exact HO621.out), (by (with_reducible repeat (first | apply Kd.R_alloc | apply Kd.R_drewN | apply Kd.R_drew)); exact Kd.R_mono HO624.out (fun _ hk => ⟨hk.1.2, hk.2⟩)), (by (with_reducible repeat (first | refine blk_drewN ?_ _ | refine blk_drew ?_ | refine blk_alloc ?_ _)); exact BK610.out), (by repeat (first | (with_reducible first | exact HB.out | apply below_alloc | apply pw_below_drewN | apply below_drew1 | refine below_set ?_ GE610.out) | exact HB.out))⟩)
                            · skip
                              refine Kd.R_lit_step k42 _ 42 ?hg (N := 52) ?hd (xs := ([(⟨Int.tmod (wrap64 (a2_0)) t611, Int.tmod (wrap64 ((wrap64 ((Int.tmod (wrap64 (a2_0)) t611) + 1)) + (Int.tmod (wrap64 (a2_1)) (wrap64 (t611 - 1))))) t611⟩ : S42)] : List (S42))) (inner := [.int .i64 (Int.tmod (wrap64 (a2_0)) t611), .int .i64 (Int.tmod (wrap64 ((wrap64 ((Int.tmod (wrap64 (a2_0)) t611) + 1)) + (Int.tmod (wrap64 (a2_1)) (wrap64 (t611 - 1))))) t611)]) (ok := fun _ => True) (okp := fun _ => True) ?hr ?hp (fun _ hk => hk) trivial (Below.refl _ _) (Nat.le_refl _) (by simp) ?_; (case hd => rfl); (case hg => rfl); (case hr => first | (go_simp; done) | (go_simp; rfl)); (case hp => exact (Reps.c2 (show Kd.M k42 _ _ _ (⟨Int.tmod (wrap64 (a2_0)) t611, Int.tmod (wrap64 ((wrap64 ((Int.tmod (wrap64 (a2_0)) t611) + 1)) + (Int.tmod (wrap64 (a2_1)) (wrap64 (t611 - 1))))) t611⟩ : S42) [.int .i64 (Int.tmod (wrap64 (a2_0)) t611), .int .i64 (Int.tmod (wrap64 ((wrap64 ((Int.tmod (wrap64 (a2_0)) t611) + 1)) + (Int.tmod (wrap64 (a2_1)) (wrap64 (t611 - 1))))) t611)] from (k42_mkM _ _ _ (⟨Int.tmod (wrap64 (a2_0)) t611, Int.tmod (wrap64 ((wrap64 ((Int.tmod (wrap64 (a2_0)) t611) + 1)) + (Int.tmod (wrap64 (a2_1)) (wrap64 (t611 - 1))))) t611⟩ : S42) )) (Reps.none _ _)))
                              intro v623 w32 ho33 hb hg_ hnew_
                              clear hg_ hnew_
                              (first | rw [← Ny622.out] at ho33 | (simp only [Int.reduceToNat] at ho33; rw [← Ny622.out] at ho33))
                              have n0_ := Aside0.mk (Kd.R_elder' (by (with_reducible repeat (first | apply Kd.R_alloc | apply Kd.R_drewN | apply Kd.R_drew)); exact HO614.out) (Kd.R_base ho33) hb)
                              have n1_ := Aside0.mk (Kd.R_elder' (by (with_reducible repeat (first | apply Kd.R_alloc | apply Kd.R_drewN | apply Kd.R_drew)); exact HO618.out) (Kd.R_base ho33) hb)
                              have n2_ := Aside0.mk (Kd.R_lower (Kd.R_new' (Kd.R_new' ho33 (Kd.R_lt (by (with_reducible repeat (first | apply Kd.R_alloc | apply Kd.R_drewN | apply Kd.R_drew)); exact HO614.out))) (Kd.R_lt (by (with_reducible repeat (first | apply Kd.R_alloc | apply Kd.R_drewN | apply Kd.R_drew)); exact HO618.out))) (below_size (by repeat (first | (with_reducible first | exact HB.out | apply below_alloc | apply pw_below_drewN | apply below_drew1 | refine below_set ?_ GE610.out) | exact HB.out))))
                              have n3_ := Aside0.mk (blk_below (g := gb610) (o := .cells #[.int .u8 a2_0, .int .u8 a2_1, .int .u8 a2_2] 39 (0, 0)) (by (with_reducible repeat (first | refine blk_drewN ?_ _ | refine blk_drew ?_ | refine blk_alloc ?_ _)); exact BK610.out) hb)
                              have n4_ := Aside0.mk (below_step (by repeat (first | (with_reducible first | exact HB.out | apply below_alloc | apply pw_below_drewN | apply below_drew1 | refine below_set ?_ GE610.out) | exact HB.out)) hb)
                              clear HO614
                              clear HO618
                              clear BK610
                              clear HB
                              have HO614 := n0_
                              have HO618 := n1_
                              have HO624 := n2_
                              have BK610 := n3_
                              have HB := n4_
                              clear n0_ n1_ n2_ n3_ n4_
                              clear hb ho33
                              refine hK.out _ _ ⟨(blk_cell BK610.out 0).trans rfl, (blk_cell BK610.out 1).trans rfl, (blk_cell BK610.out 2).trans rfl⟩ (fun hHeld => ?_)
                              clear hK K
                              refine norm_ (a' := ?_) ?_ ?_
                              rotate_left
                              · show Act.put _ (some 52) _ = _
                                simp only [Act.put, List.setIfInBounds_toArray, List.set_cons_zero, List.set_cons_succ, i64_w, i32_w]
                                rfl
                              refine one_ (i := 2) (N := some 38) #[true, true, true, true, true, true, true, true, true, true, true, true, true, true, true, true, true, false, false] rfl rfl (one_of HT_.out (by kernel_rfl)) (by decide) (fun K hK => ?_)
                              refine Kd.R_append_rows_step k42 (w0 := w) w.heap.size (by rfl) (.tmp 36) (.tmp 37) 22 42 (.agg #[(.int .i64 0), (.int .i64 0)]) 16 rfl Tryd.underlying22 info42 rfl (by decide) (by omega) v617 y616 t612 _ _ _ (fun k_ => some k_ ≠ (.slice Ao28 t612.length co28 : Value).ownBlock ∧ some k_ ≠ (v623 : Value).ownBlock) (fun _ => False) rfl rfl ?aO ?aR (fun _ _ h => h) (fun _ h => h.elim) ?aF ?aB ?aS ?aL ?_
                              (case aR => repeat (first | exact (Kd.R_reads' HO614.out).2.2 | (with_reducible refine Kd.C_alloc ?_ _) | (with_reducible refine Kd.C_drewN ?_ _) | (with_reducible refine Kd.C_drew ?_)))
                              (case aB => exact (by repeat (first | (with_reducible first | exact HB.out | apply below_alloc | apply pw_below_drewN | apply below_drew1 | refine below_set ?_ GE610.out) | exact HB.out)))
                              (case aF => exact (fun k_ hk => ⟨Kd.fresh' (Kd.R_lt (by (with_reducible repeat (first | apply Kd.R_alloc | apply Kd.R_drewN | apply Kd.R_drew)); exact HO614.out)) k_ hk, Kd.fresh' (Kd.R_lt (by (with_reducible repeat (first | apply Kd.R_alloc | apply Kd.R_drewN | apply Kd.R_drew)); exact HO624.out)) k_ hk⟩))
                              (case aO => exact (by (with_reducible repeat (first | apply Kd.R_alloc | apply Kd.R_drewN | apply Kd.R_drew)); exact Kd.R_mono HO618.out (fun _ hk => ⟨hk.1.2, hk.2⟩)))
                              (case aS => exact (below_size (by repeat (first | (with_reducible first | exact HB.out | apply below_alloc | apply pw_below_drewN | apply below_drew1 | refine below_set ?_ GE610.out) | exact HB.out))))
                              (case aL => have := LMc11.out; omega)
                              intro v620 w34 ho hb hg hat
                              rw [← Ny619.out] at ho
                              have n0_ := Aside0.mk (blk_grown (g := gb610) (o := .cells #[.int .u8 a2_0, .int .u8 a2_1, .int .u8 a2_2] 39 (0, 0)) (by (with_reducible repeat (first | refine blk_drewN ?_ _ | refine blk_drew ?_ | refine blk_alloc ?_ _)); exact BK610.out) hg (Kd.R_ne HO618.out BK610.out (by decide)))
                              have n1_ := Aside0.mk (Kd.R_after (ok := (fun k_ => some k_ ≠ (v623 : Value).ownBlock)) (by (with_reducible repeat (first | apply Kd.R_alloc | apply Kd.R_drewN | apply Kd.R_drew)); exact Kd.R_mono HO614.out (fun _ hk => ⟨hk.2, hk.1.2⟩)) hg hat)
                              have n2_ := Aside0.mk (Kd.R_after (ok := (fun k_ => some k_ ≠ (.slice Ao28 t612.length co28 : Value).ownBlock)) (by (with_reducible repeat (first | apply Kd.R_alloc | apply Kd.R_drewN | apply Kd.R_drew)); exact Kd.R_mono HO624.out (fun _ hk => ⟨hk.1.2, hk.2⟩)) hg hat)
                              have n3_ := Aside0.mk (hb)
                              have n4_ := Aside0.mk (ho)
                              clear BK610
                              clear HO614
                              clear HO624
                              clear HB
                              clear HO618
                              have BK610 := n0_
                              have HO614 := n1_
                              have HO624 := n2_
                              have HB := n3_
                              have HO621 := n4_
                              clear n0_ n1_ n2_ n3_ n4_
                              clear ho hb hg hat
                              refine hK.out _ _ ⟨(blk_cell BK610.out 0).trans rfl, (blk_cell BK610.out 1).trans rfl, (blk_cell BK610.out 2).trans rfl⟩ (fun hHeld => ?_)
                              clear hK K
                              refine norm_ (a' := ?_) ?_ ?_
                              rotate_left
                              · show Act.put _ (some 38) _ = _
                                simp only [Act.put, List.setIfInBounds_toArray, List.set_cons_zero, List.set_cons_succ, i64_w, i32_w]
                                rfl
                              exact norm_ (by simp only [putAll, Act.put, List.setIfInBounds_toArray, List.set_cons_zero, List.set_cons_succ]) (hCont (v617, v620, v623) _ ⟨hHeld, (by (with_reducible repeat (first | apply Kd.R_alloc | apply Kd.R_drewN | apply Kd.R_drew)); exact Kd.R_mono HO614.out (fun _ hk => ⟨hk.2, hk.1⟩)), (by (with_reducible repeat (first | apply Kd.R_alloc | apply Kd.R_drewN | apply Kd.R_drew)); exact HO621.out), (by (with_reducible repeat (first | apply Kd.R_alloc | apply Kd.R_drewN | apply Kd.R_drew)); exact HO624.out), (by (with_reducible repeat (first | refine blk_drewN ?_ _ | refine blk_drew ?_ | refine blk_alloc ?_ _)); exact BK610.out), (by repeat (first | (with_reducible first | exact HB.out | apply below_alloc | apply pw_below_drewN | apply below_drew1 | refine below_set ?_ GE610.out) | exact HB.out))⟩)
                          · skip
                            refine Kd.R_lit_step k42 _ 42 ?hg (N := 52) ?hd (xs := ([(⟨Int.tmod (wrap64 (a2_0)) t611, Int.tmod (wrap64 ((wrap64 ((Int.tmod (wrap64 (a2_0)) t611) + 1)) + (Int.tmod (wrap64 (a2_1)) (wrap64 (t611 - 1))))) t611⟩ : S42)] : List (S42))) (inner := [.int .i64 (Int.tmod (wrap64 (a2_0)) t611), .int .i64 (Int.tmod (wrap64 ((wrap64 ((Int.tmod (wrap64 (a2_0)) t611) + 1)) + (Int.tmod (wrap64 (a2_1)) (wrap64 (t611 - 1))))) t611)]) (ok := fun _ => True) (okp := fun _ => True) ?hr ?hp (fun _ hk => hk) trivial (Below.refl _ _) (Nat.le_refl _) (by simp) ?_; (case hd => rfl); (case hg => rfl); (case hr => first | (go_simp; done) | (go_simp; rfl)); (case hp => exact (Reps.c2 (show Kd.M k42 _ _ _ (⟨Int.tmod (wrap64 (a2_0)) t611, Int.tmod (wrap64 ((wrap64 ((Int.tmod (wrap64 (a2_0)) t611) + 1)) + (Int.tmod (wrap64 (a2_1)) (wrap64 (t611 - 1))))) t611⟩ : S42) [.int .i64 (Int.tmod (wrap64 (a2_0)) t611), .int .i64 (Int.tmod (wrap64 ((wrap64 ((Int.tmod (wrap64 (a2_0)) t611) + 1)) + (Int.tmod (wrap64 (a2_1)) (wrap64 (t611 - 1))))) t611)] from (k42_mkM _ _ _ (⟨Int.tmod (wrap64 (a2_0)) t611, Int.tmod (wrap64 ((wrap64 ((Int.tmod (wrap64 (a2_0)) t611) + 1)) + (Int.tmod (wrap64 (a2_1)) (wrap64 (t611 - 1))))) t611⟩ : S42) )) (Reps.none _ _)))
                            intro v623 w30 ho31 hb hg_ hnew_
                            clear hg_ hnew_
                            (first | rw [← Ny622.out] at ho31 | (simp only [Int.reduceToNat] at ho31; rw [← Ny622.out] at ho31))
                            have n0_ := Aside0.mk (Kd.R_elder' (by (with_reducible repeat (first | apply Kd.R_alloc | apply Kd.R_drewN | apply Kd.R_drew)); exact HO614.out) (Kd.R_base ho31) hb)
                            have n1_ := Aside0.mk (Kd.R_lower (Kd.R_new' ho31 (Kd.R_lt (by (with_reducible repeat (first | apply Kd.R_alloc | apply Kd.R_drewN | apply Kd.R_drew)); exact HO614.out))) (below_size (by repeat (first | (with_reducible first | exact HB.out | apply below_alloc | apply pw_below_drewN | apply below_drew1 | refine below_set ?_ GE610.out) | exact HB.out))))
                            have n2_ := Aside0.mk (blk_below (g := gb610) (o := .cells #[.int .u8 a2_0, .int .u8 a2_1, .int .u8 a2_2] 39 (0, 0)) (by (with_reducible repeat (first | refine blk_drewN ?_ _ | refine blk_drew ?_ | refine blk_alloc ?_ _)); exact BK610.out) hb)
                            have n3_ := Aside0.mk (below_step (by repeat (first | (with_reducible first | exact HB.out | apply below_alloc | apply pw_below_drewN | apply below_drew1 | refine below_set ?_ GE610.out) | exact HB.out)) hb)
                            clear HO614
                            clear BK610
                            clear HB
                            have HO614 := n0_
                            have HO624 := n1_
                            have BK610 := n2_
                            have HB := n3_
                            clear n0_ n1_ n2_ n3_
                            clear hb ho31
                            refine hK.out _ _ ⟨(blk_cell BK610.out 0).trans rfl, (blk_cell BK610.out 1).trans rfl, (blk_cell BK610.out 2).trans rfl⟩ (fun hHeld => ?_)
                            clear hK K
                            refine norm_ (a' := ?_) ?_ ?_
                            rotate_left
                            · show Act.put _ (some 52) _ = _
                              simp only [Act.put, List.setIfInBounds_toArray, List.set_cons_zero, List.set_cons_succ, i64_w, i32_w]
                              rfl
                            refine one_ (i := 0) (N := some 36) #[true, true, false, true, true, true, true, true, true, true, true, true, true, true, true, true, true, false, false] rfl rfl (one_of HT_.out (by kernel_rfl)) (by decide) (fun K hK => ?_)
                            refine Kd.R_lit_step k42 _ 42 ?hg (N := 36) ?hd (xs := ([] : List (S42))) (inner := []) (ok := fun _ => True) (okp := fun _ => True) ?hr ?hp (fun _ hk => hk) trivial (Below.refl _ _) (Nat.le_refl _) (by simp) ?_; (case hd => rfl); (case hg => rfl); (case hr => first | (go_simp; done) | (go_simp; rfl)); (case hp => exact (Reps.none _ _))
                            intro v617 w32 ho33 hb hg_ hnew_
                            clear hg_ hnew_
                            (first | rw [← Ny616.out] at ho33 | (simp only [Int.reduceToNat] at ho33; rw [← Ny616.out] at ho33))
                            have n0_ := Aside0.mk (Kd.R_elder' (by (with_reducible repeat (first | apply Kd.R_alloc | apply Kd.R_drewN | apply Kd.R_drew)); exact HO614.out) (Kd.R_base ho33) hb)
                            have n1_ := Aside0.mk (Kd.R_elder' (by (with_reducible repeat (first | apply Kd.R_alloc | apply Kd.R_drewN | apply Kd.R_drew)); exact HO624.out) (Kd.R_base ho33) hb)
                            have n2_ := Aside0.mk (Kd.R_lower (Kd.R_new' (Kd.R_new' ho33 (Kd.R_lt (by (with_reducible repeat (first | apply Kd.R_alloc | apply Kd.R_drewN | apply Kd.R_drew)); exact HO614.out))) (Kd.R_lt (by (with_reducible repeat (first | apply Kd.R_alloc | apply Kd.R_drewN | apply Kd.R_drew)); exact HO624.out))) (below_size (by repeat (first | (with_reducible first | exact HB.out | apply below_alloc | apply pw_below_drewN | apply below_drew1 | refine below_set ?_ GE610.out) | exact HB.out))))
                            have n3_ := Aside0.mk (blk_below (g := gb610) (o := .cells #[.int .u8 a2_0, .int .u8 a2_1, .int .u8 a2_2] 39 (0, 0)) (by (with_reducible repeat (first | refine blk_drewN ?_ _ | refine blk_drew ?_ | refine blk_alloc ?_ _)); exact BK610.out) hb)
                            have n4_ := Aside0.mk (below_step (by repeat (first | (with_reducible first | exact HB.out | apply below_alloc | apply pw_below_drewN | apply below_drew1 | refine below_set ?_ GE610.out) | exact HB.out)) hb)
                            clear HO614
                            clear HO624
                            clear BK610
                            clear HB
                            have HO614 := n0_
                            have HO624 := n1_
                            have HO618 := n2_
                            have BK610 := n3_
                            have HB := n4_
                            clear n0_ n1_ n2_ n3_ n4_
                            clear hb ho33
                            refine hK.out _ _ ⟨(blk_cell BK610.out 0).trans rfl, (blk_cell BK610.out 1).trans rfl, (blk_cell BK610.out 2).trans rfl⟩ (fun hHeld => ?_)
                            clear hK K
                            refine norm_ (a' := ?_) ?_ ?_
                            rotate_left
                            · show Act.put _ (some 36) _ = _
                              simp only [Act.put, List.setIfInBounds_toArray, List.set_cons_zero, List.set_cons_succ, i64_w, i32_w]
                              rfl
                            refine one_ (i := 2) (N := some 38) #[true, true, true, true, true, true, true, true, true, true, true, true, true, true, true, true, true, false, false] rfl rfl (one_of HT_.out (by kernel_rfl)) (by decide) (fun K hK => ?_)
                            refine Kd.R_append_rows_step k42 (w0 := w) w.heap.size (by rfl) (.tmp 36) (.tmp 37) 22 42 (.agg #[(.int .i64 0), (.int .i64 0)]) 16 rfl Tryd.underlying22 info42 rfl (by decide) (by omega) v617 y616 t612 _ _ _ (fun k_ => some k_ ≠ (.slice Ao28 t612.length co28 : Value).ownBlock ∧ some k_ ≠ (v623 : Value).ownBlock) (fun _ => False) rfl rfl ?aO ?aR (fun _ _ h => h) (fun _ h => h.elim) ?aF ?aB ?aS ?aL ?_
                            (case aR => repeat (first | exact (Kd.R_reads' HO614.out).2.2 | (with_reducible refine Kd.C_alloc ?_ _) | (with_reducible refine Kd.C_drewN ?_ _) | (with_reducible refine Kd.C_drew ?_)))
                            (case aB => exact (by repeat (first | (with_reducible first | exact HB.out | apply below_alloc | apply pw_below_drewN | apply below_drew1 | refine below_set ?_ GE610.out) | exact HB.out)))
                            (case aF => exact (fun k_ hk => ⟨Kd.fresh' (Kd.R_lt (by (with_reducible repeat (first | apply Kd.R_alloc | apply Kd.R_drewN | apply Kd.R_drew)); exact HO614.out)) k_ hk, Kd.fresh' (Kd.R_lt (by (with_reducible repeat (first | apply Kd.R_alloc | apply Kd.R_drewN | apply Kd.R_drew)); exact HO624.out)) k_ hk⟩))
                            (case aO => exact (by (with_reducible repeat (first | apply Kd.R_alloc | apply Kd.R_drewN | apply Kd.R_drew)); exact Kd.R_mono HO618.out (fun _ hk => ⟨hk.1.2, hk.2⟩)))
                            (case aS => exact (below_size (by repeat (first | (with_reducible first | exact HB.out | apply below_alloc | apply pw_below_drewN | apply below_drew1 | refine below_set ?_ GE610.out) | exact HB.out))))
                            (case aL => have := LMc11.out; omega)
                            intro v620 w34 ho hb hg hat
                            rw [← Ny619.out] at ho
                            have n0_ := Aside0.mk (blk_grown (g := gb610) (o := .cells #[.int .u8 a2_0, .int .u8 a2_1, .int .u8 a2_2] 39 (0, 0)) (by (with_reducible repeat (first | refine blk_drewN ?_ _ | refine blk_drew ?_ | refine blk_alloc ?_ _)); exact BK610.out) hg (Kd.R_ne HO618.out BK610.out (by decide)))
                            have n1_ := Aside0.mk (Kd.R_after (ok := (fun k_ => some k_ ≠ (v623 : Value).ownBlock)) (by (with_reducible repeat (first | apply Kd.R_alloc | apply Kd.R_drewN | apply Kd.R_drew)); exact Kd.R_mono HO614.out (fun _ hk => ⟨hk.1.2, hk.2⟩)) hg hat)
                            have n2_ := Aside0.mk (Kd.R_after (ok := (fun k_ => some k_ ≠ (.slice Ao28 t612.length co28 : Value).ownBlock)) (by (with_reducible repeat (first | apply Kd.R_alloc | apply Kd.R_drewN | apply Kd.R_drew)); exact Kd.R_mono HO624.out (fun _ hk => ⟨hk.1.2, hk.2⟩)) hg hat)
                            have n3_ := Aside0.mk (hb)
                            have n4_ := Aside0.mk (ho)
                            clear BK610
                            clear HO614
                            clear HO624
                            clear HB
                            clear HO618
                            have BK610 := n0_
                            have HO614 := n1_
                            have HO624 := n2_
                            have HB := n3_
                            have HO621 := n4_
                            clear n0_ n1_ n2_ n3_ n4_
                            clear ho hb hg hat
                            refine hK.out _ _ ⟨(blk_cell BK610.out 0).trans rfl, (blk_cell BK610.out 1).trans rfl, (blk_cell BK610.out 2).trans rfl⟩ (fun hHeld => ?_)
                            clear hK K
                            refine norm_ (a' := ?_) ?_ ?_
                            rotate_left
                            · show Act.put _ (some 38) _ = _
                              simp only [Act.put, List.setIfInBounds_toArray, List.set_cons_zero, List.set_cons_succ, i64_w, i32_w]
                              rfl
                            exact norm_ (by simp only [putAll, Act.put, List.setIfInBounds_toArray, List.set_cons_zero, List.set_cons_succ]) (hCont (v617, v620, v623) _ ⟨hHeld, (by (with_reducible repeat (first | apply Kd.R_alloc | apply Kd.R_drewN | apply Kd.R_drew)); exact Kd.R_mono HO614.out (fun _ hk => ⟨hk.2, hk.1⟩)), (by (with_reducible repeat (first | apply Kd.R_alloc | apply Kd.R_drewN | apply Kd.R_drew)); exact HO621.out), (by (with_reducible repeat (first | apply Kd.R_alloc | apply Kd.R_drewN | apply Kd.R_drew)); exact HO624.out), (by (with_reducible repeat (first | refine blk_drewN ?_ _ | refine blk_drew ?_ | refine blk_alloc ?_ _)); exact BK610.out), (by repeat (first | (with_reducible first | exact HB.out | apply below_alloc | apply pw_below_drewN | apply below_drew1 | refine below_set ?_ GE610.out) | exact HB.out))⟩)
                        rintro ⟨v617, v620, v623⟩ w35 ⟨hS_, h0_, h1_, h2_, h3_, h4_⟩
                        have n0_ : Aside0 (Kd.R k42 42 w35 w.heap.size (fun k_ => some k_ ≠ (v620 : Value).ownBlock ∧ some k_ ≠ (v623 : Value).ownBlock) (.slice Ao28 t612.length co28) t612) := ⟨h0_⟩
                        have n1_ : Aside0 (Kd.R k42 42 w35 w.heap.size (fun k_ => some k_ ≠ (.slice Ao28 t612.length co28 : Value).ownBlock ∧ some k_ ≠ (v623 : Value).ownBlock) v620 y619) := ⟨h1_⟩
                        have n2_ : Aside0 (Kd.R k42 42 w35 w.heap.size (fun k_ => some k_ ≠ (.slice Ao28 t612.length co28 : Value).ownBlock ∧ some k_ ≠ (v620 : Value).ownBlock) v623 y622) := ⟨h2_⟩
                        have n3_ : Aside0 (w35.heap[gb610]? = some (.cells #[.int .u8 a2_0, .int .u8 a2_1, .int .u8 a2_2] 39 (0, 0))) := ⟨h3_⟩
                        have n4_ : Aside0 (Below w.heap.size w w35) := ⟨h4_⟩
                        clear HO614
                        clear BK610
                        clear HB
                        clear h0_ h1_ h2_ h3_ h4_
                        have HO614 := n0_
                        have HO621 := n1_
                        have HO624 := n2_
                        have BK610 := n3_
                        have HB := n4_
                        clear n0_ n1_ n2_ n3_ n4_
                        have hHeld : w35.cell? ⟨gb610, 0, none⟩ = some (.int .u8 a2_0) ∧ w35.cell? ⟨gb610, 1, none⟩ = some (.int .u8 a2_1) ∧ w35.cell? ⟨gb610, 2, none⟩ = some (.int .u8 a2_2) := hS_
                        obtain ⟨Ao37, co37, eo37⟩ := Kd.R_slice HO624.out
                        (first | subst eo37 | (injection eo37 with f1_ f2_ f3_; have f4_ := f1_.symm; have f5_ := f3_.symm; clear f1_ f2_ f3_; subst f4_; subst f5_))
                        refine norm_ (a' := ?_) ?_ ?_
                        rotate_left
                        · simp only [putAll, Act.put, List.setIfInBounds_toArray, List.set_cons_zero, List.set_cons_succ]
                          rfl
                        refine one_ (i := 17) (N := some 53) #[true, true, true, true, true, true, true, true, true, true, true, true, true, true, true, true, true, true, false] rfl rfl (one_of HT_.out (by kernel_rfl)) (by decide) (fun K hK => ?_)
                        refine Kd.R_append_rows_step k42 (w0 := w) w.heap.size (by rfl) (.tmp 38) (.tmp 52) 22 42 (.agg #[(.int .i64 0), (.int .i64 0)]) 16 rfl Tryd.underlying22 info42 rfl (by decide) (by omega) v620 y619 y622 _ _ _ (fun k_ => some k_ ≠ (.slice Ao28 t612.length co28 : Value).ownBlock ∧ some k_ ≠ (.slice Ao37 y622.length co37 : Value).ownBlock) (fun _ => False) rfl rfl ?aO ?aR (fun _ _ h => h) (fun _ h => h.elim) ?aF ?aB ?aS ?aL ?_
                        (case aR => repeat (first | exact (Kd.R_reads' HO624.out).2.2 | (with_reducible refine Kd.C_alloc ?_ _) | (with_reducible refine Kd.C_drewN ?_ _) | (with_reducible refine Kd.C_drew ?_)))
                        (case aB => exact (by repeat (first | (with_reducible first | exact HB.out | apply below_alloc | apply pw_below_drewN | apply below_drew1 | refine below_set ?_ GE610.out) | exact HB.out)))
                        (case aF => exact (fun k_ hk => ⟨Kd.fresh' (Kd.R_lt (by (with_reducible repeat (first | apply Kd.R_alloc | apply Kd.R_drewN | apply Kd.R_drew)); exact HO614.out)) k_ hk, Kd.fresh' (Kd.R_lt (by (with_reducible repeat (first | apply Kd.R_alloc | apply Kd.R_drewN | apply Kd.R_drew)); exact HO624.out)) k_ hk⟩))
                        (case aO => exact (by (with_reducible repeat (first | apply Kd.R_alloc | apply Kd.R_drewN | apply Kd.R_drew)); exact HO621.out))
                        (case aS => exact (below_size (by repeat (first | (with_reducible first | exact HB.out | apply below_alloc | apply pw_below_drewN | apply below_drew1 | refine below_set ?_ GE610.out) | exact HB.out))))
                        (case aL => have := LMc13.out; omega)
                        intro v626 w36 ho hb hg hat
                        rw [← Ny625.out] at ho
                        have n0_ := Aside0.mk (blk_grown (g := gb610) (o := .cells #[.int .u8 a2_0, .int .u8 a2_1, .int .u8 a2_2] 39 (0, 0)) (by (with_reducible repeat (first | refine blk_drewN ?_ _ | refine blk_drew ?_ | refine blk_alloc ?_ _)); exact BK610.out) hg (Kd.R_ne HO621.out BK610.out (by decide)))
                        have n1_ := Aside0.mk (Kd.R_after (ok := (fun k_ => some k_ ≠ (.slice Ao37 y622.length co37 : Value).ownBlock)) (by (with_reducible repeat (first | apply Kd.R_alloc | apply Kd.R_drewN | apply Kd.R_drew)); exact Kd.R_mono HO614.out (fun _ hk => ⟨hk.2, hk.1⟩)) hg hat)
                        have n2_ := Aside0.mk (Kd.R_after (ok := (fun k_ => some k_ ≠ (.slice Ao28 t612.length co28 : Value).ownBlock)) (by (with_reducible repeat (first | apply Kd.R_alloc | apply Kd.R_drewN | apply Kd.R_drew)); exact HO624.out) hg hat)
                        have n3_ := Aside0.mk (hb)
                        have n4_ := Aside0.mk (ho)
                        clear BK610
                        clear HO614
                        clear HO624
                        clear HB
                        clear HO621
                        have BK610 := n0_
                        have HO614 := n1_
                        have HO624 := n2_
                        have HB := n3_
                        have HO627 := n4_
                        clear n0_ n1_ n2_ n3_ n4_
                        clear ho hb hg hat
                        refine hK.out _ _ ⟨(blk_cell BK610.out 0).trans rfl, (blk_cell BK610.out 1).trans rfl, (blk_cell BK610.out 2).trans rfl⟩ (fun hHeld => ?_)
                        clear hK K
                        refine norm_ (a' := ?_) ?_ ?_
                        rotate_left
                        · show Act.put _ (some 53) _ = _
                          simp only [Act.put, List.setIfInBounds_toArray, List.set_cons_zero, List.set_cons_succ, i64_w, i32_w]
                          rfl
                        refine pure_ (i := 18) (N := some 10) (v := ?_) (a' := ?_) #[true, true, true, true, true, true, true, true, true, true, true, true, true, true, true, true, true, true, true] rfl rfl (any_of HT_.out (by kernel_rfl)) (fun _ _ _ h => h) (Or.inl ⟨by rfl, ?_⟩) ?_ ?_
                        rotate_left
                        · intro w'
                          go_simp
                          with_reducible rfl
                        rotate_left
                        · simp only [Act.put, List.setIfInBounds_toArray, List.set_cons_zero, List.set_cons_succ, i64_w, i32_w]
                          rfl
                        refine done_ (done_of HT_.out (by kernel_rfl)) ?_
                        have hcz38_0 : w36.cell? ⟨gb610, 0, none⟩ = some (.int .u8 a2_0) := (blk_cell BK610.out 0).trans rfl
                        have hcz38_1 : w36.cell? ⟨gb610, 1, none⟩ = some (.int .u8 a2_1) := (blk_cell BK610.out 1).trans rfl
                        have hcz38_2 : w36.cell? ⟨gb610, 2, none⟩ = some (.int .u8 a2_2) := (blk_cell BK610.out 2).trans rfl
                        have hfz38_0 := blk_frozen BK610.out 0
                        have hfz38_1 := blk_frozen BK610.out 1
                        have hfz38_2 := blk_frozen BK610.out 2
                        try go_wp2_with (first | ((with_reducible refine gate_callee (f := 17) rfl ?_); refine goesL_ (some 63) rfl rfl Tryd.func17 (by kernel_rfl) rfl #[.int .i64 t611, .slice Ao28 t612.length co28, .int .i64 (Int.tmod (wrap64 (a2_2)) t611)] rfl (by (try simp only [List.map_toArray, List.map_cons, List.map_nil]); first | done | rfl | (simp only [List.length_drop, List.length_take]; rfl)) ?_; (with_reducible refine (fire_Best.calls t611 _ _ t612 (Int.tmod (wrap64 (a2_2)) t611) t628 t629 t630 _ ?side1 ?side2 A14.out).mono ?_); (case side1 => repeat (first | exact (Kd.R_reads' HO614.out).2.2 | (with_reducible refine Kd.C_alloc ?_ _) | (with_reducible refine Kd.C_drewN ?_ _) | (with_reducible refine Kd.C_drew ?_))); (case side2 => exact (Kd.R_reads' HO614.out).2.1); rintro e w39 ⟨v631, rfl, ho0, hb⟩; refine ⟨_, rfl, ?_⟩; have n0_ := Aside0.mk (Kd.R_below (by (with_reducible repeat (first | apply Kd.R_alloc | apply Kd.R_drewN | apply Kd.R_drew)); exact HO614.out) hb); have n1_ := Aside0.mk (Kd.R_below (by (with_reducible repeat (first | apply Kd.R_alloc | apply Kd.R_drewN | apply Kd.R_drew)); exact HO624.out) hb); have n2_ := Aside0.mk (Kd.R_below (by (with_reducible repeat (first | apply Kd.R_alloc | apply Kd.R_drewN | apply Kd.R_drew)); exact HO627.out) hb); have n3_ := Aside0.mk (Kd.R_lower ho0 (below_size (by repeat (first | (with_reducible first | exact HB.out | apply below_alloc | apply pw_below_drewN | apply below_drew1 | refine below_set ?_ GE610.out) | exact HB.out)))); have n4_ := Aside0.mk (blk_below (g := gb610) (o := .cells #[.int .u8 a2_0, .int .u8 a2_1, .int .u8 a2_2] 39 (0, 0)) (by (with_reducible repeat (first | refine blk_drewN ?_ _ | refine blk_drew ?_ | refine blk_alloc ?_ _)); exact BK610.out) hb); have n5_ := Aside0.mk (below_step (by repeat (first | (with_reducible first | exact HB.out | apply below_alloc | apply pw_below_drewN | apply below_drew1 | refine below_set ?_ GE610.out) | exact HB.out)) hb); clear HO614; clear HO624; clear HO627; clear BK610; clear HB; have HO614 := n0_; have HO624 := n1_; have HO627 := n2_; have HO632 := n3_; have BK610 := n4_; have HB := n5_; clear n0_ n1_ n2_ n3_ n4_ n5_; (try clear hb); (try clear hb2); (try clear hk); (try clear hi); (try clear ho0); obtain ⟨Ao40, co40, eo40⟩ := Kd.R_slice HO627.out; subst eo40) | ((with_reducible refine gate_callee (f := 17) rfl ?_); refine goesL_ (some 71) rfl rfl Tryd.func17 (by kernel_rfl) rfl #[.int .i64 t611, .slice Ao40 y625.length co40, .int .i64 (Int.tmod (wrap64 (a2_2)) t611)] rfl (by (try simp only [List.map_toArray, List.map_cons, List.map_nil]); first | done | rfl | (simp only [List.length_drop, List.length_take]; rfl)) ?_; (with_reducible refine (fire_Best.calls t611 _ _ y625 (Int.tmod (wrap64 (a2_2)) t611) t633 t634 t635 _ ?side1 ?side2 A15.out).mono ?_); (case side1 => repeat (first | exact (Kd.R_reads' HO627.out).2.2 | (with_reducible refine Kd.C_alloc ?_ _) | (with_reducible refine Kd.C_drewN ?_ _) | (with_reducible refine Kd.C_drew ?_))); (case side2 => exact (Kd.R_reads' HO627.out).2.1); rintro e w41 ⟨v636, rfl, ho0, hb⟩; refine ⟨_, rfl, ?_⟩; have n0_ := Aside0.mk (Kd.R_below (by (with_reducible repeat (first | apply Kd.R_alloc | apply Kd.R_drewN | apply Kd.R_drew)); exact HO614.out) hb); have n1_ := Aside0.mk (Kd.R_below (by (with_reducible repeat (first | apply Kd.R_alloc | apply Kd.R_drewN | apply Kd.R_drew)); exact HO624.out) hb); have n2_ := Aside0.mk (Kd.R_below (by (with_reducible repeat (first | apply Kd.R_alloc | apply Kd.R_drewN | apply Kd.R_drew)); exact HO627.out) hb); have n3_ := Aside0.mk (Kd.R_elder' (by (with_reducible repeat (first | apply Kd.R_alloc | apply Kd.R_drewN | apply Kd.R_drew)); exact HO632.out) (Kd.R_base ho0) hb); have n4_ := Aside0.mk (Kd.R_lower (Kd.R_new' ho0 (Kd.R_lt (by (with_reducible repeat (first | apply Kd.R_alloc | apply Kd.R_drewN | apply Kd.R_drew)); exact HO632.out))) (below_size (by repeat (first | (with_reducible first | exact HB.out | apply below_alloc | apply pw_below_drewN | apply below_drew1 | refine below_set ?_ GE610.out) | exact HB.out)))); have n5_ := Aside0.mk (blk_below (g := gb610) (o := .cells #[.int .u8 a2_0, .int .u8 a2_1, .int .u8 a2_2] 39 (0, 0)) (by (with_reducible repeat (first | refine blk_drewN ?_ _ | refine blk_drew ?_ | refine blk_alloc ?_ _)); exact BK610.out) hb); have n6_ := Aside0.mk (below_step (by repeat (first | (with_reducible first | exact HB.out | apply below_alloc | apply pw_below_drewN | apply below_drew1 | refine below_set ?_ GE610.out) | exact HB.out)) hb); clear HO614; clear HO624; clear HO627; clear HO632; clear BK610; clear HB; have HO614 := n0_; have HO624 := n1_; have HO627 := n2_; have HO632 := n3_; have HO637 := n4_; have BK610 := n5_; have HB := n6_; clear n0_ n1_ n2_ n3_ n4_ n5_ n6_; (try clear hb); (try clear hb2); (try clear hk); (try clear hi); (try clear ho0)) | ((with_reducible refine gate_callee (f := 24) rfl ?_); refine goesL_ (some 78) rfl rfl Tryd.func24 (by kernel_rfl) rfl #[.int .i64 t611, .slice Ao28 t612.length co28] rfl (by (try simp only [List.map_toArray, List.map_cons, List.map_nil]); first | done | rfl | (simp only [List.length_drop, List.length_take]; rfl)) ?_; (with_reducible refine (fire_Burning.calls t611 _ _ t612 t638 t639 _ ?side1 ?side2 (TabIn.below' HT.out (by first | exact Below.refl _ _ | (repeat (first | (with_reducible first | exact HB.out | apply below_alloc | apply pw_below_drewN | apply below_drew1) | exact HB.out)))) A16.out).mono ?_); (case side1 => repeat (first | exact (Kd.R_reads' HO614.out).2.2 | (with_reducible refine Kd.C_alloc ?_ _) | (with_reducible refine Kd.C_drewN ?_ _) | (with_reducible refine Kd.C_drew ?_))); (case side2 => exact (Kd.R_reads' HO614.out).2.1); rintro e w42 ⟨v640, rfl, ho0, hb⟩; refine ⟨_, rfl, ?_⟩; have n0_ := Aside0.mk (Kd.R_below (by (with_reducible repeat (first | apply Kd.R_alloc | apply Kd.R_drewN | apply Kd.R_drew)); exact HO614.out) hb); have n1_ := Aside0.mk (Kd.R_below (by (with_reducible repeat (first | apply Kd.R_alloc | apply Kd.R_drewN | apply Kd.R_drew)); exact HO624.out) hb); have n2_ := Aside0.mk (Kd.R_below (by (with_reducible repeat (first | apply Kd.R_alloc | apply Kd.R_drewN | apply Kd.R_drew)); exact HO627.out) hb); have n3_ := Aside0.mk (Kd.R_elder' (by (with_reducible repeat (first | apply Kd.R_alloc | apply Kd.R_drewN | apply Kd.R_drew)); exact HO632.out) (Kd.R_base ho0) hb); have n4_ := Aside0.mk (Kd.R_elder' (by (with_reducible repeat (first | apply Kd.R_alloc | apply Kd.R_drewN | apply Kd.R_drew)); exact HO637.out) (Kd.R_base ho0) hb); have n5_ := Aside0.mk (Kd.R_lower (Kd.R_new' (Kd.R_new' ho0 (Kd.R_lt (by (with_reducible repeat (first | apply Kd.R_alloc | apply Kd.R_drewN | apply Kd.R_drew)); exact HO632.out))) (Kd.R_lt (by (with_reducible repeat (first | apply Kd.R_alloc | apply Kd.R_drewN | apply Kd.R_drew)); exact HO637.out))) (below_size (by repeat (first | (with_reducible first | exact HB.out | apply below_alloc | apply pw_below_drewN | apply below_drew1 | refine below_set ?_ GE610.out) | exact HB.out)))); have n6_ := Aside0.mk (blk_below (g := gb610) (o := .cells #[.int .u8 a2_0, .int .u8 a2_1, .int .u8 a2_2] 39 (0, 0)) (by (with_reducible repeat (first | refine blk_drewN ?_ _ | refine blk_drew ?_ | refine blk_alloc ?_ _)); exact BK610.out) hb); have n7_ := Aside0.mk (below_step (by repeat (first | (with_reducible first | exact HB.out | apply below_alloc | apply pw_below_drewN | apply below_drew1 | refine below_set ?_ GE610.out) | exact HB.out)) hb); clear HO614; clear HO624; clear HO627; clear HO632; clear HO637; clear BK610; clear HB; have HO614 := n0_; have HO624 := n1_; have HO627 := n2_; have HO632 := n3_; have HO637 := n4_; have HO641 := n5_; have BK610 := n6_; have HB := n7_; clear n0_ n1_ n2_ n3_ n4_ n5_ n6_ n7_; (try clear hb); (try clear hb2); (try clear hk); (try clear hi); (try clear ho0)) | ((with_reducible refine gate_callee (f := 24) rfl ?_); refine goesL_ (some 84) rfl rfl Tryd.func24 (by kernel_rfl) rfl #[.int .i64 t611, .slice Ao40 y625.length co40] rfl (by (try simp only [List.map_toArray, List.map_cons, List.map_nil]); first | done | rfl | (simp only [List.length_drop, List.length_take]; rfl)) ?_; (with_reducible refine (fire_Burning.calls t611 _ _ y625 t642 t643 _ ?side1 ?side2 (TabIn.below' HT.out (by first | exact Below.refl _ _ | (repeat (first | (with_reducible first | exact HB.out | apply below_alloc | apply pw_below_drewN | apply below_drew1) | exact HB.out)))) A17.out).mono ?_); (case side1 => repeat (first | exact (Kd.R_reads' HO627.out).2.2 | (with_reducible refine Kd.C_alloc ?_ _) | (with_reducible refine Kd.C_drewN ?_ _) | (with_reducible refine Kd.C_drew ?_))); (case side2 => exact (Kd.R_reads' HO627.out).2.1); rintro e w43 ⟨v644, rfl, ho0, hb⟩; refine ⟨_, rfl, ?_⟩; have n0_ := Aside0.mk (Kd.R_below (by (with_reducible repeat (first | apply Kd.R_alloc | apply Kd.R_drewN | apply Kd.R_drew)); exact HO614.out) hb); have n1_ := Aside0.mk (Kd.R_below (by (with_reducible repeat (first | apply Kd.R_alloc | apply Kd.R_drewN | apply Kd.R_drew)); exact HO624.out) hb); have n2_ := Aside0.mk (Kd.R_below (by (with_reducible repeat (first | apply Kd.R_alloc | apply Kd.R_drewN | apply Kd.R_drew)); exact HO627.out) hb); have n3_ := Aside0.mk (Kd.R_elder' (by (with_reducible repeat (first | apply Kd.R_alloc | apply Kd.R_drewN | apply Kd.R_drew)); exact HO632.out) (Kd.R_base ho0) hb); have n4_ := Aside0.mk (Kd.R_elder' (by (with_reducible repeat (first | apply Kd.R_alloc | apply Kd.R_drewN | apply Kd.R_drew)); exact HO637.out) (Kd.R_base ho0) hb); have n5_ := Aside0.mk (Kd.R_elder' (by (with_reducible repeat (first | apply Kd.R_alloc | apply Kd.R_drewN | apply Kd.R_drew)); exact HO641.out) (Kd.R_base ho0) hb); have n6_ := Aside0.mk (Kd.R_lower (Kd.R_new' (Kd.R_new' (Kd.R_new' ho0 (Kd.R_lt (by (with_reducible repeat (first | apply Kd.R_alloc | apply Kd.R_drewN | apply Kd.R_drew)); exact HO632.out))) (Kd.R_lt (by (with_reducible repeat (first | apply Kd.R_alloc | apply Kd.R_drewN | apply Kd.R_drew)); exact HO637.out))) (Kd.R_lt (by (with_reducible repeat (first | apply Kd.R_alloc | apply Kd.R_drewN | apply Kd.R_drew)); exact HO641.out))) (below_size (by repeat (first | (with_reducible first | exact HB.out | apply below_alloc | apply pw_below_drewN | apply below_drew1 | refine below_set ?_ GE610.out) | exact HB.out)))); have n7_ := Aside0.mk (blk_below (g := gb610) (o := .cells #[.int .u8 a2_0, .int .u8 a2_1, .int .u8 a2_2] 39 (0, 0)) (by (with_reducible repeat (first | refine blk_drewN ?_ _ | refine blk_drew ?_ | refine blk_alloc ?_ _)); exact BK610.out) hb); have n8_ := Aside0.mk (below_step (by repeat (first | (with_reducible first | exact HB.out | apply below_alloc | apply pw_below_drewN | apply below_drew1 | refine below_set ?_ GE610.out) | exact HB.out)) hb); clear HO614; clear HO624; clear HO627; clear HO632; clear HO637; clear HO641; clear BK610; clear HB; have HO614 := n0_; have HO624 := n1_; have HO627 := n2_; have HO632 := n3_; have HO637 := n4_; have HO641 := n5_; have HO645 := n6_; have BK610 := n7_; have HB := n8_; clear n0_ n1_ n2_ n3_ n4_ n5_ n6_ n7_ n8_; (try clear hb); (try clear hb2); (try clear hk); (try clear hi); (try clear ho0); obtain ⟨Ao44, co44, eo44⟩ := Kd.R_slice HO645.out; subst eo44; obtain ⟨Ao45, co45, eo45⟩ := Kd.R_slice HO641.out; subst eo45) | (go_at_call 19; (with_reducible refine (wogglelaw06_lives.calls k  t646 _ (TabIn.below' HT.out (by first | exact Below.refl _ _ | (repeat (first | (with_reducible first | exact HB.out | apply below_alloc | apply pw_below_drewN | apply below_drew1) | exact HB.out)))) A24.out).mono ?_); rintro e w46 ⟨rfl, hb⟩; have n0_ := Aside0.mk (Kd.R_below (by (with_reducible repeat (first | apply Kd.R_alloc | apply Kd.R_drewN | apply Kd.R_drew)); exact HO614.out) hb); have n1_ := Aside0.mk (Kd.R_below (by (with_reducible repeat (first | apply Kd.R_alloc | apply Kd.R_drewN | apply Kd.R_drew)); exact HO624.out) hb); have n2_ := Aside0.mk (Kd.R_below (by (with_reducible repeat (first | apply Kd.R_alloc | apply Kd.R_drewN | apply Kd.R_drew)); exact HO627.out) hb); have n3_ := Aside0.mk (Kd.R_below (by (with_reducible repeat (first | apply Kd.R_alloc | apply Kd.R_drewN | apply Kd.R_drew)); exact HO632.out) hb); have n4_ := Aside0.mk (Kd.R_below (by (with_reducible repeat (first | apply Kd.R_alloc | apply Kd.R_drewN | apply Kd.R_drew)); exact HO637.out) hb); have n5_ := Aside0.mk (Kd.R_below (by (with_reducible repeat (first | apply Kd.R_alloc | apply Kd.R_drewN | apply Kd.R_drew)); exact HO641.out) hb); have n6_ := Aside0.mk (Kd.R_below (by (with_reducible repeat (first | apply Kd.R_alloc | apply Kd.R_drewN | apply Kd.R_drew)); exact HO645.out) hb); have n7_ := Aside0.mk (blk_below (g := gb610) (o := .cells #[.int .u8 a2_0, .int .u8 a2_1, .int .u8 a2_2] 39 (0, 0)) (by (with_reducible repeat (first | refine blk_drewN ?_ _ | refine blk_drew ?_ | refine blk_alloc ?_ _)); exact BK610.out) hb); have n8_ := Aside0.mk (below_step (by repeat (first | (with_reducible first | exact HB.out | apply below_alloc | apply pw_below_drewN | apply below_drew1 | refine below_set ?_ GE610.out) | exact HB.out)) hb); clear HO614; clear HO624; clear HO627; clear HO632; clear HO637; clear HO641; clear HO645; clear BK610; clear HB; have HO614 := n0_; have HO624 := n1_; have HO627 := n2_; have HO632 := n3_; have HO637 := n4_; have HO641 := n5_; have HO645 := n6_; have BK610 := n7_; have HB := n8_; clear n0_ n1_ n2_ n3_ n4_ n5_ n6_ n7_ n8_; (try clear hb); (try clear hb2); (try clear hk); (try clear hi)))
                        go_ret
                        exact ⟨by first | rfl | (simp [errW_none, errW_some] <;> rfl) | (simp [*, errW_none, errW_some] <;> rfl), by repeat (first | (with_reducible first | exact HB.out | apply below_alloc | apply pw_below_drewN | apply below_drew1 | refine below_set ?_ GE610.out) | exact HB.out)⟩
                      · rw [if_neg c23] at H
                        exact absurd ((Option.some.inj H).trans HRT.out) (by simp)
                    · rw [if_neg c22] at H
                      exact absurd ((Option.some.inj H).trans HRT.out) (by simp)
                  · rw [if_neg c21] at H
                    exact absurd ((Option.some.inj H).trans HRT.out) (by simp)
                · rw [if_neg c20] at H
                  exact absurd ((Option.some.inj H).trans HRT.out) (by simp)
              · rw [if_neg c19] at H
                exact absurd ((Option.some.inj H).trans HRT.out) (by simp)
            · rw [if_neg c18] at H
              exact absurd ((Option.some.inj H).trans HRT.out) (by simp)
          · rw [if_neg c13] at H
            exact absurd H (by simp)
      · rw [if_neg c11] at H
        exact absurd H (by simp)
end Go.Proofs.YtbgpnkchbcgekaaDoor.Fi
