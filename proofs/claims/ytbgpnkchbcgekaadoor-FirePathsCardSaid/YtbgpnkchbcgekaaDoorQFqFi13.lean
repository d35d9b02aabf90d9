-- Printed for this claim over the translation (with hand-proved callees). Lean checks it.
import Derived.Test.YtbgpnkchbcgekaaDoorQFqFi0
import Derived.Test.YtbgpnkchbcgekaaDoorQFqFi1
import Derived.Test.YtbgpnkchbcgekaaDoorQFqFi3
import Derived.Test.YtbgpnkchbcgekaaDoorQFqFi5
import Derived.Test.YtbgpnkchbcgekaaDoorQFqFi6
import Derived.Test.YtbgpnkchbcgekaaDoorQFqFi9
import Derived.Test.YtbgpnkchbcgekaaDoorQFqHbu
import Derived.Test.YtbgpnkchbcgekaaDoorQFqHgr
import Derived.Test.YtbgpnkchbcgekaaDoorQFqHra
import Derived.Test.YtbgpnkchbcgekaaDoorQFqR0
namespace Go.Proofs.YtbgpnkchbcgekaaDoor.Fi
open Go.RowKit Go.Proofs.YtbgpnkchbcgekaaDoorW.PrintWords Go.Proofs.YtbgpnkchbcgekaaDoorW.PrintLast Go.Proofs.YtbgpnkchbcgekaaDoorW.PrintMore
attribute [local go_sem] max2_int min2_int max_two min_two max_three min_three max_four min_four   -- for this text's walks alone
set_option linter.unusedVariables false
set_option linter.unusedSimpArgs false
mutual
def wogglelaw06_FirePaths.l0 : Nat → Int → List (S42) → Int → Int → Option (Bool)
  | 0, _, _, _, _ => none
  | k + 1, x3, x4, x5, x6 => if x6 < x3 then (if x4.length < 8796093022208 then (wogglelaw06_FirePaths.l0 k x3 (x4 ++ [(⟨wrap64 (x6 - 1), x6⟩ : S42)]) x5 (wrap64 (x6 + 1))) else (none)) else (wogglelaw06_FirePaths.l1 k x3 x4 x5)
def wogglelaw06_FirePaths.l1 : Nat → Int → List (S42) → Int → Option (Bool)
  | 0, _, _, _ => none
  | k + 1, x3, x4, x5 => if (wrap64 (x5 * x5)) < x3 then (wogglelaw06_FirePaths.l1 k x3 x4 (wrap64 (x5 + 1))) else ((fire_Burning.f x3 x4).bind fun bt482 => ((fire_Radius.f x3 x4).bind fun bt486 => (if bt482.2 = 0 then (if bt486.2 = 0 then (if (bt482.1.length : Int) = x5 then (if bt486.1 = (wrap64 (Int.tdiv x3 2)) then ((wogglelaw06_lives.f k).bind fun t488 => (wogglelaw06_FirePaths.j2 k x3 x4 x5 (!t488))) else (wogglelaw06_FirePaths.j2 k x3 x4 x5 true)) else (wogglelaw06_FirePaths.j2 k x3 x4 x5 true)) else (wogglelaw06_FirePaths.j2 k x3 x4 x5 true)) else (wogglelaw06_FirePaths.j2 k x3 x4 x5 true))))
def wogglelaw06_FirePaths.j2 : Nat → Int → List (S42) → Int → Bool → Option (Bool)
  | 0, _, _, _, _ => none
  | k + 1, x3, x4, x5, x70 => if x70 = true then (some false) else (if x3 < 3 then (some true) else (if x4.length < 8796093022208 then ((fire_Burning.f x3 (x4 ++ [(⟨wrap64 (x3 - 1), 0⟩ : S42)])).bind fun bt492 => (if bt492.2 = 0 then (some ((bt492.1.length : Int) == x5)) else (some false))) else (none)))
end
def wogglelaw06_FirePaths.f (k : Nat) (a0 : Int) : Option (Bool) := wogglelaw06_FirePaths.l0 k (wrap64 ((Int.tmod (wrap64 (a0)) 10) + 1)) (([] : List (S42))) 1 1
theorem wogglelaw06_FirePaths.mono_l : ∀ k, (∀ y0 y1 y2 y3, LeO (wogglelaw06_FirePaths.l0 k y0 y1 y2 y3) (wogglelaw06_FirePaths.l0 (k + 1) y0 y1 y2 y3)) ∧ (∀ y0 y1 y2, LeO (wogglelaw06_FirePaths.l1 k y0 y1 y2) (wogglelaw06_FirePaths.l1 (k + 1) y0 y1 y2)) ∧ (∀ y0 y1 y2 y3, LeO (wogglelaw06_FirePaths.j2 k y0 y1 y2 y3) (wogglelaw06_FirePaths.j2 (k + 1) y0 y1 y2 y3))
  | 0 => ⟨fun _ _ _ _ r h => by simp [wogglelaw06_FirePaths.l0] at h, fun _ _ _ r h => by simp [wogglelaw06_FirePaths.l1] at h, fun _ _ _ _ r h => by simp [wogglelaw06_FirePaths.j2] at h⟩
  | k + 1 => by
    obtain ⟨ih0, ih1, ih2⟩ := wogglelaw06_FirePaths.mono_l k
    refine ⟨?_, ?_, ?_⟩
    · intro y0 y1 y2 y3
      unfold wogglelaw06_FirePaths.l0
      repeat' first
      | (with_reducible exact ih0 _ _ _ _)
      | (with_reducible exact ih1 _ _ _)
      | (with_reducible exact ih2 _ _ _ _)
      | (with_reducible exact wogglelaw06_lives.mono _)
      | (with_reducible exact LeO.refl _)
      | (with_reducible exact LeO.none _)
      | (with_reducible refine LeO.ite ?_ ?_)
      | (with_reducible refine LeO.bind ?_ (fun _ => ?_))
      | exact ih0 _ _ _ _
      | exact ih1 _ _ _
      | exact ih2 _ _ _ _
      | exact wogglelaw06_lives.mono _
      | exact LeO.none _
      | refine LeO.ite ?_ ?_
      | refine LeO.bind ?_ (fun _ => ?_)
    · intro y0 y1 y2
      unfold wogglelaw06_FirePaths.l1
      repeat' first
      | (with_reducible exact ih0 _ _ _ _)
      | (with_reducible exact ih1 _ _ _)
      | (with_reducible exact ih2 _ _ _ _)
      | (with_reducible exact wogglelaw06_lives.mono _)
      | (with_reducible exact LeO.refl _)
      | (with_reducible exact LeO.none _)
      | (with_reducible refine LeO.ite ?_ ?_)
      | (with_reducible refine LeO.bind ?_ (fun _ => ?_))
      | exact ih0 _ _ _ _
      | exact ih1 _ _ _
      | exact ih2 _ _ _ _
      | exact wogglelaw06_lives.mono _
      | exact LeO.none _
      | refine LeO.ite ?_ ?_
      | refine LeO.bind ?_ (fun _ => ?_)
    · intro y0 y1 y2 y3
      unfold wogglelaw06_FirePaths.j2
      repeat' first
      | (with_reducible exact ih0 _ _ _ _)
      | (with_reducible exact ih1 _ _ _)
      | (with_reducible exact ih2 _ _ _ _)
      | (with_reducible exact wogglelaw06_lives.mono _)
      | (with_reducible exact LeO.refl _)
      | (with_reducible exact LeO.none _)
      | (with_reducible refine LeO.ite ?_ ?_)
      | (with_reducible refine LeO.bind ?_ (fun _ => ?_))
      | exact ih0 _ _ _ _
      | exact ih1 _ _ _
      | exact ih2 _ _ _ _
      | exact wogglelaw06_lives.mono _
      | exact LeO.none _
      | refine LeO.ite ?_ ?_
      | refine LeO.bind ?_ (fun _ => ?_)
theorem wogglelaw06_FirePaths.mono : ∀ a0 k, LeO (wogglelaw06_FirePaths.f k a0) (wogglelaw06_FirePaths.f (k + 1) a0) := by
  intro a0 k
  obtain ⟨ih0, ih1, ih2⟩ := wogglelaw06_FirePaths.mono_l k
  unfold wogglelaw06_FirePaths.f
  repeat' first
      | (with_reducible exact ih0 _ _ _ _)
      | (with_reducible exact ih1 _ _ _)
      | (with_reducible exact ih2 _ _ _ _)
      | (with_reducible exact wogglelaw06_lives.mono _)
      | (with_reducible exact LeO.refl _)
      | (with_reducible exact LeO.none _)
      | (with_reducible refine LeO.ite ?_ ?_)
      | (with_reducible refine LeO.bind ?_ (fun _ => ?_))
      | exact ih0 _ _ _ _
      | exact ih1 _ _ _
      | exact ih2 _ _ _ _
      | exact wogglelaw06_lives.mono _
      | exact LeO.none _
      | refine LeO.ite ?_ ?_
      | refine LeO.bind ?_ (fun _ => ?_)
set_option maxHeartbeats 8000000 in
set_option maxRecDepth 100000 in
theorem wogglelaw06_FirePaths.calls (k : Nat) (a0 : Int) (r : Bool) (w : World) (hT : TabIn w) (h : wogglelaw06_FirePaths.f k a0 = some r) :
    Calls Tryd.prog 11 #[.int .u8 a0] w fun e w' => e = .returned (.bool r) ∧ Below w.heap.size w w' := by
  have HT := Aside0.mk hT
  clear hT
  have hu42 := Tryd.underlying42
  have HB := Aside0.mk (Below.refl w.heap.size w)
  have H : (wogglelaw06_FirePaths.l0 k (wrap64 ((Int.tmod (wrap64 (a0)) 10) + 1)) (([] : List (S42))) 1 1) = some r := h
  clear h
  obtain ⟨y476, hy476⟩ : ∃ y_ : List (S42), y_ = (([] : List (S42))) := ⟨_, rfl⟩
  replace H : (wogglelaw06_FirePaths.l0 k (wrap64 ((Int.tmod (wrap64 (a0)) 10) + 1)) y476 1 1) = some r := by first | (rw [hy476]; with_reducible exact H) | (have H2_ := (Option.bind_some _ _).symm.trans H; rw [hy476]; with_reducible exact H2_) | (have H2_ := (Option.bind_some _ _).symm.trans H; with_reducible exact H2_) | with_reducible exact H | (rw [hy476]; exact H) | exact H
  have Ny476 := Aside0.mk hy476
  clear hy476
  have H' := Aside0.mk H
  clear H
  go_enter Tryd.func11, Tryd.ntmps11
  go_wp2_with (first | ((with_reducible refine gate_dst (N := 17) rfl ?_); (try (refine gate_guard (by rfl) ?_; dsimp only)); refine Kd.R_lit k42 _ 42 ?hg (N := 17) ?hd (xs := ([] : List (S42))) (inner := []) (ok := fun _ => True) (okp := fun _ => True) ?hr ?hp (fun _ hk => hk) trivial (Below.refl _ _) (Nat.le_refl _) (by simp) ?_; (case hd => rfl); (case hg => rfl); (case hr => first | (go_simp; done) | (go_simp; rfl)); (case hp => exact (Reps.none _ _)); intro v477 w2 ho3 hb hg_ hnew_; clear hg_ hnew_; (first | rw [← Ny476.out] at ho3 | (simp only [Int.reduceToNat] at ho3; rw [← Ny476.out] at ho3)); have n0_ := Aside0.mk (Kd.R_lower ho3 (below_size (by repeat (first | (with_reducible first | exact HB.out | apply below_alloc | apply pw_below_drewN | apply below_drew1) | exact HB.out)))); have n1_ := Aside0.mk (below_step (by repeat (first | (with_reducible first | exact HB.out | apply below_alloc | apply pw_below_drewN | apply below_drew1) | exact HB.out)) hb); clear HB; have HO478 := n0_; have HB := n1_; clear n0_ n1_; clear hb ho3))
  go_loopg [4, 6] k (fun kq v4 v6 w' => ∃ (x4_1 : List (S42)) (x6_1 : Int), v6 = .int .i64 x6_1 ∧ Aside0 (wogglelaw06_FirePaths.l0 kq (wrap64 ((Int.tmod (wrap64 (a0)) 10) + 1)) x4_1 1 x6_1 = some r) ∧ Aside0 (kq ≤ k) ∧ Aside0 (Kd.R k42 42 w' w.heap.size (fun _ => True) v4 x4_1) ∧ Aside0 (Below w.heap.size w w'))
  case atStart => exact ⟨(y476), (1), (by first | rfl | (simp; done) | (simp [*]; done)), H', ⟨Nat.le_refl _⟩, ⟨by (with_reducible repeat (first | apply Kd.R_alloc | apply Kd.R_drewN | apply Kd.R_drew)); exact HO478.out⟩, ⟨by repeat (first | (with_reducible first | exact HB.out | apply below_alloc | apply pw_below_drewN | apply below_drew1) | exact HB.out)⟩⟩
  case round =>
    clear H'
    try clear c1
    try clear p2
    obtain ⟨x4_1, x6_1, rfl, HA, HK1, HO_4, HB⟩ := hrel
    cases gk with
    | zero => exact absurd HA.out (by simp [wogglelaw06_FirePaths.l0])
    | succ k1 =>
      have H := HA.out
      clear HA
      simp only [wogglelaw06_FirePaths.l0] at H
      by_cases c4 : x6_1 < (wrap64 ((Int.tmod (wrap64 (a0)) 10) + 1))
      · rw [if_pos c4] at H
        have c4b0 : decide (x6_1 < (wrap64 ((Int.tmod (wrap64 (a0)) 10) + 1))) = true := decide_eq_true c4
        clear c4
        by_cases c5 : x4_1.length < 8796093022208
        · rw [if_pos c5] at H
          have LMc5 := Aside0.mk c5
          clear c5
          obtain ⟨y479, hy479⟩ : ∃ y_ : List (S42), y_ = (x4_1 ++ [(⟨wrap64 (x6_1 - 1), x6_1⟩ : S42)]) := ⟨_, rfl⟩
          replace H : (wogglelaw06_FirePaths.l0 k1 (wrap64 ((Int.tmod (wrap64 (a0)) 10) + 1)) y479 1 (wrap64 (x6_1 + 1))) = some r := by first | (rw [hy479]; with_reducible exact H) | (have H2_ := (Option.bind_some _ _).symm.trans H; rw [hy479]; with_reducible exact H2_) | (have H2_ := (Option.bind_some _ _).symm.trans H; with_reducible exact H2_) | with_reducible exact H | (rw [hy479]; exact H) | exact H
          have Ny479 := Aside0.mk hy479
          clear hy479
          have H' := Aside0.mk H
          clear H
          go_wp2_with (first | ((with_reducible refine gate_builtin (b := .append) (xs := #[.tmp 23, .tmp 28]) rfl ?_); (try (refine gate_guard (by rfl) ?_; dsimp only)); at_builtin; refine Kd.R_append k42 (w0 := w) w.heap.size rfl (.tmp 23) (.tmp 28) 22 42 (.agg #[(.int .i64 0), (.int .i64 0)]) 16 rfl Tryd.underlying22 info42 rfl (by decide) (by omega) u4 x4_1 (⟨wrap64 (x6_1 - 1), x6_1⟩ : S42) [.int .i64 (wrap64 (x6_1 - 1)), .int .i64 x6_1] (fun _ => True) (fun _ => False) rfl rfl ?aP (fun _ hk => hk.elim) ?aF ?aO ?aB ?aS ?aL ?_; (case aP => exact k42_mkM _ _ _ (⟨wrap64 (x6_1 - 1), x6_1⟩ : S42)); (case aB => exact (by repeat (first | (with_reducible first | exact HB.out | apply below_alloc | apply pw_below_drewN | apply below_drew1) | exact HB.out))); (case aF => exact (fun _ _ => trivial)); (case aO => exact (by (with_reducible repeat (first | apply Kd.R_alloc | apply Kd.R_drewN | apply Kd.R_drew)); exact HO_4.out)); (case aS => exact (below_size (by repeat (first | (with_reducible first | exact HB.out | apply below_alloc | apply pw_below_drewN | apply below_drew1) | exact HB.out)))); (case aL => have := LMc5.out; omega); intro v480 w6 ho hb hg hat; rw [← Ny479.out] at ho; have n0_ := Aside0.mk (hb); have n1_ := Aside0.mk (ho); clear HB; clear HO_4; have HB := n0_; have HO481 := n1_; clear n0_ n1_; clear ho hb hg hat))
          go_roundg k1
          case measure => have := HK1.out; omega
          case rel => exact ⟨(y479), (wrap64 (x6_1 + 1)), (by first | rfl | (simp; done) | (simp [*]; done)), H', ⟨by have := HK1.out; omega⟩, ⟨by (with_reducible repeat (first | apply Kd.R_alloc | apply Kd.R_drewN | apply Kd.R_drew)); exact HO481.out⟩, ⟨by repeat (first | (with_reducible first | exact HB.out | apply below_alloc | apply pw_below_drewN | apply below_drew1) | exact HB.out)⟩⟩
        · rw [if_neg c5] at H
          exact absurd H (by simp)
      · rw [if_neg c4] at H
        have c4b0 : decide (x6_1 < (wrap64 ((Int.tmod (wrap64 (a0)) 10) + 1))) = false := decide_eq_false c4
        clear c4
        have H' := Aside0.mk H
        clear H
        go_wp2
        go_loopg [5] k1 (fun kq v5 w' => ∃ (x5_2 : Int), v5 = .int .i64 x5_2 ∧ Aside0 (wogglelaw06_FirePaths.l1 kq (wrap64 ((Int.tmod (wrap64 (a0)) 10) + 1)) x4_1 x5_2 = some r) ∧ Aside0 (kq ≤ k1) ∧ Aside0 (Kd.R k42 42 w' w.heap.size (fun _ => True) u4 x4_1) ∧ Aside0 (Below w.heap.size w w'))
        case atStart => exact ⟨(1), (by first | rfl | (simp; done) | (simp [*]; done)), H', ⟨Nat.le_refl _⟩, ⟨by (with_reducible repeat (first | apply Kd.R_alloc | apply Kd.R_drewN | apply Kd.R_drew)); exact HO_4.out⟩, ⟨by repeat (first | (with_reducible first | exact HB.out | apply below_alloc | apply pw_below_drewN | apply below_drew1) | exact HB.out)⟩⟩
        case round =>
          clear H'
          try clear c1
          try clear p2
          try clear c4
          try clear c4b0
          try clear c5
          try clear p6
          try clear p2
          obtain ⟨x5_2, rfl, HA, HK2, HO_4, HB⟩ := hrel
          cases gk with
          | zero => exact absurd HA.out (by simp [wogglelaw06_FirePaths.l1])
          | succ k2 =>
            have H := HA.out
            clear HA
            simp only [wogglelaw06_FirePaths.l1] at H
            by_cases c7 : (wrap64 (x5_2 * x5_2)) < (wrap64 ((Int.tmod (wrap64 (a0)) 10) + 1))
            · rw [if_pos c7] at H
              have c7b0 : decide ((wrap64 (x5_2 * x5_2)) < (wrap64 ((Int.tmod (wrap64 (a0)) 10) + 1))) = true := decide_eq_true c7
              clear c7
              have H' := Aside0.mk H
              clear H
              go_wp2
              go_roundg k2
              case measure => have := HK1.out; have := HK2.out; omega
              case rel => exact ⟨(wrap64 (x5_2 + 1)), (by first | rfl | (simp; done) | (simp [*]; done)), H', ⟨by have := HK1.out; have := HK2.out; omega⟩, ⟨by (with_reducible repeat (first | apply Kd.R_alloc | apply Kd.R_drewN | apply Kd.R_drew)); exact HO_4.out⟩, ⟨by repeat (first | (with_reducible first | exact HB.out | apply below_alloc | apply pw_below_drewN | apply below_drew1) | exact HB.out)⟩⟩
            · rw [if_neg c7] at H
              have c7b0 : decide ((wrap64 (x5_2 * x5_2)) < (wrap64 ((Int.tmod (wrap64 (a0)) 10) + 1))) = false := decide_eq_false c7
              clear c7
              replace H := Option.bind_eq_some_iff.mp H
              obtain ⟨⟨t482, t483⟩, A80, H⟩ := H
              replace H : ((fire_Radius.f (wrap64 ((Int.tmod (wrap64 (a0)) 10) + 1)) x4_1).bind fun bt486 => (if t483 = 0 then (if bt486.2 = 0 then (if (t482.length : Int) = x5_2 then (if bt486.1 = (wrap64 (Int.tdiv (wrap64 ((Int.tmod (wrap64 (a0)) 10) + 1)) 2)) then ((wogglelaw06_lives.f k2).bind fun t488 => (wogglelaw06_FirePaths.j2 k2 (wrap64 ((Int.tmod (wrap64 (a0)) 10) + 1)) x4_1 x5_2 (!t488))) else (wogglelaw06_FirePaths.j2 k2 (wrap64 ((Int.tmod (wrap64 (a0)) 10) + 1)) x4_1 x5_2 true)) else (wogglelaw06_FirePaths.j2 k2 (wrap64 ((Int.tmod (wrap64 (a0)) 10) + 1)) x4_1 x5_2 true)) else (wogglelaw06_FirePaths.j2 k2 (wrap64 ((Int.tmod (wrap64 (a0)) 10) + 1)) x4_1 x5_2 true)) else (wogglelaw06_FirePaths.j2 k2 (wrap64 ((Int.tmod (wrap64 (a0)) 10) + 1)) x4_1 x5_2 true))) = some r := H
              have A8 := Aside0.mk A80
              clear A80
              replace H := Option.bind_eq_some_iff.mp H
              obtain ⟨⟨t486, t487⟩, A90, H⟩ := H
              replace H : (if t483 = 0 then (if t487 = 0 then (if (t482.length : Int) = x5_2 then (if t486 = (wrap64 (Int.tdiv (wrap64 ((Int.tmod (wrap64 (a0)) 10) + 1)) 2)) then ((wogglelaw06_lives.f k2).bind fun t488 => (wogglelaw06_FirePaths.j2 k2 (wrap64 ((Int.tmod (wrap64 (a0)) 10) + 1)) x4_1 x5_2 (!t488))) else (wogglelaw06_FirePaths.j2 k2 (wrap64 ((Int.tmod (wrap64 (a0)) 10) + 1)) x4_1 x5_2 true)) else (wogglelaw06_FirePaths.j2 k2 (wrap64 ((Int.tmod (wrap64 (a0)) 10) + 1)) x4_1 x5_2 true)) else (wogglelaw06_FirePaths.j2 k2 (wrap64 ((Int.tmod (wrap64 (a0)) 10) + 1)) x4_1 x5_2 true)) else (wogglelaw06_FirePaths.j2 k2 (wrap64 ((Int.tmod (wrap64 (a0)) 10) + 1)) x4_1 x5_2 true)) = some r := H
              have A9 := Aside0.mk A90
              clear A90
              have HC10 := Aside0.mk H
              clear H
              obtain ⟨Ao11, co11, eo11⟩ := Kd.R_slice HO_4.out
              subst eo11
              go_upto_region 11 with (first | ((with_reducible refine gate_callee (f := 24) rfl ?_); refine goesL_ (some 40) rfl rfl Tryd.func24 (by kernel_rfl) rfl #[.int .i64 (wrap64 ((Int.tmod (wrap64 (a0)) 10) + 1)), .slice Ao11 x4_1.length co11] rfl (by (try simp only [List.map_toArray, List.map_cons, List.map_nil]); first | done | rfl | (simp only [List.length_drop, List.length_take]; rfl)) ?_; (with_reducible refine (fire_Burning.calls (wrap64 ((Int.tmod (wrap64 (a0)) 10) + 1)) _ _ x4_1 t482 t483 _ ?side1 ?side2 (TabIn.below' HT.out (by first | exact Below.refl _ _ | (repeat (first | (with_reducible first | exact HB.out | apply below_alloc | apply pw_below_drewN | apply below_drew1) | exact HB.out)))) A8.out).mono ?_); (case side1 => repeat (first | exact (Kd.R_reads' HO_4.out).2.2 | (with_reducible refine Kd.C_alloc ?_ _) | (with_reducible refine Kd.C_drewN ?_ _) | (with_reducible refine Kd.C_drew ?_))); (case side2 => exact (Kd.R_reads' HO_4.out).2.1); rintro e w12 ⟨v484, rfl, ho0, hb⟩; refine ⟨_, rfl, ?_⟩; have n0_ := Aside0.mk (Kd.R_below (by (with_reducible repeat (first | apply Kd.R_alloc | apply Kd.R_drewN | apply Kd.R_drew)); exact HO_4.out) hb); have n1_ := Aside0.mk (Kd.R_lower ho0 (below_size (by repeat (first | (with_reducible first | exact HB.out | apply below_alloc | apply pw_below_drewN | apply below_drew1) | exact HB.out)))); have n2_ := Aside0.mk (below_step (by repeat (first | (with_reducible first | exact HB.out | apply below_alloc | apply pw_below_drewN | apply below_drew1) | exact HB.out)) hb); clear HO_4; clear HB; have HO_4 := n0_; have HO485 := n1_; have HB := n2_; clear n0_ n1_ n2_; (try clear hb); (try clear hb2); (try clear hk); (try clear hi); (try clear ho0)) | ((with_reducible refine gate_callee (f := 34) rfl ?_); refine goesL_ (some 46) rfl rfl Tryd.func34 (by kernel_rfl) rfl #[.int .i64 (wrap64 ((Int.tmod (wrap64 (a0)) 10) + 1)), .slice Ao11 x4_1.length co11] rfl (by (try simp only [List.map_toArray, List.map_cons, List.map_nil]); first | done | rfl | (simp only [List.length_drop, List.length_take]; rfl)) ?_; (with_reducible refine (fire_Radius.calls (wrap64 ((Int.tmod (wrap64 (a0)) 10) + 1)) _ _ x4_1 t486 t487 _ ?side1 ?side2 A9.out).mono ?_); (case side1 => repeat (first | exact (Kd.R_reads' HO_4.out).2.2 | (with_reducible refine Kd.C_alloc ?_ _) | (with_reducible refine Kd.C_drewN ?_ _) | (with_reducible refine Kd.C_drew ?_))); (case side2 => exact (Kd.R_reads' HO_4.out).2.1); rintro e w13 ⟨rfl, hb⟩; refine ⟨_, rfl, ?_⟩; have n0_ := Aside0.mk (Kd.R_below (by (with_reducible repeat (first | apply Kd.R_alloc | apply Kd.R_drewN | apply Kd.R_drew)); exact HO_4.out) hb); have n1_ := Aside0.mk (Kd.R_below (by (with_reducible repeat (first | apply Kd.R_alloc | apply Kd.R_drewN | apply Kd.R_drew)); exact HO485.out) hb); have n2_ := Aside0.mk (below_step (by repeat (first | (with_reducible first | exact HB.out | apply below_alloc | apply pw_below_drewN | apply below_drew1) | exact HB.out)) hb); clear HO_4; clear HO485; clear HB; have HO_4 := n0_; have HO485 := n1_; have HB := n2_; clear n0_ n1_ n2_; (try clear hb); (try clear hb2); (try clear hk); (try clear hi)))
              (try simp only [Act.put, List.setIfInBounds_toArray, List.set_cons_zero, List.set_cons_succ])
              go_cut [70] (fun v70 wc => ∃ (kq : Nat) (x70_9 : Bool), v70 = .bool x70_9 ∧ Aside0 (wogglelaw06_FirePaths.j2 kq (wrap64 ((Int.tmod (wrap64 (a0)) 10) + 1)) x4_1 x5_2 x70_9 = some r) ∧ Aside0 (kq ≤ k2) ∧ Aside0 (Kd.R k42 42 wc w.heap.size (fun _ => True) (.slice Ao11 x4_1.length co11) x4_1) ∧ Aside0 (Below w.heap.size w wc))
              case first =>
                have H := HC10.out
                clear HC10
                by_cases c14 : t483 = 0
                · rw [if_pos c14] at H
                  have c14b0 : (t483 == 0) = true := beq_iff_eq.mpr c14
                  have c14b1 : (t483 != 0) = false := bne_eq_false_iff_eq.mpr c14
                  clear c14
                  (first | rw [c14b0] | (simp only [i64_w, i32_w]; rw [c14b0]) | skip)
                  by_cases c15 : t487 = 0
                  · rw [if_pos c15] at H
                    have c15b0 : (t487 == 0) = true := beq_iff_eq.mpr c15
                    have c15b1 : (t487 != 0) = false := bne_eq_false_iff_eq.mpr c15
                    clear c15
                    by_cases c16 : (t482.length : Int) = x5_2
                    · rw [if_pos c16] at H
                      have c16b0 : ((t482.length : Int) == x5_2) = true := beq_iff_eq.mpr c16
                      have c16b1 : ((t482.length : Int) != x5_2) = false := bne_eq_false_iff_eq.mpr c16
                      clear c16
                      by_cases c17 : t486 = (wrap64 (Int.tdiv (wrap64 ((Int.tmod (wrap64 (a0)) 10) + 1)) 2))
                      · rw [if_pos c17] at H
                        have c17b0 : (t486 == (wrap64 (Int.tdiv (wrap64 ((Int.tmod (wrap64 (a0)) 10) + 1)) 2))) = true := beq_iff_eq.mpr c17
                        have c17b1 : (t486 != (wrap64 (Int.tdiv (wrap64 ((Int.tmod (wrap64 (a0)) 10) + 1)) 2))) = false := bne_eq_false_iff_eq.mpr c17
                        clear c17
                        replace H := Option.bind_eq_some_iff.mp H
                        obtain ⟨t488, A180, H⟩ := H
                        replace H : (wogglelaw06_FirePaths.j2 k2 (wrap64 ((Int.tmod (wrap64 (a0)) 10) + 1)) x4_1 x5_2 (!t488)) = some r := H
                        have A18 := Aside0.mk A180
                        clear A180
                        have H' := Aside0.mk H
                        clear H
                        obtain ⟨Ao19, co19, eo19⟩ := Kd.R_slice HO485.out
                        subst eo19
                        go_wp2_with (first | (go_at_call 19; (with_reducible refine (wogglelaw06_lives.calls k2  t488 _ (TabIn.below' HT.out (by first | exact Below.refl _ _ | (repeat (first | (with_reducible first | exact HB.out | apply below_alloc | apply pw_below_drewN | apply below_drew1) | exact HB.out)))) A18.out).mono ?_); rintro e w20 ⟨rfl, hb⟩; have n0_ := Aside0.mk (Kd.R_below (by (with_reducible repeat (first | apply Kd.R_alloc | apply Kd.R_drewN | apply Kd.R_drew)); exact HO_4.out) hb); have n1_ := Aside0.mk (Kd.R_below (by (with_reducible repeat (first | apply Kd.R_alloc | apply Kd.R_drewN | apply Kd.R_drew)); exact HO485.out) hb); have n2_ := Aside0.mk (below_step (by repeat (first | (with_reducible first | exact HB.out | apply below_alloc | apply pw_below_drewN | apply below_drew1) | exact HB.out)) hb); clear HO_4; clear HO485; clear HB; have HO_4 := n0_; have HO485 := n1_; have HB := n2_; clear n0_ n1_ n2_; (try clear hb); (try clear hb2); (try clear hk); (try clear hi)))
                        go_meet
                        case rel => exact ⟨_, (!t488), (by first | rfl | (simp; done) | (simp [*]; done)), H', ⟨by have := HK1.out; have := HK2.out; first | omega | exact Nat.le_refl _⟩, ⟨by (with_reducible repeat (first | apply Kd.R_alloc | apply Kd.R_drewN | apply Kd.R_drew)); exact HO_4.out⟩, ⟨by repeat (first | (with_reducible first | exact HB.out | apply below_alloc | apply pw_below_drewN | apply below_drew1) | exact HB.out)⟩⟩
                      · rw [if_neg c17] at H
                        have c17b0 : (t486 == (wrap64 (Int.tdiv (wrap64 ((Int.tmod (wrap64 (a0)) 10) + 1)) 2))) = false := beq_eq_false_iff_ne.mpr c17
                        have c17b1 : (t486 != (wrap64 (Int.tdiv (wrap64 ((Int.tmod (wrap64 (a0)) 10) + 1)) 2))) = true := bne_iff_ne.mpr c17
                        have H' := Aside0.mk H
                        clear H
                        obtain ⟨Ao21, co21, eo21⟩ := Kd.R_slice HO485.out
                        subst eo21
                        go_wp2
                        go_meet
                        case rel => exact ⟨_, (true), (by first | rfl | (simp; done) | (simp [*]; done)), H', ⟨by have := HK1.out; have := HK2.out; first | omega | exact Nat.le_refl _⟩, ⟨by (with_reducible repeat (first | apply Kd.R_alloc | apply Kd.R_drewN | apply Kd.R_drew)); exact HO_4.out⟩, ⟨by repeat (first | (with_reducible first | exact HB.out | apply below_alloc | apply pw_below_drewN | apply below_drew1) | exact HB.out)⟩⟩
                    · rw [if_neg c16] at H
                      have c16b0 : ((t482.length : Int) == x5_2) = false := beq_eq_false_iff_ne.mpr c16
                      have c16b1 : ((t482.length : Int) != x5_2) = true := bne_iff_ne.mpr c16
                      have H' := Aside0.mk H
                      clear H
                      obtain ⟨Ao22, co22, eo22⟩ := Kd.R_slice HO485.out
                      subst eo22
                      go_wp2
                      go_meet
                      case rel => exact ⟨_, (true), (by first | rfl | (simp; done) | (simp [*]; done)), H', ⟨by have := HK1.out; have := HK2.out; first | omega | exact Nat.le_refl _⟩, ⟨by (with_reducible repeat (first | apply Kd.R_alloc | apply Kd.R_drewN | apply Kd.R_drew)); exact HO_4.out⟩, ⟨by repeat (first | (with_reducible first | exact HB.out | apply below_alloc | apply pw_below_drewN | apply below_drew1) | exact HB.out)⟩⟩
                  · rw [if_neg c15] at H
                    have c15b0 : (t487 == 0) = false := beq_eq_false_iff_ne.mpr c15
                    have c15b1 : (t487 != 0) = true := bne_iff_ne.mpr c15
                    have H' := Aside0.mk H
                    clear H
                    go_wp2
                    go_meet
                    case rel => exact ⟨_, (true), (by first | rfl | (simp; done) | (simp [*]; done)), H', ⟨by have := HK1.out; have := HK2.out; first | omega | exact Nat.le_refl _⟩, ⟨by (with_reducible repeat (first | apply Kd.R_alloc | apply Kd.R_drewN | apply Kd.R_drew)); exact HO_4.out⟩, ⟨by repeat (first | (with_reducible first | exact HB.out | apply below_alloc | apply pw_below_drewN | apply below_drew1) | exact HB.out)⟩⟩
                · rw [if_neg c14] at H
                  have c14b0 : (t483 == 0) = false := beq_eq_false_iff_ne.mpr c14
                  have c14b1 : (t483 != 0) = true := bne_iff_ne.mpr c14
                  (first | rw [c14b0] | (simp only [i64_w, i32_w]; rw [c14b0]) | skip)
                  have H' := Aside0.mk H
                  clear H
                  go_wp2
                  go_meet
                  case rel => exact ⟨_, (true), (by first | rfl | (simp; done) | (simp [*]; done)), H', ⟨by have := HK1.out; have := HK2.out; first | omega | exact Nat.le_refl _⟩, ⟨by (with_reducible repeat (first | apply Kd.R_alloc | apply Kd.R_drewN | apply Kd.R_drew)); exact HO_4.out⟩, ⟨by repeat (first | (with_reducible first | exact HB.out | apply below_alloc | apply pw_below_drewN | apply below_drew1) | exact HB.out)⟩⟩
              case rest =>
                clear HC10
                try clear c1
                try clear c2
                try clear p2
                try clear c3
                try clear c4
                try clear c4b0
                try clear c5
                try clear p6
                try clear c7
                try clear c7b0
                try clear c11
                try clear c14
                try clear c14b0
                try clear c14b1
                try clear c15
                try clear c15b0
                try clear c15b1
                try clear c16
                try clear c16b0
                try clear c16b1
                try clear c17
                try clear c17b0
                try clear c17b1
                try clear p2
                try clear p6
                obtain ⟨kq, x70_9, rfl, HA, HJ9, HO_4, HB⟩ := hcut
                cases kq with
                | zero => exact absurd HA.out (by simp [wogglelaw06_FirePaths.j2])
                | succ kj9 =>
                  have H := HA.out
                  clear HA
                  simp only [wogglelaw06_FirePaths.j2] at H
                  by_cases c23 : x70_9 = true
                  · subst c23
                    have H1 : (some false) = some r := by rw [if_pos rfl] at H; exact H
                    clear H
                    have H := H1
                    clear H1
                    obtain rfl := Option.some.inj H
                    go_wp2
                    go_ret
                    exact ⟨by first | rfl | (simp [errW_none, errW_some] <;> rfl) | (simp [*, errW_none, errW_some] <;> rfl), by repeat (first | (with_reducible first | exact HB.out | apply below_alloc | apply pw_below_drewN | apply below_drew1) | exact HB.out)⟩
                  · replace c23 := Bool.eq_false_iff.mpr c23
                    subst c23
                    have H1 : (if (wrap64 ((Int.tmod (wrap64 (a0)) 10) + 1)) < 3 then (some true) else (if x4_1.length < 8796093022208 then ((fire_Burning.f (wrap64 ((Int.tmod (wrap64 (a0)) 10) + 1)) (x4_1 ++ [(⟨wrap64 ((wrap64 ((Int.tmod (wrap64 (a0)) 10) + 1)) - 1), 0⟩ : S42)])).bind fun bt492 => (if bt492.2 = 0 then (some ((bt492.1.length : Int) == x5_2)) else (some false))) else (none))) = some r := by rw [if_neg (show ¬ (false = true) by decide)] at H; exact H
                    clear H
                    have H := H1
                    clear H1
                    by_cases c24 : (wrap64 ((Int.tmod (wrap64 (a0)) 10) + 1)) < 3
                    · rw [if_pos c24] at H
                      have c24b0 : decide ((wrap64 ((Int.tmod (wrap64 (a0)) 10) + 1)) < 3) = true := decide_eq_true c24
                      clear c24
                      obtain rfl := Option.some.inj H
                      go_wp2
                      go_ret
                      exact ⟨by first | rfl | (simp [errW_none, errW_some] <;> rfl) | (simp [*, errW_none, errW_some] <;> rfl), by repeat (first | (with_reducible first | exact HB.out | apply below_alloc | apply pw_below_drewN | apply below_drew1) | exact HB.out)⟩
                    · rw [if_neg c24] at H
                      have c24b0 : decide ((wrap64 ((Int.tmod (wrap64 (a0)) 10) + 1)) < 3) = false := decide_eq_false c24
                      clear c24
                      by_cases c25 : x4_1.length < 8796093022208
                      · rw [if_pos c25] at H
                        have LMc25 := Aside0.mk c25
                        clear c25
                        obtain ⟨y489, hy489⟩ : ∃ y_ : List (S42), y_ = (x4_1 ++ [(⟨wrap64 ((wrap64 ((Int.tmod (wrap64 (a0)) 10) + 1)) - 1), 0⟩ : S42)]) := ⟨_, rfl⟩
                        replace H : ((fire_Burning.f (wrap64 ((Int.tmod (wrap64 (a0)) 10) + 1)) y489).bind fun bt492 => (if bt492.2 = 0 then (some ((bt492.1.length : Int) == x5_2)) else (some false))) = some r := by first | (rw [hy489]; with_reducible exact H) | (have H2_ := (Option.bind_some _ _).symm.trans H; rw [hy489]; with_reducible exact H2_) | (have H2_ := (Option.bind_some _ _).symm.trans H; with_reducible exact H2_) | with_reducible exact H | (rw [hy489]; exact H) | exact H
                        have Ny489 := Aside0.mk hy489
                        clear hy489
                        replace H := Option.bind_eq_some_iff.mp H
                        obtain ⟨⟨t492, t493⟩, A260, H⟩ := H
                        replace H : (if t493 = 0 then (some ((t492.length : Int) == x5_2)) else (some false)) = some r := H
                        have A26 := Aside0.mk A260
                        clear A260
                        by_cases c27 : t493 = 0
                        · rw [if_pos c27] at H
                          have c27b0 : (t493 == 0) = true := beq_iff_eq.mpr c27
                          have c27b1 : (t493 != 0) = false := bne_eq_false_iff_eq.mpr c27
                          clear c27
                          obtain rfl := Option.some.inj H
                          go_wp2_with (first | ((with_reducible refine gate_builtin (b := .append) (xs := #[.tmp 75, .tmp 79]) rfl ?_); (try (refine gate_guard (by rfl) ?_; dsimp only)); at_builtin; refine Kd.R_append k42 (w0 := w) w.heap.size rfl (.tmp 75) (.tmp 79) 22 42 (.agg #[(.int .i64 0), (.int .i64 0)]) 16 rfl Tryd.underlying22 info42 rfl (by decide) (by omega) (.slice Ao11 x4_1.length co11) x4_1 (⟨wrap64 ((wrap64 ((Int.tmod (wrap64 (a0)) 10) + 1)) - 1), 0⟩ : S42) [.int .i64 (wrap64 ((wrap64 ((Int.tmod (wrap64 (a0)) 10) + 1)) - 1)), .int .i64 0] (fun _ => True) (fun _ => False) rfl rfl ?aP (fun _ hk => hk.elim) ?aF ?aO ?aB ?aS ?aL ?_; (case aP => exact k42_mkM _ _ _ (⟨wrap64 ((wrap64 ((Int.tmod (wrap64 (a0)) 10) + 1)) - 1), 0⟩ : S42)); (case aB => exact (by repeat (first | (with_reducible first | exact HB.out | apply below_alloc | apply pw_below_drewN | apply below_drew1) | exact HB.out))); (case aF => exact (fun _ _ => trivial)); (case aO => exact (by (with_reducible repeat (first | apply Kd.R_alloc | apply Kd.R_drewN | apply Kd.R_drew)); exact HO_4.out)); (case aS => exact (below_size (by repeat (first | (with_reducible first | exact HB.out | apply below_alloc | apply pw_below_drewN | apply below_drew1) | exact HB.out)))); (case aL => have := LMc25.out; omega); intro v490 w28 ho hb hg hat; rw [← Ny489.out] at ho; have n0_ := Aside0.mk (hb); have n1_ := Aside0.mk (ho); clear HB; clear HO_4; have HB := n0_; have HO491 := n1_; clear n0_ n1_; clear ho hb hg hat; obtain ⟨Ao29, co29, eo29⟩ := Kd.R_slice HO491.out; subst eo29) | ((with_reducible refine gate_callee (f := 24) rfl ?_); refine goesL_ (some 81) rfl rfl Tryd.func24 (by kernel_rfl) rfl #[.int .i64 (wrap64 ((Int.tmod (wrap64 (a0)) 10) + 1)), .slice Ao29 y489.length co29] rfl (by (try simp only [List.map_toArray, List.map_cons, List.map_nil]); first | done | rfl | (simp only [List.length_drop, List.length_take]; rfl)) ?_; (with_reducible refine (fire_Burning.calls (wrap64 ((Int.tmod (wrap64 (a0)) 10) + 1)) _ _ y489 t492 t493 _ ?side1 ?side2 (TabIn.below' HT.out (by first | exact Below.refl _ _ | (repeat (first | (with_reducible first | exact HB.out | apply below_alloc | apply pw_below_drewN | apply below_drew1) | exact HB.out)))) A26.out).mono ?_); (case side1 => repeat (first | exact (Kd.R_reads' HO491.out).2.2 | (with_reducible refine Kd.C_alloc ?_ _) | (with_reducible refine Kd.C_drewN ?_ _) | (with_reducible refine Kd.C_drew ?_))); (case side2 => exact (Kd.R_reads' HO491.out).2.1); rintro e w30 ⟨v494, rfl, ho0, hb⟩; refine ⟨_, rfl, ?_⟩; have n0_ := Aside0.mk (Kd.R_below (by (with_reducible repeat (first | apply Kd.R_alloc | apply Kd.R_drewN | apply Kd.R_drew)); exact HO491.out) hb); have n1_ := Aside0.mk (Kd.R_lower ho0 (below_size (by repeat (first | (with_reducible first | exact HB.out | apply below_alloc | apply pw_below_drewN | apply below_drew1) | exact HB.out)))); have n2_ := Aside0.mk (below_step (by repeat (first | (with_reducible first | exact HB.out | apply below_alloc | apply pw_below_drewN | apply below_drew1) | exact HB.out)) hb); clear HO491; clear HB; have HO491 := n0_; have HO495 := n1_; have HB := n2_; clear n0_ n1_ n2_; (try clear hb); (try clear hb2); (try clear hk); (try clear hi); (try clear ho0); obtain ⟨Ao31, co31, eo31⟩ := Kd.R_slice HO495.out; subst eo31))
                          go_ret
                          exact ⟨by first | rfl | (simp [errW_none, errW_some] <;> rfl) | (simp [*, errW_none, errW_some] <;> rfl), by repeat (first | (with_reducible first | exact HB.out | apply below_alloc | apply pw_below_drewN | apply below_drew1) | exact HB.out)⟩
                        · rw [if_neg c27] at H
                          have c27b0 : (t493 == 0) = false := beq_eq_false_iff_ne.mpr c27
                          have c27b1 : (t493 != 0) = true := bne_iff_ne.mpr c27
                          obtain rfl := Option.some.inj H
                          go_wp2_with (first | ((with_reducible refine gate_builtin (b := .append) (xs := #[.tmp 75, .tmp 79]) rfl ?_); (try (refine gate_guard (by rfl) ?_; dsimp only)); at_builtin; refine Kd.R_append k42 (w0 := w) w.heap.size rfl (.tmp 75) (.tmp 79) 22 42 (.agg #[(.int .i64 0), (.int .i64 0)]) 16 rfl Tryd.underlying22 info42 rfl (by decide) (by omega) (.slice Ao11 x4_1.length co11) x4_1 (⟨wrap64 ((wrap64 ((Int.tmod (wrap64 (a0)) 10) + 1)) - 1), 0⟩ : S42) [.int .i64 (wrap64 ((wrap64 ((Int.tmod (wrap64 (a0)) 10) + 1)) - 1)), .int .i64 0] (fun _ => True) (fun _ => False) rfl rfl ?aP (fun _ hk => hk.elim) ?aF ?aO ?aB ?aS ?aL ?_; (case aP => exact k42_mkM _ _ _ (⟨wrap64 ((wrap64 ((Int.tmod (wrap64 (a0)) 10) + 1)) - 1), 0⟩ : S42)); (case aB => exact (by repeat (first | (with_reducible first | exact HB.out | apply below_alloc | apply pw_below_drewN | apply below_drew1) | exact HB.out))); (case aF => exact (fun _ _ => trivial)); (case aO => exact (by (with_reducible repeat (first | apply Kd.R_alloc | apply Kd.R_drewN | apply Kd.R_drew)); exact HO_4.out)); (case aS => exact (below_size (by repeat (first | (with_reducible first | exact HB.out | apply below_alloc | apply pw_below_drewN | apply below_drew1) | exact HB.out)))); (case aL => have := LMc25.out; omega); intro v490 w32 ho hb hg hat; rw [← Ny489.out] at ho; have n0_ := Aside0.mk (hb); have n1_ := Aside0.mk (ho); clear HB; clear HO_4; have HB := n0_; have HO491 := n1_; clear n0_ n1_; clear ho hb hg hat; obtain ⟨Ao33, co33, eo33⟩ := Kd.R_slice HO491.out; subst eo33) | ((with_reducible refine gate_callee (f := 24) rfl ?_); refine goesL_ (some 81) rfl rfl Tryd.func24 (by kernel_rfl) rfl #[.int .i64 (wrap64 ((Int.tmod (wrap64 (a0)) 10) + 1)), .slice Ao33 y489.length co33] rfl (by (try simp only [List.map_toArray, List.map_cons, List.map_nil]); first | done | rfl | (simp only [List.length_drop, List.length_take]; rfl)) ?_; (with_reducible refine (fire_Burning.calls (wrap64 ((Int.tmod (wrap64 (a0)) 10) + 1)) _ _ y489 t492 t493 _ ?side1 ?side2 (TabIn.below' HT.out (by first | exact Below.refl _ _ | (repeat (first | (with_reducible first | exact HB.out | apply below_alloc | apply pw_below_drewN | apply below_drew1) | exact HB.out)))) A26.out).mono ?_); (case side1 => repeat (first | exact (Kd.R_reads' HO491.out).2.2 | (with_reducible refine Kd.C_alloc ?_ _) | (with_reducible refine Kd.C_drewN ?_ _) | (with_reducible refine Kd.C_drew ?_))); (case side2 => exact (Kd.R_reads' HO491.out).2.1); rintro e w34 ⟨v494, rfl, ho0, hb⟩; refine ⟨_, rfl, ?_⟩; have n0_ := Aside0.mk (Kd.R_below (by (with_reducible repeat (first | apply Kd.R_alloc | apply Kd.R_drewN | apply Kd.R_drew)); exact HO491.out) hb); have n1_ := Aside0.mk (Kd.R_lower ho0 (below_size (by repeat (first | (with_reducible first | exact HB.out | apply below_alloc | apply pw_below_drewN | apply below_drew1) | exact HB.out)))); have n2_ := Aside0.mk (below_step (by repeat (first | (with_reducible first | exact HB.out | apply below_alloc | apply pw_below_drewN | apply below_drew1) | exact HB.out)) hb); clear HO491; clear HB; have HO491 := n0_; have HO495 := n1_; have HB := n2_; clear n0_ n1_ n2_; (try clear hb); (try clear hb2); (try clear hk); (try clear hi); (try clear ho0)))
                          go_ret
                          exact ⟨by first | rfl | (simp [errW_none, errW_some] <;> rfl) | (simp [*, errW_none, errW_some] <;> rfl), by repeat (first | (with_reducible first | exact HB.out | apply below_alloc | apply pw_below_drewN | apply below_drew1) | exact HB.out)⟩
                      · rw [if_neg c25] at H
                        exact absurd H (by simp)
end Go.Proofs.YtbgpnkchbcgekaaDoor.Fi
