/- The calls of tug.Greedy, all cases. -/
import Derived.Test.YtepgcdjbhmpioaaQTeH4b
namespace Go.Proofs.Ytepgcdjbhmpioaa.Fi
open Go.RowKit Go.Proofs.YtepgcdjbhmpioaaW.PrintWords Go.Proofs.YtepgcdjbhmpioaaW.PrintLast Go.Proofs.YtepgcdjbhmpioaaW.PrintMore
set_option linter.unusedVariables false
set_option linter.unusedSimpArgs false
set_option maxHeartbeats 2000000 in
set_option maxRecDepth 100000 in
theorem tug_Greedy.calls (A0 : Option Addr) (c0 : Nat) (l0 : List Int) (a1 : Int) (r1 : Int) (r2 : List Int) (r3 : Int) (w : World) (hr0 : Kd.C (Kd.int .i64) w A0 l0.length l0) (hc0 : l0.length ≤ c0) (h : tug_Greedy.f l0 a1 = some (r1, r2, r3)) :
    Calls Try.prog 38 #[.slice A0 l0.length c0, .int .i64 a1] w fun e w' => ∃ v0_ : Value, e = .returned (.tuple #[.int .i64 r1, v0_, .int .i64 r3]) ∧ Kd.R (Kd.int .i64) 3 w' w.heap.size (fun _ => True) v0_ r2 ∧ Below w.heap.size w w' := by
  have HR0 := Aside0.mk hr0
  have HC0 := Aside0.mk hc0
  have CK := Aside0.mk (check_is 14 (by omega) l0)
  have HB := Aside0.mk (Below.refl w.heap.size w)
  clear hr0 hc0
  unfold tug_Greedy.f at h
  by_cases hk : chk 14 l0 = 0
  · rw [if_pos hk] at h
    rw [hk] at CK
    by_cases h1 : a1 < 1
    · rw [if_neg (by omega)] at h
      obtain ⟨rfl, rfl, rfl⟩ : (0 : Int) = r1 ∧ [] = r2 ∧ (1 : Int) = r3 := by simpa using Option.some.inj h
      have e1 : decide (a1 < 1) = true := decide_eq_true h1
      clear h h1 hk
      go_enter Try.func38, Try.ntmps38
      go_wp2_with (first | ((with_reducible refine gate_dst (N := 2) rfl ?_); refine box_event ?hg (N := 2) ?hd (cs := #[.slice A0 l0.length c0]) (t := 22) ?hr ?_; (case hd => rfl); (case hg => rfl); (case hr => first | (go_simp; done) | (go_simp; rfl)); intro gp hgp w7 hbox hb; have HR1 := Aside0.mk (Kd.C_below HR0.out hb); have BP := Aside0.mk hbox; have HB1 := Aside0.mk (below_step HB.out hb); clear hb hbox hgp; have d1 := blk_cell BP.out 0) | (go_at_call 43; refine (tug_check.calls A0 c0 l0 14 0 _ HR1.out HC0.out CK.out).mono ?_; rintro e w9 ⟨rfl, nd, rfl⟩; have HB3 := Aside0.mk (pw_below_drewN HB1.out nd); clear d1))
      go_ret3
      exact ⟨_, rfl, Kd.R_nil _ _ _ _ _, HB3.out⟩
    · by_cases h2 : a1 > 4
      · rw [if_neg (by omega)] at h
        obtain ⟨rfl, rfl, rfl⟩ : (0 : Int) = r1 ∧ [] = r2 ∧ (1 : Int) = r3 := by simpa using Option.some.inj h
        have e1 : decide (a1 < 1) = false := decide_eq_false h1
        have e2 : decide (4 < a1) = true := decide_eq_true (by omega)
        clear h h1 h2 hk
        go_enter Try.func38, Try.ntmps38
        go_wp2_with (first | ((with_reducible refine gate_dst (N := 2) rfl ?_); refine box_event ?hg (N := 2) ?hd (cs := #[.slice A0 l0.length c0]) (t := 22) ?hr ?_; (case hd => rfl); (case hg => rfl); (case hr => first | (go_simp; done) | (go_simp; rfl)); intro gp hgp w7 hbox hb; have HR1 := Aside0.mk (Kd.C_below HR0.out hb); have BP := Aside0.mk hbox; have HB1 := Aside0.mk (below_step HB.out hb); clear hb hbox hgp; have d1 := blk_cell BP.out 0) | (go_at_call 43; refine (tug_check.calls A0 c0 l0 14 0 _ HR1.out HC0.out CK.out).mono ?_; rintro e w9 ⟨rfl, nd, rfl⟩; have HB3 := Aside0.mk (pw_below_drewN HB1.out nd); clear d1))
        go_ret3
        exact ⟨_, rfl, Kd.R_nil _ _ _ _ _, HB3.out⟩
      · rw [if_pos (by omega)] at h
        obtain ⟨k, rfl⟩ := Int.eq_ofNat_of_zero_le (show 0 ≤ a1 by omega)
        rw [Int.toNat_natCast] at h
        obtain ⟨rfl, rfl, rfl⟩ : maxT (greedyS k l0).2 k = r1 ∧ (greedyS k l0).1 = r2 ∧ (0 : Int) = r3 := by simpa using Option.some.inj h
        exact greedy_ok A0 c0 l0 k w HR0.out HC0.out (chk_zero hk) ⟨by omega, by omega⟩
  · rw [if_neg hk] at h
    obtain ⟨z, hz⟩ : ∃ z, z = chk 14 l0 := ⟨_, rfl⟩
    rw [← hz] at h hk CK
    obtain ⟨rfl, rfl, rfl⟩ : (0 : Int) = r1 ∧ [] = r2 ∧ z = r3 := by simpa using Option.some.inj h
    have hk0 : (z == 0) = false := beq_eq_false_iff_ne.mpr hk
    have hk1 : (z != 0) = true := bne_iff_ne.mpr hk
    clear hz hk h
    go_enter Try.func38, Try.ntmps38
    go_wp2_with (first | ((with_reducible refine gate_dst (N := 2) rfl ?_); refine box_event ?hg (N := 2) ?hd (cs := #[.slice A0 l0.length c0]) (t := 22) ?hr ?_; (case hd => rfl); (case hg => rfl); (case hr => first | (go_simp; done) | (go_simp; rfl)); intro gp hgp w7 hbox hb; have HR1 := Aside0.mk (Kd.C_below HR0.out hb); have BP := Aside0.mk hbox; have HB1 := Aside0.mk (below_step HB.out hb); clear hb hbox hgp; have d1 := blk_cell BP.out 0) | (go_at_call 43; refine (tug_check.calls A0 c0 l0 14 z _ HR1.out HC0.out CK.out).mono ?_; rintro e w9 ⟨rfl, nd, rfl⟩; have HB3 := Aside0.mk (pw_below_drewN HB1.out nd); clear d1))
    go_ret3
    exact ⟨_, rfl, Kd.R_nil _ _ _ _ _, HB3.out⟩
end Go.Proofs.Ytepgcdjbhmpioaa.Fi
