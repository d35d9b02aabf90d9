/- The calls of tug.Differencing, all cases. -/
import Derived.Test.YtepgcdjbhmpioaaQTeH5c
namespace Go.Proofs.Ytepgcdjbhmpioaa.Fi
open Go.RowKit Go.Proofs.YtepgcdjbhmpioaaW.PrintWords Go.Proofs.YtepgcdjbhmpioaaW.PrintLast Go.Proofs.YtepgcdjbhmpioaaW.PrintMore
set_option linter.unusedVariables false
set_option linter.unusedSimpArgs false
set_option maxHeartbeats 2000000 in
set_option maxRecDepth 100000 in
theorem tug_Differencing.calls (A0 : Option Addr) (c0 : Nat) (l0 : List Int) (r1 : Int) (r2 : List Int) (r3 : Int) (w : World) (hr0 : Kd.C (Kd.int .i64) w A0 l0.length l0) (hc0 : l0.length ≤ c0) (h : tug_Differencing.f l0 = some (r1, r2, r3)) :
    Calls Try.prog 18 #[.slice A0 l0.length c0] w fun e w' => ∃ v0_ : Value, e = .returned (.tuple #[.int .i64 r1, v0_, .int .i64 r3]) ∧ Kd.R (Kd.int .i64) 3 w' w.heap.size (fun _ => True) v0_ r2 ∧ Below w.heap.size w w' := by
  have HR0 := Aside0.mk hr0
  have HC0 := Aside0.mk hc0
  have CK := Aside0.mk (check_is 14 (by omega) l0)
  have HB := Aside0.mk (Below.refl w.heap.size w)
  clear hr0 hc0
  unfold tug_Differencing.f at h
  by_cases hk : chk 14 l0 = 0
  · rw [if_pos hk] at h
    obtain ⟨rfl, rfl, rfl⟩ : (kkS l0).1 = r1 ∧ (kkS l0).2 = r2 ∧ (0 : Int) = r3 := by simpa using Option.some.inj h
    exact diffcing_ok A0 c0 l0 w HR0.out HC0.out (chk_zero hk)
  · rw [if_neg hk] at h
    obtain ⟨z, hz⟩ : ∃ z, z = chk 14 l0 := ⟨_, rfl⟩
    rw [← hz] at h hk CK
    obtain ⟨rfl, rfl, rfl⟩ : (0 : Int) = r1 ∧ [] = r2 ∧ z = r3 := by simpa using Option.some.inj h
    have hk0 : (z == 0) = false := beq_eq_false_iff_ne.mpr hk
    have hk1 : (z != 0) = true := bne_iff_ne.mpr hk
    clear hz hk h
    go_enter Try.func18, Try.ntmps18
    go_wp2_with (go_at_call 43; refine (tug_check.calls A0 c0 l0 14 z _ HR0.out HC0.out CK.out).mono ?_; rintro e w9 ⟨rfl, nd, rfl⟩; have HB3 := Aside0.mk (pw_below_drewN HB.out nd))
    go_ret3
    exact ⟨_, rfl, Kd.R_nil _ _ _ _ _, HB3.out⟩
end Go.Proofs.Ytepgcdjbhmpioaa.Fi
