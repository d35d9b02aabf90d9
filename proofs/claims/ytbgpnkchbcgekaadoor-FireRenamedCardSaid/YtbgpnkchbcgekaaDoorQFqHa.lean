/- The call of bits.OnesCount16 at a number of 16 bits returns how many of its bits are set. -/
import Derived.Test.YtbgpnkchbcgekaaDoorQFqFi0
import Derived.Test.YtbgpnkchbcgekaaDoorQFqS6
namespace Go.Proofs.YtbgpnkchbcgekaaDoor.Fi
open Go.RowKit Go.Proofs.YtbgpnkchbcgekaaDoorW.PrintWords Go.Proofs.YtbgpnkchbcgekaaDoorW.PrintLast Go.Proofs.YtbgpnkchbcgekaaDoorW.PrintMore
set_option linter.unusedVariables false
set_option linter.unusedSimpArgs false
def bits_OnesCount16.f (a0 : Int) : Option Int := if 0 ≤ a0 then (if a0 < 65536 then some ((Wog.popc 16 a0.toNat : Nat) : Int) else none) else none
set_option maxHeartbeats 1000000 in
set_option maxRecDepth 100000 in
theorem ones16 (a : Nat) (w : World) (h : a < 65536) :
    Calls Tryd.prog 67 #[.int .u16 a] w fun e w' => e = .returned (.int .i64 ((Wog.popc 16 a : Nat) : Int)) ∧ Drawn0 w w' := by
  have h2 : Go.bits .and .u16 (a : Int) 255 = ((a % 256 : Nat) : Int) := by
    have := u16_and_nat a 255 h (by omega)
    rw [nat_mask8] at this
    exact this
  have h3 : (0 : Int) ≤ ((a % 256 : Nat) : Int) := by omega
  have h4 : ((a % 256 : Nat) : Int) ≤ 255 := by omega
  have h5 : (0 : Int) ≤ (a : Int) / 256 := by omega
  have h6 : (a : Int) / 256 ≤ 255 := by omega
  have h7 := fun W => Lib.run_index_pop8tab (P := Tryd.prog) W 9 .u16 ((a : Int) / 256) Tryd.underlying9 h5 h6
  have h8 := fun W => Lib.run_index_pop8tab (P := Tryd.prog) W 9 .u16 ((a % 256 : Nat) : Int) Tryd.underlying9 h3 h4
  go_enter Tryd.func67, Tryd.ntmps67
  go_wp2
  generalize hs : Value.string _ = sv
  have hs2 : sv = .string Lib.pop8tab := hs.symm.trans (by kernel_rfl)
  subst hs2
  clear hs
  go_quiet (fail)
  go_wp2
  go_ret
  exact ⟨by rw [← Wog.pop16_is a h]; rfl, ⟨⟨_, rfl⟩⟩⟩
theorem bits_OnesCount16.calls (a0 : Int) (r : Int) (w : World) (h : bits_OnesCount16.f a0 = some r) :
    Calls Tryd.prog 67 #[.int .u16 a0] w fun e w' => e = .returned (.int .i64 r) ∧ Drawn0 w w' := by
  unfold bits_OnesCount16.f at h
  split at h
  · split at h
    · obtain ⟨a, rfl⟩ := Int.eq_ofNat_of_zero_le ‹0 ≤ a0›
      rw [Int.toNat_natCast] at h
      obtain rfl := Option.some.inj h
      exact ones16 a w (by omega)
    · cases h
  · cases h
end Go.Proofs.YtbgpnkchbcgekaaDoor.Fi
