/- Texts of this claim, joined: P7, L2, L4, L7 -/
import Derived.Test.YtbgpnkchbcgekaaDoorQFqP4
import Derived.Test.YtbgpnkchbcgekaaDoorQFqFi0
import Derived.Test.YtbgpnkchbcgekaaDoorQFqFi1
import Derived.Test.YtbgpnkchbcgekaaDoorQFqFi3
import Derived.Test.YtbgpnkchbcgekaaDoorQFqHc2
import Derived.Test.YtbgpnkchbcgekaaDoorQFqHbr
import Derived.Test.YtbgpnkchbcgekaaDoorQFqS6
import Derived.Test.YtbgpnkchbcgekaaDoorQFqFi6
import Derived.Test.YtbgpnkchbcgekaaDoorQFqFi5
import Derived.Test.YtbgpnkchbcgekaaDoorQFqFi9
import Derived.Test.YtbgpnkchbcgekaaDoorQFqHbu
import Derived.Test.YtbgpnkchbcgekaaDoorQFqHe
import Derived.Test.YtbgpnkchbcgekaaDoorQFqHgr
import Derived.Test.YtbgpnkchbcgekaaDoorQFqR0
import Derived.Test.YtbgpnkchbcgekaaDoorQFqFi13
section
namespace Go.Proofs.YtbgpnkchbcgekaaDoor.Fi
open Go.RowKit Go.Proofs.YtbgpnkchbcgekaaDoorW.PrintWords Go.Proofs.YtbgpnkchbcgekaaDoorW.PrintLast Go.Proofs.YtbgpnkchbcgekaaDoorW.PrintMore Wog
set_option linter.unusedVariables false
theorem cloF_fix {nx : List Nat} {B D k : Nat} (hd : disj B D) (hB : B < 2 ^ nx.length) (hx : ∀ x ∈ nx, x < 2 ^ nx.length) (h : cloF nx D k B = some B) : diff (arnd nx B) D = B := by
  cases k with
  | zero => simp [cloF] at h
  | succ k =>
    rw [cloF] at h
    by_cases e : diff (arnd nx B) D = B
    · exact e
    · rw [if_neg e] at h
      refine ext_lt (diff_le _ _ _ (arnd_lt hx hB)) hB (fun i _ => ?_)
      cases h1 : B.testBit i with
      | true => exact step_sup hd i h1
      | false =>
        cases h2 : (diff (arnd nx B) D).testBit i with
        | false => rfl
        | true => rw [cloF_sup _ _ _ (disj_diff _ _) h i h2] at h1; cases h1
end Go.Proofs.YtbgpnkchbcgekaaDoor.Fi
end
section
namespace Go.Proofs.YtbgpnkchbcgekaaDoor.Fi
open Go.RowKit Go.Proofs.YtbgpnkchbcgekaaDoorW.PrintWords Go.Proofs.YtbgpnkchbcgekaaDoorW.PrintLast Go.Proofs.YtbgpnkchbcgekaaDoorW.PrintMore Wog
set_option linter.unusedVariables false
theorem GoodG.rows {n : Int} {l : List S42} (h : GoodG n l) : (∀ x ∈ nearS n.toNat l, x < 2 ^ (nearS n.toNat l).length) ∧ (nearS n.toNat l).length ≤ 10 ∧ 0 < (nearS n.toNat l).length ∧ n = ((nearS n.toNat l).length : Int) ∧ (nearS n.toNat l).length = n.toNat := by
  obtain ⟨h1, h2, h3, h4⟩ := h
  have hl := nearS_length n.toNat l
  refine ⟨by rw [hl]; exact nearS_lt h4, by omega, by omega, by omega, hl⟩
end Go.Proofs.YtbgpnkchbcgekaaDoor.Fi
end
section
namespace Go.Proofs.YtbgpnkchbcgekaaDoor.Fi
open Go.RowKit Go.Proofs.YtbgpnkchbcgekaaDoorW.PrintWords Go.Proofs.YtbgpnkchbcgekaaDoorW.PrintLast Go.Proofs.YtbgpnkchbcgekaaDoorW.PrintMore Wog
set_option linter.unusedVariables false
theorem u8_range {x : Int} (h : (Lit.int .u8 x).wf = true) : 0 ≤ x ∧ x ≤ 255 := by
  have h9 : (decide (IntKind.u8.min ≤ x) && decide (x ≤ IntKind.u8.max)) = true := h
  rw [Bool.and_eq_true, decide_eq_true_iff, decide_eq_true_iff] at h9
  have h8 : IntKind.u8.max = 255 := by kernel_rfl
  have h7 : IntKind.u8.min = 0 := by kernel_rfl
  rw [h8, h7] at h9
  exact h9
end Go.Proofs.YtbgpnkchbcgekaaDoor.Fi
end
section
namespace Go.Proofs.YtbgpnkchbcgekaaDoor.Fi
open Go.RowKit Go.Proofs.YtbgpnkchbcgekaaDoorW.PrintWords Go.Proofs.YtbgpnkchbcgekaaDoorW.PrintLast Go.Proofs.YtbgpnkchbcgekaaDoorW.PrintMore Wog
set_option linter.unusedVariables false
set_option maxRecDepth 100000 in
theorem paths_all : ∀ m : Fin 10, wogglelaw06_FirePaths.l0 60 ((m.val + 1 : Nat) : Int) [] 1 1 = some true := by decide +kernel
theorem FirePaths_ev (a0 : Int) (h0 : (Lit.int .u8 a0).wf = true) : Ev (fun k => wogglelaw06_FirePaths.f k a0) true := by
  have hr := u8_range h0
  obtain ⟨a, rfl⟩ := Int.eq_ofNat_of_zero_le hr.1
  have hn : wrap64 (Int.tmod (wrap64 (a : Int)) 10 + 1) = ((a % 10 + 1 : Nat) : Int) := by
    have h1 : wrap64 (a : Int) = (a : Int) := by unfold wrap64; omega
    rw [h1, Int.tmod_eq_emod_of_nonneg (by omega)]
    unfold wrap64
    omega
  refine Ev.of (fun k => wogglelaw06_FirePaths.mono _ k) (k := 60) ?_
  unfold wogglelaw06_FirePaths.f
  rw [hn]
  exact paths_all ⟨a % 10, Nat.mod_lt _ (by omega)⟩
end Go.Proofs.YtbgpnkchbcgekaaDoor.Fi
end
