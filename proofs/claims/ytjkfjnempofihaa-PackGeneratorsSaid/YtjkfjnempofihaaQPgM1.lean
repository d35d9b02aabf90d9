/- The walk of PackMinimals. -/
import Derived.Test.YtjkfjnempofihaaQPgQG
import Derived.Test.YtjkfjnempofihaaQPgHv
namespace Go.Proofs.Ytjkfjnempofihaa.Fi
open Go.RowKit Go.Shelf Go.Lib Go.Proofs.YtjkfjnempofihaaW.PrintWords Go.Proofs.YtjkfjnempofihaaW.PrintLast Go.Proofs.YtjkfjnempofihaaW.PrintMore
set_option linter.unusedVariables false
set_option linter.unusedSimpArgs false
theorem lit_C3 {w : World} {g c : Nat} {A : Option Addr} {L : List (List Int)} (h : w.heap[g]? = some (.cells #[.slice A L.length c] 22 (0, 0))) (hc : L.length ≤ c) (hr : Kd.C kL w A L.length L) : Kd.C (Kd.slice 25 kL) w (some ⟨g, 0, none⟩) [L].length [L] := by
  refine ⟨rfl, by simp, fun _ => ⟨⟨g, 0, none⟩, rfl, fun j p hj => ?_⟩⟩
  have hj0 : j = 0 := by
    rcases Nat.eq_zero_or_pos j with h0 | h0
    · exact h0
    · rw [List.getElem?_eq_none (by simp; omega)] at hj; cases hj
  subst hj0
  have hp : L = p := by simpa using hj
  subst hp
  refine ⟨[.slice A L.length c], rfl, ⟨A, c, rfl, hc, hr⟩, fun i u hu => ?_⟩
  have hi : i = 0 := by
    rcases Nat.eq_zero_or_pos i with h0 | h0
    · exact h0
    · rw [List.getElem?_eq_none (by simp; omega)] at hu; cases hu
  subst hi
  have hu2 : Value.slice A L.length c = u := by simpa using hu
  subst hu2
  have e : (⟨g, 0, none⟩ : Addr).add (0 * (Kd.slice 25 kL).sz + 0) = ⟨g, 0, none⟩ := by
    rw [Nat.zero_mul]
    rfl
  rw [e, blk_cell h 0]
  rfl
end Go.Proofs.Ytjkfjnempofihaa.Fi
