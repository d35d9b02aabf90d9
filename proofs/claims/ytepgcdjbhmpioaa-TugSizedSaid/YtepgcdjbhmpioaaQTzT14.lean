/- The laws TugMore and TugTwo in plain words. -/
import Derived.Test.YtepgcdjbhmpioaaQTzT12
import Derived.Test.YtepgcdjbhmpioaaQTzT13
import Derived.Test.YtepgcdjbhmpioaaQTzFi9
import Derived.Test.YtepgcdjbhmpioaaQTzFi10
namespace Go.Proofs.Ytepgcdjbhmpioaa.Fi
open Go.RowKit Go.Proofs.YtepgcdjbhmpioaaW.PrintWords Go.Proofs.YtepgcdjbhmpioaaW.PrintLast Go.Proofs.YtepgcdjbhmpioaaW.PrintMore
set_option linter.unusedVariables false
theorem teams_is {l : List Int} {k : Nat} (h : OkL 10 l) (hk : 1 ≤ k ∧ k ≤ 4) : tug_Teams.f l (k : Int) = some ((teamsS k l).1, toZ (teamsS k l).2, 0) := by
  unfold tug_Teams.f
  rw [if_pos (chk_ok h), if_pos (by omega), Int.toNat_natCast]
theorem diffS_le_sum {p s : List Int} (hp : ∀ x ∈ p, 0 ≤ x) (hs : Bits s) (hl : s.length = p.length) : diffS p s ≤ p.sum := by
  have key : ∀ (p s : List Int), Bits s → s.length = p.length → (∀ x ∈ p, 0 ≤ x) → -p.sum ≤ sgn p s ∧ sgn p s ≤ p.sum := by
    intro p
    induction p with
    | nil => intro s _ _ _; cases s <;> simp [sgn]
    | cons a p ih =>
      intro s hb hl hp
      cases s with
      | nil => simp at hl
      | cons b s =>
        have h1 := ih s (fun x hx => hb x (by simp [hx])) (by simpa using hl) (fun x hx => hp x (by simp [hx]))
        have h2 := hb b (by simp)
        have h3 := hp a (by simp)
        simp only [sgn, List.sum_cons]
        rcases h2 with rfl | rfl <;> omega
  have := key p s hs hl hp
  unfold diffS
  omega
theorem ok_sum {m : Nat} (hm : m ≤ 50) {l : List Int} (h : OkL m l) : 0 ≤ l.sum ∧ l.sum ≤ 50000000 := by
  have := sum_bound h.2.2 l.length (Nat.le_refl _)
  rw [List.take_length] at this
  have := h.2.1
  omega
end Go.Proofs.Ytepgcdjbhmpioaa.Fi
