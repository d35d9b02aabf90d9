/- The calls of fire.Burns. -/
import Derived.Test.YtbgpnkchbcgekaaDoorQFqHbu
import Derived.Test.YtbgpnkchbcgekaaDoorQFqHtr
import Derived.Deep.LoopGhost
import Derived.Outline
import Derived.Test.YtbgpnkchbcgekaaDoorQFqHmi
namespace Go.Proofs.YtbgpnkchbcgekaaDoor.Fi
open Go.RowKit Go.Proofs.YtbgpnkchbcgekaaDoorW.PrintWords Go.Proofs.YtbgpnkchbcgekaaDoorW.PrintLast Go.Proofs.YtbgpnkchbcgekaaDoorW.PrintMore Wog
set_option linter.unusedVariables false
set_option linter.unusedSimpArgs false
def SeqOk (n : Int) (q : List Int) : Prop := 1 ≤ q.length ∧ (q.length : Int) ≤ n ∧ 0 ≤ minT q q.length ∧ maxT q q.length < n
instance (n : Int) (q : List Int) : Decidable (SeqOk n q) := by unfold SeqOk; infer_instance
theorem foldl_min_le (l : List Int) : ∀ a, l.foldl min a ≤ a ∧ ∀ x ∈ l, l.foldl min a ≤ x := by
  induction l with
  | nil => intro a; simp
  | cons y l ih =>
    intro a
    rw [List.foldl_cons]
    have h := ih (min a y)
    refine ⟨by omega, fun x hx => ?_⟩
    rcases List.mem_cons.1 hx with rfl | hx
    · omega
    · exact h.2 x hx
theorem foldl_max_ge (l : List Int) : ∀ a, a ≤ l.foldl max a ∧ ∀ x ∈ l, x ≤ l.foldl max a := by
  induction l with
  | nil => intro a; simp
  | cons y l ih =>
    intro a
    rw [List.foldl_cons]
    have h := ih (max a y)
    refine ⟨by omega, fun x hx => ?_⟩
    rcases List.mem_cons.1 hx with rfl | hx
    · omega
    · exact h.2 x hx
theorem SeqOk.all {n : Int} {q : List Int} (h : SeqOk n q) : ∀ x ∈ q, 0 ≤ x ∧ x < n := by
  intro x hx
  obtain ⟨_, _, h1, h2⟩ := h
  unfold minT at h1
  unfold maxT at h2
  rw [List.take_length] at h1 h2
  have h3 := (foldl_min_le q (q.getD 0 0)).2 x hx
  have h4 := (foldl_max_ge q (q.getD 0 0)).2 x hx
  omega
end Go.Proofs.YtbgpnkchbcgekaaDoor.Fi
