/- The law TugDifferencings in plain words. -/
import Derived.Test.YtepgcdjbhmpioaaQTeT24
import Derived.Test.YtepgcdjbhmpioaaQTeT14
import Derived.Test.YtepgcdjbhmpioaaQTeH7
import Derived.Test.YtepgcdjbhmpioaaQTeFi6
namespace Go.Proofs.Ytepgcdjbhmpioaa.Fi
open Go.RowKit Go.Proofs.YtepgcdjbhmpioaaW.PrintWords Go.Proofs.YtepgcdjbhmpioaaW.PrintLast Go.Proofs.YtepgcdjbhmpioaaW.PrintMore
set_option linter.unusedVariables false
theorem TugDifferencings_ev (x : List Int) (hx : x.length ≤ 17592186043904) : Ev (fun k => wogglelaw05_TugDifferencings.f k x) true := by
  unfold wogglelaw05_TugDifferencings.f
  obtain ⟨l, hl⟩ : ∃ l, l = x.take 15 := ⟨_, rfl⟩
  have hll : l.length ≤ 15 := by rw [hl]; exact List.length_take_le _ _
  simp only [cut_is x hx, ← hl, Option.bind_some]
  by_cases h0 : chk 14 l = 0
  · have hok := chk_zero h0
    simp only [kk_is hok, Option.bind_some]
    refine Ev.bind (pulls_ev 14 l (by omega)) ?_
    have e1 := (kkS_sides hok.1 hok.nonneg).1.1
    simp only [if_pos h0]
    refine Ev.bind (show Ev (fun k => woggleref05_Differencing.f k l) ((kkS l).1, (kkS l).2) from refKK_ev l hok) ?_
    simp only [if_true]
    refine Ev.bind (same_ev _ (by rw [e1]; omega)) ?_
    simp only [if_true]
    exact lives_then
  · have a1 : tug_Differencing.f l = some (0, [], chk 14 l) := by unfold tug_Differencing.f; rw [if_neg h0]
    simp only [a1, Option.bind_some]
    refine Ev.bind (pulls_ev 14 l (by omega)) ?_
    simp only [if_neg h0, if_true, List.length_nil, if_pos (show ((0 : Nat) : Int) = 0 from rfl)]
    exact lives_then
theorem TugDifferencings_pure : wogglelaw05_TugDifferencings.Pure := by
  intro l0 h1 h2 _
  exact (TugDifferencings_ev l0 (by omega)).rounds
end Go.Proofs.Ytepgcdjbhmpioaa.Fi
