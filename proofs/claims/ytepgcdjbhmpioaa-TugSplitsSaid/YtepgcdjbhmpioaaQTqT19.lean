/- The law TugSplits in plain words. -/
import Derived.Test.YtepgcdjbhmpioaaQTqT13
import Derived.Test.YtepgcdjbhmpioaaQTqT14
import Derived.Test.YtepgcdjbhmpioaaQTqFi12
namespace Go.Proofs.Ytepgcdjbhmpioaa.Fi
open Go.RowKit Go.Proofs.YtepgcdjbhmpioaaW.PrintWords Go.Proofs.YtepgcdjbhmpioaaW.PrintLast Go.Proofs.YtepgcdjbhmpioaaW.PrintMore
set_option linter.unusedVariables false
theorem best_is {l : List Int} (h : OkL 14 l) (b : Bool) : woggleref05_Best.f l b = some ((findS (mayS b) l).2, (findS (mayS b) l).1) := by
  have hn : 0 ≤ (findS (mayS b) l).1 := by
    cases b with
    | false => exact (find_any h.1).nonneg
    | true => exact (find_even h.1).nonneg
  unfold woggleref05_Best.f
  rw [if_pos ⟨h, hn⟩]
theorem TugSplits_ev (x : List Int) (hx : x.length ≤ 17592186043904) : Ev (fun k => wogglelaw05_TugSplits.f k x) true := by
  unfold wogglelaw05_TugSplits.f
  obtain ⟨l, hl⟩ : ∃ l, l = x.take 15 := ⟨_, rfl⟩
  have hll : l.length ≤ 15 := by rw [hl]; exact List.length_take_le _ _
  simp only [cut_is x hx, ← hl, Option.bind_some]
  by_cases h0 : chk 14 l = 0
  · have hok := chk_zero h0
    simp only [split_is hok, even_is hok, Option.bind_some]
    refine Ev.bind (pulls_ev 14 l (by omega)) ?_
    have e1 := (find_any_spec hok.1).1.1
    have e2 := (find_even_spec hok.1).1.1
    have hlen := hok.2.1
    have b1 : woggleref05_Best.f l false = some ((findS anyS l).2, (findS anyS l).1) := best_is hok false
    have b2 : woggleref05_Best.f l true = some ((findS evS l).2, (findS evS l).1) := best_is hok true
    simp only [if_pos h0, b1, b2, Option.bind_some, if_true]
    refine Ev.bind (same_ev _ (by rw [e1]; omega)) ?_
    simp only [if_true]
    refine Ev.bind (same_ev _ (by rw [e2]; omega)) ?_
    simp only [if_true]
    exact lives_then
  · have a1 : tug_Split.f l = some (0, [], chk 14 l) := by unfold tug_Split.f; rw [if_neg h0]
    have a2 : tug_Even.f l = some (0, [], chk 14 l) := by unfold tug_Even.f; rw [if_neg h0]
    simp only [a1, a2, Option.bind_some]
    refine Ev.bind (pulls_ev 14 l (by omega)) ?_
    have e3 : wrap64 ((([] : List Int).length : Int) + (([] : List Int).length : Int)) = 0 := by simp [wrap64]
    simp only [if_neg h0, if_true, e3]
    exact lives_then
theorem TugSplits_pure : wogglelaw05_TugSplits.Pure := by
  intro l0 h1 h2 _
  exact (TugSplits_ev l0 (by omega)).rounds
end Go.Proofs.Ytepgcdjbhmpioaa.Fi
