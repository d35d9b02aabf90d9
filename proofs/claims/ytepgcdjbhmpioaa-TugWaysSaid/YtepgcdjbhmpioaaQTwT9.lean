/- The laws TugWays and TugParity in plain words. -/
import Derived.Test.YtepgcdjbhmpioaaQTwT8
import Derived.Test.YtepgcdjbhmpioaaQTwFi17
import Derived.Test.YtepgcdjbhmpioaaQTwFi18
namespace Go.Proofs.Ytepgcdjbhmpioaa.Fi
open Go.RowKit Go.Proofs.YtepgcdjbhmpioaaW.PrintWords Go.Proofs.YtepgcdjbhmpioaaW.PrintLast Go.Proofs.YtepgcdjbhmpioaaW.PrintMore
set_option linter.unusedVariables false
theorem TugWays_ev (x : List Int) (d : Int) (hx : x.length ≤ 17592186043904) : Ev (fun k => wogglelaw05_TugWays.f k x d) true := by
  unfold wogglelaw05_TugWays.f
  obtain ⟨l, hl⟩ : ∃ l, l = x.take 15 := ⟨_, rfl⟩
  have hll : l.length ≤ 15 := by rw [hl]; exact List.length_take_le _ _
  simp only [cut_is x hx, ← hl, Option.bind_some]
  refine Ev.bind (waysT_ev l d) ?_
  refine Ev.bind (pulls_ev 14 l (by omega)) ?_
  have bad : ∀ n c b : Int, b ≠ 0 → n = 0 → c = b → Ev (fun k => wogglelaw05_TugWays.j1 k d l n c b) true := fun n c b h1 h2 h3 => by
    refine Ev.step (fun k => ?_) lives_then
    simp only [wogglelaw05_TugWays.j1]
    rw [if_neg h1, if_pos h2, if_pos h3]
  by_cases h0 : chk 14 l = 0
  · simp only [if_pos h0]
    by_cases h1 : d < 0
    · simp only [h1, decide_true, if_true]
      refine Ev.step (f := fun k => wogglelaw05_TugWays.j1 k d l 0 1 1) (fun k => ?_) (bad _ _ _ (by decide) rfl rfl)
      simp only [wogglelaw05_TugWays.j0, if_true]
    · simp only [h1, decide_false, if_false]
      refine Ev.step (f := fun k => wogglelaw05_TugWays.j1 k d l (wayN l d (2 ^ (l.length - 1)) : Int) 0 0) (fun k => ?_) ?_
      · simp only [wogglelaw05_TugWays.j0, h0]
        rfl
      · refine Ev.step (f := fun k => (woggleref05_Ways.f k l d).bind fun t503 => (if (wayN l d (2 ^ (l.length - 1)) : Int) = t503 then (if (0 : Int) = 0 then ((wogglelaw05_lives.f k).bind fun t504 => (some t504)) else (some false)) else (some false))) (fun k => ?_) ?_
        · simp only [wogglelaw05_TugWays.j1, if_true]
        · refine Ev.bind (waysR_ev l d (chk_zero h0)) ?_
          simp only [if_true]
          exact lives_then
  · simp only [if_neg h0]
    refine Ev.step (f := fun k => wogglelaw05_TugWays.j1 k d l 0 (chk 14 l) (chk 14 l)) (fun k => ?_) (bad _ _ _ h0 rfl rfl)
    simp only [wogglelaw05_TugWays.j0]
    rfl
theorem TugWays_pure : wogglelaw05_TugWays.Pure := by
  intro l0 a1 h1 h2 _ _
  exact (TugWays_ev l0 a1 (by omega)).rounds
end Go.Proofs.Ytepgcdjbhmpioaa.Fi
