/- The greedy teams of the reference are those of the program; the law TugGreedies in plain words. -/
import Derived.Test.YtepgcdjbhmpioaaQTkT18
import Derived.Test.YtepgcdjbhmpioaaQTkT14
import Derived.Test.YtepgcdjbhmpioaaQTkFi0
import Derived.Test.YtepgcdjbhmpioaaQTkFi1
import Derived.Test.YtepgcdjbhmpioaaQTkFi2
import Derived.Test.YtepgcdjbhmpioaaQTkT10
import Derived.Test.YtepgcdjbhmpioaaQTkH4b
import Derived.Test.YtepgcdjbhmpioaaQTkSb
import Derived.Test.YtepgcdjbhmpioaaQTkH4c
import Derived.Test.YtepgcdjbhmpioaaQTkHv
namespace Go.Proofs.Ytepgcdjbhmpioaa.Fi
open Go.RowKit Go.Sort Go.Proofs.YtepgcdjbhmpioaaW.PrintWords Go.Proofs.YtepgcdjbhmpioaaW.PrintLast Go.Proofs.YtepgcdjbhmpioaaW.PrintMore
set_option linter.unusedVariables false
/-- What the insertion sort has seen. -/
def Seen (l : List Int) (i : Nat) (d : Array (Fin (l.length - 1 + 1))) : Prop := (∀ p, p < i → p < d.size → d[p]!.val < i) ∧ ∀ p, i ≤ p → p < d.size → d[p]!.val = p
theorem Seen.next {l : List Int} {i : Nat} {d : Array (Fin (l.length - 1 + 1))} (h : Seen l i d) : Seen l (i + 1) d := by
  obtain ⟨a, b⟩ := h
  refine ⟨fun p hp hps => ?_, fun p hp hps => b p (by omega) hps⟩
  rcases Nat.lt_or_ge p i with h1 | h1
  · have := a p h1 hps; omega
  · have := b p h1 hps; omega
/-- What is wrong with pulls and a number of teams. -/
def whyS (m : Nat) (l : List Int) (a : Int) : Int := if chk m l = 0 then (if 1 ≤ a ∧ a ≤ 4 then 0 else 1) else chk m l
theorem why_ev (m : Nat) (l : List Int) (a : Int) (hl : l.length ≤ 1000) : Ev (fun k => wogglelaw05_why.f k l (m : Int) a) (whyS m l a) := by
  unfold wogglelaw05_why.f
  refine Ev.bind (pulls_ev m l hl) ?_
  unfold whyS
  by_cases h : chk m l = 0
  · simp only [h, if_true]
    by_cases h1 : a < 1
    · simp only [if_pos h1, if_neg (show ¬ (1 ≤ a ∧ a ≤ 4) by omega)]
      exact Ev.now _
    · by_cases h2 : a > 4
      · simp only [if_neg h1, if_pos h2, if_neg (show ¬ (1 ≤ a ∧ a ≤ 4) by omega)]
        exact Ev.now _
      · simp only [if_neg h1, if_neg h2, if_pos (show 1 ≤ a ∧ a ≤ 4 by omega)]
        exact Ev.now _
  · simp only [if_neg h]
    exact Ev.now _
end Go.Proofs.Ytepgcdjbhmpioaa.Fi
