/- The laws TugMore and TugTwo in plain words. -/
import Derived.Test.YtepgcdjbhmpioaaQTtT12
import Derived.Test.YtepgcdjbhmpioaaQTtT13
import Derived.Test.YtepgcdjbhmpioaaQTtFi9
import Derived.Test.YtepgcdjbhmpioaaQTtFi10
namespace Go.Proofs.Ytepgcdjbhmpioaa.Fi
open Go.RowKit Go.Proofs.YtepgcdjbhmpioaaW.PrintWords Go.Proofs.YtepgcdjbhmpioaaW.PrintLast Go.Proofs.YtepgcdjbhmpioaaW.PrintMore
set_option linter.unusedVariables false
theorem teams_is {l : List Int} {k : Nat} (h : OkL 10 l) (hk : 1 ≤ k ∧ k ≤ 4) : tug_Teams.f l (k : Int) = some ((teamsS k l).1, toZ (teamsS k l).2, 0) := by
  unfold tug_Teams.f
  rw [if_pos (chk_ok h), if_pos (by omega), Int.toNat_natCast]
theorem before_self (l : List Int) (hl : l.length < 2 ^ 30) : Ev (fun k => woggleref01_Before.f k l l) false := by
  have key : ∀ d i : Nat, i + d = l.length → Ev (fun k => woggleref01_Before.l0 k l l (i : Int)) false := by
    intro d
    induction d with
    | zero =>
      intro i hi
      refine Ev.step (f := fun k => woggleref01_Before.j1 k l l (i : Int) false) (fun k => ?_) ?_
      · simp only [woggleref01_Before.l0]
        rw [if_neg (by omega)]
      · refine Ev.step (f := fun _ => some false) (fun k => ?_) (Ev.now _)
        simp only [woggleref01_Before.j1]
        rw [if_neg (by decide)]
        simp
    | succ d ih =>
      intro i hi
      refine Ev.step (f := fun k => woggleref01_Before.j1 k l l (i : Int) true) (fun k => ?_) ?_
      · simp only [woggleref01_Before.l0]
        rw [if_pos (by omega), decide_eq_true (by omega)]
      · refine Ev.step (fun k => ?_) (ih (i + 1) (by omega))
        simp only [woggleref01_Before.j1]
        rw [if_pos trivial, if_pos (by omega), if_pos (by omega), if_pos (by omega), if_pos trivial, wrapS (by omega)]
        rfl
  exact key l.length 0 (by omega)
theorem same_ev (l : List Int) (hl : l.length < 2 ^ 30) : Ev (fun k => woggleref01_Same.f k l l) true := by
  unfold woggleref01_Same.f
  refine Ev.bind (before_self l hl) ?_
  simp only [Bool.false_eq_true, if_false]
  refine Ev.bind (before_self l hl) ?_
  exact Ev.now _
theorem diffS_le_sum {p s : List Int} (hp : ∀ x ∈ p, 0 ≤ x) (hs : Bits s) (hl : s.length = p.length) : diffS p s ≤ p.sum := by
  have key : ∀ (p s : List Int), Bits s → s.length = p.length → (∀ x ∈ p, 0 ≤ x) → -p.sum ≤ sgn p s ∧ sgn p s ≤ p.sum := by
    intro p
    induction p with
    | nil => intro s _ _ _; cases s <;> simp [sgn]
    | cons a p ih =>
      intro s hb hl hp
      cases s with
      | nil => simp at hl
      | cons b s =>
        have h1 := ih s (fun x hx => hb x (by simp [hx])) (by simpa using hl) (fun x hx => hp x (by simp [hx]))
        have h2 := hb b (by simp)
        have h3 := hp a (by simp)
        simp only [sgn, List.sum_cons]
        rcases h2 with rfl | rfl <;> omega
  have := key p s hs hl hp
  unfold diffS
  omega
theorem ok_sum {m : Nat} (hm : m ≤ 50) {l : List Int} (h : OkL m l) : 0 ≤ l.sum ∧ l.sum ≤ 50000000 := by
  have := sum_bound h.2.2 l.length (Nat.le_refl _)
  rw [List.take_length] at this
  have := h.2.1
  omega
theorem TugTwo_ev (x : List Int) (hx : ∀ v ∈ x, 0 ≤ v ∧ v ≤ 65535) : Ev (fun k => wogglelaw05_TugTwo.f k x) true := by
  unfold wogglelaw05_TugTwo.f
  refine Ev.bind (made_ev x 10 (by omega) hx) ?_
  obtain ⟨l, hl⟩ : ∃ l, l = madeS x 10 := ⟨_, rfl⟩
  have hok : OkL 10 l := by rw [hl]; exact made_ok hx (by omega)
  rw [← hl]
  have hlen := hok.2.1
  have m1 := find_any hok.1
  have m2 := low_two hok.nonneg (teams_low (k := 2) (by omega) hok.nonneg) m1
  obtain ⟨o1, o2⟩ := teams_one hok.nonneg
  have n1 := m1.nonneg
  obtain ⟨a1, _, a3, _⟩ := find_any_spec hok.1
  have n3 := diffS_le_sum hok.nonneg a1.2.1 a1.1
  have n5 := ok_sum (by omega) hok
  rw [← a3] at n3
  have t2 : tug_Teams.f l 2 = some ((teamsS 2 l).1, toZ (teamsS 2 l).2, 0) := teams_is hok (k := 2) (by omega)
  have t1 : tug_Teams.f l 1 = some ((teamsS 1 l).1, toZ (teamsS 1 l).2, 0) := teams_is hok (k := 1) (by omega)
  simp only [t1, t2, split_is (hok.widen (by omega)), Option.bind_some, if_true]
  have hsum := sum_ev l (hok.widen (by omega))
  refine Ev.bind hsum ?_
  have e1 : wrap64 (2 * (teamsS 2 l).1) = 2 * (teamsS 2 l).1 := wrapS (by omega)
  have e2 : wrap64 (l.sum + (findS anyS l).1) = l.sum + (findS anyS l).1 := wrapS (by omega)
  simp only [e1, e2, if_pos m2]
  refine Ev.bind hsum ?_
  simp only [if_pos o1, if_pos (show (0 : Int) ≤ (l.length : Int) by omega), Int.toNat_natCast, if_pos (show l.length ≤ 35184372088832 by omega), o2]
  refine Ev.bind (same_ev _ (by simp; omega)) ?_
  simp only [if_true]
  exact lives_then
theorem TugTwo_pure : wogglelaw05_TugTwo.Pure := by
  intro l0 h1 h2 h3
  exact (TugTwo_ev l0 (u16_made h3)).rounds
end Go.Proofs.Ytepgcdjbhmpioaa.Fi
