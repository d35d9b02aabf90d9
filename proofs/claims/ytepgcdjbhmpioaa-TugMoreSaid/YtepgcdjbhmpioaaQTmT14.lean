/- The laws TugMore and TugTwo in plain words. -/
import Derived.Test.YtepgcdjbhmpioaaQTmT12
import Derived.Test.YtepgcdjbhmpioaaQTmT13
import Derived.Test.YtepgcdjbhmpioaaQTmFi9
import Derived.Test.YtepgcdjbhmpioaaQTmFi10
namespace Go.Proofs.Ytepgcdjbhmpioaa.Fi
open Go.RowKit Go.Proofs.YtepgcdjbhmpioaaW.PrintWords Go.Proofs.YtepgcdjbhmpioaaW.PrintLast Go.Proofs.YtepgcdjbhmpioaaW.PrintMore
set_option linter.unusedVariables false
theorem teams_is {l : List Int} {k : Nat} (h : OkL 10 l) (hk : 1 ≤ k ∧ k ≤ 4) : tug_Teams.f l (k : Int) = some ((teamsS k l).1, toZ (teamsS k l).2, 0) := by
  unfold tug_Teams.f
  rw [if_pos (chk_ok h), if_pos (by omega), Int.toNat_natCast]
theorem diffS_le_sum {p s : List Int} (hp : ∀ x ∈ p, 0 ≤ x) (hs : Bits s) (hl : s.length = p.length) : diffS p s ≤ p.sum := by
  have key : ∀ (p s : List Int), Bits s → s.length = p.length → (∀ x ∈ p, 0 ≤ x) → -p.sum ≤ sgn p s ∧ sgn p s ≤ p.sum := by
    intro p
    induction p with
    | nil => intro s _ _ _; cases s <;> simp [sgn]
    | cons a p ih =>
      intro s hb hl hp
      cases s with
      | nil => simp at hl
      | cons b s =>
        have h1 := ih s (fun x hx => hb x (by simp [hx])) (by simpa using hl) (fun x hx => hp x (by simp [hx]))
        have h2 := hb b (by simp)
        have h3 := hp a (by simp)
        simp only [sgn, List.sum_cons]
        rcases h2 with rfl | rfl <;> omega
  have := key p s hs hl hp
  unfold diffS
  omega
theorem ok_sum {m : Nat} (hm : m ≤ 50) {l : List Int} (h : OkL m l) : 0 ≤ l.sum ∧ l.sum ≤ 50000000 := by
  have := sum_bound h.2.2 l.length (Nat.le_refl _)
  rw [List.take_length] at this
  have := h.2.1
  omega
theorem TugMore_ev (x : List Int) (a b : Int) (hx : ∀ v ∈ x, 0 ≤ v ∧ v ≤ 65535) (ha : 0 ≤ a ∧ a ≤ 65535) (hb : 0 ≤ b ∧ b ≤ 255) : Ev (fun k => wogglelaw05_TugMore.f k x a b) true := by
  unfold wogglelaw05_TugMore.f
  refine Ev.bind (made_ev x 8 (by omega) hx) ?_
  obtain ⟨l, hl⟩ : ∃ l, l = madeS x 8 := ⟨_, rfl⟩
  have hok : OkL 8 l := by rw [hl]; exact made_ok hx (by omega)
  rw [← hl]
  have e1 : wrap64 a = a := wrapS (by omega)
  have e2 : wrap64 (a + 1) = a + 1 := wrapS (by omega)
  have e3 : wrap64 b = b := wrapS (by omega)
  obtain ⟨K, hK1, hK⟩ : ∃ K : Nat, (1 ≤ K ∧ K ≤ 4) ∧ wrap64 (Int.tmod b 4 + 1) = (K : Int) := by
    rw [Int.tmod_eq_emod_of_nonneg hb.1, wrapS (by omega)]
    exact ⟨(b % 4 + 1).toNat, by omega, by omega⟩
  have hlen := hok.2.1
  have hmore : OkL 9 (l ++ [a + 1]) := ⟨by simp, by simp; omega, fun v hv => by
    rcases List.mem_append.1 hv with hv | hv
    · exact hok.2.2 v hv
    · have : v = a + 1 := by simpa using hv
      omega⟩
  have m1 := find_any hok.1
  have m2 := find_any hmore.1
  have m3 := min_more (by omega) m1 m2
  have m4 := low_more (x := a + 1) (by omega) (teams_low hK1.1 hok.nonneg) (teams_low hK1.1 hmore.nonneg)
  have n1 := m1.nonneg
  have n2 := m2.nonneg
  obtain ⟨a1, _, a3, _⟩ := find_any_spec hok.1
  obtain ⟨b1, _, b3, _⟩ := find_any_spec hmore.1
  have n3 := diffS_le_sum hok.nonneg a1.2.1 a1.1
  have n4 := diffS_le_sum hmore.nonneg b1.2.1 b1.1
  have n5 := ok_sum (by omega) hok
  have n6 := ok_sum (by omega) hmore
  rw [← a3] at n3
  rw [← b3] at n4
  have e4 : ([] : List Int).length + l.length < 17592186044416 := by simp; omega
  have e5 : l.length < 17592186044416 := by omega
  simp only [Option.bind_some, if_pos e4, if_pos e5, List.nil_append, e1, e2, e3, hK, split_is (hok.widen (by omega)), split_is (hmore.widen (by omega)), teams_is (hok.widen (by omega)) hK1, teams_is (hmore.widen (by omega)) hK1, if_true, mx_is]
  have e6 : wrap64 ((findS anyS l).1 - (findS anyS (l ++ [a + 1])).1) = (findS anyS l).1 - (findS anyS (l ++ [a + 1])).1 := wrapS (by omega)
  have e7 : wrap64 ((findS anyS (l ++ [a + 1])).1 - (findS anyS l).1) = (findS anyS (l ++ [a + 1])).1 - (findS anyS l).1 := wrapS (by omega)
  simp only [e6, e7, if_pos (show max ((findS anyS l).1 - (findS anyS (l ++ [a + 1])).1) ((findS anyS (l ++ [a + 1])).1 - (findS anyS l).1) ≤ a + 1 by omega), if_pos (show (teamsS K (l ++ [a + 1])).1 ≥ (teamsS K l).1 by omega)]
  exact lives_then
theorem u16_nat {v : Int} (h : (Lit.int .u16 v).wf = true) : 0 ≤ v ∧ v ≤ 65535 := by
  simp [Lit.wf] at h
  have a : IntKind.u16.min = 0 := by decide
  have b : IntKind.u16.max = 65535 := by decide
  omega
theorem TugMore_pure : wogglelaw05_TugMore.Pure := by
  intro l0 a1 a2 h1 h2 h3 h4 h5
  exact (TugMore_ev l0 a1 a2 (u16_made h3) (u16_nat h4) (u8_nat h5)).rounds
end Go.Proofs.Ytepgcdjbhmpioaa.Fi
