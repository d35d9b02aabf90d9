/- The laws TugSized and TugOrder in plain words. -/
import Derived.Test.YtepgcdjbhmpioaaQToT12
import Derived.Test.YtepgcdjbhmpioaaQToT14
import Derived.Test.YtepgcdjbhmpioaaQToFi15
import Derived.Test.YtepgcdjbhmpioaaQToFi16
namespace Go.Proofs.Ytepgcdjbhmpioaa.Fi
open Go.RowKit Go.Proofs.YtepgcdjbhmpioaaW.PrintWords Go.Proofs.YtepgcdjbhmpioaaW.PrintLast Go.Proofs.YtepgcdjbhmpioaaW.PrintMore
set_option linter.unusedVariables false
theorem greedy_fi {l : List Int} {k : Nat} (h : OkL 14 l) (hk : 1 ≤ k ∧ k ≤ 4) : tug_Greedy.f l (k : Int) = some (maxT (greedyS k l).2 k, (greedyS k l).1, 0) := by
  unfold tug_Greedy.f
  rw [if_pos (chk_ok h), if_pos (by omega), Int.toNat_natCast]
/-- The differences and loads of pulls. -/
def numsS (k : Nat) (l : List Int) : List Int := [(findS anyS l).1, (findS evS l).1, (kkS l).1, maxT (greedyS k l).2 k, (teamsS k l).1]
theorem numbers_is {l : List Int} {k : Nat} (h : OkL 10 l) (hk : 1 ≤ k ∧ k ≤ 4) : wogglelaw05_numbers.f l (k : Int) = some (numsS k l, true) := by
  have h4 := h.widen (k := 14) (by omega)
  unfold wogglelaw05_numbers.f
  simp only [split_is h4, even_is h4, kk_is h4, greedy_fi h4 hk, teams_is h hk, Option.bind_some, if_true]
  rfl
theorem nums_perm {k m : Nat} {l v : List Int} (hk : 1 ≤ k) (h : OkL m l) (hp : v.Perm l) : numsS k v = numsS k l := by
  have hv1 : 1 ≤ v.length := by have := h.1; have := hp.length_eq; omega
  have hv : ∀ x ∈ v, 0 ≤ x := fun x hx => h.nonneg x (hp.mem_iff.1 hx)
  unfold numsS
  rw [((find_any hv1).perm fair_any hp).uniq (find_any h.1), ((find_even hv1).perm fair_ev hp).uniq (find_even h.1), kk_worth hv1 hv, kk_worth h.1 h.nonneg, kkV_perm hp, greedy_is hv1, greedy_is h.1, greedyV_perm hp, ((teams_low hk hv).perm hp).uniq (teams_low hk h.nonneg)]
theorem TugOrder_ev (x : List Int) (a b : Int) (hx : ∀ v ∈ x, 0 ≤ v ∧ v ≤ 65535) (ha : 0 ≤ a ∧ a ≤ 255) (hb : 0 ≤ b ∧ b ≤ 255) : Ev (fun k => wogglelaw05_TugOrder.f k x a b) true := by
  unfold wogglelaw05_TugOrder.f
  refine Ev.bind (made_ev x 7 (by omega) hx) ?_
  obtain ⟨l, hl⟩ : ∃ l, l = madeS x 7 := ⟨_, rfl⟩
  have hok : OkL 7 l := by rw [hl]; exact made_ok hx (by omega)
  rw [← hl]
  have hpos := hok.1
  have hlen := hok.2.1
  have e1 : wrap64 a = a := wrapS (by omega)
  have e3 : wrap64 b = b := wrapS (by omega)
  obtain ⟨K, hK1, hK⟩ : ∃ K : Nat, (1 ≤ K ∧ K ≤ 4) ∧ wrap64 (Int.tmod b 4 + 1) = (K : Int) := by
    rw [Int.tmod_eq_emod_of_nonneg hb.1, wrapS (by omega)]
    exact ⟨(b % 4 + 1).toNat, by omega, by omega⟩
  obtain ⟨z, hz1, hz⟩ : ∃ z : Nat, z < l.length ∧ Int.tmod a (l.length : Int) = (z : Int) := by
    rw [Int.tmod_eq_emod_of_nonneg ha.1]
    have h1 := Int.emod_nonneg a (show (l.length : Int) ≠ 0 by omega)
    have h2 := Int.emod_lt_of_pos a (show (0 : Int) < (l.length : Int) by omega)
    exact ⟨(a % (l.length : Int)).toNat, by omega, by omega⟩
  have e4 : wrap64 ((l.length : Int) - 1) = (l.length : Int) - 1 := wrapS (by omega)
  have e5 : ([] : List Int).length + (l.drop z).length < 17592186044416 := by simp; omega
  have e6 : (l.drop z).length + (l.take z).length < 17592186044416 := by rw [List.length_drop, List.length_take]; omega
  simp only [e1, e3, hK, hz, e4, Option.bind_some, if_neg (show ¬ (l.length : Int) = 0 by omega), if_pos (show (0 : Int) ≤ (z : Int) by omega), if_pos (show (z : Int) ≤ (l.length : Int) by omega), Int.toNat_natCast, if_pos e5, if_pos e6, List.nil_append]
  have p1 : (l.drop z ++ l.take z).Perm l := List.perm_append_comm.trans (by rw [List.take_append_drop])
  have o1 : OkL 7 (l.drop z ++ l.take z) := ⟨by rw [p1.length_eq]; exact hok.1, by rw [p1.length_eq]; exact hok.2.1, fun v hv => hok.2.2 v (p1.mem_iff.1 hv)⟩
  have p2 : l.reverse.Perm l := List.reverse_perm l
  have o2 : OkL 7 l.reverse := ⟨by rw [p2.length_eq]; exact hok.1, by rw [p2.length_eq]; exact hok.2.1, fun v hv => hok.2.2 v (p2.mem_iff.1 hv)⟩
  have key : ∀ d i : Nat, i + d = l.length → Ev (fun k => wogglelaw05_TugOrder.l0 k l (K : Int) (l.drop z ++ l.take z) (l.reverse.take i) ((l.length : Int) - 1 - (i : Int))) true := by
    intro d
    induction d with
    | zero =>
      intro i hi
      have e2 : l.reverse.take i = l.reverse := List.take_of_length_le (by rw [List.length_reverse]; omega)
      rw [e2]
      have hs := same_ev (numsS K l) (by simp [numsS])
      refine Ev.step (f := fun k => (woggleref01_Same.f k (numsS K l) (numsS K l)).bind fun t485 => (if t485 = true then ((woggleref01_Same.f k (numsS K l) (numsS K l)).bind fun t486 => (if t486 = true then ((wogglelaw05_lives.f k).bind fun t487 => (some t487)) else (some false))) else (some false))) (fun k => ?_) ?_
      · simp only [wogglelaw05_TugOrder.l0]
        rw [if_neg (by omega), numbers_is (hok.widen (by omega)) hK1, Option.bind_some, numbers_is (o1.widen (by omega)) hK1, Option.bind_some, numbers_is (o2.widen (by omega)) hK1, Option.bind_some]
        simp only [if_true, nums_perm hK1.1 hok p1, nums_perm hK1.1 hok p2]
      · refine Ev.bind hs ?_
        simp only [if_true]
        refine Ev.bind hs ?_
        simp only [if_true]
        exact lives_then
    | succ d ih =>
      intro i hi
      have := ih (i + 1) (by omega)
      have e7 : l.reverse.getD i 0 = l.getD (l.length - 1 - i) 0 := by
        rw [List.getD_eq_getElem?_getD, List.getElem?_reverse (by omega), ← List.getD_eq_getElem?_getD]
      rw [← take_snoc' l.reverse i (by rw [List.length_reverse]; omega), e7] at this
      refine Ev.step (fun k => ?_) this
      have e8 : rd l ((l.length : Int) - 1 - (i : Int)) = l.getD (l.length - 1 - i) 0 := by
        rw [show (l.length : Int) - 1 - (i : Int) = ((l.length - 1 - i : Nat) : Int) by omega]
        rfl
      have e9 : wrap64 ((l.length : Int) - 1 - (i : Int) - 1) = (l.length : Int) - 1 - ((i + 1 : Nat) : Int) := by rw [wrapS (by omega)]; omega
      simp only [wogglelaw05_TugOrder.l0]
      rw [if_pos (by omega), if_pos (by omega), if_pos (by omega), if_pos (by rw [List.length_take, List.length_reverse]; omega), e8, e9]
  have := key l.length 0 (by omega)
  rw [show (l.length : Int) - 1 - ((0 : Nat) : Int) = (l.length : Int) - 1 by omega] at this
  exact this
theorem TugOrder_pure : wogglelaw05_TugOrder.Pure := by
  intro l0 a1 a2 h1 h2 h3 h4 h5
  exact (TugOrder_ev l0 a1 a2 (u16_made h3) (u8_nat h4) (u8_nat h5)).rounds
end Go.Proofs.Ytepgcdjbhmpioaa.Fi
