/- The laws TugSized and TugOrder in plain words. -/
import Derived.Test.YtepgcdjbhmpioaaQTzT12
import Derived.Test.YtepgcdjbhmpioaaQTzT14
import Derived.Test.YtepgcdjbhmpioaaQTzFi15
import Derived.Test.YtepgcdjbhmpioaaQTzFi16
namespace Go.Proofs.Ytepgcdjbhmpioaa.Fi
open Go.RowKit Go.Proofs.YtepgcdjbhmpioaaW.PrintWords Go.Proofs.YtepgcdjbhmpioaaW.PrintLast Go.Proofs.YtepgcdjbhmpioaaW.PrintMore
set_option linter.unusedVariables false
theorem greedy_fi {l : List Int} {k : Nat} (h : OkL 14 l) (hk : 1 ≤ k ∧ k ≤ 4) : tug_Greedy.f l (k : Int) = some (maxT (greedyS k l).2 k, (greedyS k l).1, 0) := by
  unfold tug_Greedy.f
  rw [if_pos (chk_ok h), if_pos (by omega), Int.toNat_natCast]
/-- The differences and loads of pulls. -/
def numsS (k : Nat) (l : List Int) : List Int := [(findS anyS l).1, (findS evS l).1, (kkS l).1, maxT (greedyS k l).2 k, (teamsS k l).1]
theorem numbers_is {l : List Int} {k : Nat} (h : OkL 10 l) (hk : 1 ≤ k ∧ k ≤ 4) : wogglelaw05_numbers.f l (k : Int) = some (numsS k l, true) := by
  have h4 := h.widen (k := 14) (by omega)
  unfold wogglelaw05_numbers.f
  simp only [split_is h4, even_is h4, kk_is h4, greedy_fi h4 hk, teams_is h hk, Option.bind_some, if_true]
  rfl
theorem nums_scale {k m : Nat} {l : List Int} {c : Int} (hc : 1 ≤ c) (hk : 1 ≤ k) (h : OkL m l) : numsS k (l.map (c * ·)) = (numsS k l).map (c * ·) := by
  have hv1 : 1 ≤ (l.map (c * ·)).length := by rw [List.length_map]; exact h.1
  have hv : ∀ x ∈ l.map (c * ·), 0 ≤ x := fun x hx => by
    obtain ⟨y, hy, rfl⟩ := List.mem_map.1 hx
    exact Int.mul_nonneg (by omega) (h.nonneg y hy)
  unfold numsS
  rw [(find_any hv1).uniq ((find_any h.1).scale (by omega)), (find_even hv1).uniq ((find_even h.1).scale (by omega)), kk_worth hv1 hv, kk_worth h.1 h.nonneg, kkV_scale (by omega), greedy_is hv1, greedy_is h.1, greedyV_scale hc, maxT_scale (by omega), (teams_low hk hv).uniq ((teams_low hk h.nonneg).scale hc)]
  rfl
theorem tot_le : ∀ (p : List Int) (ts : List Nat) (j : Nat), (∀ x ∈ p, 0 ≤ x) → tot p ts j ≤ p.sum
  | [], ts, j, _ => by cases ts <;> simp [tot]
  | a :: p, [], j, h => by
    have := sum_nonneg h
    simp only [tot]
    exact this
  | a :: p, t :: ts, j, h => by
    have := tot_le p ts j (fun x hx => h x (by simp [hx]))
    have := h a (by simp)
    rw [tot, List.sum_cons]
    split <;> omega
theorem nums_small {k : Nat} {l : List Int} (hk : 1 ≤ k ∧ k ≤ 4) (h : OkL 10 l) : ∀ x ∈ numsS k l, -50000000 ≤ x ∧ x ≤ 50000000 := by
  have hs := ok_sum (by omega) h
  have n1 := (find_any h.1).nonneg
  have n2 := (find_even h.1).nonneg
  obtain ⟨a1, _, a3, _⟩ := find_any_spec h.1
  obtain ⟨b1, _, b3, _⟩ := find_even_spec h.1
  obtain ⟨c1, c2, c3⟩ := kkS_sides h.1 h.nonneg
  have n3 := diffS_le_sum h.nonneg a1.2.1 a1.1
  have n4 := diffS_le_sum h.nonneg b1.2.1 b1.1
  have n5 := diffS_le_sum h.nonneg c1.2.1 c1.1
  obtain ⟨d1, _, _⟩ := teams_spec hk.1 h.nonneg
  have n6 : 0 ≤ (teamsS k l).1 ∧ (teamsS k l).1 ≤ l.sum := by
    rw [congrArg Prod.fst d1]
    exact ⟨maxF_nonneg _ _, maxF_le.2 ⟨hs.1, fun j _ => tot_le _ _ _ h.nonneg⟩⟩
  have n7 : 0 ≤ maxT (greedyS k l).2 k ∧ maxT (greedyS k l).2 k ≤ 50000000 := by
    have e : greedyS k l = stT l k (orderS l).length := by
      unfold greedyS stT
      rw [List.take_length]
    have hb := stT_bound l k h.2.2 (orderS l).length (Nat.le_refl _)
    have hl := (stT_len l k (orderS l).length).2
    rw [← e] at hb hl
    have := (maxT_spec (l := (greedyS k l).2) (by omega)).2
    rw [hl] at this
    have := hb _ this
    have := orderS_length l h.1
    have := h.2.1
    omega
  intro x hx
  unfold numsS at hx
  simp only [List.mem_cons, List.not_mem_nil, or_false] at hx
  rcases hx with rfl | rfl | rfl | rfl | rfl <;> omega
theorem Sized_l1 (c : Int) (p q : List Int) (hc : 1 ≤ c ∧ c ≤ 10) (hp : ∀ x ∈ p, -50000000 ≤ x ∧ x ≤ 50000000) (hl : p.length ≤ 100) (hq : q = p.map (c * ·)) : Ev (fun k => wogglelaw05_TugSized.l1 k c p true q true 0) true := by
  have key : ∀ d i : Nat, i + d = p.length → Ev (fun k => wogglelaw05_TugSized.l1 k c p true q true (i : Int)) true := by
    intro d
    induction d with
    | zero =>
      intro i hi
      refine Ev.step (fun k => ?_) lives_then
      simp only [wogglelaw05_TugSized.l1]
      rw [if_neg (by omega), if_pos trivial, if_pos trivial]
    | succ d ih =>
      intro i hi
      refine Ev.step (fun k => ?_) (ih (i + 1) (by omega))
      have hx := hp _ (getD_mem (l := p) (i := i) (by omega))
      have e0 : c * p.getD i 0 ≤ 10 * 50000000 ∧ -(10 * 50000000) ≤ c * p.getD i 0 := by
        obtain ⟨m, rfl⟩ : ∃ m : Nat, c = m := ⟨c.toNat, by omega⟩
        have hm : m = 1 ∨ m = 2 ∨ m = 3 ∨ m = 4 ∨ m = 5 ∨ m = 6 ∨ m = 7 ∨ m = 8 ∨ m = 9 ∨ m = 10 := by omega
        rcases hm with rfl | rfl | rfl | rfl | rfl | rfl | rfl | rfl | rfl | rfl <;> omega
      have e1 : wrap64 (c * rd p (i : Int)) = c * p.getD i 0 := wrapS (by rw [rdN]; omega)
      have e2 : rd q (i : Int) = c * p.getD i 0 := by rw [hq, rdN, getD_scale]
      have e3 : wrap64 ((i : Int) + 1) = ((i + 1 : Nat) : Int) := by rw [wrapS (by omega)]; omega
      have e4 : q.length = p.length := by rw [hq, List.length_map]
      simp only [wogglelaw05_TugSized.l1]
      rw [if_pos (by omega), if_pos trivial, if_pos (by omega), if_pos (by omega), e1, e2, e3, beq_self_eq_true]
  exact key p.length 0 (by omega)
theorem TugSized_ev (x : List Int) (a b : Int) (hx : ∀ v ∈ x, 0 ≤ v ∧ v ≤ 65535) (ha : 0 ≤ a ∧ a ≤ 255) (hb : 0 ≤ b ∧ b ≤ 255) : Ev (fun k => wogglelaw05_TugSized.f k x a b) true := by
  unfold wogglelaw05_TugSized.f
  refine Ev.bind (made_ev x 7 (by omega) hx) ?_
  have hsm := made_small (most := 7) hx
  obtain ⟨l, hl⟩ : ∃ l, l = madeS x 7 := ⟨_, rfl⟩
  have hok : OkL 7 l := by rw [hl]; exact made_ok hx (by omega)
  rw [← hl] at hsm ⊢
  have e1 : wrap64 a = a := wrapS (by omega)
  have e3 : wrap64 b = b := wrapS (by omega)
  obtain ⟨K, hK1, hK⟩ : ∃ K : Nat, (1 ≤ K ∧ K ≤ 4) ∧ wrap64 (Int.tmod b 4 + 1) = (K : Int) := by
    rw [Int.tmod_eq_emod_of_nonneg hb.1, wrapS (by omega)]
    exact ⟨(b % 4 + 1).toNat, by omega, by omega⟩
  obtain ⟨c, hc1, hc⟩ : ∃ c : Int, (1 ≤ c ∧ c ≤ 10) ∧ wrap64 (Int.tmod a 10 + 1) = c := by
    rw [Int.tmod_eq_emod_of_nonneg ha.1, wrapS (by omega)]
    exact ⟨a % 10 + 1, by omega, rfl⟩
  simp only [e1, e3, hK, hc]
  have hlen := hok.2.1
  have hmul : ∀ v : Int, 1 ≤ v ∧ v ≤ 65536 → 1 ≤ c * v ∧ c * v ≤ 1000000 := fun v hv => by
    obtain ⟨m, rfl⟩ : ∃ m : Nat, c = m := ⟨c.toNat, by omega⟩
    have hm : m = 1 ∨ m = 2 ∨ m = 3 ∨ m = 4 ∨ m = 5 ∨ m = 6 ∨ m = 7 ∨ m = 8 ∨ m = 9 ∨ m = 10 := by omega
    rcases hm with rfl | rfl | rfl | rfl | rfl | rfl | rfl | rfl | rfl | rfl <;> omega
  have hmore : OkL 7 (l.map (c * ·)) := ⟨by rw [List.length_map]; exact hok.1, by rw [List.length_map]; exact hok.2.1, fun v hv => by
    obtain ⟨u, hu, rfl⟩ := List.mem_map.1 hv
    exact hmul u (hsm u hu)⟩
  have key : ∀ d i : Nat, i + d = l.length → Ev (fun k => wogglelaw05_TugSized.l0 k l (K : Int) ((l.take i).map (c * ·)) c (i : Int)) true := by
    intro d
    induction d with
    | zero =>
      intro i hi
      have e2 : l.take i = l := List.take_of_length_le (by omega)
      rw [e2]
      refine Ev.step (f := fun k => wogglelaw05_TugSized.l1 k c (numsS K l) true (numsS K (l.map (c * ·))) true 0) (fun k => ?_) (Sized_l1 c _ _ hc1 (nums_small hK1 (hok.widen (by omega))) (by simp [numsS]) (nums_scale hc1.1 hK1.1 hok))
      simp only [wogglelaw05_TugSized.l0]
      rw [if_neg (by omega), numbers_is (hok.widen (by omega)) hK1, Option.bind_some, numbers_is (hmore.widen (by omega)) hK1, Option.bind_some]
    | succ d ih =>
      intro i hi
      have q1 : (i : Int) < (l.length : Int) := by omega
      have q2 : (0 : Int) ≤ (i : Int) := Int.natCast_nonneg i
      have q3 : ((l.take i).map (c * ·)).length < 17592186044416 := by rw [List.length_map, List.length_take]; omega
      have e5 : wrap64 ((i : Int) + 1) = ((i + 1 : Nat) : Int) := by rw [wrapS (by omega)]; omega
      have := ih (i + 1) (by omega)
      rw [← take_snoc' l i (by omega), List.map_append] at this
      have hv := hmul _ (hsm _ (getD_mem (l := l) (i := i) (by omega)))
      have e4 : wrap64 (c * rd l (i : Int)) = c * l.getD i 0 := wrapS (by rw [rdN]; omega)
      refine Ev.step (fun k => ?_) this
      simp only [wogglelaw05_TugSized.l0]
      rw [if_pos q1, if_pos q2, if_pos q3, e4, e5]
      rfl
  exact key l.length 0 (by omega)
theorem TugSized_pure : wogglelaw05_TugSized.Pure := by
  intro l0 a1 a2 h1 h2 h3 h4 h5
  exact (TugSized_ev l0 a1 a2 (u16_made h3) (u8_nat h4) (u8_nat h5)).rounds
end Go.Proofs.Ytepgcdjbhmpioaa.Fi
