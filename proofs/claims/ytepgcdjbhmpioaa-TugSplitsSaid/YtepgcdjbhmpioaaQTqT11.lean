/- The least difference in plain words: it depends neither on the order nor, but for the factor, on the scale; differencing is never less, and the same for at most 4 pulls. -/
import Derived.Test.YtepgcdjbhmpioaaQTqT10
namespace Go.Proofs.Ytepgcdjbhmpioaa.Fi
open Go.RowKit Go.Proofs.YtepgcdjbhmpioaaW.PrintWords Go.Proofs.YtepgcdjbhmpioaaW.PrintLast Go.Proofs.YtepgcdjbhmpioaaW.PrintMore
set_option linter.unusedVariables false
/-- A rule that does not look at the order, nor at which side is which. -/
structure Fair (may : List Int → Bool) : Prop where
  perm : ∀ {s t : List Int}, s.Perm t → may s = may t
  flip : ∀ {s : List Int}, Bits s → may (flipS s) = may s
theorem fair_any : Fair anyS := ⟨fun _ => rfl, fun _ => rfl⟩
theorem flipS_sum : ∀ s : List Int, (flipS s).sum = s.length - s.sum
  | [] => rfl
  | b :: s => by
    have ih := flipS_sum s
    unfold flipS at *
    rw [List.map_cons, List.sum_cons, List.sum_cons, ih, List.length_cons]
    omega
theorem fair_ev : Fair evS := ⟨fun h => by unfold evS; rw [perm_sum h, h.length_eq], fun {s} _ => by
  unfold evS
  rw [flipS_sum, show (flipS s).length = s.length by simp [flipS], decide_eq_decide]
  omega⟩
/-- The least difference of any sides that a rule allows. -/
structure IsMin (may : List Int → Bool) (p : List Int) (d : Int) : Prop where
  got : ∃ s, Bits s ∧ s.length = p.length ∧ may s = true ∧ diffS p s = d
  least : ∀ s, Bits s → s.length = p.length → may s = true → d ≤ diffS p s
theorem find_min {may : List Int → Bool} (hf : Fair may) {p : List Int} (hp : 1 ≤ p.length) (hex : ∃ s, Sd p.length s ∧ may s = true) : IsMin may p (findS may p).1 := by
  obtain ⟨h1, h2, h3, h4⟩ := findS_spec hp hex
  refine ⟨⟨_, h1.2.1, h1.1, h2, h3.symm⟩, fun s hb hl hm => ?_⟩
  by_cases h0 : s.getD 0 0 = 0
  · exact h4 s ⟨hl, hb, h0⟩ hm
  · rw [← diffS_flip]
    refine h4 _ ⟨by simp [flipS, hl], flipS_bits hb, ?_⟩ ((hf.flip hb).trans hm)
    have hpos : 0 < s.length := by omega
    have := hb _ (getD_mem hpos)
    unfold flipS
    rw [List.getD_eq_getElem?_getD] at this h0 ⊢
    rw [List.getElem?_map]
    rw [List.getElem?_eq_getElem hpos] at this h0 ⊢
    simp only [Option.getD_some, Option.map_some] at this h0 ⊢
    omega
/-- Sides of the same pulls in another order. -/
theorem perm_sides {p q : List Int} (h : p.Perm q) : ∀ s : List Int, s.length = p.length → ∃ t : List Int, t.length = q.length ∧ t.Perm s ∧ sgn q t = sgn p s := by
  induction h with
  | nil => exact fun s hs => ⟨s, hs, List.Perm.refl _, rfl⟩
  | cons x _ ih =>
    intro s hs
    cases s with
    | nil => simp at hs
    | cons b s =>
      obtain ⟨t, h1, h2, h3⟩ := ih s (by simpa using hs)
      exact ⟨b :: t, by simp [h1], h2.cons b, by rw [sgn, sgn, h3]⟩
  | swap x y l =>
    intro s hs
    match s, hs with
    | b :: c :: s, hs =>
      refine ⟨c :: b :: s, by simpa using hs, List.Perm.swap _ _ _, ?_⟩
      simp only [sgn]
      omega
    | [_], hs => simp at hs
    | [], hs => simp at hs
  | trans _ _ ih1 ih2 =>
    intro s hs
    obtain ⟨t, a1, a2, a3⟩ := ih1 s hs
    obtain ⟨u, b1, b2, b3⟩ := ih2 t a1
    exact ⟨u, b1, b2.trans a2, b3.trans a3⟩
theorem bits_perm {s t : List Int} (h : t.Perm s) (hs : Bits s) : Bits t := fun b hb => hs b (h.mem_iff.1 hb)
theorem IsMin.perm {may : List Int → Bool} (hf : Fair may) {p q : List Int} {d : Int} (h : IsMin may p d) (hp : p.Perm q) : IsMin may q d := by
  obtain ⟨⟨s, a1, a2, a3, a4⟩, h2⟩ := h
  refine ⟨?_, fun s b1 b2 b3 => ?_⟩
  · obtain ⟨t, c1, c2, c3⟩ := perm_sides hp s a2
    exact ⟨t, bits_perm c2 a1, c1, (hf.perm c2).trans a3, by rw [← a4]; unfold diffS; rw [c3]⟩
  · obtain ⟨t, c1, c2, c3⟩ := perm_sides hp.symm s b2
    have := h2 t (bits_perm c2 b1) c1 ((hf.perm c2).trans b3)
    unfold diffS at this ⊢
    rwa [c3] at this
/-- Sides that change from pull to pull. -/
def altS : Nat → List Int
  | 0 => []
  | 1 => [0]
  | n + 2 => 0 :: 1 :: altS n
theorem altS_ok : ∀ n, (altS n).length = n ∧ Bits (altS n) ∧ 0 ≤ (n : Int) - 2 * (altS n).sum ∧ (n : Int) - 2 * (altS n).sum ≤ 1
  | 0 => ⟨rfl, fun b hb => (by simp [altS] at hb), by simp [altS], by simp [altS]⟩
  | 1 => ⟨rfl, fun b hb => (by simp [altS] at hb; exact .inl hb), by simp [altS], by simp [altS]⟩
  | n + 2 => by
    obtain ⟨h1, h2, h3, h4⟩ := altS_ok n
    simp only [altS, List.length_cons, List.sum_cons]
    refine ⟨by omega, fun b hb => ?_, by omega, by omega⟩
    rcases List.mem_cons.1 hb with rfl | hb
    · exact .inl rfl
    · rcases List.mem_cons.1 hb with rfl | hb
      · exact .inr rfl
      · exact h2 b hb
theorem altS_sd {n : Nat} (h : 1 ≤ n) : Sd n (altS n) ∧ evS (altS n) = true := by
  obtain ⟨h1, h2, h3, h4⟩ := altS_ok n
  refine ⟨⟨h1, h2, ?_⟩, ?_⟩
  · match n, h with
    | 1, _ => rfl
    | n + 2, _ => rfl
  · unfold evS
    rw [decide_eq_true_iff, h1]
    omega
theorem find_any {p : List Int} (hp : 1 ≤ p.length) : IsMin anyS p (findS anyS p).1 := find_min fair_any hp ⟨_, (altS_sd hp).1, rfl⟩
theorem find_even {p : List Int} (hp : 1 ≤ p.length) : IsMin evS p (findS evS p).1 := find_min fair_ev hp ⟨_, (altS_sd hp).1, (altS_sd hp).2⟩
theorem find_any_spec {p : List Int} (hp : 1 ≤ p.length) : Sd p.length (findS anyS p).2 ∧ anyS (findS anyS p).2 = true ∧ (findS anyS p).1 = diffS p (findS anyS p).2 ∧ ∀ s, Sd p.length s → anyS s = true → (findS anyS p).1 ≤ diffS p s := findS_spec (may := anyS) hp ⟨_, (altS_sd hp).1, rfl⟩
theorem find_even_spec {p : List Int} (hp : 1 ≤ p.length) : Sd p.length (findS evS p).2 ∧ evS (findS evS p).2 = true ∧ (findS evS p).1 = diffS p (findS evS p).2 ∧ ∀ s, Sd p.length s → evS s = true → (findS evS p).1 ≤ diffS p s := findS_spec (may := evS) hp ⟨_, (altS_sd hp).1, (altS_sd hp).2⟩
theorem IsMin.nonneg {may : List Int → Bool} {p : List Int} {d : Int} (h : IsMin may p d) : 0 ≤ d := by
  obtain ⟨s, _, _, _, h⟩ := h.got
  rw [← h]
  exact diffS_nonneg p s
end Go.Proofs.Ytepgcdjbhmpioaa.Fi
