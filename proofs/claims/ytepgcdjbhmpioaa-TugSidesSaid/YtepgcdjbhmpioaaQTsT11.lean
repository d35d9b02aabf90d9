/- The least difference in plain words: it depends neither on the order nor, but for the factor, on the scale; differencing is never less, and the same for at most 4 pulls. -/
import Derived.Test.YtepgcdjbhmpioaaQTsT10
namespace Go.Proofs.Ytepgcdjbhmpioaa.Fi
open Go.RowKit Go.Proofs.YtepgcdjbhmpioaaW.PrintWords Go.Proofs.YtepgcdjbhmpioaaW.PrintLast Go.Proofs.YtepgcdjbhmpioaaW.PrintMore
set_option linter.unusedVariables false
/-- A rule that does not look at the order, nor at which side is which. -/
structure Fair (may : List Int → Bool) : Prop where
  perm : ∀ {s t : List Int}, s.Perm t → may s = may t
  flip : ∀ {s : List Int}, Bits s → may (flipS s) = may s
theorem fair_any : Fair anyS := ⟨fun _ => rfl, fun _ => rfl⟩
/-- The least difference of any sides that a rule allows. -/
structure IsMin (may : List Int → Bool) (p : List Int) (d : Int) : Prop where
  got : ∃ s, Bits s ∧ s.length = p.length ∧ may s = true ∧ diffS p s = d
  least : ∀ s, Bits s → s.length = p.length → may s = true → d ≤ diffS p s
theorem find_min {may : List Int → Bool} (hf : Fair may) {p : List Int} (hp : 1 ≤ p.length) (hex : ∃ s, Sd p.length s ∧ may s = true) : IsMin may p (findS may p).1 := by
  obtain ⟨h1, h2, h3, h4⟩ := findS_spec hp hex
  refine ⟨⟨_, h1.2.1, h1.1, h2, h3.symm⟩, fun s hb hl hm => ?_⟩
  by_cases h0 : s.getD 0 0 = 0
  · exact h4 s ⟨hl, hb, h0⟩ hm
  · rw [← diffS_flip]
    refine h4 _ ⟨by simp [flipS, hl], flipS_bits hb, ?_⟩ ((hf.flip hb).trans hm)
    have hpos : 0 < s.length := by omega
    have := hb _ (getD_mem hpos)
    unfold flipS
    rw [List.getD_eq_getElem?_getD] at this h0 ⊢
    rw [List.getElem?_map]
    rw [List.getElem?_eq_getElem hpos] at this h0 ⊢
    simp only [Option.getD_some, Option.map_some] at this h0 ⊢
    omega
/-- Sides of the same pulls in another order. -/
theorem perm_sides {p q : List Int} (h : p.Perm q) : ∀ s : List Int, s.length = p.length → ∃ t : List Int, t.length = q.length ∧ t.Perm s ∧ sgn q t = sgn p s := by
  induction h with
  | nil => exact fun s hs => ⟨s, hs, List.Perm.refl _, rfl⟩
  | cons x _ ih =>
    intro s hs
    cases s with
    | nil => simp at hs
    | cons b s =>
      obtain ⟨t, h1, h2, h3⟩ := ih s (by simpa using hs)
      exact ⟨b :: t, by simp [h1], h2.cons b, by rw [sgn, sgn, h3]⟩
  | swap x y l =>
    intro s hs
    match s, hs with
    | b :: c :: s, hs =>
      refine ⟨c :: b :: s, by simpa using hs, List.Perm.swap _ _ _, ?_⟩
      simp only [sgn]
      omega
    | [_], hs => simp at hs
    | [], hs => simp at hs
  | trans _ _ ih1 ih2 =>
    intro s hs
    obtain ⟨t, a1, a2, a3⟩ := ih1 s hs
    obtain ⟨u, b1, b2, b3⟩ := ih2 t a1
    exact ⟨u, b1, b2.trans a2, b3.trans a3⟩
theorem bits_perm {s t : List Int} (h : t.Perm s) (hs : Bits s) : Bits t := fun b hb => hs b (h.mem_iff.1 hb)
theorem IsMin.perm {may : List Int → Bool} (hf : Fair may) {p q : List Int} {d : Int} (h : IsMin may p d) (hp : p.Perm q) : IsMin may q d := by
  obtain ⟨⟨s, a1, a2, a3, a4⟩, h2⟩ := h
  refine ⟨?_, fun s b1 b2 b3 => ?_⟩
  · obtain ⟨t, c1, c2, c3⟩ := perm_sides hp s a2
    exact ⟨t, bits_perm c2 a1, c1, (hf.perm c2).trans a3, by rw [← a4]; unfold diffS; rw [c3]⟩
  · obtain ⟨t, c1, c2, c3⟩ := perm_sides hp.symm s b2
    have := h2 t (bits_perm c2 b1) c1 ((hf.perm c2).trans b3)
    unfold diffS at this ⊢
    rwa [c3] at this
/-- Sides that change from pull to pull. -/
def altS : Nat → List Int
  | 0 => []
  | 1 => [0]
  | n + 2 => 0 :: 1 :: altS n
theorem altS_ok : ∀ n, (altS n).length = n ∧ Bits (altS n) ∧ 0 ≤ (n : Int) - 2 * (altS n).sum ∧ (n : Int) - 2 * (altS n).sum ≤ 1
  | 0 => ⟨rfl, fun b hb => (by simp [altS] at hb), by simp [altS], by simp [altS]⟩
  | 1 => ⟨rfl, fun b hb => (by simp [altS] at hb; exact .inl hb), by simp [altS], by simp [altS]⟩
  | n + 2 => by
    obtain ⟨h1, h2, h3, h4⟩ := altS_ok n
    simp only [altS, List.length_cons, List.sum_cons]
    refine ⟨by omega, fun b hb => ?_, by omega, by omega⟩
    rcases List.mem_cons.1 hb with rfl | hb
    · exact .inl rfl
    · rcases List.mem_cons.1 hb with rfl | hb
      · exact .inr rfl
      · exact h2 b hb
theorem altS_sd {n : Nat} (h : 1 ≤ n) : Sd n (altS n) ∧ evS (altS n) = true := by
  obtain ⟨h1, h2, h3, h4⟩ := altS_ok n
  refine ⟨⟨h1, h2, ?_⟩, ?_⟩
  · match n, h with
    | 1, _ => rfl
    | n + 2, _ => rfl
  · unfold evS
    rw [decide_eq_true_iff, h1]
    omega
theorem find_any {p : List Int} (hp : 1 ≤ p.length) : IsMin anyS p (findS anyS p).1 := find_min fair_any hp ⟨_, (altS_sd hp).1, rfl⟩
theorem IsMin.nonneg {may : List Int → Bool} {p : List Int} {d : Int} (h : IsMin may p d) : 0 ≤ d := by
  obtain ⟨s, _, _, _, h⟩ := h.got
  rw [← h]
  exact diffS_nonneg p s
/-- Differencing is at least the least difference. -/
theorem kk_ge {l : List Int} (hl : 1 ≤ l.length) (hb : ∀ x ∈ l, 0 ≤ x) : (findS anyS l).1 ≤ (kkS l).1 := by
  obtain ⟨h1, h2, _⟩ := kkS_sides hl hb
  rw [← h2]
  exact (find_any hl).least _ h1.2.1 h1.1 rfl
theorem fall2 {a b : Int} (h : b ≤ a) : fallS [a, b] = [a, b] := fall_is (List.Perm.refl _) (by simp; omega)
theorem fall2' {a b : Int} (h : a ≤ b) : fallS [a, b] = [b, a] := fall_is (List.Perm.swap _ _ _) (by simp; omega)
theorem step2 (a b : Int) : (stepV [a, b]).getD 0 0 = max (a - b) (b - a) := by
  unfold stepV
  rcases Int.le_total b a with h | h
  · rw [fall2 h]
    show a - b = _
    omega
  · rw [fall2' h]
    show b - a = _
    omega
theorem step3 (c d x : Int) (h : d ≤ c) : stepV [c, d, x] = [d, x - c] ∧ c ≤ x ∨ stepV [c, d, x] = [d, c - x] ∧ d ≤ x ∧ x ≤ c ∨ stepV [c, d, x] = [x, c - d] ∧ x ≤ d := by
  unfold stepV
  rcases Int.le_total c x with h1 | h1
  · have e : fallS [c, d, x] = [x, c, d] := fall_is ((List.Perm.swap c x [d]).trans ((List.Perm.swap d x []).cons c)) (by simp; omega)
    rw [e]
    exact .inl ⟨rfl, h1⟩
  · rcases Int.le_total d x with h2 | h2
    · have e : fallS [c, d, x] = [c, x, d] := fall_is ((List.Perm.swap d x []).cons c) (by simp; omega)
      rw [e]
      exact .inr (.inl ⟨rfl, h2, h1⟩)
    · have e : fallS [c, d, x] = [c, d, x] := fall_is (List.Perm.refl _) (by simp; omega)
      rw [e]
      exact .inr (.inr ⟨rfl, h2⟩)
/-- For falling pulls, at most four, differencing is at most the difference of any sides. -/
theorem kkV_few : ∀ {l : List Int}, l.length ≤ 4 → 1 ≤ l.length → (∀ x ∈ l, 0 ≤ x) → (l.Pairwise fun x y => y ≤ x) → ∀ s, Bits s → s.length = l.length → kkV l ≤ diffS l s
  | [a], _, _, hb, _, [x], hs, _ => by
    have h1 := hs x (by simp)
    have h2 := hb a (by simp)
    unfold diffS
    simp only [sgn]
    show a ≤ _
    rcases h1 with rfl | rfl <;> omega
  | [a, b], _, _, hb, hp, [x, y], hs, _ => by
    have h1 := hs x (by simp)
    have h2 := hs y (by simp)
    have h3 := hb b (by simp)
    have h4 : b ≤ a := by simp at hp; exact hp
    unfold diffS
    simp only [sgn]
    show (stepV [a, b]).getD 0 0 ≤ _
    rw [step2]
    rcases h1 with rfl | rfl <;> rcases h2 with rfl | rfl <;> omega
  | [a, b, c], _, _, hb, hp, [x, y, z], hs, _ => by
    have h1 := hs x (by simp)
    have h2 := hs y (by simp)
    have h3 := hs z (by simp)
    have h4 := hb c (by simp)
    have h5 : b ≤ a ∧ c ≤ a ∧ c ≤ b := by simp at hp; exact ⟨hp.1.1, hp.1.2, hp.2⟩
    unfold diffS
    simp only [sgn]
    have e : stepV [a, b, c] = [c, a - b] := by
      unfold stepV
      rw [fall_is (List.Perm.refl _) hp]
      rfl
    show (stepV (stepV [a, b, c])).getD 0 0 ≤ _
    rw [e, step2]
    rcases h1 with rfl | rfl <;> rcases h2 with rfl | rfl <;> rcases h3 with rfl | rfl <;> omega
  | [a, b, c, d], _, _, hb, hp, [x, y, z, w], hs, _ => by
    have h1 := hs x (by simp)
    have h2 := hs y (by simp)
    have h3 := hs z (by simp)
    have h6 := hs w (by simp)
    have h4 := hb d (by simp)
    have h5 : b ≤ a ∧ c ≤ b ∧ d ≤ c := by simp at hp; exact ⟨hp.1.1, hp.2.1.1, hp.2.2⟩
    unfold diffS
    simp only [sgn]
    have e : stepV [a, b, c, d] = [c, d, a - b] := by
      unfold stepV
      rw [fall_is (List.Perm.refl _) hp]
      rfl
    show (stepV (stepV (stepV [a, b, c, d]))).getD 0 0 ≤ _
    rw [e]
    rcases step3 c d (a - b) h5.2.2 with ⟨e2, g⟩ | ⟨e2, g⟩ | ⟨e2, g⟩ <;> rw [e2, step2] <;> rcases h1 with rfl | rfl <;> rcases h2 with rfl | rfl <;> rcases h3 with rfl | rfl <;> rcases h6 with rfl | rfl <;> omega
  | [], _, h, _, _, _, _, _ => by simp at h
  | _ :: _ :: _ :: _ :: _ :: _, h, _, _, _, _, _, _ => by simp at h
  | [_], _, _, _, _, [], _, h => by simp at h
  | [_], _, _, _, _, _ :: _ :: _, _, h => by simp at h
  | [_, _], _, _, _, _, [], _, h => by simp at h
  | [_, _], _, _, _, _, [_], _, h => by simp at h
  | [_, _], _, _, _, _, _ :: _ :: _ :: _, _, h => by simp at h
  | [_, _, _], _, _, _, _, [], _, h => by simp at h
  | [_, _, _], _, _, _, _, [_], _, h => by simp at h
  | [_, _, _], _, _, _, _, [_, _], _, h => by simp at h
  | [_, _, _], _, _, _, _, _ :: _ :: _ :: _ :: _, _, h => by simp at h
  | [_, _, _, _], _, _, _, _, [], _, h => by simp at h
  | [_, _, _, _], _, _, _, _, [_], _, h => by simp at h
  | [_, _, _, _], _, _, _, _, [_, _], _, h => by simp at h
  | [_, _, _, _], _, _, _, _, [_, _, _], _, h => by simp at h
  | [_, _, _, _], _, _, _, _, _ :: _ :: _ :: _ :: _ :: _, _, h => by simp at h
theorem kk_few {l : List Int} (hl : 1 ≤ l.length) (h4 : l.length ≤ 4) (hb : ∀ x ∈ l, 0 ≤ x) : (kkS l).1 = (findS anyS l).1 := by
  refine Int.le_antisymm ?_ (kk_ge hl hb)
  rw [kk_worth hl hb, ← kkV_perm (fall_perm l)]
  have hf := (find_any hl).perm fair_any (fall_perm l).symm
  obtain ⟨s, a1, a2, _, a4⟩ := hf.got
  have hlen := (fall_perm l).length_eq
  rw [← a4]
  exact kkV_few (by omega) (by omega) (fun x hx => hb x ((fall_perm l).mem_iff.1 hx)) (fall_sorted l) s a1 a2
end Go.Proofs.Ytepgcdjbhmpioaa.Fi
