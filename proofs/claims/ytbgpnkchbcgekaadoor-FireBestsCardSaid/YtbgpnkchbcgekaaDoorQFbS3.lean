/- Plain words: the recursion of the best plan ends; the closure of a set. No program is in sight here. -/
import Derived.Test.YtbgpnkchbcgekaaDoorQFbS2
namespace Wog
set_option linter.unusedVariables false
/-- The members below n that a set lacks. -/
def zer (n s : Nat) : Nat := (List.range n).countP (fun i => !s.testBit i)
theorem zer_le (n s : Nat) : zer n s ≤ n := Nat.le_trans List.countP_le_length (by simp)
theorem countP_lt {l : List Nat} {p q : Nat → Bool} (h : ∀ i ∈ l, p i = true → q i = true) {j : Nat} (hj : j ∈ l) (h1 : p j = false) (h2 : q j = true) : l.countP p < l.countP q := by
  induction l with
  | nil => cases hj
  | cons a l ih =>
    rw [List.countP_cons, List.countP_cons]
    have hm : l.countP p ≤ l.countP q := List.countP_mono_left (fun i hi => h i (by simp [hi]))
    rcases List.mem_cons.1 hj with rfl | hj
    · simp [h1, h2]; omega
    · have := ih (fun i hi => h i (by simp [hi])) hj
      by_cases ha : p a = true
      · simp [ha, h a (by simp) ha]; omega
      · simp [ha]; omega
theorem zer_lt {n s t : Nat} (h : ∀ i, s.testBit i = true → t.testBit i = true) (hs : s < 2 ^ n) (ht : t < 2 ^ n) (hne : t ≠ s) : zer n t < zer n s := by
  have : ∃ j, j < n ∧ t.testBit j = true ∧ s.testBit j = false := by
    apply Classical.byContradiction
    intro hno
    apply hne
    refine ext_lt ht hs (fun i hi => ?_)
    cases h1 : s.testBit i with
    | true => exact h i h1
    | false =>
      cases h2 : t.testBit i with
      | false => rfl
      | true => exact absurd ⟨i, hi, h2, h1⟩ hno
  obtain ⟨j, hj, h1, h2⟩ := this
  refine countP_lt (j := j) (fun i _ h3 => ?_) (List.mem_range.2 hj) (by simp [h1]) (by simp [h2])
  cases h4 : s.testBit i with
  | false => rfl
  | true => simp [h i h4] at h3
/-- Nothing is burning that is defended. -/
def disj (s D : Nat) : Prop := ∀ i, s.testBit i = true → D.testBit i = false
theorem disj_diff (a D : Nat) : disj (diff a D) D := by
  intro i h
  rw [testBit_diff, Bool.and_eq_true] at h
  simpa using h.2
theorem step_sup {nx : List Nat} {s D : Nat} (h : disj s D) (i : Nat) (hi : s.testBit i = true) : (diff (arnd nx s) D).testBit i = true := by
  rw [testBit_diff, h i hi, (arnd_bit_iff nx s i).2 (.inl hi)]
  rfl
theorem cloF_some {nx : List Nat} {D : Nat} (hx : ∀ x ∈ nx, x < 2 ^ nx.length) : ∀ (m s : Nat), s < 2 ^ nx.length → disj s D → zer nx.length s ≤ m → ∃ R, cloF nx D (m + 1) s = some R ∧ R < 2 ^ nx.length ∧ disj R D := by
  intro m
  induction m with
  | zero =>
    intro s hs hd hz
    refine ⟨s, ?_, hs, hd⟩
    rw [cloF, if_pos]
    apply Classical.byContradiction
    intro hne
    have := zer_lt (n := nx.length) (step_sup hd) hs (diff_le _ D _ (arnd_lt hx hs)) hne
    omega
  | succ m ih =>
    intro s hs hd hz
    rw [cloF]
    by_cases e : diff (arnd nx s) D = s
    · rw [if_pos e]; exact ⟨s, rfl, hs, hd⟩
    · rw [if_neg e]
      have := zer_lt (n := nx.length) (step_sup hd) hs (diff_le _ D _ (arnd_lt hx hs)) e
      exact ih _ (diff_le _ D _ (arnd_lt hx hs)) (disj_diff _ _) (by omega)
theorem cloF_le {nx : List Nat} {D : Nat} {k k' s r : Nat} (hk : k ≤ k') (h : cloF nx D k s = some r) : cloF nx D k' s = some r := by
  obtain ⟨d, rfl⟩ := Nat.exists_eq_add_of_le hk
  clear hk
  induction d with
  | zero => exact h
  | succ d ih => exact cloF_mono nx D _ _ _ ih
theorem foldl_stepO_some {rec : Nat → Nat → Option (Int × List Int)} {nx : List Nat} {B D : Nat} {L : List Nat} (hr : ∀ d ∈ L, (B ||| D).testBit d = false → ∃ r, rec (diff (arnd nx B) (D ||| 2 ^ d)) (D ||| 2 ^ d) = some r) :
    ∀ out, ∃ r, L.foldl (stepO rec nx B D) (some out) = some r := by
  induction L with
  | nil => intro out; exact ⟨out, rfl⟩
  | cons d L ih =>
    intro out
    rw [List.foldl_cons]
    by_cases hb : (B ||| D).testBit d = true
    · rw [show stepO rec nx B D (some out) d = some out by simp [stepO, hb]]
      exact ih (fun d' h => hr d' (by simp [h])) out
    · rw [Bool.not_eq_true] at hb
      obtain ⟨p, hp⟩ := hr d (by simp) hb
      rw [show stepO rec nx B D (some out) d = some (pick (p.1, (d : Int) :: p.2) out) by simp [stepO, hb, hp]]
      exact ih (fun d' h => hr d' (by simp [h])) _
theorem bestF_some {nx : List Nat} (hx : ∀ x ∈ nx, x < 2 ^ nx.length) : ∀ (m B D : Nat), B < 2 ^ nx.length → D < 2 ^ nx.length → disj B D → zer nx.length D ≤ m → ∃ r, bestF nx (m + nx.length + 1) B D = some r := by
  intro m
  induction m with
  | zero =>
    intro B D hB hD hd hz
    obtain ⟨R, hR, _, _⟩ := cloF_some hx nx.length B hB hd (zer_le _ _)
    rw [Nat.zero_add, bestF, hR, Option.bind_some]
    split
    · exact ⟨_, rfl⟩
    · refine foldl_stepO_some (fun d hdm hb => ?_) _
      exfalso
      have h1 := countP_lt (l := List.range nx.length) (p := fun _ => false) (q := fun i => !D.testBit i) (j := d) (by simp) hdm rfl (by rw [Nat.testBit_or, Bool.or_eq_false_iff] at hb; simp [hb.2])
      unfold zer at hz
      omega
  | succ m ih =>
    intro B D hB hD hd hz
    obtain ⟨R, hR, _, _⟩ := cloF_some hx nx.length B hB hd (zer_le _ _)
    rw [show m + 1 + nx.length + 1 = (m + nx.length + 1) + 1 by omega, bestF, cloF_le (by omega) hR, Option.bind_some]
    split
    · exact ⟨_, rfl⟩
    · refine foldl_stepO_some (fun d hdm hb => ?_) _
      have hdn : d < nx.length := by simpa using hdm
      have hlD : D ||| 2 ^ d < 2 ^ nx.length := Nat.or_lt_two_pow hD (Nat.pow_lt_pow_right (by omega) hdn)
      refine ih _ _ (diff_le _ _ _ (arnd_lt hx hB)) hlD (disj_diff _ _) ?_
      have : zer nx.length (D ||| 2 ^ d) < zer nx.length D := by
        refine zer_lt (fun i hi => by rw [Nat.testBit_or, hi]; rfl) hD hlD (fun e => ?_)
        rw [Nat.testBit_or, Bool.or_eq_false_iff] at hb
        have h2 : (D ||| 2 ^ d).testBit d = true := by rw [Nat.testBit_or, testBit_two_pow]; simp
        rw [e, hb.2] at h2
        cases h2
      omega
/-- What starts to burn in a round. -/
def moreS (nx : List Nat) (B D : Nat) : Nat := diff (diff (arnd nx B) B) D
/-- The rounds without a further defence. -/
def playN (nx : List Nat) : Nat → Nat → Nat → List Nat
  | 0, _, _ => []
  | k + 1, B, D => if moreS nx B D = 0 then [] else moreS nx B D :: playN nx k (B ||| moreS nx B D) D
/-- The rounds of a plan; none: it is no plan. -/
def playS (nx : List Nat) : List Int → Nat → Nat → Option (List Nat)
  | [], B, D => some (playN nx nx.length B D)
  | d :: p, B, D => if 0 ≤ d ∧ d < nx.length ∧ (B ||| D).testBit d.toNat = false then (playS nx p (B ||| moreS nx B (D ||| 2 ^ d.toNat)) (D ||| 2 ^ d.toNat)).map fun o => if moreS nx B (D ||| 2 ^ d.toNat) = 0 then o else moreS nx B (D ||| 2 ^ d.toNat) :: o else none
theorem moreS_lt {nx : List Nat} (hx : ∀ x ∈ nx, x < 2 ^ nx.length) {B : Nat} (hB : B < 2 ^ nx.length) (D : Nat) : moreS nx B D < 2 ^ nx.length := diff_le _ _ _ (diff_le _ _ _ (arnd_lt hx hB))
theorem moreS_bit (nx : List Nat) (B D i : Nat) : (moreS nx B D).testBit i = ((arnd nx B).testBit i && !B.testBit i && !D.testBit i) := by
  unfold moreS
  rw [testBit_diff, testBit_diff]
theorem zer_more {nx : List Nat} (hx : ∀ x ∈ nx, x < 2 ^ nx.length) {B : Nat} (hB : B < 2 ^ nx.length) {D : Nat} (h : moreS nx B D ≠ 0) : zer nx.length (B ||| moreS nx B D) < zer nx.length B := by
  refine zer_lt (fun i hi => by rw [Nat.testBit_or, hi]; rfl) hB (Nat.or_lt_two_pow hB (moreS_lt hx hB D)) (fun e => h (zero_of_bits (fun i => ?_)))
  cases hi : (moreS nx B D).testBit i with
  | false => rfl
  | true =>
    have h1 : (B ||| moreS nx B D).testBit i = true := by rw [Nat.testBit_or, hi]; simp
    rw [e] at h1
    rw [moreS_bit, h1] at hi
    simp at hi
theorem zer_zero {nx : List Nat} (hx : ∀ x ∈ nx, x < 2 ^ nx.length) {B : Nat} (hB : B < 2 ^ nx.length) (D : Nat) (h : zer nx.length B = 0) : moreS nx B D = 0 := by
  apply Classical.byContradiction
  intro hne
  have := zer_more hx hB hne
  omega
theorem playN_step {nx : List Nat} (hx : ∀ x ∈ nx, x < 2 ^ nx.length) : ∀ (k : Nat) (B D : Nat), B < 2 ^ nx.length → zer nx.length B ≤ k → playN nx (k + 1) B D = playN nx k B D := by
  intro k
  induction k with
  | zero =>
    intro B D hB hz
    show (if moreS nx B D = 0 then [] else moreS nx B D :: playN nx 0 (B ||| moreS nx B D) D) = []
    rw [if_pos (zer_zero hx hB D (Nat.le_zero.1 hz))]
  | succ k ih =>
    intro B D hB hz
    rw [playN]
    conv => rhs; rw [playN]
    by_cases h : moreS nx B D = 0
    · rw [if_pos h, if_pos h]
    · rw [if_neg h, if_neg h, ih _ D (Nat.or_lt_two_pow hB (moreS_lt hx hB D)) (by have := zer_more hx hB h; omega)]
theorem playN_unfold {nx : List Nat} (hx : ∀ x ∈ nx, x < 2 ^ nx.length) {B D : Nat} (hB : B < 2 ^ nx.length) : playN nx nx.length B D = if moreS nx B D = 0 then [] else moreS nx B D :: playN nx nx.length (B ||| moreS nx B D) D := by
  rw [← playN_step hx _ B D hB (zer_le _ _), playN]
end Wog
