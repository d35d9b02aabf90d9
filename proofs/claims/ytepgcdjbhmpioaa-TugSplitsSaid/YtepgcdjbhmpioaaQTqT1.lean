/- Plain words of tug: sides, differences, the least difference. -/
import Derived.Test.YtepgcdjbhmpioaaQTqWSized
namespace Go.Proofs.Ytepgcdjbhmpioaa.Fi
set_option linter.unusedVariables false
/-- The signed sum of pulls. -/
def sgn : List Int → List Int → Int
  | x :: p, b :: s => x * (1 - 2 * b) + sgn p s
  | _, _ => 0
def diffS (p s : List Int) : Int := max (sgn p s) (-(sgn p s))
def sidesS (n set : Nat) : List Int := (List.range n).map fun i => (((set >>> (n - 1 - i)) % 2 : Nat) : Int)
def Bits (s : List Int) : Prop := ∀ b ∈ s, b = 0 ∨ b = 1
/-- Sides of n pulls: the first one is 0. -/
def Sd (n : Nat) (s : List Int) : Prop := s.length = n ∧ Bits s ∧ s.getD 0 0 = 0
theorem sidesS_length (n set : Nat) : (sidesS n set).length = n := by simp [sidesS]
theorem sidesS_bits (n set : Nat) : Bits (sidesS n set) := by
  intro b hb
  obtain ⟨i, _, rfl⟩ := List.mem_map.1 hb
  have := Nat.mod_lt (set >>> (n - 1 - i)) (show 2 > 0 by omega)
  omega
theorem sidesS_get (n set i : Nat) (hi : i < n) : (sidesS n set).getD i 0 = (((set >>> (n - 1 - i)) % 2 : Nat) : Int) := by
  rw [List.getD_eq_getElem?_getD, List.getElem?_eq_getElem (by rw [sidesS_length]; exact hi)]
  simp [sidesS]
theorem sidesS_sd {n set : Nat} (hn : 1 ≤ n) (h : set < 2 ^ (n - 1)) : Sd n (sidesS n set) := by
  refine ⟨sidesS_length _ _, sidesS_bits _ _, ?_⟩
  rw [sidesS_get n set 0 (by omega), Nat.shiftRight_eq_div_pow, Nat.sub_zero, Nat.div_eq_of_lt h]
  rfl
/-- The number of sides. -/
def numS : List Int → Nat
  | [] => 0
  | b :: s => b.toNat * 2 ^ s.length + numS s
theorem numS_lt : ∀ {s : List Int}, Bits s → numS s < 2 ^ s.length
  | [], _ => by simp [numS]
  | b :: s, h => by
    have ih := numS_lt (s := s) (fun x hx => h x (by simp [hx]))
    have hb := h b (by simp)
    rw [numS, List.length_cons, Nat.pow_succ]
    rcases hb with rfl | rfl
    · simp; omega
    · simp; omega
theorem sidesS_numS : ∀ {s : List Int}, Bits s → sidesS s.length (numS s) = s := by
  intro s hs
  apply List.ext_getElem
  · rw [sidesS_length]
  · intro i h1 h2
    have key : ∀ (s : List Int), Bits s → ∀ i (h : i < s.length), (((numS s >>> (s.length - 1 - i)) % 2 : Nat) : Int) = s[i] := by
      intro s
      induction s with
      | nil => intro _ i h; simp at h
      | cons b s ih =>
        intro hs i h
        have hs' : Bits s := fun x hx => hs x (by simp [hx])
        have hl := numS_lt hs'
        have hb := hs b (by simp)
        cases i with
        | zero =>
          simp only [numS, List.length_cons, Nat.add_sub_cancel, Nat.sub_zero, List.getElem_cons_zero]
          rw [Nat.shiftRight_eq_div_pow, Nat.mul_comm, Nat.mul_add_div (Nat.two_pow_pos _), Nat.div_eq_of_lt hl]
          rcases hb with rfl | rfl <;> rfl
        | succ i =>
          have h' : i < s.length := by simpa using h
          have := ih hs' i h'
          simp only [numS, List.length_cons, Nat.add_sub_cancel, List.getElem_cons_succ]
          rw [← this, show s.length - (i + 1) = s.length - 1 - i by omega]
          congr 1
          rw [Nat.shiftRight_eq_div_pow, Nat.shiftRight_eq_div_pow]
          have e : b.toNat * 2 ^ s.length = 2 ^ (s.length - 1 - i) * (b.toNat * 2 ^ i * 2) := by
            obtain ⟨m, hm⟩ : ∃ m, m = s.length - 1 - i := ⟨_, rfl⟩
            rw [← hm, show s.length = m + (i + 1) by omega, Nat.pow_add, Nat.pow_succ]
            ac_rfl
          rw [e, Nat.mul_add_div (Nat.two_pow_pos _)]
          omega
    have := key s hs i h2
    rw [← this]
    simp [sidesS]
theorem sd_num {n : Nat} {s : List Int} (hn : 1 ≤ n) (h : Sd n s) : ∃ set, set < 2 ^ (n - 1) ∧ sidesS n set = s := by
  obtain ⟨h1, h2, h3⟩ := h
  refine ⟨numS s, ?_, by rw [← h1]; exact sidesS_numS h2⟩
  cases s with
  | nil => simp at h1; omega
  | cons b s =>
    have hb : b = 0 := h3
    subst hb
    have := numS_lt (s := s) (fun x hx => h2 x (by simp [hx]))
    simp only [List.length_cons] at h1
    simp only [numS]
    rw [show n - 1 = s.length by omega]
    simpa using this
/-- One more sides: kept if the rule allows them and their difference is less. -/
def pickS (may : List Int → Bool) (p : List Int) (acc : Int × List Int) (l : List Int) : Int × List Int := if may l = true ∧ (acc.1 < 0 ∨ diffS p l < acc.1) then (diffS p l, l) else acc
def findS (may : List Int → Bool) (p : List Int) : Int × List Int := (List.range (2 ^ (p.length - 1))).foldl (fun acc set => pickS may p acc (sidesS p.length set)) (-1, [])
theorem diffS_nonneg (p s : List Int) : 0 ≤ diffS p s := by unfold diffS; omega
/-- What the search holds after some sides. -/
def Held (may : List Int → Bool) (p : List Int) (m : Nat) (acc : Int × List Int) : Prop :=
  (acc = (-1, []) ∧ ∀ set, set < m → may (sidesS p.length set) = false) ∨
  (∃ set, set < m ∧ may (sidesS p.length set) = true ∧ acc = (diffS p (sidesS p.length set), sidesS p.length set) ∧ ∀ t, t < m → may (sidesS p.length t) = true → acc.1 ≤ diffS p (sidesS p.length t))
theorem held_step {may : List Int → Bool} {p : List Int} {m : Nat} {acc : Int × List Int} (h : Held may p m acc) : Held may p (m + 1) (pickS may p acc (sidesS p.length m)) := by
  unfold pickS
  by_cases hm : may (sidesS p.length m) = true
  · rcases h with ⟨rfl, h⟩ | ⟨set, h1, h2, rfl, h4⟩
    · rw [if_pos ⟨hm, .inl (by decide)⟩]
      refine .inr ⟨m, by omega, hm, rfl, fun t ht hmt => ?_⟩
      rcases Nat.lt_or_ge t m with h5 | h5
      · rw [h t h5] at hmt; cases hmt
      · obtain rfl : t = m := by omega
        exact Int.le_refl _
    · by_cases hlt : diffS p (sidesS p.length m) < diffS p (sidesS p.length set)
      · rw [if_pos ⟨hm, .inr hlt⟩]
        refine .inr ⟨m, by omega, hm, rfl, fun t ht hmt => ?_⟩
        rcases Nat.lt_or_ge t m with h5 | h5
        · have := h4 t h5 hmt
          simp only at this ⊢
          omega
        · obtain rfl : t = m := by omega
          exact Int.le_refl _
      · rw [if_neg (fun h => h.2.elim (fun h => by have := diffS_nonneg p (sidesS p.length set); simp only at h; omega) hlt)]
        refine .inr ⟨set, by omega, h2, rfl, fun t ht hmt => ?_⟩
        rcases Nat.lt_or_ge t m with h5 | h5
        · exact h4 t h5 hmt
        · obtain rfl : t = m := by omega
          simp only
          omega
  · rw [if_neg (fun h => hm h.1)]
    rw [Bool.not_eq_true] at hm
    rcases h with ⟨rfl, h⟩ | ⟨set, h1, h2, rfl, h4⟩
    · refine .inl ⟨rfl, fun t ht => ?_⟩
      rcases Nat.lt_or_ge t m with h5 | h5
      · exact h t h5
      · obtain rfl : t = m := by omega
        exact hm
    · refine .inr ⟨set, by omega, h2, rfl, fun t ht hmt => ?_⟩
      rcases Nat.lt_or_ge t m with h5 | h5
      · exact h4 t h5 hmt
      · obtain rfl : t = m := by omega
        rw [hm] at hmt; cases hmt
theorem held_fold (may : List Int → Bool) (p : List Int) : ∀ m, Held may p m ((List.range m).foldl (fun acc set => pickS may p acc (sidesS p.length set)) (-1, []))
  | 0 => .inl ⟨rfl, fun t ht => absurd ht (by omega)⟩
  | m + 1 => by
    rw [List.range_succ, List.foldl_append]
    exact held_step (held_fold may p m)
/-- The search finds sides that the rule allows, and none of these have a smaller difference. -/
theorem findS_spec {may : List Int → Bool} {p : List Int} (hp : 1 ≤ p.length) (hex : ∃ s, Sd p.length s ∧ may s = true) :
    Sd p.length (findS may p).2 ∧ may (findS may p).2 = true ∧ (findS may p).1 = diffS p (findS may p).2 ∧ ∀ s, Sd p.length s → may s = true → (findS may p).1 ≤ diffS p s := by
  obtain ⟨s0, hs0, hm0⟩ := hex
  obtain ⟨t0, ht0, rfl⟩ := sd_num hp hs0
  rcases held_fold may p (2 ^ (p.length - 1)) with ⟨h1, h2⟩ | ⟨set, h1, h2, h3, h4⟩
  · rw [h2 t0 ht0] at hm0; cases hm0
  · have e : findS may p = (diffS p (sidesS p.length set), sidesS p.length set) := h3
    change ∀ t, t < _ → _ → (findS may p).1 ≤ _ at h4
    rw [e] at h4 ⊢
    refine ⟨sidesS_sd hp h1, h2, rfl, fun s hs hm => ?_⟩
    obtain ⟨t, ht, rfl⟩ := sd_num hp hs
    exact h4 t ht hm
end Go.Proofs.Ytepgcdjbhmpioaa.Fi
