/- Plain words: neighbours of sets, what a fire reaches, and the best plan by the program's own recursion, with a number of rounds. -/
import Derived.Test.YtbgpnkchbcgekaaDoorQFbS1
namespace Wog
set_option linter.unusedVariables false
/-- The neighbours of the vertices of a set. -/
def nb (nx : List Nat) (s : Nat) : Nat := (List.range nx.length).foldl (fun acc v => if s.testBit v then acc ||| nx.getD v 0 else acc) 0
/-- The neighbours of the vertices of a set, and these themselves. -/
def arnd (nx : List Nat) (s : Nat) : Nat := s ||| nb nx s
theorem foldl_or_bit (nx : List Nat) (s j : Nat) (l : List Nat) : ∀ acc : Nat, (l.foldl (fun acc v => if s.testBit v then acc ||| nx.getD v 0 else acc) acc).testBit j = (acc.testBit j || l.any (fun v => s.testBit v && (nx.getD v 0).testBit j)) := by
  induction l with
  | nil => intro acc; simp
  | cons v l ih =>
    intro acc
    rw [List.foldl_cons, ih, List.any_cons]
    by_cases h : s.testBit v = true
    · simp only [h, if_true, Nat.testBit_or, Bool.true_and, Bool.or_assoc]
    · rw [Bool.not_eq_true] at h
      simp [h]
theorem nb_bit (nx : List Nat) (s j : Nat) : (nb nx s).testBit j = (List.range nx.length).any (fun v => s.testBit v && (nx.getD v 0).testBit j) := by
  unfold nb
  rw [foldl_or_bit]
  simp
theorem nb_bit_iff (nx : List Nat) (s j : Nat) : (nb nx s).testBit j = true ↔ ∃ v, v < nx.length ∧ s.testBit v = true ∧ (nx.getD v 0).testBit j = true := by
  rw [nb_bit, List.any_eq_true]
  constructor
  · rintro ⟨v, hv, h⟩
    rw [Bool.and_eq_true] at h
    exact ⟨v, List.mem_range.1 hv, h.1, h.2⟩
  · rintro ⟨v, hv, h1, h2⟩
    exact ⟨v, List.mem_range.2 hv, by rw [Bool.and_eq_true]; exact ⟨h1, h2⟩⟩
theorem arnd_bit_iff (nx : List Nat) (s j : Nat) : (arnd nx s).testBit j = true ↔ s.testBit j = true ∨ ∃ v, v < nx.length ∧ s.testBit v = true ∧ (nx.getD v 0).testBit j = true := by
  unfold arnd
  rw [Nat.testBit_or, Bool.or_eq_true, nb_bit_iff]
theorem foldl_or_lt {nx : List Nat} {n : Nat} (h : ∀ x ∈ nx, x < 2 ^ n) (s : Nat) (l : List Nat) : ∀ acc : Nat, acc < 2 ^ n → l.foldl (fun acc v => if s.testBit v then acc ||| nx.getD v 0 else acc) acc < 2 ^ n := by
  induction l with
  | nil => intro acc ha; exact ha
  | cons v l ih =>
    intro acc ha
    rw [List.foldl_cons]
    refine ih _ ?_
    split
    · refine Nat.or_lt_two_pow ha ?_
      rw [List.getD_eq_getElem?_getD]
      rcases Nat.lt_or_ge v nx.length with hv | hv
      · rw [List.getElem?_eq_getElem hv]; exact h _ (List.getElem_mem hv)
      · rw [List.getElem?_eq_none hv]; exact Nat.two_pow_pos n
    · exact ha
theorem nb_lt {nx : List Nat} {n : Nat} (h : ∀ x ∈ nx, x < 2 ^ n) (s : Nat) : nb nx s < 2 ^ n := foldl_or_lt h s _ 0 (Nat.two_pow_pos n)
theorem arnd_lt {nx : List Nat} {n s : Nat} (h : ∀ x ∈ nx, x < 2 ^ n) (hs : s < 2 ^ n) : arnd nx s < 2 ^ n := Nat.or_lt_two_pow hs (nb_lt h s)
/-- All that is reached from a set without some others: the rounds of the loop. -/
def cloF (nx : List Nat) (D : Nat) : Nat → Nat → Option Nat
  | 0, _ => none
  | k + 1, s => if diff (arnd nx s) D = s then some s else cloF nx D k (diff (arnd nx s) D)
/-- Is a plan better than another one? -/
def lexLt : List Int → List Int → Bool
  | [], [] => false
  | [], _ :: _ => true
  | _ :: _, [] => false
  | a :: l, b :: m => if a = b then lexLt l m else decide (a < b)
def betterP (p q : Int × List Int) : Bool := if p.1 = q.1 then (if p.2.length = q.2.length then lexLt p.2 q.2 else decide (p.2.length < q.2.length)) else decide (q.1 < p.1)
def pick (p q : Int × List Int) : Int × List Int := if betterP p q then p else q
def stepO (rec : Nat → Nat → Option (Int × List Int)) (nx : List Nat) (B D : Nat) (o : Option (Int × List Int)) (d : Nat) : Option (Int × List Int) :=
  o.bind fun out => if (B ||| D).testBit d then some out else (rec (diff (arnd nx B) (D ||| 2 ^ d)) (D ||| 2 ^ d)).bind fun p => some (pick (p.1, (d : Int) :: p.2) out)
/-- The best plan from a state on, by the program's recursion. -/
def bestF (nx : List Nat) : Nat → Nat → Nat → Option (Int × List Int)
  | 0, _, _ => none
  | k + 1, B, D => (cloF nx D (k + 1) B).bind fun R => if R = B then some ((nx.length : Int) - (popc 16 R : Nat), []) else (List.range nx.length).foldl (stepO (bestF nx k) nx B D) (some ((nx.length : Int) - (popc 16 R : Nat), []))
theorem foldl_stepO_none (rec : Nat → Nat → Option (Int × List Int)) (nx : List Nat) (B D : Nat) (l : List Nat) : l.foldl (stepO rec nx B D) none = none := by
  induction l with
  | nil => rfl
  | cons d l ih => rw [List.foldl_cons]; exact ih
theorem cloF_mono (nx : List Nat) (D : Nat) (k : Nat) : ∀ (s r : Nat), cloF nx D k s = some r → cloF nx D (k + 1) s = some r := by
  induction k with
  | zero => intro s r h; simp [cloF] at h
  | succ k ih =>
    intro s r h
    rw [cloF] at h ⊢
    split
    · rename_i e; rw [if_pos e] at h; exact h
    · rename_i e; rw [if_neg e] at h; exact ih _ _ h
theorem foldl_stepO_mono {rec rec' : Nat → Nat → Option (Int × List Int)} (hr : ∀ B D r, rec B D = some r → rec' B D = some r) (nx : List Nat) (B D : Nat) (l : List Nat) :
    ∀ (o : Option (Int × List Int)) (r : Int × List Int), l.foldl (stepO rec nx B D) o = some r → l.foldl (stepO rec' nx B D) o = some r := by
  induction l with
  | nil => intro o r h; exact h
  | cons d l ih =>
    intro o r h
    rw [List.foldl_cons] at h ⊢
    cases o with
    | none => rw [show stepO rec nx B D none d = none from rfl, foldl_stepO_none] at h; cases h
    | some out =>
      by_cases hb : (B ||| D).testBit d = true
      · have e1 : stepO rec nx B D (some out) d = some out := by simp [stepO, hb]
        have e2 : stepO rec' nx B D (some out) d = some out := by simp [stepO, hb]
        rw [e1] at h; rw [e2]; exact ih _ _ h
      · rw [Bool.not_eq_true] at hb
        cases hq : rec (diff (arnd nx B) (D ||| 2 ^ d)) (D ||| 2 ^ d) with
        | none =>
          have e1 : stepO rec nx B D (some out) d = none := by simp [stepO, hb, hq]
          rw [e1, foldl_stepO_none] at h; cases h
        | some p =>
          have e1 : stepO rec nx B D (some out) d = some (pick (p.1, (d : Int) :: p.2) out) := by simp [stepO, hb, hq]
          have e2 : stepO rec' nx B D (some out) d = some (pick (p.1, (d : Int) :: p.2) out) := by simp [stepO, hb, hr _ _ _ hq]
          rw [e1] at h; rw [e2]; exact ih _ _ h
theorem bestF_mono (nx : List Nat) (k : Nat) : ∀ (B D : Nat) (r : Int × List Int), bestF nx k B D = some r → bestF nx (k + 1) B D = some r := by
  induction k with
  | zero => intro B D r h; simp [bestF] at h
  | succ k ih =>
    intro B D r h
    rw [bestF] at h ⊢
    obtain ⟨R, hR, h⟩ := Option.bind_eq_some_iff.1 h
    rw [cloF_mono nx D _ _ _ hR, Option.bind_some]
    split
    · rename_i e; rw [if_pos e] at h; exact h
    · rename_i e; rw [if_neg e] at h; exact foldl_stepO_mono ih nx B D _ _ _ h
theorem bestF_le (nx : List Nat) {k k' : Nat} (hk : k ≤ k') {B D : Nat} {r : Int × List Int} (h : bestF nx k B D = some r) : bestF nx k' B D = some r := by
  obtain ⟨d, rfl⟩ := Nat.exists_eq_add_of_le hk
  clear hk
  induction d with
  | zero => exact h
  | succ d ih => exact bestF_mono nx _ _ _ _ ih
theorem bestF_det (nx : List Nat) {k k' B D : Nat} {r r' : Int × List Int} (h : bestF nx k B D = some r) (h' : bestF nx k' B D = some r') : r = r' := by
  have a := bestF_le nx (Nat.le_max_left k k') h
  have b := bestF_le nx (Nat.le_max_right k k') h'
  rw [a] at b
  exact Option.some.inj b
end Wog
