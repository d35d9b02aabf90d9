/- Texts of this claim, joined: S1, S2, S3, S4, S5, S6 -/
import Derived.Laws.BitsAllLaws
import Derived.Lib.Tables
import Derived.Test.YtbgpnkchbcgekaaDoorQFqWMore
section
namespace Wog
open Go.Proofs.YtbgpnkchbcgekaaDoorW.PrintWords Go.Proofs.YtbgpnkchbcgekaaDoorW.PrintMore
set_option linter.unusedVariables false
/-- How many of the first m bits are set. -/
def popc (m a : Nat) : Nat := (List.range m).countP (fun i => a.testBit i)
/-- The members of a that b lacks. -/
def diff (a b : Nat) : Nat := a ^^^ (a &&& b)
theorem testBit_diff (a b i : Nat) : (diff a b).testBit i = (a.testBit i && !b.testBit i) := by
  unfold diff
  rw [Nat.testBit_xor, Nat.testBit_and]
  cases a.testBit i <;> cases b.testBit i <;> rfl
theorem diff_le (a b n : Nat) (h : a < 2 ^ n) : diff a b < 2 ^ n := by
  unfold diff
  exact Nat.xor_lt_two_pow h (Nat.lt_of_le_of_lt Nat.and_le_left h)
theorem ext_lt {a b n : Nat} (h : a < 2 ^ n) (k : b < 2 ^ n) (e : ∀ i, i < n → a.testBit i = b.testBit i) : a = b := by
  apply Nat.eq_of_testBit_eq
  intro i
  rcases Nat.lt_or_ge i n with hi | hi
  · exact e i hi
  · rw [Nat.testBit_lt_two_pow (Nat.lt_of_lt_of_le h (Nat.pow_le_pow_right (by omega) hi)), Nat.testBit_lt_two_pow (Nat.lt_of_lt_of_le k (Nat.pow_le_pow_right (by omega) hi))]
theorem testBit_two_pow (i j : Nat) : (2 ^ i).testBit j = decide (i = j) := by
  rw [Nat.testBit_two_pow]
theorem lt_of_bit {a n i : Nat} (h : a < 2 ^ n) (hi : a.testBit i = true) : i < n := by
  rcases Nat.lt_or_ge i n with h1 | h1
  · exact h1
  · rw [Nat.testBit_lt_two_pow (Nat.lt_of_lt_of_le h (Nat.pow_le_pow_right (by omega) h1))] at hi
    cases hi
theorem zero_of_bits {a : Nat} (h : ∀ i, a.testBit i = false) : a = 0 := by
  apply Nat.eq_of_testBit_eq
  intro i
  rw [h i, Nat.zero_testBit]
theorem or16 (a b : Nat) (ha : a < 65536) (hb : b < 65536) : Go.bits .or .u16 (a : Int) (b : Int) = ((a ||| b : Nat) : Int) := Go.u16_or_nat a b ha hb
theorem andNot16 (a b : Nat) (ha : a < 65536) (hb : b < 65536) : Go.bits .andNot .u16 (a : Int) (b : Int) = ((diff a b : Nat) : Int) := by
  rw [Go.u16_andNot_nat a b ha hb]
  congr 1
  apply Nat.eq_of_testBit_eq
  intro i
  rw [Nat.testBit_and, testBit_diff, show 65535 - b = 2 ^ 16 - (b + 1) from by omega, Nat.testBit_two_pow_sub_succ (by omega)]
  rcases Nat.lt_or_ge i 16 with h | h
  · simp [h]
  · rw [Nat.testBit_lt_two_pow (Nat.lt_of_lt_of_le (show a < 2 ^ 16 by omega) (Nat.pow_le_pow_right (by omega) h))]
    simp
theorem two_pow_cast (i : Nat) : (2 : Int) ^ i = ((2 ^ i : Nat) : Int) := by rw [Int.natCast_pow]; rfl
theorem shr16 (a i : Nat) : shr .u16 (a : Int) (i : Int) = ((a / 2 ^ min i 16 : Nat) : Int) := by
  unfold shr
  rw [Int.toNat_natCast]
  show (a : Int) / 2 ^ min i 16 = _
  rw [Int.natCast_ediv, Int.natCast_pow]
  rfl
theorem has16 (a i : Nat) (ha : a < 65536) : Go.bits .and .u16 (shr .u16 (a : Int) (i : Int)) 1 = (((a.testBit i).toNat : Nat) : Int) := by
  rw [shr16]
  have h1 : a / 2 ^ min i 16 < 65536 := Nat.lt_of_le_of_lt (Nat.div_le_self _ _) ha
  have h := Go.u16_and_nat (a / 2 ^ min i 16) 1 h1 (by omega)
  rw [Go.nat_mask1] at h
  refine h.trans ?_
  congr 1
  rw [Nat.toNat_testBit]
  rcases Nat.lt_or_ge i 16 with hi | hi
  · rw [Nat.min_eq_left (by omega)]
  · rw [Nat.min_eq_right hi, Nat.div_eq_of_lt (by omega : a < 2 ^ 16), Nat.div_eq_of_lt]
    exact Nat.lt_of_lt_of_le ha (Nat.pow_le_pow_right (n := 2) (by omega) hi)
theorem shl16 (i : Nat) (hi : i < 16) : shl .u16 1 (i : Int) = ((2 ^ i : Nat) : Int) := by
  unfold shl
  rw [Int.toNat_natCast]
  show Go.IntKind.u16.wrap (1 * 2 ^ min i 16) = _
  rw [Nat.min_eq_left (by omega), Go.IntKind.wrap_u16, Int.one_mul, two_pow_cast]
  have : 2 ^ i < 65536 := Nat.pow_lt_pow_right (a := 2) (by omega) hi
  generalize 2 ^ i = x at *
  omega
theorem ofInt64 (a : Nat) (ha : a < 9223372036854775808) : (BitVec.ofInt 64 (a : Int)).toNat = a := by
  rw [BitVec.ofInt_natCast, BitVec.toNat_ofNat]; exact Nat.mod_eq_of_lt (by omega)
theorem or64 (a b : Nat) (ha : a < 2 ^ 40) (hb : b < 2 ^ 40) : Go.bits .or .i64 (a : Int) (b : Int) = ((a ||| b : Nat) : Int) := by
  have hx : a ||| b < 2 ^ 40 := Nat.or_lt_two_pow ha hb
  show Go.IntKind.i64.wrap ((BitVec.ofInt 64 (a : Int) ||| BitVec.ofInt 64 (b : Int)).toNat : Int) = _
  rw [BitVec.toNat_or, ofInt64 a (by omega), ofInt64 b (by omega), Go.IntKind.wrap_i64]
  omega
theorem and64 (a b : Nat) (ha : a < 2 ^ 62) (hb : b < 2 ^ 62) : Go.bits .and .i64 (a : Int) (b : Int) = ((a &&& b : Nat) : Int) := by
  have hx : a &&& b < 2 ^ 62 := Nat.and_lt_two_pow _ hb
  show Go.IntKind.i64.wrap ((BitVec.ofInt 64 (a : Int) &&& BitVec.ofInt 64 (b : Int)).toNat : Int) = _
  rw [BitVec.toNat_and, ofInt64 a (by omega), ofInt64 b (by omega), Go.IntKind.wrap_i64]
  omega
theorem shr64 (a i : Nat) : shr .i64 (a : Int) (i : Int) = ((a / 2 ^ min i 64 : Nat) : Int) := by
  unfold shr
  rw [Int.toNat_natCast]
  show (a : Int) / 2 ^ min i 64 = _
  rw [Int.natCast_ediv, Int.natCast_pow]
  rfl
theorem has64 (a i : Nat) (ha : a < 2 ^ 62) : Go.bits .and .i64 (shr .i64 (a : Int) (i : Int)) 1 = (((a.testBit i).toNat : Nat) : Int) := by
  rw [shr64]
  have h1 : a / 2 ^ min i 64 < 2 ^ 62 := Nat.lt_of_le_of_lt (Nat.div_le_self _ _) ha
  have h := and64 (a / 2 ^ min i 64) 1 h1 (by omega)
  rw [Go.nat_mask1] at h
  refine h.trans ?_
  congr 1
  rw [Nat.toNat_testBit]
  rcases Nat.lt_or_ge i 64 with hi | hi
  · rw [Nat.min_eq_left (by omega)]
  · rw [Nat.min_eq_right hi, Nat.div_eq_of_lt (by omega : a < 2 ^ 64), Nat.div_eq_of_lt]
    exact Nat.lt_of_lt_of_le ha (Nat.pow_le_pow_right (n := 2) (by omega) (by omega))
theorem shl64 (i : Nat) (hi : i < 40) : shl .i64 1 (i : Int) = ((2 ^ i : Nat) : Int) := by
  unfold shl
  rw [Int.toNat_natCast]
  show Go.IntKind.i64.wrap (1 * 2 ^ min i 64) = _
  rw [Nat.min_eq_left (by omega), Go.IntKind.wrap_i64, Int.one_mul, two_pow_cast]
  have : 2 ^ i < 2 ^ 40 := Nat.pow_lt_pow_right (a := 2) (by omega) hi
  generalize 2 ^ i = x at *
  omega
theorem toNat_beq (b : Bool) : ((((b.toNat : Nat) : Int) == 1) : Bool) = b := by cases b <;> rfl
theorem pop8_is : ∀ i : Nat, i < 256 → Go.Lib.pop8 (i : Int) = ((popc 8 i : Nat) : Int) := by
  have h : ∀ i : Fin 256, Go.Lib.pop8 ((i.val : Nat) : Int) = ((popc 8 i.val : Nat) : Int) := by decide +kernel
  intro i hi
  exact h ⟨i, hi⟩
theorem popc_split (a m n : Nat) : popc (m + n) a = popc m (a % 2 ^ m) + popc n (a / 2 ^ m) := by
  unfold popc
  rw [List.range_add, List.countP_append]
  congr 1
  · apply List.countP_congr
    intro i hi
    rw [Nat.testBit_mod_two_pow]
    simp [List.mem_range.1 hi]
  · rw [List.countP_map]
    apply List.countP_congr
    intro i hi
    simp [Function.comp, Nat.testBit_div_two_pow, Nat.add_comm]
theorem pop16_is (a : Nat) (ha : a < 65536) : (Go.Lib.pop8 ((a : Int) / 256) + Go.Lib.pop8 ((a : Int) % 256)) % 256 = ((popc 16 a : Nat) : Int) := by
  have e1 : (a : Int) / 256 = ((a / 256 : Nat) : Int) := by omega
  have e2 : (a : Int) % 256 = ((a % 256 : Nat) : Int) := by omega
  rw [e1, e2, pop8_is _ (by omega), pop8_is _ (by omega), show popc 16 a = _ from popc_split a 8 8]
  have h1 : popc 8 (a % 256) ≤ 8 := Nat.le_trans List.countP_le_length (by simp)
  have h2 : popc 8 (a / 256) ≤ 8 := Nat.le_trans List.countP_le_length (by simp)
  show _ = ((popc 8 (a % 256) + popc 8 (a / 256) : Nat) : Int)
  omega
end Wog
end
section
namespace Wog
set_option linter.unusedVariables false
/-- The neighbours of the vertices of a set. -/
def nb (nx : List Nat) (s : Nat) : Nat := (List.range nx.length).foldl (fun acc v => if s.testBit v then acc ||| nx.getD v 0 else acc) 0
/-- The neighbours of the vertices of a set, and these themselves. -/
def arnd (nx : List Nat) (s : Nat) : Nat := s ||| nb nx s
theorem foldl_or_bit (nx : List Nat) (s j : Nat) (l : List Nat) : ∀ acc : Nat, (l.foldl (fun acc v => if s.testBit v then acc ||| nx.getD v 0 else acc) acc).testBit j = (acc.testBit j || l.any (fun v => s.testBit v && (nx.getD v 0).testBit j)) := by
  induction l with
  | nil => intro acc; simp
  | cons v l ih =>
    intro acc
    rw [List.foldl_cons, ih, List.any_cons]
    by_cases h : s.testBit v = true
    · simp only [h, if_true, Nat.testBit_or, Bool.true_and, Bool.or_assoc]
    · rw [Bool.not_eq_true] at h
      simp [h]
theorem nb_bit (nx : List Nat) (s j : Nat) : (nb nx s).testBit j = (List.range nx.length).any (fun v => s.testBit v && (nx.getD v 0).testBit j) := by
  unfold nb
  rw [foldl_or_bit]
  simp
theorem nb_bit_iff (nx : List Nat) (s j : Nat) : (nb nx s).testBit j = true ↔ ∃ v, v < nx.length ∧ s.testBit v = true ∧ (nx.getD v 0).testBit j = true := by
  rw [nb_bit, List.any_eq_true]
  constructor
  · rintro ⟨v, hv, h⟩
    rw [Bool.and_eq_true] at h
    exact ⟨v, List.mem_range.1 hv, h.1, h.2⟩
  · rintro ⟨v, hv, h1, h2⟩
    exact ⟨v, List.mem_range.2 hv, by rw [Bool.and_eq_true]; exact ⟨h1, h2⟩⟩
theorem arnd_bit_iff (nx : List Nat) (s j : Nat) : (arnd nx s).testBit j = true ↔ s.testBit j = true ∨ ∃ v, v < nx.length ∧ s.testBit v = true ∧ (nx.getD v 0).testBit j = true := by
  unfold arnd
  rw [Nat.testBit_or, Bool.or_eq_true, nb_bit_iff]
theorem foldl_or_lt {nx : List Nat} {n : Nat} (h : ∀ x ∈ nx, x < 2 ^ n) (s : Nat) (l : List Nat) : ∀ acc : Nat, acc < 2 ^ n → l.foldl (fun acc v => if s.testBit v then acc ||| nx.getD v 0 else acc) acc < 2 ^ n := by
  induction l with
  | nil => intro acc ha; exact ha
  | cons v l ih =>
    intro acc ha
    rw [List.foldl_cons]
    refine ih _ ?_
    split
    · refine Nat.or_lt_two_pow ha ?_
      rw [List.getD_eq_getElem?_getD]
      rcases Nat.lt_or_ge v nx.length with hv | hv
      · rw [List.getElem?_eq_getElem hv]; exact h _ (List.getElem_mem hv)
      · rw [List.getElem?_eq_none hv]; exact Nat.two_pow_pos n
    · exact ha
theorem nb_lt {nx : List Nat} {n : Nat} (h : ∀ x ∈ nx, x < 2 ^ n) (s : Nat) : nb nx s < 2 ^ n := foldl_or_lt h s _ 0 (Nat.two_pow_pos n)
theorem arnd_lt {nx : List Nat} {n s : Nat} (h : ∀ x ∈ nx, x < 2 ^ n) (hs : s < 2 ^ n) : arnd nx s < 2 ^ n := Nat.or_lt_two_pow hs (nb_lt h s)
/-- All that is reached from a set without some others: the rounds of the loop. -/
def cloF (nx : List Nat) (D : Nat) : Nat → Nat → Option Nat
  | 0, _ => none
  | k + 1, s => if diff (arnd nx s) D = s then some s else cloF nx D k (diff (arnd nx s) D)
/-- Is a plan better than another one? -/
def lexLt : List Int → List Int → Bool
  | [], [] => false
  | [], _ :: _ => true
  | _ :: _, [] => false
  | a :: l, b :: m => if a = b then lexLt l m else decide (a < b)
def betterP (p q : Int × List Int) : Bool := if p.1 = q.1 then (if p.2.length = q.2.length then lexLt p.2 q.2 else decide (p.2.length < q.2.length)) else decide (q.1 < p.1)
def pick (p q : Int × List Int) : Int × List Int := if betterP p q then p else q
def stepO (rec : Nat → Nat → Option (Int × List Int)) (nx : List Nat) (B D : Nat) (o : Option (Int × List Int)) (d : Nat) : Option (Int × List Int) :=
  o.bind fun out => if (B ||| D).testBit d then some out else (rec (diff (arnd nx B) (D ||| 2 ^ d)) (D ||| 2 ^ d)).bind fun p => some (pick (p.1, (d : Int) :: p.2) out)
/-- The best plan from a state on, by the program's recursion. -/
def bestF (nx : List Nat) : Nat → Nat → Nat → Option (Int × List Int)
  | 0, _, _ => none
  | k + 1, B, D => (cloF nx D (k + 1) B).bind fun R => if R = B then some ((nx.length : Int) - (popc 16 R : Nat), []) else (List.range nx.length).foldl (stepO (bestF nx k) nx B D) (some ((nx.length : Int) - (popc 16 R : Nat), []))
theorem foldl_stepO_none (rec : Nat → Nat → Option (Int × List Int)) (nx : List Nat) (B D : Nat) (l : List Nat) : l.foldl (stepO rec nx B D) none = none := by
  induction l with
  | nil => rfl
  | cons d l ih => rw [List.foldl_cons]; exact ih
theorem cloF_mono (nx : List Nat) (D : Nat) (k : Nat) : ∀ (s r : Nat), cloF nx D k s = some r → cloF nx D (k + 1) s = some r := by
  induction k with
  | zero => intro s r h; simp [cloF] at h
  | succ k ih =>
    intro s r h
    rw [cloF] at h ⊢
    split
    · rename_i e; rw [if_pos e] at h; exact h
    · rename_i e; rw [if_neg e] at h; exact ih _ _ h
theorem foldl_stepO_mono {rec rec' : Nat → Nat → Option (Int × List Int)} (hr : ∀ B D r, rec B D = some r → rec' B D = some r) (nx : List Nat) (B D : Nat) (l : List Nat) :
    ∀ (o : Option (Int × List Int)) (r : Int × List Int), l.foldl (stepO rec nx B D) o = some r → l.foldl (stepO rec' nx B D) o = some r := by
  induction l with
  | nil => intro o r h; exact h
  | cons d l ih =>
    intro o r h
    rw [List.foldl_cons] at h ⊢
    cases o with
    | none => rw [show stepO rec nx B D none d = none from rfl, foldl_stepO_none] at h; cases h
    | some out =>
      by_cases hb : (B ||| D).testBit d = true
      · have e1 : stepO rec nx B D (some out) d = some out := by simp [stepO, hb]
        have e2 : stepO rec' nx B D (some out) d = some out := by simp [stepO, hb]
        rw [e1] at h; rw [e2]; exact ih _ _ h
      · rw [Bool.not_eq_true] at hb
        cases hq : rec (diff (arnd nx B) (D ||| 2 ^ d)) (D ||| 2 ^ d) with
        | none =>
          have e1 : stepO rec nx B D (some out) d = none := by simp [stepO, hb, hq]
          rw [e1, foldl_stepO_none] at h; cases h
        | some p =>
          have e1 : stepO rec nx B D (some out) d = some (pick (p.1, (d : Int) :: p.2) out) := by simp [stepO, hb, hq]
          have e2 : stepO rec' nx B D (some out) d = some (pick (p.1, (d : Int) :: p.2) out) := by simp [stepO, hb, hr _ _ _ hq]
          rw [e1] at h; rw [e2]; exact ih _ _ h
theorem bestF_mono (nx : List Nat) (k : Nat) : ∀ (B D : Nat) (r : Int × List Int), bestF nx k B D = some r → bestF nx (k + 1) B D = some r := by
  induction k with
  | zero => intro B D r h; simp [bestF] at h
  | succ k ih =>
    intro B D r h
    rw [bestF] at h ⊢
    obtain ⟨R, hR, h⟩ := Option.bind_eq_some_iff.1 h
    rw [cloF_mono nx D _ _ _ hR, Option.bind_some]
    split
    · rename_i e; rw [if_pos e] at h; exact h
    · rename_i e; rw [if_neg e] at h; exact foldl_stepO_mono ih nx B D _ _ _ h
theorem bestF_le (nx : List Nat) {k k' : Nat} (hk : k ≤ k') {B D : Nat} {r : Int × List Int} (h : bestF nx k B D = some r) : bestF nx k' B D = some r := by
  obtain ⟨d, rfl⟩ := Nat.exists_eq_add_of_le hk
  clear hk
  induction d with
  | zero => exact h
  | succ d ih => exact bestF_mono nx _ _ _ _ ih
theorem bestF_det (nx : List Nat) {k k' B D : Nat} {r r' : Int × List Int} (h : bestF nx k B D = some r) (h' : bestF nx k' B D = some r') : r = r' := by
  have a := bestF_le nx (Nat.le_max_left k k') h
  have b := bestF_le nx (Nat.le_max_right k k') h'
  rw [a] at b
  exact Option.some.inj b
end Wog
end
section
namespace Wog
set_option linter.unusedVariables false
/-- The members below n that a set lacks. -/
def zer (n s : Nat) : Nat := (List.range n).countP (fun i => !s.testBit i)
theorem zer_le (n s : Nat) : zer n s ≤ n := Nat.le_trans List.countP_le_length (by simp)
theorem countP_lt {l : List Nat} {p q : Nat → Bool} (h : ∀ i ∈ l, p i = true → q i = true) {j : Nat} (hj : j ∈ l) (h1 : p j = false) (h2 : q j = true) : l.countP p < l.countP q := by
  induction l with
  | nil => cases hj
  | cons a l ih =>
    rw [List.countP_cons, List.countP_cons]
    have hm : l.countP p ≤ l.countP q := List.countP_mono_left (fun i hi => h i (by simp [hi]))
    rcases List.mem_cons.1 hj with rfl | hj
    · simp [h1, h2]; omega
    · have := ih (fun i hi => h i (by simp [hi])) hj
      by_cases ha : p a = true
      · simp [ha, h a (by simp) ha]; omega
      · simp [ha]; omega
theorem zer_lt {n s t : Nat} (h : ∀ i, s.testBit i = true → t.testBit i = true) (hs : s < 2 ^ n) (ht : t < 2 ^ n) (hne : t ≠ s) : zer n t < zer n s := by
  have : ∃ j, j < n ∧ t.testBit j = true ∧ s.testBit j = false := by
    apply Classical.byContradiction
    intro hno
    apply hne
    refine ext_lt ht hs (fun i hi => ?_)
    cases h1 : s.testBit i with
    | true => exact h i h1
    | false =>
      cases h2 : t.testBit i with
      | false => rfl
      | true => exact absurd ⟨i, hi, h2, h1⟩ hno
  obtain ⟨j, hj, h1, h2⟩ := this
  refine countP_lt (j := j) (fun i _ h3 => ?_) (List.mem_range.2 hj) (by simp [h1]) (by simp [h2])
  cases h4 : s.testBit i with
  | false => rfl
  | true => simp [h i h4] at h3
/-- Nothing is burning that is defended. -/
def disj (s D : Nat) : Prop := ∀ i, s.testBit i = true → D.testBit i = false
theorem disj_diff (a D : Nat) : disj (diff a D) D := by
  intro i h
  rw [testBit_diff, Bool.and_eq_true] at h
  simpa using h.2
theorem step_sup {nx : List Nat} {s D : Nat} (h : disj s D) (i : Nat) (hi : s.testBit i = true) : (diff (arnd nx s) D).testBit i = true := by
  rw [testBit_diff, h i hi, (arnd_bit_iff nx s i).2 (.inl hi)]
  rfl
theorem cloF_some {nx : List Nat} {D : Nat} (hx : ∀ x ∈ nx, x < 2 ^ nx.length) : ∀ (m s : Nat), s < 2 ^ nx.length → disj s D → zer nx.length s ≤ m → ∃ R, cloF nx D (m + 1) s = some R ∧ R < 2 ^ nx.length ∧ disj R D := by
  intro m
  induction m with
  | zero =>
    intro s hs hd hz
    refine ⟨s, ?_, hs, hd⟩
    rw [cloF, if_pos]
    apply Classical.byContradiction
    intro hne
    have := zer_lt (n := nx.length) (step_sup hd) hs (diff_le _ D _ (arnd_lt hx hs)) hne
    omega
  | succ m ih =>
    intro s hs hd hz
    rw [cloF]
    by_cases e : diff (arnd nx s) D = s
    · rw [if_pos e]; exact ⟨s, rfl, hs, hd⟩
    · rw [if_neg e]
      have := zer_lt (n := nx.length) (step_sup hd) hs (diff_le _ D _ (arnd_lt hx hs)) e
      exact ih _ (diff_le _ D _ (arnd_lt hx hs)) (disj_diff _ _) (by omega)
theorem cloF_le {nx : List Nat} {D : Nat} {k k' s r : Nat} (hk : k ≤ k') (h : cloF nx D k s = some r) : cloF nx D k' s = some r := by
  obtain ⟨d, rfl⟩ := Nat.exists_eq_add_of_le hk
  clear hk
  induction d with
  | zero => exact h
  | succ d ih => exact cloF_mono nx D _ _ _ ih
theorem foldl_stepO_some {rec : Nat → Nat → Option (Int × List Int)} {nx : List Nat} {B D : Nat} {L : List Nat} (hr : ∀ d ∈ L, (B ||| D).testBit d = false → ∃ r, rec (diff (arnd nx B) (D ||| 2 ^ d)) (D ||| 2 ^ d) = some r) :
    ∀ out, ∃ r, L.foldl (stepO rec nx B D) (some out) = some r := by
  induction L with
  | nil => intro out; exact ⟨out, rfl⟩
  | cons d L ih =>
    intro out
    rw [List.foldl_cons]
    by_cases hb : (B ||| D).testBit d = true
    · rw [show stepO rec nx B D (some out) d = some out by simp [stepO, hb]]
      exact ih (fun d' h => hr d' (by simp [h])) out
    · rw [Bool.not_eq_true] at hb
      obtain ⟨p, hp⟩ := hr d (by simp) hb
      rw [show stepO rec nx B D (some out) d = some (pick (p.1, (d : Int) :: p.2) out) by simp [stepO, hb, hp]]
      exact ih (fun d' h => hr d' (by simp [h])) _
theorem bestF_some {nx : List Nat} (hx : ∀ x ∈ nx, x < 2 ^ nx.length) : ∀ (m B D : Nat), B < 2 ^ nx.length → D < 2 ^ nx.length → disj B D → zer nx.length D ≤ m → ∃ r, bestF nx (m + nx.length + 1) B D = some r := by
  intro m
  induction m with
  | zero =>
    intro B D hB hD hd hz
    obtain ⟨R, hR, _, _⟩ := cloF_some hx nx.length B hB hd (zer_le _ _)
    rw [Nat.zero_add, bestF, hR, Option.bind_some]
    split
    · exact ⟨_, rfl⟩
    · refine foldl_stepO_some (fun d hdm hb => ?_) _
      exfalso
      have h1 := countP_lt (l := List.range nx.length) (p := fun _ => false) (q := fun i => !D.testBit i) (j := d) (by simp) hdm rfl (by rw [Nat.testBit_or, Bool.or_eq_false_iff] at hb; simp [hb.2])
      unfold zer at hz
      omega
  | succ m ih =>
    intro B D hB hD hd hz
    obtain ⟨R, hR, _, _⟩ := cloF_some hx nx.length B hB hd (zer_le _ _)
    rw [show m + 1 + nx.length + 1 = (m + nx.length + 1) + 1 by omega, bestF, cloF_le (by omega) hR, Option.bind_some]
    split
    · exact ⟨_, rfl⟩
    · refine foldl_stepO_some (fun d hdm hb => ?_) _
      have hdn : d < nx.length := by simpa using hdm
      have hlD : D ||| 2 ^ d < 2 ^ nx.length := Nat.or_lt_two_pow hD (Nat.pow_lt_pow_right (by omega) hdn)
      refine ih _ _ (diff_le _ _ _ (arnd_lt hx hB)) hlD (disj_diff _ _) ?_
      have : zer nx.length (D ||| 2 ^ d) < zer nx.length D := by
        refine zer_lt (fun i hi => by rw [Nat.testBit_or, hi]; rfl) hD hlD (fun e => ?_)
        rw [Nat.testBit_or, Bool.or_eq_false_iff] at hb
        have h2 : (D ||| 2 ^ d).testBit d = true := by rw [Nat.testBit_or, testBit_two_pow]; simp
        rw [e, hb.2] at h2
        cases h2
      omega
/-- What starts to burn in a round. -/
def moreS (nx : List Nat) (B D : Nat) : Nat := diff (diff (arnd nx B) B) D
/-- The rounds without a further defence. -/
def playN (nx : List Nat) : Nat → Nat → Nat → List Nat
  | 0, _, _ => []
  | k + 1, B, D => if moreS nx B D = 0 then [] else moreS nx B D :: playN nx k (B ||| moreS nx B D) D
/-- The rounds of a plan; none: it is no plan. -/
def playS (nx : List Nat) : List Int → Nat → Nat → Option (List Nat)
  | [], B, D => some (playN nx nx.length B D)
  | d :: p, B, D => if 0 ≤ d ∧ d < nx.length ∧ (B ||| D).testBit d.toNat = false then (playS nx p (B ||| moreS nx B (D ||| 2 ^ d.toNat)) (D ||| 2 ^ d.toNat)).map fun o => if moreS nx B (D ||| 2 ^ d.toNat) = 0 then o else moreS nx B (D ||| 2 ^ d.toNat) :: o else none
theorem moreS_lt {nx : List Nat} (hx : ∀ x ∈ nx, x < 2 ^ nx.length) {B : Nat} (hB : B < 2 ^ nx.length) (D : Nat) : moreS nx B D < 2 ^ nx.length := diff_le _ _ _ (diff_le _ _ _ (arnd_lt hx hB))
theorem moreS_bit (nx : List Nat) (B D i : Nat) : (moreS nx B D).testBit i = ((arnd nx B).testBit i && !B.testBit i && !D.testBit i) := by
  unfold moreS
  rw [testBit_diff, testBit_diff]
theorem zer_more {nx : List Nat} (hx : ∀ x ∈ nx, x < 2 ^ nx.length) {B : Nat} (hB : B < 2 ^ nx.length) {D : Nat} (h : moreS nx B D ≠ 0) : zer nx.length (B ||| moreS nx B D) < zer nx.length B := by
  refine zer_lt (fun i hi => by rw [Nat.testBit_or, hi]; rfl) hB (Nat.or_lt_two_pow hB (moreS_lt hx hB D)) (fun e => h (zero_of_bits (fun i => ?_)))
  cases hi : (moreS nx B D).testBit i with
  | false => rfl
  | true =>
    have h1 : (B ||| moreS nx B D).testBit i = true := by rw [Nat.testBit_or, hi]; simp
    rw [e] at h1
    rw [moreS_bit, h1] at hi
    simp at hi
theorem zer_zero {nx : List Nat} (hx : ∀ x ∈ nx, x < 2 ^ nx.length) {B : Nat} (hB : B < 2 ^ nx.length) (D : Nat) (h : zer nx.length B = 0) : moreS nx B D = 0 := by
  apply Classical.byContradiction
  intro hne
  have := zer_more hx hB hne
  omega
theorem playN_step {nx : List Nat} (hx : ∀ x ∈ nx, x < 2 ^ nx.length) : ∀ (k : Nat) (B D : Nat), B < 2 ^ nx.length → zer nx.length B ≤ k → playN nx (k + 1) B D = playN nx k B D := by
  intro k
  induction k with
  | zero =>
    intro B D hB hz
    show (if moreS nx B D = 0 then [] else moreS nx B D :: playN nx 0 (B ||| moreS nx B D) D) = []
    rw [if_pos (zer_zero hx hB D (Nat.le_zero.1 hz))]
  | succ k ih =>
    intro B D hB hz
    rw [playN]
    conv => rhs; rw [playN]
    by_cases h : moreS nx B D = 0
    · rw [if_pos h, if_pos h]
    · rw [if_neg h, if_neg h, ih _ D (Nat.or_lt_two_pow hB (moreS_lt hx hB D)) (by have := zer_more hx hB h; omega)]
theorem playN_unfold {nx : List Nat} (hx : ∀ x ∈ nx, x < 2 ^ nx.length) {B D : Nat} (hB : B < 2 ^ nx.length) : playN nx nx.length B D = if moreS nx B D = 0 then [] else moreS nx B D :: playN nx nx.length (B ||| moreS nx B D) D := by
  rw [← playN_step hx _ B D hB (zer_le _ _), playN]
end Wog
end
section
namespace Wog
set_option linter.unusedVariables false
/-- The least member of a set. -/
def low (x : Nat) : Nat := ((List.range 10).find? (fun i => x.testBit i)).getD 16
/-- What is at most r edges away. -/
def ball (nx : List Nat) (v : Nat) : Nat → Nat
  | 0 => 2 ^ v
  | r + 1 => arnd nx (ball nx v r)
def ballsRow (nx : List Nat) (v : Nat) : List Nat := (List.range nx.length).map (ball nx v)
def ballsS (nx : List Nat) : List (List Nat) := (List.range nx.length).map (ballsRow nx)
theorem ball_lt {nx : List Nat} (hx : ∀ x ∈ nx, x < 2 ^ nx.length) {v : Nat} (hv : v < nx.length) : ∀ r, ball nx v r < 2 ^ nx.length
  | 0 => Nat.pow_lt_pow_right (by omega) hv
  | r + 1 => arnd_lt hx (ball_lt hx hv r)
/-- What is reached from a vertex without some others. -/
def reachS (nx : List Nat) (D v : Nat) : Nat := (cloF nx D (nx.length + 1) (2 ^ v)).getD 0
theorem disj_pow {D v : Nat} (hd : D.testBit v = false) : disj (2 ^ v) D := by
  intro i hi
  rw [testBit_two_pow] at hi
  have : v = i := by simpa using hi
  rw [← this]; exact hd
theorem reach_is {nx : List Nat} (hx : ∀ x ∈ nx, x < 2 ^ nx.length) {D v : Nat} (hv : v < nx.length) (hd : D.testBit v = false) : cloF nx D (nx.length + 1) (2 ^ v) = some (reachS nx D v) ∧ reachS nx D v < 2 ^ nx.length := by
  obtain ⟨R, hR, hl, _⟩ := cloF_some (D := D) hx nx.length (2 ^ v) (Nat.pow_lt_pow_right (by omega) hv) (disj_pow hd) (zer_le _ _)
  unfold reachS
  rw [hR]
  exact ⟨rfl, hl⟩
/-- How many parts the rest lies in. -/
def partsF (nx : List Nat) : Nat → Nat → Nat
  | 0, _ => 0
  | k + 1, rest => if rest = 0 then 0 else partsF nx k (diff rest (reachS nx 0 (low rest))) + 1
def mostS (nx : List Nat) (r : Nat) : Nat := (List.range nx.length).foldl (fun m v => max m (popc 16 (ball nx v r))) 0
def roomS (nx : List Nat) (left : Nat) : Nat := (List.range left).foldl (fun a r => a + mostS nx r) 0
def restS (nx : List Nat) (burnt : Nat) : Nat := diff (2 ^ nx.length - 1) burnt
def hopS (nx : List Nat) (burnt left : Nat) : Bool := decide (left < partsF nx nx.length (restS nx burnt)) || decide ((roomS nx left : Int) < (nx.length : Int) - (popc 16 burnt : Nat))
def findS (nx : List Nat) : Nat → Nat → Option (List Nat)
  | 0, b => if popc 16 b = nx.length then some [] else none
  | left + 1, b => if popc 16 b = nx.length then some (List.replicate (left + 1) 0) else if hopS nx b (left + 1) = true then none else (List.range nx.length).findSome? fun v => (findS nx left (b ||| ball nx v left)).map fun l => v :: l
/-- The first shortest sequence. -/
def burnS (nx : List Nat) : Option (List Nat) := (List.range nx.length).findSome? fun j => findS nx (j + 1) 0
theorem cloF_sup {nx : List Nat} {D : Nat} : ∀ (k s R : Nat), disj s D → cloF nx D k s = some R → ∀ i, s.testBit i = true → R.testBit i = true := by
  intro k
  induction k with
  | zero => intro s R _ h; simp [cloF] at h
  | succ k ih =>
    intro s R hd h i hi
    rw [cloF] at h
    split at h
    · obtain rfl := Option.some.inj h; exact hi
    · exact ih _ _ (disj_diff _ _) h i (step_sup hd i hi)
theorem reach_self {nx : List Nat} (hx : ∀ x ∈ nx, x < 2 ^ nx.length) {D v : Nat} (hv : v < nx.length) (hd : D.testBit v = false) : (reachS nx D v).testBit v = true := by
  refine cloF_sup _ _ _ (fun i hi => ?_) (reach_is hx hv hd).1 v (by rw [testBit_two_pow]; simp)
  rw [testBit_two_pow] at hi
  have : v = i := by simpa using hi
  rw [← this]; exact hd
theorem low_is {x : Nat} (h0 : x ≠ 0) (h : x < 2 ^ 10) : low x < 10 ∧ x.testBit (low x) = true := by
  unfold low
  have : ∃ i, i < 10 ∧ x.testBit i = true := by
    apply Classical.byContradiction
    intro hno
    apply h0
    refine zero_of_bits (fun i => ?_)
    cases hi : x.testBit i with
    | false => rfl
    | true => exact absurd ⟨i, lt_of_bit h hi, hi⟩ hno
  obtain ⟨i, hi, hb⟩ := this
  cases hq : (List.range 10).find? (fun i => x.testBit i) with
  | none =>
    have := List.find?_eq_none.1 hq i (List.mem_range.2 hi)
    simp [hb] at this
  | some j => exact ⟨List.mem_range.1 (List.mem_of_find?_eq_some hq), by simpa using List.find?_some hq⟩
theorem full_bit (n i : Nat) : (2 ^ n - 1).testBit i = decide (i < n) := by
  rw [Nat.testBit_two_pow_sub_one]
theorem restS_bit (nx : List Nat) (b i : Nat) : (restS nx b).testBit i = (decide (i < nx.length) && !b.testBit i) := by
  unfold restS
  rw [testBit_diff, full_bit]
theorem restS_lt (nx : List Nat) (b : Nat) : restS nx b < 2 ^ nx.length := diff_le _ _ _ (by have := Nat.two_pow_pos nx.length; omega)
theorem popc16 {n x : Nat} (hn : n ≤ 16) (h : x < 2 ^ n) : popc 16 x = popc n x := by
  have : ∀ d, popc (n + d) x = popc n x := by
    intro d
    induction d with
    | zero => rfl
    | succ d ih =>
      have : popc (n + (d + 1)) x = popc (n + d) x + (if x.testBit (n + d) then 1 else 0) := by
        unfold popc
        rw [show n + (d + 1) = (n + d) + 1 by omega, List.range_succ, List.countP_append]
        simp [List.countP_cons]
      rw [this, ih, Nat.testBit_lt_two_pow (Nat.lt_of_lt_of_le h (Nat.pow_le_pow_right (by omega) (by omega)))]
      simp
  have := this (16 - n)
  rwa [show n + (16 - n) = 16 by omega] at this
theorem popc_zer (n x : Nat) : popc n x + zer n x = n := by
  unfold popc zer
  have := List.length_eq_countP_add_countP (fun i => x.testBit i) (l := List.range n)
  simp at this
  have e : List.countP (fun i => !x.testBit i) (List.range n) = List.countP (fun i => decide (x.testBit i = false)) (List.range n) := by
    congr 1; funext i; cases x.testBit i <;> rfl
  rw [e]; omega
theorem full_of_rest {nx : List Nat} {b : Nat} (hn : nx.length ≤ 16) (hb : b < 2 ^ nx.length) (h : restS nx b = 0) : popc 16 b = nx.length := by
  rw [popc16 hn hb]
  have h1 := popc_zer nx.length b
  have h2 : zer nx.length b = 0 := by
    unfold zer
    rw [List.countP_eq_zero]
    intro i hi h3
    have h4 := restS_bit nx b i
    rw [h, Nat.zero_testBit] at h4
    simp at hi h3
    simp [hi, h3] at h4
  omega
theorem partsF_pos {nx : List Nat} {k rest : Nat} (h : rest ≠ 0) : 0 < partsF nx (k + 1) rest := by
  rw [partsF, if_neg h]; omega
end Wog
end
section
namespace Wog
set_option linter.unusedVariables false
def sub (a b : Nat) : Prop := ∀ i, a.testBit i = true → b.testBit i = true
def full (n : Nat) : Nat := 2 ^ n - 1
theorem sub_trans {a b c : Nat} (h : sub a b) (k : sub b c) : sub a c := fun i hi => k i (h i hi)
theorem sub_or_left (a b : Nat) : sub a (a ||| b) := fun i h => by rw [Nat.testBit_or, h]; rfl
theorem sub_antisymm {a b : Nat} (h : sub a b) (k : sub b a) : a = b := by
  apply Nat.eq_of_testBit_eq
  intro i
  cases ha : a.testBit i with
  | true => rw [h i ha]
  | false =>
    cases hb : b.testBit i with
    | false => rfl
    | true => rw [k i hb] at ha; cases ha
theorem full_lt (n : Nat) : full n < 2 ^ n := by unfold full; have := Nat.two_pow_pos n; omega
theorem full_test (n i : Nat) : (full n).testBit i = decide (i < n) := full_bit n i
theorem sub_full {a n : Nat} (h : a < 2 ^ n) : sub a (full n) := fun i hi => by
  rw [full_test]; exact decide_eq_true (lt_of_bit h hi)
theorem full_of_sub {a n : Nat} (h : a < 2 ^ n) (k : sub (full n) a) : a = full n := sub_antisymm (sub_full h) k
theorem popc_mono {a b : Nat} (n : Nat) (h : sub a b) : popc n a ≤ popc n b := by
  unfold popc
  exact List.countP_mono_left (fun i _ hi => h i hi)
theorem popc_or_le (n a b : Nat) : popc n (a ||| b) ≤ popc n a + popc n b := by
  unfold popc
  induction List.range n with
  | nil => simp
  | cons i l ih =>
    rw [List.countP_cons, List.countP_cons, List.countP_cons]
    rw [Nat.testBit_or]
    generalize List.countP (fun i => (a ||| b).testBit i) l = X at *
    generalize List.countP (fun i => a.testBit i) l = Y at *
    generalize List.countP (fun i => b.testBit i) l = Z at *
    cases a.testBit i <;> cases b.testBit i <;> simp <;> omega
theorem popc_lt_of {n a b i : Nat} (h : sub a b) (hi : i < n) (h1 : a.testBit i = false) (h2 : b.testBit i = true) : popc n a < popc n b := by
  unfold popc
  exact countP_lt (fun j _ hj => h j hj) (List.mem_range.2 hi) h1 h2
theorem popc_full_self (n : Nat) : popc n (full n) = n := by
  unfold popc
  rw [List.countP_eq_length.2 (fun i hi => by rw [full_test]; exact decide_eq_true (List.mem_range.1 hi))]
  simp
theorem popc_full {n a : Nat} (h : a < 2 ^ n) : popc n a = n ↔ a = full n := by
  constructor
  · intro hp
    refine full_of_sub h (fun i hi => ?_)
    rw [full_test] at hi
    have hi' : i < n := by simpa using hi
    cases ha : a.testBit i with
    | true => rfl
    | false =>
      have := popc_lt_of (n := n) (sub_full h) hi' ha (by rw [full_test]; exact hi)
      rw [popc_full_self] at this
      omega
  · rintro rfl; exact popc_full_self n
theorem popc16_full {n a : Nat} (hn : n ≤ 16) (h : a < 2 ^ n) : popc 16 a = n ↔ a = full n := by rw [popc16 hn h]; exact popc_full h
theorem arnd_self (nx : List Nat) (a : Nat) : sub a (arnd nx a) := sub_or_left _ _
/-- What burns in the end, by a sequence of fires. -/
def covS (nx : List Nat) : List Nat → Nat → Nat
  | [], b => b
  | v :: q, b => covS nx q (b ||| ball nx v q.length)
section
variable {nx : List Nat}
theorem covS_lt (hx : ∀ x ∈ nx, x < 2 ^ nx.length) : ∀ (q : List Nat) (b : Nat), (∀ v ∈ q, v < nx.length) → b < 2 ^ nx.length → covS nx q b < 2 ^ nx.length := by
  intro q
  induction q with
  | nil => intro b _ h; exact h
  | cons v q ih => intro b hq h; exact ih _ (fun u hu => hq u (by simp [hu])) (Nat.or_lt_two_pow h (ball_lt hx (hq v (by simp)) _))
theorem mostS_ge {v : Nat} (hv : v < nx.length) (r : Nat) : popc 16 (ball nx v r) ≤ mostS nx r := by
  unfold mostS
  have : ∀ (l : List Nat) (m : Nat), m ≤ l.foldl (fun m v => max m (popc 16 (ball nx v r))) m ∧ ∀ u ∈ l, popc 16 (ball nx u r) ≤ l.foldl (fun m v => max m (popc 16 (ball nx v r))) m := by
    intro l
    induction l with
    | nil => intro m; simp
    | cons a l ih =>
      intro m
      rw [List.foldl_cons]
      have h := ih (max m (popc 16 (ball nx a r)))
      refine ⟨by omega, fun u hu => ?_⟩
      rcases List.mem_cons.1 hu with rfl | hu
      · omega
      · exact h.2 u hu
  exact (this _ 0).2 v (List.mem_range.2 hv)
theorem roomS_succ (k : Nat) : roomS nx (k + 1) = roomS nx k + mostS nx k := by
  unfold roomS
  rw [List.range_succ, List.foldl_append]
  rfl
theorem covS_popc (hn : nx.length ≤ 16) (hx : ∀ x ∈ nx, x < 2 ^ nx.length) : ∀ (q : List Nat) (b : Nat), (∀ v ∈ q, v < nx.length) → popc nx.length (covS nx q b) ≤ popc nx.length b + roomS nx q.length := by
  intro q
  induction q with
  | nil => intro b _; simp [covS]
  | cons v q ih =>
    intro b hq
    have h1 := ih (b ||| ball nx v q.length) (fun u hu => hq u (by simp [hu]))
    have h2 := popc_or_le nx.length b (ball nx v q.length)
    have hv := hq v (by simp)
    have h3 := mostS_ge hv q.length
    rw [popc16 hn (ball_lt hx hv _)] at h3
    rw [covS, List.length_cons, roomS_succ]
    omega
/-- The reference's search. -/
def rbF (nx : List Nat) : Nat → Nat → Option (List Nat)
  | 0, b => if b = full nx.length then some [] else none
  | k + 1, b => if (roomS nx (k + 1) : Int) < (nx.length : Int) - (popc 16 b : Nat) then none else (List.range nx.length).findSome? fun v => (rbF nx k (b ||| ball nx v k)).map fun l => v :: l
theorem rbF_sound : ∀ (k b : Nat) (q : List Nat), rbF nx k b = some q → q.length = k ∧ (∀ v ∈ q, v < nx.length) ∧ covS nx q b = full nx.length := by
  intro k
  induction k with
  | zero =>
    intro b q h
    rw [rbF] at h
    split at h
    · obtain rfl := Option.some.inj h; exact ⟨rfl, by simp, by assumption⟩
    · cases h
  | succ k ih =>
    intro b q h
    rw [rbF] at h
    split at h
    · cases h
    · obtain ⟨_, v, _, hl, h1, _⟩ := List.findSome?_eq_some_iff.1 h
      obtain ⟨p, h2, rfl⟩ := Option.map_eq_some_iff.1 h1
      have hv : v < nx.length := List.mem_range.1 (by rw [hl]; simp)
      obtain ⟨e1, e2, e3⟩ := ih _ _ h2
      refine ⟨by simp [e1], fun u hu => ?_, ?_⟩
      · rcases List.mem_cons.1 hu with rfl | hu
        · exact hv
        · exact e2 u hu
      · rw [covS, e1]; exact e3
theorem rbF_complete (hn : nx.length ≤ 16) (hx : ∀ x ∈ nx, x < 2 ^ nx.length) : ∀ (q : List Nat) (b : Nat), b < 2 ^ nx.length → (∀ v ∈ q, v < nx.length) → covS nx q b = full nx.length → ∃ p, rbF nx q.length b = some p := by
  intro q
  induction q with
  | nil =>
    intro b _ _ h
    have h' : b = full nx.length := h
    exact ⟨[], by rw [List.length_nil, rbF, if_pos h']⟩
  | cons v q ih =>
    intro b hb hq h
    have hv := hq v (by simp)
    rw [List.length_cons, rbF]
    have hp := covS_popc hn hx (v :: q) b hq
    rw [h, popc_full_self, List.length_cons] at hp
    rw [if_neg (by rw [popc16 hn hb]; omega)]
    obtain ⟨p, h2⟩ := ih (b ||| ball nx v q.length) (Nat.or_lt_two_pow hb (ball_lt hx hv _)) (fun u hu => hq u (by simp [hu])) h
    have : ((List.range nx.length).findSome? fun v => (rbF nx q.length (b ||| ball nx v q.length)).map fun l => v :: l) ≠ none := by
      intro hno
      rw [List.findSome?_eq_none_iff] at hno
      have := hno v (List.mem_range.2 hv)
      rw [h2] at this
      cases this
    exact Option.ne_none_iff_exists'.1 this
end
def Sym (nx : List Nat) : Prop := ∀ a b, a < nx.length → b < nx.length → (nx.getD a 0).testBit b = (nx.getD b 0).testBit a
/-- No edge leaves the set. -/
def Closed (nx : List Nat) (c : Nat) : Prop := ∀ a b, a < nx.length → b < nx.length → c.testBit a = true → (nx.getD a 0).testBit b = true → c.testBit b = true
section
variable {nx : List Nat}
theorem row_lt (hx : ∀ x ∈ nx, x < 2 ^ nx.length) {a b : Nat} (h : (nx.getD a 0).testBit b = true) : b < nx.length := by
  rw [List.getD_eq_getElem?_getD] at h
  rcases Nat.lt_or_ge a nx.length with ha | ha
  · rw [List.getElem?_eq_getElem ha] at h
    exact lt_of_bit (hx _ (List.getElem_mem ha)) h
  · rw [List.getElem?_eq_none ha] at h
    simp at h
theorem cloF_closed (hx : ∀ x ∈ nx, x < 2 ^ nx.length) : ∀ (k s R : Nat), cloF nx 0 k s = some R → Closed nx R := by
  intro k
  induction k with
  | zero => intro s R h; cases h
  | succ k ih =>
    intro s R h
    rw [cloF] at h
    split at h
    · rename_i e
      obtain rfl := Option.some.inj h
      intro a b ha hb h1 h2
      have h3 : (arnd nx s).testBit b = true := (arnd_bit_iff nx s b).2 (.inr ⟨a, ha, h1, h2⟩)
      have h4 : (diff (arnd nx s) 0).testBit b = true := by rw [testBit_diff, h3]; simp
      rwa [e] at h4
    · exact ih _ _ h
theorem Closed.ball {c : Nat} (hx : ∀ x ∈ nx, x < 2 ^ nx.length) (hc : Closed nx c) {v : Nat} (hv : v < nx.length) (h : c.testBit v = true) : ∀ r, sub (ball nx v r) c := by
  intro r
  induction r with
  | zero =>
    intro i hi
    rw [Wog.ball, testBit_two_pow] at hi
    have : v = i := by simpa using hi
    rw [← this]; exact h
  | succ r ih =>
    intro i hi
    rw [Wog.ball, arnd_bit_iff] at hi
    rcases hi with hi | ⟨a, ha, h1, h2⟩
    · exact ih i hi
    · exact hc a i ha (row_lt hx h2) (ih a h1) h2
theorem Closed.co {c : Nat} (hs : Sym nx) (hc : Closed nx c) : Closed nx (diff (full nx.length) c) := by
  intro a b ha hb h1 h2
  rw [testBit_diff, full_test, Bool.and_eq_true] at h1 ⊢
  refine ⟨decide_eq_true hb, ?_⟩
  cases h3 : c.testBit b with
  | false => rfl
  | true =>
    have := hc b a hb ha h3 (by rw [← hs a b ha hb]; exact h2)
    rw [this] at h1
    simp at h1
theorem ball_self (v : Nat) : ∀ r, (ball nx v r).testBit v = true
  | 0 => by rw [ball, testBit_two_pow]; simp
  | r + 1 => arnd_self nx _ v (ball_self v r)
/-- A ball that meets a closed set lies in it. -/
theorem Closed.ball_in {c : Nat} (hx : ∀ x ∈ nx, x < 2 ^ nx.length) (hs : Sym nx) (hc : Closed nx c) {v r u : Nat} (hv : v < nx.length) (h1 : (Wog.ball nx v r).testBit u = true) (h2 : c.testBit u = true) : sub (Wog.ball nx v r) c := by
  refine hc.ball hx hv ?_ r
  cases h3 : c.testBit v with
  | true => rfl
  | false =>
    have := (hc.co hs).ball hx hv (by rw [testBit_diff, full_test, h3]; simp [hv]) r u h1
    rw [testBit_diff, h2] at this
    simp at this
/-- Sets each of which lies in a closed set as soon as it meets it. -/
def Lumps (nx : List Nat) (L : List Nat) : Prop := ∀ s ∈ L, ∀ c u, Closed nx c → s.testBit u = true → c.testBit u = true → sub s c
theorem partsF_le (hn : nx.length ≤ 10) (hx : ∀ x ∈ nx, x < 2 ^ nx.length) : ∀ (k rest : Nat) (L : List Nat), rest < 2 ^ nx.length → Lumps nx L → (∀ i, rest.testBit i = true → ∃ s ∈ L, s.testBit i = true) → partsF nx k rest ≤ L.length := by
  intro k
  induction k with
  | zero => intro rest L _ _ _; rw [partsF]; omega
  | succ k ih =>
    intro rest L hr hL hcov
    rw [partsF]
    by_cases h0 : rest = 0
    · rw [if_pos h0]; omega
    · rw [if_neg h0]
      have hlow := low_is h0 (Nat.lt_of_lt_of_le hr (Nat.pow_le_pow_right (by omega) hn))
      have hv := lt_of_bit hr hlow.2
      obtain ⟨hR, hRl⟩ := reach_is hx (D := 0) hv (by simp)
      have hRc := cloF_closed hx _ _ _ hR
      have hRs := reach_self hx (D := 0) hv (by simp)
      obtain ⟨s, hs, hsu⟩ := hcov _ hlow.2
      have hsub := hL s hs _ _ hRc hsu hRs
      have := ih (diff rest (reachS nx 0 (low rest))) (L.erase s) (diff_le _ _ _ hr) (fun t ht => hL t (List.mem_of_mem_erase ht)) (fun i hi => by
        rw [testBit_diff, Bool.and_eq_true] at hi
        obtain ⟨t, ht, hti⟩ := hcov i hi.1
        refine ⟨t, ?_, hti⟩
        have hne : t ≠ s := by
          rintro rfl
          have := hsub i hti
          rw [this] at hi
          simp at hi
        exact (List.mem_erase_of_ne hne).2 ht)
      rw [List.length_erase_of_mem hs] at this
      have : 0 < L.length := List.length_pos_of_mem hs
      omega
/-- The balls of a sequence. -/
def ballsOf (nx : List Nat) : List Nat → List Nat
  | [] => []
  | v :: q => ball nx v q.length :: ballsOf nx q
theorem ballsOf_length : ∀ q : List Nat, (ballsOf nx q).length = q.length
  | [] => rfl
  | v :: q => by simp [ballsOf, ballsOf_length q]
theorem covS_bit : ∀ (q : List Nat) (b i : Nat), (covS nx q b).testBit i = true ↔ b.testBit i = true ∨ ∃ s ∈ ballsOf nx q, s.testBit i = true := by
  intro q
  induction q with
  | nil => intro b i; simp [covS, ballsOf]
  | cons v q ih =>
    intro b i
    rw [covS, ih, Nat.testBit_or, Bool.or_eq_true]
    constructor
    · rintro ((h | h) | ⟨s, hs, h⟩)
      · exact .inl h
      · exact .inr ⟨_, by simp [ballsOf], h⟩
      · exact .inr ⟨s, by simp [ballsOf, hs], h⟩
    · rintro (h | ⟨s, hs, h⟩)
      · exact .inl (.inl h)
      · rcases List.mem_cons.1 hs with rfl | hs
        · exact .inl (.inr h)
        · exact .inr ⟨s, hs, h⟩
theorem ballsOf_lumps (hx : ∀ x ∈ nx, x < 2 ^ nx.length) (hs : Sym nx) : ∀ q : List Nat, (∀ v ∈ q, v < nx.length) → Lumps nx (ballsOf nx q) := by
  intro q
  induction q with
  | nil => intro _ s h; simp [ballsOf] at h
  | cons v q ih =>
    intro hq s h c u hc h1 h2
    rcases List.mem_cons.1 h with rfl | h
    · exact hc.ball_in hx hs (hq v (by simp)) h1 h2
    · exact ih (fun w hw => hq w (by simp [hw])) s h c u hc h1 h2
theorem rbF_hop (hn : nx.length ≤ 10) (hx : ∀ x ∈ nx, x < 2 ^ nx.length) (hs : Sym nx) {k b : Nat} (hb : b < 2 ^ nx.length) (h : hopS nx b k = true) : rbF nx k b = none := by
  cases hq : rbF nx k b with
  | none => rfl
  | some q =>
    exfalso
    obtain ⟨h1, h2, h3⟩ := rbF_sound _ _ _ hq
    unfold hopS at h
    rw [Bool.or_eq_true] at h
    rcases h with h | h
    · have h4 := partsF_le hn hx nx.length (restS nx b) (ballsOf nx q) (restS_lt nx b) (ballsOf_lumps hx hs q h2) (fun i hi => by
        rw [restS_bit, Bool.and_eq_true] at hi
        have : (covS nx q b).testBit i = true := by rw [h3, full_test]; exact hi.1
        rcases (covS_bit q b i).1 this with h5 | h5
        · rw [h5] at hi; simp at hi
        · exact h5)
      rw [ballsOf_length, h1] at h4
      have := of_decide_eq_true h
      omega
    · have h4 := covS_popc (by omega) hx q b h2
      rw [h3, popc_full_self, h1, ← popc16 (by omega) hb] at h4
      have := of_decide_eq_true h
      omega
theorem ballsOf_or_full (hx : ∀ x ∈ nx, x < 2 ^ nx.length) {v r : Nat} (hv : v < nx.length) : full nx.length ||| ball nx v r = full nx.length :=
  full_of_sub (Nat.or_lt_two_pow (full_lt _) (ball_lt hx hv r)) (sub_or_left _ _)
theorem rbF_full (hn : nx.length ≤ 10) (hx : ∀ x ∈ nx, x < 2 ^ nx.length) (h0 : 0 < nx.length) : ∀ k, rbF nx k (full nx.length) = some (List.replicate k 0) := by
  intro k
  induction k with
  | zero => rw [rbF, if_pos rfl]; rfl
  | succ k ih =>
    rw [rbF, if_neg (by rw [popc16 (by omega) (full_lt _), popc_full_self]; omega)]
    obtain ⟨m, hm⟩ := Nat.exists_eq_succ_of_ne_zero (Nat.pos_iff_ne_zero.1 h0)
    have e : List.range nx.length = 0 :: (List.range m).map Nat.succ := by rw [hm, List.range_succ_eq_map]
    rw [e, List.findSome?_cons, ballsOf_or_full hx h0, ih]
    rfl
/-- The program's search is the reference's. -/
theorem findS_rbF (hn : nx.length ≤ 10) (hx : ∀ x ∈ nx, x < 2 ^ nx.length) (hs : Sym nx) (h0 : 0 < nx.length) : ∀ (k b : Nat), b < 2 ^ nx.length → findS nx k b = rbF nx k b := by
  intro k
  induction k with
  | zero =>
    intro b hb
    rw [findS, rbF]
    by_cases h : b = full nx.length
    · rw [if_pos ((popc16_full (by omega) hb).2 h), if_pos h]
    · rw [if_neg (fun h' => h ((popc16_full (by omega) hb).1 h')), if_neg h]
  | succ k ih =>
    intro b hb
    by_cases h : b = full nx.length
    · rw [findS, if_pos ((popc16_full (by omega) hb).2 h), h, rbF_full hn hx h0]
    · rw [findS, if_neg (fun h' => h ((popc16_full (by omega) hb).1 h'))]
      by_cases hh : hopS nx b (k + 1) = true
      · rw [if_pos hh, rbF_hop hn hx hs hb hh]
      · rw [if_neg hh, rbF]
        have : ¬ ((roomS nx (k + 1) : Int) < (nx.length : Int) - (popc 16 b : Nat)) := by
          intro hlt
          apply hh
          unfold hopS
          rw [decide_eq_true hlt, Bool.or_true]
        rw [if_neg this]
        have : ∀ l : List Nat, (∀ v ∈ l, v < nx.length) → (l.findSome? fun v => (findS nx k (b ||| ball nx v k)).map fun l => v :: l) = l.findSome? fun v => (rbF nx k (b ||| ball nx v k)).map fun l => v :: l := by
          intro l
          induction l with
          | nil => intro _; rfl
          | cons v l ihl =>
            intro hl
            rw [List.findSome?_cons, List.findSome?_cons, ih _ (Nat.or_lt_two_pow hb (ball_lt hx (hl v (by simp)) k)), ihl (fun u hu => hl u (by simp [hu]))]
        exact this _ (fun v hv => List.mem_range.1 hv)
/-- All vertices in turn burn the graph. -/
theorem cov_range (hx : ∀ x ∈ nx, x < 2 ^ nx.length) : covS nx (List.range nx.length) 0 = full nx.length := by
  have hlt := covS_lt hx (List.range nx.length) 0 (fun v hv => List.mem_range.1 hv) (Nat.two_pow_pos _)
  refine full_of_sub hlt (fun i hi => ?_)
  rw [full_test] at hi
  have hi' : i < nx.length := by simpa using hi
  rw [covS_bit]
  right
  have : ∀ q : List Nat, i ∈ q → ∃ s ∈ ballsOf nx q, s.testBit i = true := by
    intro q
    induction q with
    | nil => intro h; cases h
    | cons v q ih =>
      intro h
      rcases List.mem_cons.1 h with rfl | h
      · exact ⟨ball nx i q.length, by simp [ballsOf], ball_self _ _⟩
      · obtain ⟨s, h1, h2⟩ := ih h
        exact ⟨s, by simp [ballsOf, h1], h2⟩
  exact this _ (List.mem_range.2 hi')
/-- The first shortest sequence: it is one, and none is shorter. -/
theorem burnS_spec (hn : nx.length ≤ 10) (hx : ∀ x ∈ nx, x < 2 ^ nx.length) (hs : Sym nx) (h0 : 0 < nx.length) : ∃ q, burnS nx = some q ∧ 1 ≤ q.length ∧ q.length ≤ nx.length ∧ (∀ v ∈ q, v < nx.length) ∧ covS nx q 0 = full nx.length ∧ (∀ p : List Nat, 1 ≤ p.length → (∀ v ∈ p, v < nx.length) → covS nx p 0 = full nx.length → q.length ≤ p.length) ∧ rbF nx q.length 0 = some q ∧ ∀ j, 1 ≤ j → j < q.length → rbF nx j 0 = none := by
  have hsome : burnS nx ≠ none := by
    intro hno
    unfold burnS at hno
    rw [List.findSome?_eq_none_iff] at hno
    obtain ⟨m, hm⟩ := Nat.exists_eq_succ_of_ne_zero (Nat.pos_iff_ne_zero.1 h0)
    have h1 := hno m (List.mem_range.2 (by omega))
    obtain ⟨p, hp⟩ := rbF_complete (by omega) hx (List.range nx.length) 0 (Nat.two_pow_pos _) (fun v hv => List.mem_range.1 hv) (cov_range hx)
    rw [findS_rbF hn hx hs h0 _ _ (Nat.two_pow_pos _)] at h1
    rw [List.length_range, hm] at hp
    rw [hp] at h1
    cases h1
  obtain ⟨q, hq⟩ := Option.ne_none_iff_exists'.1 hsome
  refine ⟨q, hq, ?_⟩
  unfold burnS at hq
  obtain ⟨l1, j, l2, hl, h1, h2⟩ := List.findSome?_eq_some_iff.1 hq
  rw [findS_rbF hn hx hs h0 _ _ (Nat.two_pow_pos _)] at h1
  obtain ⟨e1, e2, e3⟩ := rbF_sound _ _ _ h1
  have hj : j < nx.length := List.mem_range.1 (by rw [hl]; simp)
  have hj1 : l1.length = j ∧ l1 = List.range j := by
    have hr : List.range nx.length = List.range j ++ (List.range nx.length).drop j := by
      have := List.take_append_drop j (List.range nx.length)
      rw [List.take_range, Nat.min_eq_left (by omega)] at this
      exact this.symm
    have hlen : l1.length < nx.length := by
      have := congrArg List.length hl
      simp at this
      omega
    have hget : (List.range nx.length)[l1.length]? = some j := by rw [hl]; simp
    rw [List.getElem?_range hlen] at hget
    have hlj : l1.length = j := Option.some.inj hget
    refine ⟨hlj, ?_⟩
    have := congrArg (List.take j) hl
    rw [List.take_range, Nat.min_eq_left (by omega), ← hlj, List.take_left'] at this
    · rw [← hlj]; exact this.symm
    · rfl
  have hnone : ∀ i, 1 ≤ i → i < j + 1 → rbF nx i 0 = none := by
    intro i hi1 hij
    have := h2 (i - 1) (by rw [hj1.2]; exact List.mem_range.2 (by omega))
    rw [findS_rbF hn hx hs h0 _ _ (Nat.two_pow_pos _), show i - 1 + 1 = i by omega] at this
    exact this
  refine ⟨by omega, by omega, e2, e3, fun p hp1 hp2 hp3 => ?_, by rw [e1]; exact h1, fun i hi1 hi2 => hnone i hi1 (by omega)⟩
  rcases Nat.lt_or_ge p.length q.length with h | h
  · obtain ⟨p', hp'⟩ := rbF_complete (by omega) hx p 0 (Nat.two_pow_pos _) hp2 hp3
    rw [hnone p.length hp1 (by omega)] at hp'
    cases hp'
  · exact h
end
end Wog
end
section
namespace Wog
set_option linter.unusedVariables false
/-- What burns in the end, by a plan; none: it is no plan. -/
def endB (nx : List Nat) : List Int → Nat → Nat → Option Nat
  | [], B, D => cloF nx D (nx.length + 1) B
  | d :: p, B, D => if 0 ≤ d ∧ d < nx.length ∧ (B ||| D).testBit d.toNat = false then endB nx p (B ||| moreS nx B (D ||| 2 ^ d.toNat)) (D ||| 2 ^ d.toNat) else none
theorem disj_or {a b c : Nat} (h : disj a b) (k : disj a c) : disj a (b ||| c) := fun i hi => by rw [Nat.testBit_or, h i hi, k i hi]; rfl
theorem or_disj {a b c : Nat} (h : disj a c) (k : disj b c) : disj (a ||| b) c := fun i hi => by
  rw [Nat.testBit_or, Bool.or_eq_true] at hi
  exact hi.elim (h i) (k i)
theorem disj_one {a d : Nat} (h : a.testBit d = false) : disj a (2 ^ d) := fun i hi => by
  rw [testBit_two_pow]
  apply decide_eq_false
  rintro rfl
  rw [h] at hi
  cases hi
section
variable {nx : List Nat}
theorem moreS_disj (B D : Nat) : disj (moreS nx B D) D := fun i hi => by
  rw [moreS_bit] at hi
  simp at hi
  simpa using hi.2
theorem step_eq {B D : Nat} (h : disj B D) : B ||| moreS nx B D = diff (arnd nx B) D := by
  apply Nat.eq_of_testBit_eq
  intro i
  rw [Nat.testBit_or, moreS_bit, testBit_diff]
  cases hb : B.testBit i with
  | true => rw [arnd_self nx B i hb, h i hb]; rfl
  | false => simp
theorem valid_split {B D d : Nat} (h : (B ||| D).testBit d = false) : B.testBit d = false ∧ D.testBit d = false := by
  rw [Nat.testBit_or, Bool.or_eq_false_iff] at h
  exact h
theorem cloF_det {D k k' s r r' : Nat} (h : cloF nx D k s = some r) (h' : cloF nx D k' s = some r') : r = r' := by
  rcases Nat.le_total k k' with hk | hk
  · have := cloF_le hk h
    rw [this] at h'
    exact Option.some.inj h'
  · have := cloF_le hk h'
    rw [this] at h
    exact (Option.some.inj h).symm
theorem cloF_fix {D : Nat} : ∀ (k s R : Nat), cloF nx D k s = some R → diff (arnd nx R) D = R := by
  intro k
  induction k with
  | zero => intro s R h; cases h
  | succ k ih =>
    intro s R h
    rw [cloF] at h
    split at h
    · obtain rfl := Option.some.inj h; assumption
    · exact ih _ _ h
theorem endB_sup : ∀ (p : List Int) (B D e : Nat), disj B D → endB nx p B D = some e → sub B e := by
  intro p
  induction p with
  | nil => intro B D e hd h; exact cloF_sup _ _ _ hd h
  | cons d p ih =>
    intro B D e hd h
    rw [endB] at h
    split at h
    · rename_i hv
      obtain ⟨h1, h2⟩ := valid_split hv.2.2
      exact sub_trans (sub_or_left _ _) (ih _ _ _ (or_disj (disj_or hd (disj_one h1)) (moreS_disj _ _)) h)
    · cases h
theorem endB_lt (hx : ∀ x ∈ nx, x < 2 ^ nx.length) : ∀ (p : List Int) (B D e : Nat), B < 2 ^ nx.length → disj B D → endB nx p B D = some e → e < 2 ^ nx.length := by
  intro p
  induction p with
  | nil =>
    intro B D e hB hd h
    obtain ⟨R, h1, h2, _⟩ := cloF_some hx nx.length B hB hd (zer_le _ _)
    rw [show endB nx [] B D = cloF nx D (nx.length + 1) B from rfl, h1] at h
    obtain rfl := Option.some.inj h
    exact h2
  | cons d p ih =>
    intro B D e hB hd h
    rw [endB] at h
    split at h
    · rename_i hv
      obtain ⟨h1, h2⟩ := valid_split hv.2.2
      exact ih _ _ _ (Nat.or_lt_two_pow hB (moreS_lt hx hB _)) (or_disj (disj_or hd (disj_one h1)) (moreS_disj _ _)) h
    · cases h
theorem pick_or (p q : Int × List Int) : pick p q = p ∨ pick p q = q := by
  unfold pick
  split
  · exact .inl rfl
  · exact .inr rfl
theorem pick_ge (p q : Int × List Int) : p.1 ≤ (pick p q).1 ∧ q.1 ≤ (pick p q).1 := by
  by_cases e : p.1 = q.1
  · rcases pick_or p q with h | h <;> rw [h] <;> omega
  · unfold pick betterP
    simp only [if_neg e]
    by_cases h : q.1 < p.1
    · rw [decide_eq_true h, if_pos rfl]; exact ⟨Int.le_refl _, by omega⟩
    · rw [decide_eq_false h, if_neg (by simp)]; exact ⟨by omega, Int.le_refl _⟩
theorem foldl_none {rec : Nat → Nat → Option (Int × List Int)} {B D : Nat} (L : List Nat) : L.foldl (stepO rec nx B D) none = none := by
  induction L with
  | nil => rfl
  | cons d L ih => rw [List.foldl_cons]; exact ih
theorem foldl_stepO_spec {rec : Nat → Nat → Option (Int × List Int)} {B D : Nat} (Q : Int × List Int → Prop) :
    ∀ (L : List Nat) (o out : Int × List Int), L.foldl (stepO rec nx B D) (some o) = some out → Q o →
      (∀ d ∈ L, (B ||| D).testBit d = false → ∀ q, rec (diff (arnd nx B) (D ||| 2 ^ d)) (D ||| 2 ^ d) = some q → Q (q.1, (d : Int) :: q.2)) →
      Q out ∧ o.1 ≤ out.1 ∧ ∀ d ∈ L, (B ||| D).testBit d = false → ∃ q, rec (diff (arnd nx B) (D ||| 2 ^ d)) (D ||| 2 ^ d) = some q ∧ q.1 ≤ out.1 := by
  intro L
  induction L with
  | nil =>
    intro o out h hq _
    obtain rfl := Option.some.inj h
    exact ⟨hq, Int.le_refl _, by simp⟩
  | cons d L ih =>
    intro o out h hq hall
    rw [List.foldl_cons] at h
    by_cases hb : (B ||| D).testBit d = true
    · rw [show stepO rec nx B D (some o) d = some o by simp [stepO, hb]] at h
      obtain ⟨h1, h2, h3⟩ := ih o out h hq (fun d' hd => hall d' (by simp [hd]))
      refine ⟨h1, h2, fun d' hd hb' => ?_⟩
      rcases List.mem_cons.1 hd with rfl | hd
      · rw [hb] at hb'; cases hb'
      · exact h3 d' hd hb'
    · rw [Bool.not_eq_true] at hb
      cases hr : rec (diff (arnd nx B) (D ||| 2 ^ d)) (D ||| 2 ^ d) with
      | none =>
        rw [show stepO rec nx B D (some o) d = none by simp [stepO, hb, hr], foldl_none] at h
        cases h
      | some q =>
        rw [show stepO rec nx B D (some o) d = some (pick (q.1, (d : Int) :: q.2) o) by simp [stepO, hb, hr]] at h
        have hQ : Q (pick (q.1, (d : Int) :: q.2) o) := by
          rcases pick_or (q.1, (d : Int) :: q.2) o with e | e
          · rw [e]; exact hall d (by simp) hb q hr
          · rw [e]; exact hq
        obtain ⟨h1, h2, h3⟩ := ih _ out h hQ (fun d' hd => hall d' (by simp [hd]))
        have hp := pick_ge (q.1, (d : Int) :: q.2) o
        refine ⟨h1, Int.le_trans hp.2 h2, fun d' hd hb' => ?_⟩
        rcases List.mem_cons.1 hd with rfl | hd
        · exact ⟨q, hr, Int.le_trans hp.1 h2⟩
        · exact h3 d' hd hb'
def Attains (nx : List Nat) (B D : Nat) (o : Int × List Int) : Prop := ∃ e, endB nx o.2 B D = some e ∧ o.1 = (nx.length : Int) - ((popc 16 e : Nat) : Int)
theorem bestF_attains (hx : ∀ x ∈ nx, x < 2 ^ nx.length) : ∀ (k B D : Nat) (out : Int × List Int), B < 2 ^ nx.length → disj B D → bestF nx k B D = some out → Attains nx B D out := by
  intro k
  induction k with
  | zero => intro B D out _ _ h; cases h
  | succ k ih =>
    intro B D out hB hd h
    rw [bestF] at h
    obtain ⟨R, hR, h⟩ := Option.bind_eq_some_iff.1 h
    have hR2 : cloF nx D (nx.length + 1) B = some R := by
      obtain ⟨R', h1, _⟩ := cloF_some hx nx.length B hB hd (zer_le _ _)
      rw [h1, cloF_det h1 hR]
    have hQ0 : Attains nx B D ((nx.length : Int) - ((popc 16 R : Nat) : Int), []) := ⟨R, hR2, rfl⟩
    split at h
    · obtain rfl := Option.some.inj h; exact hQ0
    · refine (foldl_stepO_spec (Attains nx B D) _ _ _ h hQ0 (fun d hdm hb q hq => ?_)).1
      obtain ⟨h1, h2⟩ := valid_split hb
      have hdn : d < nx.length := List.mem_range.1 hdm
      have hd' : disj B (D ||| 2 ^ d) := disj_or hd (disj_one h1)
      obtain ⟨e, h3, h4⟩ := ih _ _ _ (diff_le _ _ _ (arnd_lt hx hB)) (disj_diff _ _) hq
      refine ⟨e, ?_, h4⟩
      show endB nx ((d : Int) :: q.2) B D = some e
      rw [endB, if_pos ⟨by omega, by omega, by rw [Int.toNat_natCast]; exact hb⟩, Int.toNat_natCast, step_eq hd']
      exact h3
theorem bestF_ge (hx : ∀ x ∈ nx, x < 2 ^ nx.length) : ∀ (k B D : Nat) (out : Int × List Int), B < 2 ^ nx.length → disj B D → bestF nx k B D = some out → ∀ p e, endB nx p B D = some e → (nx.length : Int) - ((popc 16 e : Nat) : Int) ≤ out.1 := by
  intro k
  induction k with
  | zero => intro B D out _ _ h; cases h
  | succ k ih =>
    intro B D out hB hd h p e he
    rw [bestF] at h
    obtain ⟨R, hR, h⟩ := Option.bind_eq_some_iff.1 h
    split at h
    · rename_i hRB
      obtain rfl := Option.some.inj h
      have := popc_mono 16 (endB_sup p B D e hd he)
      rw [hRB]
      show (nx.length : Int) - _ ≤ (nx.length : Int) - _
      omega
    · obtain ⟨_, h1, h2⟩ := foldl_stepO_spec (fun _ => True) _ _ _ h trivial (fun _ _ _ _ _ => trivial)
      cases p with
      | nil =>
        have he' : cloF nx D (nx.length + 1) B = some e := he
        rw [← cloF_det hR he']
        exact h1
      | cons d p =>
        rw [endB] at he
        split at he
        · rename_i hv
          obtain ⟨h3, h4⟩ := valid_split hv.2.2
          have hd' : disj B (D ||| 2 ^ d.toNat) := disj_or hd (disj_one h3)
          obtain ⟨q, h5, h6⟩ := h2 d.toNat (List.mem_range.2 (by omega)) hv.2.2
          rw [step_eq hd'] at he
          exact Int.le_trans (ih _ _ _ (diff_le _ _ _ (arnd_lt hx hB)) (disj_diff _ _) h5 p e he) h6
        · cases he
end
structure Sim (nx nx' : List Nat) (dom : Nat → Prop) (f : Nat → Nat) : Prop where
  lt : ∀ u, dom u → u < nx'.length ∧ f u < nx.length
  inj : ∀ u v, dom u → dom v → f u = f v → u = v
  adj : ∀ u v, dom u → (nx'.getD u 0).testBit v = true → dom v ∧ (nx.getD (f u) 0).testBit (f v) = true
/-- What burns there lies over what burns here; what is defended here is defended there. -/
def Over (dom : Nat → Prop) (f : Nat → Nat) (B B' : Nat) : Prop := ∀ u, B'.testBit u = true → dom u ∧ B.testBit (f u) = true
theorem length_le_of_subset : ∀ {l m : List Nat}, l.Nodup → (∀ x ∈ l, x ∈ m) → l.length ≤ m.length := by
  intro l
  induction l with
  | nil => intro m _ _; simp
  | cons a l ih =>
    intro m hn hs
    rw [List.nodup_cons] at hn
    have ha := hs a (by simp)
    have := ih (m := m.erase a) hn.2 (fun x hx => by
      refine (List.mem_erase_of_ne ?_).2 (hs x (by simp [hx]))
      rintro rfl
      exact hn.1 hx)
    rw [List.length_erase_of_mem ha] at this
    have : 0 < m.length := List.length_pos_of_mem ha
    simp
    omega
theorem popc_map {n n' e e' : Nat} {dom : Nat → Prop} {f : Nat → Nat} (hinj : ∀ u v, dom u → dom v → f u = f v → u = v) (hlt : ∀ u, dom u → f u < n) (h : Over dom f e e') : popc n' e' ≤ popc n e := by
  unfold popc
  rw [List.countP_eq_length_filter, List.countP_eq_length_filter]
  have h1 : (((List.range n').filter (fun i => e'.testBit i)).map f).Nodup := by
    refine (List.pairwise_map).2 ?_
    refine List.Pairwise.imp_of_mem ?_ (List.nodup_range.filter (fun i => e'.testBit i))
    intro a b ha hb hne hf
    exact hne (hinj a b (h a (by simpa using (List.mem_filter.1 ha).2)).1 (h b (by simpa using (List.mem_filter.1 hb).2)).1 hf)
  have h2 := length_le_of_subset (m := (List.range n).filter (fun i => e.testBit i)) h1 (fun x hx => by
    obtain ⟨u, hu, rfl⟩ := List.mem_map.1 hx
    have := h u (by simpa using (List.mem_filter.1 hu).2)
    exact List.mem_filter.2 ⟨List.mem_range.2 (hlt u this.1), this.2⟩)
  simpa using h2
section
variable {nx nx' : List Nat} {dom : Nat → Prop} {f : Nat → Nat}
theorem Sim.clo (hS : Sim nx nx' dom f) (hx' : ∀ x ∈ nx', x < 2 ^ nx'.length) {D D' e : Nat} (hD : ∀ u, dom u → D.testBit (f u) = true → D'.testBit u = true) (he : diff (arnd nx e) D = e) :
    ∀ (k s' R' : Nat), Over dom f e s' → cloF nx' D' k s' = some R' → Over dom f e R' := by
  intro k
  induction k with
  | zero => intro s' R' _ h; cases h
  | succ k ih =>
    intro s' R' ho h
    rw [cloF] at h
    split at h
    · obtain rfl := Option.some.inj h; exact ho
    · refine ih _ _ (fun u hu => ?_) h
      rw [testBit_diff, Bool.and_eq_true, arnd_bit_iff] at hu
      obtain ⟨h1, h2⟩ := hu
      rcases h1 with h1 | ⟨v, hv, h3, h4⟩
      · exact ho u h1
      · obtain ⟨k1, k2⟩ := ho v h3
        obtain ⟨k3, k4⟩ := hS.adj v u k1 h4
        refine ⟨k3, ?_⟩
        rw [← he, testBit_diff, (arnd_bit_iff nx e (f u)).2 (.inr ⟨f v, (hS.lt v k1).2, k2, k4⟩)]
        cases h5 : D.testBit (f u) with
        | false => rfl
        | true => rw [hD u k3 h5] at h2; simp at h2
theorem Sim.plan (hS : Sim nx nx' dom f) (hx : ∀ x ∈ nx, x < 2 ^ nx.length) (hx' : ∀ x ∈ nx', x < 2 ^ nx'.length) :
    ∀ (p : List Int) (B D e B' D' : Nat), endB nx p B D = some e → disj B D → disj B' D' → B' < 2 ^ nx'.length → Over dom f B B' → (∀ u, dom u → D.testBit (f u) = true → D'.testBit u = true) →
      ∃ p' e', endB nx' p' B' D' = some e' ∧ Over dom f e e' := by
  intro p
  induction p with
  | nil =>
    intro B D e B' D' he hd hd' hB' ho hD
    have he' : cloF nx D (nx.length + 1) B = some e := he
    obtain ⟨R', hR', _, _⟩ := cloF_some hx' nx'.length B' hB' hd' (zer_le _ _)
    have hs := cloF_sup _ _ _ hd he'
    exact ⟨[], R', hR', hS.clo hx' hD (cloF_fix _ _ _ he') _ _ _ (fun u hu => ⟨(ho u hu).1, hs _ (ho u hu).2⟩) hR'⟩
  | cons d p ih =>
    intro B D e B' D' he hd hd' hB' ho hD
    have hBe := endB_sup _ _ _ _ hd he
    rw [endB] at he
    split at he
    · rename_i hv
      obtain ⟨h1, h2⟩ := valid_split hv.2.2
      have hdd : disj B (D ||| 2 ^ d.toNat) := disj_or hd (disj_one h1)
      -- a move u there: all that the relation asks
      have step : ∀ u, u < nx'.length → B'.testBit u = false → D'.testBit u = false → (∀ x, dom x → f x = d.toNat → x = u ∨ D'.testBit x = true) →
          ∃ p' e', endB nx' p' B' D' = some e' ∧ Over dom f e e' := by
        intro u hu hB hDu hx2
        have hdu : disj B' (D' ||| 2 ^ u) := disj_or hd' (disj_one hB)
        obtain ⟨p', e', h3, h4⟩ := ih _ _ e (B' ||| moreS nx' B' (D' ||| 2 ^ u)) (D' ||| 2 ^ u) he (or_disj hdd (moreS_disj _ _)) (or_disj hdu (moreS_disj _ _)) (Nat.or_lt_two_pow hB' (moreS_lt hx' hB' _))
          (fun x hxb => by
            rw [Nat.testBit_or, Bool.or_eq_true] at hxb
            rcases hxb with hxb | hxb
            · exact ⟨(ho x hxb).1, sub_or_left _ _ _ (ho x hxb).2⟩
            · rw [moreS_bit, Bool.and_eq_true, Bool.and_eq_true, arnd_bit_iff] at hxb
              obtain ⟨⟨k1, k2⟩, k3⟩ := hxb
              rcases k1 with k1 | ⟨v, hv', k4, k5⟩
              · rw [k1] at k2; simp at k2
              · obtain ⟨k6, k7⟩ := ho v k4
                obtain ⟨k8, k9⟩ := hS.adj v x k6 k5
                refine ⟨k8, ?_⟩
                rw [Nat.testBit_or, moreS_bit, (arnd_bit_iff nx B (f x)).2 (.inr ⟨f v, (hS.lt v k6).2, k7, k9⟩)]
                have k10 : (D' ||| 2 ^ u).testBit x = false := by simpa using k3
                rw [Nat.testBit_or, Bool.or_eq_false_iff, testBit_two_pow] at k10
                have k11 : (D ||| 2 ^ d.toNat).testBit (f x) = false := by
                  rw [Nat.testBit_or, Bool.or_eq_false_iff, testBit_two_pow]
                  refine ⟨?_, ?_⟩
                  · cases h5 : D.testBit (f x) with
                    | false => rfl
                    | true => rw [hD x k8 h5] at k10; exact absurd k10.1 (by simp)
                  · apply decide_eq_false
                    intro h5
                    rcases hx2 x k8 h5.symm with h6 | h6
                    · rw [h6] at k10; simp at k10
                    · rw [h6] at k10; exact absurd k10.1 (by simp)
                rw [k11]
                cases B.testBit (f x) <;> simp)
          (fun x hxd hxD => by
            rw [Nat.testBit_or, Bool.or_eq_true, testBit_two_pow] at hxD
            rcases hxD with hxD | hxD
            · exact sub_or_left _ _ _ (hD x hxd hxD)
            · have h5 : d.toNat = f x := by simpa using hxD
              rcases hx2 x hxd h5.symm with h6 | h6
              · rw [h6, Nat.testBit_or, testBit_two_pow]; simp
              · exact sub_or_left _ _ _ h6)
        refine ⟨(u : Int) :: p', e', ?_, h4⟩
        rw [endB, if_pos ⟨by omega, by omega, by rw [Int.toNat_natCast, Nat.testBit_or, hB, hDu]; rfl⟩, Int.toNat_natCast]
        exact h3
      by_cases hi : ∃ u, dom u ∧ f u = d.toNat ∧ B'.testBit u = false ∧ D'.testBit u = false
      · obtain ⟨u, hu1, hu2, hu3, hu4⟩ := hi
        exact step u (hS.lt u hu1).1 hu3 hu4 (fun x hxd hxf => .inl (hS.inj x u hxd hu1 (hxf.trans hu2.symm)))
      · have hno : ∀ x, dom x → f x = d.toNat → D'.testBit x = true := by
          intro x hxd hxf
          cases h5 : D'.testBit x with
          | true => rfl
          | false =>
            cases h6 : B'.testBit x with
            | false => exact absurd ⟨x, hxd, hxf, h6, h5⟩ hi
            | true => have := (ho x h6).2; rw [hxf, h1] at this; cases this
        by_cases hj : ∃ u, u < nx'.length ∧ B'.testBit u = false ∧ D'.testBit u = false
        · obtain ⟨u, hu1, hu2, hu3⟩ := hj
          exact step u hu1 hu2 hu3 (fun x hxd hxf => .inr (hno x hxd hxf))
        · refine ⟨[], B', ?_, fun u hu => ⟨(ho u hu).1, hBe _ (ho u hu).2⟩⟩
          rw [endB, cloF, if_pos]
          refine ext_lt (diff_le _ _ _ (arnd_lt hx' hB')) hB' (fun i hi' => ?_)
          rw [testBit_diff]
          cases h5 : B'.testBit i with
          | true => rw [arnd_self nx' B' i h5, hd' i h5]; rfl
          | false =>
            have h6 : D'.testBit i = true := by
              cases h7 : D'.testBit i with
              | true => rfl
              | false => exact absurd ⟨i, hi', h5, h7⟩ hj
            rw [h6]; simp
    · cases he
/-- By a map from one graph to another one: no more burns there. -/
theorem Sim.best (hS : Sim nx nx' dom f) (hn : nx.length ≤ 10) (hn' : nx'.length ≤ 10) (hx : ∀ x ∈ nx, x < 2 ^ nx.length) (hx' : ∀ x ∈ nx', x < 2 ^ nx'.length) {g' : Nat} (hg : dom g') {k k' : Nat} {o o' : Int × List Int}
    (h : bestF nx k (2 ^ f g') 0 = some o) (h' : bestF nx' k' (2 ^ g') 0 = some o') : o.1 - (nx.length : Int) ≤ o'.1 - (nx'.length : Int) := by
  have hl := hS.lt g' hg
  have hz : ∀ a, disj a 0 := fun a i _ => by simp
  have hB : 2 ^ f g' < 2 ^ nx.length := Nat.pow_lt_pow_right (by omega) hl.2
  have hB' : 2 ^ g' < 2 ^ nx'.length := Nat.pow_lt_pow_right (by omega) hl.1
  obtain ⟨e, h1, h2⟩ := bestF_attains hx _ _ _ _ hB (hz _) h
  obtain ⟨p', e', h3, h4⟩ := hS.plan hx hx' o.2 _ _ e (2 ^ g') 0 h1 (hz _) (hz _) hB' (fun u hu => by
    rw [testBit_two_pow] at hu
    have : g' = u := by simpa using hu
    subst this
    exact ⟨hg, by rw [testBit_two_pow]; simp⟩) (fun u _ hu => by simp at hu)
  have h5 := bestF_ge hx' _ _ _ _ hB' (hz _) h' p' e' h3
  have h6 := popc_map (n := nx.length) (n' := nx'.length) hS.inj (fun u hu => (hS.lt u hu).2) h4
  rw [← popc16 (by omega) (endB_lt hx' _ _ _ _ hB' (hz _) h3), ← popc16 (by omega) (endB_lt hx _ _ _ _ hB (hz _) h1)] at h6
  omega
end
end Wog
end
