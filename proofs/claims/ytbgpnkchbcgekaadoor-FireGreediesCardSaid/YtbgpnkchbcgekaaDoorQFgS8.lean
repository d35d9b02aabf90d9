/- Texts of this claim, joined: S1, S2, S3, S4, S5, S6, S7, S8 -/
import Derived.Laws.BitsAllLaws
import Derived.Lib.Tables
import Derived.Test.YtbgpnkchbcgekaaDoorQFgWMore
section
namespace Wog
open Go.Proofs.YtbgpnkchbcgekaaDoorW.PrintWords Go.Proofs.YtbgpnkchbcgekaaDoorW.PrintMore
set_option linter.unusedVariables false
/-- How many of the first m bits are set. -/
def popc (m a : Nat) : Nat := (List.range m).countP (fun i => a.testBit i)
/-- The members of a that b lacks. -/
def diff (a b : Nat) : Nat := a ^^^ (a &&& b)
theorem testBit_diff (a b i : Nat) : (diff a b).testBit i = (a.testBit i && !b.testBit i) := by
  unfold diff
  rw [Nat.testBit_xor, Nat.testBit_and]
  cases a.testBit i <;> cases b.testBit i <;> rfl
theorem diff_le (a b n : Nat) (h : a < 2 ^ n) : diff a b < 2 ^ n := by
  unfold diff
  exact Nat.xor_lt_two_pow h (Nat.lt_of_le_of_lt Nat.and_le_left h)
theorem ext_lt {a b n : Nat} (h : a < 2 ^ n) (k : b < 2 ^ n) (e : ∀ i, i < n → a.testBit i = b.testBit i) : a = b := by
  apply Nat.eq_of_testBit_eq
  intro i
  rcases Nat.lt_or_ge i n with hi | hi
  · exact e i hi
  · rw [Nat.testBit_lt_two_pow (Nat.lt_of_lt_of_le h (Nat.pow_le_pow_right (by omega) hi)), Nat.testBit_lt_two_pow (Nat.lt_of_lt_of_le k (Nat.pow_le_pow_right (by omega) hi))]
theorem testBit_two_pow (i j : Nat) : (2 ^ i).testBit j = decide (i = j) := by
  rw [Nat.testBit_two_pow]
theorem lt_of_bit {a n i : Nat} (h : a < 2 ^ n) (hi : a.testBit i = true) : i < n := by
  rcases Nat.lt_or_ge i n with h1 | h1
  · exact h1
  · rw [Nat.testBit_lt_two_pow (Nat.lt_of_lt_of_le h (Nat.pow_le_pow_right (by omega) h1))] at hi
    cases hi
theorem zero_of_bits {a : Nat} (h : ∀ i, a.testBit i = false) : a = 0 := by
  apply Nat.eq_of_testBit_eq
  intro i
  rw [h i, Nat.zero_testBit]
theorem or16 (a b : Nat) (ha : a < 65536) (hb : b < 65536) : Go.bits .or .u16 (a : Int) (b : Int) = ((a ||| b : Nat) : Int) := Go.u16_or_nat a b ha hb
theorem andNot16 (a b : Nat) (ha : a < 65536) (hb : b < 65536) : Go.bits .andNot .u16 (a : Int) (b : Int) = ((diff a b : Nat) : Int) := by
  rw [Go.u16_andNot_nat a b ha hb]
  congr 1
  apply Nat.eq_of_testBit_eq
  intro i
  rw [Nat.testBit_and, testBit_diff, show 65535 - b = 2 ^ 16 - (b + 1) from by omega, Nat.testBit_two_pow_sub_succ (by omega)]
  rcases Nat.lt_or_ge i 16 with h | h
  · simp [h]
  · rw [Nat.testBit_lt_two_pow (Nat.lt_of_lt_of_le (show a < 2 ^ 16 by omega) (Nat.pow_le_pow_right (by omega) h))]
    simp
theorem two_pow_cast (i : Nat) : (2 : Int) ^ i = ((2 ^ i : Nat) : Int) := by rw [Int.natCast_pow]; rfl
theorem shr16 (a i : Nat) : shr .u16 (a : Int) (i : Int) = ((a / 2 ^ min i 16 : Nat) : Int) := by
  unfold shr
  rw [Int.toNat_natCast]
  show (a : Int) / 2 ^ min i 16 = _
  rw [Int.natCast_ediv, Int.natCast_pow]
  rfl
theorem has16 (a i : Nat) (ha : a < 65536) : Go.bits .and .u16 (shr .u16 (a : Int) (i : Int)) 1 = (((a.testBit i).toNat : Nat) : Int) := by
  rw [shr16]
  have h1 : a / 2 ^ min i 16 < 65536 := Nat.lt_of_le_of_lt (Nat.div_le_self _ _) ha
  have h := Go.u16_and_nat (a / 2 ^ min i 16) 1 h1 (by omega)
  rw [Go.nat_mask1] at h
  refine h.trans ?_
  congr 1
  rw [Nat.toNat_testBit]
  rcases Nat.lt_or_ge i 16 with hi | hi
  · rw [Nat.min_eq_left (by omega)]
  · rw [Nat.min_eq_right hi, Nat.div_eq_of_lt (by omega : a < 2 ^ 16), Nat.div_eq_of_lt]
    exact Nat.lt_of_lt_of_le ha (Nat.pow_le_pow_right (n := 2) (by omega) hi)
theorem shl16 (i : Nat) (hi : i < 16) : shl .u16 1 (i : Int) = ((2 ^ i : Nat) : Int) := by
  unfold shl
  rw [Int.toNat_natCast]
  show Go.IntKind.u16.wrap (1 * 2 ^ min i 16) = _
  rw [Nat.min_eq_left (by omega), Go.IntKind.wrap_u16, Int.one_mul, two_pow_cast]
  have : 2 ^ i < 65536 := Nat.pow_lt_pow_right (a := 2) (by omega) hi
  generalize 2 ^ i = x at *
  omega
theorem ofInt64 (a : Nat) (ha : a < 9223372036854775808) : (BitVec.ofInt 64 (a : Int)).toNat = a := by
  rw [BitVec.ofInt_natCast, BitVec.toNat_ofNat]; exact Nat.mod_eq_of_lt (by omega)
theorem or64 (a b : Nat) (ha : a < 2 ^ 40) (hb : b < 2 ^ 40) : Go.bits .or .i64 (a : Int) (b : Int) = ((a ||| b : Nat) : Int) := by
  have hx : a ||| b < 2 ^ 40 := Nat.or_lt_two_pow ha hb
  show Go.IntKind.i64.wrap ((BitVec.ofInt 64 (a : Int) ||| BitVec.ofInt 64 (b : Int)).toNat : Int) = _
  rw [BitVec.toNat_or, ofInt64 a (by omega), ofInt64 b (by omega), Go.IntKind.wrap_i64]
  omega
theorem and64 (a b : Nat) (ha : a < 2 ^ 62) (hb : b < 2 ^ 62) : Go.bits .and .i64 (a : Int) (b : Int) = ((a &&& b : Nat) : Int) := by
  have hx : a &&& b < 2 ^ 62 := Nat.and_lt_two_pow _ hb
  show Go.IntKind.i64.wrap ((BitVec.ofInt 64 (a : Int) &&& BitVec.ofInt 64 (b : Int)).toNat : Int) = _
  rw [BitVec.toNat_and, ofInt64 a (by omega), ofInt64 b (by omega), Go.IntKind.wrap_i64]
  omega
theorem andNot64 (a b : Nat) (ha : a < 2 ^ 40) (hb : b < 2 ^ 40) : Go.bits .andNot .i64 (a : Int) (b : Int) = ((diff a b : Nat) : Int) := by
  have hx : diff a b < 2 ^ 40 := diff_le a b 40 ha
  show Go.IntKind.i64.wrap ((BitVec.ofInt 64 (a : Int) &&& ~~~(BitVec.ofInt 64 (b : Int))).toNat : Int) = _
  have e : (BitVec.ofInt 64 (a : Int) &&& ~~~(BitVec.ofInt 64 (b : Int))).toNat = diff a b := by
    rw [BitVec.toNat_and, ofInt64 a (by omega), BitVec.toNat_not, ofInt64 b (by omega)]
    apply Nat.eq_of_testBit_eq
    intro i
    rw [Nat.testBit_and, testBit_diff, show 2 ^ 64 - 1 - b = 2 ^ 64 - (b + 1) from by omega, Nat.testBit_two_pow_sub_succ (by omega)]
    rcases Nat.lt_or_ge i 64 with h | h
    · simp [h]
    · rw [Nat.testBit_lt_two_pow (Nat.lt_of_lt_of_le ha (Nat.pow_le_pow_right (by omega) (by omega)))]
      simp
  rw [e, Go.IntKind.wrap_i64]
  omega
theorem shr64 (a i : Nat) : shr .i64 (a : Int) (i : Int) = ((a / 2 ^ min i 64 : Nat) : Int) := by
  unfold shr
  rw [Int.toNat_natCast]
  show (a : Int) / 2 ^ min i 64 = _
  rw [Int.natCast_ediv, Int.natCast_pow]
  rfl
theorem has64 (a i : Nat) (ha : a < 2 ^ 62) : Go.bits .and .i64 (shr .i64 (a : Int) (i : Int)) 1 = (((a.testBit i).toNat : Nat) : Int) := by
  rw [shr64]
  have h1 : a / 2 ^ min i 64 < 2 ^ 62 := Nat.lt_of_le_of_lt (Nat.div_le_self _ _) ha
  have h := and64 (a / 2 ^ min i 64) 1 h1 (by omega)
  rw [Go.nat_mask1] at h
  refine h.trans ?_
  congr 1
  rw [Nat.toNat_testBit]
  rcases Nat.lt_or_ge i 64 with hi | hi
  · rw [Nat.min_eq_left (by omega)]
  · rw [Nat.min_eq_right hi, Nat.div_eq_of_lt (by omega : a < 2 ^ 64), Nat.div_eq_of_lt]
    exact Nat.lt_of_lt_of_le ha (Nat.pow_le_pow_right (n := 2) (by omega) (by omega))
theorem shl64 (i : Nat) (hi : i < 40) : shl .i64 1 (i : Int) = ((2 ^ i : Nat) : Int) := by
  unfold shl
  rw [Int.toNat_natCast]
  show Go.IntKind.i64.wrap (1 * 2 ^ min i 64) = _
  rw [Nat.min_eq_left (by omega), Go.IntKind.wrap_i64, Int.one_mul, two_pow_cast]
  have : 2 ^ i < 2 ^ 40 := Nat.pow_lt_pow_right (a := 2) (by omega) hi
  generalize 2 ^ i = x at *
  omega
theorem toNat_beq (b : Bool) : ((((b.toNat : Nat) : Int) == 1) : Bool) = b := by cases b <;> rfl
theorem pop8_is : ∀ i : Nat, i < 256 → Go.Lib.pop8 (i : Int) = ((popc 8 i : Nat) : Int) := by
  have h : ∀ i : Fin 256, Go.Lib.pop8 ((i.val : Nat) : Int) = ((popc 8 i.val : Nat) : Int) := by decide +kernel
  intro i hi
  exact h ⟨i, hi⟩
theorem popc_split (a m n : Nat) : popc (m + n) a = popc m (a % 2 ^ m) + popc n (a / 2 ^ m) := by
  unfold popc
  rw [List.range_add, List.countP_append]
  congr 1
  · apply List.countP_congr
    intro i hi
    rw [Nat.testBit_mod_two_pow]
    simp [List.mem_range.1 hi]
  · rw [List.countP_map]
    apply List.countP_congr
    intro i hi
    simp [Function.comp, Nat.testBit_div_two_pow, Nat.add_comm]
theorem pop16_is (a : Nat) (ha : a < 65536) : (Go.Lib.pop8 ((a : Int) / 256) + Go.Lib.pop8 ((a : Int) % 256)) % 256 = ((popc 16 a : Nat) : Int) := by
  have e1 : (a : Int) / 256 = ((a / 256 : Nat) : Int) := by omega
  have e2 : (a : Int) % 256 = ((a % 256 : Nat) : Int) := by omega
  rw [e1, e2, pop8_is _ (by omega), pop8_is _ (by omega), show popc 16 a = _ from popc_split a 8 8]
  have h1 : popc 8 (a % 256) ≤ 8 := Nat.le_trans List.countP_le_length (by simp)
  have h2 : popc 8 (a / 256) ≤ 8 := Nat.le_trans List.countP_le_length (by simp)
  show _ = ((popc 8 (a % 256) + popc 8 (a / 256) : Nat) : Int)
  omega
end Wog
end
section
namespace Wog
set_option linter.unusedVariables false
/-- The neighbours of the vertices of a set. -/
def nb (nx : List Nat) (s : Nat) : Nat := (List.range nx.length).foldl (fun acc v => if s.testBit v then acc ||| nx.getD v 0 else acc) 0
/-- The neighbours of the vertices of a set, and these themselves. -/
def arnd (nx : List Nat) (s : Nat) : Nat := s ||| nb nx s
theorem foldl_or_bit (nx : List Nat) (s j : Nat) (l : List Nat) : ∀ acc : Nat, (l.foldl (fun acc v => if s.testBit v then acc ||| nx.getD v 0 else acc) acc).testBit j = (acc.testBit j || l.any (fun v => s.testBit v && (nx.getD v 0).testBit j)) := by
  induction l with
  | nil => intro acc; simp
  | cons v l ih =>
    intro acc
    rw [List.foldl_cons, ih, List.any_cons]
    by_cases h : s.testBit v = true
    · simp only [h, if_true, Nat.testBit_or, Bool.true_and, Bool.or_assoc]
    · rw [Bool.not_eq_true] at h
      simp [h]
theorem nb_bit (nx : List Nat) (s j : Nat) : (nb nx s).testBit j = (List.range nx.length).any (fun v => s.testBit v && (nx.getD v 0).testBit j) := by
  unfold nb
  rw [foldl_or_bit]
  simp
theorem nb_bit_iff (nx : List Nat) (s j : Nat) : (nb nx s).testBit j = true ↔ ∃ v, v < nx.length ∧ s.testBit v = true ∧ (nx.getD v 0).testBit j = true := by
  rw [nb_bit, List.any_eq_true]
  constructor
  · rintro ⟨v, hv, h⟩
    rw [Bool.and_eq_true] at h
    exact ⟨v, List.mem_range.1 hv, h.1, h.2⟩
  · rintro ⟨v, hv, h1, h2⟩
    exact ⟨v, List.mem_range.2 hv, by rw [Bool.and_eq_true]; exact ⟨h1, h2⟩⟩
theorem arnd_bit_iff (nx : List Nat) (s j : Nat) : (arnd nx s).testBit j = true ↔ s.testBit j = true ∨ ∃ v, v < nx.length ∧ s.testBit v = true ∧ (nx.getD v 0).testBit j = true := by
  unfold arnd
  rw [Nat.testBit_or, Bool.or_eq_true, nb_bit_iff]
theorem foldl_or_lt {nx : List Nat} {n : Nat} (h : ∀ x ∈ nx, x < 2 ^ n) (s : Nat) (l : List Nat) : ∀ acc : Nat, acc < 2 ^ n → l.foldl (fun acc v => if s.testBit v then acc ||| nx.getD v 0 else acc) acc < 2 ^ n := by
  induction l with
  | nil => intro acc ha; exact ha
  | cons v l ih =>
    intro acc ha
    rw [List.foldl_cons]
    refine ih _ ?_
    split
    · refine Nat.or_lt_two_pow ha ?_
      rw [List.getD_eq_getElem?_getD]
      rcases Nat.lt_or_ge v nx.length with hv | hv
      · rw [List.getElem?_eq_getElem hv]; exact h _ (List.getElem_mem hv)
      · rw [List.getElem?_eq_none hv]; exact Nat.two_pow_pos n
    · exact ha
theorem nb_lt {nx : List Nat} {n : Nat} (h : ∀ x ∈ nx, x < 2 ^ n) (s : Nat) : nb nx s < 2 ^ n := foldl_or_lt h s _ 0 (Nat.two_pow_pos n)
theorem arnd_lt {nx : List Nat} {n s : Nat} (h : ∀ x ∈ nx, x < 2 ^ n) (hs : s < 2 ^ n) : arnd nx s < 2 ^ n := Nat.or_lt_two_pow hs (nb_lt h s)
/-- All that is reached from a set without some others: the rounds of the loop. -/
def cloF (nx : List Nat) (D : Nat) : Nat → Nat → Option Nat
  | 0, _ => none
  | k + 1, s => if diff (arnd nx s) D = s then some s else cloF nx D k (diff (arnd nx s) D)
/-- Is a plan better than another one? -/
def lexLt : List Int → List Int → Bool
  | [], [] => false
  | [], _ :: _ => true
  | _ :: _, [] => false
  | a :: l, b :: m => if a = b then lexLt l m else decide (a < b)
def betterP (p q : Int × List Int) : Bool := if p.1 = q.1 then (if p.2.length = q.2.length then lexLt p.2 q.2 else decide (p.2.length < q.2.length)) else decide (q.1 < p.1)
def pick (p q : Int × List Int) : Int × List Int := if betterP p q then p else q
def stepO (rec : Nat → Nat → Option (Int × List Int)) (nx : List Nat) (B D : Nat) (o : Option (Int × List Int)) (d : Nat) : Option (Int × List Int) :=
  o.bind fun out => if (B ||| D).testBit d then some out else (rec (diff (arnd nx B) (D ||| 2 ^ d)) (D ||| 2 ^ d)).bind fun p => some (pick (p.1, (d : Int) :: p.2) out)
/-- The best plan from a state on, by the program's recursion. -/
def bestF (nx : List Nat) : Nat → Nat → Nat → Option (Int × List Int)
  | 0, _, _ => none
  | k + 1, B, D => (cloF nx D (k + 1) B).bind fun R => if R = B then some ((nx.length : Int) - (popc 16 R : Nat), []) else (List.range nx.length).foldl (stepO (bestF nx k) nx B D) (some ((nx.length : Int) - (popc 16 R : Nat), []))
theorem foldl_stepO_none (rec : Nat → Nat → Option (Int × List Int)) (nx : List Nat) (B D : Nat) (l : List Nat) : l.foldl (stepO rec nx B D) none = none := by
  induction l with
  | nil => rfl
  | cons d l ih => rw [List.foldl_cons]; exact ih
theorem cloF_mono (nx : List Nat) (D : Nat) (k : Nat) : ∀ (s r : Nat), cloF nx D k s = some r → cloF nx D (k + 1) s = some r := by
  induction k with
  | zero => intro s r h; simp [cloF] at h
  | succ k ih =>
    intro s r h
    rw [cloF] at h ⊢
    split
    · rename_i e; rw [if_pos e] at h; exact h
    · rename_i e; rw [if_neg e] at h; exact ih _ _ h
theorem foldl_stepO_mono {rec rec' : Nat → Nat → Option (Int × List Int)} (hr : ∀ B D r, rec B D = some r → rec' B D = some r) (nx : List Nat) (B D : Nat) (l : List Nat) :
    ∀ (o : Option (Int × List Int)) (r : Int × List Int), l.foldl (stepO rec nx B D) o = some r → l.foldl (stepO rec' nx B D) o = some r := by
  induction l with
  | nil => intro o r h; exact h
  | cons d l ih =>
    intro o r h
    rw [List.foldl_cons] at h ⊢
    cases o with
    | none => rw [show stepO rec nx B D none d = none from rfl, foldl_stepO_none] at h; cases h
    | some out =>
      by_cases hb : (B ||| D).testBit d = true
      · have e1 : stepO rec nx B D (some out) d = some out := by simp [stepO, hb]
        have e2 : stepO rec' nx B D (some out) d = some out := by simp [stepO, hb]
        rw [e1] at h; rw [e2]; exact ih _ _ h
      · rw [Bool.not_eq_true] at hb
        cases hq : rec (diff (arnd nx B) (D ||| 2 ^ d)) (D ||| 2 ^ d) with
        | none =>
          have e1 : stepO rec nx B D (some out) d = none := by simp [stepO, hb, hq]
          rw [e1, foldl_stepO_none] at h; cases h
        | some p =>
          have e1 : stepO rec nx B D (some out) d = some (pick (p.1, (d : Int) :: p.2) out) := by simp [stepO, hb, hq]
          have e2 : stepO rec' nx B D (some out) d = some (pick (p.1, (d : Int) :: p.2) out) := by simp [stepO, hb, hr _ _ _ hq]
          rw [e1] at h; rw [e2]; exact ih _ _ h
theorem bestF_mono (nx : List Nat) (k : Nat) : ∀ (B D : Nat) (r : Int × List Int), bestF nx k B D = some r → bestF nx (k + 1) B D = some r := by
  induction k with
  | zero => intro B D r h; simp [bestF] at h
  | succ k ih =>
    intro B D r h
    rw [bestF] at h ⊢
    obtain ⟨R, hR, h⟩ := Option.bind_eq_some_iff.1 h
    rw [cloF_mono nx D _ _ _ hR, Option.bind_some]
    split
    · rename_i e; rw [if_pos e] at h; exact h
    · rename_i e; rw [if_neg e] at h; exact foldl_stepO_mono ih nx B D _ _ _ h
theorem bestF_le (nx : List Nat) {k k' : Nat} (hk : k ≤ k') {B D : Nat} {r : Int × List Int} (h : bestF nx k B D = some r) : bestF nx k' B D = some r := by
  obtain ⟨d, rfl⟩ := Nat.exists_eq_add_of_le hk
  clear hk
  induction d with
  | zero => exact h
  | succ d ih => exact bestF_mono nx _ _ _ _ ih
theorem bestF_det (nx : List Nat) {k k' B D : Nat} {r r' : Int × List Int} (h : bestF nx k B D = some r) (h' : bestF nx k' B D = some r') : r = r' := by
  have a := bestF_le nx (Nat.le_max_left k k') h
  have b := bestF_le nx (Nat.le_max_right k k') h'
  rw [a] at b
  exact Option.some.inj b
end Wog
end
section
namespace Wog
set_option linter.unusedVariables false
/-- The members below n that a set lacks. -/
def zer (n s : Nat) : Nat := (List.range n).countP (fun i => !s.testBit i)
theorem zer_le (n s : Nat) : zer n s ≤ n := Nat.le_trans List.countP_le_length (by simp)
theorem countP_lt {l : List Nat} {p q : Nat → Bool} (h : ∀ i ∈ l, p i = true → q i = true) {j : Nat} (hj : j ∈ l) (h1 : p j = false) (h2 : q j = true) : l.countP p < l.countP q := by
  induction l with
  | nil => cases hj
  | cons a l ih =>
    rw [List.countP_cons, List.countP_cons]
    have hm : l.countP p ≤ l.countP q := List.countP_mono_left (fun i hi => h i (by simp [hi]))
    rcases List.mem_cons.1 hj with rfl | hj
    · simp [h1, h2]; omega
    · have := ih (fun i hi => h i (by simp [hi])) hj
      by_cases ha : p a = true
      · simp [ha, h a (by simp) ha]; omega
      · simp [ha]; omega
theorem zer_lt {n s t : Nat} (h : ∀ i, s.testBit i = true → t.testBit i = true) (hs : s < 2 ^ n) (ht : t < 2 ^ n) (hne : t ≠ s) : zer n t < zer n s := by
  have : ∃ j, j < n ∧ t.testBit j = true ∧ s.testBit j = false := by
    apply Classical.byContradiction
    intro hno
    apply hne
    refine ext_lt ht hs (fun i hi => ?_)
    cases h1 : s.testBit i with
    | true => exact h i h1
    | false =>
      cases h2 : t.testBit i with
      | false => rfl
      | true => exact absurd ⟨i, hi, h2, h1⟩ hno
  obtain ⟨j, hj, h1, h2⟩ := this
  refine countP_lt (j := j) (fun i _ h3 => ?_) (List.mem_range.2 hj) (by simp [h1]) (by simp [h2])
  cases h4 : s.testBit i with
  | false => rfl
  | true => simp [h i h4] at h3
/-- Nothing is burning that is defended. -/
def disj (s D : Nat) : Prop := ∀ i, s.testBit i = true → D.testBit i = false
theorem disj_diff (a D : Nat) : disj (diff a D) D := by
  intro i h
  rw [testBit_diff, Bool.and_eq_true] at h
  simpa using h.2
theorem step_sup {nx : List Nat} {s D : Nat} (h : disj s D) (i : Nat) (hi : s.testBit i = true) : (diff (arnd nx s) D).testBit i = true := by
  rw [testBit_diff, h i hi, (arnd_bit_iff nx s i).2 (.inl hi)]
  rfl
theorem cloF_some {nx : List Nat} {D : Nat} (hx : ∀ x ∈ nx, x < 2 ^ nx.length) : ∀ (m s : Nat), s < 2 ^ nx.length → disj s D → zer nx.length s ≤ m → ∃ R, cloF nx D (m + 1) s = some R ∧ R < 2 ^ nx.length ∧ disj R D := by
  intro m
  induction m with
  | zero =>
    intro s hs hd hz
    refine ⟨s, ?_, hs, hd⟩
    rw [cloF, if_pos]
    apply Classical.byContradiction
    intro hne
    have := zer_lt (n := nx.length) (step_sup hd) hs (diff_le _ D _ (arnd_lt hx hs)) hne
    omega
  | succ m ih =>
    intro s hs hd hz
    rw [cloF]
    by_cases e : diff (arnd nx s) D = s
    · rw [if_pos e]; exact ⟨s, rfl, hs, hd⟩
    · rw [if_neg e]
      have := zer_lt (n := nx.length) (step_sup hd) hs (diff_le _ D _ (arnd_lt hx hs)) e
      exact ih _ (diff_le _ D _ (arnd_lt hx hs)) (disj_diff _ _) (by omega)
theorem cloF_le {nx : List Nat} {D : Nat} {k k' s r : Nat} (hk : k ≤ k') (h : cloF nx D k s = some r) : cloF nx D k' s = some r := by
  obtain ⟨d, rfl⟩ := Nat.exists_eq_add_of_le hk
  clear hk
  induction d with
  | zero => exact h
  | succ d ih => exact cloF_mono nx D _ _ _ ih
theorem foldl_stepO_some {rec : Nat → Nat → Option (Int × List Int)} {nx : List Nat} {B D : Nat} {L : List Nat} (hr : ∀ d ∈ L, (B ||| D).testBit d = false → ∃ r, rec (diff (arnd nx B) (D ||| 2 ^ d)) (D ||| 2 ^ d) = some r) :
    ∀ out, ∃ r, L.foldl (stepO rec nx B D) (some out) = some r := by
  induction L with
  | nil => intro out; exact ⟨out, rfl⟩
  | cons d L ih =>
    intro out
    rw [List.foldl_cons]
    by_cases hb : (B ||| D).testBit d = true
    · rw [show stepO rec nx B D (some out) d = some out by simp [stepO, hb]]
      exact ih (fun d' h => hr d' (by simp [h])) out
    · rw [Bool.not_eq_true] at hb
      obtain ⟨p, hp⟩ := hr d (by simp) hb
      rw [show stepO rec nx B D (some out) d = some (pick (p.1, (d : Int) :: p.2) out) by simp [stepO, hb, hp]]
      exact ih (fun d' h => hr d' (by simp [h])) _
theorem bestF_some {nx : List Nat} (hx : ∀ x ∈ nx, x < 2 ^ nx.length) : ∀ (m B D : Nat), B < 2 ^ nx.length → D < 2 ^ nx.length → disj B D → zer nx.length D ≤ m → ∃ r, bestF nx (m + nx.length + 1) B D = some r := by
  intro m
  induction m with
  | zero =>
    intro B D hB hD hd hz
    obtain ⟨R, hR, _, _⟩ := cloF_some hx nx.length B hB hd (zer_le _ _)
    rw [Nat.zero_add, bestF, hR, Option.bind_some]
    split
    · exact ⟨_, rfl⟩
    · refine foldl_stepO_some (fun d hdm hb => ?_) _
      exfalso
      have h1 := countP_lt (l := List.range nx.length) (p := fun _ => false) (q := fun i => !D.testBit i) (j := d) (by simp) hdm rfl (by rw [Nat.testBit_or, Bool.or_eq_false_iff] at hb; simp [hb.2])
      unfold zer at hz
      omega
  | succ m ih =>
    intro B D hB hD hd hz
    obtain ⟨R, hR, _, _⟩ := cloF_some hx nx.length B hB hd (zer_le _ _)
    rw [show m + 1 + nx.length + 1 = (m + nx.length + 1) + 1 by omega, bestF, cloF_le (by omega) hR, Option.bind_some]
    split
    · exact ⟨_, rfl⟩
    · refine foldl_stepO_some (fun d hdm hb => ?_) _
      have hdn : d < nx.length := by simpa using hdm
      have hlD : D ||| 2 ^ d < 2 ^ nx.length := Nat.or_lt_two_pow hD (Nat.pow_lt_pow_right (by omega) hdn)
      refine ih _ _ (diff_le _ _ _ (arnd_lt hx hB)) hlD (disj_diff _ _) ?_
      have : zer nx.length (D ||| 2 ^ d) < zer nx.length D := by
        refine zer_lt (fun i hi => by rw [Nat.testBit_or, hi]; rfl) hD hlD (fun e => ?_)
        rw [Nat.testBit_or, Bool.or_eq_false_iff] at hb
        have h2 : (D ||| 2 ^ d).testBit d = true := by rw [Nat.testBit_or, testBit_two_pow]; simp
        rw [e, hb.2] at h2
        cases h2
      omega
/-- What starts to burn in a round. -/
def moreS (nx : List Nat) (B D : Nat) : Nat := diff (diff (arnd nx B) B) D
/-- The rounds without a further defence. -/
def playN (nx : List Nat) : Nat → Nat → Nat → List Nat
  | 0, _, _ => []
  | k + 1, B, D => if moreS nx B D = 0 then [] else moreS nx B D :: playN nx k (B ||| moreS nx B D) D
/-- The rounds of a plan; none: it is no plan. -/
def playS (nx : List Nat) : List Int → Nat → Nat → Option (List Nat)
  | [], B, D => some (playN nx nx.length B D)
  | d :: p, B, D => if 0 ≤ d ∧ d < nx.length ∧ (B ||| D).testBit d.toNat = false then (playS nx p (B ||| moreS nx B (D ||| 2 ^ d.toNat)) (D ||| 2 ^ d.toNat)).map fun o => if moreS nx B (D ||| 2 ^ d.toNat) = 0 then o else moreS nx B (D ||| 2 ^ d.toNat) :: o else none
theorem moreS_lt {nx : List Nat} (hx : ∀ x ∈ nx, x < 2 ^ nx.length) {B : Nat} (hB : B < 2 ^ nx.length) (D : Nat) : moreS nx B D < 2 ^ nx.length := diff_le _ _ _ (diff_le _ _ _ (arnd_lt hx hB))
theorem moreS_bit (nx : List Nat) (B D i : Nat) : (moreS nx B D).testBit i = ((arnd nx B).testBit i && !B.testBit i && !D.testBit i) := by
  unfold moreS
  rw [testBit_diff, testBit_diff]
theorem zer_more {nx : List Nat} (hx : ∀ x ∈ nx, x < 2 ^ nx.length) {B : Nat} (hB : B < 2 ^ nx.length) {D : Nat} (h : moreS nx B D ≠ 0) : zer nx.length (B ||| moreS nx B D) < zer nx.length B := by
  refine zer_lt (fun i hi => by rw [Nat.testBit_or, hi]; rfl) hB (Nat.or_lt_two_pow hB (moreS_lt hx hB D)) (fun e => h (zero_of_bits (fun i => ?_)))
  cases hi : (moreS nx B D).testBit i with
  | false => rfl
  | true =>
    have h1 : (B ||| moreS nx B D).testBit i = true := by rw [Nat.testBit_or, hi]; simp
    rw [e] at h1
    rw [moreS_bit, h1] at hi
    simp at hi
theorem zer_zero {nx : List Nat} (hx : ∀ x ∈ nx, x < 2 ^ nx.length) {B : Nat} (hB : B < 2 ^ nx.length) (D : Nat) (h : zer nx.length B = 0) : moreS nx B D = 0 := by
  apply Classical.byContradiction
  intro hne
  have := zer_more hx hB hne
  omega
theorem playN_step {nx : List Nat} (hx : ∀ x ∈ nx, x < 2 ^ nx.length) : ∀ (k : Nat) (B D : Nat), B < 2 ^ nx.length → zer nx.length B ≤ k → playN nx (k + 1) B D = playN nx k B D := by
  intro k
  induction k with
  | zero =>
    intro B D hB hz
    show (if moreS nx B D = 0 then [] else moreS nx B D :: playN nx 0 (B ||| moreS nx B D) D) = []
    rw [if_pos (zer_zero hx hB D (Nat.le_zero.1 hz))]
  | succ k ih =>
    intro B D hB hz
    rw [playN]
    conv => rhs; rw [playN]
    by_cases h : moreS nx B D = 0
    · rw [if_pos h, if_pos h]
    · rw [if_neg h, if_neg h, ih _ D (Nat.or_lt_two_pow hB (moreS_lt hx hB D)) (by have := zer_more hx hB h; omega)]
theorem playN_unfold {nx : List Nat} (hx : ∀ x ∈ nx, x < 2 ^ nx.length) {B D : Nat} (hB : B < 2 ^ nx.length) : playN nx nx.length B D = if moreS nx B D = 0 then [] else moreS nx B D :: playN nx nx.length (B ||| moreS nx B D) D := by
  rw [← playN_step hx _ B D hB (zer_le _ _), playN]
end Wog
end
section
namespace Wog
set_option linter.unusedVariables false
/-- The least member of a set. -/
def low (x : Nat) : Nat := ((List.range 10).find? (fun i => x.testBit i)).getD 16
/-- What is at most r edges away. -/
def ball (nx : List Nat) (v : Nat) : Nat → Nat
  | 0 => 2 ^ v
  | r + 1 => arnd nx (ball nx v r)
def ballsRow (nx : List Nat) (v : Nat) : List Nat := (List.range nx.length).map (ball nx v)
def ballsS (nx : List Nat) : List (List Nat) := (List.range nx.length).map (ballsRow nx)
theorem ball_lt {nx : List Nat} (hx : ∀ x ∈ nx, x < 2 ^ nx.length) {v : Nat} (hv : v < nx.length) : ∀ r, ball nx v r < 2 ^ nx.length
  | 0 => Nat.pow_lt_pow_right (by omega) hv
  | r + 1 => arnd_lt hx (ball_lt hx hv r)
/-- What is reached from a vertex without some others. -/
def reachS (nx : List Nat) (D v : Nat) : Nat := (cloF nx D (nx.length + 1) (2 ^ v)).getD 0
theorem disj_pow {D v : Nat} (hd : D.testBit v = false) : disj (2 ^ v) D := by
  intro i hi
  rw [testBit_two_pow] at hi
  have : v = i := by simpa using hi
  rw [← this]; exact hd
theorem reach_is {nx : List Nat} (hx : ∀ x ∈ nx, x < 2 ^ nx.length) {D v : Nat} (hv : v < nx.length) (hd : D.testBit v = false) : cloF nx D (nx.length + 1) (2 ^ v) = some (reachS nx D v) ∧ reachS nx D v < 2 ^ nx.length := by
  obtain ⟨R, hR, hl, _⟩ := cloF_some (D := D) hx nx.length (2 ^ v) (Nat.pow_lt_pow_right (by omega) hv) (disj_pow hd) (zer_le _ _)
  unfold reachS
  rw [hR]
  exact ⟨rfl, hl⟩
/-- How many parts the rest lies in. -/
def partsF (nx : List Nat) : Nat → Nat → Nat
  | 0, _ => 0
  | k + 1, rest => if rest = 0 then 0 else partsF nx k (diff rest (reachS nx 0 (low rest))) + 1
def mostS (nx : List Nat) (r : Nat) : Nat := (List.range nx.length).foldl (fun m v => max m (popc 16 (ball nx v r))) 0
def roomS (nx : List Nat) (left : Nat) : Nat := (List.range left).foldl (fun a r => a + mostS nx r) 0
def restS (nx : List Nat) (burnt : Nat) : Nat := diff (2 ^ nx.length - 1) burnt
def hopS (nx : List Nat) (burnt left : Nat) : Bool := decide (left < partsF nx nx.length (restS nx burnt)) || decide ((roomS nx left : Int) < (nx.length : Int) - (popc 16 burnt : Nat))
def findS (nx : List Nat) : Nat → Nat → Option (List Nat)
  | 0, b => if popc 16 b = nx.length then some [] else none
  | left + 1, b => if popc 16 b = nx.length then some (List.replicate (left + 1) 0) else if hopS nx b (left + 1) = true then none else (List.range nx.length).findSome? fun v => (findS nx left (b ||| ball nx v left)).map fun l => v :: l
/-- The first shortest sequence. -/
def burnS (nx : List Nat) : Option (List Nat) := (List.range nx.length).findSome? fun j => findS nx (j + 1) 0
theorem cloF_sup {nx : List Nat} {D : Nat} : ∀ (k s R : Nat), disj s D → cloF nx D k s = some R → ∀ i, s.testBit i = true → R.testBit i = true := by
  intro k
  induction k with
  | zero => intro s R _ h; simp [cloF] at h
  | succ k ih =>
    intro s R hd h i hi
    rw [cloF] at h
    split at h
    · obtain rfl := Option.some.inj h; exact hi
    · exact ih _ _ (disj_diff _ _) h i (step_sup hd i hi)
theorem reach_self {nx : List Nat} (hx : ∀ x ∈ nx, x < 2 ^ nx.length) {D v : Nat} (hv : v < nx.length) (hd : D.testBit v = false) : (reachS nx D v).testBit v = true := by
  refine cloF_sup _ _ _ (fun i hi => ?_) (reach_is hx hv hd).1 v (by rw [testBit_two_pow]; simp)
  rw [testBit_two_pow] at hi
  have : v = i := by simpa using hi
  rw [← this]; exact hd
theorem low_is {x : Nat} (h0 : x ≠ 0) (h : x < 2 ^ 10) : low x < 10 ∧ x.testBit (low x) = true := by
  unfold low
  have : ∃ i, i < 10 ∧ x.testBit i = true := by
    apply Classical.byContradiction
    intro hno
    apply h0
    refine zero_of_bits (fun i => ?_)
    cases hi : x.testBit i with
    | false => rfl
    | true => exact absurd ⟨i, lt_of_bit h hi, hi⟩ hno
  obtain ⟨i, hi, hb⟩ := this
  cases hq : (List.range 10).find? (fun i => x.testBit i) with
  | none =>
    have := List.find?_eq_none.1 hq i (List.mem_range.2 hi)
    simp [hb] at this
  | some j => exact ⟨List.mem_range.1 (List.mem_of_find?_eq_some hq), by simpa using List.find?_some hq⟩
theorem full_bit (n i : Nat) : (2 ^ n - 1).testBit i = decide (i < n) := by
  rw [Nat.testBit_two_pow_sub_one]
theorem restS_bit (nx : List Nat) (b i : Nat) : (restS nx b).testBit i = (decide (i < nx.length) && !b.testBit i) := by
  unfold restS
  rw [testBit_diff, full_bit]
theorem restS_lt (nx : List Nat) (b : Nat) : restS nx b < 2 ^ nx.length := diff_le _ _ _ (by have := Nat.two_pow_pos nx.length; omega)
theorem popc16 {n x : Nat} (hn : n ≤ 16) (h : x < 2 ^ n) : popc 16 x = popc n x := by
  have : ∀ d, popc (n + d) x = popc n x := by
    intro d
    induction d with
    | zero => rfl
    | succ d ih =>
      have : popc (n + (d + 1)) x = popc (n + d) x + (if x.testBit (n + d) then 1 else 0) := by
        unfold popc
        rw [show n + (d + 1) = (n + d) + 1 by omega, List.range_succ, List.countP_append]
        simp [List.countP_cons]
      rw [this, ih, Nat.testBit_lt_two_pow (Nat.lt_of_lt_of_le h (Nat.pow_le_pow_right (by omega) (by omega)))]
      simp
  have := this (16 - n)
  rwa [show n + (16 - n) = 16 by omega] at this
theorem popc_zer (n x : Nat) : popc n x + zer n x = n := by
  unfold popc zer
  have := List.length_eq_countP_add_countP (fun i => x.testBit i) (l := List.range n)
  simp at this
  have e : List.countP (fun i => !x.testBit i) (List.range n) = List.countP (fun i => decide (x.testBit i = false)) (List.range n) := by
    congr 1; funext i; cases x.testBit i <;> rfl
  rw [e]; omega
theorem full_of_rest {nx : List Nat} {b : Nat} (hn : nx.length ≤ 16) (hb : b < 2 ^ nx.length) (h : restS nx b = 0) : popc 16 b = nx.length := by
  rw [popc16 hn hb]
  have h1 := popc_zer nx.length b
  have h2 : zer nx.length b = 0 := by
    unfold zer
    rw [List.countP_eq_zero]
    intro i hi h3
    have h4 := restS_bit nx b i
    rw [h, Nat.zero_testBit] at h4
    simp at hi h3
    simp [hi, h3] at h4
  omega
theorem partsF_pos {nx : List Nat} {k rest : Nat} (h : rest ≠ 0) : 0 < partsF nx (k + 1) rest := by
  rw [partsF, if_neg h]; omega
end Wog
end
section
namespace Wog
set_option linter.unusedVariables false
def sub (a b : Nat) : Prop := ∀ i, a.testBit i = true → b.testBit i = true
def full (n : Nat) : Nat := 2 ^ n - 1
theorem sub_refl (a : Nat) : sub a a := fun _ h => h
theorem sub_trans {a b c : Nat} (h : sub a b) (k : sub b c) : sub a c := fun i hi => k i (h i hi)
theorem sub_or_left (a b : Nat) : sub a (a ||| b) := fun i h => by rw [Nat.testBit_or, h]; rfl
theorem sub_or_right (a b : Nat) : sub b (a ||| b) := fun i h => by rw [Nat.testBit_or, h, Bool.or_true]
theorem sub_antisymm {a b : Nat} (h : sub a b) (k : sub b a) : a = b := by
  apply Nat.eq_of_testBit_eq
  intro i
  cases ha : a.testBit i with
  | true => rw [h i ha]
  | false =>
    cases hb : b.testBit i with
    | false => rfl
    | true => rw [k i hb] at ha; cases ha
theorem full_lt (n : Nat) : full n < 2 ^ n := by unfold full; have := Nat.two_pow_pos n; omega
theorem full_test (n i : Nat) : (full n).testBit i = decide (i < n) := full_bit n i
theorem sub_full {a n : Nat} (h : a < 2 ^ n) : sub a (full n) := fun i hi => by
  rw [full_test]; exact decide_eq_true (lt_of_bit h hi)
theorem full_of_sub {a n : Nat} (h : a < 2 ^ n) (k : sub (full n) a) : a = full n := sub_antisymm (sub_full h) k
theorem popc_mono {a b : Nat} (n : Nat) (h : sub a b) : popc n a ≤ popc n b := by
  unfold popc
  exact List.countP_mono_left (fun i _ hi => h i hi)
theorem popc_lt_of {n a b i : Nat} (h : sub a b) (hi : i < n) (h1 : a.testBit i = false) (h2 : b.testBit i = true) : popc n a < popc n b := by
  unfold popc
  exact countP_lt (fun j _ hj => h j hj) (List.mem_range.2 hi) h1 h2
theorem popc_full_self (n : Nat) : popc n (full n) = n := by
  unfold popc
  rw [List.countP_eq_length.2 (fun i hi => by rw [full_test]; exact decide_eq_true (List.mem_range.1 hi))]
  simp
theorem popc_full {n a : Nat} (h : a < 2 ^ n) : popc n a = n ↔ a = full n := by
  constructor
  · intro hp
    refine full_of_sub h (fun i hi => ?_)
    rw [full_test] at hi
    have hi' : i < n := by simpa using hi
    cases ha : a.testBit i with
    | true => rfl
    | false =>
      have := popc_lt_of (n := n) (sub_full h) hi' ha (by rw [full_test]; exact hi)
      rw [popc_full_self] at this
      omega
  · rintro rfl; exact popc_full_self n
theorem popc16_full {n a : Nat} (hn : n ≤ 16) (h : a < 2 ^ n) : popc 16 a = n ↔ a = full n := by rw [popc16 hn h]; exact popc_full h
theorem popc_le_n (n a : Nat) : popc n a ≤ n := by
  have := popc_zer n a
  omega
theorem arnd_self (nx : List Nat) (a : Nat) : sub a (arnd nx a) := sub_or_left _ _
section
variable {nx : List Nat}
end
def Sym (nx : List Nat) : Prop := ∀ a b, a < nx.length → b < nx.length → (nx.getD a 0).testBit b = (nx.getD b 0).testBit a
/-- No edge leaves the set. -/
def Closed (nx : List Nat) (c : Nat) : Prop := ∀ a b, a < nx.length → b < nx.length → c.testBit a = true → (nx.getD a 0).testBit b = true → c.testBit b = true
section
variable {nx : List Nat}
theorem row_lt (hx : ∀ x ∈ nx, x < 2 ^ nx.length) {a b : Nat} (h : (nx.getD a 0).testBit b = true) : b < nx.length := by
  rw [List.getD_eq_getElem?_getD] at h
  rcases Nat.lt_or_ge a nx.length with ha | ha
  · rw [List.getElem?_eq_getElem ha] at h
    exact lt_of_bit (hx _ (List.getElem_mem ha)) h
  · rw [List.getElem?_eq_none ha] at h
    simp at h
theorem cloF_closed (hx : ∀ x ∈ nx, x < 2 ^ nx.length) : ∀ (k s R : Nat), cloF nx 0 k s = some R → Closed nx R := by
  intro k
  induction k with
  | zero => intro s R h; cases h
  | succ k ih =>
    intro s R h
    rw [cloF] at h
    split at h
    · rename_i e
      obtain rfl := Option.some.inj h
      intro a b ha hb h1 h2
      have h3 : (arnd nx s).testBit b = true := (arnd_bit_iff nx s b).2 (.inr ⟨a, ha, h1, h2⟩)
      have h4 : (diff (arnd nx s) 0).testBit b = true := by rw [testBit_diff, h3]; simp
      rwa [e] at h4
    · exact ih _ _ h
theorem Closed.ball {c : Nat} (hx : ∀ x ∈ nx, x < 2 ^ nx.length) (hc : Closed nx c) {v : Nat} (hv : v < nx.length) (h : c.testBit v = true) : ∀ r, sub (ball nx v r) c := by
  intro r
  induction r with
  | zero =>
    intro i hi
    rw [Wog.ball, testBit_two_pow] at hi
    have : v = i := by simpa using hi
    rw [← this]; exact h
  | succ r ih =>
    intro i hi
    rw [Wog.ball, arnd_bit_iff] at hi
    rcases hi with hi | ⟨a, ha, h1, h2⟩
    · exact ih i hi
    · exact hc a i ha (row_lt hx h2) (ih a h1) h2
theorem Closed.co {c : Nat} (hs : Sym nx) (hc : Closed nx c) : Closed nx (diff (full nx.length) c) := by
  intro a b ha hb h1 h2
  rw [testBit_diff, full_test, Bool.and_eq_true] at h1 ⊢
  refine ⟨decide_eq_true hb, ?_⟩
  cases h3 : c.testBit b with
  | false => rfl
  | true =>
    have := hc b a hb ha h3 (by rw [← hs a b ha hb]; exact h2)
    rw [this] at h1
    simp at h1
theorem ball_self (v : Nat) : ∀ r, (ball nx v r).testBit v = true
  | 0 => by rw [ball, testBit_two_pow]; simp
  | r + 1 => arnd_self nx _ v (ball_self v r)
end
end Wog
end
section
namespace Wog
set_option linter.unusedVariables false
/-- What burns in the end, by a plan; none: it is no plan. -/
def endB (nx : List Nat) : List Int → Nat → Nat → Option Nat
  | [], B, D => cloF nx D (nx.length + 1) B
  | d :: p, B, D => if 0 ≤ d ∧ d < nx.length ∧ (B ||| D).testBit d.toNat = false then endB nx p (B ||| moreS nx B (D ||| 2 ^ d.toNat)) (D ||| 2 ^ d.toNat) else none
theorem disj_or {a b c : Nat} (h : disj a b) (k : disj a c) : disj a (b ||| c) := fun i hi => by rw [Nat.testBit_or, h i hi, k i hi]; rfl
theorem or_disj {a b c : Nat} (h : disj a c) (k : disj b c) : disj (a ||| b) c := fun i hi => by
  rw [Nat.testBit_or, Bool.or_eq_true] at hi
  exact hi.elim (h i) (k i)
theorem disj_one {a d : Nat} (h : a.testBit d = false) : disj a (2 ^ d) := fun i hi => by
  rw [testBit_two_pow]
  apply decide_eq_false
  rintro rfl
  rw [h] at hi
  cases hi
section
variable {nx : List Nat}
theorem moreS_disj (B D : Nat) : disj (moreS nx B D) D := fun i hi => by
  rw [moreS_bit] at hi
  simp at hi
  simpa using hi.2
theorem moreS_disjB (B D : Nat) : disj (moreS nx B D) B := fun i hi => by
  rw [moreS_bit] at hi
  simp at hi
  simpa using hi.1.2
theorem step_eq {B D : Nat} (h : disj B D) : B ||| moreS nx B D = diff (arnd nx B) D := by
  apply Nat.eq_of_testBit_eq
  intro i
  rw [Nat.testBit_or, moreS_bit, testBit_diff]
  cases hb : B.testBit i with
  | true => rw [arnd_self nx B i hb, h i hb]; rfl
  | false => simp
theorem valid_split {B D d : Nat} (h : (B ||| D).testBit d = false) : B.testBit d = false ∧ D.testBit d = false := by
  rw [Nat.testBit_or, Bool.or_eq_false_iff] at h
  exact h
theorem cloF_fix {D : Nat} : ∀ (k s R : Nat), cloF nx D k s = some R → diff (arnd nx R) D = R := by
  intro k
  induction k with
  | zero => intro s R h; cases h
  | succ k ih =>
    intro s R h
    rw [cloF] at h
    split at h
    · obtain rfl := Option.some.inj h; assumption
    · exact ih _ _ h
theorem endB_sup : ∀ (p : List Int) (B D e : Nat), disj B D → endB nx p B D = some e → sub B e := by
  intro p
  induction p with
  | nil => intro B D e hd h; exact cloF_sup _ _ _ hd h
  | cons d p ih =>
    intro B D e hd h
    rw [endB] at h
    split at h
    · rename_i hv
      obtain ⟨h1, h2⟩ := valid_split hv.2.2
      exact sub_trans (sub_or_left _ _) (ih _ _ _ (or_disj (disj_or hd (disj_one h1)) (moreS_disj _ _)) h)
    · cases h
theorem endB_lt (hx : ∀ x ∈ nx, x < 2 ^ nx.length) : ∀ (p : List Int) (B D e : Nat), B < 2 ^ nx.length → disj B D → endB nx p B D = some e → e < 2 ^ nx.length := by
  intro p
  induction p with
  | nil =>
    intro B D e hB hd h
    obtain ⟨R, h1, h2, _⟩ := cloF_some hx nx.length B hB hd (zer_le _ _)
    rw [show endB nx [] B D = cloF nx D (nx.length + 1) B from rfl, h1] at h
    obtain rfl := Option.some.inj h
    exact h2
  | cons d p ih =>
    intro B D e hB hd h
    rw [endB] at h
    split at h
    · rename_i hv
      obtain ⟨h1, h2⟩ := valid_split hv.2.2
      exact ih _ _ _ (Nat.or_lt_two_pow hB (moreS_lt hx hB _)) (or_disj (disj_or hd (disj_one h1)) (moreS_disj _ _)) h
    · cases h
theorem popc_or_disj (n a b : Nat) (h : disj a b) : popc n (a ||| b) = popc n a + popc n b := by
  unfold popc
  induction List.range n with
  | nil => simp
  | cons i l ih =>
    rw [List.countP_cons, List.countP_cons, List.countP_cons]
    rw [Nat.testBit_or]
    generalize List.countP (fun i => (a ||| b).testBit i) l = X at *
    generalize List.countP (fun i => a.testBit i) l = Y at *
    generalize List.countP (fun i => b.testBit i) l = Z at *
    cases ha : a.testBit i with
    | true => rw [h i ha]; simp; omega
    | false => cases b.testBit i <;> simp <;> omega
theorem popc_pow {f n : Nat} (h : f < n) : popc n (2 ^ f) = 1 := by
  unfold popc
  have : ∀ m, (List.range m).countP (fun i => (2 ^ f).testBit i) = if f < m then 1 else 0 := by
    intro m
    induction m with
    | zero => simp
    | succ m ih =>
      rw [List.range_succ, List.countP_append, ih, List.countP_singleton, testBit_two_pow]
      rcases Nat.lt_trichotomy f m with h1 | h1 | h1
      · have e1 : decide (f = m) = false := decide_eq_false (by omega)
        have e2 : f < m + 1 := by omega
        simp [h1, e1, e2]
      · have e0 : ¬ f < m := by omega
        have e1 : decide (f = m) = true := decide_eq_true h1
        have e2 : f < m + 1 := by omega
        simp [e0, e1, e2]
      · have e0 : ¬ f < m := by omega
        have e1 : decide (f = m) = false := decide_eq_false (by omega)
        have e2 : ¬ f < m + 1 := by omega
        simp [e0, e1, e2]
  rw [this, if_pos h]
/-- All that a fire without a plan reaches is the ball. -/
theorem clo_ball (hx : ∀ x ∈ nx, x < 2 ^ nx.length) {f : Nat} (hf : f < nx.length) : cloF nx 0 (nx.length + 1) (2 ^ f) = some (ball nx f nx.length) := by
  have h0 : ∀ s, diff (arnd nx s) 0 = arnd nx s := fun s => by unfold diff; simp
  obtain ⟨R, hR, _, _⟩ := cloF_some (D := 0) hx nx.length (2 ^ f) (Nat.pow_lt_pow_right (by omega) hf) (fun i _ => by simp) (zer_le _ _)
  have key : ∀ (k r : Nat) (R : Nat), cloF nx 0 (k + 1) (ball nx f r) = some R → R = ball nx f (r + k) := by
    intro k
    induction k with
    | zero =>
      intro r R h
      rw [cloF] at h
      split at h
      · exact (Option.some.inj h).symm
      · cases h
    | succ k ih =>
      intro r R h
      rw [cloF] at h
      split at h
      · rename_i e
        obtain rfl := Option.some.inj h
        rw [h0] at e
        have : ∀ j, ball nx f (r + j) = ball nx f r := by
          intro j
          induction j with
          | zero => rfl
          | succ j ihj => rw [← Nat.add_assoc, ball, ihj, e]
        exact (this (k + 1)).symm
      · rw [h0, show arnd nx (ball nx f r) = ball nx f (r + 1) from rfl] at h
        rw [ih _ _ h]
        congr 1
        omega
  have := key nx.length 0 R hR
  rw [hR, this, Nat.zero_add]
end
structure Sim (nx nx' : List Nat) (dom : Nat → Prop) (f : Nat → Nat) : Prop where
  lt : ∀ u, dom u → u < nx'.length ∧ f u < nx.length
  inj : ∀ u v, dom u → dom v → f u = f v → u = v
  adj : ∀ u v, dom u → (nx'.getD u 0).testBit v = true → dom v ∧ (nx.getD (f u) 0).testBit (f v) = true
/-- What burns there lies over what burns here; what is defended here is defended there. -/
def Over (dom : Nat → Prop) (f : Nat → Nat) (B B' : Nat) : Prop := ∀ u, B'.testBit u = true → dom u ∧ B.testBit (f u) = true
section
variable {nx nx' : List Nat} {dom : Nat → Prop} {f : Nat → Nat}
theorem Sim.clo (hS : Sim nx nx' dom f) (hx' : ∀ x ∈ nx', x < 2 ^ nx'.length) {D D' e : Nat} (hD : ∀ u, dom u → D.testBit (f u) = true → D'.testBit u = true) (he : diff (arnd nx e) D = e) :
    ∀ (k s' R' : Nat), Over dom f e s' → cloF nx' D' k s' = some R' → Over dom f e R' := by
  intro k
  induction k with
  | zero => intro s' R' _ h; cases h
  | succ k ih =>
    intro s' R' ho h
    rw [cloF] at h
    split at h
    · obtain rfl := Option.some.inj h; exact ho
    · refine ih _ _ (fun u hu => ?_) h
      rw [testBit_diff, Bool.and_eq_true, arnd_bit_iff] at hu
      obtain ⟨h1, h2⟩ := hu
      rcases h1 with h1 | ⟨v, hv, h3, h4⟩
      · exact ho u h1
      · obtain ⟨k1, k2⟩ := ho v h3
        obtain ⟨k3, k4⟩ := hS.adj v u k1 h4
        refine ⟨k3, ?_⟩
        rw [← he, testBit_diff, (arnd_bit_iff nx e (f u)).2 (.inr ⟨f v, (hS.lt v k1).2, k2, k4⟩)]
        cases h5 : D.testBit (f u) with
        | false => rfl
        | true => rw [hD u k3 h5] at h2; simp at h2
theorem Sim.plan (hS : Sim nx nx' dom f) (hx : ∀ x ∈ nx, x < 2 ^ nx.length) (hx' : ∀ x ∈ nx', x < 2 ^ nx'.length) :
    ∀ (p : List Int) (B D e B' D' : Nat), endB nx p B D = some e → disj B D → disj B' D' → B' < 2 ^ nx'.length → Over dom f B B' → (∀ u, dom u → D.testBit (f u) = true → D'.testBit u = true) →
      ∃ p' e', endB nx' p' B' D' = some e' ∧ Over dom f e e' := by
  intro p
  induction p with
  | nil =>
    intro B D e B' D' he hd hd' hB' ho hD
    have he' : cloF nx D (nx.length + 1) B = some e := he
    obtain ⟨R', hR', _, _⟩ := cloF_some hx' nx'.length B' hB' hd' (zer_le _ _)
    have hs := cloF_sup _ _ _ hd he'
    exact ⟨[], R', hR', hS.clo hx' hD (cloF_fix _ _ _ he') _ _ _ (fun u hu => ⟨(ho u hu).1, hs _ (ho u hu).2⟩) hR'⟩
  | cons d p ih =>
    intro B D e B' D' he hd hd' hB' ho hD
    have hBe := endB_sup _ _ _ _ hd he
    rw [endB] at he
    split at he
    · rename_i hv
      obtain ⟨h1, h2⟩ := valid_split hv.2.2
      have hdd : disj B (D ||| 2 ^ d.toNat) := disj_or hd (disj_one h1)
      -- a move u there: all that the relation asks
      have step : ∀ u, u < nx'.length → B'.testBit u = false → D'.testBit u = false → (∀ x, dom x → f x = d.toNat → x = u ∨ D'.testBit x = true) →
          ∃ p' e', endB nx' p' B' D' = some e' ∧ Over dom f e e' := by
        intro u hu hB hDu hx2
        have hdu : disj B' (D' ||| 2 ^ u) := disj_or hd' (disj_one hB)
        obtain ⟨p', e', h3, h4⟩ := ih _ _ e (B' ||| moreS nx' B' (D' ||| 2 ^ u)) (D' ||| 2 ^ u) he (or_disj hdd (moreS_disj _ _)) (or_disj hdu (moreS_disj _ _)) (Nat.or_lt_two_pow hB' (moreS_lt hx' hB' _))
          (fun x hxb => by
            rw [Nat.testBit_or, Bool.or_eq_true] at hxb
            rcases hxb with hxb | hxb
            · exact ⟨(ho x hxb).1, sub_or_left _ _ _ (ho x hxb).2⟩
            · rw [moreS_bit, Bool.and_eq_true, Bool.and_eq_true, arnd_bit_iff] at hxb
              obtain ⟨⟨k1, k2⟩, k3⟩ := hxb
              rcases k1 with k1 | ⟨v, hv', k4, k5⟩
              · rw [k1] at k2; simp at k2
              · obtain ⟨k6, k7⟩ := ho v k4
                obtain ⟨k8, k9⟩ := hS.adj v x k6 k5
                refine ⟨k8, ?_⟩
                rw [Nat.testBit_or, moreS_bit, (arnd_bit_iff nx B (f x)).2 (.inr ⟨f v, (hS.lt v k6).2, k7, k9⟩)]
                have k10 : (D' ||| 2 ^ u).testBit x = false := by simpa using k3
                rw [Nat.testBit_or, Bool.or_eq_false_iff, testBit_two_pow] at k10
                have k11 : (D ||| 2 ^ d.toNat).testBit (f x) = false := by
                  rw [Nat.testBit_or, Bool.or_eq_false_iff, testBit_two_pow]
                  refine ⟨?_, ?_⟩
                  · cases h5 : D.testBit (f x) with
                    | false => rfl
                    | true => rw [hD x k8 h5] at k10; exact absurd k10.1 (by simp)
                  · apply decide_eq_false
                    intro h5
                    rcases hx2 x k8 h5.symm with h6 | h6
                    · rw [h6] at k10; simp at k10
                    · rw [h6] at k10; exact absurd k10.1 (by simp)
                rw [k11]
                cases B.testBit (f x) <;> simp)
          (fun x hxd hxD => by
            rw [Nat.testBit_or, Bool.or_eq_true, testBit_two_pow] at hxD
            rcases hxD with hxD | hxD
            · exact sub_or_left _ _ _ (hD x hxd hxD)
            · have h5 : d.toNat = f x := by simpa using hxD
              rcases hx2 x hxd h5.symm with h6 | h6
              · rw [h6, Nat.testBit_or, testBit_two_pow]; simp
              · exact sub_or_left _ _ _ h6)
        refine ⟨(u : Int) :: p', e', ?_, h4⟩
        rw [endB, if_pos ⟨by omega, by omega, by rw [Int.toNat_natCast, Nat.testBit_or, hB, hDu]; rfl⟩, Int.toNat_natCast]
        exact h3
      by_cases hi : ∃ u, dom u ∧ f u = d.toNat ∧ B'.testBit u = false ∧ D'.testBit u = false
      · obtain ⟨u, hu1, hu2, hu3, hu4⟩ := hi
        exact step u (hS.lt u hu1).1 hu3 hu4 (fun x hxd hxf => .inl (hS.inj x u hxd hu1 (hxf.trans hu2.symm)))
      · have hno : ∀ x, dom x → f x = d.toNat → D'.testBit x = true := by
          intro x hxd hxf
          cases h5 : D'.testBit x with
          | true => rfl
          | false =>
            cases h6 : B'.testBit x with
            | false => exact absurd ⟨x, hxd, hxf, h6, h5⟩ hi
            | true => have := (ho x h6).2; rw [hxf, h1] at this; cases this
        by_cases hj : ∃ u, u < nx'.length ∧ B'.testBit u = false ∧ D'.testBit u = false
        · obtain ⟨u, hu1, hu2, hu3⟩ := hj
          exact step u hu1 hu2 hu3 (fun x hxd hxf => .inr (hno x hxd hxf))
        · refine ⟨[], B', ?_, fun u hu => ⟨(ho u hu).1, hBe _ (ho u hu).2⟩⟩
          rw [endB, cloF, if_pos]
          refine ext_lt (diff_le _ _ _ (arnd_lt hx' hB')) hB' (fun i hi' => ?_)
          rw [testBit_diff]
          cases h5 : B'.testBit i with
          | true => rw [arnd_self nx' B' i h5, hd' i h5]; rfl
          | false =>
            have h6 : D'.testBit i = true := by
              cases h7 : D'.testBit i with
              | true => rfl
              | false => exact absurd ⟨i, hi', h5, h7⟩ hj
            rw [h6]; simp
    · cases he
end
end Wog
end
section
namespace Wog
set_option linter.unusedVariables false
def adj (nx : List Nat) (a b : Nat) : Prop := (nx.getD a 0).testBit b = true
def sumR (n : Nat) (f : Nat → Nat) : Nat := ((List.range n).map f).sum
theorem sumR_succ (n : Nat) (f : Nat → Nat) : sumR (n + 1) f = sumR n f + f n := by
  unfold sumR
  rw [List.range_succ, List.map_append, List.sum_append]
  simp
theorem sumR_le {n : Nat} {f g : Nat → Nat} (h : ∀ a, a < n → f a ≤ g a) : sumR n f ≤ sumR n g := by
  induction n with
  | zero => simp [sumR]
  | succ n ih =>
    rw [sumR_succ, sumR_succ]
    have h1 := ih (fun a ha => h a (by omega))
    have h2 := h n (by omega)
    omega
theorem sumR_add (n : Nat) (f g : Nat → Nat) : sumR n (fun a => f a + g a) = sumR n f + sumR n g := by
  induction n with
  | zero => simp [sumR]
  | succ n ih => rw [sumR_succ, sumR_succ, sumR_succ, ih]; omega
theorem sumR_ind (n u : Nat) : sumR n (fun a => if a = u then 1 else 0) = if u < n then 1 else 0 := by
  induction n with
  | zero => simp [sumR]
  | succ n ih =>
    rw [sumR_succ, ih]
    rcases Nat.lt_trichotomy u n with h | h | h
    · rw [if_pos h, if_neg (by omega), if_pos (by omega)]
    · rw [if_neg (by omega), if_pos h.symm, if_pos (by omega)]
    · rw [if_neg (by omega), if_neg (by omega), if_neg (by omega)]
theorem sumR_congr {n : Nat} {f g : Nat → Nat} (h : ∀ a, a < n → f a = g a) : sumR n f = sumR n g :=
  Nat.le_antisymm (sumR_le (fun a ha => Nat.le_of_eq (h a ha))) (sumR_le (fun a ha => Nat.le_of_eq (h a ha).symm))
section
variable {nx : List Nat}
theorem reach_start (hx : ∀ x ∈ nx, x < 2 ^ nx.length) {D v : Nat} (hv : v < nx.length) (hd : D.testBit v = false) : (reachS nx D v).testBit v = true := reach_self hx hv hd
theorem reach_fix (hx : ∀ x ∈ nx, x < 2 ^ nx.length) {D v : Nat} (hv : v < nx.length) (hd : D.testBit v = false) : diff (arnd nx (reachS nx D v)) D = reachS nx D v := cloF_fix _ _ _ (reach_is hx hv hd).1
theorem reach_step (hx : ∀ x ∈ nx, x < 2 ^ nx.length) {D v : Nat} (hv : v < nx.length) (hd : D.testBit v = false) {a b : Nat} (ha : (reachS nx D v).testBit a = true) (hab : adj nx a b) (hb : D.testBit b = false) : (reachS nx D v).testBit b = true := by
  have hl := lt_of_bit (reach_is hx hv hd).2 ha
  rw [← reach_fix hx hv hd, testBit_diff, (arnd_bit_iff nx _ b).2 (.inr ⟨a, hl, ha, hab⟩), hb]
  rfl
theorem reach_not (hx : ∀ x ∈ nx, x < 2 ^ nx.length) {D v : Nat} (hv : v < nx.length) (hd : D.testBit v = false) {a : Nat} (ha : (reachS nx D v).testBit a = true) : D.testBit a = false := by
  rw [← reach_fix hx hv hd, testBit_diff, Bool.and_eq_true] at ha
  simpa using ha.2
theorem clo_least {D : Nat} (X : Nat → Prop) (hs : ∀ a b, X a → adj nx a b → D.testBit b = false → X b) : ∀ (k s R : Nat), cloF nx D k s = some R → (∀ i, s.testBit i = true → X i) → ∀ i, R.testBit i = true → X i := by
  intro k
  induction k with
  | zero => intro s R h; cases h
  | succ k ih =>
    intro s R h hX
    rw [cloF] at h
    split at h
    · obtain rfl := Option.some.inj h; exact hX
    · refine ih _ _ h (fun i hi => ?_)
      rw [testBit_diff, Bool.and_eq_true, arnd_bit_iff] at hi
      rcases hi.1 with h1 | ⟨a, ha, h1, h2⟩
      · exact hX i h1
      · exact hs a i (hX a h1) h2 (by simpa using hi.2)
theorem reach_least (hx : ∀ x ∈ nx, x < 2 ^ nx.length) {D v : Nat} (hv : v < nx.length) (hd : D.testBit v = false) (X : Nat → Prop) (h0 : X v) (hs : ∀ a b, X a → adj nx a b → D.testBit b = false → X b) : ∀ i, (reachS nx D v).testBit i = true → X i :=
  clo_least X hs _ _ _ (reach_is hx hv hd).1 (fun i hi => by
    rw [testBit_two_pow] at hi
    have : v = i := by simpa using hi
    rw [← this]; exact h0)
def inner (nx : List Nat) (S a : Nat) : Nat := if S.testBit a = true then popc nx.length (nx.getD a 0 &&& S) else 0
theorem closed_all (hx : ∀ x ∈ nx, x < 2 ^ nx.length) {r : Nat} (hr : r < nx.length) (hc : ball nx r nx.length = full nx.length) {c : Nat} (hcl : Closed nx c) (h : c.testBit r = true) : ∀ i, i < nx.length → c.testBit i = true := by
  intro i hi
  have := hcl.ball hx hr h nx.length
  rw [hc] at this
  exact this i (by rw [full_test]; exact decide_eq_true hi)
theorem conn_grow (hx : ∀ x ∈ nx, x < 2 ^ nx.length) (hs : Sym nx) {r : Nat} (hr : r < nx.length) (hc : ball nx r nx.length = full nx.length) : ∀ m, m + 1 ≤ nx.length → ∃ S, S < 2 ^ nx.length ∧ popc nx.length S = m + 1 ∧ S.testBit r = true ∧ 2 * m ≤ sumR nx.length (inner nx S) := by
  intro m
  induction m with
  | zero => intro _; exact ⟨2 ^ r, Nat.pow_lt_pow_right (by omega) hr, popc_pow hr, by rw [testBit_two_pow]; simp, by omega⟩
  | succ m ih =>
    intro hm
    obtain ⟨S, h1, h2, h3, h4⟩ := ih (by omega)
    have hex : ∃ a b, a < nx.length ∧ b < nx.length ∧ S.testBit a = true ∧ adj nx a b ∧ S.testBit b = false := by
      apply Classical.byContradiction
      intro hno
      have hcl : Closed nx S := by
        intro a b ha hb k1 k2
        cases k3 : S.testBit b with
        | true => rfl
        | false => exact absurd ⟨a, b, ha, hb, k1, k2, k3⟩ hno
      have hall := closed_all hx hr hc hcl h3
      have : S = full nx.length := full_of_sub h1 (fun i hi => hall i (by rw [full_test] at hi; simpa using hi))
      rw [this, popc_full_self] at h2
      omega
    obtain ⟨a, b, ha, hb, k1, k2, k3⟩ := hex
    have hne : a ≠ b := by rintro rfl; rw [k1] at k3; cases k3
    refine ⟨S ||| 2 ^ b, Nat.or_lt_two_pow h1 (Nat.pow_lt_pow_right (by omega) hb), ?_, ?_, ?_⟩
    · rw [popc_or_disj _ _ _ (disj_one k3), h2, popc_pow hb]
    · rw [Nat.testBit_or, h3]; rfl
    · have hsub : sub S (S ||| 2 ^ b) := sub_or_left _ _
      have hpt : ∀ x, x < nx.length → (inner nx S x + (if x = a then 1 else 0)) + (if x = b then 1 else 0) ≤ inner nx (S ||| 2 ^ b) x := by
        intro x hxl
        have hand : sub (nx.getD x 0 &&& S) (nx.getD x 0 &&& (S ||| 2 ^ b)) := fun i hi => by
          rw [Nat.testBit_and, Bool.and_eq_true] at hi ⊢
          exact ⟨hi.1, hsub i hi.2⟩
        by_cases hxb : x = b
        · subst hxb
          rw [if_neg (fun h => hne h.symm), if_pos rfl]
          unfold inner
          rw [if_neg (by rw [k3]; simp), if_pos (by rw [Nat.testBit_or, testBit_two_pow]; simp)]
          have hba : adj nx x a := by unfold adj; rw [← hs a x ha hxl]; exact k2
          have : popc nx.length 0 < popc nx.length (nx.getD x 0 &&& (S ||| 2 ^ x)) := popc_lt_of (fun i hi => by simp at hi) ha (by simp) (by rw [Nat.testBit_and, Nat.testBit_or, k1]; rw [show (nx.getD x 0).testBit a = true from hba]; rfl)
          omega
        · rw [if_neg hxb]
          by_cases hxa : x = a
          · subst hxa
            rw [if_pos rfl]
            unfold inner
            rw [if_pos k1, if_pos (hsub _ k1)]
            have := popc_lt_of (n := nx.length) (i := b) hand hb (by rw [Nat.testBit_and, k3, Bool.and_false]) (by rw [Nat.testBit_and, Nat.testBit_or, testBit_two_pow]; rw [show (nx.getD x 0).testBit b = true from k2]; simp)
            omega
          · rw [if_neg hxa]
            unfold inner
            by_cases hxS : S.testBit x = true
            · rw [if_pos hxS, if_pos (hsub _ hxS)]
              have := popc_mono nx.length hand
              omega
            · rw [if_neg hxS]; omega
      have h5 := sumR_le hpt
      rw [sumR_add, sumR_add, sumR_ind, sumR_ind, if_pos ha, if_pos hb] at h5
      omega
theorem conn_ends (hx : ∀ x ∈ nx, x < 2 ^ nx.length) (hs : Sym nx) {r : Nat} (hr : r < nx.length) (hc : ball nx r nx.length = full nx.length) : 2 * (nx.length - 1) ≤ sumR nx.length (fun a => popc nx.length (nx.getD a 0)) := by
  obtain ⟨S, h1, h2, h3, h4⟩ := conn_grow hx hs hr hc (nx.length - 1) (by omega)
  refine Nat.le_trans h4 (sumR_le (fun a ha => ?_))
  unfold inner
  split
  · exact popc_mono _ (fun i hi => by rw [Nat.testBit_and, Bool.and_eq_true] at hi; exact hi.1)
  · omega
def cutE (nx : List Nat) (u v : Nat) : List Nat := (List.range nx.length).map fun a => if a = u then diff (nx.getD a 0) (2 ^ v) else if a = v then diff (nx.getD a 0) (2 ^ u) else nx.getD a 0
theorem cutE_length (u v : Nat) : (cutE nx u v).length = nx.length := by simp [cutE]
theorem cutE_get {u v a : Nat} (ha : a < nx.length) : (cutE nx u v).getD a 0 = if a = u then diff (nx.getD a 0) (2 ^ v) else if a = v then diff (nx.getD a 0) (2 ^ u) else nx.getD a 0 := by
  unfold cutE
  rw [List.getD_eq_getElem?_getD, List.getElem?_map, List.getElem?_range ha]
  rfl
theorem cutE_adj {u v a b : Nat} (hne : u ≠ v) (ha : a < nx.length) : adj (cutE nx u v) a b ↔ adj nx a b ∧ ¬ (a = u ∧ b = v) ∧ ¬ (a = v ∧ b = u) := by
  unfold adj
  rw [cutE_get ha]
  by_cases h1 : a = u
  · rw [if_pos h1, testBit_diff, testBit_two_pow, Bool.and_eq_true]
    simp only [Bool.not_eq_true', decide_eq_false_iff_not]
    constructor
    · rintro ⟨k1, k2⟩; exact ⟨k1, fun h => k2 h.2.symm, fun h => hne (h1.symm.trans h.1)⟩
    · rintro ⟨k1, k2, _⟩; exact ⟨k1, fun h => k2 ⟨h1, h.symm⟩⟩
  · rw [if_neg h1]
    by_cases h2 : a = v
    · rw [if_pos h2, testBit_diff, testBit_two_pow, Bool.and_eq_true]
      simp only [Bool.not_eq_true', decide_eq_false_iff_not]
      constructor
      · rintro ⟨k1, k2⟩; exact ⟨k1, fun h => h1 h.1, fun h => k2 h.2.symm⟩
      · rintro ⟨k1, _, k2⟩; exact ⟨k1, fun h => k2 ⟨h2, h.symm⟩⟩
    · rw [if_neg h2]
      exact ⟨fun h => ⟨h, fun h' => h1 h'.1, fun h' => h2 h'.1⟩, fun h => h.1⟩
theorem cutE_rows (hx : ∀ x ∈ nx, x < 2 ^ nx.length) (u v : Nat) : ∀ x ∈ cutE nx u v, x < 2 ^ (cutE nx u v).length := by
  rw [cutE_length]
  intro x hxm
  unfold cutE at hxm
  obtain ⟨a, ha, rfl⟩ := List.mem_map.1 hxm
  have hal := List.mem_range.1 ha
  have : nx.getD a 0 < 2 ^ nx.length := by
    rw [List.getD_eq_getElem?_getD, List.getElem?_eq_getElem hal]
    exact hx _ (List.getElem_mem hal)
  split
  · exact diff_le _ _ _ this
  · split
    · exact diff_le _ _ _ this
    · exact this
theorem cutE_sym (hs : Sym nx) {u v : Nat} (hne : u ≠ v) : Sym (cutE nx u v) := by
  intro a b ha hb
  rw [cutE_length] at ha hb
  rw [Bool.eq_iff_iff]
  have h1 := cutE_adj (a := a) (b := b) hne ha
  have h2 := cutE_adj (a := b) (b := a) hne hb
  unfold adj at h1 h2
  rw [h1, h2, hs a b ha hb]
  constructor
  · rintro ⟨k1, k2, k3⟩; exact ⟨k1, fun h => k3 ⟨h.2, h.1⟩, fun h => k2 ⟨h.2, h.1⟩⟩
  · rintro ⟨k1, k2, k3⟩; exact ⟨k1, fun h => k3 ⟨h.2, h.1⟩, fun h => k2 ⟨h.2, h.1⟩⟩
theorem popc_diff_one {n a v : Nat} (hv : v < n) (h : a.testBit v = true) : popc n (diff a (2 ^ v)) + 1 = popc n a := by
  have e : diff a (2 ^ v) ||| 2 ^ v = a := by
    apply Nat.eq_of_testBit_eq
    intro i
    rw [Nat.testBit_or, testBit_diff, testBit_two_pow]
    by_cases hi : v = i
    · subst hi; rw [h]; simp
    · rw [decide_eq_false hi]; simp
  have h2 := popc_or_disj n (diff a (2 ^ v)) (2 ^ v) (disj_diff _ _)
  rw [e, popc_pow hv] at h2
  omega
theorem cutE_sum (hs : Sym nx) {u v : Nat} (hu : u < nx.length) (hv : v < nx.length) (hne : u ≠ v) (h : adj nx u v) : sumR nx.length (fun a => popc nx.length ((cutE nx u v).getD a 0)) + 2 = sumR nx.length (fun a => popc nx.length (nx.getD a 0)) := by
  have hvu : adj nx v u := by unfold adj; rw [← hs u v hu hv]; exact h
  have : sumR nx.length (fun a => (popc nx.length ((cutE nx u v).getD a 0) + (if a = u then 1 else 0)) + (if a = v then 1 else 0)) = sumR nx.length (fun a => popc nx.length (nx.getD a 0)) := by
    refine sumR_congr (fun a ha => ?_)
    show (popc nx.length ((cutE nx u v).getD a 0) + (if a = u then 1 else 0)) + (if a = v then 1 else 0) = _
    rw [cutE_get ha]
    by_cases h1 : a = u
    · subst h1
      rw [if_pos rfl, if_pos rfl, if_neg hne]
      exact popc_diff_one hv h
    · rw [if_neg h1, if_neg h1]
      by_cases h2 : a = v
      · subst h2
        rw [if_pos rfl, if_pos rfl]
        exact popc_diff_one hu hvu
      · rw [if_neg h2, if_neg h2]; rfl
  rw [sumR_add, sumR_add, sumR_ind, sumR_ind, if_pos hu, if_pos hv] at this
  omega
structure Tree (nx : List Nat) : Prop where
  rows : ∀ x ∈ nx, x < 2 ^ nx.length
  len : nx.length ≤ 10
  pos : 0 < nx.length
  sym : Sym nx
  irr : ∀ a, ¬ adj nx a a
  conn : ball nx 0 nx.length = full nx.length
  ends : sumR nx.length (fun a => popc nx.length (nx.getD a 0)) = 2 * (nx.length - 1)
theorem Tree.adj_lt (h : Tree nx) {a b : Nat} (hab : adj nx a b) : a < nx.length ∧ b < nx.length := by
  refine ⟨?_, row_lt h.rows hab⟩
  rcases Nat.lt_or_ge a nx.length with ha | ha
  · exact ha
  · unfold adj at hab
    rw [List.getD_eq_getElem?_getD, List.getElem?_eq_none ha] at hab
    simp at hab
theorem Tree.adj_symm (h : Tree nx) {a b : Nat} (hab : adj nx a b) : adj nx b a := by
  have hl := h.adj_lt hab
  unfold adj
  rw [← h.sym a b hl.1 hl.2]
  exact hab
theorem Tree.closed (h : Tree nx) {c x : Nat} (hc : Closed nx c) (hx : c.testBit x = true) (hxl : x < nx.length) : ∀ i, i < nx.length → c.testBit i = true := by
  cases h0 : c.testBit 0 with
  | true => exact closed_all h.rows h.pos h.conn hc h0
  | false =>
    intro i hi
    have := closed_all h.rows h.pos h.conn (hc.co h.sym) (by rw [testBit_diff, full_test, h0]; simp [h.pos]) x hxl
    rw [testBit_diff, hx] at this
    simp at this
/-- An edge of a tree parts it: a set that holds the one end, not the other one, and that only this edge leaves. -/
theorem Tree.sep (h : Tree nx) {u v : Nat} (huv : adj nx u v) : ∃ K : Nat → Prop, K u ∧ ¬ K v ∧ ∀ a b, K a → adj nx a b → K b ∨ (a = u ∧ b = v) := by
  have hl := h.adj_lt huv
  have hne : u ≠ v := by rintro rfl; exact h.irr _ huv
  have hx' := cutE_rows h.rows u v
  have hlen := cutE_length (nx := nx) u v
  have hu' : u < (cutE nx u v).length := by rw [hlen]; exact hl.1
  have hcl := cloF_closed hx' _ _ _ (clo_ball hx' hu')
  have hlt := ball_lt hx' hu' (cutE nx u v).length
  obtain ⟨R, hR⟩ : ∃ R, R = ball (cutE nx u v) u (cutE nx u v).length := ⟨_, rfl⟩
  rw [← hR] at hcl hlt
  have hRu : R.testBit u = true := by rw [hR]; exact ball_self _ _
  have hstep : ∀ a b, R.testBit a = true → adj nx a b → R.testBit b = true ∨ (a = u ∧ b = v) ∨ (a = v ∧ b = u) := by
    intro a b ha hab
    have hab' := h.adj_lt hab
    by_cases h1 : a = u ∧ b = v
    · exact .inr (.inl h1)
    · by_cases h2 : a = v ∧ b = u
      · exact .inr (.inr h2)
      · exact .inl (hcl a b (by rw [hlen]; exact hab'.1) (by rw [hlen]; exact hab'.2) ha ((cutE_adj hne hab'.1).2 ⟨hab, h1, h2⟩))
  refine ⟨fun a => R.testBit a = true, hRu, fun hRv => ?_, fun a b ha hab => ?_⟩
  · -- then the graph without the edge is connected
    have hc : Closed nx R := by
      intro a b _ _ ha hab
      rcases hstep a b ha hab with k | ⟨_, rfl⟩ | ⟨_, rfl⟩
      · exact k
      · exact hRv
      · exact hRu
    have hall := h.closed hc hRu hl.1
    have hfull : ball (cutE nx u v) u (cutE nx u v).length = full (cutE nx u v).length := by
      rw [← hR]
      refine full_of_sub hlt (fun i hi => ?_)
      rw [full_test, hlen] at hi
      exact hall i (by simpa using hi)
    have h1 := conn_ends hx' (cutE_sym h.sym hne) hu' hfull
    rw [hlen] at h1
    have h2 := cutE_sum h.sym hl.1 hl.2 hne huv
    have h3 := h.ends
    omega
  · rcases hstep a b ha hab with k | k | ⟨rfl, rfl⟩
    · exact .inl k
    · exact .inr k
    · exact .inl hRu
end
end Wog
end
section
namespace Wog
set_option linter.unusedVariables false
/-- What f reaches without v. -/
def frontA (nx : List Nat) (f v : Nat) : Nat := reachS nx (2 ^ v) f
def behind (nx : List Nat) (f v : Nat) : Nat := diff (full nx.length) (frontA nx f v)
def ConnIn (nx : List Nat) (f B : Nat) : Prop := ∀ X : Nat → Prop, X f → (∀ a b, X a → adj nx a b → B.testBit b = true → X b) → ∀ b, B.testBit b = true → X b
section
variable {nx : List Nat} {f : Nat}
theorem pow_ne {v f : Nat} (h : v ≠ f) : (2 ^ v).testBit f = false := by rw [testBit_two_pow]; exact decide_eq_false h
theorem A_self (hx : ∀ x ∈ nx, x < 2 ^ nx.length) (hf : f < nx.length) {v : Nat} (hv : v ≠ f) : (frontA nx f v).testBit f = true := reach_start hx hf (pow_ne hv)
theorem A_step (hx : ∀ x ∈ nx, x < 2 ^ nx.length) (hf : f < nx.length) {v a b : Nat} (hv : v ≠ f) (ha : (frontA nx f v).testBit a = true) (hab : adj nx a b) (hb : b ≠ v) : (frontA nx f v).testBit b = true :=
  reach_step hx hf (pow_ne hv) ha hab (pow_ne (fun e => hb e.symm))
theorem A_not (hx : ∀ x ∈ nx, x < 2 ^ nx.length) (hf : f < nx.length) {v : Nat} (hv : v ≠ f) : (frontA nx f v).testBit v = false := by
  cases h : (frontA nx f v).testBit v with
  | false => rfl
  | true =>
    have := reach_not hx hf (pow_ne hv) h
    rw [testBit_two_pow] at this
    simp at this
theorem A_least (hx : ∀ x ∈ nx, x < 2 ^ nx.length) (hf : f < nx.length) {v : Nat} (hv : v ≠ f) (X : Nat → Prop) (h0 : X f) (hs : ∀ a b, X a → adj nx a b → b ≠ v → X b) : ∀ i, (frontA nx f v).testBit i = true → X i :=
  reach_least hx hf (pow_ne hv) X h0 (fun a b ha hab hb => hs a b ha hab (by rintro rfl; rw [testBit_two_pow] at hb; simp at hb))
theorem behind_lt (v : Nat) : behind nx f v < 2 ^ nx.length := diff_le _ _ _ (full_lt _)
theorem behind_bit (v x : Nat) : (behind nx f v).testBit x = true ↔ x < nx.length ∧ (frontA nx f v).testBit x = false := by
  unfold behind
  rw [testBit_diff, full_test, Bool.and_eq_true]
  simp
theorem behind_self (hx : ∀ x ∈ nx, x < 2 ^ nx.length) (hf : f < nx.length) {v : Nat} (hv : v ≠ f) (hvl : v < nx.length) : (behind nx f v).testBit v = true := (behind_bit v v).2 ⟨hvl, A_not hx hf hv⟩
theorem Tree.parent_unique (h : Tree nx) (hf : f < nx.length) {d x z : Nat} (hd : d ≠ f) (hxA : (frontA nx f d).testBit x = true) (hzA : (frontA nx f d).testBit z = true) (hxd : adj nx x d) (hzd : adj nx z d) : x = z := by
  obtain ⟨K, k1, k2, k3⟩ := h.sep hxd
  have k4 : ∀ a b, ¬ K a → adj nx a b → ¬ K b ∨ (a = d ∧ b = x) := by
    intro a b ha hab
    by_cases hb : K b
    · rcases k3 b a hb (h.adj_symm hab) with k | ⟨k, k'⟩
      · exact absurd k ha
      · exact .inr ⟨k', k⟩
    · exact .inl hb
  have hfK : K f := by
    apply Classical.byContradiction
    intro hno
    have := A_least h.rows hf hd (fun a => ¬ K a ∧ a ≠ d) ⟨hno, fun e => hd e.symm⟩ (fun a b ha hab hb => by
      rcases k4 a b ha.1 hab with k | ⟨k, _⟩
      · exact ⟨k, hb⟩
      · exact absurd k ha.2) x hxA
    exact this.1 k1
  have hzK := A_least h.rows hf hd K hfK (fun a b ha hab hb => by
    rcases k3 a b ha hab with k | ⟨_, k⟩
    · exact k
    · exact absurd k hb) z hzA
  rcases k3 z d hzK hzd with k | ⟨k, _⟩
  · exact absurd k k2
  · exact k.symm
theorem Tree.ball_in_A (h : Tree nx) (hf : f < nx.length) {d r : Nat} (hd : d ≠ f) (hdr : (ball nx f r).testBit d = false) : ∀ x, (ball nx f r).testBit x = true → (frontA nx f d).testBit x = true := by
  induction r with
  | zero =>
    intro x hx
    rw [ball, testBit_two_pow] at hx
    have : f = x := by simpa using hx
    rw [← this]
    exact A_self h.rows hf hd
  | succ r ih =>
    intro x hx
    have hdr' : (ball nx f r).testBit d = false := by
      cases e : (ball nx f r).testBit d with
      | false => rfl
      | true => rw [arnd_self nx _ d e |> (show (ball nx f (r + 1)).testBit d = true from ·)] at hdr; cases hdr
    have hxd : x ≠ d := by rintro rfl; rw [hx] at hdr; cases hdr
    rw [ball, arnd_bit_iff] at hx
    rcases hx with hx | ⟨a, ha, h1, h2⟩
    · exact ih hdr' x hx
    · exact A_step h.rows hf hd (ih hdr' a h1) h2 hxd
/-- The vertex before, on the way to f, is in front of all that the vertex is in front of. -/
theorem Tree.path (h : Tree nx) (hf : f < nx.length) {d r x y : Nat} (hd : d ≠ f) (hy : (ball nx f r).testBit y = true) (hyx : adj nx y x) (hx : (ball nx f r).testBit x = false) (hxA : (frontA nx f d).testBit x = true) : (frontA nx f d).testBit y = true := by
  by_cases hyd : y = d
  · subst hyd
    exfalso
    -- the first ball that holds y
    have : ∀ r, (ball nx f r).testBit y = true → ∃ s z, s < r ∧ (ball nx f s).testBit z = true ∧ adj nx z y ∧ (ball nx f s).testBit y = false := by
      intro r
      induction r with
      | zero =>
        intro hy
        rw [ball, testBit_two_pow] at hy
        exact absurd (by simpa using hy : f = y).symm hd
      | succ r ih =>
        intro hy
        cases e : (ball nx f r).testBit y with
        | true => obtain ⟨s, z, h1, h2⟩ := ih e; exact ⟨s, z, by omega, h2⟩
        | false =>
          rw [ball, arnd_bit_iff, e] at hy
          rcases hy with hy | ⟨a, ha, h1, h2⟩
          · cases hy
          · exact ⟨r, a, by omega, h1, h2, e⟩
    obtain ⟨s, z, h1, h2, h3, h4⟩ := this r hy
    have hzA := h.ball_in_A hf hd h4 z h2
    have hxz := h.parent_unique hf hd hxA hzA (h.adj_symm hyx) h3
    have : ∀ k, sub (ball nx f s) (ball nx f (s + k)) := by
      intro k
      induction k with
      | zero => exact sub_refl _
      | succ k ih => exact sub_trans ih (arnd_self nx _)
    have h5 := this (r - s) z h2
    rw [show s + (r - s) = r by omega, ← hxz, hx] at h5
    cases h5
  · exact A_step h.rows hf hd hxA (h.adj_symm hyx) hyd
theorem ConnIn.in_A (h : Tree nx) (hf : f < nx.length) {B v : Nat} (hB : ConnIn nx f B) (hv : v ≠ f) (hvB : B.testBit v = false) : ∀ b, B.testBit b = true → (frontA nx f v).testBit b = true :=
  hB _ (A_self h.rows hf hv) (fun a b ha hab hb => A_step h.rows hf hv ha hab (by rintro rfl; rw [hb] at hvB; cases hvB))
/-- What is reached from a threatened vertex without what burns is what is behind it. -/
theorem Tree.reach_behind (h : Tree nx) (hf : f < nx.length) {B v u : Nat} (hB : ConnIn nx f B) (hfB : B.testBit f = true) (hBl : B < 2 ^ nx.length) (hvB : B.testBit v = false) (huB : B.testBit u = true) (huv : adj nx u v) : reachS nx B v = behind nx f v := by
  have hl := h.adj_lt huv
  have hvf : v ≠ f := by rintro rfl; rw [hfB] at hvB; cases hvB
  have hWl := (reach_is h.rows hl.2 hvB).2
  refine ext_lt hWl (behind_lt v) (fun i hi => ?_)
  rw [Bool.eq_iff_iff, behind_bit]
  constructor
  · intro hiW
    refine ⟨hi, ?_⟩
    -- the edge parts them
    obtain ⟨K, k1, k2, k3⟩ := h.sep huv
    have k4 : ∀ a b, ¬ K a → adj nx a b → ¬ K b ∨ (a = v ∧ b = u) := by
      intro a b ha hab
      by_cases hb : K b
      · rcases k3 b a hb (h.adj_symm hab) with k | ⟨k, k'⟩
        · exact absurd k ha
        · exact .inr ⟨k', k⟩
      · exact .inl hb
    have hfK : K f := by
      apply Classical.byContradiction
      intro hno
      have := hB (fun a => ¬ K a ∧ a ≠ v) ⟨hno, fun e => hvf e.symm⟩ (fun a b ha hab hb => by
        have hbv : b ≠ v := by rintro rfl; rw [hb] at hvB; cases hvB
        rcases k4 a b ha.1 hab with k | ⟨k, _⟩
        · exact ⟨k, hbv⟩
        · exact absurd k ha.2) u huB
      exact this.1 k1
    have hWK := reach_least h.rows hl.2 hvB (fun a => ¬ K a) k2 (fun a b ha hab hb => by
      rcases k4 a b ha hab with k | ⟨_, k⟩
      · exact k
      · rw [k, huB] at hb; cases hb) i hiW
    cases hA : (frontA nx f v).testBit i with
    | false => rfl
    | true =>
      exact absurd (A_least h.rows hf hvf K hfK (fun a b ha hab hb => by
        rcases k3 a b ha hab with k | ⟨_, k⟩
        · exact k
        · exact absurd k hb) i hA) hWK
  · rintro ⟨_, hiA⟩
    -- what is in front and what is reached is all
    have hc : Closed nx (frontA nx f v ||| reachS nx B v) := by
      intro a b ha hb h1 h2
      rw [Nat.testBit_or, Bool.or_eq_true] at h1 ⊢
      rcases h1 with h1 | h1
      · by_cases hbv : b = v
        · exact .inr (by rw [hbv]; exact reach_start h.rows hl.2 hvB)
        · exact .inl (A_step h.rows hf hvf h1 h2 hbv)
      · cases hbB : B.testBit b with
        | true => exact .inl (hB.in_A h hf hvf hvB b hbB)
        | false => exact .inr (reach_step h.rows hl.2 hvB h1 h2 hbB)
    have := h.closed hc (x := f) (by rw [Nat.testBit_or, A_self h.rows hf hvf]; rfl) hf i hi
    rw [Nat.testBit_or, hiA, Bool.false_or] at this
    exact this
end
def behL (nx : List Nat) (f : Nat) : List Nat := (List.range nx.length).map (behind nx f)
/-- What is behind the defended vertices. -/
def inS (nx : List Nat) (f D : Nat) : Nat := nb (behL nx f) D
section
variable {nx : List Nat} {f : Nat}
theorem inS_bit (D x : Nat) : (inS nx f D).testBit x = true ↔ ∃ d, d < nx.length ∧ D.testBit d = true ∧ (behind nx f d).testBit x = true := by
  unfold inS
  rw [nb_bit_iff]
  have hl : (behL nx f).length = nx.length := by simp [behL]
  have hg : ∀ v, v < nx.length → (behL nx f).getD v 0 = behind nx f v := by
    intro v hv
    unfold behL
    rw [List.getD_eq_getElem?_getD, List.getElem?_map, List.getElem?_range hv]
    rfl
  constructor
  · rintro ⟨v, h1, h2, h3⟩
    rw [hl] at h1
    exact ⟨v, h1, h2, by rwa [hg v h1] at h3⟩
  · rintro ⟨v, h1, h2, h3⟩
    exact ⟨v, by rw [hl]; exact h1, h2, by rwa [hg v h1]⟩
theorem inS_or {D d : Nat} (hd : d < nx.length) : inS nx f (D ||| 2 ^ d) = inS nx f D ||| behind nx f d := by
  apply Nat.eq_of_testBit_eq
  intro i
  rw [Bool.eq_iff_iff, inS_bit, Nat.testBit_or, Bool.or_eq_true, inS_bit]
  constructor
  · rintro ⟨c, h1, h2, h3⟩
    rw [Nat.testBit_or, Bool.or_eq_true, testBit_two_pow] at h2
    rcases h2 with h2 | h2
    · exact .inl ⟨c, h1, h2, h3⟩
    · have : d = c := by simpa using h2
      subst this
      exact .inr h3
  · rintro (⟨c, h1, h2, h3⟩ | h3)
    · exact ⟨c, h1, sub_or_left _ _ _ h2, h3⟩
    · exact ⟨d, hd, sub_or_right _ _ _ (by rw [testBit_two_pow]; simp), h3⟩
/-- A state of a fire on a tree, after t rounds. -/
structure Inv (nx : List Nat) (f B D t : Nat) : Prop where
  bits : ∀ x, B.testBit x = true ↔ (ball nx f t).testBit x = true ∧ (inS nx f D).testBit x = false
  df : D.testBit f = false
  dlt : D < 2 ^ nx.length
theorem Inv.ne (h : Tree nx) (hf : f < nx.length) {B D t : Nat} (i : Inv nx f B D t) {d : Nat} (hd : D.testBit d = true) : d ≠ f := by
  rintro rfl
  rw [i.df] at hd
  cases hd
theorem Inv.notS (h : Tree nx) (hf : f < nx.length) {B D t : Nat} (i : Inv nx f B D t) {x : Nat} (hx : x < nx.length) : (inS nx f D).testBit x = false ↔ ∀ d, D.testBit d = true → (frontA nx f d).testBit x = true := by
  constructor
  · intro hS d hd
    cases hA : (frontA nx f d).testBit x with
    | true => rfl
    | false =>
      have := (inS_bit (f := f) D x).2 ⟨d, lt_of_bit i.dlt hd, hd, (behind_bit d x).2 ⟨hx, hA⟩⟩
      rw [this] at hS
      cases hS
  · intro hall
    cases hS : (inS nx f D).testBit x with
    | false => rfl
    | true =>
      obtain ⟨d, h1, h2, h3⟩ := (inS_bit D x).1 hS
      rw [behind_bit, hall d h2] at h3
      cases h3.2
theorem Inv.fB (h : Tree nx) (hf : f < nx.length) {B D t : Nat} (i : Inv nx f B D t) : B.testBit f = true :=
  (i.bits f).2 ⟨ball_self f t, (i.notS h hf hf).2 (fun d hd => A_self h.rows hf (i.ne h hf hd))⟩
theorem Inv.inSd (h : Tree nx) (hf : f < nx.length) {B D t : Nat} (i : Inv nx f B D t) {d : Nat} (hd : D.testBit d = true) : (inS nx f D).testBit d = true :=
  (inS_bit D d).2 ⟨d, lt_of_bit i.dlt hd, hd, behind_self h.rows hf (i.ne h hf hd) (lt_of_bit i.dlt hd)⟩
theorem Inv.disj (h : Tree nx) (hf : f < nx.length) {B D t : Nat} (i : Inv nx f B D t) : Wog.disj B D := by
  intro x hx
  cases hd : D.testBit x with
  | false => rfl
  | true =>
    have := (i.bits x).1 hx
    rw [i.inSd h hf hd] at this
    cases this.2
theorem Inv.lt (h : Tree nx) (hf : f < nx.length) {B D t : Nat} (i : Inv nx f B D t) : B < 2 ^ nx.length := by
  have hb := ball_lt h.rows hf t
  refine Nat.lt_of_le_of_lt ?_ hb
  have : B = B &&& ball nx f t := by
    apply Nat.eq_of_testBit_eq
    intro x
    rw [Nat.testBit_and]
    cases hx : B.testBit x with
    | false => rfl
    | true => rw [((i.bits x).1 hx).1]; rfl
  rw [this]
  exact Nat.and_le_right
/-- The vertex before an undefended one is undefended. -/
theorem Inv.back (h : Tree nx) (hf : f < nx.length) {B D t : Nat} (i : Inv nx f B D t) {r x y : Nat} (hx : (inS nx f D).testBit x = false) (hy : (ball nx f r).testBit y = true) (hyx : adj nx y x) (hxr : (ball nx f r).testBit x = false) : (inS nx f D).testBit y = false := by
  have hl := h.adj_lt hyx
  rw [i.notS h hf hl.2] at hx
  rw [i.notS h hf hl.1]
  exact fun d hd => h.path hf (i.ne h hf hd) hy hyx hxr (hx d hd)
theorem Inv.conn (h : Tree nx) (hf : f < nx.length) {B D t : Nat} (i : Inv nx f B D t) : ConnIn nx f B := by
  intro X h0 hs b hb
  have key : ∀ r, r ≤ t → ∀ x, (ball nx f r).testBit x = true → (inS nx f D).testBit x = false → X x := by
    intro r
    induction r with
    | zero =>
      intro _ x hx _
      rw [ball, testBit_two_pow] at hx
      rw [← (by simpa using hx : f = x)]
      exact h0
    | succ r ih =>
      intro hr x hx hS
      cases e : (ball nx f r).testBit x with
      | true => exact ih (by omega) x e hS
      | false =>
        have hx' := hx
        rw [ball, arnd_bit_iff, e] at hx'
        rcases hx' with hx' | ⟨y, hyl, h1, h2⟩
        · cases hx'
        · have hyS := i.back h hf hS h1 h2 e
          have hmono : ∀ k, sub (ball nx f (r + 1)) (ball nx f (r + 1 + k)) := by
            intro k
            induction k with
            | zero => exact sub_refl _
            | succ k ihk => exact sub_trans ihk (arnd_self nx _)
          have hxt := hmono (t - (r + 1)) x hx
          rw [show r + 1 + (t - (r + 1)) = t by omega] at hxt
          exact hs y x (ih (by omega) y h1 hyS) h2 ((i.bits x).2 ⟨hxt, hS⟩)
  have := (i.bits b).1 hb
  exact key t (Nat.le_refl _) b this.1 this.2
theorem Inv.start (h : Tree nx) (hf : f < nx.length) : Inv nx f (2 ^ f) 0 0 := by
  refine ⟨fun x => ?_, by simp, Nat.two_pow_pos _⟩
  have : (inS nx f 0).testBit x = false := by
    cases hS : (inS nx f 0).testBit x with
    | false => rfl
    | true => obtain ⟨d, _, h2, _⟩ := (inS_bit 0 x).1 hS; simp at h2
  rw [this, ball]
  simp
/-- A round. -/
theorem Inv.step (h : Tree nx) (hf : f < nx.length) {B D t d : Nat} (i : Inv nx f B D t) (hdl : d < nx.length) (hdB : B.testBit d = false) (hdD : D.testBit d = false) : Inv nx f (B ||| moreS nx B (D ||| 2 ^ d)) (D ||| 2 ^ d) (t + 1) := by
  have hdf : d ≠ f := by rintro rfl; rw [i.fB h hf] at hdB; cases hdB
  have hD' : D ||| 2 ^ d < 2 ^ nx.length := Nat.or_lt_two_pow i.dlt (Nat.pow_lt_pow_right (by omega) hdl)
  have hdf' : (D ||| 2 ^ d).testBit f = false := by rw [Nat.testBit_or, i.df, pow_ne hdf]; rfl
  have hBA := (i.conn h hf).in_A h hf hdf hdB
  have hnotS : ∀ x, x < nx.length → ((inS nx f (D ||| 2 ^ d)).testBit x = false ↔ (inS nx f D).testBit x = false ∧ (frontA nx f d).testBit x = true) := by
    intro x hx
    rw [inS_or hdl, Nat.testBit_or, Bool.or_eq_false_iff]
    have : (behind nx f d).testBit x = false ↔ (frontA nx f d).testBit x = true := by
      have := behind_bit (nx := nx) (f := f) d x
      cases h1 : (behind nx f d).testBit x <;> cases h2 : (frontA nx f d).testBit x <;> simp_all
    rw [this]
  refine ⟨fun x => ?_, hdf', hD'⟩
  rw [step_eq (disj_or (i.disj h hf) (disj_one hdB)), testBit_diff, Bool.and_eq_true]
  constructor
  · rintro ⟨h1, h2⟩
    have h2' : (D ||| 2 ^ d).testBit x = false := by simpa using h2
    obtain ⟨h3, h4⟩ := valid_split h2'
    have hxd : x ≠ d := by rintro rfl; rw [testBit_two_pow] at h4; simp at h4
    rw [arnd_bit_iff] at h1
    rcases h1 with h1 | ⟨y, hy, h5, h6⟩
    · have hxl := lt_of_bit (i.lt h hf) h1
      have hb := (i.bits x).1 h1
      exact ⟨arnd_self nx _ x hb.1, (hnotS x hxl).2 ⟨hb.2, hBA x h1⟩⟩
    · have hxl := (h.adj_lt h6).2
      have hb := (i.bits y).1 h5
      refine ⟨(arnd_bit_iff nx _ x).2 (.inr ⟨y, hy, hb.1, h6⟩), (hnotS x hxl).2 ⟨?_, A_step h.rows hf hdf (hBA y h5) h6 hxd⟩⟩
      rw [i.notS h hf hxl]
      intro c hc
      have hyA := (i.notS h hf hy).1 hb.2 c hc
      exact A_step h.rows hf (i.ne h hf hc) hyA h6 (by rintro rfl; rw [hc] at h3; cases h3)
  · rintro ⟨h1, h2⟩
    have hxl := lt_of_bit (ball_lt h.rows hf _) h1
    obtain ⟨h3, h4⟩ := (hnotS x hxl).1 h2
    have hxD : (D ||| 2 ^ d).testBit x = false := by
      rw [Nat.testBit_or, Bool.or_eq_false_iff]
      refine ⟨?_, ?_⟩
      · cases hd : D.testBit x with
        | false => rfl
        | true => rw [i.inSd h hf hd] at h3; cases h3
      · rw [testBit_two_pow]
        apply decide_eq_false
        rintro rfl
        rw [A_not h.rows hf hdf] at h4
        cases h4
    refine ⟨?_, by rw [hxD]; rfl⟩
    rw [arnd_bit_iff]
    cases e : (ball nx f t).testBit x with
    | true => exact .inl ((i.bits x).2 ⟨e, h3⟩)
    | false =>
      rw [ball, arnd_bit_iff, e] at h1
      rcases h1 with h1 | ⟨y, hy, h5, h6⟩
      · cases h1
      · exact .inr ⟨y, hy, (i.bits y).2 ⟨h5, i.back h hf h3 h5 h6 e⟩, h6⟩
/-- In the end all burns but what is behind the defended vertices. -/
theorem Inv.end (h : Tree nx) (hf : f < nx.length) {B D t e : Nat} (i : Inv nx f B D t) (he : cloF nx D (nx.length + 1) B = some e) : e = diff (full nx.length) (inS nx f D) := by
  have hlt : e < 2 ^ nx.length := endB_lt h.rows [] B D e (i.lt h hf) (i.disj h hf) he
  have hsup := cloF_sup _ _ _ (i.disj h hf) he
  have hfix := cloF_fix _ _ _ he
  have hstep : ∀ a b, e.testBit a = true → adj nx a b → D.testBit b = false → e.testBit b = true := by
    intro a b ha hab hb
    rw [← hfix, testBit_diff, (arnd_bit_iff nx e b).2 (.inr ⟨a, (h.adj_lt hab).1, ha, hab⟩), hb]
    rfl
  refine ext_lt hlt (diff_le _ _ _ (full_lt _)) (fun x hx => ?_)
  rw [Bool.eq_iff_iff, testBit_diff, full_test, Bool.and_eq_true]
  constructor
  · intro hxe
    refine ⟨decide_eq_true hx, ?_⟩
    have : (inS nx f D).testBit x = false := by
      rw [i.notS h hf hx]
      intro d hd
      exact clo_least (fun a => (frontA nx f d).testBit a = true) (fun a b ha hab hb => A_step h.rows hf (i.ne h hf hd) ha hab (by rintro rfl; rw [hd] at hb; cases hb)) _ _ _ he
        (fun y hy => (i.notS h hf (lt_of_bit (i.lt h hf) hy)).1 ((i.bits y).1 hy).2 d hd) x hxe
    rw [this]; rfl
  · rintro ⟨_, hS⟩
    have hS' : (inS nx f D).testBit x = false := by simpa using hS
    have key : ∀ r x, (ball nx f r).testBit x = true → (inS nx f D).testBit x = false → e.testBit x = true := by
      intro r
      induction r with
      | zero =>
        intro x hx _
        rw [ball, testBit_two_pow] at hx
        rw [← (by simpa using hx : f = x)]
        exact hsup f (i.fB h hf)
      | succ r ih =>
        intro x hx hxS
        cases e1 : (ball nx f r).testBit x with
        | true => exact ih x e1 hxS
        | false =>
          rw [ball, arnd_bit_iff, e1] at hx
          rcases hx with hx | ⟨y, hyl, h1, h2⟩
          · cases hx
          · refine hstep y x (ih y h1 (i.back h hf hxS h1 h2 e1)) h2 ?_
            cases hd : D.testBit x with
            | false => rfl
            | true => rw [i.inSd h hf hd] at hxS; cases hxS
    have hall := h.closed (cloF_closed h.rows _ _ _ (clo_ball h.rows hf)) (ball_self f _) hf x hx
    exact key nx.length x hall hS'
/-- What is behind a threatened vertex is not behind a defended one. -/
theorem Inv.apart (h : Tree nx) (hf : f < nx.length) {B D t a : Nat} (i : Inv nx f B D t) (hP : ∀ d, D.testBit d = true → ∃ p, B.testBit p = true ∧ adj nx p d) (ha : (moreS nx B D).testBit a = true) : ∀ x, (behind nx f a).testBit x = true → (inS nx f D).testBit x = false := by
  have haB := moreS_disjB (nx := nx) B D a ha
  have haD := moreS_disj (nx := nx) B D a ha
  have haf : a ≠ f := by rintro rfl; rw [i.fB h hf] at haB; cases haB
  have ha' := ha
  rw [moreS_bit, Bool.and_eq_true, Bool.and_eq_true, arnd_bit_iff, haB] at ha'
  obtain ⟨⟨hu, _⟩, _⟩ := ha'
  rcases hu with hu | ⟨u, hul, hu1, hu2⟩
  · cases hu
  · have hal := (h.adj_lt hu2).2
    have hrb := h.reach_behind hf (i.conn h hf) (i.fB h hf) (i.lt h hf) haB hu1 hu2
    intro x hx
    have hxl := ((behind_bit a x).1 hx).1
    rw [i.notS h hf hxl]
    intro d hd
    have hdf := i.ne h hf hd
    -- the defended vertex is not behind the threatened one
    have hda : (behind nx f a).testBit d = false := by
      cases hb : (behind nx f a).testBit d with
      | false => rfl
      | true =>
        exfalso
        rw [behind_bit] at hb
        obtain ⟨p, hp1, hp2⟩ := hP d hd
        have hpA := (i.conn h hf).in_A h hf haf haB p hp1
        have := A_step h.rows hf haf hpA hp2 (by rintro rfl; rw [hd] at haD; cases haD)
        rw [this] at hb
        cases hb.2
    rw [← hrb] at hx
    have := reach_least h.rows hal haB (fun y => (frontA nx f d).testBit y = true ∧ (behind nx f a).testBit y = true) ⟨by
        have huS := ((i.bits u).1 hu1).2
        have := (i.notS h hf hul).1 huS d hd
        exact A_step h.rows hf hdf this hu2 (by rintro rfl; rw [hd] at haD; cases haD), behind_self h.rows hf haf hal⟩
      (fun y z hy hyz hz => by
        have hzb : (behind nx f a).testBit z = true := by
          rw [← hrb]
          exact reach_step h.rows hal haB (by rw [hrb]; exact hy.2) hyz hz
        exact ⟨A_step h.rows hf hdf hy.1 hyz (by rintro rfl; rw [hzb] at hda; cases hda), hzb⟩) x hx
    exact this.1
end
end Wog
end
