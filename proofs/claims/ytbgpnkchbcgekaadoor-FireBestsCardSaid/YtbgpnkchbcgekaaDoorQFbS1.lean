/- Plain words on sets of vertices as numbers: bits, unions, differences, sizes; and how the program's operations on uint16 and int say the same. No program is in sight here. -/
import Derived.Laws.BitsAllLaws
import Derived.Lib.Tables
import Derived.Test.YtbgpnkchbcgekaaDoorQFbWMore
namespace Wog
open Go.Proofs.YtbgpnkchbcgekaaDoorW.PrintWords Go.Proofs.YtbgpnkchbcgekaaDoorW.PrintMore
set_option linter.unusedVariables false
/-- How many of the first m bits are set. -/
def popc (m a : Nat) : Nat := (List.range m).countP (fun i => a.testBit i)
/-- The members of a that b lacks. -/
def diff (a b : Nat) : Nat := a ^^^ (a &&& b)
theorem testBit_diff (a b i : Nat) : (diff a b).testBit i = (a.testBit i && !b.testBit i) := by
  unfold diff
  rw [Nat.testBit_xor, Nat.testBit_and]
  cases a.testBit i <;> cases b.testBit i <;> rfl
theorem diff_le (a b n : Nat) (h : a < 2 ^ n) : diff a b < 2 ^ n := by
  unfold diff
  exact Nat.xor_lt_two_pow h (Nat.lt_of_le_of_lt Nat.and_le_left h)
theorem ext_lt {a b n : Nat} (h : a < 2 ^ n) (k : b < 2 ^ n) (e : ∀ i, i < n → a.testBit i = b.testBit i) : a = b := by
  apply Nat.eq_of_testBit_eq
  intro i
  rcases Nat.lt_or_ge i n with hi | hi
  · exact e i hi
  · rw [Nat.testBit_lt_two_pow (Nat.lt_of_lt_of_le h (Nat.pow_le_pow_right (by omega) hi)), Nat.testBit_lt_two_pow (Nat.lt_of_lt_of_le k (Nat.pow_le_pow_right (by omega) hi))]
theorem testBit_two_pow (i j : Nat) : (2 ^ i).testBit j = decide (i = j) := by
  rw [Nat.testBit_two_pow]
theorem lt_of_bit {a n i : Nat} (h : a < 2 ^ n) (hi : a.testBit i = true) : i < n := by
  rcases Nat.lt_or_ge i n with h1 | h1
  · exact h1
  · rw [Nat.testBit_lt_two_pow (Nat.lt_of_lt_of_le h (Nat.pow_le_pow_right (by omega) h1))] at hi
    cases hi
theorem zero_of_bits {a : Nat} (h : ∀ i, a.testBit i = false) : a = 0 := by
  apply Nat.eq_of_testBit_eq
  intro i
  rw [h i, Nat.zero_testBit]
theorem or16 (a b : Nat) (ha : a < 65536) (hb : b < 65536) : Go.bits .or .u16 (a : Int) (b : Int) = ((a ||| b : Nat) : Int) := Go.u16_or_nat a b ha hb
theorem andNot16 (a b : Nat) (ha : a < 65536) (hb : b < 65536) : Go.bits .andNot .u16 (a : Int) (b : Int) = ((diff a b : Nat) : Int) := by
  rw [Go.u16_andNot_nat a b ha hb]
  congr 1
  apply Nat.eq_of_testBit_eq
  intro i
  rw [Nat.testBit_and, testBit_diff, show 65535 - b = 2 ^ 16 - (b + 1) from by omega, Nat.testBit_two_pow_sub_succ (by omega)]
  rcases Nat.lt_or_ge i 16 with h | h
  · simp [h]
  · rw [Nat.testBit_lt_two_pow (Nat.lt_of_lt_of_le (show a < 2 ^ 16 by omega) (Nat.pow_le_pow_right (by omega) h))]
    simp
theorem two_pow_cast (i : Nat) : (2 : Int) ^ i = ((2 ^ i : Nat) : Int) := by rw [Int.natCast_pow]; rfl
theorem shr16 (a i : Nat) : shr .u16 (a : Int) (i : Int) = ((a / 2 ^ min i 16 : Nat) : Int) := by
  unfold shr
  rw [Int.toNat_natCast]
  show (a : Int) / 2 ^ min i 16 = _
  rw [Int.natCast_ediv, Int.natCast_pow]
  rfl
theorem has16 (a i : Nat) (ha : a < 65536) : Go.bits .and .u16 (shr .u16 (a : Int) (i : Int)) 1 = (((a.testBit i).toNat : Nat) : Int) := by
  rw [shr16]
  have h1 : a / 2 ^ min i 16 < 65536 := Nat.lt_of_le_of_lt (Nat.div_le_self _ _) ha
  have h := Go.u16_and_nat (a / 2 ^ min i 16) 1 h1 (by omega)
  rw [Go.nat_mask1] at h
  refine h.trans ?_
  congr 1
  rw [Nat.toNat_testBit]
  rcases Nat.lt_or_ge i 16 with hi | hi
  · rw [Nat.min_eq_left (by omega)]
  · rw [Nat.min_eq_right hi, Nat.div_eq_of_lt (by omega : a < 2 ^ 16), Nat.div_eq_of_lt]
    exact Nat.lt_of_lt_of_le ha (Nat.pow_le_pow_right (n := 2) (by omega) hi)
theorem shl16 (i : Nat) (hi : i < 16) : shl .u16 1 (i : Int) = ((2 ^ i : Nat) : Int) := by
  unfold shl
  rw [Int.toNat_natCast]
  show Go.IntKind.u16.wrap (1 * 2 ^ min i 16) = _
  rw [Nat.min_eq_left (by omega), Go.IntKind.wrap_u16, Int.one_mul, two_pow_cast]
  have : 2 ^ i < 65536 := Nat.pow_lt_pow_right (a := 2) (by omega) hi
  generalize 2 ^ i = x at *
  omega
theorem ofInt64 (a : Nat) (ha : a < 9223372036854775808) : (BitVec.ofInt 64 (a : Int)).toNat = a := by
  rw [BitVec.ofInt_natCast, BitVec.toNat_ofNat]; exact Nat.mod_eq_of_lt (by omega)
theorem or64 (a b : Nat) (ha : a < 2 ^ 40) (hb : b < 2 ^ 40) : Go.bits .or .i64 (a : Int) (b : Int) = ((a ||| b : Nat) : Int) := by
  have hx : a ||| b < 2 ^ 40 := Nat.or_lt_two_pow ha hb
  show Go.IntKind.i64.wrap ((BitVec.ofInt 64 (a : Int) ||| BitVec.ofInt 64 (b : Int)).toNat : Int) = _
  rw [BitVec.toNat_or, ofInt64 a (by omega), ofInt64 b (by omega), Go.IntKind.wrap_i64]
  omega
theorem and64 (a b : Nat) (ha : a < 2 ^ 62) (hb : b < 2 ^ 62) : Go.bits .and .i64 (a : Int) (b : Int) = ((a &&& b : Nat) : Int) := by
  have hx : a &&& b < 2 ^ 62 := Nat.and_lt_two_pow _ hb
  show Go.IntKind.i64.wrap ((BitVec.ofInt 64 (a : Int) &&& BitVec.ofInt 64 (b : Int)).toNat : Int) = _
  rw [BitVec.toNat_and, ofInt64 a (by omega), ofInt64 b (by omega), Go.IntKind.wrap_i64]
  omega
theorem andNot64 (a b : Nat) (ha : a < 2 ^ 40) (hb : b < 2 ^ 40) : Go.bits .andNot .i64 (a : Int) (b : Int) = ((diff a b : Nat) : Int) := by
  have hx : diff a b < 2 ^ 40 := diff_le a b 40 ha
  show Go.IntKind.i64.wrap ((BitVec.ofInt 64 (a : Int) &&& ~~~(BitVec.ofInt 64 (b : Int))).toNat : Int) = _
  have e : (BitVec.ofInt 64 (a : Int) &&& ~~~(BitVec.ofInt 64 (b : Int))).toNat = diff a b := by
    rw [BitVec.toNat_and, ofInt64 a (by omega), BitVec.toNat_not, ofInt64 b (by omega)]
    apply Nat.eq_of_testBit_eq
    intro i
    rw [Nat.testBit_and, testBit_diff, show 2 ^ 64 - 1 - b = 2 ^ 64 - (b + 1) from by omega, Nat.testBit_two_pow_sub_succ (by omega)]
    rcases Nat.lt_or_ge i 64 with h | h
    · simp [h]
    · rw [Nat.testBit_lt_two_pow (Nat.lt_of_lt_of_le ha (Nat.pow_le_pow_right (by omega) (by omega)))]
      simp
  rw [e, Go.IntKind.wrap_i64]
  omega
theorem shr64 (a i : Nat) : shr .i64 (a : Int) (i : Int) = ((a / 2 ^ min i 64 : Nat) : Int) := by
  unfold shr
  rw [Int.toNat_natCast]
  show (a : Int) / 2 ^ min i 64 = _
  rw [Int.natCast_ediv, Int.natCast_pow]
  rfl
theorem has64 (a i : Nat) (ha : a < 2 ^ 62) : Go.bits .and .i64 (shr .i64 (a : Int) (i : Int)) 1 = (((a.testBit i).toNat : Nat) : Int) := by
  rw [shr64]
  have h1 : a / 2 ^ min i 64 < 2 ^ 62 := Nat.lt_of_le_of_lt (Nat.div_le_self _ _) ha
  have h := and64 (a / 2 ^ min i 64) 1 h1 (by omega)
  rw [Go.nat_mask1] at h
  refine h.trans ?_
  congr 1
  rw [Nat.toNat_testBit]
  rcases Nat.lt_or_ge i 64 with hi | hi
  · rw [Nat.min_eq_left (by omega)]
  · rw [Nat.min_eq_right hi, Nat.div_eq_of_lt (by omega : a < 2 ^ 64), Nat.div_eq_of_lt]
    exact Nat.lt_of_lt_of_le ha (Nat.pow_le_pow_right (n := 2) (by omega) (by omega))
theorem shl64 (i : Nat) (hi : i < 40) : shl .i64 1 (i : Int) = ((2 ^ i : Nat) : Int) := by
  unfold shl
  rw [Int.toNat_natCast]
  show Go.IntKind.i64.wrap (1 * 2 ^ min i 64) = _
  rw [Nat.min_eq_left (by omega), Go.IntKind.wrap_i64, Int.one_mul, two_pow_cast]
  have : 2 ^ i < 2 ^ 40 := Nat.pow_lt_pow_right (a := 2) (by omega) hi
  generalize 2 ^ i = x at *
  omega
theorem toNat_beq (b : Bool) : ((((b.toNat : Nat) : Int) == 1) : Bool) = b := by cases b <;> rfl
theorem pop8_is : ∀ i : Nat, i < 256 → Go.Lib.pop8 (i : Int) = ((popc 8 i : Nat) : Int) := by
  have h : ∀ i : Fin 256, Go.Lib.pop8 ((i.val : Nat) : Int) = ((popc 8 i.val : Nat) : Int) := by decide +kernel
  intro i hi
  exact h ⟨i, hi⟩
theorem popc_split (a m n : Nat) : popc (m + n) a = popc m (a % 2 ^ m) + popc n (a / 2 ^ m) := by
  unfold popc
  rw [List.range_add, List.countP_append]
  congr 1
  · apply List.countP_congr
    intro i hi
    rw [Nat.testBit_mod_two_pow]
    simp [List.mem_range.1 hi]
  · rw [List.countP_map]
    apply List.countP_congr
    intro i hi
    simp [Function.comp, Nat.testBit_div_two_pow, Nat.add_comm]
theorem pop16_is (a : Nat) (ha : a < 65536) : (Go.Lib.pop8 ((a : Int) / 256) + Go.Lib.pop8 ((a : Int) % 256)) % 256 = ((popc 16 a : Nat) : Int) := by
  have e1 : (a : Int) / 256 = ((a / 256 : Nat) : Int) := by omega
  have e2 : (a : Int) % 256 = ((a % 256 : Nat) : Int) := by omega
  rw [e1, e2, pop8_is _ (by omega), pop8_is _ (by omega), show popc 16 a = _ from popc_split a 8 8]
  have h1 : popc 8 (a % 256) ≤ 8 := Nat.le_trans List.countP_le_length (by simp)
  have h2 : popc 8 (a / 256) ≤ 8 := Nat.le_trans List.countP_le_length (by simp)
  show _ = ((popc 8 (a % 256) + popc 8 (a / 256) : Nat) : Int)
  omega
end Wog
