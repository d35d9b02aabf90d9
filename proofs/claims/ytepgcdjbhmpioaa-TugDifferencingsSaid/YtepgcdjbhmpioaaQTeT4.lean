/- How the operations of the program and its small functions answer: plain. -/
import Derived.Laws.BitsAllLaws
import Derived.Test.YtepgcdjbhmpioaaQTeH9
import Derived.Test.YtepgcdjbhmpioaaQTeFi5
namespace Go.Proofs.Ytepgcdjbhmpioaa.Fi
open Go.RowKit Go.Proofs.YtepgcdjbhmpioaaW.PrintWords Go.Proofs.YtepgcdjbhmpioaaW.PrintLast Go.Proofs.YtepgcdjbhmpioaaW.PrintMore
set_option linter.unusedVariables false
theorem two_pow_cast (i : Nat) : (2 : Int) ^ i = ((2 ^ i : Nat) : Int) := by rw [Int.natCast_pow]; rfl
theorem ofInt64 (a : Nat) (ha : a < 9223372036854775808) : (BitVec.ofInt 64 (a : Int)).toNat = a := by
  rw [BitVec.ofInt_natCast, BitVec.toNat_ofNat]; exact Nat.mod_eq_of_lt (by omega)
theorem and64 (a b : Nat) (ha : a < 2 ^ 62) (hb : b < 2 ^ 62) : Go.bits .and .i64 (a : Int) (b : Int) = ((a &&& b : Nat) : Int) := by
  have hx : a &&& b < 2 ^ 62 := Nat.and_lt_two_pow _ hb
  show Go.IntKind.i64.wrap ((BitVec.ofInt 64 (a : Int) &&& BitVec.ofInt 64 (b : Int)).toNat : Int) = _
  rw [BitVec.toNat_and, ofInt64 a (by omega), ofInt64 b (by omega), Go.IntKind.wrap_i64]
  omega
theorem bit64 (a i : Nat) (ha : a < 2 ^ 62) (hi : i < 60) : Go.bits .and .i64 (shr .i64 (a : Int) (i : Int)) 1 = (((a >>> i) % 2 : Nat) : Int) := by
  have e : shr .i64 (a : Int) (i : Int) = ((a >>> i : Nat) : Int) := by
    unfold shr
    rw [Int.toNat_natCast]
    show (a : Int) / 2 ^ min i 64 = _
    rw [Nat.min_eq_left (by omega), Nat.shiftRight_eq_div_pow, Int.natCast_ediv, Int.natCast_pow]
    rfl
  rw [e]
  have h1 : a >>> i < 2 ^ 62 := by rw [Nat.shiftRight_eq_div_pow]; exact Nat.lt_of_le_of_lt (Nat.div_le_self _ _) ha
  have h := and64 (a >>> i) 1 h1 (by omega)
  rw [Go.nat_mask1] at h
  exact h
theorem shl64 (i : Nat) (hi : i < 40) : shl .i64 1 (i : Int) = ((2 ^ i : Nat) : Int) := by
  unfold shl
  rw [Int.toNat_natCast]
  show Go.IntKind.i64.wrap (1 * 2 ^ min i 64) = _
  rw [Nat.min_eq_left (by omega), Go.IntKind.wrap_i64, Int.one_mul, two_pow_cast]
  have : 2 ^ i < 2 ^ 40 := Nat.pow_lt_pow_right (a := 2) (by omega) hi
  generalize 2 ^ i = x at *
  omega
theorem wrapS {x : Int} (h : -9223372036854775808 ≤ x ∧ x ≤ 9223372036854775807) : wrap64 x = x := by unfold wrap64; omega
theorem rdN (l : List Int) (i : Nat) : rd l (i : Int) = l.getD i 0 := rfl
theorem getD_mem {l : List Int} {i : Nat} (h : i < l.length) : l.getD i 0 ∈ l := by
  rw [List.getD_eq_getElem?_getD, List.getElem?_eq_getElem h]
  exact List.getElem_mem _
theorem mx_is (a b : Int) : mx a b = max a b := by unfold mx; split <;> omega
theorem foldl_min_spec : ∀ (l : List Int) (a : Int), (l.foldl min a ≤ a ∧ ∀ x ∈ l, l.foldl min a ≤ x) ∧ (l.foldl min a = a ∨ l.foldl min a ∈ l)
  | [], a => by simp
  | y :: l, a => by
    obtain ⟨⟨h1, h2⟩, h3⟩ := foldl_min_spec l (min a y)
    rw [List.foldl_cons]
    refine ⟨⟨by omega, fun x hx => ?_⟩, ?_⟩
    · rcases List.mem_cons.1 hx with rfl | hx
      · omega
      · exact h2 x hx
    · rcases h3 with h3 | h3
      · rcases Int.le_total a y with h | h
        · rw [Int.min_eq_left h] at h3 ⊢; exact .inl h3
        · rw [Int.min_eq_right h] at h3 ⊢; exact .inr (by rw [h3]; simp)
      · exact .inr (by simp [h3])
theorem foldl_max_spec : ∀ (l : List Int) (a : Int), (a ≤ l.foldl max a ∧ ∀ x ∈ l, x ≤ l.foldl max a) ∧ (l.foldl max a = a ∨ l.foldl max a ∈ l)
  | [], a => by simp
  | y :: l, a => by
    obtain ⟨⟨h1, h2⟩, h3⟩ := foldl_max_spec l (max a y)
    rw [List.foldl_cons]
    refine ⟨⟨by omega, fun x hx => ?_⟩, ?_⟩
    · rcases List.mem_cons.1 hx with rfl | hx
      · omega
      · exact h2 x hx
    · rcases h3 with h3 | h3
      · rcases Int.le_total y a with h | h
        · rw [Int.max_eq_left h] at h3 ⊢; exact .inl h3
        · rw [Int.max_eq_right h] at h3 ⊢; exact .inr (by rw [h3]; simp)
      · exact .inr (by simp [h3])
theorem minT_spec {l : List Int} (h : 0 < l.length) : (∀ x ∈ l, minT l l.length ≤ x) ∧ minT l l.length ∈ l := by
  unfold minT
  rw [List.take_length]
  obtain ⟨⟨h1, h2⟩, h3⟩ := foldl_min_spec l (l.getD 0 0)
  exact ⟨h2, h3.elim (fun e => by rw [e]; exact getD_mem h) id⟩
theorem maxT_spec {l : List Int} (h : 0 < l.length) : (∀ x ∈ l, x ≤ maxT l l.length) ∧ maxT l l.length ∈ l := by
  unfold maxT
  rw [List.take_length]
  obtain ⟨⟨h1, h2⟩, h3⟩ := foldl_max_spec l (l.getD 0 0)
  exact ⟨h2, h3.elim (fun e => by rw [e]; exact getD_mem h) id⟩
theorem check_is (m : Nat) (hm : m ≤ 1000) (l : List Int) : tug_check.f l (m : Int) = some (chk m l) := by
  unfold tug_check.f chk
  by_cases h1 : l.length > m
  · rw [if_pos (by omega), if_pos h1]
  · rw [if_neg (by omega), if_neg h1]
    by_cases h2 : l.length = 0
    · rw [if_pos (by omega), if_neg (fun h => by have := h.1; omega)]
    · rw [if_neg (by omega)]
      have h3 : 0 < l.length := by omega
      have hc : 0 < l.length ∧ l.length ≤ 100000 := ⟨h3, by omega⟩
      obtain ⟨a1, a2⟩ := minT_spec h3
      obtain ⟨b1, b2⟩ := maxT_spec h3
      simp only [slices_Min_int_int.f, slices_Max_int_int.f, if_pos hc, Option.bind_some]
      by_cases h4 : minT l l.length < 1
      · rw [if_pos h4, if_neg (fun h => by have := h.2.2 _ a2; omega)]
      · rw [if_neg h4]
        by_cases h5 : maxT l l.length > 1000000
        · rw [if_pos h5, if_neg (fun h => by have := h.2.2 _ b2; omega)]
        · rw [if_neg h5, if_pos ⟨by omega, by omega, fun x hx => ⟨by have := a1 x hx; omega, by have := b1 x hx; omega⟩⟩]
theorem set_next {α : Type} (l : List α) (z : α) (i n : Nat) (hl : l.length = n) (hi : i < n) : (l.take i ++ List.replicate (n - i) z).set i (l[i]'(by omega)) = l.take (i + 1) ++ List.replicate (n - (i + 1)) z := by
  rw [List.set_append, if_neg (by simp; omega), List.length_take, Nat.min_eq_left (by omega), Nat.sub_self, show n - i = (n - (i + 1)) + 1 by omega, List.replicate_succ, List.set_cons_zero, List.take_add_one, List.getElem?_eq_getElem (by omega), List.append_assoc]
  rfl
theorem sides_ev (n set : Nat) (hn : n ≤ 50) (hs : set < 2 ^ 62) : Ev (fun k => tug_sides.f k (set : Int) (n : Int)) (sidesS n set) := by
  unfold tug_sides.f
  have h0 : (0 : Int) ≤ (n : Int) := by omega
  have h1 : n ≤ 35184372088832 := by omega
  simp only [if_pos h0, if_pos h1, Option.bind_some, Int.toNat_natCast, List.length_replicate]
  have key : ∀ d i : Nat, i + d = n → Ev (fun k => tug_sides.l0 k (set : Int) (n : Int) ((sidesS n set).take i ++ List.replicate (n - i) 0) (n : Int) (i : Int)) (sidesS n set) := by
    intro d
    induction d with
    | zero =>
      intro i hi
      obtain rfl : i = n := by omega
      refine Ev.step (f := fun _ => some (sidesS i set)) (fun k => ?_) (Ev.now _)
      simp only [tug_sides.l0]
      rw [if_neg (by omega), Nat.sub_self, List.replicate_zero, List.append_nil, List.take_of_length_le (by rw [sidesS_length]; omega)]
    | succ d ih =>
      intro i hi
      have hin : i < n := by omega
      refine Ev.step (fun k => ?_) (ih (i + 1) (by omega))
      simp only [tug_sides.l0]
      have e1 : wrap64 (wrap64 ((n : Int) - 1) - (i : Int)) = ((n - 1 - i : Nat) : Int) := by rw [wrapS (x := (n : Int) - 1) (by omega), wrapS (by omega)]; omega
      rw [if_pos (by omega), e1, if_pos (by omega), if_pos (by omega), if_pos (by simp [sidesS_length]; omega), bit64 _ _ hs (by omega), wrapS (by omega)]
      have hg : (((set >>> (n - 1 - i)) % 2 : Nat) : Int) = (sidesS n set)[i]'(by rw [sidesS_length]; exact hin) := by
        have := sidesS_get n set i hin
        rw [List.getD_eq_getElem?_getD, List.getElem?_eq_getElem (by rw [sidesS_length]; exact hin)] at this
        exact this.symm
      rw [hg, Int.toNat_natCast, set_next _ _ _ _ (sidesS_length _ _) hin]
      rfl
  have := key n 0 (by omega)
  simpa using this
theorem sgn_snoc : ∀ (p s : List Int) (i : Nat), i < p.length → i < s.length → sgn (p.take (i + 1)) (s.take (i + 1)) = sgn (p.take i) (s.take i) + p.getD i 0 * (1 - 2 * s.getD i 0)
  | [], _, _, h, _ => by simp at h
  | _ :: _, [], _, _, h => by simp at h
  | x :: p, b :: s, 0, _, _ => by simp [sgn]
  | x :: p, b :: s, i + 1, h1, h2 => by
    have ih := sgn_snoc p s i (by simpa using h1) (by simpa using h2)
    simp only [List.take_succ_cons, sgn] at ih ⊢
    rw [ih, List.getD_cons_succ, List.getD_cons_succ]
    omega
theorem sgn_bound {p s : List Int} (hp : ∀ x ∈ p, 1 ≤ x ∧ x ≤ 1000000) (hs : Bits s) : ∀ i, i ≤ p.length → i ≤ s.length → -(1000000 * (i : Int)) ≤ sgn (p.take i) (s.take i) ∧ sgn (p.take i) (s.take i) ≤ 1000000 * (i : Int)
  | 0, _, _ => by simp [sgn]
  | i + 1, h1, h2 => by
    have ih := sgn_bound hp hs i (by omega) (by omega)
    rw [sgn_snoc p s i (by omega) (by omega)]
    have a := hp _ (getD_mem (l := p) (i := i) (by omega))
    have b := hs _ (getD_mem (l := s) (i := i) (by omega))
    rcases b with b | b <;> rw [b] <;> omega
theorem diff_ev (p s : List Int) (hp : OkL 50 p) (hs : Bits s) (hl : s.length = p.length) : Ev (fun k => tug_difference.f k p s) (diffS p s) := by
  obtain ⟨hp1, hp2, hp3⟩ := hp
  unfold tug_difference.f
  have key : ∀ d i : Nat, i + d = p.length → Ev (fun k => tug_difference.l0 k s (sgn (p.take i) (s.take i)) p (p.length : Int) (i : Int)) (diffS p s) := by
    intro d
    induction d with
    | zero =>
      intro i hi
      obtain rfl : i = p.length := by omega
      have hb := sgn_bound hp3 hs p.length (Nat.le_refl _) (by omega)
      refine Ev.step (f := fun _ => some (diffS p s)) (fun k => ?_) (Ev.now _)
      simp only [tug_difference.l0]
      rw [if_neg (by omega), mx_is, wrapS (by omega), List.take_length, List.take_of_length_le (by omega)]
      rfl
    | succ d ih =>
      intro i hi
      have hb := sgn_bound hp3 hs i (by omega) (by omega)
      have hb' := sgn_bound hp3 hs (i + 1) (by omega) (by omega)
      have a := hp3 _ (getD_mem (l := p) (i := i) (by omega))
      have b := hs _ (getD_mem (l := s) (i := i) (by omega))
      refine Ev.step (fun k => ?_) (ih (i + 1) (by omega))
      simp only [tug_difference.l0, rdN]
      have e2 : wrap64 (2 * s.getD i 0) = 2 * s.getD i 0 := wrapS (by rcases b with b | b <;> rw [b] <;> omega)
      have e3 : wrap64 (1 - 2 * s.getD i 0) = 1 - 2 * s.getD i 0 := wrapS (by rcases b with b | b <;> rw [b] <;> omega)
      have e4 : wrap64 (p.getD i 0 * (1 - 2 * s.getD i 0)) = p.getD i 0 * (1 - 2 * s.getD i 0) := wrapS (by rcases b with b | b <;> rw [b] <;> omega)
      rw [sgn_snoc p s i (by omega) (by omega)] at hb'
      rw [if_pos (by omega), if_pos (by omega), if_pos (by omega), if_pos (by omega), e2, e3, e4, wrapS (by omega), wrapS (by omega), sgn_snoc p s i (by omega) (by omega)]
      rfl
  have := key p.length 0 (by omega)
  simpa [sgn] using this
end Go.Proofs.Ytepgcdjbhmpioaa.Fi
