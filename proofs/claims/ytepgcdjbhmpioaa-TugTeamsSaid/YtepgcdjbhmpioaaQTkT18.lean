/- The loads of the reference in plain words; the greedy teams. -/
import Derived.Test.YtepgcdjbhmpioaaQTkT16
import Derived.Test.YtepgcdjbhmpioaaQTkT13
import Derived.Test.YtepgcdjbhmpioaaQTkFi2
import Derived.Test.YtepgcdjbhmpioaaQTkFi0
import Derived.Test.YtepgcdjbhmpioaaQTkFi1
namespace Go.Proofs.Ytepgcdjbhmpioaa.Fi
open Go.RowKit Go.Proofs.YtepgcdjbhmpioaaW.PrintWords Go.Proofs.YtepgcdjbhmpioaaW.PrintLast Go.Proofs.YtepgcdjbhmpioaaW.PrintMore
set_option linter.unusedVariables false
theorem toZ_getD {ts : List Nat} {i : Nat} (h : i < ts.length) : (toZ ts).getD i 0 = ((ts.getD i 0 : Nat) : Int) := by
  unfold toZ
  rw [List.getD_eq_getElem?_getD, List.getElem?_map, List.getElem?_eq_getElem h, List.getD_eq_getElem?_getD, List.getElem?_eq_getElem h]
  rfl
theorem getD_mem_nat {l : List Nat} {i : Nat} (h : i < l.length) : l.getD i 0 ∈ l := by
  rw [List.getD_eq_getElem?_getD, List.getElem?_eq_getElem h]
  exact List.getElem_mem _
/-- The sums of the teams after some pulls. -/
def sumsT (k : Nat) (l : List Int) (ts : List Nat) (i : Nat) : List Int := (List.range k).map (tot (l.take i) (ts.take i))
theorem sumsT_len (k : Nat) (l : List Int) (ts : List Nat) (i : Nat) : (sumsT k l ts i).length = k := by simp [sumsT]
theorem sumsT_get {k : Nat} {l : List Int} {ts : List Nat} {i j : Nat} (h : j < k) : (sumsT k l ts i).getD j 0 = tot (l.take i) (ts.take i) j := by
  unfold sumsT
  rw [List.getD_eq_getElem?_getD, List.getElem?_map, List.getElem?_range h]
  rfl
theorem sumsT_next {k : Nat} {l : List Int} {ts : List Nat} {i : Nat} (hl : ts.length = l.length) (hi : i < l.length) (ht : ts.getD i 0 < k) :
    (sumsT k l ts i).set (ts.getD i 0) (tot (l.take i) (ts.take i) (ts.getD i 0) + l.getD i 0) = sumsT k l ts (i + 1) := by
  have e2 : ts.take (i + 1) = ts.take i ++ [ts.getD i 0] := by
    rw [List.take_add_one, List.getElem?_eq_getElem (by omega), List.getD_eq_getElem?_getD, List.getElem?_eq_getElem (by omega)]
    rfl
  apply List.ext_getElem
  · simp [sumsT]
  · intro j h1 h2
    rw [sumsT_len] at h2
    have e3 : (sumsT k l ts (i + 1))[j]'(by rw [sumsT_len]; exact h2) = tot (l.take i) (ts.take i) j + if ts.getD i 0 = j then l.getD i 0 else 0 := by
      have := sumsT_get (k := k) (l := l) (ts := ts) (i := i + 1) h2
      rw [List.getD_eq_getElem?_getD, List.getElem?_eq_getElem (by rw [sumsT_len]; exact h2)] at this
      rw [take_succ_getD l i hi, e2, tot_snoc _ _ _ _ _ (by rw [List.length_take, List.length_take]; omega)] at this
      exact this
    rw [e3, List.getElem_set]
    by_cases e : ts.getD i 0 = j
    · rw [if_pos e, if_pos e, e]
    · rw [if_neg e, if_neg e, Int.add_zero]
      have := sumsT_get (k := k) (l := l) (ts := ts) (i := i) h2
      rw [List.getD_eq_getElem?_getD, List.getElem?_eq_getElem (by rw [sumsT_len]; exact h2)] at this
      exact this
theorem tot_bound {l : List Int} (h : OkL 50 l) (ts : List Nat) (i j : Nat) : 0 ≤ tot (l.take i) (ts.take i) j ∧ tot (l.take i) (ts.take i) j ≤ 50000000 := by
  have hn : ∀ x ∈ l, 0 ≤ x := h.nonneg
  refine ⟨tot_nonneg _ _ (fun x hx => hn x (List.mem_of_mem_take hx)), Int.le_trans (tot_take i l ts j hn) ?_⟩
  have key : ∀ (p : List Int) (ts : List Nat), (∀ x ∈ p, 1 ≤ x ∧ x ≤ 1000000) → tot p ts j ≤ 1000000 * (p.length : Int) := by
    intro p
    induction p with
    | nil => intro ts _; cases ts <;> simp [tot]
    | cons a p ih =>
      intro ts hp
      cases ts with
      | nil => simp only [tot]; omega
      | cons t ts =>
        have h1 := ih ts (fun x hx => hp x (by simp [hx]))
        have h2 := hp a (by simp)
        rw [tot, List.length_cons]
        split <;> omega
  have := key l ts h.2.2
  have := h.2.1
  omega
theorem maxF_succ (k : Nat) (S : Nat → Int) : maxF (k + 1) S = max (maxF k S) (S k) := by
  unfold maxF
  rw [List.range_succ, List.foldl_append]
  rfl
theorem rLoad_ev (k : Nat) (l : List Int) (ts : List Nat) (hk : 1 ≤ k ∧ k ≤ 4) (h : OkL 50 l) (hl : ts.length = l.length) (ht : ∀ t ∈ ts, t < k) : Ev (fun f => woggleref05_Load.f f l (toZ ts) (k : Int)) (loadT k l ts) := by
  unfold woggleref05_Load.f
  simp only [if_pos (show (0 : Int) ≤ (k : Int) by omega), Int.toNat_natCast, if_pos (show k ≤ 35184372088832 by omega)]
  have hl2 := h.2.1
  have key1 : ∀ d i : Nat, i + d = k → Ev (fun f => woggleref05_Load.l1 f (k : Int) (sumsT k l ts l.length) (maxF i (tot l ts)) (i : Int)) (loadT k l ts) := by
    intro d
    induction d with
    | zero =>
      intro i hi
      obtain rfl : i = k := by omega
      refine Ev.step (f := fun _ => some (loadT i l ts)) (fun f => ?_) (Ev.now _)
      simp only [woggleref05_Load.l1]
      rw [if_neg (by omega)]
      rfl
    | succ d ih =>
      intro i hi
      have e1 : rd (sumsT k l ts l.length) (i : Int) = tot l ts i := by
        show (sumsT k l ts l.length).getD i 0 = _
        rw [sumsT_get (by omega), List.take_length, List.take_of_length_le (by omega)]
      have := ih (i + 1) (by omega)
      rw [maxF_succ] at this
      refine Ev.step (fun f => ?_) this
      simp only [woggleref05_Load.l1]
      rw [if_pos (by omega), if_pos (by omega), if_pos (by rw [sumsT_len]; omega), e1, mx_is, wrapS (by omega)]
      rfl
  have key0 : ∀ d i : Nat, i + d = l.length → Ev (fun f => woggleref05_Load.l0 f l (toZ ts) (k : Int) (sumsT k l ts i) (i : Int)) (loadT k l ts) := by
    intro d
    induction d with
    | zero =>
      intro i hi
      obtain rfl : i = l.length := by omega
      refine Ev.step (fun f => ?_) (key1 k 0 (by omega))
      simp only [woggleref05_Load.l0]
      rw [if_neg (by omega)]
      rfl
    | succ d ih =>
      intro i hi
      have h1 : ts.getD i 0 < k := ht _ (getD_mem_nat (by omega))
      have e1 : rd (toZ ts) (i : Int) = ((ts.getD i 0 : Nat) : Int) := toZ_getD (by omega)
      have e2 : rd (sumsT k l ts i) ((ts.getD i 0 : Nat) : Int) = tot (l.take i) (ts.take i) (ts.getD i 0) := sumsT_get h1
      have e3 : rd l (i : Int) = l.getD i 0 := rfl
      have b1 := tot_bound h ts i (ts.getD i 0)
      have b2 := h.2.2 _ (getD_mem (l := l) (i := i) (by omega))
      have := ih (i + 1) (by omega)
      rw [← sumsT_next hl (by omega) h1] at this
      refine Ev.step (fun f => ?_) this
      simp only [woggleref05_Load.l0]
      rw [if_pos (by omega), if_pos (by omega), if_pos (by rw [toZ_length]; omega), e1, if_pos (by omega), if_pos (by rw [sumsT_len]; omega), e2, e3, Int.toNat_natCast, wrapS (by omega), wrapS (by omega)]
      rfl
  have e0 : List.replicate k (0 : Int) = sumsT k l ts 0 := by
    unfold sumsT
    simp only [List.take_zero]
    symm
    rw [List.eq_replicate_iff]
    refine ⟨by simp, fun x hx => ?_⟩
    obtain ⟨j, _, rfl⟩ := List.mem_map.1 hx
    rfl
  rw [e0]
  exact key0 l.length 0 (by omega)
theorem toZ_set (ts : List Nat) (i t : Nat) : (toZ ts).set i (t : Int) = toZ (ts.set i t) := by
  unfold toZ
  rw [List.map_set]
end Go.Proofs.Ytepgcdjbhmpioaa.Fi
