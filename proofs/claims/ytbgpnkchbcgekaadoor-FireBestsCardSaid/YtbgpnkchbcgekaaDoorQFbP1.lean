/- What the printed functions of package fire come to, in plain words: lists of sets, neighbours, the comparison of plans. -/
import Derived.Test.YtbgpnkchbcgekaaDoorQFbFi1
import Derived.Test.YtbgpnkchbcgekaaDoorQFbFi8
import Derived.Test.YtbgpnkchbcgekaaDoorQFbS2
namespace Go.Proofs.YtbgpnkchbcgekaaDoor.Fi
open Go.RowKit Go.Proofs.YtbgpnkchbcgekaaDoorW.PrintWords Go.Proofs.YtbgpnkchbcgekaaDoorW.PrintLast Go.Proofs.YtbgpnkchbcgekaaDoorW.PrintMore Wog
set_option linter.unusedVariables false
set_option linter.unusedSimpArgs false
theorem wrapS {i : Nat} (h : i < 2 ^ 40) : wrap64 ((i : Int) + 1) = ((i + 1 : Nat) : Int) := by unfold wrap64; omega
theorem has_is (s i : Nat) (hs : s < 65536) : fire_set_has.f (s : Int) (i : Int) = some (s.testBit i) := by
  unfold fire_set_has.f
  rw [if_pos (by omega), has16 s i hs, toNat_beq]
/-- The members of a set below 10. -/
def mem10 (s : Nat) : List Int := ((List.range 10).filter (fun i => s.testBit i)).map fun (i : Nat) => (i : Int)
theorem list_ev (s : Nat) (hs : s < 65536) : Ev (fun k => fire_set_list.f k (s : Int)) (mem10 s) := by
  have key : ∀ d i : Nat, i + d = 10 → Ev (fun k => fire_set_list.l0 k (s : Int) (((List.range i).filter (fun j => s.testBit j)).map fun (j : Nat) => (j : Int)) (i : Int)) (mem10 s) := by
    intro d
    induction d with
    | zero =>
      intro i hi
      obtain rfl : i = 10 := by omega
      refine Ev.step (f := fun _ => some (mem10 s)) (fun k => ?_) (Ev.now _)
      simp only [fire_set_list.l0]
      rw [if_neg (by omega)]
      rfl
    | succ d ih =>
      intro i hi
      refine Ev.step (fun k => ?_) (ih (i + 1) (by omega))
      simp only [fire_set_list.l0]
      rw [if_pos (by omega), has_is s i hs, Option.bind_some, wrapS (by omega), List.range_succ, List.filter_append, List.map_append]
      by_cases h : s.testBit i = true
      · rw [if_pos h, if_pos]
        · simp [h]
        · have := List.length_filter_le (fun j => s.testBit j) (List.range i)
          rw [List.length_map]
          rw [List.length_range] at this
          omega
      · rw [if_neg h]
        simp [h]
  exact key 10 0 rfl
theorem rd_nat (xs : List Nat) (i : Nat) : rd (xs.map fun (x : Nat) => (x : Int)) (i : Int) = ((xs.getD i 0 : Nat) : Int) := by
  unfold rd
  rw [Int.toNat_natCast, List.getD_eq_getElem?_getD, List.getD_eq_getElem?_getD, List.getElem?_map]
  cases xs[i]? <;> rfl
theorem around_ev (nx : List Nat) (n : Int) (s : Nat) (hn : nx.length ≤ 10) (hx : ∀ x ∈ nx, x < 2 ^ nx.length) (hs : s < 2 ^ nx.length) :
    Ev (fun k => fire_graph_around.f k n (nx.map fun (x : Nat) => (x : Int)) (s : Int)) (((arnd nx s : Nat) : Int), n) := by
  have hp : 2 ^ nx.length ≤ 2 ^ 10 := Nat.pow_le_pow_right (by omega) hn
  have hs' : s < 65536 := by omega
  have hb : ∀ i, nx.getD i 0 < 65536 := fun i => by
    rw [List.getD_eq_getElem?_getD]
    rcases Nat.lt_or_ge i nx.length with hv | hv
    · rw [List.getElem?_eq_getElem hv]; have := hx _ (List.getElem_mem hv); simp only [Option.getD_some]; omega
    · rw [List.getElem?_eq_none hv]; simp
  -- the loop, over a list of vertices
  have key : ∀ (m : List Nat) (pre : List Nat) (acc : Nat), acc < 65536 → (∀ v ∈ m, v < nx.length) → pre.length + m.length ≤ 10 →
      Ev (fun k => fire_graph_around.l0 k (acc : Int) ((pre ++ m).map fun (x : Nat) => (x : Int)) (((pre ++ m).map fun (x : Nat) => (x : Int)).length : Int) (pre.length : Int) n (nx.map fun (x : Nat) => (x : Int))) (((m.foldl (fun acc v => acc ||| nx.getD v 0) acc : Nat) : Int), n) := by
    intro m
    induction m with
    | nil =>
      intro pre acc ha _ hl
      refine Ev.step (f := fun _ => some ((acc : Int), n)) (fun k => ?_) (Ev.now _)
      simp only [fire_graph_around.l0]
      rw [if_neg (by simp)]
    | cons v m ih =>
      intro pre acc ha hm hl
      have hv := hm v (by simp)
      have ih' := ih (pre ++ [v]) (acc ||| nx.getD v 0) (Nat.or_lt_two_pow (n := 16) ha (hb v)) (fun u hu => hm u (by simp [hu])) (by simp at hl ⊢; omega)
      refine Ev.step (fun k => ?_) ih'
      have e0 : rd ((pre ++ v :: m).map fun (x : Nat) => (x : Int)) (pre.length : Int) = (v : Int) := by
        rw [rd_nat]
        simp [List.getD_eq_getElem?_getD]
      simp only [fire_graph_around.l0, e0]
      rw [if_pos (by simp; omega), if_pos (by omega), if_pos (by simp; omega), if_pos (by omega), if_pos (by rw [List.length_map]; omega), rd_nat, or16 _ _ ha (hb v), wrapS (by simp at hl; omega)]
      simp
  have h0 : ∀ (l : List Nat) (acc : Nat), (l.filter (fun i => s.testBit i)).foldl (fun acc v => acc ||| nx.getD v 0) acc = l.foldl (fun acc v => if s.testBit v then acc ||| nx.getD v 0 else acc) acc := by
    intro l
    induction l with
    | nil => intro acc; rfl
    | cons v l ih =>
      intro acc
      rw [List.filter_cons, List.foldl_cons]
      by_cases h : s.testBit v = true
      · rw [if_pos h, if_pos h, List.foldl_cons, ih]
      · rw [if_neg h, if_neg h, ih]
  unfold fire_graph_around.f
  refine Ev.bind (list_ev s hs') ?_
  have k := key ((List.range 10).filter (fun i => s.testBit i)) [] s hs' (fun v hv => lt_of_bit hs (by simpa using (List.mem_filter.1 hv).2)) (by have := List.length_filter_le (fun i => s.testBit i) (List.range 10); simpa using this)
  have e : (((List.range 10).filter (fun i => s.testBit i)).foldl (fun acc v => acc ||| nx.getD v 0) s) = arnd nx s := by
    rw [h0]
    apply Nat.eq_of_testBit_eq
    intro j
    unfold arnd
    rw [foldl_or_bit, Nat.testBit_or, nb_bit]
    congr 1
    rw [Bool.eq_iff_iff, List.any_eq_true, List.any_eq_true]
    constructor
    · rintro ⟨v, hv, h⟩
      have h' := h
      rw [Bool.and_eq_true] at h'
      exact ⟨v, List.mem_range.2 (lt_of_bit hs h'.1), h⟩
    · rintro ⟨v, hv, h⟩
      exact ⟨v, List.mem_range.2 (Nat.lt_of_lt_of_le (List.mem_range.1 hv) hn), h⟩
  rw [e] at k
  exact k
theorem size_is (s : Nat) (hs : s < 65536) : fire_set_size.f (s : Int) = some ((popc 16 s : Nat) : Int) := by
  unfold fire_set_size.f bits_OnesCount16.f
  rw [if_pos (by omega), if_pos (by omega), Int.toNat_natCast]
  rfl
theorem compare_is (a b : Int) : cmp_Compare_int.f a b = some (if a < b then -1 else if b < a then 1 else 0) := by
  unfold cmp_Compare_int.f cmp_isNaN_int.f
  simp only [bne_self_eq_false, Option.bind_some, Bool.false_eq_true, if_false]
  split <;> (try split) <;> first | rfl | (split <;> first | rfl | omega) | omega
theorem slices_compare_ev (l m : List Int) (hl : l.length < 2 ^ 30) : Ev (fun k => (slices_Compare_int_int.f k l m).bind fun t => some (decide (t < 0))) (lexLt l m) := by
  have key : ∀ (a b p q : List Int), p.length = q.length → p.length + a.length < 2 ^ 30 → 
      Ev (fun k => (slices_Compare_int_int.l0 k (p ++ a) (q ++ b) (p ++ a) ((p ++ a).length : Int) (p.length : Int)).bind fun t => some (decide (t < 0))) (lexLt a b) := by
    intro a
    induction a with
    | nil =>
      intro b p q hpq hb
      refine Ev.step (f := fun _ => some (lexLt [] b)) (fun k => ?_) (Ev.now _)
      simp only [slices_Compare_int_int.l0]
      rw [if_neg (by simp)]
      cases b with
      | nil => simp [hpq, lexLt]
      | cons y b => rw [if_pos (by simp; omega)]; rfl
    | cons x a ih =>
      intro b p q hpq hb
      cases b with
      | nil =>
        refine Ev.step (f := fun _ => some (lexLt (x :: a) [])) (fun k => ?_) (Ev.now _)
        simp only [slices_Compare_int_int.l0]
        rw [if_pos (by simp; omega), if_pos (by omega), if_pos (by simp; omega), if_pos (by simp; omega)]
        rfl
      | cons y b =>
        have e0 : rd (p ++ x :: a) (p.length : Int) = x := by unfold rd; simp [List.getD_eq_getElem?_getD]
        have e1 : rd (q ++ y :: b) (p.length : Int) = y := by unfold rd; rw [hpq]; simp [List.getD_eq_getElem?_getD]
        by_cases hxy : x = y
        · subst hxy
          have ih' := ih b (p ++ [x]) (q ++ [x]) (by simp [hpq]) (by simp at hb ⊢; omega)
          have e2 : lexLt (x :: a) (x :: b) = lexLt a b := by simp [lexLt]
          rw [e2]
          refine Ev.step (fun k => ?_) ih'
          simp only [slices_Compare_int_int.l0, e0, e1]
          rw [if_pos (by simp; omega), if_pos (by omega), if_pos (by simp; omega), if_neg (by simp; omega), if_pos (by simp; omega), compare_is, Option.bind_some, if_neg (Int.lt_irrefl x), if_neg (Int.lt_irrefl x), if_pos rfl, wrapS (by simp at hb; omega)]
          simp
        · refine Ev.step (f := fun _ => some (lexLt (x :: a) (y :: b))) (fun k => ?_) (Ev.now _)
          simp only [slices_Compare_int_int.l0, e0, e1]
          rw [if_pos (by simp; omega), if_pos (by omega), if_pos (by simp; omega), if_neg (by simp; omega), if_pos (by simp; omega), compare_is, Option.bind_some]
          simp only [lexLt, if_neg hxy]
          by_cases h : x < y
          · simp [h]
          · have : y < x := by omega
            simp [h, this]
  exact key l m [] [] rfl (by simpa using hl)
theorem better_ev (p q : Int × List Int) (h : p.2.length < 2 ^ 30) : Ev (fun k => fire_plan_better.f k p.1 p.2 q.1 q.2) (betterP p q) := by
  unfold fire_plan_better.f betterP
  by_cases e : p.1 = q.1
  · simp only [if_pos e]
    by_cases e2 : p.2.length = q.2.length
    · have e3 : (p.2.length : Int) = (q.2.length : Int) := by omega
      simp only [if_pos e2, if_pos e3]
      exact slices_compare_ev _ _ h
    · have e3 : ¬ (p.2.length : Int) = (q.2.length : Int) := by omega
      simp only [if_neg e2, if_neg e3]
      refine Ev.congr (fun k => ?_) (Ev.now _)
      congr 1
      simp
  · simp only [if_neg e]
    exact Ev.congr (fun k => rfl) (Ev.now _)
end Go.Proofs.YtbgpnkchbcgekaaDoor.Fi
