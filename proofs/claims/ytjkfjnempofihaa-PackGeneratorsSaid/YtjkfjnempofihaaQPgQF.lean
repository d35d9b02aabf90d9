/- Plain: the laws' cutting of what came in, and the errors. -/
import Derived.Test.YtjkfjnempofihaaQPgQE
import Derived.Test.YtjkfjnempofihaaQPgFi1
import Derived.Test.YtjkfjnempofihaaQPgRM
namespace Go.Proofs.Ytjkfjnempofihaa.Fi
open Go.RowKit Go.Shelf Go.Lib Go.Proofs.YtjkfjnempofihaaW.PrintWords Go.Proofs.YtjkfjnempofihaaW.PrintLast Go.Proofs.YtjkfjnempofihaaW.PrintMore
set_option linter.unusedVariables false
set_option linter.unusedSimpArgs false
theorem in_f (a b c : Int) : woggleref04_in.f a b c = some (decide (b ≤ a ∧ a ≤ c)) := by
  unfold woggleref04_in.f
  by_cases h : a ≥ b
  · rw [if_pos h]
    congr 1
    by_cases h2 : a ≤ c
    · rw [decide_eq_true h2, decide_eq_true ⟨h, h2⟩]
    · rw [decide_eq_false h2, decide_eq_false (fun h => h2 h.2)]
  · rw [if_neg h, decide_eq_false (fun h2 => h h2.1)]
def monoB (n : Int) (l : List Int) : Bool := l.all (fun a => decide (0 ≤ a ∧ a ≤ 6)) && ((l.length : Int) == n)
theorem mono_ev (n : Int) (l : List Int) (hl : l.length < 2 ^ 30) : Ev (fun k => woggleref04_Monomial.f k n l) (monoB n l) := by
  have key : ∀ (d j : Nat), j + d = l.length → Ev (fun k => woggleref04_Monomial.l0 k n l (j : Int)) ((l.drop j).all (fun a => decide (0 ≤ a ∧ a ≤ 6)) && ((l.length : Int) == n)) := by
    intro d
    induction d with
    | zero =>
      intro j hj
      rw [List.drop_eq_nil_of_le (by omega)]
      refine Ev.step (f := fun _ => some ((l.length : Int) == n)) (fun k => ?_) (by rw [List.all_nil, Bool.true_and]; exact Ev.now _)
      simp only [woggleref04_Monomial.l0]
      rw [if_neg (by omega)]
    | succ d ih =>
      intro j hj
      have hjl : j < l.length := by omega
      have e : rd l (j : Int) = l[j] := by unfold rd; rw [Int.toNat_natCast, List.getD_eq_getElem?_getD, List.getElem?_eq_getElem hjl]; rfl
      rw [List.drop_eq_getElem_cons hjl, List.all_cons]
      cases hb : decide (0 ≤ l[j] ∧ l[j] ≤ 6) with
      | true =>
        refine Ev.step (f := fun k => woggleref04_Monomial.l0 k n l ((j + 1 : Nat) : Int)) (fun k => ?_) (by rw [Bool.true_and]; exact ih (j + 1) (by omega))
        simp only [woggleref04_Monomial.l0]
        rw [if_pos (by omega), if_pos (by omega), e, in_f, hb, Option.bind_some, if_pos rfl, wrapS (by omega)]
        rfl
      | false =>
        refine Ev.step (f := fun _ => some false) (fun k => ?_) (by rw [Bool.false_and, Bool.false_and]; exact Ev.now _)
        simp only [woggleref04_Monomial.l0]
        rw [if_pos (by omega), if_pos (by omega), e, in_f, hb, Option.bind_some, if_neg (by decide)]
  exact key l.length 0 (by omega)
theorem monoB_valid {n : Nat} (hn : 1 ≤ n) (l : List Int) : monoB (n : Int) l = validB n l := by
  rw [Bool.eq_iff_iff, valid_iff hn]
  unfold monoB
  rw [Bool.and_eq_true, List.all_eq_true, beq_iff_eq]
  constructor
  · rintro ⟨h1, h2⟩
    exact ⟨by omega, fun a ha => of_decide_eq_true (h1 a ha)⟩
  · rintro ⟨h1, h2⟩
    exact ⟨fun a ha => decide_eq_true (h2 a ha), by omega⟩
/-- The reference's error of lists of generators. -/
def errI (n : Int) (ls : List (List (List Int))) : Int := if ls.any (fun l => decide (12 < l.length)) = true then 3 else if n < 1 ∨ 4 < n then 1 else if ls.all (fun l => l.all (monoB n)) = true then 0 else 1
theorem rd_L2_get (l : List (List (List Int))) (j : Nat) (h : j < l.length) : rd_L2 l (j : Int) = l[j] := by
  unfold rd_L2
  rw [Int.toNat_natCast, List.getD_eq_getElem?_getD, List.getElem?_eq_getElem h]
  rfl
theorem ideal_ev (n : Int) (ls : List (List (List Int))) (h1 : ls.length < 2 ^ 30) (h2 : ∀ l ∈ ls, l.length < 2 ^ 30 ∧ ∀ x ∈ l, x.length < 2 ^ 30) : Ev (fun k => woggleref04_Ideal.f k n ls) (errI n ls) := by
  have k2 : ∀ (L : List (List Int)) (i : Nat) (hi : i < ls.length), ls[i] = L → ∀ (r : Int), (L.all (monoB n) = true → Ev (fun k => woggleref04_Ideal.l1 k n ls ((i + 1 : Nat) : Int)) r) → (L.all (monoB n) = false → r = 1) → ∀ (d j : Nat), j + d = L.length → (L.take j).all (monoB n) = true → Ev (fun k => woggleref04_Ideal.l2 k n ls (i : Int) (j : Int)) r := by
    intro L i hi hL r ht hf d
    have hb := h2 L (by rw [← hL]; exact List.getElem_mem _)
    induction d with
    | zero =>
      intro j hj ha
      rw [show j = L.length by omega, List.take_length] at ha
      refine Ev.step (fun k => ?_) (ht ha)
      simp only [woggleref04_Ideal.l2]
      rw [if_pos (by omega), if_pos (by omega), rd_L2_get _ _ hi, hL, if_neg (by omega), wrapS (by omega)]
      rfl
    | succ d ih =>
      intro j hj ha
      have hjl : j < L.length := by omega
      refine Ev.step (f := fun k => (woggleref04_Monomial.f k n L[j]).bind fun t => if t = true then woggleref04_Ideal.l2 k n ls (i : Int) ((j + 1 : Nat) : Int) else some 1) (fun k => ?_) ?_
      · simp only [woggleref04_Ideal.l2]
        rw [if_pos (by omega), if_pos (by omega), rd_L2_get _ _ hi, hL, if_pos (by omega), if_pos (by omega), rd_L1_get _ _ hjl, wrapS (by omega)]
        rfl
      · refine Ev.bind (mono_ev n L[j] (hb.2 _ (List.getElem_mem _))) ?_
        cases hm : monoB n L[j] with
        | true =>
          simp only [if_true]
          exact ih (j + 1) (by omega) (by rw [List.take_add_one, List.all_append, ha, List.getElem?_eq_getElem hjl]; simp [hm])
        | false =>
          simp only [Bool.false_eq_true, if_false]
          rw [hf (by rw [← Bool.not_eq_true, List.all_eq_true]; intro h; have := h _ (List.getElem_mem hjl); rw [hm] at this; cases this)]
          exact Ev.now _
  have k1 : ∀ (d i : Nat), i + d = ls.length → Ev (fun k => woggleref04_Ideal.l1 k n ls (i : Int)) (if (ls.drop i).all (fun l => l.all (monoB n)) = true then 0 else 1) := by
    intro d
    induction d with
    | zero =>
      intro i hi
      rw [List.drop_eq_nil_of_le (by omega)]
      refine Ev.step (f := fun _ => some 0) (fun k => ?_) (Ev.now _)
      simp only [woggleref04_Ideal.l1]
      rw [if_neg (by omega)]
    | succ d ih =>
      intro i hi
      have hil : i < ls.length := by omega
      rw [List.drop_eq_getElem_cons hil, List.all_cons]
      refine Ev.step (f := fun k => woggleref04_Ideal.l2 k n ls (i : Int) ((0 : Nat) : Int)) (fun k => ?_) ?_
      · simp only [woggleref04_Ideal.l1]
        rw [if_pos (by omega)]
        rfl
      · refine k2 ls[i] i hil rfl _ (fun h => ?_) (fun h => ?_) ls[i].length 0 (by omega) (by simp)
        · rw [h, Bool.true_and]
          exact ih (i + 1) (by omega)
        · rw [h, Bool.false_and]
          rfl
  have k0 : ∀ (d i : Nat), i + d = ls.length → (ls.take i).any (fun l => decide (12 < l.length)) = false → Ev (fun k => woggleref04_Ideal.l0 k n ls (i : Int)) (errI n ls) := by
    intro d
    induction d with
    | zero =>
      intro i hi ha
      rw [show i = ls.length by omega, List.take_length] at ha
      unfold errI
      rw [ha, if_neg (by decide)]
      by_cases hn : n < 1 ∨ 4 < n
      · rw [if_pos hn]
        refine Ev.step (f := fun _ => some 1) (fun k => ?_) (Ev.now _)
        simp only [woggleref04_Ideal.l0]
        rw [if_neg (by omega), in_f, Option.bind_some, decide_eq_false (by omega), if_neg (by decide)]
      · rw [if_neg hn]
        refine Ev.step (f := fun k => woggleref04_Ideal.l1 k n ls ((0 : Nat) : Int)) (fun k => ?_) ?_
        · simp only [woggleref04_Ideal.l0]
          rw [if_neg (by omega), in_f, Option.bind_some, decide_eq_true (by omega), if_pos rfl]
          rfl
        · have := k1 ls.length 0 (by omega)
          rwa [List.drop_zero] at this
    | succ d ih =>
      intro i hi ha
      have hil : i < ls.length := by omega
      by_cases hc : 12 < ls[i].length
      · refine Ev.step (f := fun _ => some (errI n ls)) (fun k => ?_) (Ev.now _)
        simp only [woggleref04_Ideal.l0]
        rw [if_pos (by omega), if_pos (by omega), rd_L2_get _ _ hil, if_pos (by omega)]
        unfold errI
        rw [if_pos (List.any_eq_true.2 ⟨ls[i], List.getElem_mem _, decide_eq_true hc⟩)]
      · refine Ev.step (fun k => ?_) (ih (i + 1) (by omega) (by rw [List.take_add_one, List.any_append, ha, List.getElem?_eq_getElem hil]; simp; omega))
        simp only [woggleref04_Ideal.l0]
        rw [if_pos (by omega), if_pos (by omega), rd_L2_get _ _ hil, if_neg (by omega), wrapS (by omega)]
        rfl
  exact k0 ls.length 0 (by omega) (by simp)
theorem errI_one (n : Int) (L : List (List Int)) : errI n [L] = readErr n L := by
  unfold errI readErr
  simp only [List.any_cons, List.any_nil, Bool.or_false, List.all_cons, List.all_nil, Bool.and_true, decide_eq_true_eq]
  by_cases h1 : 12 < L.length
  · rw [if_pos h1, if_pos h1]
  · rw [if_neg h1, if_neg h1]
    by_cases h2 : n < 1 ∨ 4 < n
    · rw [if_pos h2, if_pos h2]
    · rw [if_neg h2, if_neg h2]
      obtain ⟨k, rfl⟩ : ∃ k : Nat, n = (k : Int) := ⟨n.toNat, by omega⟩
      rw [Int.toNat_natCast]
      have e : monoB (k : Int) = validB k := by funext l; exact monoB_valid (by omega) l
      rw [e]
end Go.Proofs.Ytjkfjnempofihaa.Fi
