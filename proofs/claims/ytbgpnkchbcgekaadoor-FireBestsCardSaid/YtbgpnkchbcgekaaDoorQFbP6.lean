/- The reference's neighbours, members and sizes in plain words. -/
import Derived.Test.YtbgpnkchbcgekaaDoorQFbP5
namespace Go.Proofs.YtbgpnkchbcgekaaDoor.Fi
open Go.RowKit Go.Proofs.YtbgpnkchbcgekaaDoorW.PrintWords Go.Proofs.YtbgpnkchbcgekaaDoorW.PrintLast Go.Proofs.YtbgpnkchbcgekaaDoorW.PrintMore Wog
set_option linter.unusedVariables false
theorem raround_ev (nx : List Nat) (s : Nat) (hn : nx.length ≤ 10) (hx : ∀ x ∈ nx, x < 2 ^ nx.length) (hs : s < 2 ^ nx.length) : Ev (fun k => woggleref06_around.f k (toI nx) (s : Int)) ((nb nx s : Nat) : Int) := by
  have hpow : (2 : Nat) ^ nx.length ≤ 2 ^ 10 := Nat.pow_le_pow_right (by omega) hn
  have key : ∀ (d j acc : Nat), j + d = nx.length → acc < 2 ^ 10 →
      Ev (fun k => woggleref06_around.l0 k (toI nx) (s : Int) (acc : Int) (j : Int)) (((((List.range nx.length).drop j).foldl (fun acc v => if s.testBit v then acc ||| nx.getD v 0 else acc) acc : Nat)) : Int) := by
    intro d
    induction d with
    | zero =>
      intro j acc hj ha
      refine Ev.step (f := fun _ => some (acc : Int)) (fun k => ?_) ?_
      · simp only [woggleref06_around.l0]
        rw [if_neg (by rw [toI_length]; omega)]
      · rw [List.drop_eq_nil_of_le (by simp; omega)]; exact Ev.now _
    | succ d ih =>
      intro j acc hj ha
      have hjl : j < nx.length := by omega
      have hv : nx.getD j 0 < 2 ^ 10 := by
        rw [List.getD_eq_getElem?_getD, List.getElem?_eq_getElem hjl]
        exact Nat.lt_of_lt_of_le (hx _ (List.getElem_mem hjl)) hpow
      rw [drop_range hjl, List.foldl_cons]
      by_cases hb : s.testBit j = true
      · rw [if_pos hb]
        refine Ev.step (fun k => ?_) (ih (j + 1) (acc ||| nx.getD j 0) (by omega) (Nat.or_lt_two_pow ha hv))
        simp only [woggleref06_around.l0]
        rw [if_pos (by rw [toI_length]; omega), if_pos (by omega), has64 _ _ (by omega), if_pos (by rw [hb]; rfl), show rd (toI nx) (j : Int) = ((nx.getD j 0 : Nat) : Int) from rd_nat nx j, or64 _ _ (by omega) (by omega), wrapS (by omega)]
      · rw [if_neg hb]
        refine Ev.step (fun k => ?_) (ih (j + 1) acc (by omega) ha)
        rw [Bool.not_eq_true] at hb
        simp only [woggleref06_around.l0]
        rw [if_pos (by rw [toI_length]; omega), if_pos (by omega), has64 _ _ (by omega), if_neg (by rw [hb]; simp), wrapS (by omega)]
  exact key nx.length 0 0 (by omega) (by omega)
theorem members_ev (s : Nat) (hs : s < 2 ^ 10) : Ev (fun k => woggleref01_Members.f k (s : Int)) (mem10 s) := by
  have key : ∀ (d j : Nat), j + d = 10 → Ev (fun k => woggleref01_Members.l0 k (s : Int) (((List.range j).filter (fun i => s.testBit i)).map fun (i : Nat) => (i : Int)) (j : Int)) (mem10 s) := by
    have hdone : ∀ (j : Nat), j ≤ 10 → s / 2 ^ j = 0 → (((List.range j).filter (fun i => s.testBit i)).map fun (i : Nat) => (i : Int)) = mem10 s := by
      intro j hj h0
      unfold mem10
      congr 1
      have : ∀ d, (List.range (j + d)).filter (fun i => s.testBit i) = (List.range j).filter (fun i => s.testBit i) := by
        intro d
        induction d with
        | zero => rfl
        | succ d ih =>
          rw [show j + (d + 1) = (j + d) + 1 by omega, List.range_succ, List.filter_append, ih]
          have : s.testBit (j + d) = false := by
            refine Nat.testBit_lt_two_pow (Nat.lt_of_lt_of_le ?_ (Nat.pow_le_pow_right (by omega) (Nat.le_add_right j d)))
            exact (Nat.div_eq_zero_iff.1 h0).resolve_left (by have := Nat.two_pow_pos j; omega)
          simp [this]
      have h := this (10 - j)
      rw [show j + (10 - j) = 10 by omega] at h
      exact h.symm
    intro d
    induction d with
    | zero =>
      intro j hj
      obtain rfl : j = 10 := by omega
      refine Ev.step (f := fun _ => some (mem10 s)) (fun k => ?_) (Ev.now _)
      simp only [woggleref01_Members.l0]
      rw [if_pos (by omega), shr64, if_neg (by rw [Nat.div_eq_of_lt (by simpa using hs)]; simp)]
      rfl
    | succ d ih =>
      intro j hj
      by_cases h0 : s / 2 ^ j = 0
      · refine Ev.step (f := fun _ => some (mem10 s)) (fun k => ?_) (Ev.now _)
        simp only [woggleref01_Members.l0]
        rw [if_pos (by omega), shr64, Nat.min_eq_left (by omega), if_neg (by rw [h0]; simp), hdone j (by omega) h0]
      · refine Ev.step (fun k => ?_) (ih (j + 1) (by omega))
        simp only [woggleref01_Members.l0]
        rw [if_pos (by omega), if_pos (by rw [shr64, Nat.min_eq_left (by omega)]; exact Int.natCast_pos.2 (Nat.pos_of_ne_zero h0)), has64 _ _ (by omega), wrapS (by omega), List.range_succ, List.filter_append, List.map_append]
        by_cases hb : s.testBit j = true
        · rw [if_pos (by rw [hb]; rfl), if_pos]
          · simp [hb]
          · have := List.length_filter_le (fun i => s.testBit i) (List.range j)
            rw [List.length_map]
            rw [List.length_range] at this
            omega
        · rw [Bool.not_eq_true] at hb
          rw [if_neg (by rw [hb]; simp)]
          simp [hb]
  exact key 10 0 (by omega)
theorem mem10_len {s n : Nat} (hn : n ≤ 10) (hs : s < 2 ^ n) : (mem10 s).length = popc 16 s := by
  have hs' : s < 2 ^ 10 := Nat.lt_of_lt_of_le hs (Nat.pow_le_pow_right (by omega) hn)
  rw [popc16 (by omega) hs']
  unfold mem10 popc
  rw [List.length_map, List.countP_eq_length_filter]
theorem rsize_ev (s : Nat) (hs : s < 2 ^ 10) : Ev (fun k => woggleref06_Size.f k (s : Int)) ((popc 16 s : Nat) : Int) := by
  unfold woggleref06_Size.f
  refine Ev.bind (members_ev s hs) ?_
  rw [mem10_len (Nat.le_refl 10) hs]
  exact Ev.now _
end Go.Proofs.YtbgpnkchbcgekaaDoor.Fi
