/- Texts of this claim, joined: P5, P6, P7, P8, L1, L2, L3, L5, L6, L9, L10, L11 -/
import Derived.Test.YtbgpnkchbcgekaaDoorQFgP4
import Derived.Test.YtbgpnkchbcgekaaDoorQFgFi2
import Derived.Test.YtbgpnkchbcgekaaDoorQFgFi4
import Derived.Test.YtbgpnkchbcgekaaDoorQFgHc2
import Derived.Test.YtbgpnkchbcgekaaDoorQFgHbr
import Derived.Test.YtbgpnkchbcgekaaDoorQFgS8
import Derived.Test.YtbgpnkchbcgekaaDoorQFgFi6
import Derived.Test.YtbgpnkchbcgekaaDoorQFgFi0
import Derived.Test.YtbgpnkchbcgekaaDoorQFgFi5
import Derived.Test.YtbgpnkchbcgekaaDoorQFgFi9
import Derived.Test.YtbgpnkchbcgekaaDoorQFgFi1
import Derived.Test.YtbgpnkchbcgekaaDoorQFgHbu
import Derived.Test.YtbgpnkchbcgekaaDoorQFgHe
import Derived.Test.YtbgpnkchbcgekaaDoorQFgHgr
import Derived.Test.YtbgpnkchbcgekaaDoorQFgR0
import Derived.Test.YtbgpnkchbcgekaaDoorQFgFi3
import Derived.Test.YtbgpnkchbcgekaaDoorQFgHtr
import Derived.Deep.LoopGhost
import Derived.Outline
import Derived.Test.YtbgpnkchbcgekaaDoorQFgFi13
section
namespace Go.Proofs.YtbgpnkchbcgekaaDoor.Fi
open Go.RowKit Go.Proofs.YtbgpnkchbcgekaaDoorW.PrintWords Go.Proofs.YtbgpnkchbcgekaaDoorW.PrintLast Go.Proofs.YtbgpnkchbcgekaaDoorW.PrintMore Wog
set_option linter.unusedVariables false
theorem few_is (n : Int) (l : List S42) : wogglelaw06_Graph_few.f n l = some (n, l.take 61) := by
  unfold wogglelaw06_Graph_few.f
  have hm : mn (l.length : Int) 61 = ((min l.length 61 : Nat) : Int) := by unfold mn; split <;> omega
  rw [Option.bind_some, hm, if_pos (by omega), if_pos (by omega), Option.bind_some, if_pos (by simp; omega)]
  rw [Int.toNat_natCast]
  simp [Nat.min_comm]
theorem lexLt_irr : ∀ l : List Int, lexLt l l = false
  | [] => rfl
  | a :: l => by rw [lexLt, if_pos rfl]; exact lexLt_irr l
theorem before_ev (l m : List Int) (hl : l.length < 2 ^ 30) : Ev (fun k => woggleref01_Before.f k l m) (lexLt l m) := by
  have key : ∀ (a b p q : List Int), p.length = q.length → p.length + a.length < 2 ^ 30 → Ev (fun k => woggleref01_Before.l0 k (p ++ a) (q ++ b) (p.length : Int)) (lexLt a b) := by
    intro a
    induction a with
    | nil =>
      intro b p q hpq hpl
      refine Ev.step (f := fun k => woggleref01_Before.j1 k (p ++ []) (q ++ b) (p.length : Int) false) (fun k => ?_) ?_
      · simp only [woggleref01_Before.l0]
        rw [if_neg (by simp)]
      · refine Ev.step (f := fun _ => some (lexLt [] b)) (fun k => ?_) (Ev.now _)
        simp only [woggleref01_Before.j1]
        rw [if_neg (by simp)]
        cases b with
        | nil => simp [lexLt, hpq]
        | cons y b => simp [lexLt, hpq]; omega
    | cons x a ih =>
      intro b p q hpq hpl
      cases b with
      | nil =>
        refine Ev.step (f := fun k => woggleref01_Before.j1 k (p ++ x :: a) (q ++ []) (p.length : Int) false) (fun k => ?_) ?_
        · simp only [woggleref01_Before.l0]
          rw [if_pos (by simp; omega)]
          congr 1
          simp [hpq]
        · refine Ev.step (f := fun _ => some (lexLt (x :: a) [])) (fun k => ?_) (Ev.now _)
          simp only [woggleref01_Before.j1]
          rw [if_neg (by simp)]
          simp [lexLt, hpq]; omega
      | cons y b =>
        have e0 : rd (p ++ x :: a) (p.length : Int) = x := by unfold rd; simp [List.getD_eq_getElem?_getD]
        have e1 : rd (q ++ y :: b) (p.length : Int) = y := by rw [hpq]; unfold rd; simp [List.getD_eq_getElem?_getD]
        refine Ev.step (f := fun k => woggleref01_Before.j1 k (p ++ x :: a) (q ++ y :: b) (p.length : Int) true) (fun k => ?_) ?_
        · simp only [woggleref01_Before.l0]
          rw [if_pos (by simp; omega)]
          congr 1
          simp [hpq]; omega
        · by_cases hxy : x = y
          · subst hxy
            have ih' := ih b (p ++ [x]) (q ++ [x]) (by simp [hpq]) (by simp at hpl ⊢; omega)
            refine Ev.step (f := fun k => woggleref01_Before.l0 k (p ++ x :: a) (q ++ x :: b) ((p ++ [x]).length : Int)) (fun k => ?_) ?_
            · simp only [woggleref01_Before.j1]
              rw [if_pos trivial, if_pos (by omega), if_pos (by simp; omega), if_pos (by rw [hpq]; simp; omega), e0, e1, if_pos rfl, wrapS (by simp at hpl; omega)]
              simp
            · rw [lexLt, if_pos rfl]
              simpa using ih'
          · refine Ev.step (f := fun _ => some (decide (x < y))) (fun k => ?_) ?_
            · simp only [woggleref01_Before.j1]
              rw [if_pos trivial, if_pos (by omega), if_pos (by simp; omega), if_pos (by rw [hpq]; simp; omega), e0, e1, if_neg hxy]
            · rw [lexLt, if_neg hxy]; exact Ev.now _
  exact key l m [] [] rfl (by simpa using hl)
theorem same_ev (l : List Int) (hl : l.length < 2 ^ 30) : Ev (fun k => woggleref01_Same.f k l l) true := by
  unfold woggleref01_Same.f
  refine Ev.bind (before_ev l l hl) ?_
  simp only [lexLt_irr, Bool.false_eq_true, if_false]
  refine Ev.bind (before_ev l l hl) ?_
  simp only [lexLt_irr]
  exact Ev.now _
theorem sameLists_ev (l : List (List Int)) (hl : l.length < 2 ^ 30) (hl2 : ∀ x ∈ l, x.length < 2 ^ 30) : Ev (fun k => woggleref01_SameLists.f k l l) true := by
  have key : ∀ (d j : Nat), j + d = l.length → Ev (fun k => woggleref01_SameLists.l0 k l l (j : Int)) true := by
    intro d
    induction d with
    | zero =>
      intro j hj
      refine Ev.step (f := fun _ => some true) (fun k => ?_) (Ev.now _)
      simp only [woggleref01_SameLists.l0]
      rw [if_neg (by omega)]
    | succ d ih =>
      intro j hj
      have hmem : (rd_L4 l (j : Int)).length < 2 ^ 30 := by
        unfold rd_L4
        rw [Int.toNat_natCast, List.getD_eq_getElem?_getD, List.getElem?_eq_getElem (by omega)]
        exact hl2 _ (List.getElem_mem _)
      refine Ev.step (f := fun k => (woggleref01_Same.f k (rd_L4 l (j : Int)) (rd_L4 l (j : Int))).bind fun t => if t = true then woggleref01_SameLists.l0 k l l ((j + 1 : Nat) : Int) else some false) (fun k => ?_) ?_
      · simp only [woggleref01_SameLists.l0]
        rw [if_pos (by omega), if_pos (by omega), if_pos (by omega), wrapS (by omega)]
      · refine Ev.bind (same_ev _ hmem) ?_
        simp only [if_true]
        exact ih (j + 1) (by omega)
  have k := key l.length 0 (by omega)
  refine Ev.congr (fun k => ?_) k
  unfold woggleref01_SameLists.f
  rw [if_pos rfl]
  rfl
theorem graph_low (n : Int) (l : List S42) (hl : l.length < 2 ^ 30) (hn : n < 1) : Ev (fun k => woggleref06_Graph.f k n l) false := by
  have key : ∀ (d j : Nat), j + d = l.length → Ev (fun k => woggleref06_Graph.l0 k n l (j : Int)) false := by
    intro d
    induction d with
    | zero =>
      intro j hj
      refine Ev.step (f := fun _ => some false) (fun k => ?_) (Ev.now _)
      simp only [woggleref06_Graph.l0]
      rw [if_neg (by omega)]
      unfold woggleref06_in.f
      rw [if_neg (by omega), Option.bind_some, if_neg (by simp)]
    | succ d ih =>
      intro j hj
      have ih' := ih (j + 1) (by omega)
      have hin : ∀ a b c, ∃ r, woggleref06_in.f a b c = some r := fun a b c => by unfold woggleref06_in.f; split <;> exact ⟨_, rfl⟩
      obtain ⟨r1, hr1⟩ := hin (rd_T42 l (j : Int)).f0 0 (wrap64 (n - 1))
      obtain ⟨r2, hr2⟩ := hin (rd_T42 l (j : Int)).f1 0 (wrap64 (n - 1))
      have hst : ∀ k, woggleref06_Graph.l0 (k + 1) n l (j : Int) = if r1 = true then (if r2 = true then (if (rd_T42 l (j : Int)).f0 = (rd_T42 l (j : Int)).f1 then some false else woggleref06_Graph.l0 k n l ((j + 1 : Nat) : Int)) else some false) else some false := by
        intro k
        simp only [woggleref06_Graph.l0]
        rw [if_pos (by omega), if_pos (by omega), hr1, Option.bind_some, hr2, wrapS (by omega)]
        rfl
      by_cases h1 : r1 = true
      · by_cases h2 : r2 = true
        · by_cases h3 : (rd_T42 l (j : Int)).f0 = (rd_T42 l (j : Int)).f1
          · exact Ev.step (f := fun _ => some false) (fun k => by rw [hst, if_pos h1, if_pos h2, if_pos h3]) (Ev.now _)
          · exact Ev.step (fun k => by rw [hst, if_pos h1, if_pos h2, if_neg h3]) ih'
        · exact Ev.step (f := fun _ => some false) (fun k => by rw [hst, if_pos h1, if_neg h2]) (Ev.now _)
      · exact Ev.step (f := fun _ => some false) (fun k => by rw [hst, if_neg h1]) (Ev.now _)
  exact key l.length 0 (by omega)
theorem graph_ev (n : Int) (l : List S42) (hl : l.length < 2 ^ 30) (hn : n < 2 ^ 63) : Ev (fun k => woggleref06_Graph.f k n l) (decide (GoodG n l)) := by
  by_cases hn1 : n < 1
  · have k := graph_low n l hl hn1
    rwa [show decide (GoodG n l) = false from decide_eq_false (fun h => by have := h.1; omega)]
  have hw : wrap64 (n - 1) = n - 1 := by unfold wrap64; omega
  have key : ∀ (d j : Nat), j + d = l.length → (∀ x ∈ l.take j, okE n.toNat x) → Ev (fun k => woggleref06_Graph.l0 k n l (j : Int)) (decide (GoodG n l)) := by
    intro d
    induction d with
    | zero =>
      intro j hj hall
      refine Ev.step (f := fun _ => some (decide (GoodG n l))) (fun k => ?_) (Ev.now _)
      simp only [woggleref06_Graph.l0]
      rw [if_neg (by omega)]
      unfold woggleref06_in.f
      have hall' : ∀ x ∈ l, okE n.toNat x := by rwa [List.take_of_length_le (by omega)] at hall
      by_cases h1 : n ≥ 1
      · rw [if_pos h1, Option.bind_some]
        by_cases h2 : n ≤ 10
        · simp only [h2, decide_true, if_true]
          congr 1
          rw [Bool.eq_iff_iff, decide_eq_true_iff, decide_eq_true_iff]
          constructor
          · intro h; exact ⟨by omega, h2, by omega, hall'⟩
          · intro h; have := h.2.2.1; omega
        · simp only [h2, decide_false]
          rw [if_neg (by simp)]
          congr 1
          symm
          rw [decide_eq_false_iff_not]
          intro h; exact h2 h.2.1
      · rw [if_neg h1, Option.bind_some, if_neg (by simp)]
        congr 1
        symm
        rw [decide_eq_false_iff_not]
        intro h; exact h1 h.1
    | succ d ih =>
      intro j hj hall
      have hjl : j < l.length := by omega
      obtain ⟨e, he⟩ : ∃ e, e = rd_T42 l (j : Int) := ⟨_, rfl⟩
      have hmem : e ∈ l := by rw [he, rd_mem hjl]; exact List.getElem_mem _
      have hno : ¬ okE n.toNat e → (decide (GoodG n l)) = false := fun h => by rw [decide_eq_false_iff_not]; intro hg; exact h (hg.2.2.2 e hmem)
      have hst : ∀ k, woggleref06_Graph.l0 (k + 1) n l (j : Int) = if okE n.toNat e then woggleref06_Graph.l0 k n l ((j + 1 : Nat) : Int) else some false := by
        intro k
        simp only [woggleref06_Graph.l0]
        rw [if_pos (by omega), if_pos (by omega), ← he, hw, wrapS (by omega)]
        unfold woggleref06_in.f
        by_cases a1 : e.f0 ≥ 0
        · rw [if_pos a1, Option.bind_some]
          by_cases a2 : e.f0 ≤ n - 1
          · simp only [a2, decide_true, if_true]
            by_cases a3 : e.f1 ≥ 0
            · rw [if_pos a3, Option.bind_some]
              by_cases a4 : e.f1 ≤ n - 1
              · simp only [a4, decide_true, if_true]
                by_cases a5 : e.f0 = e.f1
                · rw [if_pos a5, if_neg (by unfold okE; omega)]
                · rw [if_neg a5, if_pos (by unfold okE; omega)]
              · simp only [a4, decide_false]
                rw [if_neg (by simp), if_neg (by unfold okE; omega)]
            · rw [if_neg a3, Option.bind_some, if_neg (by simp), if_neg (by unfold okE; omega)]
          · simp only [a2, decide_false]
            rw [if_neg (by simp), if_neg (by unfold okE; omega)]
        · rw [if_neg a1, Option.bind_some, if_neg (by simp), if_neg (by unfold okE; omega)]
      by_cases ok : okE n.toNat e
      · refine Ev.step (f := fun k => woggleref06_Graph.l0 k n l ((j + 1 : Nat) : Int)) (fun k => by rw [hst, if_pos ok]) (ih (j + 1) (by omega) (all_snoc hjl hall (by rw [← he]; exact ok)))
      · refine Ev.step (f := fun _ => some false) (fun k => by rw [hst, if_neg ok]) ?_
        rw [hno ok]; exact Ev.now _
  exact key l.length 0 (by omega) (by simp)
end Go.Proofs.YtbgpnkchbcgekaaDoor.Fi
end
section
namespace Go.Proofs.YtbgpnkchbcgekaaDoor.Fi
open Go.RowKit Go.Proofs.YtbgpnkchbcgekaaDoorW.PrintWords Go.Proofs.YtbgpnkchbcgekaaDoorW.PrintLast Go.Proofs.YtbgpnkchbcgekaaDoorW.PrintMore Wog
set_option linter.unusedVariables false
theorem raround_ev (nx : List Nat) (s : Nat) (hn : nx.length ≤ 10) (hx : ∀ x ∈ nx, x < 2 ^ nx.length) (hs : s < 2 ^ nx.length) : Ev (fun k => woggleref06_around.f k (toI nx) (s : Int)) ((nb nx s : Nat) : Int) := by
  have hpow : (2 : Nat) ^ nx.length ≤ 2 ^ 10 := Nat.pow_le_pow_right (by omega) hn
  have key : ∀ (d j acc : Nat), j + d = nx.length → acc < 2 ^ 10 →
      Ev (fun k => woggleref06_around.l0 k (toI nx) (s : Int) (acc : Int) (j : Int)) (((((List.range nx.length).drop j).foldl (fun acc v => if s.testBit v then acc ||| nx.getD v 0 else acc) acc : Nat)) : Int) := by
    intro d
    induction d with
    | zero =>
      intro j acc hj ha
      refine Ev.step (f := fun _ => some (acc : Int)) (fun k => ?_) ?_
      · simp only [woggleref06_around.l0]
        rw [if_neg (by rw [toI_length]; omega)]
      · rw [List.drop_eq_nil_of_le (by simp; omega)]; exact Ev.now _
    | succ d ih =>
      intro j acc hj ha
      have hjl : j < nx.length := by omega
      have hv : nx.getD j 0 < 2 ^ 10 := by
        rw [List.getD_eq_getElem?_getD, List.getElem?_eq_getElem hjl]
        exact Nat.lt_of_lt_of_le (hx _ (List.getElem_mem hjl)) hpow
      rw [drop_range hjl, List.foldl_cons]
      by_cases hb : s.testBit j = true
      · rw [if_pos hb]
        refine Ev.step (fun k => ?_) (ih (j + 1) (acc ||| nx.getD j 0) (by omega) (Nat.or_lt_two_pow ha hv))
        simp only [woggleref06_around.l0]
        rw [if_pos (by rw [toI_length]; omega), if_pos (by omega), has64 _ _ (by omega), if_pos (by rw [hb]; rfl), show rd (toI nx) (j : Int) = ((nx.getD j 0 : Nat) : Int) from rd_nat nx j, or64 _ _ (by omega) (by omega), wrapS (by omega)]
      · rw [if_neg hb]
        refine Ev.step (fun k => ?_) (ih (j + 1) acc (by omega) ha)
        rw [Bool.not_eq_true] at hb
        simp only [woggleref06_around.l0]
        rw [if_pos (by rw [toI_length]; omega), if_pos (by omega), has64 _ _ (by omega), if_neg (by rw [hb]; simp), wrapS (by omega)]
  exact key nx.length 0 0 (by omega) (by omega)
theorem members_ev (s : Nat) (hs : s < 2 ^ 10) : Ev (fun k => woggleref01_Members.f k (s : Int)) (mem10 s) := by
  have key : ∀ (d j : Nat), j + d = 10 → Ev (fun k => woggleref01_Members.l0 k (s : Int) (((List.range j).filter (fun i => s.testBit i)).map fun (i : Nat) => (i : Int)) (j : Int)) (mem10 s) := by
    have hdone : ∀ (j : Nat), j ≤ 10 → s / 2 ^ j = 0 → (((List.range j).filter (fun i => s.testBit i)).map fun (i : Nat) => (i : Int)) = mem10 s := by
      intro j hj h0
      unfold mem10
      congr 1
      have : ∀ d, (List.range (j + d)).filter (fun i => s.testBit i) = (List.range j).filter (fun i => s.testBit i) := by
        intro d
        induction d with
        | zero => rfl
        | succ d ih =>
          rw [show j + (d + 1) = (j + d) + 1 by omega, List.range_succ, List.filter_append, ih]
          have : s.testBit (j + d) = false := by
            refine Nat.testBit_lt_two_pow (Nat.lt_of_lt_of_le ?_ (Nat.pow_le_pow_right (by omega) (Nat.le_add_right j d)))
            exact (Nat.div_eq_zero_iff.1 h0).resolve_left (by have := Nat.two_pow_pos j; omega)
          simp [this]
      have h := this (10 - j)
      rw [show j + (10 - j) = 10 by omega] at h
      exact h.symm
    intro d
    induction d with
    | zero =>
      intro j hj
      obtain rfl : j = 10 := by omega
      refine Ev.step (f := fun _ => some (mem10 s)) (fun k => ?_) (Ev.now _)
      simp only [woggleref01_Members.l0]
      rw [if_pos (by omega), shr64, if_neg (by rw [Nat.div_eq_of_lt (by simpa using hs)]; simp)]
      rfl
    | succ d ih =>
      intro j hj
      by_cases h0 : s / 2 ^ j = 0
      · refine Ev.step (f := fun _ => some (mem10 s)) (fun k => ?_) (Ev.now _)
        simp only [woggleref01_Members.l0]
        rw [if_pos (by omega), shr64, Nat.min_eq_left (by omega), if_neg (by rw [h0]; simp), hdone j (by omega) h0]
      · refine Ev.step (fun k => ?_) (ih (j + 1) (by omega))
        simp only [woggleref01_Members.l0]
        rw [if_pos (by omega), if_pos (by rw [shr64, Nat.min_eq_left (by omega)]; exact Int.natCast_pos.2 (Nat.pos_of_ne_zero h0)), has64 _ _ (by omega), wrapS (by omega), List.range_succ, List.filter_append, List.map_append]
        by_cases hb : s.testBit j = true
        · rw [if_pos (by rw [hb]; rfl), if_pos]
          · simp [hb]
          · have := List.length_filter_le (fun i => s.testBit i) (List.range j)
            rw [List.length_map]
            rw [List.length_range] at this
            omega
        · rw [Bool.not_eq_true] at hb
          rw [if_neg (by rw [hb]; simp)]
          simp [hb]
  exact key 10 0 (by omega)
theorem mem10_len {s n : Nat} (hn : n ≤ 10) (hs : s < 2 ^ n) : (mem10 s).length = popc 16 s := by
  have hs' : s < 2 ^ 10 := Nat.lt_of_lt_of_le hs (Nat.pow_le_pow_right (by omega) hn)
  rw [popc16 (by omega) hs']
  unfold mem10 popc
  rw [List.length_map, List.countP_eq_length_filter]
theorem rsize_ev (s : Nat) (hs : s < 2 ^ 10) : Ev (fun k => woggleref06_Size.f k (s : Int)) ((popc 16 s : Nat) : Int) := by
  unfold woggleref06_Size.f
  refine Ev.bind (members_ev s hs) ?_
  rw [mem10_len (Nat.le_refl 10) hs]
  exact Ev.now _
end Go.Proofs.YtbgpnkchbcgekaaDoor.Fi
end
section
namespace Go.Proofs.YtbgpnkchbcgekaaDoor.Fi
open Go.RowKit Go.Proofs.YtbgpnkchbcgekaaDoorW.PrintWords Go.Proofs.YtbgpnkchbcgekaaDoorW.PrintLast Go.Proofs.YtbgpnkchbcgekaaDoorW.PrintMore Wog
set_option linter.unusedVariables false
theorem toI_setI (xs : List Nat) (i v : Nat) : (toI xs).set i (v : Int) = toI (xs.set i v) := by simp [toI, List.map_set]
theorem near_ev (n : Int) (l : List S42) (h : GoodG n l) : Ev (fun k => woggleref06_Near.f k n l) (toI (nearS n.toNat l)) := by
  obtain ⟨h1, h2, h3, h4⟩ := h
  have hpow : (2 : Nat) ^ n.toNat ≤ 2 ^ 10 := Nat.pow_le_pow_right (by omega) (by omega)
  have key : ∀ (d j : Nat), j + d = l.length → Ev (fun k => woggleref06_Near.l0 k l (toI (nearS n.toNat (l.take j))) (j : Int)) (toI (nearS n.toNat l)) := by
    intro d
    induction d with
    | zero =>
      intro j hj
      refine Ev.step (f := fun _ => some (toI (nearS n.toNat l))) (fun k => ?_) (Ev.now _)
      simp only [woggleref06_Near.l0]
      rw [if_neg (by omega), List.take_of_length_le (by omega)]
    | succ d ih =>
      intro j hj
      have hjl : j < l.length := by omega
      have ih' := ih (j + 1) (by omega)
      have he := h4 _ (List.getElem_mem hjl)
      rw [near_snoc n.toNat l j hjl] at ih'
      rw [← rd_mem hjl] at he
      obtain ⟨e, hee⟩ : ∃ e, e = rd_T42 l (j : Int) := ⟨_, rfl⟩
      rw [← hee] at he ih'
      obtain ⟨a0, a1, a2, a3, a4⟩ := he
      obtain ⟨x, hx⟩ := Int.eq_ofNat_of_zero_le a0
      obtain ⟨y, hy⟩ := Int.eq_ofNat_of_zero_le a1
      obtain ⟨xs, hxs⟩ : ∃ xs, xs = nearS n.toNat (l.take j) := ⟨_, rfl⟩
      have hxl : xs.length = n.toNat := by rw [hxs, nearS_length]
      have hxb : ∀ z ∈ xs, z < 2 ^ n.toNat := by rw [hxs]; exact nearS_lt (fun z hz => h4 z (List.mem_of_mem_take hz))
      rw [← hxs] at ih' ⊢
      have hg0 : xs.getD x 0 < 2 ^ n.toNat := getD_lt hxb x
      have hp0 : 2 ^ y < 2 ^ n.toNat := Nat.pow_lt_pow_right (by omega) (by omega)
      have hp1 : 2 ^ x < 2 ^ n.toNat := Nat.pow_lt_pow_right (by omega) (by omega)
      obtain ⟨ys, hys⟩ : ∃ ys, ys = xs.set x (xs.getD x 0 ||| 2 ^ y) := ⟨_, rfl⟩
      have hyl : ys.length = n.toNat := by rw [hys, List.length_set, hxl]
      have hyb : ∀ z ∈ ys, z < 2 ^ n.toNat := by
        intro z hz
        rw [hys] at hz
        rcases List.mem_or_eq_of_mem_set hz with hz | rfl
        · exact hxb z hz
        · exact Nat.or_lt_two_pow hg0 hp0
      have hg1 : ys.getD y 0 < 2 ^ n.toNat := getD_lt hyb y
      have hadd : addS xs e = ys.set y (ys.getD y 0 ||| 2 ^ x) := by
        unfold addS
        rw [hx, hy]
        simp only [Int.toNat_natCast]
        rw [← hys]
      refine Ev.step (fun k => ?_) ih'
      simp only [woggleref06_Near.l0]
      rw [← hee, hx, hy]
      simp only [Int.toNat_natCast]
      rw [if_pos (by omega), if_pos (by omega), if_pos (by omega), if_pos (by rw [toI_length, hxl]; omega), if_pos (by omega), Option.bind_some,
        show rd (toI xs) (x : Int) = ((xs.getD x 0 : Nat) : Int) from rd_nat xs x, shl64 y (by omega), or64 _ _ (by omega) (by omega), toI_setI, ← hys,
        if_pos (by rw [toI_length, hxl]; omega), show rd (toI ys) (y : Int) = ((ys.getD y 0 : Nat) : Int) from rd_nat ys y, shl64 x (by omega), or64 _ _ (by omega) (by omega), toI_setI, wrapS (by omega), hadd]
  have k := key l.length 0 (by omega)
  refine Ev.congr (fun k => ?_) k
  unfold woggleref06_Near.f
  rw [if_pos (by omega), if_pos (by omega)]
  congr 1
  simp [nearS, toI]
theorem cloF_fix {nx : List Nat} {B D k : Nat} (hd : disj B D) (hB : B < 2 ^ nx.length) (hx : ∀ x ∈ nx, x < 2 ^ nx.length) (h : cloF nx D k B = some B) : diff (arnd nx B) D = B := by
  cases k with
  | zero => simp [cloF] at h
  | succ k =>
    rw [cloF] at h
    by_cases e : diff (arnd nx B) D = B
    · exact e
    · rw [if_neg e] at h
      refine ext_lt (diff_le _ _ _ (arnd_lt hx hB)) hB (fun i _ => ?_)
      cases h1 : B.testBit i with
      | true => exact step_sup hd i h1
      | false =>
        cases h2 : (diff (arnd nx B) D).testBit i with
        | false => rfl
        | true => rw [cloF_sup _ _ _ (disj_diff _ _) h i h2] at h1; cases h1
end Go.Proofs.YtbgpnkchbcgekaaDoor.Fi
end
section
namespace Go.Proofs.YtbgpnkchbcgekaaDoor.Fi
open Go.RowKit Go.Proofs.YtbgpnkchbcgekaaDoorW.PrintWords Go.Proofs.YtbgpnkchbcgekaaDoorW.PrintLast Go.Proofs.YtbgpnkchbcgekaaDoorW.PrintMore Wog
set_option linter.unusedVariables false
theorem set_bit (xs : List Nat) (i j a b : Nat) (hi : i < xs.length) : ((xs.set i (xs.getD i 0 ||| 2 ^ j)).getD a 0).testBit b = ((xs.getD a 0).testBit b || (decide (a = i) && decide (b = j))) := by
  rw [List.getD_eq_getElem?_getD, List.getD_eq_getElem?_getD, List.getElem?_set]
  by_cases h : i = a
  · subst h
    rw [if_pos rfl, if_pos hi]
    simp only [Option.getD_some]
    rw [Nat.testBit_or, testBit_two_pow, List.getD_eq_getElem?_getD]
    simp [eq_comm]
  · rw [if_neg h]
    have : decide (a = i) = false := decide_eq_false (fun e => h e.symm)
    rw [this]
    simp
theorem addS_bit {n : Nat} (xs : List Nat) (e : S42) (hl : xs.length = n) (he : okE n e) (a b : Nat) :
    ((addS xs e).getD a 0).testBit b = ((xs.getD a 0).testBit b || ((decide (a = e.f0.toNat) && decide (b = e.f1.toNat)) || (decide (a = e.f1.toNat) && decide (b = e.f0.toNat)))) := by
  obtain ⟨h1, h2, h3, h4, h5⟩ := he
  unfold addS
  simp only []
  rw [set_bit _ _ _ _ _ (by simp; omega), set_bit _ _ _ _ _ (by omega), Bool.or_assoc]
theorem near_bit {n : Nat} : ∀ (l : List S42), (∀ e ∈ l, okE n e) → ∀ a b, ((nearS n l).getD a 0).testBit b = true ↔ ∃ e ∈ l, (a = e.f0.toNat ∧ b = e.f1.toNat) ∨ (a = e.f1.toNat ∧ b = e.f0.toNat) := by
  have key : ∀ (l : List S42) (xs : List Nat), xs.length = n → (∀ e ∈ l, okE n e) → ∀ a b, ((l.foldl addS xs).getD a 0).testBit b = true ↔ (xs.getD a 0).testBit b = true ∨ ∃ e ∈ l, (a = e.f0.toNat ∧ b = e.f1.toNat) ∨ (a = e.f1.toNat ∧ b = e.f0.toNat) := by
    intro l
    induction l with
    | nil => intro xs _ _ a b; simp
    | cons e l ih =>
      intro xs hl he a b
      rw [List.foldl_cons, ih _ (by rw [addS_length, hl]) (fun x hx => he x (by simp [hx])) a b, addS_bit xs e hl (he e (by simp)) a b]
      simp only [Bool.or_eq_true, Bool.and_eq_true, decide_eq_true_eq, List.mem_cons, exists_eq_or_imp]
      constructor
      · rintro ((h | h) | h)
        · exact .inl h
        · exact .inr (.inl h)
        · exact .inr (.inr h)
      · rintro (h | h | h)
        · exact .inl (.inl h)
        · exact .inl (.inr h)
        · exact .inr h
  intro l he a b
  unfold nearS
  rw [key l _ (by simp) he a b]
  have : ((List.replicate n 0).getD a 0).testBit b = false := by
    rw [List.getD_eq_getElem?_getD, List.getElem?_replicate]
    split <;> simp
  rw [this]
  simp
theorem near_sym {n : Nat} {l : List S42} (he : ∀ e ∈ l, okE n e) : Sym (nearS n l) := by
  intro a b _ _
  rw [Bool.eq_iff_iff, near_bit l he, near_bit l he]
  constructor
  · rintro ⟨e, h1, h2⟩
    exact ⟨e, h1, by omega⟩
  · rintro ⟨e, h1, h2⟩
    exact ⟨e, h1, by omega⟩
theorem near_irr {n : Nat} {l : List S42} (he : ∀ e ∈ l, okE n e) (a : Nat) : ((nearS n l).getD a 0).testBit a = false := by
  cases h : ((nearS n l).getD a 0).testBit a with
  | false => rfl
  | true =>
    obtain ⟨e, h1, h2⟩ := (near_bit l he a a).1 h
    obtain ⟨h3, h4, h5, h6, h7⟩ := he e h1
    omega
theorem full64 {n : Nat} (hn : n ≤ 10) : wrap64 (shl .i64 1 (n : Int) - 1) = ((full n : Nat) : Int) := by
  rw [shl64 n (by omega)]
  have h1 : 2 ^ n ≤ 2 ^ 10 := Nat.pow_le_pow_right (by omega) hn
  have h2 := Nat.two_pow_pos n
  unfold full
  generalize 2 ^ n = x at *
  unfold wrap64
  omega
section
variable {nx : List Nat}
theorem lt1024 (hn : nx.length ≤ 10) {x : Nat} (h : x < 2 ^ nx.length) : x < 2 ^ 10 := Nat.lt_of_lt_of_le h (Nat.pow_le_pow_right (by omega) hn)
theorem ball_add (v : Nat) (i : Nat) : ball nx v (i + 1) = ball nx v i ||| nb nx (ball nx v i) := rfl
theorem rball_ev (hn : nx.length ≤ 10) (hx : ∀ x ∈ nx, x < 2 ^ nx.length) {v r : Nat} (hv : v < nx.length) (hr : r < 2 ^ 30) : Ev (fun k => woggleref06_Ball.f k (toI nx) (v : Int) (r : Int)) ((ball nx v r : Nat) : Int) := by
  have key : ∀ (d i : Nat), d < 2 ^ 30 → Ev (fun k => woggleref06_Ball.l0 k (toI nx) (d : Int) ((ball nx v i : Nat) : Int)) ((ball nx v (i + d) : Nat) : Int) := by
    intro d
    induction d with
    | zero =>
      intro i _
      refine Ev.step (f := fun _ => some ((ball nx v i : Nat) : Int)) (fun k => ?_) (Ev.now _)
      simp only [woggleref06_Ball.l0]
      rw [if_neg (by omega)]
    | succ d ih =>
      intro i hd
      have hb := ball_lt hx hv i
      refine Ev.step (f := fun k => (woggleref06_around.f k (toI nx) ((ball nx v i : Nat) : Int)).bind fun t => woggleref06_Ball.l0 k (toI nx) (wrap64 (((d + 1 : Nat) : Int) - 1)) (Go.bits .or .i64 ((ball nx v i : Nat) : Int) t)) (fun k => ?_) ?_
      · simp only [woggleref06_Ball.l0]
        rw [if_pos (by omega)]
      · refine Ev.bind (raround_ev nx _ hn hx hb) ?_
        have h1 := lt1024 hn hb
        have h2 := lt1024 hn (nb_lt hx (ball nx v i))
        rw [or64 _ _ (by omega) (by omega), show wrap64 (((d + 1 : Nat) : Int) - 1) = (d : Int) by unfold wrap64; omega, ← ball_add]
        have := ih (i + 1) (by omega)
        rwa [show i + 1 + d = i + (d + 1) by omega] at this
  have h := key r 0 hr
  refine Ev.congr (f := fun k => woggleref06_Ball.l0 k (toI nx) (r : Int) ((ball nx v 0 : Nat) : Int)) (fun k => ?_) (by simpa using h)
  unfold woggleref06_Ball.f
  rw [if_pos (by omega), shl64 v (by omega)]
  rfl
theorem rconnected_ev (hn : nx.length ≤ 10) (hx : ∀ x ∈ nx, x < 2 ^ nx.length) (h0 : 0 < nx.length) : Ev (fun k => woggleref06_Connected.f k (toI nx)) (decide (ball nx 0 nx.length = full nx.length)) := by
  unfold woggleref06_Connected.f
  have h := rball_ev hn hx (v := 0) (r := nx.length) h0 (by omega)
  rw [toI_length]
  refine Ev.bind h ?_
  rw [full64 hn]
  refine Ev.congr (fun k => ?_) (Ev.now _)
  congr 1
  rw [Bool.eq_iff_iff]
  simp
  omega
end
end Go.Proofs.YtbgpnkchbcgekaaDoor.Fi
end
section
namespace Go.Proofs.YtbgpnkchbcgekaaDoor.Fi
open Go.RowKit Go.Proofs.YtbgpnkchbcgekaaDoorW.PrintWords Go.Proofs.YtbgpnkchbcgekaaDoorW.PrintLast Go.Proofs.YtbgpnkchbcgekaaDoorW.PrintMore Wog
set_option linter.unusedVariables false
theorem lives_best : fire_Best.f 4 ([(⟨0, 1⟩ : S42), (⟨1, 2⟩ : S42), (⟨2, 3⟩ : S42)] : List (S42)) 1 = some (2, [2], 0) := by decide +kernel
theorem lives_play : fire_Play.f 4 ([(⟨0, 1⟩ : S42), (⟨1, 2⟩ : S42), (⟨2, 3⟩ : S42)] : List (S42)) 1 [2] = some ([[0]], 0) := by decide +kernel
theorem lives_burning : fire_Burning.f 4 ([(⟨0, 1⟩ : S42), (⟨1, 2⟩ : S42), (⟨2, 3⟩ : S42)] : List (S42)) = some ([1, 3], 0) := by decide +kernel
theorem lives_ev : Ev (fun k => wogglelaw06_lives.f k) true := by
  unfold wogglelaw06_lives.f
  simp only [Option.bind_some, lives_best, lives_play, lives_burning, if_true]
  refine Ev.bind (same_ev [2] (by simp)) ?_
  simp only [if_true]
  refine Ev.bind (sameLists_ev [[0]] (by simp) (by simp)) ?_
  simp only [if_true]
  refine Ev.bind (same_ev [1, 3] (by simp)) ?_
  simp only [if_true]
  exact Ev.now _
end Go.Proofs.YtbgpnkchbcgekaaDoor.Fi
end
section
namespace Go.Proofs.YtbgpnkchbcgekaaDoor.Fi
open Go.RowKit Go.Proofs.YtbgpnkchbcgekaaDoorW.PrintWords Go.Proofs.YtbgpnkchbcgekaaDoorW.PrintLast Go.Proofs.YtbgpnkchbcgekaaDoorW.PrintMore Wog
set_option linter.unusedVariables false
theorem lives_then : Ev (fun k => (wogglelaw06_lives.f k).bind fun t => some t) true := Ev.bind lives_ev (Ev.now _)
theorem GoodG.rows {n : Int} {l : List S42} (h : GoodG n l) : (∀ x ∈ nearS n.toNat l, x < 2 ^ (nearS n.toNat l).length) ∧ (nearS n.toNat l).length ≤ 10 ∧ 0 < (nearS n.toNat l).length ∧ n = ((nearS n.toNat l).length : Int) ∧ (nearS n.toNat l).length = n.toNat := by
  obtain ⟨h1, h2, h3, h4⟩ := h
  have hl := nearS_length n.toNat l
  refine ⟨by rw [hl]; exact nearS_lt h4, by omega, by omega, by omega, hl⟩
end Go.Proofs.YtbgpnkchbcgekaaDoor.Fi
end
section
namespace Go.Proofs.YtbgpnkchbcgekaaDoor.Fi
open Go.RowKit Go.Proofs.YtbgpnkchbcgekaaDoorW.PrintWords Go.Proofs.YtbgpnkchbcgekaaDoorW.PrintLast Go.Proofs.YtbgpnkchbcgekaaDoorW.PrintMore Wog
set_option linter.unusedVariables false
section
variable {nx : List Nat}
theorem more64 (hn : nx.length ≤ 10) (hx : ∀ x ∈ nx, x < 2 ^ nx.length) {B D : Nat} (hB : B < 2 ^ nx.length) (hD : D < 2 ^ nx.length) :
    Go.bits .andNot .i64 ((nb nx B : Nat) : Int) (Go.bits .or .i64 (B : Int) (D : Int)) = ((moreS nx B D : Nat) : Int) := by
  have h1 := lt1024 hn hB
  have h2 := lt1024 hn hD
  have h3 := lt1024 hn (nb_lt hx B)
  rw [or64 _ _ (by omega) (by omega), andNot64 _ _ (by omega) (by have := Nat.or_lt_two_pow h1 h2; omega)]
  congr 1
  apply Nat.eq_of_testBit_eq
  intro i
  rw [testBit_diff, moreS_bit, Nat.testBit_or, arnd, Nat.testBit_or]
  cases B.testBit i <;> cases D.testBit i <;> simp
end
end Go.Proofs.YtbgpnkchbcgekaaDoor.Fi
end
section
namespace Go.Proofs.YtbgpnkchbcgekaaDoor.Fi
open Go.RowKit Go.Proofs.YtbgpnkchbcgekaaDoorW.PrintWords Go.Proofs.YtbgpnkchbcgekaaDoorW.PrintLast Go.Proofs.YtbgpnkchbcgekaaDoorW.PrintMore Wog
set_option linter.unusedVariables false
section
variable {nx : List Nat}
theorem reachS_ball (hx : ∀ x ∈ nx, x < 2 ^ nx.length) {f : Nat} (hf : f < nx.length) : reachS nx 0 f = ball nx f nx.length := by
  unfold reachS
  rw [clo_ball hx hf]
  rfl
theorem conn_iff (hn : nx.length ≤ 10) (hx : ∀ x ∈ nx, x < 2 ^ nx.length) (h0 : 0 < nx.length) : popc 16 (reachS nx 0 0) < nx.length ↔ ¬ ball nx 0 nx.length = full nx.length := by
  have hl := ball_lt hx h0 nx.length
  have h1 := popc16_full (n := nx.length) (by omega) hl
  have h2 : popc 16 (ball nx 0 nx.length) ≤ nx.length := by rw [popc16 (by omega) hl]; exact popc_le_n _ _
  rw [reachS_ball hx h0]
  constructor
  · intro h h3; have := h1.2 h3; omega
  · intro h
    rcases Nat.lt_or_ge (popc 16 (ball nx 0 nx.length)) nx.length with h3 | h3
    · exact h3
    · exact absurd (h1.1 (by omega)) h
end
end Go.Proofs.YtbgpnkchbcgekaaDoor.Fi
end
section
namespace Go.Proofs.YtbgpnkchbcgekaaDoor.Fi
open Go.RowKit Go.Proofs.YtbgpnkchbcgekaaDoorW.PrintWords Go.Proofs.YtbgpnkchbcgekaaDoorW.PrintLast Go.Proofs.YtbgpnkchbcgekaaDoorW.PrintMore Wog
set_option linter.unusedVariables false
theorem GoodG.sym {n : Int} {l : List S42} (h : GoodG n l) : Sym (nearS n.toNat l) := near_sym h.2.2.2
end Go.Proofs.YtbgpnkchbcgekaaDoor.Fi
end
section
namespace Go.Proofs.YtbgpnkchbcgekaaDoor.Fi
open Go.RowKit Go.Proofs.YtbgpnkchbcgekaaDoorW.PrintWords Go.Proofs.YtbgpnkchbcgekaaDoorW.PrintLast Go.Proofs.YtbgpnkchbcgekaaDoorW.PrintMore Wog
set_option linter.unusedVariables false
section
variable {nx : List Nat}
theorem gfold_spec (B : Nat) : ∀ (l : List Int) (p : Int × Nat), p.2 ≤ (l.foldl (gstep nx B) p).2 ∧ (∀ v ∈ l, popc 16 (reachS nx B v.toNat) ≤ (l.foldl (gstep nx B) p).2) ∧ (l.foldl (gstep nx B) p = p ∨ ((l.foldl (gstep nx B) p).1 ∈ l ∧ (l.foldl (gstep nx B) p).2 = popc 16 (reachS nx B (l.foldl (gstep nx B) p).1.toNat))) := by
  intro l
  induction l with
  | nil => intro p; exact ⟨Nat.le_refl _, by simp, .inl rfl⟩
  | cons v l ih =>
    intro p
    rw [List.foldl_cons]
    obtain ⟨h1, h2, h3⟩ := ih (gstep nx B p v)
    have hs : p.2 ≤ (gstep nx B p v).2 ∧ popc 16 (reachS nx B v.toNat) ≤ (gstep nx B p v).2 ∧ (gstep nx B p v = p ∨ gstep nx B p v = (v, popc 16 (reachS nx B v.toNat))) := by
      unfold gstep
      split
      · rename_i hlt; exact ⟨Nat.le_of_lt hlt, Nat.le_refl _, .inr rfl⟩
      · rename_i hlt; exact ⟨Nat.le_refl _, by omega, .inl rfl⟩
    refine ⟨Nat.le_trans hs.1 h1, fun u hu => ?_, ?_⟩
    · rcases List.mem_cons.1 hu with rfl | hu
      · exact Nat.le_trans hs.2.1 h1
      · exact h2 u hu
    · rcases h3 with h3 | ⟨h3, h4⟩
      · rw [h3]
        rcases hs.2.2 with h5 | h5
        · exact .inl h5
        · rw [h5]; exact .inr ⟨by simp, rfl⟩
      · exact .inr ⟨by simp [h3], h4⟩
theorem mem10_of {s i : Nat} (hs : s < 2 ^ 10) (h : s.testBit i = true) : (i : Int) ∈ mem10 s := by
  unfold mem10
  exact List.mem_map.2 ⟨i, List.mem_filter.2 ⟨List.mem_range.2 (lt_of_bit hs h), h⟩, rfl⟩
theorem popc_pos {n x i : Nat} (hi : i < n) (h : x.testBit i = true) : 1 ≤ popc n x := by
  have := popc_lt_of (n := n) (a := 0) (b := x) (fun j hj => by simp at hj) hi (by simp) h
  omega
variable {f : Nat}
theorem more_edge (h : Tree nx) {B D a : Nat} (ha : (moreS nx B D).testBit a = true) : ∃ u, B.testBit u = true ∧ adj nx u a := by
  have haB := moreS_disjB (nx := nx) B D a ha
  rw [moreS_bit, Bool.and_eq_true, Bool.and_eq_true, arnd_bit_iff, haB] at ha
  rcases ha.1.1 with hu | ⟨u, _, h1, h2⟩
  · cases hu
  · exact ⟨u, h1, h2⟩
theorem more_reach (h : Tree nx) (hf : f < nx.length) {B D t a : Nat} (i : Inv nx f B D t) (ha : (moreS nx B D).testBit a = true) : reachS nx B a = behind nx f a := by
  obtain ⟨u, h1, h2⟩ := more_edge h ha
  exact h.reach_behind hf (i.conn h hf) (i.fB h hf) (i.lt h hf) (moreS_disjB (nx := nx) B D a ha) h1 h2
theorem more_ne (h : Tree nx) (hf : f < nx.length) {B D t a : Nat} (i : Inv nx f B D t) (ha : (moreS nx B D).testBit a = true) : a ≠ f := by
  rintro rfl
  have := moreS_disjB (nx := nx) B D a ha
  rw [i.fB h hf] at this
  cases this
/-- The choice: none if nothing is threatened, else one with the most behind it. -/
theorem gpick_spec (h : Tree nx) (hf : f < nx.length) {B D t : Nat} (i : Inv nx f B D t) : ((gpick nx B D).1 < 0 ∧ moreS nx B D = 0) ∨ ∃ v : Nat, (gpick nx B D).1 = (v : Int) ∧ (moreS nx B D).testBit v = true ∧ ∀ a, (moreS nx B D).testBit a = true → popc 16 (behind nx f a) ≤ popc 16 (behind nx f v) := by
  have hMl := moreS_lt h.rows (i.lt h hf) D
  obtain ⟨h1, h2, h3⟩ := gfold_spec (nx := nx) B (mem10 (moreS nx B D)) (-1, 0)
  have hg : (mem10 (moreS nx B D)).foldl (gstep nx B) (-1, 0) = gpick nx B D := rfl
  rw [hg] at h1 h2 h3
  rcases h3 with h3 | ⟨h3, h4⟩
  · left
    rw [h3] at h2 ⊢
    refine ⟨by show (-1 : Int) < 0; omega, zero_of_bits (fun a => ?_)⟩
    cases ha : (moreS nx B D).testBit a with
    | false => rfl
    | true =>
      have h5 := h2 (a : Int) (mem10_of (lt1024 h.len hMl) ha)
      have haB := moreS_disjB (nx := nx) B D a ha
      have hal := lt_of_bit hMl ha
      have h6 := popc_pos (n := 16) (by have := h.len; omega) (reach_start h.rows hal haB)
      rw [Int.toNat_natCast] at h5
      have h7 : popc 16 (reachS nx B a) ≤ 0 := h5
      omega
  · right
    obtain ⟨v, hv, hv10, hvM⟩ := mem10_mem h3
    refine ⟨v, hv, hvM, fun a ha => ?_⟩
    have h5 := h2 (a : Int) (mem10_of (lt1024 h.len hMl) ha)
    rw [h4, hv, Int.toNat_natCast, Int.toNat_natCast, more_reach h hf i ha, more_reach h hf i hvM] at h5
    exact h5
/-- The next state. -/
theorem greedy_next (h : Tree nx) (hf : f < nx.length) {B D t v : Nat} (i : Inv nx f B D t) (hv : (moreS nx B D).testBit v = true) : v < nx.length ∧ B.testBit v = false ∧ D.testBit v = false ∧ B ||| moreS nx B (D ||| 2 ^ v) = diff (arnd nx B) (D ||| 2 ^ v) ∧ Inv nx f (diff (arnd nx B) (D ||| 2 ^ v)) (D ||| 2 ^ v) (t + 1) := by
  have hvl := lt_of_bit (moreS_lt h.rows (i.lt h hf) D) hv
  have hvB := moreS_disjB (nx := nx) B D v hv
  have hvD := moreS_disj (nx := nx) B D v hv
  have he := step_eq (nx := nx) (disj_or (i.disj h hf) (disj_one hvB))
  refine ⟨hvl, hvB, hvD, he, ?_⟩
  have := i.step h hf hvl hvB hvD
  rwa [he] at this
theorem greedyF_some (h : Tree nx) (hf : f < nx.length) : ∀ (m B D t : Nat), Inv nx f B D t → zer nx.length D ≤ m → ∃ q, greedyF nx (m + 1) B D = some q := by
  intro m
  induction m with
  | zero =>
    intro B D t i hz
    rcases gpick_spec h hf i with ⟨h1, _⟩ | ⟨v, h1, h2, _⟩
    · exact ⟨_, by rw [greedyF, if_pos h1]⟩
    · exfalso
      obtain ⟨hvl, _, hvD, _⟩ := greedy_next h hf i h2
      have := countP_lt (l := List.range nx.length) (p := fun _ => false) (q := fun i => !D.testBit i) (j := v) (by simp) (List.mem_range.2 hvl) rfl (by simp [hvD])
      unfold zer at hz
      omega
  | succ m ih =>
    intro B D t i hz
    rcases gpick_spec h hf i with ⟨h1, _⟩ | ⟨v, h1, h2, _⟩
    · exact ⟨_, by rw [greedyF, if_pos h1]⟩
    · obtain ⟨hvl, hvB, hvD, _, hi'⟩ := greedy_next h hf i h2
      have hzl : zer nx.length (D ||| 2 ^ v) < zer nx.length D := by
        refine zer_lt (fun j hj => by rw [Nat.testBit_or, hj]; rfl) i.dlt hi'.dlt (fun e => ?_)
        have h2 : (D ||| 2 ^ v).testBit v = true := by rw [Nat.testBit_or, testBit_two_pow]; simp
        rw [e, hvD] at h2
        cases h2
      obtain ⟨q, hq⟩ := ih _ _ (t + 1) hi' (by omega)
      refine ⟨(q.1, (v : Int) :: q.2), ?_⟩
      rw [greedyF, if_neg (by rw [h1]; omega), h1, Int.toNat_natCast, hq]
      rfl
end
end Go.Proofs.YtbgpnkchbcgekaaDoor.Fi
end
section
namespace Go.Proofs.YtbgpnkchbcgekaaDoor.Fi
open Go.RowKit Go.Proofs.YtbgpnkchbcgekaaDoorW.PrintWords Go.Proofs.YtbgpnkchbcgekaaDoorW.PrintLast Go.Proofs.YtbgpnkchbcgekaaDoorW.PrintMore Wog
set_option linter.unusedVariables false
theorem endsS_sum {nx : List Nat} (hn : nx.length ≤ 10) (hx : ∀ x ∈ nx, x < 2 ^ nx.length) : endsS nx nx.length = sumR nx.length (fun a => popc nx.length (nx.getD a 0)) := by
  unfold endsS sumR
  rw [List.take_length]
  congr 1
  refine List.ext_getElem (by simp) (fun i h1 h2 => ?_)
  simp only [List.getElem_map, List.getElem_range]
  have hi : i < nx.length := by simpa using h1
  rw [List.getD_eq_getElem?_getD, List.getElem?_eq_getElem hi, Option.getD_some, popc16 (by omega) (hx _ (List.getElem_mem hi))]
theorem tree_of {n : Int} {l : List S42} (hg : GoodG n l) (ht : treeS (nearS n.toNat l) = true) : Tree (nearS n.toNat l) := by
  obtain ⟨hx, hn10, hn0, hnn, hnl⟩ := hg.rows
  unfold treeS at ht
  rw [Bool.and_eq_true, decide_eq_true_iff, decide_eq_true_iff] at ht
  refine ⟨hx, hn10, hn0, hg.sym, fun a ha => ?_, ?_, ?_⟩
  · have := near_irr hg.2.2.2 a
    unfold adj at ha
    rw [ha] at this
    cases this
  · have hl := ball_lt hx hn0 (nearS n.toNat l).length
    rw [← popc16_full (by omega) hl, ← reachS_ball hx hn0]
    exact ht.2
  · rw [← endsS_sum hn10 hx]; exact ht.1
/-- The i-th edge leads from the vertex i + 1 to one before it. -/
def Grown (l : List S42) : Prop := ∀ (i : Nat) (e : S42), l[i]? = some e → 0 ≤ e.f0 ∧ e.f0 ≤ (i : Int) ∧ e.f1 = ((i + 1 : Nat) : Int)
/-- What Greedy returns on a tree. -/
theorem greedy_res {n : Int} {l : List S42} {f : Int} (hP : PlayOk n l f) (ht : treeS (nearS n.toNat l) = true) : ∃ q, greedyF (nearS n.toNat l) (n.toNat + 1) (2 ^ f.toNat) 0 = some q ∧ fire_Greedy.f n l f = some (q.1, q.2, 0) := by
  have hT := tree_of hP.1 ht
  obtain ⟨hx, hn10, hn0, hnn, hnl⟩ := hP.1.rows
  have hf : f.toNat < (nearS n.toNat l).length := by have := hP.2; omega
  obtain ⟨q, hq⟩ := greedyF_some hT hf (nearS n.toNat l).length _ _ 0 (Inv.start hT hf) (zer_le _ _)
  have hq' : greedyF (nearS n.toNat l) (n.toNat + 1) (2 ^ f.toNat) 0 = some q := by
    have e : (nearS n.toNat l).length + 1 = n.toNat + 1 := by omega
    rw [← e]; exact hq
  refine ⟨q, hq', ?_⟩
  unfold fire_Greedy.f
  rw [if_pos hP, if_pos ht, hq']
  rfl
end Go.Proofs.YtbgpnkchbcgekaaDoor.Fi
end
section
namespace Go.Proofs.YtbgpnkchbcgekaaDoor.Fi
open Go.RowKit Go.Proofs.YtbgpnkchbcgekaaDoorW.PrintWords Go.Proofs.YtbgpnkchbcgekaaDoorW.PrintLast Go.Proofs.YtbgpnkchbcgekaaDoorW.PrintMore Wog
set_option linter.unusedVariables false
section
variable {nx : List Nat} {f : Nat}
def itA (nx : List Nat) (D : Nat) : Nat → Nat → Nat
  | 0, s => s
  | k + 1, s => itA nx D k (diff (arnd nx s) D)
theorem itA_fix {D s : Nat} (h : diff (arnd nx s) D = s) : ∀ k, itA nx D k s = s
  | 0 => rfl
  | k + 1 => by rw [itA, h]; exact itA_fix h k
theorem itA_clo {D : Nat} : ∀ (k s R : Nat), cloF nx D (k + 1) s = some R → itA nx D k s = R := by
  intro k
  induction k with
  | zero =>
    intro s R h
    rw [cloF] at h
    split at h
    · exact Option.some.inj h
    · cases h
  | succ k ih =>
    intro s R h
    rw [cloF] at h
    split at h
    · rename_i e
      obtain rfl := Option.some.inj h
      exact itA_fix e (k + 1)
    · exact ih _ _ h
theorem rbehind_ev (hn : nx.length ≤ 10) (hx : ∀ x ∈ nx, x < 2 ^ nx.length) (hf : f < nx.length) {v : Nat} (hv : v < nx.length) (hvf : v ≠ f) : Ev (fun k => woggleref06_Behind.f k (toI nx) (f : Int) (v : Int)) ((behind nx f v : Nat) : Int) := by
  have hA : itA nx (2 ^ v) nx.length (2 ^ f) = frontA nx f v := itA_clo _ _ _ (reach_is hx hf (pow_ne hvf)).1
  have hp := Nat.pow_lt_pow_right (show 1 < 2 by omega) hv
  have key : ∀ (d i s : Nat), i + d = nx.length → s < 2 ^ nx.length → disj s (2 ^ v) → itA nx (2 ^ v) d s = frontA nx f v → Ev (fun k => woggleref06_Behind.l0 k (toI nx) (v : Int) (s : Int) (i : Int)) ((behind nx f v : Nat) : Int) := by
    intro d
    induction d with
    | zero =>
      intro i s hi hs hd hit
      have hit' : s = frontA nx f v := hit
      subst hit'
      refine Ev.step (f := fun _ => some ((behind nx f v : Nat) : Int)) (fun k => ?_) (Ev.now _)
      simp only [woggleref06_Behind.l0]
      have h1 := lt1024 hn hs
      have h2 := lt1024 hn (full_lt nx.length)
      rw [if_neg (by rw [toI_length]; omega), toI_length, full64 hn, andNot64 _ _ (by omega) (by omega)]
      rfl
    | succ d ih =>
      intro i s hi hs hd hit
      have h1 := lt1024 hn hs
      have hnb := nb_lt hx s
      have h2 := lt1024 hn hnb
      have h3 := lt1024 hn hp
      have h4 := lt1024 hn (diff_le (nb nx s) (2 ^ v) _ hnb)
      have he : s ||| diff (nb nx s) (2 ^ v) = diff (arnd nx s) (2 ^ v) := by
        apply Nat.eq_of_testBit_eq
        intro j
        rw [Nat.testBit_or, testBit_diff, testBit_diff, arnd, Nat.testBit_or]
        cases hj : s.testBit j with
        | true => rw [hd j hj]; rfl
        | false => simp
      refine Ev.step (f := fun k => (woggleref06_around.f k (toI nx) (s : Int)).bind fun t => woggleref06_Behind.l0 k (toI nx) (v : Int) (Go.bits .or .i64 (s : Int) (Go.bits .andNot .i64 t ((2 ^ v : Nat) : Int))) ((i + 1 : Nat) : Int)) (fun k => ?_) ?_
      · simp only [woggleref06_Behind.l0]
        rw [if_pos (by rw [toI_length]; omega)]
        congr 1
        funext t
        rw [if_pos (by omega), shl64 v (by omega), wrapS (by omega)]
      · refine Ev.bind (raround_ev nx _ hn hx hs) ?_
        rw [andNot64 _ _ (by omega) (by omega), or64 _ _ (by omega) (by omega), he]
        exact ih (i + 1) _ (by omega) (diff_le _ _ _ (arnd_lt hx hs)) (disj_diff _ _) hit
  have h := key nx.length 0 (2 ^ f) (by omega) (Nat.pow_lt_pow_right (by omega) hf) (fun j hj => by
    rw [testBit_two_pow] at hj
    rw [← (by simpa using hj : f = j)]
    exact pow_ne hvf) hA
  unfold woggleref06_Behind.f
  simp only [if_pos (show 0 ≤ (f : Int) by omega), shl64 f (by omega)]
  exact h
theorem risTree_ev (hn : nx.length ≤ 10) (hx : ∀ x ∈ nx, x < 2 ^ nx.length) (h0 : 0 < nx.length) : Ev (fun k => woggleref06_IsTree.f k (toI nx)) (treeS nx) := by
  have key : ∀ (d i : Nat), i + d = nx.length → Ev (fun k => woggleref06_IsTree.l0 k (toI nx) ((endsS nx i : Nat) : Int) (i : Int)) (treeS nx) := by
    intro d
    induction d with
    | zero =>
      intro i hi
      obtain rfl : i = nx.length := by omega
      have hel := endsS_le nx nx.length
      refine Ev.step (f := fun k => (woggleref06_Connected.f k (toI nx)).bind fun t => if t = true then some (decide (endsS nx nx.length = 2 * (nx.length - 1))) else some false) (fun k => ?_) ?_
      · simp only [woggleref06_IsTree.l0]
        rw [if_neg (by rw [toI_length]; omega), toI_length]
        congr 1
        funext t
        congr 2
        have hw : wrap64 (2 * wrap64 ((nx.length : Int) - 1)) = ((2 * (nx.length - 1) : Nat) : Int) := by unfold wrap64; omega
        rw [hw, Bool.eq_iff_iff]
        simp
        omega
      · refine Ev.bind (rconnected_ev hn hx h0) ?_
        have hc := conn_iff hn hx h0
        have hp := popc16_full (n := nx.length) (by omega) (ball_lt hx h0 nx.length)
        unfold treeS
        rw [reachS_ball hx h0]
        by_cases hb : ball nx 0 nx.length = full nx.length
        · rw [decide_eq_true hb, decide_eq_true (hp.2 hb), Bool.and_true]
          simp only [if_true]
          exact Ev.now _
        · rw [decide_eq_false hb, decide_eq_false (fun h => hb (hp.1 h)), Bool.and_false]
          simp only [Bool.false_eq_true, if_false]
          exact Ev.now _
    | succ d ih =>
      intro i hi
      have hil : i < nx.length := by omega
      have hel := endsS_le nx i
      have hrow := hx _ (List.getElem_mem hil)
      have hpl : popc 16 nx[i] ≤ 16 := popc_le16 _
      refine Ev.step (f := fun k => (woggleref06_Size.f k ((nx[i] : Nat) : Int)).bind fun t => woggleref06_IsTree.l0 k (toI nx) (wrap64 (((endsS nx i : Nat) : Int) + t)) ((i + 1 : Nat) : Int)) (fun k => ?_) ?_
      · simp only [woggleref06_IsTree.l0]
        rw [if_pos (by rw [toI_length]; omega), if_pos (by omega), toI_rd nx i hil, wrapS (by omega)]
      · refine Ev.bind (rsize_ev _ (lt1024 hn hrow)) ?_
        have he : wrap64 (((endsS nx i : Nat) : Int) + ((popc 16 nx[i] : Nat) : Int)) = ((endsS nx (i + 1) : Nat) : Int) := by
          rw [endsS_succ nx i hil, List.getD_eq_getElem?_getD, List.getElem?_eq_getElem hil, Option.getD_some]
          unfold wrap64
          omega
        rw [he]
        exact ih (i + 1) (by omega)
  have h := key nx.length 0 (by omega)
  exact h
/-- The reference's choice. -/
def rst (w : Nat → Nat) (T : Nat) (b : Int) (v : Nat) : Int := if T.testBit v = true then (if b < 0 then (v : Int) else if w v > w b.toNat then (v : Int) else b) else b
theorem rst_gstep {B T : Nat} {w : Nat → Nat} (hw : ∀ v, T.testBit v = true → popc 16 (reachS nx B v) = w v ∧ 1 ≤ w v) : ∀ (L : List Nat) (b : Int) (s : Nat), ((b = -1 ∧ s = 0) ∨ ∃ c : Nat, b = (c : Int) ∧ T.testBit c = true ∧ s = w c) →
    (((L.filter (fun i => T.testBit i)).map fun (i : Nat) => (i : Int)).foldl (gstep nx B) (b, s)).1 = L.foldl (rst w T) b ∧ (L.foldl (rst w T) b = -1 ∨ ∃ c : Nat, L.foldl (rst w T) b = (c : Int) ∧ T.testBit c = true) := by
  intro L
  induction L with
  | nil =>
    intro b s hb
    refine ⟨rfl, ?_⟩
    rcases hb with ⟨h, _⟩ | ⟨c, h, h2, _⟩
    · exact .inl h
    · exact .inr ⟨c, h, h2⟩
  | cons v L ih =>
    intro b s hb
    rw [List.foldl_cons, List.filter_cons]
    by_cases hT : T.testBit v = true
    · rw [if_pos hT, List.map_cons, List.foldl_cons]
      obtain ⟨h1, h2⟩ := hw v hT
      have hgs : gstep nx B (b, s) (v : Int) = if s < w v then ((v : Int), w v) else (b, s) := by unfold gstep; rw [Int.toNat_natCast, h1]
      have hrs : rst w T b v = if b < 0 then (v : Int) else if w v > w b.toNat then (v : Int) else b := by unfold rst; rw [if_pos hT]
      rw [hgs, hrs]
      rcases hb with ⟨hb, hs⟩ | ⟨c, hb, hc, hs⟩
      · subst hb hs
        rw [if_pos (by omega), if_pos (by omega)]
        exact ih _ _ (.inr ⟨v, rfl, hT, rfl⟩)
      · subst hb hs
        rw [if_neg (show ¬ (c : Int) < 0 by omega), Int.toNat_natCast]
        by_cases hq : w c < w v
        · rw [if_pos hq, if_pos hq]
          exact ih _ _ (.inr ⟨v, rfl, hT, rfl⟩)
        · rw [if_neg hq, if_neg hq]
          exact ih _ _ (.inr ⟨c, rfl, hc, rfl⟩)
    · rw [if_neg hT]
      have hrs : rst w T b v = b := by unfold rst; rw [if_neg hT]
      rw [hrs]
      exact ih b s hb
theorem rst_more {w : Nat → Nat} {T n : Nat} (hT : T < 2 ^ n) (b : Int) : ∀ d, (List.range (n + d)).foldl (rst w T) b = (List.range n).foldl (rst w T) b := by
  intro d
  induction d with
  | zero => rfl
  | succ d ih =>
    rw [← Nat.add_assoc, List.range_succ, List.foldl_append, ih]
    show rst w T _ (n + d) = _
    unfold rst
    rw [if_neg]
    rw [Nat.testBit_lt_two_pow (Nat.lt_of_lt_of_le hT (Nat.pow_le_pow_right (by omega) (by omega)))]
    simp
theorem gpick_rst (h : Tree nx) (hf : f < nx.length) {B D t : Nat} (i : Inv nx f B D t) : (gpick nx B D).1 = (List.range nx.length).foldl (rst (fun v => popc 16 (behind nx f v)) (moreS nx B D)) (-1) ∧ ∀ v, v ≤ nx.length → ((List.range v).foldl (rst (fun v => popc 16 (behind nx f v)) (moreS nx B D)) (-1) = -1 ∨ ∃ c : Nat, (List.range v).foldl (rst (fun v => popc 16 (behind nx f v)) (moreS nx B D)) (-1) = (c : Int) ∧ (moreS nx B D).testBit c = true) := by
  have hMl := moreS_lt h.rows (i.lt h hf) D
  have hw : ∀ v, (moreS nx B D).testBit v = true → popc 16 (reachS nx B v) = popc 16 (behind nx f v) ∧ 1 ≤ popc 16 (behind nx f v) := by
    intro v hv
    have hvl := lt_of_bit hMl hv
    exact ⟨by rw [more_reach h hf i hv], popc_pos (n := 16) (by have := h.len; omega) (behind_self h.rows hf (more_ne h hf i hv) hvl)⟩
  refine ⟨?_, fun v _ => (rst_gstep hw (List.range v) (-1) 0 (.inl ⟨rfl, rfl⟩)).2⟩
  have h1 := (rst_gstep hw (List.range 10) (-1) 0 (.inl ⟨rfl, rfl⟩)).1
  have h2 := rst_more (w := fun v => popc 16 (behind nx f v)) hMl (-1) (10 - nx.length)
  rw [show nx.length + (10 - nx.length) = 10 by have := h.len; omega] at h2
  rw [h2] at h1
  exact h1
theorem rgreedy_l0 (h : Tree nx) (hf : f < nx.length) : ∀ (k B D t : Nat) (q : Int × List Int) (out : List Int), Inv nx f B D t → greedyF nx k B D = some q → out.length + k ≤ 100 → Ev (fun K => woggleref06_Greedy.l0 K (toI nx) (f : Int) (B : Int) (D : Int) out) (q.1, out ++ q.2) := by
  have hn := h.len
  have hx := h.rows
  intro k
  induction k with
  | zero => intro B D t q out _ hq; cases hq
  | succ k ih =>
    intro B D t q out i hq hol
    have hB := i.lt h hf
    have hD := i.dlt
    have hM := moreS_lt hx hB D
    have b1 := lt1024 hn hB
    have b2 := lt1024 hn hD
    have b3 := lt1024 hn hM
    obtain ⟨T, hT⟩ : ∃ T, T = moreS nx B D := ⟨_, rfl⟩
    obtain ⟨hpick, hinv⟩ := gpick_rst h hf i
    obtain ⟨w, hw⟩ : ∃ w, w = fun v => popc 16 (behind nx f v) := ⟨_, rfl⟩
    rw [← hT, ← hw] at hpick hinv
    rw [← hT] at hM b3
    refine Ev.step (f := fun K => (woggleref06_around.f K (toI nx) (B : Int)).bind fun t503 => woggleref06_Greedy.l1 K (toI nx) (f : Int) (B : Int) (D : Int) out (Go.bits .andNot .i64 t503 (Go.bits .or .i64 (B : Int) (D : Int))) (-1) ((0 : Nat) : Int)) (fun K => by simp only [woggleref06_Greedy.l0]; rfl) ?_
    refine Ev.bind (raround_ev nx _ hn hx hB) ?_
    rw [more64 hn hx hB hD, ← hT]
    have key : ∀ (d v : Nat), v + d = nx.length → Ev (fun K => woggleref06_Greedy.l1 K (toI nx) (f : Int) (B : Int) (D : Int) out (T : Int) ((List.range v).foldl (rst w T) (-1)) (v : Int)) (q.1, out ++ q.2) := by
      intro d
      induction d with
      | zero =>
        intro v hv
        obtain rfl : v = nx.length := by omega
        rw [← hpick]
        rw [greedyF] at hq
        rcases gpick_spec h hf i with ⟨h1, h0⟩ | ⟨c, h1, h2, _⟩
        · rw [if_pos h1] at hq
          obtain rfl := Option.some.inj hq
          have hp : popc 16 B ≤ 16 := popc_le16 B
          refine Ev.step (f := fun K => (woggleref06_Size.f K (B : Int)).bind fun t504 => some (wrap64 ((nx.length : Int) - t504), out)) (fun K => ?_) ?_
          · simp only [woggleref06_Greedy.l1]
            rw [if_neg (by rw [toI_length]; omega), if_pos h1, toI_length]
          · refine Ev.bind (rsize_ev B b1) ?_
            have : wrap64 ((nx.length : Int) - ((popc 16 B : Nat) : Int)) = (nx.length : Int) - ((popc 16 B : Nat) : Int) := by unfold wrap64; omega
            rw [this, List.append_nil]
            exact Ev.now _
        · rw [if_neg (by rw [h1]; omega), h1, Int.toNat_natCast] at hq
          obtain ⟨q', hq', rfl⟩ := Option.map_eq_some_iff.1 hq
          obtain ⟨hcl, hcB, hcD, he, hi'⟩ := greedy_next h hf i h2
          have b4 : 2 ^ c < 2 ^ 10 := Nat.pow_lt_pow_right (by omega) (by omega)
          have b5 : diff T (2 ^ c) < 2 ^ 10 := diff_le _ _ _ b3
          have hst : B ||| diff T (2 ^ c) = diff (arnd nx B) (D ||| 2 ^ c) := by
            rw [← he, hT]
            apply Nat.eq_of_testBit_eq
            intro j
            rw [Nat.testBit_or, Nat.testBit_or, testBit_diff, moreS_bit, moreS_bit, Nat.testBit_or]
            cases (arnd nx B).testBit j <;> cases B.testBit j <;> cases D.testBit j <;> simp
          refine Ev.step (f := fun K => woggleref06_Greedy.l0 K (toI nx) (f : Int) ((diff (arnd nx B) (D ||| 2 ^ c) : Nat) : Int) ((D ||| 2 ^ c : Nat) : Int) (out ++ [(c : Int)])) (fun K => ?_) ?_
          · simp only [woggleref06_Greedy.l1]
            rw [if_neg (by rw [toI_length]; omega), h1, if_neg (by omega), if_pos (by omega), if_pos (by omega), shl64 c (by omega), andNot64 _ _ (by omega) (by omega), or64 _ _ (by omega) (by omega), or64 _ _ (by omega) (by omega), hst]
          · have := ih _ _ (t + 1) q' (out ++ [(c : Int)]) hi' hq' (by simp; omega)
            simpa using this
      | succ d ihd =>
        intro v hv
        have hvl : v < nx.length := by omega
        have hih := ihd (v + 1) (by omega)
        rw [List.range_succ, List.foldl_append] at hih
        have hih' : Ev (fun K => woggleref06_Greedy.l1 K (toI nx) (f : Int) (B : Int) (D : Int) out (T : Int) (rst w T ((List.range v).foldl (rst w T) (-1)) v) ((v + 1 : Nat) : Int)) (q.1, out ++ q.2) := hih
        have hbv := hinv v (by omega)
        obtain ⟨b, hb⟩ : ∃ b, b = (List.range v).foldl (rst w T) (-1) := ⟨_, rfl⟩
        rw [← hb] at hih' hbv ⊢
        have hhas := has64 T v (by omega)
        by_cases hTv : T.testBit v = true
        · have hvf : v ≠ f := by
            rw [hT] at hTv
            exact more_ne h hf i hTv
          rcases hbv with hb1 | ⟨c, hb1, hc⟩
          · have hr : rst w T b v = (v : Int) := by unfold rst; rw [if_pos hTv, if_pos (by omega)]
            rw [hr] at hih'
            refine Ev.step (fun K => ?_) hih'
            simp only [woggleref06_Greedy.l1]
            rw [if_pos (by rw [toI_length]; omega), if_pos (by omega), hhas, if_pos (by rw [hTv]; rfl), if_pos (by omega), wrapS (by omega)]
          · subst hb1
            have hcf : c ≠ f := by
              rw [hT] at hc
              exact more_ne h hf i hc
            have hcl : c < nx.length := lt_of_bit hM hc
            refine Ev.step (f := fun K => (woggleref06_Behind.f K (toI nx) (f : Int) (v : Int)).bind fun t508 => (woggleref06_Size.f K t508).bind fun t509 => (woggleref06_Behind.f K (toI nx) (f : Int) (c : Int)).bind fun t510 => (woggleref06_Size.f K t510).bind fun t511 => if t509 > t511 then woggleref06_Greedy.l1 K (toI nx) (f : Int) (B : Int) (D : Int) out (T : Int) (v : Int) ((v + 1 : Nat) : Int) else woggleref06_Greedy.l1 K (toI nx) (f : Int) (B : Int) (D : Int) out (T : Int) (c : Int) ((v + 1 : Nat) : Int)) (fun K => ?_) ?_
            · simp only [woggleref06_Greedy.l1]
              rw [if_pos (by rw [toI_length]; omega), if_pos (by omega), hhas, if_pos (by rw [hTv]; rfl), if_neg (by omega), wrapS (by omega)]
            · refine Ev.bind (rbehind_ev hn hx hf hvl hvf) ?_
              refine Ev.bind (rsize_ev _ (lt1024 hn (behind_lt v))) ?_
              refine Ev.bind (rbehind_ev hn hx hf hcl hcf) ?_
              refine Ev.bind (rsize_ev _ (lt1024 hn (behind_lt c))) ?_
              have hr : rst w T (c : Int) v = if popc 16 (behind nx f v) > popc 16 (behind nx f c) then (v : Int) else (c : Int) := by
                unfold rst
                rw [if_pos hTv, if_neg (by omega), hw, Int.toNat_natCast]
              rw [hr] at hih'
              by_cases hq2 : popc 16 (behind nx f v) > popc 16 (behind nx f c)
              · have hq3 : ((popc 16 (behind nx f v) : Nat) : Int) > ((popc 16 (behind nx f c) : Nat) : Int) := by omega
                rw [if_pos hq2] at hih'
                simp only [if_pos hq3]
                exact hih'
              · have hq3 : ¬ ((popc 16 (behind nx f v) : Nat) : Int) > ((popc 16 (behind nx f c) : Nat) : Int) := by omega
                rw [if_neg hq2] at hih'
                simp only [if_neg hq3]
                exact hih'
        · have hr : rst w T b v = b := by unfold rst; rw [if_neg hTv]
          rw [hr] at hih'
          refine Ev.step (fun K => ?_) hih'
          simp only [woggleref06_Greedy.l1]
          rw [if_pos (by rw [toI_length]; omega), if_pos (by omega), hhas, if_neg (by rw [Bool.not_eq_true] at hTv; rw [hTv]; simp), wrapS (by omega)]
    have h := key nx.length 0 (by omega)
    exact h
end
theorem FireGreedies_ev (n : Int) (l : List S42) (f : Int) (hn : n < 2 ^ 63) (_hf : (Lit.int .i64 f).wf = true) : Ev (fun k => wogglelaw06_FireGreedies.f k n l f) true := by
  unfold wogglelaw06_FireGreedies.f
  simp only [few_is, Option.bind_some]
  obtain ⟨e, he⟩ : ∃ e, e = l.take 61 := ⟨_, rfl⟩
  have hel : e.length ≤ 61 := by rw [he]; simp; omega
  rw [← he]
  clear he
  have hG := graph_ev n e (by omega) hn
  have bad : ∀ (r : Int), r ≠ 0 → Ev (fun k => wogglelaw06_FireGreedies.j1 k f n e 0 [] r r) true := by
    intro r hr
    refine Ev.step (f := fun k => (wogglelaw06_lives.f k).bind fun t => some t) (fun k => ?_) lives_then
    simp only [wogglelaw06_FireGreedies.j1]
    rw [if_neg hr]
    simp
  by_cases hg : PlayOk n e f
  · rw [decide_eq_true hg.1] at hG
    obtain ⟨hx, hn10, hn0, hnn, hnl⟩ := hg.1.rows
    have hf1 : ¬ f < 0 := by have := hg.2.1; omega
    have hf2 : decide (f ≥ n) = false := decide_eq_false (by have := hg.2.2; omega)
    by_cases ht : treeS (nearS n.toNat e) = true
    · obtain ⟨q, hq, hG2⟩ := greedy_res hg ht
      have hT := tree_of hg.1 ht
      have hfl : f.toNat < (nearS n.toNat e).length := by have := hg.2; omega
      rw [hG2]
      simp only [Option.bind_some]
      refine Ev.bind hG ?_
      simp only [if_true, if_neg hf1, hf2]
      refine Ev.step (f := fun k => (woggleref06_Near.f k n e).bind fun t523 => (woggleref06_IsTree.f k t523).bind fun t526 => if t526 = true then wogglelaw06_FireGreedies.j1 k f n e q.1 q.2 0 0 else wogglelaw06_FireGreedies.j1 k f n e q.1 q.2 0 5) (fun k => by simp only [wogglelaw06_FireGreedies.j0, Bool.false_eq_true, if_false]) ?_
      refine Ev.bind (near_ev n e hg.1) ?_
      refine Ev.bind (risTree_ev hn10 hx hn0) ?_
      rw [ht]
      simp only [if_true]
      refine Ev.step (f := fun k => (woggleref06_Near.f k n e).bind fun t528 => (woggleref06_Greedy.f k t528 f).bind fun bt531 => if q.1 = bt531.1 then (woggleref01_Same.f k q.2 bt531.2).bind fun t535 => if t535 = true then (wogglelaw06_lives.f k).bind fun t536 => some t536 else some false else some false) (fun k => by simp only [wogglelaw06_FireGreedies.j1, if_true]) ?_
      refine Ev.bind (near_ev n e hg.1) ?_
      have hr := rgreedy_l0 hT hfl (n.toNat + 1) _ _ 0 q [] (Inv.start hT hfl) hq (by simp; omega)
      have hs : shl .i64 1 f = ((2 ^ f.toNat : Nat) : Int) := by
        have := shl64 f.toNat (by omega)
        rwa [Int.toNat_of_nonneg hg.2.1] at this
      rw [Int.toNat_of_nonneg hg.2.1, List.nil_append] at hr
      have hr2 : Ev (fun k => woggleref06_Greedy.f k (toI (nearS n.toNat e)) f) (q.1, q.2) := by
        unfold woggleref06_Greedy.f
        simp only [if_pos hg.2.1, hs]
        exact hr
      refine Ev.bind hr2 ?_
      simp only [if_true]
      have hql : q.2.length ≤ 1000 := by
        have : ∀ (k B D : Nat) (r : Int × List Int), greedyF (nearS n.toNat e) k B D = some r → r.2.length ≤ k := by
          intro k
          induction k with
          | zero => intro B D r h; cases h
          | succ k ih =>
            intro B D r h
            rw [greedyF] at h
            split at h
            · obtain rfl := Option.some.inj h; simp
            · obtain ⟨r', h1, rfl⟩ := Option.map_eq_some_iff.1 h
              have := ih _ _ _ h1
              simp
              omega
        have := this _ _ _ _ hq
        omega
      refine Ev.bind (same_ev q.2 (by omega)) ?_
      simp only [if_true]
      exact lives_then
    · have hG2 : fire_Greedy.f n e f = some (0, [], 5) := by
        unfold fire_Greedy.f
        rw [if_pos hg, if_neg ht]
      rw [hG2]
      simp only [Option.bind_some]
      refine Ev.bind hG ?_
      simp only [if_true, if_neg hf1, hf2]
      refine Ev.step (f := fun k => (woggleref06_Near.f k n e).bind fun t523 => (woggleref06_IsTree.f k t523).bind fun t526 => if t526 = true then wogglelaw06_FireGreedies.j1 k f n e 0 [] 5 0 else wogglelaw06_FireGreedies.j1 k f n e 0 [] 5 5) (fun k => by simp only [wogglelaw06_FireGreedies.j0, Bool.false_eq_true, if_false]) ?_
      refine Ev.bind (near_ev n e hg.1) ?_
      refine Ev.bind (risTree_ev hn10 hx hn0) ?_
      simp only [if_neg ht]
      exact bad 5 (by omega)
  · have hG2 : fire_Greedy.f n e f = some (0, [], 1) := by
      unfold fire_Greedy.f
      rw [if_neg hg]
    rw [hG2]
    simp only [Option.bind_some]
    refine Ev.bind hG ?_
    have bad0 : Ev (fun k => wogglelaw06_FireGreedies.j0 k f n e 0 [] 1 0 true) true := by
      refine Ev.step (f := fun k => wogglelaw06_FireGreedies.j1 k f n e 0 [] 1 1) (fun k => ?_) (bad 1 (by omega))
      simp only [wogglelaw06_FireGreedies.j0, if_true]
    by_cases h1 : GoodG n e
    · simp only [h1, decide_true, if_true]
      by_cases h2 : f < 0
      · simp only [if_pos h2]; exact bad0
      · have hge : decide (f ≥ n) = true := by
          have : ¬ (f < n) := fun h => hg ⟨h1, by omega, h⟩
          simp; omega
        simp only [if_neg h2, hge]
        exact bad0
    · simp only [h1, decide_false, Bool.false_eq_true, if_false]
      exact bad0
end Go.Proofs.YtbgpnkchbcgekaaDoor.Fi
end
