/- Texts of this claim, joined: P5, P6, P7, P8, L1, L2, L3 -/
import Derived.Test.YtbgpnkchbcgekaaDoorQFpP4
import Derived.Test.YtbgpnkchbcgekaaDoorQFpFi2
import Derived.Test.YtbgpnkchbcgekaaDoorQFpFi4
import Derived.Test.YtbgpnkchbcgekaaDoorQFpHc2
import Derived.Test.YtbgpnkchbcgekaaDoorQFpHbr
import Derived.Test.YtbgpnkchbcgekaaDoorQFpS6
import Derived.Test.YtbgpnkchbcgekaaDoorQFpFi6
import Derived.Test.YtbgpnkchbcgekaaDoorQFpFi0
import Derived.Test.YtbgpnkchbcgekaaDoorQFpFi5
import Derived.Test.YtbgpnkchbcgekaaDoorQFpFi9
import Derived.Test.YtbgpnkchbcgekaaDoorQFpFi1
import Derived.Test.YtbgpnkchbcgekaaDoorQFpHbu
import Derived.Test.YtbgpnkchbcgekaaDoorQFpHe
import Derived.Test.YtbgpnkchbcgekaaDoorQFpHgr
import Derived.Test.YtbgpnkchbcgekaaDoorQFpR0
import Derived.Test.YtbgpnkchbcgekaaDoorQFpFi11
section
namespace Go.Proofs.YtbgpnkchbcgekaaDoor.Fi
open Go.RowKit Go.Proofs.YtbgpnkchbcgekaaDoorW.PrintWords Go.Proofs.YtbgpnkchbcgekaaDoorW.PrintLast Go.Proofs.YtbgpnkchbcgekaaDoorW.PrintMore Wog
set_option linter.unusedVariables false
theorem few_is (n : Int) (l : List S42) : wogglelaw06_Graph_few.f n l = some (n, l.take 61) := by
  unfold wogglelaw06_Graph_few.f
  have hm : mn (l.length : Int) 61 = ((min l.length 61 : Nat) : Int) := by unfold mn; split <;> omega
  rw [Option.bind_some, hm, if_pos (by omega), if_pos (by omega), Option.bind_some, if_pos (by simp; omega)]
  rw [Int.toNat_natCast]
  simp [Nat.min_comm]
theorem lexLt_irr : ∀ l : List Int, lexLt l l = false
  | [] => rfl
  | a :: l => by rw [lexLt, if_pos rfl]; exact lexLt_irr l
theorem before_ev (l m : List Int) (hl : l.length < 2 ^ 30) : Ev (fun k => woggleref01_Before.f k l m) (lexLt l m) := by
  have key : ∀ (a b p q : List Int), p.length = q.length → p.length + a.length < 2 ^ 30 → Ev (fun k => woggleref01_Before.l0 k (p ++ a) (q ++ b) (p.length : Int)) (lexLt a b) := by
    intro a
    induction a with
    | nil =>
      intro b p q hpq hpl
      refine Ev.step (f := fun k => woggleref01_Before.j1 k (p ++ []) (q ++ b) (p.length : Int) false) (fun k => ?_) ?_
      · simp only [woggleref01_Before.l0]
        rw [if_neg (by simp)]
      · refine Ev.step (f := fun _ => some (lexLt [] b)) (fun k => ?_) (Ev.now _)
        simp only [woggleref01_Before.j1]
        rw [if_neg (by simp)]
        cases b with
        | nil => simp [lexLt, hpq]
        | cons y b => simp [lexLt, hpq]; omega
    | cons x a ih =>
      intro b p q hpq hpl
      cases b with
      | nil =>
        refine Ev.step (f := fun k => woggleref01_Before.j1 k (p ++ x :: a) (q ++ []) (p.length : Int) false) (fun k => ?_) ?_
        · simp only [woggleref01_Before.l0]
          rw [if_pos (by simp; omega)]
          congr 1
          simp [hpq]
        · refine Ev.step (f := fun _ => some (lexLt (x :: a) [])) (fun k => ?_) (Ev.now _)
          simp only [woggleref01_Before.j1]
          rw [if_neg (by simp)]
          simp [lexLt, hpq]; omega
      | cons y b =>
        have e0 : rd (p ++ x :: a) (p.length : Int) = x := by unfold rd; simp [List.getD_eq_getElem?_getD]
        have e1 : rd (q ++ y :: b) (p.length : Int) = y := by rw [hpq]; unfold rd; simp [List.getD_eq_getElem?_getD]
        refine Ev.step (f := fun k => woggleref01_Before.j1 k (p ++ x :: a) (q ++ y :: b) (p.length : Int) true) (fun k => ?_) ?_
        · simp only [woggleref01_Before.l0]
          rw [if_pos (by simp; omega)]
          congr 1
          simp [hpq]; omega
        · by_cases hxy : x = y
          · subst hxy
            have ih' := ih b (p ++ [x]) (q ++ [x]) (by simp [hpq]) (by simp at hpl ⊢; omega)
            refine Ev.step (f := fun k => woggleref01_Before.l0 k (p ++ x :: a) (q ++ x :: b) ((p ++ [x]).length : Int)) (fun k => ?_) ?_
            · simp only [woggleref01_Before.j1]
              rw [if_pos trivial, if_pos (by omega), if_pos (by simp; omega), if_pos (by rw [hpq]; simp; omega), e0, e1, if_pos rfl, wrapS (by simp at hpl; omega)]
              simp
            · rw [lexLt, if_pos rfl]
              simpa using ih'
          · refine Ev.step (f := fun _ => some (decide (x < y))) (fun k => ?_) ?_
            · simp only [woggleref01_Before.j1]
              rw [if_pos trivial, if_pos (by omega), if_pos (by simp; omega), if_pos (by rw [hpq]; simp; omega), e0, e1, if_neg hxy]
            · rw [lexLt, if_neg hxy]; exact Ev.now _
  exact key l m [] [] rfl (by simpa using hl)
theorem same_ev (l : List Int) (hl : l.length < 2 ^ 30) : Ev (fun k => woggleref01_Same.f k l l) true := by
  unfold woggleref01_Same.f
  refine Ev.bind (before_ev l l hl) ?_
  simp only [lexLt_irr, Bool.false_eq_true, if_false]
  refine Ev.bind (before_ev l l hl) ?_
  simp only [lexLt_irr]
  exact Ev.now _
theorem sameLists_ev (l : List (List Int)) (hl : l.length < 2 ^ 30) (hl2 : ∀ x ∈ l, x.length < 2 ^ 30) : Ev (fun k => woggleref01_SameLists.f k l l) true := by
  have key : ∀ (d j : Nat), j + d = l.length → Ev (fun k => woggleref01_SameLists.l0 k l l (j : Int)) true := by
    intro d
    induction d with
    | zero =>
      intro j hj
      refine Ev.step (f := fun _ => some true) (fun k => ?_) (Ev.now _)
      simp only [woggleref01_SameLists.l0]
      rw [if_neg (by omega)]
    | succ d ih =>
      intro j hj
      have hmem : (rd_L4 l (j : Int)).length < 2 ^ 30 := by
        unfold rd_L4
        rw [Int.toNat_natCast, List.getD_eq_getElem?_getD, List.getElem?_eq_getElem (by omega)]
        exact hl2 _ (List.getElem_mem _)
      refine Ev.step (f := fun k => (woggleref01_Same.f k (rd_L4 l (j : Int)) (rd_L4 l (j : Int))).bind fun t => if t = true then woggleref01_SameLists.l0 k l l ((j + 1 : Nat) : Int) else some false) (fun k => ?_) ?_
      · simp only [woggleref01_SameLists.l0]
        rw [if_pos (by omega), if_pos (by omega), if_pos (by omega), wrapS (by omega)]
      · refine Ev.bind (same_ev _ hmem) ?_
        simp only [if_true]
        exact ih (j + 1) (by omega)
  have k := key l.length 0 (by omega)
  refine Ev.congr (fun k => ?_) k
  unfold woggleref01_SameLists.f
  rw [if_pos rfl]
  rfl
theorem graph_low (n : Int) (l : List S42) (hl : l.length < 2 ^ 30) (hn : n < 1) : Ev (fun k => woggleref06_Graph.f k n l) false := by
  have key : ∀ (d j : Nat), j + d = l.length → Ev (fun k => woggleref06_Graph.l0 k n l (j : Int)) false := by
    intro d
    induction d with
    | zero =>
      intro j hj
      refine Ev.step (f := fun _ => some false) (fun k => ?_) (Ev.now _)
      simp only [woggleref06_Graph.l0]
      rw [if_neg (by omega)]
      unfold woggleref06_in.f
      rw [if_neg (by omega), Option.bind_some, if_neg (by simp)]
    | succ d ih =>
      intro j hj
      have ih' := ih (j + 1) (by omega)
      have hin : ∀ a b c, ∃ r, woggleref06_in.f a b c = some r := fun a b c => by unfold woggleref06_in.f; split <;> exact ⟨_, rfl⟩
      obtain ⟨r1, hr1⟩ := hin (rd_T42 l (j : Int)).f0 0 (wrap64 (n - 1))
      obtain ⟨r2, hr2⟩ := hin (rd_T42 l (j : Int)).f1 0 (wrap64 (n - 1))
      have hst : ∀ k, woggleref06_Graph.l0 (k + 1) n l (j : Int) = if r1 = true then (if r2 = true then (if (rd_T42 l (j : Int)).f0 = (rd_T42 l (j : Int)).f1 then some false else woggleref06_Graph.l0 k n l ((j + 1 : Nat) : Int)) else some false) else some false := by
        intro k
        simp only [woggleref06_Graph.l0]
        rw [if_pos (by omega), if_pos (by omega), hr1, Option.bind_some, hr2, wrapS (by omega)]
        rfl
      by_cases h1 : r1 = true
      · by_cases h2 : r2 = true
        · by_cases h3 : (rd_T42 l (j : Int)).f0 = (rd_T42 l (j : Int)).f1
          · exact Ev.step (f := fun _ => some false) (fun k => by rw [hst, if_pos h1, if_pos h2, if_pos h3]) (Ev.now _)
          · exact Ev.step (fun k => by rw [hst, if_pos h1, if_pos h2, if_neg h3]) ih'
        · exact Ev.step (f := fun _ => some false) (fun k => by rw [hst, if_pos h1, if_neg h2]) (Ev.now _)
      · exact Ev.step (f := fun _ => some false) (fun k => by rw [hst, if_neg h1]) (Ev.now _)
  exact key l.length 0 (by omega)
theorem graph_ev (n : Int) (l : List S42) (hl : l.length < 2 ^ 30) (hn : n < 2 ^ 63) : Ev (fun k => woggleref06_Graph.f k n l) (decide (GoodG n l)) := by
  by_cases hn1 : n < 1
  · have k := graph_low n l hl hn1
    rwa [show decide (GoodG n l) = false from decide_eq_false (fun h => by have := h.1; omega)]
  have hw : wrap64 (n - 1) = n - 1 := by unfold wrap64; omega
  have key : ∀ (d j : Nat), j + d = l.length → (∀ x ∈ l.take j, okE n.toNat x) → Ev (fun k => woggleref06_Graph.l0 k n l (j : Int)) (decide (GoodG n l)) := by
    intro d
    induction d with
    | zero =>
      intro j hj hall
      refine Ev.step (f := fun _ => some (decide (GoodG n l))) (fun k => ?_) (Ev.now _)
      simp only [woggleref06_Graph.l0]
      rw [if_neg (by omega)]
      unfold woggleref06_in.f
      have hall' : ∀ x ∈ l, okE n.toNat x := by rwa [List.take_of_length_le (by omega)] at hall
      by_cases h1 : n ≥ 1
      · rw [if_pos h1, Option.bind_some]
        by_cases h2 : n ≤ 10
        · simp only [h2, decide_true, if_true]
          congr 1
          rw [Bool.eq_iff_iff, decide_eq_true_iff, decide_eq_true_iff]
          constructor
          · intro h; exact ⟨by omega, h2, by omega, hall'⟩
          · intro h; have := h.2.2.1; omega
        · simp only [h2, decide_false]
          rw [if_neg (by simp)]
          congr 1
          symm
          rw [decide_eq_false_iff_not]
          intro h; exact h2 h.2.1
      · rw [if_neg h1, Option.bind_some, if_neg (by simp)]
        congr 1
        symm
        rw [decide_eq_false_iff_not]
        intro h; exact h1 h.1
    | succ d ih =>
      intro j hj hall
      have hjl : j < l.length := by omega
      obtain ⟨e, he⟩ : ∃ e, e = rd_T42 l (j : Int) := ⟨_, rfl⟩
      have hmem : e ∈ l := by rw [he, rd_mem hjl]; exact List.getElem_mem _
      have hno : ¬ okE n.toNat e → (decide (GoodG n l)) = false := fun h => by rw [decide_eq_false_iff_not]; intro hg; exact h (hg.2.2.2 e hmem)
      have hst : ∀ k, woggleref06_Graph.l0 (k + 1) n l (j : Int) = if okE n.toNat e then woggleref06_Graph.l0 k n l ((j + 1 : Nat) : Int) else some false := by
        intro k
        simp only [woggleref06_Graph.l0]
        rw [if_pos (by omega), if_pos (by omega), ← he, hw, wrapS (by omega)]
        unfold woggleref06_in.f
        by_cases a1 : e.f0 ≥ 0
        · rw [if_pos a1, Option.bind_some]
          by_cases a2 : e.f0 ≤ n - 1
          · simp only [a2, decide_true, if_true]
            by_cases a3 : e.f1 ≥ 0
            · rw [if_pos a3, Option.bind_some]
              by_cases a4 : e.f1 ≤ n - 1
              · simp only [a4, decide_true, if_true]
                by_cases a5 : e.f0 = e.f1
                · rw [if_pos a5, if_neg (by unfold okE; omega)]
                · rw [if_neg a5, if_pos (by unfold okE; omega)]
              · simp only [a4, decide_false]
                rw [if_neg (by simp), if_neg (by unfold okE; omega)]
            · rw [if_neg a3, Option.bind_some, if_neg (by simp), if_neg (by unfold okE; omega)]
          · simp only [a2, decide_false]
            rw [if_neg (by simp), if_neg (by unfold okE; omega)]
        · rw [if_neg a1, Option.bind_some, if_neg (by simp), if_neg (by unfold okE; omega)]
      by_cases ok : okE n.toNat e
      · refine Ev.step (f := fun k => woggleref06_Graph.l0 k n l ((j + 1 : Nat) : Int)) (fun k => by rw [hst, if_pos ok]) (ih (j + 1) (by omega) (all_snoc hjl hall (by rw [← he]; exact ok)))
      · refine Ev.step (f := fun _ => some false) (fun k => by rw [hst, if_neg ok]) ?_
        rw [hno ok]; exact Ev.now _
  exact key l.length 0 (by omega) (by simp)
end Go.Proofs.YtbgpnkchbcgekaaDoor.Fi
end
section
namespace Go.Proofs.YtbgpnkchbcgekaaDoor.Fi
open Go.RowKit Go.Proofs.YtbgpnkchbcgekaaDoorW.PrintWords Go.Proofs.YtbgpnkchbcgekaaDoorW.PrintLast Go.Proofs.YtbgpnkchbcgekaaDoorW.PrintMore Wog
set_option linter.unusedVariables false
theorem raround_ev (nx : List Nat) (s : Nat) (hn : nx.length ≤ 10) (hx : ∀ x ∈ nx, x < 2 ^ nx.length) (hs : s < 2 ^ nx.length) : Ev (fun k => woggleref06_around.f k (toI nx) (s : Int)) ((nb nx s : Nat) : Int) := by
  have hpow : (2 : Nat) ^ nx.length ≤ 2 ^ 10 := Nat.pow_le_pow_right (by omega) hn
  have key : ∀ (d j acc : Nat), j + d = nx.length → acc < 2 ^ 10 →
      Ev (fun k => woggleref06_around.l0 k (toI nx) (s : Int) (acc : Int) (j : Int)) (((((List.range nx.length).drop j).foldl (fun acc v => if s.testBit v then acc ||| nx.getD v 0 else acc) acc : Nat)) : Int) := by
    intro d
    induction d with
    | zero =>
      intro j acc hj ha
      refine Ev.step (f := fun _ => some (acc : Int)) (fun k => ?_) ?_
      · simp only [woggleref06_around.l0]
        rw [if_neg (by rw [toI_length]; omega)]
      · rw [List.drop_eq_nil_of_le (by simp; omega)]; exact Ev.now _
    | succ d ih =>
      intro j acc hj ha
      have hjl : j < nx.length := by omega
      have hv : nx.getD j 0 < 2 ^ 10 := by
        rw [List.getD_eq_getElem?_getD, List.getElem?_eq_getElem hjl]
        exact Nat.lt_of_lt_of_le (hx _ (List.getElem_mem hjl)) hpow
      rw [drop_range hjl, List.foldl_cons]
      by_cases hb : s.testBit j = true
      · rw [if_pos hb]
        refine Ev.step (fun k => ?_) (ih (j + 1) (acc ||| nx.getD j 0) (by omega) (Nat.or_lt_two_pow ha hv))
        simp only [woggleref06_around.l0]
        rw [if_pos (by rw [toI_length]; omega), if_pos (by omega), has64 _ _ (by omega), if_pos (by rw [hb]; rfl), show rd (toI nx) (j : Int) = ((nx.getD j 0 : Nat) : Int) from rd_nat nx j, or64 _ _ (by omega) (by omega), wrapS (by omega)]
      · rw [if_neg hb]
        refine Ev.step (fun k => ?_) (ih (j + 1) acc (by omega) ha)
        rw [Bool.not_eq_true] at hb
        simp only [woggleref06_around.l0]
        rw [if_pos (by rw [toI_length]; omega), if_pos (by omega), has64 _ _ (by omega), if_neg (by rw [hb]; simp), wrapS (by omega)]
  exact key nx.length 0 0 (by omega) (by omega)
theorem members_ev (s : Nat) (hs : s < 2 ^ 10) : Ev (fun k => woggleref01_Members.f k (s : Int)) (mem10 s) := by
  have key : ∀ (d j : Nat), j + d = 10 → Ev (fun k => woggleref01_Members.l0 k (s : Int) (((List.range j).filter (fun i => s.testBit i)).map fun (i : Nat) => (i : Int)) (j : Int)) (mem10 s) := by
    have hdone : ∀ (j : Nat), j ≤ 10 → s / 2 ^ j = 0 → (((List.range j).filter (fun i => s.testBit i)).map fun (i : Nat) => (i : Int)) = mem10 s := by
      intro j hj h0
      unfold mem10
      congr 1
      have : ∀ d, (List.range (j + d)).filter (fun i => s.testBit i) = (List.range j).filter (fun i => s.testBit i) := by
        intro d
        induction d with
        | zero => rfl
        | succ d ih =>
          rw [show j + (d + 1) = (j + d) + 1 by omega, List.range_succ, List.filter_append, ih]
          have : s.testBit (j + d) = false := by
            refine Nat.testBit_lt_two_pow (Nat.lt_of_lt_of_le ?_ (Nat.pow_le_pow_right (by omega) (Nat.le_add_right j d)))
            exact (Nat.div_eq_zero_iff.1 h0).resolve_left (by have := Nat.two_pow_pos j; omega)
          simp [this]
      have h := this (10 - j)
      rw [show j + (10 - j) = 10 by omega] at h
      exact h.symm
    intro d
    induction d with
    | zero =>
      intro j hj
      obtain rfl : j = 10 := by omega
      refine Ev.step (f := fun _ => some (mem10 s)) (fun k => ?_) (Ev.now _)
      simp only [woggleref01_Members.l0]
      rw [if_pos (by omega), shr64, if_neg (by rw [Nat.div_eq_of_lt (by simpa using hs)]; simp)]
      rfl
    | succ d ih =>
      intro j hj
      by_cases h0 : s / 2 ^ j = 0
      · refine Ev.step (f := fun _ => some (mem10 s)) (fun k => ?_) (Ev.now _)
        simp only [woggleref01_Members.l0]
        rw [if_pos (by omega), shr64, Nat.min_eq_left (by omega), if_neg (by rw [h0]; simp), hdone j (by omega) h0]
      · refine Ev.step (fun k => ?_) (ih (j + 1) (by omega))
        simp only [woggleref01_Members.l0]
        rw [if_pos (by omega), if_pos (by rw [shr64, Nat.min_eq_left (by omega)]; exact Int.natCast_pos.2 (Nat.pos_of_ne_zero h0)), has64 _ _ (by omega), wrapS (by omega), List.range_succ, List.filter_append, List.map_append]
        by_cases hb : s.testBit j = true
        · rw [if_pos (by rw [hb]; rfl), if_pos]
          · simp [hb]
          · have := List.length_filter_le (fun i => s.testBit i) (List.range j)
            rw [List.length_map]
            rw [List.length_range] at this
            omega
        · rw [Bool.not_eq_true] at hb
          rw [if_neg (by rw [hb]; simp)]
          simp [hb]
  exact key 10 0 (by omega)
theorem mem10_len {s n : Nat} (hn : n ≤ 10) (hs : s < 2 ^ n) : (mem10 s).length = popc 16 s := by
  have hs' : s < 2 ^ 10 := Nat.lt_of_lt_of_le hs (Nat.pow_le_pow_right (by omega) hn)
  rw [popc16 (by omega) hs']
  unfold mem10 popc
  rw [List.length_map, List.countP_eq_length_filter]
theorem rsize_ev (s : Nat) (hs : s < 2 ^ 10) : Ev (fun k => woggleref06_Size.f k (s : Int)) ((popc 16 s : Nat) : Int) := by
  unfold woggleref06_Size.f
  refine Ev.bind (members_ev s hs) ?_
  rw [mem10_len (Nat.le_refl 10) hs]
  exact Ev.now _
end Go.Proofs.YtbgpnkchbcgekaaDoor.Fi
end
section
namespace Go.Proofs.YtbgpnkchbcgekaaDoor.Fi
open Go.RowKit Go.Proofs.YtbgpnkchbcgekaaDoorW.PrintWords Go.Proofs.YtbgpnkchbcgekaaDoorW.PrintLast Go.Proofs.YtbgpnkchbcgekaaDoorW.PrintMore Wog
set_option linter.unusedVariables false
theorem toI_setI (xs : List Nat) (i v : Nat) : (toI xs).set i (v : Int) = toI (xs.set i v) := by simp [toI, List.map_set]
theorem near_ev (n : Int) (l : List S42) (h : GoodG n l) : Ev (fun k => woggleref06_Near.f k n l) (toI (nearS n.toNat l)) := by
  obtain ⟨h1, h2, h3, h4⟩ := h
  have hpow : (2 : Nat) ^ n.toNat ≤ 2 ^ 10 := Nat.pow_le_pow_right (by omega) (by omega)
  have key : ∀ (d j : Nat), j + d = l.length → Ev (fun k => woggleref06_Near.l0 k l (toI (nearS n.toNat (l.take j))) (j : Int)) (toI (nearS n.toNat l)) := by
    intro d
    induction d with
    | zero =>
      intro j hj
      refine Ev.step (f := fun _ => some (toI (nearS n.toNat l))) (fun k => ?_) (Ev.now _)
      simp only [woggleref06_Near.l0]
      rw [if_neg (by omega), List.take_of_length_le (by omega)]
    | succ d ih =>
      intro j hj
      have hjl : j < l.length := by omega
      have ih' := ih (j + 1) (by omega)
      have he := h4 _ (List.getElem_mem hjl)
      rw [near_snoc n.toNat l j hjl] at ih'
      rw [← rd_mem hjl] at he
      obtain ⟨e, hee⟩ : ∃ e, e = rd_T42 l (j : Int) := ⟨_, rfl⟩
      rw [← hee] at he ih'
      obtain ⟨a0, a1, a2, a3, a4⟩ := he
      obtain ⟨x, hx⟩ := Int.eq_ofNat_of_zero_le a0
      obtain ⟨y, hy⟩ := Int.eq_ofNat_of_zero_le a1
      obtain ⟨xs, hxs⟩ : ∃ xs, xs = nearS n.toNat (l.take j) := ⟨_, rfl⟩
      have hxl : xs.length = n.toNat := by rw [hxs, nearS_length]
      have hxb : ∀ z ∈ xs, z < 2 ^ n.toNat := by rw [hxs]; exact nearS_lt (fun z hz => h4 z (List.mem_of_mem_take hz))
      rw [← hxs] at ih' ⊢
      have hg0 : xs.getD x 0 < 2 ^ n.toNat := getD_lt hxb x
      have hp0 : 2 ^ y < 2 ^ n.toNat := Nat.pow_lt_pow_right (by omega) (by omega)
      have hp1 : 2 ^ x < 2 ^ n.toNat := Nat.pow_lt_pow_right (by omega) (by omega)
      obtain ⟨ys, hys⟩ : ∃ ys, ys = xs.set x (xs.getD x 0 ||| 2 ^ y) := ⟨_, rfl⟩
      have hyl : ys.length = n.toNat := by rw [hys, List.length_set, hxl]
      have hyb : ∀ z ∈ ys, z < 2 ^ n.toNat := by
        intro z hz
        rw [hys] at hz
        rcases List.mem_or_eq_of_mem_set hz with hz | rfl
        · exact hxb z hz
        · exact Nat.or_lt_two_pow hg0 hp0
      have hg1 : ys.getD y 0 < 2 ^ n.toNat := getD_lt hyb y
      have hadd : addS xs e = ys.set y (ys.getD y 0 ||| 2 ^ x) := by
        unfold addS
        rw [hx, hy]
        simp only [Int.toNat_natCast]
        rw [← hys]
      refine Ev.step (fun k => ?_) ih'
      simp only [woggleref06_Near.l0]
      rw [← hee, hx, hy]
      simp only [Int.toNat_natCast]
      rw [if_pos (by omega), if_pos (by omega), if_pos (by omega), if_pos (by rw [toI_length, hxl]; omega), if_pos (by omega), Option.bind_some,
        show rd (toI xs) (x : Int) = ((xs.getD x 0 : Nat) : Int) from rd_nat xs x, shl64 y (by omega), or64 _ _ (by omega) (by omega), toI_setI, ← hys,
        if_pos (by rw [toI_length, hxl]; omega), show rd (toI ys) (y : Int) = ((ys.getD y 0 : Nat) : Int) from rd_nat ys y, shl64 x (by omega), or64 _ _ (by omega) (by omega), toI_setI, wrapS (by omega), hadd]
  have k := key l.length 0 (by omega)
  refine Ev.congr (fun k => ?_) k
  unfold woggleref06_Near.f
  rw [if_pos (by omega), if_pos (by omega)]
  congr 1
  simp [nearS, toI]
theorem cloF_fix {nx : List Nat} {B D k : Nat} (hd : disj B D) (hB : B < 2 ^ nx.length) (hx : ∀ x ∈ nx, x < 2 ^ nx.length) (h : cloF nx D k B = some B) : diff (arnd nx B) D = B := by
  cases k with
  | zero => simp [cloF] at h
  | succ k =>
    rw [cloF] at h
    by_cases e : diff (arnd nx B) D = B
    · exact e
    · rw [if_neg e] at h
      refine ext_lt (diff_le _ _ _ (arnd_lt hx hB)) hB (fun i _ => ?_)
      cases h1 : B.testBit i with
      | true => exact step_sup hd i h1
      | false =>
        cases h2 : (diff (arnd nx B) D).testBit i with
        | false => rfl
        | true => rw [cloF_sup _ _ _ (disj_diff _ _) h i h2] at h1; cases h1
end Go.Proofs.YtbgpnkchbcgekaaDoor.Fi
end
section
namespace Go.Proofs.YtbgpnkchbcgekaaDoor.Fi
open Go.RowKit Go.Proofs.YtbgpnkchbcgekaaDoorW.PrintWords Go.Proofs.YtbgpnkchbcgekaaDoorW.PrintLast Go.Proofs.YtbgpnkchbcgekaaDoorW.PrintMore Wog
set_option linter.unusedVariables false
section
variable {nx : List Nat}
theorem lt1024 (hn : nx.length ≤ 10) {x : Nat} (h : x < 2 ^ nx.length) : x < 2 ^ 10 := Nat.lt_of_lt_of_le h (Nat.pow_le_pow_right (by omega) hn)
theorem cut_is (l : List Int) : wogglelaw06_cut.f l = some (l.take 11) := by
  unfold wogglelaw06_cut.f
  have h : mn (l.length : Int) 11 = ((min l.length 11 : Nat) : Int) := by unfold mn; omega
  rw [h, Option.bind_some, if_pos (by omega), if_pos (by omega), if_pos]
  · simp
    omega
  · simp
    omega
end
end Go.Proofs.YtbgpnkchbcgekaaDoor.Fi
end
section
namespace Go.Proofs.YtbgpnkchbcgekaaDoor.Fi
open Go.RowKit Go.Proofs.YtbgpnkchbcgekaaDoorW.PrintWords Go.Proofs.YtbgpnkchbcgekaaDoorW.PrintLast Go.Proofs.YtbgpnkchbcgekaaDoorW.PrintMore Wog
set_option linter.unusedVariables false
theorem lives_best : fire_Best.f 4 ([(⟨0, 1⟩ : S42), (⟨1, 2⟩ : S42), (⟨2, 3⟩ : S42)] : List (S42)) 1 = some (2, [2], 0) := by decide +kernel
theorem lives_play : fire_Play.f 4 ([(⟨0, 1⟩ : S42), (⟨1, 2⟩ : S42), (⟨2, 3⟩ : S42)] : List (S42)) 1 [2] = some ([[0]], 0) := by decide +kernel
theorem lives_burning : fire_Burning.f 4 ([(⟨0, 1⟩ : S42), (⟨1, 2⟩ : S42), (⟨2, 3⟩ : S42)] : List (S42)) = some ([1, 3], 0) := by decide +kernel
theorem lives_ev : Ev (fun k => wogglelaw06_lives.f k) true := by
  unfold wogglelaw06_lives.f
  simp only [Option.bind_some, lives_best, lives_play, lives_burning, if_true]
  refine Ev.bind (same_ev [2] (by simp)) ?_
  simp only [if_true]
  refine Ev.bind (sameLists_ev [[0]] (by simp) (by simp)) ?_
  simp only [if_true]
  refine Ev.bind (same_ev [1, 3] (by simp)) ?_
  simp only [if_true]
  exact Ev.now _
end Go.Proofs.YtbgpnkchbcgekaaDoor.Fi
end
section
namespace Go.Proofs.YtbgpnkchbcgekaaDoor.Fi
open Go.RowKit Go.Proofs.YtbgpnkchbcgekaaDoorW.PrintWords Go.Proofs.YtbgpnkchbcgekaaDoorW.PrintLast Go.Proofs.YtbgpnkchbcgekaaDoorW.PrintMore Wog
set_option linter.unusedVariables false
theorem lives_then : Ev (fun k => (wogglelaw06_lives.f k).bind fun t => some t) true := Ev.bind lives_ev (Ev.now _)
theorem GoodG.rows {n : Int} {l : List S42} (h : GoodG n l) : (∀ x ∈ nearS n.toNat l, x < 2 ^ (nearS n.toNat l).length) ∧ (nearS n.toNat l).length ≤ 10 ∧ 0 < (nearS n.toNat l).length ∧ n = ((nearS n.toNat l).length : Int) ∧ (nearS n.toNat l).length = n.toNat := by
  obtain ⟨h1, h2, h3, h4⟩ := h
  have hl := nearS_length n.toNat l
  refine ⟨by rw [hl]; exact nearS_lt h4, by omega, by omega, by omega, hl⟩
end Go.Proofs.YtbgpnkchbcgekaaDoor.Fi
end
section
namespace Go.Proofs.YtbgpnkchbcgekaaDoor.Fi
open Go.RowKit Go.Proofs.YtbgpnkchbcgekaaDoorW.PrintWords Go.Proofs.YtbgpnkchbcgekaaDoorW.PrintLast Go.Proofs.YtbgpnkchbcgekaaDoorW.PrintMore Wog
set_option linter.unusedVariables false
def rres (nx : List Nat) (p : List Int) (B D : Nat) (out : List Nat) : List Int × Int × Bool := match playS nx p B D, endB nx p B D with
  | some o, some e => (toI (out ++ o), (e : Int), true)
  | _, _ => ([], 0, false)
section
variable {nx : List Nat}
theorem more64 (hn : nx.length ≤ 10) (hx : ∀ x ∈ nx, x < 2 ^ nx.length) {B D : Nat} (hB : B < 2 ^ nx.length) (hD : D < 2 ^ nx.length) :
    Go.bits .andNot .i64 ((nb nx B : Nat) : Int) (Go.bits .or .i64 (B : Int) (D : Int)) = ((moreS nx B D : Nat) : Int) := by
  have h1 := lt1024 hn hB
  have h2 := lt1024 hn hD
  have h3 := lt1024 hn (nb_lt hx B)
  rw [or64 _ _ (by omega) (by omega), andNot64 _ _ (by omega) (by have := Nat.or_lt_two_pow h1 h2; omega)]
  congr 1
  apply Nat.eq_of_testBit_eq
  intro i
  rw [testBit_diff, moreS_bit, Nat.testBit_or, arnd, Nat.testBit_or]
  cases B.testBit i <;> cases D.testBit i <;> simp
theorem more_zero {B D : Nat} (hd : disj B D) (h : moreS nx B D = 0) : diff (arnd nx B) D = B := by
  rw [← step_eq hd, h]; simp
theorem rend (hn : nx.length ≤ 10) (hx : ∀ x ∈ nx, x < 2 ^ nx.length) (n : Int) (plan : List Int) : ∀ (m j B D : Nat) (out : List Nat), plan.length ≤ j → j + m < 2 ^ 40 → B < 2 ^ nx.length → D < 2 ^ nx.length → disj B D → zer nx.length B ≤ m → out.length + m ≤ 2 ^ 41 →
    Ev (fun k => woggleref06_Play.j1 k n plan (toI nx) (B : Int) (D : Int) (toI out) (j : Int)) (rres nx [] B D out) := by
  intro m
  induction m with
  | zero =>
    intro j B D out hj hjm hB hD hd hz ho
    have h0 := zer_zero hx hB D (by omega)
    refine Ev.step (f := fun k => (woggleref06_around.f k (toI nx) (B : Int)).bind fun t => if Go.bits .andNot .i64 t (Go.bits .or .i64 (B : Int) (D : Int)) = 0 then some (toI out, (B : Int), true) else if (toI out).length < 17592186044416 then woggleref06_Play.l0 k n plan (toI nx) (Go.bits .or .i64 (B : Int) (Go.bits .andNot .i64 t (Go.bits .or .i64 (B : Int) (D : Int)))) (D : Int) (toI out ++ [Go.bits .andNot .i64 t (Go.bits .or .i64 (B : Int) (D : Int))]) (wrap64 ((j : Int) + 1)) else none) (fun k => ?_) ?_
    · simp only [woggleref06_Play.j1]
      congr 1
      funext t
      rw [wrapS (by omega)]
      split
      · rw [if_pos (by omega)]
      · rfl
    · refine Ev.bind (raround_ev nx _ hn hx hB) ?_
      simp only [more64 hn hx hB hD, h0]
      have e1 : playS nx [] B D = some [] := by
        show some (playN nx nx.length B D) = _
        rw [playN_unfold hx hB, if_pos h0]
      have e2 : endB nx [] B D = some B := by
        rw [endB, cloF, if_pos (more_zero hd h0)]
      unfold rres
      rw [e1, e2]
      simpa using Ev.now (toI out, (B : Int), true)
  | succ m ih =>
    intro j B D out hj hjm hB hD hd hz ho
    refine Ev.step (f := fun k => (woggleref06_around.f k (toI nx) (B : Int)).bind fun t => if Go.bits .andNot .i64 t (Go.bits .or .i64 (B : Int) (D : Int)) = 0 then some (toI out, (B : Int), true) else if (toI out).length < 17592186044416 then woggleref06_Play.l0 k n plan (toI nx) (Go.bits .or .i64 (B : Int) (Go.bits .andNot .i64 t (Go.bits .or .i64 (B : Int) (D : Int)))) (D : Int) (toI out ++ [Go.bits .andNot .i64 t (Go.bits .or .i64 (B : Int) (D : Int))]) ((j + 1 : Nat) : Int) else none) (fun k => ?_) ?_
    · simp only [woggleref06_Play.j1]
      congr 1
      funext t
      rw [wrapS (by omega)]
      split
      · rw [if_pos (by omega)]
      · rfl
    · refine Ev.bind (raround_ev nx _ hn hx hB) ?_
      simp only [more64 hn hx hB hD]
      by_cases h0 : moreS nx B D = 0
      · have e1 : playS nx [] B D = some [] := by
          show some (playN nx nx.length B D) = _
          rw [playN_unfold hx hB, if_pos h0]
        have e2 : endB nx [] B D = some B := by
          rw [endB, cloF, if_pos (more_zero hd h0)]
        unfold rres
        rw [e1, e2, h0]
        simpa using Ev.now (toI out, (B : Int), true)
      · have hM := moreS_lt hx hB D
        have h1 := lt1024 hn hB
        have h2 := lt1024 hn hM
        have hz' := zer_more hx hB h0
        have e1 : playS nx [] B D = (playS nx [] (B ||| moreS nx B D) D).map (moreS nx B D :: ·) := by
          show some (playN nx nx.length B D) = (some (playN nx nx.length (B ||| moreS nx B D) D)).map _
          rw [playN_unfold hx hB, if_neg h0]
          rfl
        have e2 : endB nx [] B D = endB nx [] (B ||| moreS nx B D) D := by
          have hB2 := Nat.or_lt_two_pow hB hM
          obtain ⟨R, hR, _, _⟩ := cloF_some hx nx.length _ hB2 (or_disj hd (moreS_disj B D)) (zer_le _ _)
          show cloF nx D (nx.length + 1) B = cloF nx D (nx.length + 1) _
          rw [hR]
          obtain ⟨R', hR', _, _⟩ := cloF_some hx nx.length _ hB hd (zer_le _ _)
          rw [hR']
          have : cloF nx D (nx.length + 1 + 1) B = some R := by
            rw [cloF, if_neg, ← step_eq hd]
            · exact hR
            · intro e
              rw [← step_eq hd] at e
              apply h0
              refine zero_of_bits (fun i => ?_)
              cases hi : (moreS nx B D).testBit i with
              | false => rfl
              | true =>
                have h1 := moreS_disjB B D i hi
                rw [← e, Nat.testBit_or, hi] at h1
                simp at h1
          rw [cloF_det hR' this]
        have e3 : rres nx [] B D out = rres nx [] (B ||| moreS nx B D) D (out ++ [moreS nx B D]) := by
          unfold rres
          rw [e1, e2]
          cases playS nx [] (B ||| moreS nx B D) D <;> cases endB nx [] (B ||| moreS nx B D) D <;> simp
        rw [e3]
        have hne : ¬ (((moreS nx B D : Nat) : Int) = 0) := by omega
        simp only [if_neg hne]
        have hlo : (toI out).length < 17592186044416 := by rw [toI_length]; omega
        simp only [if_pos hlo]
        rw [or64 _ _ (by omega) (by omega), toI_snoc]
        refine Ev.step (f := fun k => woggleref06_Play.j1 k n plan (toI nx) ((B ||| moreS nx B D : Nat) : Int) (D : Int) (toI (out ++ [moreS nx B D])) ((j + 1 : Nat) : Int)) (fun k => ?_) ?_
        · simp only [woggleref06_Play.l0]
          rw [if_neg (by omega)]
        · exact ih (j + 1) _ D _ (by omega) (by omega) (Nat.or_lt_two_pow hB hM) hD (or_disj hd (moreS_disj B D)) (by omega) (by simp; omega)
theorem rplay_l0 (hn : nx.length ≤ 10) (hx : ∀ x ∈ nx, x < 2 ^ nx.length) (n : Int) (hnn : n = nx.length) (plan : List Int) (hp : plan.length ≤ 1000) : ∀ (p : List Int) (j B D : Nat) (out : List Nat), plan.drop j = p → j + p.length = plan.length → B < 2 ^ nx.length → D < 2 ^ nx.length → disj B D → out.length ≤ j →
    Ev (fun k => woggleref06_Play.l0 k n plan (toI nx) (B : Int) (D : Int) (toI out) (j : Int)) (rres nx p B D out) := by
  intro p
  induction p with
  | nil =>
    intro j B D out hdr hj hB hD hd ho
    simp at hj
    refine Ev.step (f := fun k => woggleref06_Play.j1 k n plan (toI nx) (B : Int) (D : Int) (toI out) (j : Int)) (fun k => ?_) (rend hn hx n plan nx.length j B D out (by omega) (by omega) hB hD hd (zer_le _ _) (by omega))
    simp only [woggleref06_Play.l0]
    rw [if_neg (by omega)]
  | cons d p ih =>
    intro j B D out hdr hj hB hD hd ho
    obtain ⟨hjl, hget, hdr'⟩ := drop_cons hdr
    simp only [List.length_cons] at hj
    have hrd : rd plan (j : Int) = d := by unfold rd; rw [Int.toNat_natCast, List.getD_eq_getElem?_getD, hget]; rfl
    have hw : wrap64 (n - 1) = n - 1 := by unfold wrap64; omega
    have b1 := lt1024 hn hB
    have b2 := lt1024 hn hD
    have bor := Nat.or_lt_two_pow b1 b2
    by_cases hv : 0 ≤ d ∧ d < nx.length ∧ (B ||| D).testBit d.toNat = false
    · obtain ⟨hv1, hv2, hv3⟩ := hv
      obtain ⟨v, rfl⟩ := Int.eq_ofNat_of_zero_le hv1
      rw [Int.toNat_natCast] at hv3
      obtain ⟨c1, c2⟩ := valid_split hv3
      have hvn : v < nx.length := by omega
      have b3 : 2 ^ v < 2 ^ 10 := Nat.pow_lt_pow_right (by omega) (by omega)
      have hD' : D ||| 2 ^ v < 2 ^ nx.length := Nat.or_lt_two_pow hD (Nat.pow_lt_pow_right (by omega) hvn)
      have hdd : disj B (D ||| 2 ^ v) := disj_or hd (disj_one c1)
      refine Ev.step (f := fun k => woggleref06_Play.j1 k n plan (toI nx) (B : Int) ((D ||| 2 ^ v : Nat) : Int) (toI out) (j : Int)) (fun k => ?_) ?_
      · simp only [woggleref06_Play.l0, hrd]
        rw [if_pos (by omega), if_pos (by omega), hw]
        unfold woggleref06_in.f
        rw [if_pos (by omega), Option.bind_some]
        have : decide ((v : Int) ≤ n - 1) = true := decide_eq_true (by omega)
        rw [this, if_pos rfl, if_pos (by omega), or64 _ _ (by omega) (by omega), has64 _ _ (by omega), hv3, if_neg (by simp), shl64 v (by omega), or64 _ _ (by omega) (by omega)]
      · have hM := moreS_lt hx hB (D ||| 2 ^ v)
        have b4 := lt1024 hn hM
        refine Ev.step (f := fun k => (woggleref06_around.f k (toI nx) (B : Int)).bind fun t332 => (if (Go.bits .andNot .i64 t332 (Go.bits .or .i64 (B : Int) ((D ||| 2 ^ v : Nat) : Int))) = 0 then (if (wrap64 ((j : Int) + 1)) ≥ (plan.length : Int) then (some (toI out, (B : Int), true)) else (woggleref06_Play.l0 k n plan (toI nx) (Go.bits .or .i64 (B : Int) (Go.bits .andNot .i64 t332 (Go.bits .or .i64 (B : Int) ((D ||| 2 ^ v : Nat) : Int)))) ((D ||| 2 ^ v : Nat) : Int) (toI out) (wrap64 ((j : Int) + 1)))) else (if (toI out).length < 17592186044416 then (woggleref06_Play.l0 k n plan (toI nx) (Go.bits .or .i64 (B : Int) (Go.bits .andNot .i64 t332 (Go.bits .or .i64 (B : Int) ((D ||| 2 ^ v : Nat) : Int)))) ((D ||| 2 ^ v : Nat) : Int) (toI out ++ [Go.bits .andNot .i64 t332 (Go.bits .or .i64 (B : Int) ((D ||| 2 ^ v : Nat) : Int))]) (wrap64 ((j : Int) + 1))) else (none)))) (fun k => by simp only [woggleref06_Play.j1]) ?_
        refine Ev.bind (raround_ev nx _ hn hx hB) ?_
        simp only [more64 hn hx hB hD']
        have e0 : playS nx ((v : Int) :: p) B D = (playS nx p (B ||| moreS nx B (D ||| 2 ^ v)) (D ||| 2 ^ v)).map fun o => if moreS nx B (D ||| 2 ^ v) = 0 then o else moreS nx B (D ||| 2 ^ v) :: o := by
          rw [playS, if_pos ⟨by omega, by omega, by rw [Int.toNat_natCast]; exact hv3⟩, Int.toNat_natCast]
        have e1 : endB nx ((v : Int) :: p) B D = endB nx p (B ||| moreS nx B (D ||| 2 ^ v)) (D ||| 2 ^ v) := by
          rw [endB, if_pos ⟨by omega, by omega, by rw [Int.toNat_natCast]; exact hv3⟩, Int.toNat_natCast]
        by_cases h0 : moreS nx B (D ||| 2 ^ v) = 0
        · have hc : ((moreS nx B (D ||| 2 ^ v) : Nat) : Int) = 0 := by omega
          simp only [if_pos hc, wrapS (show j < 2 ^ 40 by omega)]
          have e3 : rres nx ((v : Int) :: p) B D out = rres nx p B (D ||| 2 ^ v) out := by
            unfold rres
            rw [e0, e1, h0]
            simp
          rw [e3]
          cases p with
          | nil =>
            simp at hj
            simp only [if_pos (show ((j + 1 : Nat) : Int) ≥ (plan.length : Int) by omega)]
            have e4 : playS nx [] B (D ||| 2 ^ v) = some [] := by
              show some (playN nx nx.length B (D ||| 2 ^ v)) = _
              rw [playN_unfold hx hB, if_pos h0]
            have e5 : endB nx [] B (D ||| 2 ^ v) = some B := by
              rw [endB, cloF, if_pos (more_zero hdd h0)]
            unfold rres
            rw [e4, e5]
            simpa using Ev.now (toI out, (B : Int), true)
          | cons d2 p =>
            simp at hj
            simp only [if_neg (show ¬ ((j + 1 : Nat) : Int) ≥ (plan.length : Int) by omega)]
            have hor : Go.bits .or .i64 (B : Int) ((moreS nx B (D ||| 2 ^ v) : Nat) : Int) = (B : Int) := by
              rw [or64 _ _ (by omega) (by omega), h0]; simp
            rw [hor]
            exact ih (j + 1) B (D ||| 2 ^ v) out hdr' (by simp; omega) hB hD' hdd (by omega)
        · have hc : ¬ ((moreS nx B (D ||| 2 ^ v) : Nat) : Int) = 0 := by omega
          simp only [if_neg hc, wrapS (show j < 2 ^ 40 by omega)]
          have hlo : (toI out).length < 17592186044416 := by rw [toI_length]; omega
          simp only [if_pos hlo]
          rw [or64 _ _ (by omega) (by omega), toI_snoc]
          have e3 : rres nx ((v : Int) :: p) B D out = rres nx p (B ||| moreS nx B (D ||| 2 ^ v)) (D ||| 2 ^ v) (out ++ [moreS nx B (D ||| 2 ^ v)]) := by
            unfold rres
            rw [e0, e1]
            cases playS nx p (B ||| moreS nx B (D ||| 2 ^ v)) (D ||| 2 ^ v) <;> cases endB nx p (B ||| moreS nx B (D ||| 2 ^ v)) (D ||| 2 ^ v) <;> simp [h0]
          rw [e3]
          exact ih (j + 1) _ _ _ hdr' (by omega) (Nat.or_lt_two_pow hB hM) hD' (or_disj hdd (moreS_disj _ _)) (by simp; omega)
    · have e0 : rres nx (d :: p) B D out = ([], 0, false) := by
        unfold rres
        rw [playS, endB, if_neg hv, if_neg hv]
      rw [e0]
      refine Ev.step (f := fun _ => some ([], 0, false)) (fun k => ?_) (Ev.now _)
      simp only [woggleref06_Play.l0, hrd]
      rw [if_pos (by omega), if_pos (by omega), hw]
      unfold woggleref06_in.f
      by_cases h1 : d ≥ 0
      · rw [if_pos h1, Option.bind_some]
        by_cases h2 : d ≤ n - 1
        · rw [decide_eq_true h2, if_pos rfl, if_pos h1]
          obtain ⟨v, rfl⟩ := Int.eq_ofNat_of_zero_le h1
          have : (B ||| D).testBit v = true := by
            cases h3 : (B ||| D).testBit v with
            | true => rfl
            | false => exact absurd ⟨h1, by omega, by rw [Int.toNat_natCast]; exact h3⟩ hv
          rw [or64 _ _ (by omega) (by omega), has64 _ _ (by omega), this, if_pos (by rfl)]
        · rw [decide_eq_false h2, if_neg (by simp)]
      · rw [if_neg h1, Option.bind_some, if_neg (by simp)]
end
theorem rplay_ev {n : Int} {l : List S42} {f : Int} (h : PlayOk n l f) (plan : List Int) (hp : plan.length ≤ 1000) : Ev (fun k => woggleref06_Play.f k n l f plan) (rres (nearS n.toNat l) plan (2 ^ f.toNat) 0 []) := by
  obtain ⟨hg, h0, hf⟩ := h
  obtain ⟨hx, hn10, hn0, hnn, hnl⟩ := hg.rows
  unfold woggleref06_Play.f
  refine Ev.bind (near_ev n l hg) ?_
  have hk := rplay_l0 hn10 hx n hnn plan hp plan 0 (2 ^ f.toNat) 0 [] (by simp) (by simp) (Nat.pow_lt_pow_right (by omega) (by omega)) (Nat.two_pow_pos _) (fun i _ => by simp) (by simp)
  have hs : shl .i64 1 f = ((2 ^ f.toNat : Nat) : Int) := by
    have := shl64 f.toNat (by omega)
    rwa [Int.toNat_of_nonneg h0] at this
  simp only [if_pos h0, hs]
  exact hk
theorem GoodG.near_lt {n : Int} {l : List S42} (h : GoodG n l) {f : Int} (h0 : 0 ≤ f) (hf : f < n) : 2 ^ f.toNat < 2 ^ (nearS n.toNat l).length := by
  obtain ⟨_, _, _, hnn, _⟩ := h.rows
  exact Nat.pow_lt_pow_right (by omega) (by omega)
theorem savedS_is (n : Int) (o : List Nat) : savedS n o = n - 1 - (sumP o : Int) := by
  unfold savedS sumP
  have : ∀ (o : List Nat) (a : Int), o.foldl (fun a s => a - ((popc 16 s : Nat) : Int)) a = a - (((o.map (popc 16)).sum : Nat) : Int) := by
    intro o
    induction o with
    | nil => intro a; simp
    | cons x o ih => intro a; rw [List.foldl_cons, ih]; simp; omega
  exact this o (n - 1)
/-- The rounds of a plan, and what burns in the end: both or none. -/
theorem play_both {n : Int} {l : List S42} {f : Int} (h : PlayOk n l f) (p : List Int) (o : List Nat) (ho : playS (nearS n.toNat l) p (2 ^ f.toNat) 0 = some o) :
    ∃ e, endB (nearS n.toNat l) p (2 ^ f.toNat) 0 = some e ∧ e < 2 ^ (nearS n.toNat l).length ∧ savedS n o = n - ((popc 16 e : Nat) : Int) := by
  obtain ⟨hg, h0, hf⟩ := h
  obtain ⟨hx, hn10, hn0, hnn, hnl⟩ := hg.rows
  have hB := hg.near_lt h0 hf
  have hz : disj (2 ^ f.toNat) 0 := fun i _ => by simp
  obtain ⟨e, h1, h2⟩ := playS_end hx p _ _ o hB hz ho
  refine ⟨e, h1, endB_lt hx _ _ _ _ hB hz h1, ?_⟩
  rw [savedS_is, h2, popc16 (by omega) hB, popc_pow (by omega)]
  omega
theorem lists_ev (r : List Nat) (hr : ∀ x ∈ r, x < 2 ^ 10) (hl : r.length ≤ 2000) (n : Int) (pl : List (List Int)) (a b c e : Int) (res : Bool)
    (hend : Ev (fun k => wogglelaw06_FirePlays.l0 k n pl a b c (toI r) e (r.map mem10) (r.length : Int)) res) :
    Ev (fun k => wogglelaw06_FirePlays.l0 k n pl a b c (toI r) e [] 0) res := by
  have key : ∀ (d j : Nat), j + d = r.length → Ev (fun k => wogglelaw06_FirePlays.l0 k n pl a b c (toI r) e ((r.take j).map mem10) (j : Int)) res := by
    intro d
    induction d with
    | zero =>
      intro j hj
      obtain rfl : j = r.length := by omega
      rw [List.take_length]
      exact hend
    | succ d ih =>
      intro j hj
      have hjl : j < r.length := by omega
      have hm := hr _ (List.getElem_mem hjl)
      refine Ev.step (f := fun k => (woggleref01_Members.f k ((r[j] : Nat) : Int)).bind fun t => if ((r.take j).map mem10).length < 5864062014805 then wogglelaw06_FirePlays.l0 k n pl a b c (toI r) e ((r.take j).map mem10 ++ [t]) ((j + 1 : Nat) : Int) else none) (fun k => ?_) ?_
      · simp only [wogglelaw06_FirePlays.l0]
        rw [if_pos (by rw [toI_length]; omega), if_pos (by omega), toI_rd r j hjl, wrapS (by omega)]
      · refine Ev.bind (members_ev _ hm) ?_
        have hlo : ((r.take j).map mem10).length < 5864062014805 := by rw [List.length_map, List.length_take]; omega
        simp only [if_pos hlo]
        have := ih (j + 1) (by omega)
        rw [List.take_add_one, List.getElem?_eq_getElem hjl, List.map_append] at this
        exact this
  exact key r.length 0 (by omega)
theorem mem10_short (x : Nat) : (mem10 x).length < 2 ^ 30 := by
  unfold mem10
  have := List.length_filter_le (fun i => x.testBit i) (List.range 10)
  simp at this ⊢
  omega
theorem FirePlays_ev (n : Int) (l : List S42) (f : Int) (y : List Int) (hn : n < 2 ^ 63) (_hf : (Lit.int .i64 f).wf = true) (_hy : ∀ x ∈ y, (Lit.int .i64 x).wf = true) : Ev (fun k => wogglelaw06_FirePlays.f k n l f y) true := by
  unfold wogglelaw06_FirePlays.f
  simp only [few_is, cut_is, Option.bind_some]
  obtain ⟨e, he⟩ : ∃ e, e = l.take 61 := ⟨_, rfl⟩
  have hel : e.length ≤ 61 := by rw [he]; simp; omega
  rw [← he]
  clear he
  obtain ⟨p, hp⟩ : ∃ p, p = y.take 11 := ⟨_, rfl⟩
  have hpl : p.length ≤ 11 := by rw [hp]; simp; omega
  rw [← hp]
  clear hp
  have hG := graph_ev n e (by omega) hn
  unfold fire_Play.f fire_Saved.f
  have hp1 : p.length ≤ 1000 := by omega
  simp only [if_pos hp1]
  -- the end of a bad case
  have bad : ∀ (r : Int) (rounds : List Int) (b : Int), r ≠ 0 → Ev (fun k => wogglelaw06_FirePlays.j1 k n [] r 0 r r rounds b) true := by
    intro r rounds b hr
    refine Ev.step (f := fun k => (wogglelaw06_lives.f k).bind fun t => some t) (fun k => ?_) lives_then
    simp only [wogglelaw06_FirePlays.j1]
    rw [if_neg hr]
    simp
  by_cases hg : PlayOk n e f
  · simp only [if_pos hg]
    rw [decide_eq_true hg.1] at hG
    obtain ⟨hx, hn10, hn0, hnn, hnl⟩ := hg.1.rows
    have hpow : (2 : Nat) ^ (nearS n.toNat e).length ≤ 2 ^ 10 := Nat.pow_le_pow_right (by omega) hn10
    have hR := rplay_ev hg p (by omega)
    have hB := hg.1.near_lt hg.2.1 hg.2.2
    have hf1 : ¬ f < 0 := by have := hg.2.1; omega
    have hf2 : decide (f ≥ n) = false := decide_eq_false (by have := hg.2.2; omega)
    cases ho : playR n e f p with
    | none =>
      have hno : playS (nearS n.toNat e) p (2 ^ f.toNat) 0 = none := ho
      simp only [Option.bind_some]
      refine Ev.bind hG ?_
      simp only [if_true, if_neg hf1, hf2]
      have e1 : rres (nearS n.toNat e) p (2 ^ f.toNat) 0 [] = ([], 0, false) := by unfold rres; rw [hno]
      rw [e1] at hR
      refine Ev.step (f := fun k => (woggleref06_Play.f k n e f p).bind fun bt => if bt.2.2 = true then wogglelaw06_FirePlays.j1 k n [] 2 0 2 0 bt.1 bt.2.1 else wogglelaw06_FirePlays.j1 k n [] 2 0 2 2 bt.1 bt.2.1) (fun k => ?_) ?_
      · simp only [wogglelaw06_FirePlays.j0]
        simp
      · refine Ev.bind hR ?_
        simp only [Bool.false_eq_true, if_false]
        exact bad 2 [] 0 (by omega)
    | some o =>
      have hyes : playS (nearS n.toNat e) p (2 ^ f.toNat) 0 = some o := ho
      obtain ⟨b, hb1, hb2, hb3⟩ := play_both hg p o hyes
      simp only [Option.bind_some]
      refine Ev.bind hG ?_
      simp only [if_true, if_neg hf1, hf2]
      have e1 : rres (nearS n.toNat e) p (2 ^ f.toNat) 0 [] = (toI o, (b : Int), true) := by unfold rres; rw [hyes, hb1]; rfl
      rw [e1] at hR
      have hol := playS_len _ _ _ _ _ hyes
      have hlt := playS_lt hx _ _ _ _ hB hyes
      refine Ev.step (f := fun k => (woggleref06_Play.f k n e f p).bind fun bt => if bt.2.2 = true then wogglelaw06_FirePlays.j1 k n (o.map mem10) 0 (savedS n o) 0 0 bt.1 bt.2.1 else wogglelaw06_FirePlays.j1 k n (o.map mem10) 0 (savedS n o) 0 2 bt.1 bt.2.1) (fun k => ?_) ?_
      · simp only [wogglelaw06_FirePlays.j0]
        simp
      · refine Ev.bind hR ?_
        simp only [if_true]
        refine Ev.step (f := fun k => wogglelaw06_FirePlays.l0 k n (o.map mem10) 0 (savedS n o) 0 (toI o) (b : Int) [] 0) (fun k => ?_) ?_
        · simp only [wogglelaw06_FirePlays.j1, if_true]
        · refine lists_ev o (fun x hxo => by have := hlt x hxo; omega) (by omega) _ _ _ _ _ _ _ ?_
          refine Ev.step (f := fun k => (woggleref01_SameLists.f k (o.map mem10) (o.map mem10)).bind fun t => if t = true then (woggleref06_Size.f k (b : Int)).bind fun t368 => if savedS n o = wrap64 (n - t368) then (wogglelaw06_lives.f k).bind fun t => some t else some false else some false) (fun k => ?_) ?_
          · simp only [wogglelaw06_FirePlays.l0, if_true]
            rw [if_neg (by rw [toI_length]; omega)]
          · refine Ev.bind (sameLists_ev _ (by simp; omega) (fun x hx' => by obtain ⟨y, _, rfl⟩ := List.mem_map.1 hx'; exact mem10_short y)) ?_
            simp only [if_true]
            refine Ev.bind (rsize_ev b (by omega)) ?_
            have hpb : popc 16 b ≤ 16 := popc_le16 b
            have hsv : savedS n o = wrap64 (n - ((popc 16 b : Nat) : Int)) := by rw [hb3]; unfold wrap64; omega
            simp only [if_pos hsv]
            exact lives_then
  · simp only [if_neg hg]
    simp only [Option.bind_some]
    refine Ev.bind hG ?_
    have bad0 : Ev (fun k => wogglelaw06_FirePlays.j0 k f n e p [] 1 0 1 0 [] 0 true) true := by
      refine Ev.step (f := fun k => wogglelaw06_FirePlays.j1 k n [] 1 0 1 1 [] 0) (fun k => ?_) (bad 1 [] 0 (by omega))
      simp only [wogglelaw06_FirePlays.j0, if_true]
    by_cases h1 : GoodG n e
    · simp only [h1, decide_true, if_true]
      by_cases h2 : f < 0
      · simp only [if_pos h2]; exact bad0
      · have hge : decide (f ≥ n) = true := by
          have : ¬ (f < n) := fun h => hg ⟨h1, by omega, h⟩
          simp; omega
        simp only [if_neg h2, hge]
        exact bad0
    · simp only [h1, decide_false, Bool.false_eq_true, if_false]
      exact bad0
end Go.Proofs.YtbgpnkchbcgekaaDoor.Fi
end
