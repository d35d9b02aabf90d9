/- The reference's printed functions in plain words. -/
import Derived.Test.YtbgpnkchbcgekaaDoorQFbP4
import Derived.Test.YtbgpnkchbcgekaaDoorQFbFi2
import Derived.Test.YtbgpnkchbcgekaaDoorQFbFi4
import Derived.Test.YtbgpnkchbcgekaaDoorQFbHc2
namespace Go.Proofs.YtbgpnkchbcgekaaDoor.Fi
open Go.RowKit Go.Proofs.YtbgpnkchbcgekaaDoorW.PrintWords Go.Proofs.YtbgpnkchbcgekaaDoorW.PrintLast Go.Proofs.YtbgpnkchbcgekaaDoorW.PrintMore Wog
set_option linter.unusedVariables false
theorem few_is (n : Int) (l : List S42) : wogglelaw06_Graph_few.f n l = some (n, l.take 61) := by
  unfold wogglelaw06_Graph_few.f
  have hm : mn (l.length : Int) 61 = ((min l.length 61 : Nat) : Int) := by unfold mn; split <;> omega
  rw [Option.bind_some, hm, if_pos (by omega), if_pos (by omega), Option.bind_some, if_pos (by simp; omega)]
  rw [Int.toNat_natCast]
  simp [Nat.min_comm]
theorem lexLt_irr : ∀ l : List Int, lexLt l l = false
  | [] => rfl
  | a :: l => by rw [lexLt, if_pos rfl]; exact lexLt_irr l
theorem before_ev (l m : List Int) (hl : l.length < 2 ^ 30) : Ev (fun k => woggleref01_Before.f k l m) (lexLt l m) := by
  have key : ∀ (a b p q : List Int), p.length = q.length → p.length + a.length < 2 ^ 30 → Ev (fun k => woggleref01_Before.l0 k (p ++ a) (q ++ b) (p.length : Int)) (lexLt a b) := by
    intro a
    induction a with
    | nil =>
      intro b p q hpq hpl
      refine Ev.step (f := fun k => woggleref01_Before.j1 k (p ++ []) (q ++ b) (p.length : Int) false) (fun k => ?_) ?_
      · simp only [woggleref01_Before.l0]
        rw [if_neg (by simp)]
      · refine Ev.step (f := fun _ => some (lexLt [] b)) (fun k => ?_) (Ev.now _)
        simp only [woggleref01_Before.j1]
        rw [if_neg (by simp)]
        cases b with
        | nil => simp [lexLt, hpq]
        | cons y b => simp [lexLt, hpq]; omega
    | cons x a ih =>
      intro b p q hpq hpl
      cases b with
      | nil =>
        refine Ev.step (f := fun k => woggleref01_Before.j1 k (p ++ x :: a) (q ++ []) (p.length : Int) false) (fun k => ?_) ?_
        · simp only [woggleref01_Before.l0]
          rw [if_pos (by simp; omega)]
          congr 1
          simp [hpq]
        · refine Ev.step (f := fun _ => some (lexLt (x :: a) [])) (fun k => ?_) (Ev.now _)
          simp only [woggleref01_Before.j1]
          rw [if_neg (by simp)]
          simp [lexLt, hpq]; omega
      | cons y b =>
        have e0 : rd (p ++ x :: a) (p.length : Int) = x := by unfold rd; simp [List.getD_eq_getElem?_getD]
        have e1 : rd (q ++ y :: b) (p.length : Int) = y := by rw [hpq]; unfold rd; simp [List.getD_eq_getElem?_getD]
        refine Ev.step (f := fun k => woggleref01_Before.j1 k (p ++ x :: a) (q ++ y :: b) (p.length : Int) true) (fun k => ?_) ?_
        · simp only [woggleref01_Before.l0]
          rw [if_pos (by simp; omega)]
          congr 1
          simp [hpq]; omega
        · by_cases hxy : x = y
          · subst hxy
            have ih' := ih b (p ++ [x]) (q ++ [x]) (by simp [hpq]) (by simp at hpl ⊢; omega)
            refine Ev.step (f := fun k => woggleref01_Before.l0 k (p ++ x :: a) (q ++ x :: b) ((p ++ [x]).length : Int)) (fun k => ?_) ?_
            · simp only [woggleref01_Before.j1]
              rw [if_pos trivial, if_pos (by omega), if_pos (by simp; omega), if_pos (by rw [hpq]; simp; omega), e0, e1, if_pos rfl, wrapS (by simp at hpl; omega)]
              simp
            · rw [lexLt, if_pos rfl]
              simpa using ih'
          · refine Ev.step (f := fun _ => some (decide (x < y))) (fun k => ?_) ?_
            · simp only [woggleref01_Before.j1]
              rw [if_pos trivial, if_pos (by omega), if_pos (by simp; omega), if_pos (by rw [hpq]; simp; omega), e0, e1, if_neg hxy]
            · rw [lexLt, if_neg hxy]; exact Ev.now _
  exact key l m [] [] rfl (by simpa using hl)
theorem same_ev (l : List Int) (hl : l.length < 2 ^ 30) : Ev (fun k => woggleref01_Same.f k l l) true := by
  unfold woggleref01_Same.f
  refine Ev.bind (before_ev l l hl) ?_
  simp only [lexLt_irr, Bool.false_eq_true, if_false]
  refine Ev.bind (before_ev l l hl) ?_
  simp only [lexLt_irr]
  exact Ev.now _
theorem sameLists_ev (l : List (List Int)) (hl : l.length < 2 ^ 30) (hl2 : ∀ x ∈ l, x.length < 2 ^ 30) : Ev (fun k => woggleref01_SameLists.f k l l) true := by
  have key : ∀ (d j : Nat), j + d = l.length → Ev (fun k => woggleref01_SameLists.l0 k l l (j : Int)) true := by
    intro d
    induction d with
    | zero =>
      intro j hj
      refine Ev.step (f := fun _ => some true) (fun k => ?_) (Ev.now _)
      simp only [woggleref01_SameLists.l0]
      rw [if_neg (by omega)]
    | succ d ih =>
      intro j hj
      have hmem : (rd_L4 l (j : Int)).length < 2 ^ 30 := by
        unfold rd_L4
        rw [Int.toNat_natCast, List.getD_eq_getElem?_getD, List.getElem?_eq_getElem (by omega)]
        exact hl2 _ (List.getElem_mem _)
      refine Ev.step (f := fun k => (woggleref01_Same.f k (rd_L4 l (j : Int)) (rd_L4 l (j : Int))).bind fun t => if t = true then woggleref01_SameLists.l0 k l l ((j + 1 : Nat) : Int) else some false) (fun k => ?_) ?_
      · simp only [woggleref01_SameLists.l0]
        rw [if_pos (by omega), if_pos (by omega), if_pos (by omega), wrapS (by omega)]
      · refine Ev.bind (same_ev _ hmem) ?_
        simp only [if_true]
        exact ih (j + 1) (by omega)
  have k := key l.length 0 (by omega)
  refine Ev.congr (fun k => ?_) k
  unfold woggleref01_SameLists.f
  rw [if_pos rfl]
  rfl
theorem graph_low (n : Int) (l : List S42) (hl : l.length < 2 ^ 30) (hn : n < 1) : Ev (fun k => woggleref06_Graph.f k n l) false := by
  have key : ∀ (d j : Nat), j + d = l.length → Ev (fun k => woggleref06_Graph.l0 k n l (j : Int)) false := by
    intro d
    induction d with
    | zero =>
      intro j hj
      refine Ev.step (f := fun _ => some false) (fun k => ?_) (Ev.now _)
      simp only [woggleref06_Graph.l0]
      rw [if_neg (by omega)]
      unfold woggleref06_in.f
      rw [if_neg (by omega), Option.bind_some, if_neg (by simp)]
    | succ d ih =>
      intro j hj
      have ih' := ih (j + 1) (by omega)
      have hin : ∀ a b c, ∃ r, woggleref06_in.f a b c = some r := fun a b c => by unfold woggleref06_in.f; split <;> exact ⟨_, rfl⟩
      obtain ⟨r1, hr1⟩ := hin (rd_T42 l (j : Int)).f0 0 (wrap64 (n - 1))
      obtain ⟨r2, hr2⟩ := hin (rd_T42 l (j : Int)).f1 0 (wrap64 (n - 1))
      have hst : ∀ k, woggleref06_Graph.l0 (k + 1) n l (j : Int) = if r1 = true then (if r2 = true then (if (rd_T42 l (j : Int)).f0 = (rd_T42 l (j : Int)).f1 then some false else woggleref06_Graph.l0 k n l ((j + 1 : Nat) : Int)) else some false) else some false := by
        intro k
        simp only [woggleref06_Graph.l0]
        rw [if_pos (by omega), if_pos (by omega), hr1, Option.bind_some, hr2, wrapS (by omega)]
        rfl
      by_cases h1 : r1 = true
      · by_cases h2 : r2 = true
        · by_cases h3 : (rd_T42 l (j : Int)).f0 = (rd_T42 l (j : Int)).f1
          · exact Ev.step (f := fun _ => some false) (fun k => by rw [hst, if_pos h1, if_pos h2, if_pos h3]) (Ev.now _)
          · exact Ev.step (fun k => by rw [hst, if_pos h1, if_pos h2, if_neg h3]) ih'
        · exact Ev.step (f := fun _ => some false) (fun k => by rw [hst, if_pos h1, if_neg h2]) (Ev.now _)
      · exact Ev.step (f := fun _ => some false) (fun k => by rw [hst, if_neg h1]) (Ev.now _)
  exact key l.length 0 (by omega)
theorem graph_ev (n : Int) (l : List S42) (hl : l.length < 2 ^ 30) (hn : n < 2 ^ 63) : Ev (fun k => woggleref06_Graph.f k n l) (decide (GoodG n l)) := by
  by_cases hn1 : n < 1
  · have k := graph_low n l hl hn1
    rwa [show decide (GoodG n l) = false from decide_eq_false (fun h => by have := h.1; omega)]
  have hw : wrap64 (n - 1) = n - 1 := by unfold wrap64; omega
  have key : ∀ (d j : Nat), j + d = l.length → (∀ x ∈ l.take j, okE n.toNat x) → Ev (fun k => woggleref06_Graph.l0 k n l (j : Int)) (decide (GoodG n l)) := by
    intro d
    induction d with
    | zero =>
      intro j hj hall
      refine Ev.step (f := fun _ => some (decide (GoodG n l))) (fun k => ?_) (Ev.now _)
      simp only [woggleref06_Graph.l0]
      rw [if_neg (by omega)]
      unfold woggleref06_in.f
      have hall' : ∀ x ∈ l, okE n.toNat x := by rwa [List.take_of_length_le (by omega)] at hall
      by_cases h1 : n ≥ 1
      · rw [if_pos h1, Option.bind_some]
        by_cases h2 : n ≤ 10
        · simp only [h2, decide_true, if_true]
          congr 1
          rw [Bool.eq_iff_iff, decide_eq_true_iff, decide_eq_true_iff]
          constructor
          · intro h; exact ⟨by omega, h2, by omega, hall'⟩
          · intro h; have := h.2.2.1; omega
        · simp only [h2, decide_false]
          rw [if_neg (by simp)]
          congr 1
          symm
          rw [decide_eq_false_iff_not]
          intro h; exact h2 h.2.1
      · rw [if_neg h1, Option.bind_some, if_neg (by simp)]
        congr 1
        symm
        rw [decide_eq_false_iff_not]
        intro h; exact h1 h.1
    | succ d ih =>
      intro j hj hall
      have hjl : j < l.length := by omega
      obtain ⟨e, he⟩ : ∃ e, e = rd_T42 l (j : Int) := ⟨_, rfl⟩
      have hmem : e ∈ l := by rw [he, rd_mem hjl]; exact List.getElem_mem _
      have hno : ¬ okE n.toNat e → (decide (GoodG n l)) = false := fun h => by rw [decide_eq_false_iff_not]; intro hg; exact h (hg.2.2.2 e hmem)
      have hst : ∀ k, woggleref06_Graph.l0 (k + 1) n l (j : Int) = if okE n.toNat e then woggleref06_Graph.l0 k n l ((j + 1 : Nat) : Int) else some false := by
        intro k
        simp only [woggleref06_Graph.l0]
        rw [if_pos (by omega), if_pos (by omega), ← he, hw, wrapS (by omega)]
        unfold woggleref06_in.f
        by_cases a1 : e.f0 ≥ 0
        · rw [if_pos a1, Option.bind_some]
          by_cases a2 : e.f0 ≤ n - 1
          · simp only [a2, decide_true, if_true]
            by_cases a3 : e.f1 ≥ 0
            · rw [if_pos a3, Option.bind_some]
              by_cases a4 : e.f1 ≤ n - 1
              · simp only [a4, decide_true, if_true]
                by_cases a5 : e.f0 = e.f1
                · rw [if_pos a5, if_neg (by unfold okE; omega)]
                · rw [if_neg a5, if_pos (by unfold okE; omega)]
              · simp only [a4, decide_false]
                rw [if_neg (by simp), if_neg (by unfold okE; omega)]
            · rw [if_neg a3, Option.bind_some, if_neg (by simp), if_neg (by unfold okE; omega)]
          · simp only [a2, decide_false]
            rw [if_neg (by simp), if_neg (by unfold okE; omega)]
        · rw [if_neg a1, Option.bind_some, if_neg (by simp), if_neg (by unfold okE; omega)]
      by_cases ok : okE n.toNat e
      · refine Ev.step (f := fun k => woggleref06_Graph.l0 k n l ((j + 1 : Nat) : Int)) (fun k => by rw [hst, if_pos ok]) (ih (j + 1) (by omega) (all_snoc hjl hall (by rw [← he]; exact ok)))
      · refine Ev.step (f := fun _ => some false) (fun k => by rw [hst, if_neg ok]) ?_
        rw [hno ok]; exact Ev.now _
  exact key l.length 0 (by omega) (by simp)
end Go.Proofs.YtbgpnkchbcgekaaDoor.Fi
