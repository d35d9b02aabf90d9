/- Plain: the reference's comparisons in plain words. -/
import Derived.Test.YtjkfjnempofihaaQPgQA
import Derived.Test.YtjkfjnempofihaaQPgFi1
import Derived.Test.YtjkfjnempofihaaQPgFi2
namespace Go.Proofs.Ytjkfjnempofihaa.Fi
open Go.RowKit Go.Proofs.YtjkfjnempofihaaW.PrintWords Go.Proofs.YtjkfjnempofihaaW.PrintLast Go.Proofs.YtjkfjnempofihaaW.PrintMore
set_option linter.unusedVariables false
set_option linter.unusedSimpArgs false
/-- Before, in lexicographic order. -/
def lexLt : List Int → List Int → Bool
  | [], [] => false
  | [], _ :: _ => true
  | _ :: _, [] => false
  | a :: l, b :: m => if a = b then lexLt l m else decide (a < b)
theorem lexLt_irr : ∀ l : List Int, lexLt l l = false
  | [] => rfl
  | a :: l => by rw [lexLt, if_pos rfl]; exact lexLt_irr l
theorem before_ev (l m : List Int) (hl : l.length < 2 ^ 30) : Ev (fun k => woggleref01_Before.f k l m) (lexLt l m) := by
  have key : ∀ (a b p q : List Int), p.length = q.length → p.length + a.length < 2 ^ 30 → Ev (fun k => woggleref01_Before.l0 k (p ++ a) (q ++ b) (p.length : Int)) (lexLt a b) := by
    intro a
    induction a with
    | nil =>
      intro b p q hpq hpl
      refine Ev.step (f := fun k => woggleref01_Before.j1 k (p ++ []) (q ++ b) (p.length : Int) false) (fun k => ?_) ?_
      · simp only [woggleref01_Before.l0]
        rw [if_neg (by simp)]
      · refine Ev.step (f := fun _ => some (lexLt [] b)) (fun k => ?_) (Ev.now _)
        simp only [woggleref01_Before.j1]
        rw [if_neg (by simp)]
        cases b with
        | nil => simp [lexLt, hpq]
        | cons y b => simp [lexLt, hpq]; omega
    | cons x a ih =>
      intro b p q hpq hpl
      cases b with
      | nil =>
        refine Ev.step (f := fun k => woggleref01_Before.j1 k (p ++ x :: a) (q ++ []) (p.length : Int) false) (fun k => ?_) ?_
        · simp only [woggleref01_Before.l0]
          rw [if_pos (by simp; omega)]
          congr 1
          simp [hpq]
        · refine Ev.step (f := fun _ => some (lexLt (x :: a) [])) (fun k => ?_) (Ev.now _)
          simp only [woggleref01_Before.j1]
          rw [if_neg (by simp)]
          simp [lexLt, hpq]; omega
      | cons y b =>
        have e0 : rd (p ++ x :: a) (p.length : Int) = x := by unfold rd; simp [List.getD_eq_getElem?_getD]
        have e1 : rd (q ++ y :: b) (p.length : Int) = y := by rw [hpq]; unfold rd; simp [List.getD_eq_getElem?_getD]
        refine Ev.step (f := fun k => woggleref01_Before.j1 k (p ++ x :: a) (q ++ y :: b) (p.length : Int) true) (fun k => ?_) ?_
        · simp only [woggleref01_Before.l0]
          rw [if_pos (by simp; omega)]
          congr 1
          simp [hpq]; omega
        · by_cases hxy : x = y
          · subst hxy
            have ih' := ih b (p ++ [x]) (q ++ [x]) (by simp [hpq]) (by simp at hpl ⊢; omega)
            refine Ev.step (f := fun k => woggleref01_Before.l0 k (p ++ x :: a) (q ++ x :: b) ((p ++ [x]).length : Int)) (fun k => ?_) ?_
            · simp only [woggleref01_Before.j1]
              rw [if_pos trivial, if_pos (by omega), if_pos (by simp; omega), if_pos (by rw [hpq]; simp; omega), e0, e1, if_pos rfl, wrapS (by simp at hpl; omega)]
              simp
            · rw [lexLt, if_pos rfl]
              simpa using ih'
          · refine Ev.step (f := fun _ => some (decide (x < y))) (fun k => ?_) ?_
            · simp only [woggleref01_Before.j1]
              rw [if_pos trivial, if_pos (by omega), if_pos (by simp; omega), if_pos (by rw [hpq]; simp; omega), e0, e1, if_neg hxy]
            · rw [lexLt, if_neg hxy]; exact Ev.now _
  exact key l m [] [] rfl (by simpa using hl)
theorem lexLt_tot : ∀ l m : List Int, lexLt l m = false → lexLt m l = false → l = m
  | [], [], _, _ => rfl
  | [], _ :: _, h, _ => by simp [lexLt] at h
  | _ :: _, [], _, h => by simp [lexLt] at h
  | a :: l, b :: m, h1, h2 => by
    rw [lexLt] at h1 h2
    by_cases e : a = b
    · subst e
      rw [if_pos rfl] at h1 h2
      rw [lexLt_tot l m h1 h2]
    · rw [if_neg e, decide_eq_false_iff_not] at h1
      rw [if_neg (fun h => e h.symm), decide_eq_false_iff_not] at h2
      omega
theorem lexLt_tr : ∀ l m k : List Int, lexLt l m = true → lexLt m k = true → lexLt l k = true
  | [], [], _, h, _ => by simp [lexLt] at h
  | [], _ :: _, [], _, h => by simp [lexLt] at h
  | [], _ :: _, _ :: _, _, _ => rfl
  | _ :: _, [], _, h, _ => by simp [lexLt] at h
  | _ :: _, _ :: _, [], _, h => by simp [lexLt] at h
  | a :: l, b :: m, c :: k, h1, h2 => by
    rw [lexLt] at h1 h2 ⊢
    by_cases e1 : a = b
    · subst e1
      rw [if_pos rfl] at h1
      by_cases e2 : a = c
      · subst e2
        rw [if_pos rfl] at h2 ⊢
        exact lexLt_tr l m k h1 h2
      · rw [if_neg e2] at h2 ⊢
        exact h2
    · rw [if_neg e1, decide_eq_true_iff] at h1
      by_cases e2 : b = c
      · subst e2
        rw [if_neg e1, decide_eq_true_iff]
        exact h1
      · rw [if_neg e2, decide_eq_true_iff] at h2
        rw [if_neg (by omega), decide_eq_true_iff]
        omega
theorem same_ev2 (l m : List Int) (hl : l.length < 2 ^ 30) (hm : m.length < 2 ^ 30) : Ev (fun k => woggleref01_Same.f k l m) (decide (l = m)) := by
  unfold woggleref01_Same.f
  refine Ev.bind (before_ev l m hl) ?_
  cases h1 : lexLt l m with
  | true =>
    simp only [if_true]
    rw [decide_eq_false (fun e => by rw [e, lexLt_irr] at h1; cases h1)]
    exact Ev.now _
  | false =>
    simp only [Bool.false_eq_true, if_false]
    refine Ev.bind (before_ev m l hm) ?_
    cases h2 : lexLt m l with
    | true =>
      rw [decide_eq_false (fun e => by rw [e, lexLt_irr] at h2; cases h2)]
      exact Ev.now _
    | false =>
      rw [decide_eq_true (lexLt_tot l m h1 h2)]
      exact Ev.now _
theorem same_ev (l : List Int) (hl : l.length < 2 ^ 30) : Ev (fun k => woggleref01_Same.f k l l) true := by
  have h := same_ev2 l l hl hl
  rwa [decide_eq_true rfl] at h
theorem sameLists_ev (l : List (List Int)) (hl : l.length < 2 ^ 30) (hl2 : ∀ x ∈ l, x.length < 2 ^ 30) : Ev (fun k => woggleref01_SameLists.f k l l) true := by
  have key : ∀ (d j : Nat), j + d = l.length → Ev (fun k => woggleref01_SameLists.l0 k l l (j : Int)) true := by
    intro d
    induction d with
    | zero =>
      intro j hj
      refine Ev.step (f := fun _ => some true) (fun k => ?_) (Ev.now _)
      simp only [woggleref01_SameLists.l0]
      rw [if_neg (by omega)]
    | succ d ih =>
      intro j hj
      have hmem : (rd_L1 l (j : Int)).length < 2 ^ 30 := by
        unfold rd_L1
        rw [Int.toNat_natCast, List.getD_eq_getElem?_getD, List.getElem?_eq_getElem (by omega)]
        exact hl2 _ (List.getElem_mem _)
      refine Ev.step (f := fun k => (woggleref01_Same.f k (rd_L1 l (j : Int)) (rd_L1 l (j : Int))).bind fun t => if t = true then woggleref01_SameLists.l0 k l l ((j + 1 : Nat) : Int) else some false) (fun k => ?_) ?_
      · simp only [woggleref01_SameLists.l0]
        rw [if_pos (by omega), if_pos (by omega), if_pos (by omega), wrapS (by omega)]
        rfl
      · refine Ev.bind (same_ev _ hmem) ?_
        simp only [if_true]
        exact ih (j + 1) (by omega)
  have k := key l.length 0 (by omega)
  refine Ev.congr (fun k => ?_) k
  unfold woggleref01_SameLists.f
  rw [if_pos rfl]
  rfl
/-- Divides, of lists. -/
def divL : List Int → List Int → Bool
  | a :: l, b :: m => decide (a ≤ b) && divL l m
  | [], _ => true
  | _ :: _, [] => false
theorem div_ev (l m : List Int) (hl : l.length < 2 ^ 30) (hlm : l.length ≤ m.length) : Ev (fun k => woggleref04_Divides.f k l m) (divL l m) := by
  have key : ∀ (a b p q : List Int), p.length = q.length → a.length ≤ b.length → p.length + a.length < 2 ^ 30 → Ev (fun k => woggleref04_Divides.l0 k (p ++ a) (q ++ b) (p.length : Int)) (divL a b) := by
    intro a
    induction a with
    | nil =>
      intro b p q hpq _ hpl
      refine Ev.step (f := fun _ => some true) (fun k => ?_) (by rw [divL]; exact Ev.now _)
      simp only [woggleref04_Divides.l0]
      rw [if_neg (by simp)]
    | cons x a ih =>
      intro b p q hpq hab hpl
      cases b with
      | nil => simp at hab
      | cons y b =>
        have e0 : rd (p ++ x :: a) (p.length : Int) = x := by unfold rd; simp [List.getD_eq_getElem?_getD]
        have e1 : rd (q ++ y :: b) (p.length : Int) = y := by rw [hpq]; unfold rd; simp [List.getD_eq_getElem?_getD]
        by_cases hxy : x ≤ y
        · have ih' := ih b (p ++ [x]) (q ++ [y]) (by simp [hpq]) (by simpa using hab) (by simp at hpl ⊢; omega)
          refine Ev.step (f := fun k => woggleref04_Divides.l0 k (p ++ x :: a) (q ++ y :: b) ((p ++ [x]).length : Int)) (fun k => ?_) ?_
          · simp only [woggleref04_Divides.l0]
            rw [if_pos (by simp; omega), if_pos (by omega), if_pos (by rw [hpq]; simp; omega), e0, e1, if_neg (by omega), wrapS (by simp at hpl; omega)]
            simp
          · rw [divL, decide_eq_true hxy, Bool.true_and]
            simpa using ih'
        · refine Ev.step (f := fun _ => some false) (fun k => ?_) (by rw [divL, decide_eq_false hxy, Bool.false_and]; exact Ev.now _)
          simp only [woggleref04_Divides.l0]
          rw [if_pos (by simp; omega), if_pos (by omega), if_pos (by rw [hpq]; simp; omega), e0, e1, if_pos (by omega)]
  exact key l m [] [] rfl hlm (by simpa using hl)
theorem divL_refl : ∀ l : List Int, divL l l = true
  | [] => rfl
  | a :: l => by rw [divL, divL_refl l]; simp
/-- Has, of lists. -/
def hasL (gens : List (List Int)) (m : List Int) : Bool := gens.any fun g => divL g m
theorem rd_L1_get (l : List (List Int)) (j : Nat) (h : j < l.length) : rd_L1 l (j : Int) = l[j] := by
  unfold rd_L1
  rw [Int.toNat_natCast, List.getD_eq_getElem?_getD, List.getElem?_eq_getElem h]
  rfl
theorem has_ev (gens : List (List Int)) (m : List Int) (hg : gens.length < 2 ^ 30) (hm : m.length < 2 ^ 30) (hl : ∀ g ∈ gens, g.length ≤ m.length) : Ev (fun k => woggleref04_Has.f k gens m) (hasL gens m) := by
  have key : ∀ (d j : Nat), j + d = gens.length → Ev (fun k => woggleref04_Has.l0 k gens m (j : Int)) ((gens.drop j).any fun g => divL g m) := by
    intro d
    induction d with
    | zero =>
      intro j hj
      rw [List.drop_eq_nil_of_le (by omega)]
      refine Ev.step (f := fun _ => some false) (fun k => ?_) (Ev.now _)
      simp only [woggleref04_Has.l0]
      rw [if_neg (by omega)]
    | succ d ih =>
      intro j hj
      have hjl : j < gens.length := by omega
      have hmem := hl _ (List.getElem_mem hjl)
      rw [List.drop_eq_getElem_cons hjl, List.any_cons]
      refine Ev.step (f := fun k => (woggleref04_Divides.f k gens[j] m).bind fun t => if t = true then some true else woggleref04_Has.l0 k gens m ((j + 1 : Nat) : Int)) (fun k => ?_) ?_
      · simp only [woggleref04_Has.l0]
        rw [if_pos (by omega), if_pos (by omega), wrapS (by omega), rd_L1_get _ _ hjl]
        rfl
      · refine Ev.bind (div_ev _ _ (by omega) hmem) ?_
        cases hd : divL gens[j] m with
        | true => simp only [if_true, Bool.true_or]; exact Ev.now _
        | false => simp only [Bool.false_eq_true, if_false, Bool.false_or]; exact ih (j + 1) (by omega)
  exact key gens.length 0 (by omega)
/-- Of lists of one length, the printed words are those of monomials. -/
theorem divL_pad : ∀ (n : Nat), n ≤ 4 → ∀ a c : List Int, a.length = n → c.length = n → divL a c = divM (padM a) (padM c) := by
  intro n hn a c ha hc
  rw [Bool.eq_iff_iff, divM_iff]
  unfold dv padM
  rcases (show n = 0 ∨ n = 1 ∨ n = 2 ∨ n = 3 ∨ n = 4 by omega) with rfl | rfl | rfl | rfl | rfl
  · obtain rfl := List.length_eq_zero_iff.1 ha
    obtain rfl := List.length_eq_zero_iff.1 hc
    simp [divL]
  · match a, ha, c, hc with
    | [a0], _, [c0], _ => simp [divL]
  · match a, ha, c, hc with
    | [a0, a1], _, [c0, c1], _ => simp [divL]
  · match a, ha, c, hc with
    | [a0, a1, a2], _, [c0, c1, c2], _ => simp [divL]
  · match a, ha, c, hc with
    | [a0, a1, a2, a3], _, [c0, c1, c2, c3], _ => simp [divL]
theorem lexLt_pad : ∀ (n : Nat), n ≤ 4 → ∀ a c : List Int, a.length = n → c.length = n → (lexLt a c = true ↔ ltM (padM a) (padM c)) := by
  intro n hn a c ha hc
  unfold ltM padM
  rcases (show n = 0 ∨ n = 1 ∨ n = 2 ∨ n = 3 ∨ n = 4 by omega) with rfl | rfl | rfl | rfl | rfl
  · obtain rfl := List.length_eq_zero_iff.1 ha
    obtain rfl := List.length_eq_zero_iff.1 hc
    simp [lexLt]
  · match a, ha, c, hc with
    | [a0], _, [c0], _ => simp [lexLt]; omega
  · match a, ha, c, hc with
    | [a0, a1], _, [c0, c1], _ => simp [lexLt]; split <;> (try split) <;> (try simp) <;> omega
  · match a, ha, c, hc with
    | [a0, a1, a2], _, [c0, c1, c2], _ => simp [lexLt]; split <;> (try split) <;> (try split) <;> (try simp) <;> omega
  · match a, ha, c, hc with
    | [a0, a1, a2, a3], _, [c0, c1, c2, c3], _ => simp [lexLt]; split <;> (try split) <;> (try split) <;> (try split) <;> (try simp) <;> omega
theorem pad_inj {n : Nat} (hn : n ≤ 4) {a c : List Int} (ha : a.length = n) (hc : c.length = n) (h : padM a = padM c) : a = c := by
  refine lexLt_tot a c ?_ ?_
  · rw [← Bool.not_eq_true, lexLt_pad n hn a c ha hc, h]; exact ltM_irr _
  · rw [← Bool.not_eq_true, lexLt_pad n hn c a hc ha, h]; exact ltM_irr _
theorem cut_pad {n : Nat} (hn : n ≤ 4) {a : List Int} (ha : a.length = n) : cutM n (padM a) = a := by
  unfold cutM tl padM
  rcases (show n = 0 ∨ n = 1 ∨ n = 2 ∨ n = 3 ∨ n = 4 by omega) with rfl | rfl | rfl | rfl | rfl
  · obtain rfl := List.length_eq_zero_iff.1 ha
    rfl
  · match a, ha with
    | [a0], _ => rfl
  · match a, ha with
    | [a0, a1], _ => rfl
  · match a, ha with
    | [a0, a1, a2], _ => rfl
  · match a, ha with
    | [a0, a1, a2, a3], _ => rfl
end Go.Proofs.Ytjkfjnempofihaa.Fi
