/- Texts of this claim, joined: P5, P6, P7, P8, L1, L2 -/
import Derived.Test.YtbgpnkchbcgekaaDoorQFuP4
import Derived.Test.YtbgpnkchbcgekaaDoorQFuFi2
import Derived.Test.YtbgpnkchbcgekaaDoorQFuFi4
import Derived.Test.YtbgpnkchbcgekaaDoorQFuHc2
import Derived.Test.YtbgpnkchbcgekaaDoorQFuHbr
import Derived.Test.YtbgpnkchbcgekaaDoorQFuS6
import Derived.Test.YtbgpnkchbcgekaaDoorQFuFi6
import Derived.Test.YtbgpnkchbcgekaaDoorQFuFi7
import Derived.Test.YtbgpnkchbcgekaaDoorQFuFi9
import Derived.Test.YtbgpnkchbcgekaaDoorQFuFi14
section
namespace Go.Proofs.YtbgpnkchbcgekaaDoor.Fi
open Go.RowKit Go.Proofs.YtbgpnkchbcgekaaDoorW.PrintWords Go.Proofs.YtbgpnkchbcgekaaDoorW.PrintLast Go.Proofs.YtbgpnkchbcgekaaDoorW.PrintMore Wog
set_option linter.unusedVariables false
theorem few_is (n : Int) (l : List S42) : wogglelaw06_Graph_few.f n l = some (n, l.take 61) := by
  unfold wogglelaw06_Graph_few.f
  have hm : mn (l.length : Int) 61 = ((min l.length 61 : Nat) : Int) := by unfold mn; split <;> omega
  rw [Option.bind_some, hm, if_pos (by omega), if_pos (by omega), Option.bind_some, if_pos (by simp; omega)]
  rw [Int.toNat_natCast]
  simp [Nat.min_comm]
theorem lexLt_irr : ∀ l : List Int, lexLt l l = false
  | [] => rfl
  | a :: l => by rw [lexLt, if_pos rfl]; exact lexLt_irr l
theorem before_ev (l m : List Int) (hl : l.length < 2 ^ 30) : Ev (fun k => woggleref01_Before.f k l m) (lexLt l m) := by
  have key : ∀ (a b p q : List Int), p.length = q.length → p.length + a.length < 2 ^ 30 → Ev (fun k => woggleref01_Before.l0 k (p ++ a) (q ++ b) (p.length : Int)) (lexLt a b) := by
    intro a
    induction a with
    | nil =>
      intro b p q hpq hpl
      refine Ev.step (f := fun k => woggleref01_Before.j1 k (p ++ []) (q ++ b) (p.length : Int) false) (fun k => ?_) ?_
      · simp only [woggleref01_Before.l0]
        rw [if_neg (by simp)]
      · refine Ev.step (f := fun _ => some (lexLt [] b)) (fun k => ?_) (Ev.now _)
        simp only [woggleref01_Before.j1]
        rw [if_neg (by simp)]
        cases b with
        | nil => simp [lexLt, hpq]
        | cons y b => simp [lexLt, hpq]; omega
    | cons x a ih =>
      intro b p q hpq hpl
      cases b with
      | nil =>
        refine Ev.step (f := fun k => woggleref01_Before.j1 k (p ++ x :: a) (q ++ []) (p.length : Int) false) (fun k => ?_) ?_
        · simp only [woggleref01_Before.l0]
          rw [if_pos (by simp; omega)]
          congr 1
          simp [hpq]
        · refine Ev.step (f := fun _ => some (lexLt (x :: a) [])) (fun k => ?_) (Ev.now _)
          simp only [woggleref01_Before.j1]
          rw [if_neg (by simp)]
          simp [lexLt, hpq]; omega
      | cons y b =>
        have e0 : rd (p ++ x :: a) (p.length : Int) = x := by unfold rd; simp [List.getD_eq_getElem?_getD]
        have e1 : rd (q ++ y :: b) (p.length : Int) = y := by rw [hpq]; unfold rd; simp [List.getD_eq_getElem?_getD]
        refine Ev.step (f := fun k => woggleref01_Before.j1 k (p ++ x :: a) (q ++ y :: b) (p.length : Int) true) (fun k => ?_) ?_
        · simp only [woggleref01_Before.l0]
          rw [if_pos (by simp; omega)]
          congr 1
          simp [hpq]; omega
        · by_cases hxy : x = y
          · subst hxy
            have ih' := ih b (p ++ [x]) (q ++ [x]) (by simp [hpq]) (by simp at hpl ⊢; omega)
            refine Ev.step (f := fun k => woggleref01_Before.l0 k (p ++ x :: a) (q ++ x :: b) ((p ++ [x]).length : Int)) (fun k => ?_) ?_
            · simp only [woggleref01_Before.j1]
              rw [if_pos trivial, if_pos (by omega), if_pos (by simp; omega), if_pos (by rw [hpq]; simp; omega), e0, e1, if_pos rfl, wrapS (by simp at hpl; omega)]
              simp
            · rw [lexLt, if_pos rfl]
              simpa using ih'
          · refine Ev.step (f := fun _ => some (decide (x < y))) (fun k => ?_) ?_
            · simp only [woggleref01_Before.j1]
              rw [if_pos trivial, if_pos (by omega), if_pos (by simp; omega), if_pos (by rw [hpq]; simp; omega), e0, e1, if_neg hxy]
            · rw [lexLt, if_neg hxy]; exact Ev.now _
  exact key l m [] [] rfl (by simpa using hl)
theorem same_ev (l : List Int) (hl : l.length < 2 ^ 30) : Ev (fun k => woggleref01_Same.f k l l) true := by
  unfold woggleref01_Same.f
  refine Ev.bind (before_ev l l hl) ?_
  simp only [lexLt_irr, Bool.false_eq_true, if_false]
  refine Ev.bind (before_ev l l hl) ?_
  simp only [lexLt_irr]
  exact Ev.now _
theorem sameLists_ev (l : List (List Int)) (hl : l.length < 2 ^ 30) (hl2 : ∀ x ∈ l, x.length < 2 ^ 30) : Ev (fun k => woggleref01_SameLists.f k l l) true := by
  have key : ∀ (d j : Nat), j + d = l.length → Ev (fun k => woggleref01_SameLists.l0 k l l (j : Int)) true := by
    intro d
    induction d with
    | zero =>
      intro j hj
      refine Ev.step (f := fun _ => some true) (fun k => ?_) (Ev.now _)
      simp only [woggleref01_SameLists.l0]
      rw [if_neg (by omega)]
    | succ d ih =>
      intro j hj
      have hmem : (rd_L4 l (j : Int)).length < 2 ^ 30 := by
        unfold rd_L4
        rw [Int.toNat_natCast, List.getD_eq_getElem?_getD, List.getElem?_eq_getElem (by omega)]
        exact hl2 _ (List.getElem_mem _)
      refine Ev.step (f := fun k => (woggleref01_Same.f k (rd_L4 l (j : Int)) (rd_L4 l (j : Int))).bind fun t => if t = true then woggleref01_SameLists.l0 k l l ((j + 1 : Nat) : Int) else some false) (fun k => ?_) ?_
      · simp only [woggleref01_SameLists.l0]
        rw [if_pos (by omega), if_pos (by omega), if_pos (by omega), wrapS (by omega)]
      · refine Ev.bind (same_ev _ hmem) ?_
        simp only [if_true]
        exact ih (j + 1) (by omega)
  have k := key l.length 0 (by omega)
  refine Ev.congr (fun k => ?_) k
  unfold woggleref01_SameLists.f
  rw [if_pos rfl]
  rfl
theorem graph_low (n : Int) (l : List S42) (hl : l.length < 2 ^ 30) (hn : n < 1) : Ev (fun k => woggleref06_Graph.f k n l) false := by
  have key : ∀ (d j : Nat), j + d = l.length → Ev (fun k => woggleref06_Graph.l0 k n l (j : Int)) false := by
    intro d
    induction d with
    | zero =>
      intro j hj
      refine Ev.step (f := fun _ => some false) (fun k => ?_) (Ev.now _)
      simp only [woggleref06_Graph.l0]
      rw [if_neg (by omega)]
      unfold woggleref06_in.f
      rw [if_neg (by omega), Option.bind_some, if_neg (by simp)]
    | succ d ih =>
      intro j hj
      have ih' := ih (j + 1) (by omega)
      have hin : ∀ a b c, ∃ r, woggleref06_in.f a b c = some r := fun a b c => by unfold woggleref06_in.f; split <;> exact ⟨_, rfl⟩
      obtain ⟨r1, hr1⟩ := hin (rd_T42 l (j : Int)).f0 0 (wrap64 (n - 1))
      obtain ⟨r2, hr2⟩ := hin (rd_T42 l (j : Int)).f1 0 (wrap64 (n - 1))
      have hst : ∀ k, woggleref06_Graph.l0 (k + 1) n l (j : Int) = if r1 = true then (if r2 = true then (if (rd_T42 l (j : Int)).f0 = (rd_T42 l (j : Int)).f1 then some false else woggleref06_Graph.l0 k n l ((j + 1 : Nat) : Int)) else some false) else some false := by
        intro k
        simp only [woggleref06_Graph.l0]
        rw [if_pos (by omega), if_pos (by omega), hr1, Option.bind_some, hr2, wrapS (by omega)]
        rfl
      by_cases h1 : r1 = true
      · by_cases h2 : r2 = true
        · by_cases h3 : (rd_T42 l (j : Int)).f0 = (rd_T42 l (j : Int)).f1
          · exact Ev.step (f := fun _ => some false) (fun k => by rw [hst, if_pos h1, if_pos h2, if_pos h3]) (Ev.now _)
          · exact Ev.step (fun k => by rw [hst, if_pos h1, if_pos h2, if_neg h3]) ih'
        · exact Ev.step (f := fun _ => some false) (fun k => by rw [hst, if_pos h1, if_neg h2]) (Ev.now _)
      · exact Ev.step (f := fun _ => some false) (fun k => by rw [hst, if_neg h1]) (Ev.now _)
  exact key l.length 0 (by omega)
theorem graph_ev (n : Int) (l : List S42) (hl : l.length < 2 ^ 30) (hn : n < 2 ^ 63) : Ev (fun k => woggleref06_Graph.f k n l) (decide (GoodG n l)) := by
  by_cases hn1 : n < 1
  · have k := graph_low n l hl hn1
    rwa [show decide (GoodG n l) = false from decide_eq_false (fun h => by have := h.1; omega)]
  have hw : wrap64 (n - 1) = n - 1 := by unfold wrap64; omega
  have key : ∀ (d j : Nat), j + d = l.length → (∀ x ∈ l.take j, okE n.toNat x) → Ev (fun k => woggleref06_Graph.l0 k n l (j : Int)) (decide (GoodG n l)) := by
    intro d
    induction d with
    | zero =>
      intro j hj hall
      refine Ev.step (f := fun _ => some (decide (GoodG n l))) (fun k => ?_) (Ev.now _)
      simp only [woggleref06_Graph.l0]
      rw [if_neg (by omega)]
      unfold woggleref06_in.f
      have hall' : ∀ x ∈ l, okE n.toNat x := by rwa [List.take_of_length_le (by omega)] at hall
      by_cases h1 : n ≥ 1
      · rw [if_pos h1, Option.bind_some]
        by_cases h2 : n ≤ 10
        · simp only [h2, decide_true, if_true]
          congr 1
          rw [Bool.eq_iff_iff, decide_eq_true_iff, decide_eq_true_iff]
          constructor
          · intro h; exact ⟨by omega, h2, by omega, hall'⟩
          · intro h; have := h.2.2.1; omega
        · simp only [h2, decide_false]
          rw [if_neg (by simp)]
          congr 1
          symm
          rw [decide_eq_false_iff_not]
          intro h; exact h2 h.2.1
      · rw [if_neg h1, Option.bind_some, if_neg (by simp)]
        congr 1
        symm
        rw [decide_eq_false_iff_not]
        intro h; exact h1 h.1
    | succ d ih =>
      intro j hj hall
      have hjl : j < l.length := by omega
      obtain ⟨e, he⟩ : ∃ e, e = rd_T42 l (j : Int) := ⟨_, rfl⟩
      have hmem : e ∈ l := by rw [he, rd_mem hjl]; exact List.getElem_mem _
      have hno : ¬ okE n.toNat e → (decide (GoodG n l)) = false := fun h => by rw [decide_eq_false_iff_not]; intro hg; exact h (hg.2.2.2 e hmem)
      have hst : ∀ k, woggleref06_Graph.l0 (k + 1) n l (j : Int) = if okE n.toNat e then woggleref06_Graph.l0 k n l ((j + 1 : Nat) : Int) else some false := by
        intro k
        simp only [woggleref06_Graph.l0]
        rw [if_pos (by omega), if_pos (by omega), ← he, hw, wrapS (by omega)]
        unfold woggleref06_in.f
        by_cases a1 : e.f0 ≥ 0
        · rw [if_pos a1, Option.bind_some]
          by_cases a2 : e.f0 ≤ n - 1
          · simp only [a2, decide_true, if_true]
            by_cases a3 : e.f1 ≥ 0
            · rw [if_pos a3, Option.bind_some]
              by_cases a4 : e.f1 ≤ n - 1
              · simp only [a4, decide_true, if_true]
                by_cases a5 : e.f0 = e.f1
                · rw [if_pos a5, if_neg (by unfold okE; omega)]
                · rw [if_neg a5, if_pos (by unfold okE; omega)]
              · simp only [a4, decide_false]
                rw [if_neg (by simp), if_neg (by unfold okE; omega)]
            · rw [if_neg a3, Option.bind_some, if_neg (by simp), if_neg (by unfold okE; omega)]
          · simp only [a2, decide_false]
            rw [if_neg (by simp), if_neg (by unfold okE; omega)]
        · rw [if_neg a1, Option.bind_some, if_neg (by simp), if_neg (by unfold okE; omega)]
      by_cases ok : okE n.toNat e
      · refine Ev.step (f := fun k => woggleref06_Graph.l0 k n l ((j + 1 : Nat) : Int)) (fun k => by rw [hst, if_pos ok]) (ih (j + 1) (by omega) (all_snoc hjl hall (by rw [← he]; exact ok)))
      · refine Ev.step (f := fun _ => some false) (fun k => by rw [hst, if_neg ok]) ?_
        rw [hno ok]; exact Ev.now _
  exact key l.length 0 (by omega) (by simp)
end Go.Proofs.YtbgpnkchbcgekaaDoor.Fi
end
section
namespace Go.Proofs.YtbgpnkchbcgekaaDoor.Fi
open Go.RowKit Go.Proofs.YtbgpnkchbcgekaaDoorW.PrintWords Go.Proofs.YtbgpnkchbcgekaaDoorW.PrintLast Go.Proofs.YtbgpnkchbcgekaaDoorW.PrintMore Wog
set_option linter.unusedVariables false
theorem raround_ev (nx : List Nat) (s : Nat) (hn : nx.length ≤ 10) (hx : ∀ x ∈ nx, x < 2 ^ nx.length) (hs : s < 2 ^ nx.length) : Ev (fun k => woggleref06_around.f k (toI nx) (s : Int)) ((nb nx s : Nat) : Int) := by
  have hpow : (2 : Nat) ^ nx.length ≤ 2 ^ 10 := Nat.pow_le_pow_right (by omega) hn
  have key : ∀ (d j acc : Nat), j + d = nx.length → acc < 2 ^ 10 →
      Ev (fun k => woggleref06_around.l0 k (toI nx) (s : Int) (acc : Int) (j : Int)) (((((List.range nx.length).drop j).foldl (fun acc v => if s.testBit v then acc ||| nx.getD v 0 else acc) acc : Nat)) : Int) := by
    intro d
    induction d with
    | zero =>
      intro j acc hj ha
      refine Ev.step (f := fun _ => some (acc : Int)) (fun k => ?_) ?_
      · simp only [woggleref06_around.l0]
        rw [if_neg (by rw [toI_length]; omega)]
      · rw [List.drop_eq_nil_of_le (by simp; omega)]; exact Ev.now _
    | succ d ih =>
      intro j acc hj ha
      have hjl : j < nx.length := by omega
      have hv : nx.getD j 0 < 2 ^ 10 := by
        rw [List.getD_eq_getElem?_getD, List.getElem?_eq_getElem hjl]
        exact Nat.lt_of_lt_of_le (hx _ (List.getElem_mem hjl)) hpow
      rw [drop_range hjl, List.foldl_cons]
      by_cases hb : s.testBit j = true
      · rw [if_pos hb]
        refine Ev.step (fun k => ?_) (ih (j + 1) (acc ||| nx.getD j 0) (by omega) (Nat.or_lt_two_pow ha hv))
        simp only [woggleref06_around.l0]
        rw [if_pos (by rw [toI_length]; omega), if_pos (by omega), has64 _ _ (by omega), if_pos (by rw [hb]; rfl), show rd (toI nx) (j : Int) = ((nx.getD j 0 : Nat) : Int) from rd_nat nx j, or64 _ _ (by omega) (by omega), wrapS (by omega)]
      · rw [if_neg hb]
        refine Ev.step (fun k => ?_) (ih (j + 1) acc (by omega) ha)
        rw [Bool.not_eq_true] at hb
        simp only [woggleref06_around.l0]
        rw [if_pos (by rw [toI_length]; omega), if_pos (by omega), has64 _ _ (by omega), if_neg (by rw [hb]; simp), wrapS (by omega)]
  exact key nx.length 0 0 (by omega) (by omega)
end Go.Proofs.YtbgpnkchbcgekaaDoor.Fi
end
section
namespace Go.Proofs.YtbgpnkchbcgekaaDoor.Fi
open Go.RowKit Go.Proofs.YtbgpnkchbcgekaaDoorW.PrintWords Go.Proofs.YtbgpnkchbcgekaaDoorW.PrintLast Go.Proofs.YtbgpnkchbcgekaaDoorW.PrintMore Wog
set_option linter.unusedVariables false
theorem toI_setI (xs : List Nat) (i v : Nat) : (toI xs).set i (v : Int) = toI (xs.set i v) := by simp [toI, List.map_set]
theorem near_ev (n : Int) (l : List S42) (h : GoodG n l) : Ev (fun k => woggleref06_Near.f k n l) (toI (nearS n.toNat l)) := by
  obtain ⟨h1, h2, h3, h4⟩ := h
  have hpow : (2 : Nat) ^ n.toNat ≤ 2 ^ 10 := Nat.pow_le_pow_right (by omega) (by omega)
  have key : ∀ (d j : Nat), j + d = l.length → Ev (fun k => woggleref06_Near.l0 k l (toI (nearS n.toNat (l.take j))) (j : Int)) (toI (nearS n.toNat l)) := by
    intro d
    induction d with
    | zero =>
      intro j hj
      refine Ev.step (f := fun _ => some (toI (nearS n.toNat l))) (fun k => ?_) (Ev.now _)
      simp only [woggleref06_Near.l0]
      rw [if_neg (by omega), List.take_of_length_le (by omega)]
    | succ d ih =>
      intro j hj
      have hjl : j < l.length := by omega
      have ih' := ih (j + 1) (by omega)
      have he := h4 _ (List.getElem_mem hjl)
      rw [near_snoc n.toNat l j hjl] at ih'
      rw [← rd_mem hjl] at he
      obtain ⟨e, hee⟩ : ∃ e, e = rd_T42 l (j : Int) := ⟨_, rfl⟩
      rw [← hee] at he ih'
      obtain ⟨a0, a1, a2, a3, a4⟩ := he
      obtain ⟨x, hx⟩ := Int.eq_ofNat_of_zero_le a0
      obtain ⟨y, hy⟩ := Int.eq_ofNat_of_zero_le a1
      obtain ⟨xs, hxs⟩ : ∃ xs, xs = nearS n.toNat (l.take j) := ⟨_, rfl⟩
      have hxl : xs.length = n.toNat := by rw [hxs, nearS_length]
      have hxb : ∀ z ∈ xs, z < 2 ^ n.toNat := by rw [hxs]; exact nearS_lt (fun z hz => h4 z (List.mem_of_mem_take hz))
      rw [← hxs] at ih' ⊢
      have hg0 : xs.getD x 0 < 2 ^ n.toNat := getD_lt hxb x
      have hp0 : 2 ^ y < 2 ^ n.toNat := Nat.pow_lt_pow_right (by omega) (by omega)
      have hp1 : 2 ^ x < 2 ^ n.toNat := Nat.pow_lt_pow_right (by omega) (by omega)
      obtain ⟨ys, hys⟩ : ∃ ys, ys = xs.set x (xs.getD x 0 ||| 2 ^ y) := ⟨_, rfl⟩
      have hyl : ys.length = n.toNat := by rw [hys, List.length_set, hxl]
      have hyb : ∀ z ∈ ys, z < 2 ^ n.toNat := by
        intro z hz
        rw [hys] at hz
        rcases List.mem_or_eq_of_mem_set hz with hz | rfl
        · exact hxb z hz
        · exact Nat.or_lt_two_pow hg0 hp0
      have hg1 : ys.getD y 0 < 2 ^ n.toNat := getD_lt hyb y
      have hadd : addS xs e = ys.set y (ys.getD y 0 ||| 2 ^ x) := by
        unfold addS
        rw [hx, hy]
        simp only [Int.toNat_natCast]
        rw [← hys]
      refine Ev.step (fun k => ?_) ih'
      simp only [woggleref06_Near.l0]
      rw [← hee, hx, hy]
      simp only [Int.toNat_natCast]
      rw [if_pos (by omega), if_pos (by omega), if_pos (by omega), if_pos (by rw [toI_length, hxl]; omega), if_pos (by omega), Option.bind_some,
        show rd (toI xs) (x : Int) = ((xs.getD x 0 : Nat) : Int) from rd_nat xs x, shl64 y (by omega), or64 _ _ (by omega) (by omega), toI_setI, ← hys,
        if_pos (by rw [toI_length, hxl]; omega), show rd (toI ys) (y : Int) = ((ys.getD y 0 : Nat) : Int) from rd_nat ys y, shl64 x (by omega), or64 _ _ (by omega) (by omega), toI_setI, wrapS (by omega), hadd]
  have k := key l.length 0 (by omega)
  refine Ev.congr (fun k => ?_) k
  unfold woggleref06_Near.f
  rw [if_pos (by omega), if_pos (by omega)]
  congr 1
  simp [nearS, toI]
theorem cloF_fix {nx : List Nat} {B D k : Nat} (hd : disj B D) (hB : B < 2 ^ nx.length) (hx : ∀ x ∈ nx, x < 2 ^ nx.length) (h : cloF nx D k B = some B) : diff (arnd nx B) D = B := by
  cases k with
  | zero => simp [cloF] at h
  | succ k =>
    rw [cloF] at h
    by_cases e : diff (arnd nx B) D = B
    · exact e
    · rw [if_neg e] at h
      refine ext_lt (diff_le _ _ _ (arnd_lt hx hB)) hB (fun i _ => ?_)
      cases h1 : B.testBit i with
      | true => exact step_sup hd i h1
      | false =>
        cases h2 : (diff (arnd nx B) D).testBit i with
        | false => rfl
        | true => rw [cloF_sup _ _ _ (disj_diff _ _) h i h2] at h1; cases h1
end Go.Proofs.YtbgpnkchbcgekaaDoor.Fi
end
section
namespace Go.Proofs.YtbgpnkchbcgekaaDoor.Fi
open Go.RowKit Go.Proofs.YtbgpnkchbcgekaaDoorW.PrintWords Go.Proofs.YtbgpnkchbcgekaaDoorW.PrintLast Go.Proofs.YtbgpnkchbcgekaaDoorW.PrintMore Wog
set_option linter.unusedVariables false
theorem full64 {n : Nat} (hn : n ≤ 10) : wrap64 (shl .i64 1 (n : Int) - 1) = ((full n : Nat) : Int) := by
  rw [shl64 n (by omega)]
  have h1 : 2 ^ n ≤ 2 ^ 10 := Nat.pow_le_pow_right (by omega) hn
  have h2 := Nat.two_pow_pos n
  unfold full
  generalize 2 ^ n = x at *
  unfold wrap64
  omega
section
variable {nx : List Nat}
theorem lt1024 (hn : nx.length ≤ 10) {x : Nat} (h : x < 2 ^ nx.length) : x < 2 ^ 10 := Nat.lt_of_lt_of_le h (Nat.pow_le_pow_right (by omega) hn)
theorem ball_add (v : Nat) (i : Nat) : ball nx v (i + 1) = ball nx v i ||| nb nx (ball nx v i) := rfl
theorem rball_ev (hn : nx.length ≤ 10) (hx : ∀ x ∈ nx, x < 2 ^ nx.length) {v r : Nat} (hv : v < nx.length) (hr : r < 2 ^ 30) : Ev (fun k => woggleref06_Ball.f k (toI nx) (v : Int) (r : Int)) ((ball nx v r : Nat) : Int) := by
  have key : ∀ (d i : Nat), d < 2 ^ 30 → Ev (fun k => woggleref06_Ball.l0 k (toI nx) (d : Int) ((ball nx v i : Nat) : Int)) ((ball nx v (i + d) : Nat) : Int) := by
    intro d
    induction d with
    | zero =>
      intro i _
      refine Ev.step (f := fun _ => some ((ball nx v i : Nat) : Int)) (fun k => ?_) (Ev.now _)
      simp only [woggleref06_Ball.l0]
      rw [if_neg (by omega)]
    | succ d ih =>
      intro i hd
      have hb := ball_lt hx hv i
      refine Ev.step (f := fun k => (woggleref06_around.f k (toI nx) ((ball nx v i : Nat) : Int)).bind fun t => woggleref06_Ball.l0 k (toI nx) (wrap64 (((d + 1 : Nat) : Int) - 1)) (Go.bits .or .i64 ((ball nx v i : Nat) : Int) t)) (fun k => ?_) ?_
      · simp only [woggleref06_Ball.l0]
        rw [if_pos (by omega)]
      · refine Ev.bind (raround_ev nx _ hn hx hb) ?_
        have h1 := lt1024 hn hb
        have h2 := lt1024 hn (nb_lt hx (ball nx v i))
        rw [or64 _ _ (by omega) (by omega), show wrap64 (((d + 1 : Nat) : Int) - 1) = (d : Int) by unfold wrap64; omega, ← ball_add]
        have := ih (i + 1) (by omega)
        rwa [show i + 1 + d = i + (d + 1) by omega] at this
  have h := key r 0 hr
  refine Ev.congr (f := fun k => woggleref06_Ball.l0 k (toI nx) (r : Int) ((ball nx v 0 : Nat) : Int)) (fun k => ?_) (by simpa using h)
  unfold woggleref06_Ball.f
  rw [if_pos (by omega), shl64 v (by omega)]
  rfl
theorem burntF_lt (hx : ∀ x ∈ nx, x < 2 ^ nx.length) (len : Nat) : ∀ (q : List Int) (i b : Nat), (∀ v ∈ q, 0 ≤ v ∧ v < (nx.length : Int)) → b < 2 ^ nx.length → burntF nx len q i b < 2 ^ nx.length := by
  intro q
  induction q with
  | nil => intro i b _ h; exact h
  | cons v q ih =>
    intro i b hq h
    have hv := hq v (by simp)
    exact ih _ _ (fun u hu => hq u (by simp [hu])) (Nat.or_lt_two_pow h (ball_lt hx (by omega) _))
theorem rburns_ev (hn : nx.length ≤ 10) (hx : ∀ x ∈ nx, x < 2 ^ nx.length) (q : List Int) (hq : ∀ v ∈ q, 0 ≤ v ∧ v < (nx.length : Int)) (hl : q.length ≤ 100) : Ev (fun k => woggleref06_Burns.f k (toI nx) q) (decide (burntS nx q = full nx.length)) := by
  have key : ∀ (p : List Int) (i b : Nat), q.drop i = p → i + p.length = q.length → b < 2 ^ nx.length → Ev (fun k => woggleref06_Burns.l0 k (toI nx) q (b : Int) (i : Int)) (decide (burntF nx q.length p i b = full nx.length)) := by
    intro p
    induction p with
    | nil =>
      intro i b hd hi hb
      refine Ev.step (f := fun _ => some (decide (b = full nx.length))) (fun k => ?_) (Ev.now _)
      simp only [woggleref06_Burns.l0]
      rw [if_neg (by simp at hi; omega), toI_length, full64 hn]
      congr 1
      rw [Bool.eq_iff_iff]
      simp
      omega
    | cons x p ih =>
      intro i b hd hi hb
      obtain ⟨hil, hget, hd'⟩ := drop_cons hd
      have hx0 := hq x (List.mem_of_getElem? hget)
      simp only [List.length_cons] at hi
      have hrd : rd q (i : Int) = x := by unfold rd; rw [Int.toNat_natCast, List.getD_eq_getElem?_getD, hget]; rfl
      obtain ⟨v, rfl⟩ := Int.eq_ofNat_of_zero_le hx0.1
      have hv : v < nx.length := by omega
      have hbl := ball_lt hx hv (q.length - 1 - i)
      refine Ev.step (f := fun k => (woggleref06_Ball.f k (toI nx) (v : Int) ((q.length - 1 - i : Nat) : Int)).bind fun t => woggleref06_Burns.l0 k (toI nx) q (Go.bits .or .i64 (b : Int) t) ((i + 1 : Nat) : Int)) (fun k => ?_) ?_
      · simp only [woggleref06_Burns.l0]
        rw [if_pos (by omega), if_pos (by omega), hrd, wrapS (by omega), show wrap64 (wrap64 ((q.length : Int) - 1) - (i : Int)) = ((q.length - 1 - i : Nat) : Int) by unfold wrap64; omega]
      · refine Ev.bind (rball_ev hn hx hv (by omega)) ?_
        have h1 := lt1024 hn hb
        have h2 := lt1024 hn hbl
        rw [or64 _ _ (by omega) (by omega)]
        have := ih (i + 1) (b ||| ball nx v (q.length - 1 - i)) hd' (by omega) (Nat.or_lt_two_pow hb hbl)
        rw [burntF, Int.toNat_natCast]
        exact this
  exact key q 0 0 (by simp) (by simp) (Nat.two_pow_pos _)
theorem cut_is (l : List Int) : wogglelaw06_cut.f l = some (l.take 11) := by
  unfold wogglelaw06_cut.f
  have h : mn (l.length : Int) 11 = ((min l.length 11 : Nat) : Int) := by unfold mn; omega
  rw [h, Option.bind_some, if_pos (by omega), if_pos (by omega), if_pos]
  · simp
    omega
  · simp
    omega
end
end Go.Proofs.YtbgpnkchbcgekaaDoor.Fi
end
section
namespace Go.Proofs.YtbgpnkchbcgekaaDoor.Fi
open Go.RowKit Go.Proofs.YtbgpnkchbcgekaaDoorW.PrintWords Go.Proofs.YtbgpnkchbcgekaaDoorW.PrintLast Go.Proofs.YtbgpnkchbcgekaaDoorW.PrintMore Wog
set_option linter.unusedVariables false
theorem lives_best : fire_Best.f 4 ([(⟨0, 1⟩ : S42), (⟨1, 2⟩ : S42), (⟨2, 3⟩ : S42)] : List (S42)) 1 = some (2, [2], 0) := by decide +kernel
theorem lives_play : fire_Play.f 4 ([(⟨0, 1⟩ : S42), (⟨1, 2⟩ : S42), (⟨2, 3⟩ : S42)] : List (S42)) 1 [2] = some ([[0]], 0) := by decide +kernel
theorem lives_burning : fire_Burning.f 4 ([(⟨0, 1⟩ : S42), (⟨1, 2⟩ : S42), (⟨2, 3⟩ : S42)] : List (S42)) = some ([1, 3], 0) := by decide +kernel
theorem lives_ev : Ev (fun k => wogglelaw06_lives.f k) true := by
  unfold wogglelaw06_lives.f
  simp only [Option.bind_some, lives_best, lives_play, lives_burning, if_true]
  refine Ev.bind (same_ev [2] (by simp)) ?_
  simp only [if_true]
  refine Ev.bind (sameLists_ev [[0]] (by simp) (by simp)) ?_
  simp only [if_true]
  refine Ev.bind (same_ev [1, 3] (by simp)) ?_
  simp only [if_true]
  exact Ev.now _
end Go.Proofs.YtbgpnkchbcgekaaDoor.Fi
end
section
namespace Go.Proofs.YtbgpnkchbcgekaaDoor.Fi
open Go.RowKit Go.Proofs.YtbgpnkchbcgekaaDoorW.PrintWords Go.Proofs.YtbgpnkchbcgekaaDoorW.PrintLast Go.Proofs.YtbgpnkchbcgekaaDoorW.PrintMore Wog
set_option linter.unusedVariables false
theorem lives_then : Ev (fun k => (wogglelaw06_lives.f k).bind fun t => some t) true := Ev.bind lives_ev (Ev.now _)
theorem GoodG.rows {n : Int} {l : List S42} (h : GoodG n l) : (∀ x ∈ nearS n.toNat l, x < 2 ^ (nearS n.toNat l).length) ∧ (nearS n.toNat l).length ≤ 10 ∧ 0 < (nearS n.toNat l).length ∧ n = ((nearS n.toNat l).length : Int) ∧ (nearS n.toNat l).length = n.toNat := by
  obtain ⟨h1, h2, h3, h4⟩ := h
  have hl := nearS_length n.toNat l
  refine ⟨by rw [hl]; exact nearS_lt h4, by omega, by omega, by omega, hl⟩
theorem seqOk_of {n : Int} {q : List Int} (h1 : 1 ≤ q.length) (h2 : (q.length : Int) ≤ n) (h3 : ∀ x ∈ q, 0 ≤ x ∧ x < n) : SeqOk n q := by
  have hm : q.getD 0 0 ∈ q := by rw [List.getD_eq_getElem?_getD, List.getElem?_eq_getElem h1]; exact List.getElem_mem _
  have hmin : ∀ (l : List Int) (a : Int), 0 ≤ a → (∀ x ∈ l, 0 ≤ x) → 0 ≤ l.foldl min a := by
    intro l
    induction l with
    | nil => intro a h _; exact h
    | cons y l ih => intro a h hl; exact ih _ (by have := hl y (by simp); omega) (fun x hx => hl x (by simp [hx]))
  have hmax : ∀ (l : List Int) (a : Int), a < n → (∀ x ∈ l, x < n) → l.foldl max a < n := by
    intro l
    induction l with
    | nil => intro a h _; exact h
    | cons y l ih => intro a h hl; exact ih _ (by have := hl y (by simp); omega) (fun x hx => hl x (by simp [hx]))
  refine ⟨h1, h2, ?_, ?_⟩
  · unfold minT; rw [List.take_length]; exact hmin _ _ (h3 _ hm).1 (fun x hx => (h3 x hx).1)
  · unfold maxT; rw [List.take_length]; exact hmax _ _ (h3 _ hm).2 (fun x hx => (h3 x hx).2)
theorem FireBurns_ev (n : Int) (l : List S42) (y : List Int) (hn : n < 2 ^ 63) (_hy : ∀ x ∈ y, (Lit.int .i64 x).wf = true) : Ev (fun k => wogglelaw06_FireBurns.f k n l y) true := by
  unfold wogglelaw06_FireBurns.f
  simp only [few_is, cut_is, Option.bind_some]
  obtain ⟨e, he⟩ : ∃ e, e = l.take 61 := ⟨_, rfl⟩
  have hel : e.length ≤ 61 := by rw [he]; simp; omega
  rw [← he]
  clear he
  obtain ⟨q, hq⟩ : ∃ q, q = y.take 11 := ⟨_, rfl⟩
  have hql : q.length ≤ 11 := by rw [hq]; simp; omega
  rw [← hq]
  clear hq
  -- from a loop that has found the error bad, or will find it
  have bad : ∀ (r : Int), r ≠ 0 → ∀ i, Ev (fun k => wogglelaw06_FireBurns.l0 k n e q false r r (i : Int)) true := by
    intro r hr i
    have hb : (r == 0) = false := by simpa using hr
    refine Ev.step (f := fun k => wogglelaw06_FireBurns.j2 k n e q false r r (i : Int) false) (fun k => ?_) ?_
    · simp only [wogglelaw06_FireBurns.l0, hb]
      split <;> rfl
    · refine Ev.step (f := fun k => (wogglelaw06_lives.f k).bind fun t => some t) (fun k => ?_) lives_then
      simp only [wogglelaw06_FireBurns.j2]
      simp [hr]
  have bad0 : ∀ (r : Int), r ≠ 0 → Ev (fun k => wogglelaw06_FireBurns.j0 k n e q false r r) true := by
    intro r hr
    exact Ev.step (f := fun k => wogglelaw06_FireBurns.l0 k n e q false r r ((0 : Nat) : Int)) (fun k => by simp only [wogglelaw06_FireBurns.j0]; rfl) (bad r hr 0)
  have hG := graph_ev n e (by omega) hn
  unfold fire_Burns.f
  rw [if_pos (by omega)]
  by_cases hg : GoodG n e
  · rw [if_pos hg]
    rw [decide_eq_true hg] at hG
    obtain ⟨hx, hn10, hn0, hnn, hnl⟩ := hg.rows
    by_cases h1 : q.length < 1
    · rw [if_neg (fun h : SeqOk n q => by have := h.1; omega)]
      simp only [Option.bind_some]
      refine Ev.bind hG ?_
      simp only [if_true]
      simp only [if_pos (show (q.length : Int) < 1 by omega)]
      exact bad0 2 (by omega)
    · by_cases h2 : (q.length : Int) > n
      · rw [if_neg (fun h : SeqOk n q => by have := h.2.1; omega)]
        simp only [Option.bind_some]
        refine Ev.bind hG ?_
        simp only [if_true]
        simp only [if_neg (show ¬ (q.length : Int) < 1 by omega), if_pos h2]
        exact bad0 2 (by omega)
      · -- the vertices are looked at one after another
        obtain ⟨is, err, hres, hcase⟩ : ∃ is err, (if SeqOk n q then some (decide (popc 16 (burntS (nearS n.toNat e) q) = n.toNat), 0) else some (false, 2)) = some (is, err) ∧ ((∀ x ∈ q, 0 ≤ x ∧ x < n) ∧ is = decide (popc 16 (burntS (nearS n.toNat e) q) = n.toNat) ∧ err = 0 ∨ (¬ ∀ x ∈ q, 0 ≤ x ∧ x < n) ∧ is = false ∧ err = (2 : Int)) := by
          by_cases h3 : ∀ x ∈ q, 0 ≤ x ∧ x < n
          · rw [if_pos (seqOk_of (by omega) (by omega) h3)]
            exact ⟨_, _, rfl, .inl ⟨h3, rfl, rfl⟩⟩
          · rw [if_neg (fun h : SeqOk n q => h3 h.all)]
            exact ⟨_, _, rfl, .inr ⟨h3, rfl, rfl⟩⟩
        rw [hres]
        simp only [Option.bind_some]
        refine Ev.bind hG ?_
        simp only [if_true]
        simp only [if_neg (show ¬ (q.length : Int) < 1 by omega), if_neg h2]
        refine Ev.step (f := fun k => wogglelaw06_FireBurns.l0 k n e q is err 0 ((0 : Nat) : Int)) (fun k => by simp only [wogglelaw06_FireBurns.j0]; rfl) ?_
        have key : ∀ (p : List Int) (i : Nat), q.drop i = p → i + p.length = q.length → (∀ j, j < i → ∀ x, q[j]? = some x → 0 ≤ x ∧ x < n) → Ev (fun k => wogglelaw06_FireBurns.l0 k n e q is err 0 (i : Int)) true := by
          intro p
          induction p with
          | nil =>
            intro i hd hi hall
            simp at hi
            have hall' : ∀ x ∈ q, 0 ≤ x ∧ x < n := by
              intro x hx'
              obtain ⟨j, hj, hjx⟩ := List.getElem_of_mem hx'
              exact hall j (by omega) x (by rw [List.getElem?_eq_getElem hj, hjx])
            rcases hcase with ⟨_, his, herr⟩ | ⟨hno, _⟩
            · refine Ev.step (f := fun k => wogglelaw06_FireBurns.j2 k n e q is err 0 (i : Int) false) (fun k => ?_) ?_
              · simp only [wogglelaw06_FireBurns.l0]
                rw [if_neg (by omega)]
              · refine Ev.step (f := fun k => (woggleref06_Near.f k n e).bind fun t => (woggleref06_Burns.f k t q).bind fun t555 => if (is == t555) = true then (if err = 0 then ((wogglelaw06_lives.f k).bind fun t556 => some t556) else some false) else some false) (fun k => ?_) ?_
                · simp only [wogglelaw06_FireBurns.j2, Bool.false_eq_true, if_false, if_true]
                · refine Ev.bind (near_ev n e hg) ?_
                  refine Ev.bind (rburns_ev hn10 hx q (by rw [← hnn]; exact hall') (by omega)) ?_
                  have hlt := burntF_lt hx q.length q 0 0 (by rw [← hnn]; exact hall') (Nat.two_pow_pos _)
                  have : (is == decide (burntS (nearS n.toNat e) q = full (nearS n.toNat e).length)) = true := by
                    rw [his, beq_iff_eq, Bool.eq_iff_iff, decide_eq_true_iff, decide_eq_true_iff]
                    have h := popc16_full (n := (nearS n.toNat e).length) (by omega) hlt
                    rw [hnl] at h ⊢
                    exact h
                  simp only [if_pos this, if_pos herr]
                  exact lives_then
            · exact absurd hall' hno
          | cons x p ih =>
            intro i hd hi hall
            obtain ⟨hil, hget, hd'⟩ := drop_cons hd
            simp only [List.length_cons] at hi
            have hrd : rd q (i : Int) = x := by unfold rd; rw [Int.toNat_natCast, List.getD_eq_getElem?_getD, hget]; rfl
            refine Ev.step (f := fun k => wogglelaw06_FireBurns.j2 k n e q is err 0 (i : Int) true) (fun k => ?_) ?_
            · simp only [wogglelaw06_FireBurns.l0]
              rw [if_pos (by omega)]
              rfl
            · have fail : ¬ (0 ≤ x ∧ x < n) → Ev (fun k => wogglelaw06_FireBurns.l0 k n e q is err 2 ((i + 1 : Nat) : Int)) true := by
                intro hno
                rcases hcase with ⟨hall2, _⟩ | ⟨_, his, herr⟩
                · exact absurd (hall2 x (List.mem_of_getElem? hget)) hno
                · rw [his, herr]
                  exact bad 2 (by omega) (i + 1)
              by_cases hx0 : x < 0
              · refine Ev.step (f := fun k => wogglelaw06_FireBurns.l0 k n e q is err 2 ((i + 1 : Nat) : Int)) (fun k => ?_) (fail (by omega))
                simp only [wogglelaw06_FireBurns.j2, if_true]
                rw [if_pos (by omega), if_pos (by omega), hrd, if_pos hx0, wrapS (by omega)]
              · by_cases hx1 : x ≥ n
                · refine Ev.step (f := fun k => wogglelaw06_FireBurns.l0 k n e q is err 2 ((i + 1 : Nat) : Int)) (fun k => ?_) (fail (by omega))
                  simp only [wogglelaw06_FireBurns.j2, if_true]
                  rw [if_pos (by omega), if_pos (by omega), hrd, if_neg hx0, if_pos hx1, wrapS (by omega)]
                · refine Ev.step (f := fun k => wogglelaw06_FireBurns.l0 k n e q is err 0 ((i + 1 : Nat) : Int)) (fun k => ?_) (ih (i + 1) hd' (by omega) (fun j hj x' hx' => ?_))
                  · simp only [wogglelaw06_FireBurns.j2, if_true]
                    rw [if_pos (by omega), if_pos (by omega), hrd, if_neg hx0, if_neg hx1, wrapS (by omega)]
                  · rcases Nat.lt_or_ge j i with h | h
                    · exact hall j h x' hx'
                    · obtain rfl : j = i := by omega
                      rw [hget] at hx'
                      obtain rfl := Option.some.inj hx'
                      omega
        exact key q 0 (by simp) (by simp) (fun j hj => by omega)
  · rw [if_neg hg]
    rw [decide_eq_false hg] at hG
    simp only [Option.bind_some]
    refine Ev.bind hG ?_
    simp only [Bool.false_eq_true, if_false]
    exact bad0 1 (by omega)
end Go.Proofs.YtbgpnkchbcgekaaDoor.Fi
end
