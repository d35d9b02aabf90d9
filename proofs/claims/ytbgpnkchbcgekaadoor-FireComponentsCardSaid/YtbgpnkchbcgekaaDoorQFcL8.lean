/- Texts of this claim, joined: P5, P6, P7, P8, L1, L2, L3, L4, L5, L6, L8 -/
import Derived.Test.YtbgpnkchbcgekaaDoorQFcP4
import Derived.Test.YtbgpnkchbcgekaaDoorQFcFi0
import Derived.Test.YtbgpnkchbcgekaaDoorQFcFi1
import Derived.Test.YtbgpnkchbcgekaaDoorQFcFi4
import Derived.Test.YtbgpnkchbcgekaaDoorQFcHc2
import Derived.Test.YtbgpnkchbcgekaaDoorQFcHbr
import Derived.Test.YtbgpnkchbcgekaaDoorQFcS6
import Derived.Test.YtbgpnkchbcgekaaDoorQFcFi6
import Derived.Test.YtbgpnkchbcgekaaDoorQFcFi5
import Derived.Test.YtbgpnkchbcgekaaDoorQFcFi9
import Derived.Test.YtbgpnkchbcgekaaDoorQFcHbu
import Derived.Test.YtbgpnkchbcgekaaDoorQFcHe
import Derived.Test.YtbgpnkchbcgekaaDoorQFcHgr
import Derived.Test.YtbgpnkchbcgekaaDoorQFcR0
import Derived.Test.YtbgpnkchbcgekaaDoorQFcFi3
import Derived.Test.YtbgpnkchbcgekaaDoorQFcFi12
import Derived.Test.YtbgpnkchbcgekaaDoorQFcHtr
import Derived.Deep.LoopGhost
import Derived.Outline
import Derived.Test.YtbgpnkchbcgekaaDoorQFcFi10
section
namespace Go.Proofs.YtbgpnkchbcgekaaDoor.Fi
open Go.RowKit Go.Proofs.YtbgpnkchbcgekaaDoorW.PrintWords Go.Proofs.YtbgpnkchbcgekaaDoorW.PrintLast Go.Proofs.YtbgpnkchbcgekaaDoorW.PrintMore Wog
set_option linter.unusedVariables false
theorem lexLt_irr : ∀ l : List Int, lexLt l l = false
  | [] => rfl
  | a :: l => by rw [lexLt, if_pos rfl]; exact lexLt_irr l
theorem before_ev (l m : List Int) (hl : l.length < 2 ^ 30) : Ev (fun k => woggleref01_Before.f k l m) (lexLt l m) := by
  have key : ∀ (a b p q : List Int), p.length = q.length → p.length + a.length < 2 ^ 30 → Ev (fun k => woggleref01_Before.l0 k (p ++ a) (q ++ b) (p.length : Int)) (lexLt a b) := by
    intro a
    induction a with
    | nil =>
      intro b p q hpq hpl
      refine Ev.step (f := fun k => woggleref01_Before.j1 k (p ++ []) (q ++ b) (p.length : Int) false) (fun k => ?_) ?_
      · simp only [woggleref01_Before.l0]
        rw [if_neg (by simp)]
      · refine Ev.step (f := fun _ => some (lexLt [] b)) (fun k => ?_) (Ev.now _)
        simp only [woggleref01_Before.j1]
        rw [if_neg (by simp)]
        cases b with
        | nil => simp [lexLt, hpq]
        | cons y b => simp [lexLt, hpq]; omega
    | cons x a ih =>
      intro b p q hpq hpl
      cases b with
      | nil =>
        refine Ev.step (f := fun k => woggleref01_Before.j1 k (p ++ x :: a) (q ++ []) (p.length : Int) false) (fun k => ?_) ?_
        · simp only [woggleref01_Before.l0]
          rw [if_pos (by simp; omega)]
          congr 1
          simp [hpq]
        · refine Ev.step (f := fun _ => some (lexLt (x :: a) [])) (fun k => ?_) (Ev.now _)
          simp only [woggleref01_Before.j1]
          rw [if_neg (by simp)]
          simp [lexLt, hpq]; omega
      | cons y b =>
        have e0 : rd (p ++ x :: a) (p.length : Int) = x := by unfold rd; simp [List.getD_eq_getElem?_getD]
        have e1 : rd (q ++ y :: b) (p.length : Int) = y := by rw [hpq]; unfold rd; simp [List.getD_eq_getElem?_getD]
        refine Ev.step (f := fun k => woggleref01_Before.j1 k (p ++ x :: a) (q ++ y :: b) (p.length : Int) true) (fun k => ?_) ?_
        · simp only [woggleref01_Before.l0]
          rw [if_pos (by simp; omega)]
          congr 1
          simp [hpq]; omega
        · by_cases hxy : x = y
          · subst hxy
            have ih' := ih b (p ++ [x]) (q ++ [x]) (by simp [hpq]) (by simp at hpl ⊢; omega)
            refine Ev.step (f := fun k => woggleref01_Before.l0 k (p ++ x :: a) (q ++ x :: b) ((p ++ [x]).length : Int)) (fun k => ?_) ?_
            · simp only [woggleref01_Before.j1]
              rw [if_pos trivial, if_pos (by omega), if_pos (by simp; omega), if_pos (by rw [hpq]; simp; omega), e0, e1, if_pos rfl, wrapS (by simp at hpl; omega)]
              simp
            · rw [lexLt, if_pos rfl]
              simpa using ih'
          · refine Ev.step (f := fun _ => some (decide (x < y))) (fun k => ?_) ?_
            · simp only [woggleref01_Before.j1]
              rw [if_pos trivial, if_pos (by omega), if_pos (by simp; omega), if_pos (by rw [hpq]; simp; omega), e0, e1, if_neg hxy]
            · rw [lexLt, if_neg hxy]; exact Ev.now _
  exact key l m [] [] rfl (by simpa using hl)
theorem same_ev (l : List Int) (hl : l.length < 2 ^ 30) : Ev (fun k => woggleref01_Same.f k l l) true := by
  unfold woggleref01_Same.f
  refine Ev.bind (before_ev l l hl) ?_
  simp only [lexLt_irr, Bool.false_eq_true, if_false]
  refine Ev.bind (before_ev l l hl) ?_
  simp only [lexLt_irr]
  exact Ev.now _
theorem sameLists_ev (l : List (List Int)) (hl : l.length < 2 ^ 30) (hl2 : ∀ x ∈ l, x.length < 2 ^ 30) : Ev (fun k => woggleref01_SameLists.f k l l) true := by
  have key : ∀ (d j : Nat), j + d = l.length → Ev (fun k => woggleref01_SameLists.l0 k l l (j : Int)) true := by
    intro d
    induction d with
    | zero =>
      intro j hj
      refine Ev.step (f := fun _ => some true) (fun k => ?_) (Ev.now _)
      simp only [woggleref01_SameLists.l0]
      rw [if_neg (by omega)]
    | succ d ih =>
      intro j hj
      have hmem : (rd_L4 l (j : Int)).length < 2 ^ 30 := by
        unfold rd_L4
        rw [Int.toNat_natCast, List.getD_eq_getElem?_getD, List.getElem?_eq_getElem (by omega)]
        exact hl2 _ (List.getElem_mem _)
      refine Ev.step (f := fun k => (woggleref01_Same.f k (rd_L4 l (j : Int)) (rd_L4 l (j : Int))).bind fun t => if t = true then woggleref01_SameLists.l0 k l l ((j + 1 : Nat) : Int) else some false) (fun k => ?_) ?_
      · simp only [woggleref01_SameLists.l0]
        rw [if_pos (by omega), if_pos (by omega), if_pos (by omega), wrapS (by omega)]
      · refine Ev.bind (same_ev _ hmem) ?_
        simp only [if_true]
        exact ih (j + 1) (by omega)
  have k := key l.length 0 (by omega)
  refine Ev.congr (fun k => ?_) k
  unfold woggleref01_SameLists.f
  rw [if_pos rfl]
  rfl
end Go.Proofs.YtbgpnkchbcgekaaDoor.Fi
end
section
namespace Go.Proofs.YtbgpnkchbcgekaaDoor.Fi
open Go.RowKit Go.Proofs.YtbgpnkchbcgekaaDoorW.PrintWords Go.Proofs.YtbgpnkchbcgekaaDoorW.PrintLast Go.Proofs.YtbgpnkchbcgekaaDoorW.PrintMore Wog
set_option linter.unusedVariables false
theorem raround_ev (nx : List Nat) (s : Nat) (hn : nx.length ≤ 10) (hx : ∀ x ∈ nx, x < 2 ^ nx.length) (hs : s < 2 ^ nx.length) : Ev (fun k => woggleref06_around.f k (toI nx) (s : Int)) ((nb nx s : Nat) : Int) := by
  have hpow : (2 : Nat) ^ nx.length ≤ 2 ^ 10 := Nat.pow_le_pow_right (by omega) hn
  have key : ∀ (d j acc : Nat), j + d = nx.length → acc < 2 ^ 10 →
      Ev (fun k => woggleref06_around.l0 k (toI nx) (s : Int) (acc : Int) (j : Int)) (((((List.range nx.length).drop j).foldl (fun acc v => if s.testBit v then acc ||| nx.getD v 0 else acc) acc : Nat)) : Int) := by
    intro d
    induction d with
    | zero =>
      intro j acc hj ha
      refine Ev.step (f := fun _ => some (acc : Int)) (fun k => ?_) ?_
      · simp only [woggleref06_around.l0]
        rw [if_neg (by rw [toI_length]; omega)]
      · rw [List.drop_eq_nil_of_le (by simp; omega)]; exact Ev.now _
    | succ d ih =>
      intro j acc hj ha
      have hjl : j < nx.length := by omega
      have hv : nx.getD j 0 < 2 ^ 10 := by
        rw [List.getD_eq_getElem?_getD, List.getElem?_eq_getElem hjl]
        exact Nat.lt_of_lt_of_le (hx _ (List.getElem_mem hjl)) hpow
      rw [drop_range hjl, List.foldl_cons]
      by_cases hb : s.testBit j = true
      · rw [if_pos hb]
        refine Ev.step (fun k => ?_) (ih (j + 1) (acc ||| nx.getD j 0) (by omega) (Nat.or_lt_two_pow ha hv))
        simp only [woggleref06_around.l0]
        rw [if_pos (by rw [toI_length]; omega), if_pos (by omega), has64 _ _ (by omega), if_pos (by rw [hb]; rfl), show rd (toI nx) (j : Int) = ((nx.getD j 0 : Nat) : Int) from rd_nat nx j, or64 _ _ (by omega) (by omega), wrapS (by omega)]
      · rw [if_neg hb]
        refine Ev.step (fun k => ?_) (ih (j + 1) acc (by omega) ha)
        rw [Bool.not_eq_true] at hb
        simp only [woggleref06_around.l0]
        rw [if_pos (by rw [toI_length]; omega), if_pos (by omega), has64 _ _ (by omega), if_neg (by rw [hb]; simp), wrapS (by omega)]
  exact key nx.length 0 0 (by omega) (by omega)
theorem members_ev (s : Nat) (hs : s < 2 ^ 10) : Ev (fun k => woggleref01_Members.f k (s : Int)) (mem10 s) := by
  have key : ∀ (d j : Nat), j + d = 10 → Ev (fun k => woggleref01_Members.l0 k (s : Int) (((List.range j).filter (fun i => s.testBit i)).map fun (i : Nat) => (i : Int)) (j : Int)) (mem10 s) := by
    have hdone : ∀ (j : Nat), j ≤ 10 → s / 2 ^ j = 0 → (((List.range j).filter (fun i => s.testBit i)).map fun (i : Nat) => (i : Int)) = mem10 s := by
      intro j hj h0
      unfold mem10
      congr 1
      have : ∀ d, (List.range (j + d)).filter (fun i => s.testBit i) = (List.range j).filter (fun i => s.testBit i) := by
        intro d
        induction d with
        | zero => rfl
        | succ d ih =>
          rw [show j + (d + 1) = (j + d) + 1 by omega, List.range_succ, List.filter_append, ih]
          have : s.testBit (j + d) = false := by
            refine Nat.testBit_lt_two_pow (Nat.lt_of_lt_of_le ?_ (Nat.pow_le_pow_right (by omega) (Nat.le_add_right j d)))
            exact (Nat.div_eq_zero_iff.1 h0).resolve_left (by have := Nat.two_pow_pos j; omega)
          simp [this]
      have h := this (10 - j)
      rw [show j + (10 - j) = 10 by omega] at h
      exact h.symm
    intro d
    induction d with
    | zero =>
      intro j hj
      obtain rfl : j = 10 := by omega
      refine Ev.step (f := fun _ => some (mem10 s)) (fun k => ?_) (Ev.now _)
      simp only [woggleref01_Members.l0]
      rw [if_pos (by omega), shr64, if_neg (by rw [Nat.div_eq_of_lt (by simpa using hs)]; simp)]
      rfl
    | succ d ih =>
      intro j hj
      by_cases h0 : s / 2 ^ j = 0
      · refine Ev.step (f := fun _ => some (mem10 s)) (fun k => ?_) (Ev.now _)
        simp only [woggleref01_Members.l0]
        rw [if_pos (by omega), shr64, Nat.min_eq_left (by omega), if_neg (by rw [h0]; simp), hdone j (by omega) h0]
      · refine Ev.step (fun k => ?_) (ih (j + 1) (by omega))
        simp only [woggleref01_Members.l0]
        rw [if_pos (by omega), if_pos (by rw [shr64, Nat.min_eq_left (by omega)]; exact Int.natCast_pos.2 (Nat.pos_of_ne_zero h0)), has64 _ _ (by omega), wrapS (by omega), List.range_succ, List.filter_append, List.map_append]
        by_cases hb : s.testBit j = true
        · rw [if_pos (by rw [hb]; rfl), if_pos]
          · simp [hb]
          · have := List.length_filter_le (fun i => s.testBit i) (List.range j)
            rw [List.length_map]
            rw [List.length_range] at this
            omega
        · rw [Bool.not_eq_true] at hb
          rw [if_neg (by rw [hb]; simp)]
          simp [hb]
  exact key 10 0 (by omega)
theorem mem10_len {s n : Nat} (hn : n ≤ 10) (hs : s < 2 ^ n) : (mem10 s).length = popc 16 s := by
  have hs' : s < 2 ^ 10 := Nat.lt_of_lt_of_le hs (Nat.pow_le_pow_right (by omega) hn)
  rw [popc16 (by omega) hs']
  unfold mem10 popc
  rw [List.length_map, List.countP_eq_length_filter]
theorem rsize_ev (s : Nat) (hs : s < 2 ^ 10) : Ev (fun k => woggleref06_Size.f k (s : Int)) ((popc 16 s : Nat) : Int) := by
  unfold woggleref06_Size.f
  refine Ev.bind (members_ev s hs) ?_
  rw [mem10_len (Nat.le_refl 10) hs]
  exact Ev.now _
end Go.Proofs.YtbgpnkchbcgekaaDoor.Fi
end
section
namespace Go.Proofs.YtbgpnkchbcgekaaDoor.Fi
open Go.RowKit Go.Proofs.YtbgpnkchbcgekaaDoorW.PrintWords Go.Proofs.YtbgpnkchbcgekaaDoorW.PrintLast Go.Proofs.YtbgpnkchbcgekaaDoorW.PrintMore Wog
set_option linter.unusedVariables false
theorem toI_setI (xs : List Nat) (i v : Nat) : (toI xs).set i (v : Int) = toI (xs.set i v) := by simp [toI, List.map_set]
theorem near_ev (n : Int) (l : List S42) (h : GoodG n l) : Ev (fun k => woggleref06_Near.f k n l) (toI (nearS n.toNat l)) := by
  obtain ⟨h1, h2, h3, h4⟩ := h
  have hpow : (2 : Nat) ^ n.toNat ≤ 2 ^ 10 := Nat.pow_le_pow_right (by omega) (by omega)
  have key : ∀ (d j : Nat), j + d = l.length → Ev (fun k => woggleref06_Near.l0 k l (toI (nearS n.toNat (l.take j))) (j : Int)) (toI (nearS n.toNat l)) := by
    intro d
    induction d with
    | zero =>
      intro j hj
      refine Ev.step (f := fun _ => some (toI (nearS n.toNat l))) (fun k => ?_) (Ev.now _)
      simp only [woggleref06_Near.l0]
      rw [if_neg (by omega), List.take_of_length_le (by omega)]
    | succ d ih =>
      intro j hj
      have hjl : j < l.length := by omega
      have ih' := ih (j + 1) (by omega)
      have he := h4 _ (List.getElem_mem hjl)
      rw [near_snoc n.toNat l j hjl] at ih'
      rw [← rd_mem hjl] at he
      obtain ⟨e, hee⟩ : ∃ e, e = rd_T42 l (j : Int) := ⟨_, rfl⟩
      rw [← hee] at he ih'
      obtain ⟨a0, a1, a2, a3, a4⟩ := he
      obtain ⟨x, hx⟩ := Int.eq_ofNat_of_zero_le a0
      obtain ⟨y, hy⟩ := Int.eq_ofNat_of_zero_le a1
      obtain ⟨xs, hxs⟩ : ∃ xs, xs = nearS n.toNat (l.take j) := ⟨_, rfl⟩
      have hxl : xs.length = n.toNat := by rw [hxs, nearS_length]
      have hxb : ∀ z ∈ xs, z < 2 ^ n.toNat := by rw [hxs]; exact nearS_lt (fun z hz => h4 z (List.mem_of_mem_take hz))
      rw [← hxs] at ih' ⊢
      have hg0 : xs.getD x 0 < 2 ^ n.toNat := getD_lt hxb x
      have hp0 : 2 ^ y < 2 ^ n.toNat := Nat.pow_lt_pow_right (by omega) (by omega)
      have hp1 : 2 ^ x < 2 ^ n.toNat := Nat.pow_lt_pow_right (by omega) (by omega)
      obtain ⟨ys, hys⟩ : ∃ ys, ys = xs.set x (xs.getD x 0 ||| 2 ^ y) := ⟨_, rfl⟩
      have hyl : ys.length = n.toNat := by rw [hys, List.length_set, hxl]
      have hyb : ∀ z ∈ ys, z < 2 ^ n.toNat := by
        intro z hz
        rw [hys] at hz
        rcases List.mem_or_eq_of_mem_set hz with hz | rfl
        · exact hxb z hz
        · exact Nat.or_lt_two_pow hg0 hp0
      have hg1 : ys.getD y 0 < 2 ^ n.toNat := getD_lt hyb y
      have hadd : addS xs e = ys.set y (ys.getD y 0 ||| 2 ^ x) := by
        unfold addS
        rw [hx, hy]
        simp only [Int.toNat_natCast]
        rw [← hys]
      refine Ev.step (fun k => ?_) ih'
      simp only [woggleref06_Near.l0]
      rw [← hee, hx, hy]
      simp only [Int.toNat_natCast]
      rw [if_pos (by omega), if_pos (by omega), if_pos (by omega), if_pos (by rw [toI_length, hxl]; omega), if_pos (by omega), Option.bind_some,
        show rd (toI xs) (x : Int) = ((xs.getD x 0 : Nat) : Int) from rd_nat xs x, shl64 y (by omega), or64 _ _ (by omega) (by omega), toI_setI, ← hys,
        if_pos (by rw [toI_length, hxl]; omega), show rd (toI ys) (y : Int) = ((ys.getD y 0 : Nat) : Int) from rd_nat ys y, shl64 x (by omega), or64 _ _ (by omega) (by omega), toI_setI, wrapS (by omega), hadd]
  have k := key l.length 0 (by omega)
  refine Ev.congr (fun k => ?_) k
  unfold woggleref06_Near.f
  rw [if_pos (by omega), if_pos (by omega)]
  congr 1
  simp [nearS, toI]
theorem cloF_fix {nx : List Nat} {B D k : Nat} (hd : disj B D) (hB : B < 2 ^ nx.length) (hx : ∀ x ∈ nx, x < 2 ^ nx.length) (h : cloF nx D k B = some B) : diff (arnd nx B) D = B := by
  cases k with
  | zero => simp [cloF] at h
  | succ k =>
    rw [cloF] at h
    by_cases e : diff (arnd nx B) D = B
    · exact e
    · rw [if_neg e] at h
      refine ext_lt (diff_le _ _ _ (arnd_lt hx hB)) hB (fun i _ => ?_)
      cases h1 : B.testBit i with
      | true => exact step_sup hd i h1
      | false =>
        cases h2 : (diff (arnd nx B) D).testBit i with
        | false => rfl
        | true => rw [cloF_sup _ _ _ (disj_diff _ _) h i h2] at h1; cases h1
end Go.Proofs.YtbgpnkchbcgekaaDoor.Fi
end
section
namespace Go.Proofs.YtbgpnkchbcgekaaDoor.Fi
open Go.RowKit Go.Proofs.YtbgpnkchbcgekaaDoorW.PrintWords Go.Proofs.YtbgpnkchbcgekaaDoorW.PrintLast Go.Proofs.YtbgpnkchbcgekaaDoorW.PrintMore Wog
set_option linter.unusedVariables false
theorem set_bit (xs : List Nat) (i j a b : Nat) (hi : i < xs.length) : ((xs.set i (xs.getD i 0 ||| 2 ^ j)).getD a 0).testBit b = ((xs.getD a 0).testBit b || (decide (a = i) && decide (b = j))) := by
  rw [List.getD_eq_getElem?_getD, List.getD_eq_getElem?_getD, List.getElem?_set]
  by_cases h : i = a
  · subst h
    rw [if_pos rfl, if_pos hi]
    simp only [Option.getD_some]
    rw [Nat.testBit_or, testBit_two_pow, List.getD_eq_getElem?_getD]
    simp [eq_comm]
  · rw [if_neg h]
    have : decide (a = i) = false := decide_eq_false (fun e => h e.symm)
    rw [this]
    simp
theorem addS_bit {n : Nat} (xs : List Nat) (e : S42) (hl : xs.length = n) (he : okE n e) (a b : Nat) :
    ((addS xs e).getD a 0).testBit b = ((xs.getD a 0).testBit b || ((decide (a = e.f0.toNat) && decide (b = e.f1.toNat)) || (decide (a = e.f1.toNat) && decide (b = e.f0.toNat)))) := by
  obtain ⟨h1, h2, h3, h4, h5⟩ := he
  unfold addS
  simp only []
  rw [set_bit _ _ _ _ _ (by simp; omega), set_bit _ _ _ _ _ (by omega), Bool.or_assoc]
theorem near_bit {n : Nat} : ∀ (l : List S42), (∀ e ∈ l, okE n e) → ∀ a b, ((nearS n l).getD a 0).testBit b = true ↔ ∃ e ∈ l, (a = e.f0.toNat ∧ b = e.f1.toNat) ∨ (a = e.f1.toNat ∧ b = e.f0.toNat) := by
  have key : ∀ (l : List S42) (xs : List Nat), xs.length = n → (∀ e ∈ l, okE n e) → ∀ a b, ((l.foldl addS xs).getD a 0).testBit b = true ↔ (xs.getD a 0).testBit b = true ∨ ∃ e ∈ l, (a = e.f0.toNat ∧ b = e.f1.toNat) ∨ (a = e.f1.toNat ∧ b = e.f0.toNat) := by
    intro l
    induction l with
    | nil => intro xs _ _ a b; simp
    | cons e l ih =>
      intro xs hl he a b
      rw [List.foldl_cons, ih _ (by rw [addS_length, hl]) (fun x hx => he x (by simp [hx])) a b, addS_bit xs e hl (he e (by simp)) a b]
      simp only [Bool.or_eq_true, Bool.and_eq_true, decide_eq_true_eq, List.mem_cons, exists_eq_or_imp]
      constructor
      · rintro ((h | h) | h)
        · exact .inl h
        · exact .inr (.inl h)
        · exact .inr (.inr h)
      · rintro (h | h | h)
        · exact .inl (.inl h)
        · exact .inl (.inr h)
        · exact .inr h
  intro l he a b
  unfold nearS
  rw [key l _ (by simp) he a b]
  have : ((List.replicate n 0).getD a 0).testBit b = false := by
    rw [List.getD_eq_getElem?_getD, List.getElem?_replicate]
    split <;> simp
  rw [this]
  simp
theorem near_sym {n : Nat} {l : List S42} (he : ∀ e ∈ l, okE n e) : Sym (nearS n l) := by
  intro a b _ _
  rw [Bool.eq_iff_iff, near_bit l he, near_bit l he]
  constructor
  · rintro ⟨e, h1, h2⟩
    exact ⟨e, h1, by omega⟩
  · rintro ⟨e, h1, h2⟩
    exact ⟨e, h1, by omega⟩
theorem full64 {n : Nat} (hn : n ≤ 10) : wrap64 (shl .i64 1 (n : Int) - 1) = ((full n : Nat) : Int) := by
  rw [shl64 n (by omega)]
  have h1 : 2 ^ n ≤ 2 ^ 10 := Nat.pow_le_pow_right (by omega) hn
  have h2 := Nat.two_pow_pos n
  unfold full
  generalize 2 ^ n = x at *
  unfold wrap64
  omega
section
variable {nx : List Nat}
theorem lt1024 (hn : nx.length ≤ 10) {x : Nat} (h : x < 2 ^ nx.length) : x < 2 ^ 10 := Nat.lt_of_lt_of_le h (Nat.pow_le_pow_right (by omega) hn)
theorem ball_add (v : Nat) (i : Nat) : ball nx v (i + 1) = ball nx v i ||| nb nx (ball nx v i) := rfl
theorem rball_ev (hn : nx.length ≤ 10) (hx : ∀ x ∈ nx, x < 2 ^ nx.length) {v r : Nat} (hv : v < nx.length) (hr : r < 2 ^ 30) : Ev (fun k => woggleref06_Ball.f k (toI nx) (v : Int) (r : Int)) ((ball nx v r : Nat) : Int) := by
  have key : ∀ (d i : Nat), d < 2 ^ 30 → Ev (fun k => woggleref06_Ball.l0 k (toI nx) (d : Int) ((ball nx v i : Nat) : Int)) ((ball nx v (i + d) : Nat) : Int) := by
    intro d
    induction d with
    | zero =>
      intro i _
      refine Ev.step (f := fun _ => some ((ball nx v i : Nat) : Int)) (fun k => ?_) (Ev.now _)
      simp only [woggleref06_Ball.l0]
      rw [if_neg (by omega)]
    | succ d ih =>
      intro i hd
      have hb := ball_lt hx hv i
      refine Ev.step (f := fun k => (woggleref06_around.f k (toI nx) ((ball nx v i : Nat) : Int)).bind fun t => woggleref06_Ball.l0 k (toI nx) (wrap64 (((d + 1 : Nat) : Int) - 1)) (Go.bits .or .i64 ((ball nx v i : Nat) : Int) t)) (fun k => ?_) ?_
      · simp only [woggleref06_Ball.l0]
        rw [if_pos (by omega)]
      · refine Ev.bind (raround_ev nx _ hn hx hb) ?_
        have h1 := lt1024 hn hb
        have h2 := lt1024 hn (nb_lt hx (ball nx v i))
        rw [or64 _ _ (by omega) (by omega), show wrap64 (((d + 1 : Nat) : Int) - 1) = (d : Int) by unfold wrap64; omega, ← ball_add]
        have := ih (i + 1) (by omega)
        rwa [show i + 1 + d = i + (d + 1) by omega] at this
  have h := key r 0 hr
  refine Ev.congr (f := fun k => woggleref06_Ball.l0 k (toI nx) (r : Int) ((ball nx v 0 : Nat) : Int)) (fun k => ?_) (by simpa using h)
  unfold woggleref06_Ball.f
  rw [if_pos (by omega), shl64 v (by omega)]
  rfl
end
end Go.Proofs.YtbgpnkchbcgekaaDoor.Fi
end
section
namespace Go.Proofs.YtbgpnkchbcgekaaDoor.Fi
open Go.RowKit Go.Proofs.YtbgpnkchbcgekaaDoorW.PrintWords Go.Proofs.YtbgpnkchbcgekaaDoorW.PrintLast Go.Proofs.YtbgpnkchbcgekaaDoorW.PrintMore Wog
set_option linter.unusedVariables false
theorem lives_best : fire_Best.f 4 ([(⟨0, 1⟩ : S42), (⟨1, 2⟩ : S42), (⟨2, 3⟩ : S42)] : List (S42)) 1 = some (2, [2], 0) := by decide +kernel
theorem lives_play : fire_Play.f 4 ([(⟨0, 1⟩ : S42), (⟨1, 2⟩ : S42), (⟨2, 3⟩ : S42)] : List (S42)) 1 [2] = some ([[0]], 0) := by decide +kernel
theorem lives_burning : fire_Burning.f 4 ([(⟨0, 1⟩ : S42), (⟨1, 2⟩ : S42), (⟨2, 3⟩ : S42)] : List (S42)) = some ([1, 3], 0) := by decide +kernel
theorem lives_ev : Ev (fun k => wogglelaw06_lives.f k) true := by
  unfold wogglelaw06_lives.f
  simp only [Option.bind_some, lives_best, lives_play, lives_burning, if_true]
  refine Ev.bind (same_ev [2] (by simp)) ?_
  simp only [if_true]
  refine Ev.bind (sameLists_ev [[0]] (by simp) (by simp)) ?_
  simp only [if_true]
  refine Ev.bind (same_ev [1, 3] (by simp)) ?_
  simp only [if_true]
  exact Ev.now _
end Go.Proofs.YtbgpnkchbcgekaaDoor.Fi
end
section
namespace Go.Proofs.YtbgpnkchbcgekaaDoor.Fi
open Go.RowKit Go.Proofs.YtbgpnkchbcgekaaDoorW.PrintWords Go.Proofs.YtbgpnkchbcgekaaDoorW.PrintLast Go.Proofs.YtbgpnkchbcgekaaDoorW.PrintMore Wog
set_option linter.unusedVariables false
theorem lives_then : Ev (fun k => (wogglelaw06_lives.f k).bind fun t => some t) true := Ev.bind lives_ev (Ev.now _)
theorem GoodG.rows {n : Int} {l : List S42} (h : GoodG n l) : (∀ x ∈ nearS n.toNat l, x < 2 ^ (nearS n.toNat l).length) ∧ (nearS n.toNat l).length ≤ 10 ∧ 0 < (nearS n.toNat l).length ∧ n = ((nearS n.toNat l).length : Int) ∧ (nearS n.toNat l).length = n.toNat := by
  obtain ⟨h1, h2, h3, h4⟩ := h
  have hl := nearS_length n.toNat l
  refine ⟨by rw [hl]; exact nearS_lt h4, by omega, by omega, by omega, hl⟩
end Go.Proofs.YtbgpnkchbcgekaaDoor.Fi
end
section
namespace Go.Proofs.YtbgpnkchbcgekaaDoor.Fi
open Go.RowKit Go.Proofs.YtbgpnkchbcgekaaDoorW.PrintWords Go.Proofs.YtbgpnkchbcgekaaDoorW.PrintLast Go.Proofs.YtbgpnkchbcgekaaDoorW.PrintMore Wog
set_option linter.unusedVariables false
section
variable {nx : List Nat}
end
theorem GoodG.near_lt {n : Int} {l : List S42} (h : GoodG n l) {f : Int} (h0 : 0 ≤ f) (hf : f < n) : 2 ^ f.toNat < 2 ^ (nearS n.toNat l).length := by
  obtain ⟨_, _, _, hnn, _⟩ := h.rows
  exact Nat.pow_lt_pow_right (by omega) (by omega)
theorem savedS_is (n : Int) (o : List Nat) : savedS n o = n - 1 - (sumP o : Int) := by
  unfold savedS sumP
  have : ∀ (o : List Nat) (a : Int), o.foldl (fun a s => a - ((popc 16 s : Nat) : Int)) a = a - (((o.map (popc 16)).sum : Nat) : Int) := by
    intro o
    induction o with
    | nil => intro a; simp
    | cons x o ih => intro a; rw [List.foldl_cons, ih]; simp; omega
  exact this o (n - 1)
/-- The rounds of a plan, and what burns in the end: both or none. -/
theorem play_both {n : Int} {l : List S42} {f : Int} (h : PlayOk n l f) (p : List Int) (o : List Nat) (ho : playS (nearS n.toNat l) p (2 ^ f.toNat) 0 = some o) :
    ∃ e, endB (nearS n.toNat l) p (2 ^ f.toNat) 0 = some e ∧ e < 2 ^ (nearS n.toNat l).length ∧ savedS n o = n - ((popc 16 e : Nat) : Int) := by
  obtain ⟨hg, h0, hf⟩ := h
  obtain ⟨hx, hn10, hn0, hnn, hnl⟩ := hg.rows
  have hB := hg.near_lt h0 hf
  have hz : disj (2 ^ f.toNat) 0 := fun i _ => by simp
  obtain ⟨e, h1, h2⟩ := playS_end hx p _ _ o hB hz ho
  refine ⟨e, h1, endB_lt hx _ _ _ _ hB hz h1, ?_⟩
  rw [savedS_is, h2, popc16 (by omega) hB, popc_pow (by omega)]
  omega
end Go.Proofs.YtbgpnkchbcgekaaDoor.Fi
end
section
namespace Go.Proofs.YtbgpnkchbcgekaaDoor.Fi
open Go.RowKit Go.Proofs.YtbgpnkchbcgekaaDoorW.PrintWords Go.Proofs.YtbgpnkchbcgekaaDoorW.PrintLast Go.Proofs.YtbgpnkchbcgekaaDoorW.PrintMore Wog
set_option linter.unusedVariables false
def tri : Nat → Nat
  | 0 => 0
  | i + 1 => tri i + i
theorem tri_le : ∀ i : Nat, i ≤ 10 → tri i ≤ 45 := by decide
theorem made_key (a1 : Int) (n : Nat) (hn10 : n ≤ 10) (hn0 : 1 ≤ n) : ∀ (d i : Nat) (l : List S42), i + d = n → (∀ e ∈ l, okE n e) → l.length ≤ tri i → ∃ l', GoodG n l' ∧ Ev (fun k => wogglelaw06_made.l0 k a1 (n : Int) l ((tri i : Nat) : Int) (i : Int)) ((n : Int), l') := by
  intro d
  induction d with
  | zero =>
    intro i l hi hl hlen
    have := tri_le i (by omega)
    refine ⟨l, ⟨by omega, by omega, by omega, by rw [Int.toNat_natCast]; exact hl⟩, Ev.step (f := fun _ => some ((n : Int), l)) (fun k => ?_) (Ev.now _)⟩
    simp only [wogglelaw06_made.l0]
    rw [if_neg (by omega)]
  | succ d ih =>
    intro i l hi hl hlen
    have htri := tri_le i (by omega)
    -- the inner loop
    have inner : ∀ (c j : Nat) (l : List S42), j + c = i → (∀ e ∈ l, okE n e) → l.length ≤ tri i + j → ∃ l', GoodG n l' ∧ Ev (fun k => wogglelaw06_made.l1 k a1 (n : Int) l ((tri i + j : Nat) : Int) (i : Int) (j : Int)) ((n : Int), l') := by
      intro c
      induction c with
      | zero =>
        intro j l hj hl hlen
        obtain rfl : j = i := by omega
        obtain ⟨l', h1, h2⟩ := ih (j + 1) l (by omega) hl (by show l.length ≤ tri j + j; exact hlen)
        have e : tri (j + 1) = tri j + j := rfl
        rw [e] at h2
        refine ⟨l', h1, Ev.step (fun k => ?_) h2⟩
        simp only [wogglelaw06_made.l1]
        rw [if_neg (by omega), wrapS (by omega)]
      | succ c ihc =>
        intro j l hj hl hlen
        have hadd : wrap64 (((tri i + j : Nat) : Int) + 1) = ((tri i + (j + 1) : Nat) : Int) := by unfold wrap64; omega
        by_cases hb : Go.bits .and .u64 (shr .u64 a1 ((tri i + j : Nat) : Int)) 1 = 1
        · obtain ⟨l', h1, h2⟩ := ihc (j + 1) (l ++ [(⟨(i : Int), (j : Int)⟩ : S42)]) (by omega) (fun e he => by
            rcases List.mem_append.1 he with he | he
            · exact hl e he
            · obtain rfl : e = (⟨(i : Int), (j : Int)⟩ : S42) := by simpa using he
              exact ⟨by show (0 : Int) ≤ i; omega, by show (0 : Int) ≤ j; omega, by show (i : Int) < n; omega, by show (j : Int) < n; omega, by show (i : Int) ≠ j; omega⟩) (by rw [List.length_append]; exact Nat.succ_le_succ hlen)
          refine ⟨l', h1, Ev.step (fun k => ?_) h2⟩
          simp only [wogglelaw06_made.l1]
          rw [if_pos (by omega), if_pos (by omega), if_pos hb, if_pos (by omega), hadd, wrapS (by omega)]
        · obtain ⟨l', h1, h2⟩ := ihc (j + 1) l (by omega) hl (by omega)
          refine ⟨l', h1, Ev.step (fun k => ?_) h2⟩
          simp only [wogglelaw06_made.l1]
          rw [if_pos (by omega), if_pos (by omega), if_neg hb, hadd, wrapS (by omega)]
    obtain ⟨l', h1, h2⟩ := inner i 0 l (by omega) hl (by omega)
    rw [Nat.add_zero, Int.natCast_zero] at h2
    refine ⟨l', h1, Ev.step (fun k => ?_) h2⟩
    simp only [wogglelaw06_made.l0]
    rw [if_pos (by omega)]
theorem made_ev (a0 a1 : Int) (h0 : (Lit.int .u8 a0).wf = true) : ∃ (n : Int) (l : List S42), GoodG n l ∧ Ev (fun k => wogglelaw06_made.f k a0 a1) (n, l) := by
  have hr : 0 ≤ a0 ∧ a0 ≤ 255 := by
    have h9 : (decide (IntKind.u8.min ≤ a0) && decide (a0 ≤ IntKind.u8.max)) = true := h0
    rw [Bool.and_eq_true, decide_eq_true_iff, decide_eq_true_iff] at h9
    have h8 : IntKind.u8.max = 255 := by kernel_rfl
    have h7 : IntKind.u8.min = 0 := by kernel_rfl
    rw [h8, h7] at h9
    exact h9
  obtain ⟨a, rfl⟩ := Int.eq_ofNat_of_zero_le hr.1
  have hn : wrap64 (Int.tmod (wrap64 (a : Int)) 10 + 1) = ((a % 10 + 1 : Nat) : Int) := by
    have h1 : wrap64 (a : Int) = (a : Int) := by unfold wrap64; omega
    rw [h1, Int.tmod_eq_emod_of_nonneg (by omega)]
    unfold wrap64
    omega
  obtain ⟨n, hnn⟩ : ∃ n, n = a % 10 + 1 := ⟨_, rfl⟩
  have hn10 : n ≤ 10 := by omega
  have hn0 : 1 ≤ n := by omega
  have key := made_key a1 n hn10 hn0
  obtain ⟨l', h1, h2⟩ := key n 0 [] (by omega) (by simp) (by simp)
  refine ⟨(n : Int), l', h1, ?_⟩
  unfold wogglelaw06_made.f
  have e : tri 0 = 0 := rfl
  rw [e, Int.natCast_zero] at h2
  simp only [hn, ← hnn]
  exact h2
theorem u8_range {x : Int} (h : (Lit.int .u8 x).wf = true) : 0 ≤ x ∧ x ≤ 255 := by
  have h9 : (decide (IntKind.u8.min ≤ x) && decide (x ≤ IntKind.u8.max)) = true := h
  rw [Bool.and_eq_true, decide_eq_true_iff, decide_eq_true_iff] at h9
  have h8 : IntKind.u8.max = 255 := by kernel_rfl
  have h7 : IntKind.u8.min = 0 := by kernel_rfl
  rw [h8, h7] at h9
  exact h9
theorem tmod_range {x n : Int} (hx : 0 ≤ x ∧ x ≤ 255) (hn : 1 ≤ n) : 0 ≤ Int.tmod (wrap64 x) n ∧ Int.tmod (wrap64 x) n < n := by
  have h1 : wrap64 x = x := by unfold wrap64; omega
  rw [h1, Int.tmod_eq_emod_of_nonneg hx.1]
  exact ⟨Int.emod_nonneg _ (by omega), Int.emod_lt_of_pos _ (by omega)⟩
/-- What Best returns: its own plan leaves as many as it says, and no plan more. -/
theorem bestR_spec {n : Int} {l : List S42} {f : Int} (h : PlayOk n l f) : (∃ o, playR n l f (bestR n l f).2 = some o ∧ savedS n o = (bestR n l f).1) ∧ ∀ p o, playR n l f p = some o → savedS n o ≤ (bestR n l f).1 := by
  obtain ⟨hg, h0, hf⟩ := h
  obtain ⟨hx, hn10, hn0, hnn, hnl⟩ := hg.rows
  have hB := hg.near_lt h0 hf
  have hz : disj (2 ^ f.toNat) 0 := fun i _ => by simp
  have hb := bestR_is hg h0 hf
  obtain ⟨e, h1, h2⟩ := bestF_attains hx _ _ _ _ hB hz hb
  obtain ⟨o, ho⟩ := playS_of_end _ _ _ _ h1
  refine ⟨⟨o, ho, ?_⟩, fun p o' ho' => ?_⟩
  · obtain ⟨e', h3, _, h4⟩ := play_both ⟨hg, h0, hf⟩ _ o ho
    rw [h1] at h3
    obtain rfl := Option.some.inj h3
    rw [h4, h2, ← hnn]
  · obtain ⟨e', h3, _, h4⟩ := play_both ⟨hg, h0, hf⟩ _ o' ho'
    have := bestF_ge hx _ _ _ _ hB hz hb p e' h3
    rw [← hnn] at this
    rw [h4]
    exact this
end Go.Proofs.YtbgpnkchbcgekaaDoor.Fi
end
section
namespace Go.Proofs.YtbgpnkchbcgekaaDoor.Fi
open Go.RowKit Go.Proofs.YtbgpnkchbcgekaaDoorW.PrintWords Go.Proofs.YtbgpnkchbcgekaaDoorW.PrintLast Go.Proofs.YtbgpnkchbcgekaaDoorW.PrintMore Wog
set_option linter.unusedVariables false
def rbv (nx : List Nat) (k b : Nat) : List Int × Bool := match rbF nx k b with
  | some q => (toI q, true)
  | none => ([], false)
theorem mx_nat (a b : Nat) : mx (a : Int) (b : Int) = ((max a b : Nat) : Int) := by unfold mx; omega
section
variable {nx : List Nat}
theorem mostS_le (r : Nat) : mostS nx r ≤ 16 := by
  unfold mostS
  have : ∀ (l : List Nat) (m : Nat), m ≤ 16 → l.foldl (fun m v => max m (popc 16 (ball nx v r))) m ≤ 16 := by
    intro l
    induction l with
    | nil => intro m h; exact h
    | cons v l ih =>
      intro m h
      rw [List.foldl_cons]
      exact ih _ (Nat.max_le.2 ⟨h, popc_le16 _⟩)
  exact this _ 0 (by omega)
theorem roomS_le : ∀ k, roomS nx k ≤ 16 * k
  | 0 => by simp [roomS]
  | k + 1 => by rw [roomS_succ]; have := roomS_le k; have := mostS_le (nx := nx) k; omega
theorem rburn_most (hn : nx.length ≤ 10) (hx : ∀ x ∈ nx, x < 2 ^ nx.length) (K b r : Nat) (hr : r < 100) (a : Int) (res : List Int × Bool)
    (hend : Ev (fun k => woggleref06_burning.l0 k (toI nx) (K : Int) (b : Int) (nx.length : Int) (wrap64 (a + ((mostS nx r : Nat) : Int))) (wrap64 ((r : Int) + 1))) res) :
    Ev (fun k => woggleref06_burning.l1 k (toI nx) (K : Int) (b : Int) (nx.length : Int) a (r : Int) 0 0) res := by
  have key : ∀ (d v m : Nat), v + d = nx.length → ((List.range nx.length).drop v).foldl (fun m v => max m (popc 16 (ball nx v r))) m = mostS nx r → Ev (fun k => woggleref06_burning.l1 k (toI nx) (K : Int) (b : Int) (nx.length : Int) a (r : Int) (m : Int) (v : Int)) res := by
    intro d
    induction d with
    | zero =>
      intro v m hv hm
      rw [List.drop_eq_nil_of_le (by simp; omega)] at hm
      have hm' : m = mostS nx r := hm
      subst hm'
      refine Ev.step (fun k => ?_) hend
      simp only [woggleref06_burning.l1]
      rw [if_neg (by omega)]
    | succ d ih =>
      intro v m hv hm
      have hvn : v < nx.length := by omega
      rw [drop_range hvn, List.foldl_cons] at hm
      refine Ev.step (f := fun k => (woggleref06_Ball.f k (toI nx) (v : Int) (r : Int)).bind fun t => (woggleref06_Size.f k t).bind fun t2 => woggleref06_burning.l1 k (toI nx) (K : Int) (b : Int) (nx.length : Int) a (r : Int) (mx (m : Int) t2) ((v + 1 : Nat) : Int)) (fun k => ?_) ?_
      · simp only [woggleref06_burning.l1]
        rw [if_pos (by omega), wrapS (by omega)]
      · refine Ev.bind (rball_ev hn hx hvn (by omega)) ?_
        refine Ev.bind (rsize_ev _ (lt1024 hn (ball_lt hx hvn r))) ?_
        rw [mx_nat]
        exact ih (v + 1) _ (by omega) hm
  have h := key nx.length 0 0 (by omega) rfl
  rwa [Int.natCast_zero] at h
theorem rburn_room (hn : nx.length ≤ 10) (hx : ∀ x ∈ nx, x < 2 ^ nx.length) (K b : Nat) (hK : K < 90) (res : List Int × Bool)
    (hend : Ev (fun k => woggleref06_burning.l0 k (toI nx) (K : Int) (b : Int) (nx.length : Int) ((roomS nx K : Nat) : Int) (K : Int)) res) :
    Ev (fun k => woggleref06_burning.l0 k (toI nx) (K : Int) (b : Int) (nx.length : Int) 0 0) res := by
  have key : ∀ (d r : Nat), r + d = K → Ev (fun k => woggleref06_burning.l0 k (toI nx) (K : Int) (b : Int) (nx.length : Int) ((roomS nx r : Nat) : Int) (r : Int)) res := by
    intro d
    induction d with
    | zero =>
      intro r hr
      obtain rfl : r = K := by omega
      exact hend
    | succ d ih =>
      intro r hr
      refine Ev.step (f := fun k => woggleref06_burning.l1 k (toI nx) (K : Int) (b : Int) (nx.length : Int) ((roomS nx r : Nat) : Int) (r : Int) 0 0) (fun k => ?_) (rburn_most hn hx K b r (by omega) _ res ?_)
      · simp only [woggleref06_burning.l0]
        rw [if_pos (by omega)]
      · have h1 := roomS_le (nx := nx) r
        have h2 := mostS_le (nx := nx) r
        have e1 : wrap64 (((roomS nx r : Nat) : Int) + ((mostS nx r : Nat) : Int)) = ((roomS nx (r + 1) : Nat) : Int) := by rw [roomS_succ]; unfold wrap64; omega
        rw [e1, wrapS (by omega)]
        exact ih (r + 1) (by omega)
  have h := key K 0 (by omega)
  have e : roomS nx 0 = 0 := rfl
  rw [e, Int.natCast_zero] at h
  exact h
theorem rburning_ev (hn : nx.length ≤ 10) (hx : ∀ x ∈ nx, x < 2 ^ nx.length) : ∀ (K b : Nat), K < 90 → b < 2 ^ nx.length → Ev (fun k => woggleref06_burning.f k (toI nx) (K : Int) (b : Int)) (rbv nx K b) := by
  intro K
  induction K with
  | zero =>
    intro b _ hb
    refine Ev.step (f := fun _ => some ([], decide (b = full nx.length))) (fun k => ?_) ?_
    · simp only [woggleref06_burning.f]
      rw [if_pos (by rfl), toI_length, full64 hn]
      congr 2
      rw [Bool.eq_iff_iff]
      simp
      omega
    · unfold rbv
      rw [rbF]
      by_cases h : b = full nx.length
      · rw [if_pos h, decide_eq_true h]; exact Ev.now _
      · rw [if_neg h, decide_eq_false h]; exact Ev.now _
  | succ K ih =>
    intro b hK hb
    refine Ev.step (f := fun k => woggleref06_burning.l0 k (toI nx) ((K + 1 : Nat) : Int) (b : Int) (nx.length : Int) 0 0) (fun k => ?_) (rburn_room hn hx (K + 1) b hK _ ?_)
    · simp only [woggleref06_burning.f]
      rw [if_neg (by omega), toI_length]
    · have h1 := roomS_le (nx := nx) (K + 1)
      have hp : popc 16 b ≤ 16 := popc_le16 b
      have hw : wrap64 ((nx.length : Int) - ((popc 16 b : Nat) : Int)) = (nx.length : Int) - ((popc 16 b : Nat) : Int) := by unfold wrap64; omega
      refine Ev.step (f := fun k => (woggleref06_Size.f k (b : Int)).bind fun t => if wrap64 ((nx.length : Int) - t) > ((roomS nx (K + 1) : Nat) : Int) then some (([] : List Int), false) else woggleref06_burning.l2 k (toI nx) ((K + 1 : Nat) : Int) (b : Int) (nx.length : Int) 0) (fun k => ?_) ?_
      · simp only [woggleref06_burning.l0]
        rw [if_neg (by omega)]
      · refine Ev.bind (rsize_ev b (lt1024 hn hb)) ?_
        simp only [hw]
        by_cases hroom : (roomS nx (K + 1) : Int) < (nx.length : Int) - ((popc 16 b : Nat) : Int)
        · have hgt : (nx.length : Int) - ((popc 16 b : Nat) : Int) > ((roomS nx (K + 1) : Nat) : Int) := hroom
          simp only [if_pos hgt]
          unfold rbv
          rw [rbF, if_pos hroom]
          exact Ev.now _
        · have hgt : ¬ (nx.length : Int) - ((popc 16 b : Nat) : Int) > ((roomS nx (K + 1) : Nat) : Int) := hroom
          simp only [if_neg hgt]
          have e0 : rbF nx (K + 1) b = ((List.range nx.length).drop 0).findSome? fun v => (rbF nx K (b ||| ball nx v K)).map fun l => v :: l := by rw [rbF, if_neg hroom]; rfl
          have key : ∀ (d v : Nat), v + d = nx.length → rbF nx (K + 1) b = (((List.range nx.length).drop v).findSome? fun v => (rbF nx K (b ||| ball nx v K)).map fun l => v :: l) → Ev (fun k => woggleref06_burning.l2 k (toI nx) ((K + 1 : Nat) : Int) (b : Int) (nx.length : Int) (v : Int)) (rbv nx (K + 1) b) := by
            intro d
            induction d with
            | zero =>
              intro v hv hq
              rw [List.drop_eq_nil_of_le (by simp; omega)] at hq
              have hq' : rbF nx (K + 1) b = none := hq
              unfold rbv
              rw [hq']
              refine Ev.step (f := fun _ => some ([], false)) (fun k => ?_) (Ev.now _)
              simp only [woggleref06_burning.l2]
              rw [if_neg (by omega)]
            | succ d ihd =>
              intro v hv hq
              have hvn : v < nx.length := by omega
              rw [drop_range hvn, List.findSome?_cons] at hq
              have hbl := ball_lt hx hvn K
              have hbb := Nat.or_lt_two_pow hb hbl
              have hih := ih (b ||| ball nx v K) (by omega) hbb
              refine Ev.step (f := fun k => (woggleref06_Ball.f k (toI nx) (v : Int) (K : Int)).bind fun t421 => (woggleref06_burning.f k (toI nx) (K : Int) (Go.bits .or .i64 (b : Int) t421)).bind fun bt422 => (if bt422.2 = true then ((some (([(v : Int)] : List Int) : List Int)).bind fun y426 => (if y426.length + bt422.1.length < 17592186044416 then (some ((y426 ++ bt422.1), true)) else (none))) else (woggleref06_burning.l2 k (toI nx) ((K + 1 : Nat) : Int) (b : Int) (nx.length : Int) ((v + 1 : Nat) : Int)))) (fun k => ?_) ?_
              · simp only [woggleref06_burning.l2]
                rw [if_pos (by omega), wrapS (by omega), show wrap64 (((K + 1 : Nat) : Int) - 1) = (K : Int) by unfold wrap64; omega]
              · refine Ev.bind (rball_ev hn hx hvn (by omega)) ?_
                rw [or64 _ _ (by have := lt1024 hn hb; omega) (by have := lt1024 hn hbl; omega)]
                refine Ev.bind hih ?_
                cases hr : rbF nx K (b ||| ball nx v K) with
                | none =>
                  rw [hr] at hq
                  have e1 : rbv nx K (b ||| ball nx v K) = ([], false) := by unfold rbv; rw [hr]
                  rw [e1]
                  simp only [Bool.false_eq_true, if_false]
                  exact ihd (v + 1) (by omega) hq
                | some p =>
                  rw [hr] at hq
                  have hq' : rbF nx (K + 1) b = some (v :: p) := hq
                  have e1 : rbv nx K (b ||| ball nx v K) = (toI p, true) := by unfold rbv; rw [hr]
                  have e2 : rbv nx (K + 1) b = (toI (v :: p), true) := by unfold rbv; rw [hq']
                  have hpl := (rbF_sound _ _ _ hr).1
                  rw [e1, e2]
                  have hlen : [(v : Int)].length + (toI p).length < 17592186044416 := by rw [toI_length, hpl]; simp; omega
                  simp only [if_true, Option.bind_some, if_pos hlen]
                  exact Ev.now _
          have h := key nx.length 0 (by omega) e0
          rwa [Int.natCast_zero] at h
theorem rBurning_ev (hn : nx.length ≤ 10) (hx : ∀ x ∈ nx, x < 2 ^ nx.length) {q : List Nat} (h1 : 1 ≤ q.length) (hl : q.length ≤ 10) (hq : rbF nx q.length 0 = some q) (hno : ∀ j, 1 ≤ j → j < q.length → rbF nx j 0 = none) : Ev (fun k => woggleref06_Burning.f k (toI nx)) (toI q) := by
  have key : ∀ (d j : Nat), j + d = q.length → 1 ≤ j → Ev (fun k => woggleref06_Burning.l0 k (toI nx) (j : Int)) (toI q) := by
    intro d
    induction d with
    | zero =>
      intro j hj _
      obtain rfl : j = q.length := by omega
      refine Ev.step (f := fun k => (woggleref06_burning.f k (toI nx) (q.length : Int) ((0 : Nat) : Int)).bind fun bt432 => if bt432.2 = true then some bt432.1 else woggleref06_Burning.l0 k (toI nx) (wrap64 ((q.length : Int) + 1))) (fun k => by simp only [woggleref06_Burning.l0]; rfl) ?_
      refine Ev.bind (rburning_ev hn hx q.length 0 (by omega) (Nat.two_pow_pos _)) ?_
      have e1 : rbv nx q.length 0 = (toI q, true) := by unfold rbv; rw [hq]
      rw [e1]
      simp only [if_true]
      exact Ev.now _
    | succ d ih =>
      intro j hj hj1
      refine Ev.step (f := fun k => (woggleref06_burning.f k (toI nx) (j : Int) ((0 : Nat) : Int)).bind fun bt432 => if bt432.2 = true then some bt432.1 else woggleref06_Burning.l0 k (toI nx) ((j + 1 : Nat) : Int)) (fun k => by simp only [woggleref06_Burning.l0]; rw [wrapS (by omega)]; rfl) ?_
      refine Ev.bind (rburning_ev hn hx j 0 (by omega) (Nat.two_pow_pos _)) ?_
      have e1 : rbv nx j 0 = ([], false) := by unfold rbv; rw [hno j hj1 (by omega)]
      rw [e1]
      simp only [Bool.false_eq_true, if_false]
      exact ih (j + 1) (by omega) (by omega)
  have h := key (q.length - 1) 1 (by omega) (by omega)
  exact h
end
end Go.Proofs.YtbgpnkchbcgekaaDoor.Fi
end
section
namespace Go.Proofs.YtbgpnkchbcgekaaDoor.Fi
open Go.RowKit Go.Proofs.YtbgpnkchbcgekaaDoorW.PrintWords Go.Proofs.YtbgpnkchbcgekaaDoorW.PrintLast Go.Proofs.YtbgpnkchbcgekaaDoorW.PrintMore Wog
set_option linter.unusedVariables false
theorem GoodG.sym {n : Int} {l : List S42} (h : GoodG n l) : Sym (nearS n.toNat l) := near_sym h.2.2.2
theorem burn_spec {n : Int} {l : List S42} (h : GoodG n l) : ∃ q : List Nat, fire_Burning.f n l = some (toI q, 0) ∧ 1 ≤ q.length ∧ q.length ≤ (nearS n.toNat l).length ∧ (∀ v ∈ q, v < (nearS n.toNat l).length) ∧ covS (nearS n.toNat l) q 0 = full (nearS n.toNat l).length ∧ (∀ p : List Nat, 1 ≤ p.length → (∀ v ∈ p, v < (nearS n.toNat l).length) → covS (nearS n.toNat l) p 0 = full (nearS n.toNat l).length → q.length ≤ p.length) ∧ Ev (fun k => woggleref06_Burning.f k (toI (nearS n.toNat l))) (toI q) := by
  obtain ⟨hx, hn10, hn0, hnn, hnl⟩ := h.rows
  obtain ⟨q, h1, h2, h3, h4, h5, h6, h7, h8⟩ := burnS_spec hn10 hx h.sym hn0
  refine ⟨q, ?_, h2, h3, h4, h5, h6, rBurning_ev hn10 hx h2 (by omega) h7 h8⟩
  unfold fire_Burning.f
  rw [if_pos h, h1]
  rfl
end Go.Proofs.YtbgpnkchbcgekaaDoor.Fi
end
section
namespace Go.Proofs.YtbgpnkchbcgekaaDoor.Fi
open Go.RowKit Go.Proofs.YtbgpnkchbcgekaaDoorW.PrintWords Go.Proofs.YtbgpnkchbcgekaaDoorW.PrintLast Go.Proofs.YtbgpnkchbcgekaaDoorW.PrintMore Wog
set_option linter.unusedVariables false
def memN (s : Nat) : List Nat := (List.range 10).filter (fun i => s.testBit i)
theorem mem10_is (s : Nat) : mem10 s = toI (memN s) := rfl
theorem memN_mem {s i : Nat} : i ∈ memN s ↔ i < 10 ∧ s.testBit i = true := by
  unfold memN
  rw [List.mem_filter, List.mem_range]
theorem memN_nodup (s : Nat) : (memN s).Nodup := List.nodup_range.filter (fun i => s.testBit i)
theorem memN_len (s : Nat) : (memN s).length ≤ 10 := by
  unfold memN
  have := List.length_filter_le (fun i => s.testBit i) (List.range 10)
  simpa using this
section
variable {nx : List Nat}
theorem ball_closed (hx : ∀ x ∈ nx, x < 2 ^ nx.length) {v : Nat} (hv : v < nx.length) : Closed nx (ball nx v nx.length) := cloF_closed hx _ _ _ (clo_ball hx hv)
theorem Closed.or {a b : Nat} (ha : Closed nx a) (hb : Closed nx b) : Closed nx (a ||| b) := by
  intro u v hu hv h1 h2
  rw [Nat.testBit_or, Bool.or_eq_true] at h1 ⊢
  rcases h1 with h1 | h1
  · exact .inl (ha u v hu hv h1 h2)
  · exact .inr (hb u v hu hv h1 h2)
/-- The places of the members: each one's number in the list. -/
def Places (own : List Nat) (n : Nat) (pl : List Int) : Prop := pl.length = n ∧ ∀ j, j < own.length → pl.getD (own.getD j 0) 0 = (j : Int)
theorem place_ev (n : Int) (l : List S42) (f : Int) (x10 : List Int) (own : List Nat) (hn : n = (nx.length : Int)) (hl10 : own.length ≤ 10) (hnd : own.Nodup) (hlt : ∀ u ∈ own, u < nx.length) (res : Bool)
    (hend : ∀ pl, Places own nx.length pl → Ev (fun k => wogglelaw06_FireComponents.l1 k n l f x10 (toI own) pl [] 0) res) :
    Ev (fun k => wogglelaw06_FireComponents.l0 k n l f x10 (toI own) (List.replicate n.toNat 0) 0) res := by
  have key : ∀ (d i : Nat) (pl : List Int), i + d = own.length → pl.length = nx.length → (∀ j, j < i → pl.getD (own.getD j 0) 0 = (j : Int)) → Ev (fun k => wogglelaw06_FireComponents.l0 k n l f x10 (toI own) pl (i : Int)) res := by
    intro d
    induction d with
    | zero =>
      intro i pl hi hpl hp
      refine Ev.step (fun k => ?_) (hend pl ⟨hpl, fun j hj => hp j (by omega)⟩)
      simp only [wogglelaw06_FireComponents.l0]
      rw [if_neg (by rw [toI_length]; omega)]
    | succ d ih =>
      intro i pl hi hpl hp
      have hio : i < own.length := by omega
      have hu := hlt _ (List.getElem_mem hio)
      have hgd : own.getD i 0 = own[i] := by rw [List.getD_eq_getElem?_getD, List.getElem?_eq_getElem hio]; rfl
      refine Ev.step (f := fun k => wogglelaw06_FireComponents.l0 k n l f x10 (toI own) (pl.set own[i] (i : Int)) ((i + 1 : Nat) : Int)) (fun k => ?_) (ih (i + 1) (pl.set own[i] (i : Int)) (by omega) (by rw [List.length_set]; exact hpl) (fun j hj => ?_))
      · simp only [wogglelaw06_FireComponents.l0]
        rw [if_pos (by rw [toI_length]; omega), if_pos (by omega), toI_rd own i hio, if_pos (by omega), if_pos (by omega), Int.toNat_natCast, wrapS (by omega)]
      · rw [List.getD_eq_getElem?_getD, List.getElem?_set]
        rcases Nat.lt_or_ge j i with h | h
        · have hj' : j < own.length := by omega
          have hne : ¬ own[i] = own.getD j 0 := by
            rw [List.getD_eq_getElem?_getD, List.getElem?_eq_getElem hj', Option.getD_some]
            intro e
            have := (List.getElem_inj hnd).1 e
            omega
          rw [if_neg hne, ← List.getD_eq_getElem?_getD]
          exact hp j h
        · obtain rfl : j = i := by omega
          rw [hgd, if_pos rfl, if_pos (by omega)]
          rfl
  have h := key own.length 0 (List.replicate n.toNat 0) (by omega) (by rw [List.length_replicate]; omega) (fun j hj => by omega)
  exact h
/-- The edges of a part, with its vertices renumbered. -/
def partE (C : Nat) (pl : List Int) (l : List S42) : List S42 := (l.filter (fun e => C.testBit e.f0.toNat)).map fun e => (⟨pl.getD e.f0.toNat 0, pl.getD e.f1.toNat 0⟩ : S42)
theorem rd_getD (pl : List Int) (i : Int) : rd pl i = pl.getD i.toNat 0 := rfl
theorem part_ev {n : Int} {l : List S42} (hg : GoodG n l) (f : Nat) (hf : (f : Int) < n) (own : List Nat) (pl : List Int) (hpl : pl.length = (nearS n.toNat l).length) (res : Bool)
    (hend : Ev (fun k => (fire_Best.f n l (f : Int)).bind fun bt298 => (if 0 ≤ (f : Int) then (if (f : Int) < (pl.length : Int) then ((fire_Best.f ((toI own).length : Int) (partE (ball (nearS n.toNat l) f (nearS n.toNat l).length) pl l) (rd pl (f : Int))).bind fun bt304 => ((fire_Burning.f n l).bind fun bt309 => (wogglelaw06_FireComponents.l2 k n (toI (nearS n.toNat l)) (toI own) bt298.1 bt298.2.2 bt304.1 bt304.2.2 bt309.1 bt309.2 0 0 0))) else (none)) else (none))) res) :
    Ev (fun k => wogglelaw06_FireComponents.l1 k n l (f : Int) (toI (nearS n.toNat l)) (toI own) pl [] 0) res := by
  obtain ⟨hx, hn10, hn0, hnn, hnl⟩ := hg.rows
  have hll : l.length ≤ 60 := hg.2.2.1
  obtain ⟨C, hC⟩ : ∃ C, C = ball (nearS n.toNat l) f (nearS n.toNat l).length := ⟨_, rfl⟩
  have hCl : C < 2 ^ (nearS n.toNat l).length := by rw [hC]; exact ball_lt hx (by omega) _
  rw [← hC] at hend
  have key : ∀ (d j : Nat), j + d = l.length → Ev (fun k => wogglelaw06_FireComponents.l1 k n l (f : Int) (toI (nearS n.toNat l)) (toI own) pl (partE C pl (l.take j)) (j : Int)) res := by
    intro d
    induction d with
    | zero =>
      intro j hj
      rw [List.take_of_length_le (by omega)]
      refine Ev.step (fun k => ?_) hend
      simp only [wogglelaw06_FireComponents.l1]
      rw [if_neg (by omega)]
    | succ d ih =>
      intro j hj
      have hjl : j < l.length := by omega
      obtain ⟨e, he⟩ : ∃ e, e = rd_T42 l (j : Int) := ⟨_, rfl⟩
      have hel : e = l[j] := by rw [he, rd_mem hjl]
      have hem : e ∈ l := by rw [hel]; exact List.getElem_mem _
      obtain ⟨q1, q2, q3, q4, q5⟩ := hg.2.2.2 e hem
      have hball : Ev (fun k => woggleref06_Ball.f k (toI (nearS n.toNat l)) (f : Int) n) ((C : Nat) : Int) := by
        have := rball_ev hn10 hx (v := f) (r := (nearS n.toNat l).length) (by omega) (by omega)
        rw [← hnn, ← hC] at this
        exact this
      have hplen : (partE C pl (l.take j)).length ≤ j := by
        unfold partE
        rw [List.length_map]
        have h1 := List.length_filter_le (fun e : S42 => C.testBit e.f0.toNat) (l.take j)
        have h2 : (l.take j).length ≤ j := List.length_take_le _ _
        omega
      have hsnoc : partE C pl (l.take (j + 1)) = if C.testBit e.f0.toNat = true then partE C pl (l.take j) ++ [(⟨rd pl e.f0, rd pl e.f1⟩ : S42)] else partE C pl (l.take j) := by
        unfold partE
        rw [List.take_add_one, List.getElem?_eq_getElem hjl, ← hel, List.filter_append]
        by_cases hb : C.testBit e.f0.toNat = true
        · rw [if_pos hb]; simp [hb, rd_getD]
        · rw [if_neg hb]; simp [hb]
      have hhas : Go.bits .and .i64 (shr .i64 ((C : Nat) : Int) e.f0) 1 = (((C.testBit e.f0.toNat).toNat : Nat) : Int) := by
        have := has64 C e.f0.toNat (by have := lt1024 hn10 hCl; omega)
        rwa [Int.toNat_of_nonneg q1] at this
      refine Ev.step (f := fun k => (woggleref06_Ball.f k (toI (nearS n.toNat l)) (f : Int) n).bind fun t289 => if (Go.bits .and .i64 (shr .i64 t289 e.f0) 1) = 1 then wogglelaw06_FireComponents.l1 k n l (f : Int) (toI (nearS n.toNat l)) (toI own) pl (partE C pl (l.take j) ++ [(⟨rd pl e.f0, rd pl e.f1⟩ : S42)]) ((j + 1 : Nat) : Int) else wogglelaw06_FireComponents.l1 k n l (f : Int) (toI (nearS n.toNat l)) (toI own) pl (partE C pl (l.take j)) ((j + 1 : Nat) : Int)) (fun k => ?_) ?_
      · simp only [wogglelaw06_FireComponents.l1, ← he]
        rw [if_pos (by omega), wrapS (by omega)]
        congr 1
        funext t
        rw [if_pos (by omega), if_pos q1]
        by_cases hb : (Go.bits .and .i64 (shr .i64 t e.f0) 1) = 1
        · rw [if_pos hb, if_pos hb, if_pos (show e.f0 < (pl.length : Int) by omega), if_pos q2, if_pos (show e.f1 < (pl.length : Int) by omega), if_pos (by omega)]
        · rw [if_neg hb, if_neg hb]
      · refine Ev.bind hball ?_
        simp only [hhas]
        have hih := ih (j + 1) (by omega)
        rw [hsnoc] at hih
        by_cases hb : C.testBit e.f0.toNat = true
        · rw [if_pos hb] at hih
          have h1 : (((C.testBit e.f0.toNat).toNat : Nat) : Int) = 1 := by rw [hb]; rfl
          simp only [if_pos h1]
          exact hih
        · rw [if_neg hb] at hih
          have h1 : ¬ (((C.testBit e.f0.toNat).toNat : Nat) : Int) = 1 := by rw [Bool.not_eq_true] at hb; rw [hb]; simp
          simp only [if_neg h1]
          exact hih
  have h := key l.length 0 (by omega)
  exact h
theorem parts_ev {n : Int} {l : List S42} (hg : GoodG n l) (q : List Nat) (hq1 : q.length ≤ (nearS n.toNat l).length) (hq2 : ∀ v ∈ q, v < (nearS n.toNat l).length) (hq3 : covS (nearS n.toNat l) q 0 = full (nearS n.toNat l).length) (own : List Int) (s t : Int) (hst : s = wrap64 (wrap64 (t + n) - (own.length : Int))) :
    Ev (fun k => wogglelaw06_FireComponents.l2 k n (toI (nearS n.toNat l)) own s 0 t 0 (toI q) 0 0 0 0) true := by
  obtain ⟨hx, hn10, hn0, hnn, hnl⟩ := hg.rows
  have hsym := hg.sym
  generalize nearS n.toNat l = nx at *
  have key : ∀ (d v S p : Nat) (L : List Nat), v + d = nx.length → S < 2 ^ nx.length → Closed nx S → Lumps nx L → (∀ i, i < nx.length → S.testBit i = false → ∃ s ∈ L, s.testBit i = true) → p + L.length ≤ q.length →
      Ev (fun k => wogglelaw06_FireComponents.l2 k n (toI nx) own s 0 t 0 (toI q) 0 (S : Int) (p : Int) (v : Int)) true := by
    intro d
    induction d with
    | zero =>
      intro v S p L hv hS hc hL hcov hp
      refine Ev.step (f := fun k => (wogglelaw06_lives.f k).bind fun t => some t) (fun k => ?_) lives_then
      simp only [wogglelaw06_FireComponents.l2]
      rw [if_neg (by omega)]
      simp only [if_true]
      rw [if_pos hst, if_pos (by rw [toI_length]; omega)]
    | succ d ih =>
      intro v S p L hv hS hc hL hcov hp
      have hvn : v < nx.length := by omega
      have hhas := has64 S v (by have := lt1024 hn10 hS; omega)
      by_cases hb : S.testBit v = true
      · refine Ev.step (f := fun k => wogglelaw06_FireComponents.l2 k n (toI nx) own s 0 t 0 (toI q) 0 (S : Int) (p : Int) ((v + 1 : Nat) : Int)) (fun k => ?_) (ih (v + 1) S p L (by omega) hS hc hL hcov hp)
        simp only [wogglelaw06_FireComponents.l2]
        rw [if_pos (by omega), if_pos (by omega), hhas, hb, if_neg (by simp), wrapS (by omega)]
      · rw [Bool.not_eq_true] at hb
        have hbl := ball_lt hx hvn nx.length
        refine Ev.step (f := fun k => (woggleref06_Ball.f k (toI nx) (v : Int) n).bind fun t313 => wogglelaw06_FireComponents.l2 k n (toI nx) own s 0 t 0 (toI q) 0 (Go.bits .or .i64 (S : Int) t313) ((p + 1 : Nat) : Int) ((v + 1 : Nat) : Int)) (fun k => ?_) ?_
        · simp only [wogglelaw06_FireComponents.l2]
          rw [if_pos (by omega), if_pos (by omega), hhas, hb, if_pos (by rfl), wrapS (by omega), wrapS (by omega)]
        · have hball := rball_ev hn10 hx (v := v) (r := nx.length) hvn (by omega)
          rw [← hnn] at hball
          refine Ev.bind hball ?_
          rw [or64 _ _ (by have := lt1024 hn10 hS; omega) (by have := lt1024 hn10 hbl; omega)]
          obtain ⟨s1, hs1, hs2⟩ := hcov v hvn hb
          have hBc := ball_closed hx hvn
          have hsub := hL s1 hs1 _ v hBc hs2 (ball_self v _)
          refine ih (v + 1) _ (p + 1) (L.erase s1) (by omega) (Nat.or_lt_two_pow hS hbl) (Closed.or hc hBc) (fun x hxm => hL x (List.mem_of_mem_erase hxm)) (fun i hi hno => ?_) ?_
          · rw [Nat.testBit_or, Bool.or_eq_false_iff] at hno
            obtain ⟨s2, h1, h2⟩ := hcov i hi hno.1
            refine ⟨s2, (List.mem_erase_of_ne ?_).2 h1, h2⟩
            rintro rfl
            rw [hsub i h2] at hno
            simp at hno
          · rw [List.length_erase_of_mem hs1]
            have : 0 < L.length := List.length_pos_of_mem hs1
            omega
  have h := key nx.length 0 0 0 (ballsOf nx q) (by omega) (Nat.two_pow_pos _) (fun a b _ _ h => by simp at h) (ballsOf_lumps hx hsym q hq2) (fun i hi _ => by
    have h1 : (covS nx q 0).testBit i = true := by rw [hq3, full_test]; exact decide_eq_true hi
    rcases (covS_bit q 0 i).1 h1 with h2 | h2
    · simp at h2
    · exact h2) (by rw [ballsOf_length]; omega)
  exact h
end
theorem FireComponents_ev (a0 a1 a2 : Int) (h0 : (Lit.int .u8 a0).wf = true) (_h1 : (Lit.int .u64 a1).wf = true) (h2 : (Lit.int .u8 a2).wf = true) : Ev (fun k => wogglelaw06_FireComponents.f k a0 a1 a2) true := by
  obtain ⟨n, l, hg, hm⟩ := made_ev a0 a1 h0
  obtain ⟨hx, hn10, hn0, hnn, hnl⟩ := hg.rows
  have hfr := tmod_range (u8_range h2) hg.1
  obtain ⟨q, b1, b2, b3, b4, b5, b6, b7⟩ := burn_spec hg
  unfold wogglelaw06_FireComponents.f
  refine Ev.bind hm ?_
  simp only [if_neg (show ¬ n = 0 by omega), if_pos (show 0 ≤ n by omega), if_pos (show n.toNat ≤ 35184372088832 by omega)]
  obtain ⟨f, hf⟩ := Int.eq_ofNat_of_zero_le hfr.1
  have hf0 : Int.tmod (wrap64 a2) n = (f : Int) := hf
  rw [hf0] at hfr ⊢
  have hfn : f < (nearS n.toNat l).length := by omega
  refine Ev.bind (near_ev n l hg) ?_
  have hball := rball_ev hn10 hx (v := f) (r := (nearS n.toNat l).length) hfn (by omega)
  rw [← hnn] at hball
  refine Ev.bind hball ?_
  obtain ⟨C, hC⟩ : ∃ C, C = ball (nearS n.toNat l) f (nearS n.toNat l).length := ⟨_, rfl⟩
  have hCl : C < 2 ^ (nearS n.toNat l).length := by rw [hC]; exact ball_lt hx hfn _
  have hCc : Closed (nearS n.toNat l) C := by rw [hC]; exact ball_closed hx hfn
  have hCf : C.testBit f = true := by rw [hC]; exact ball_self _ _
  rw [← hC]
  refine Ev.bind (members_ev C (lt1024 hn10 hCl)) ?_
  rw [mem10_is]
  obtain ⟨own, hown⟩ : ∃ own, own = memN C := ⟨_, rfl⟩
  have hom : ∀ u, u ∈ own ↔ C.testBit u = true := fun u => by
    rw [hown, memN_mem]
    exact ⟨fun h => h.2, fun h => ⟨by have := lt_of_bit hCl h; omega, h⟩⟩
  have hol : own.length ≤ 10 := by rw [hown]; exact memN_len C
  have hond : own.Nodup := by rw [hown]; exact memN_nodup C
  have hlt : ∀ u ∈ own, u < (nearS n.toNat l).length := fun u hu => lt_of_bit hCl ((hom u).1 hu)
  rw [← hown]
  refine place_ev n l f (toI (nearS n.toNat l)) own hnn hol hond hlt true (fun pl ⟨hpl, hplace⟩ => ?_)
  refine part_ev hg f hfr.2 own pl hpl true ?_
  rw [← hC]
  -- the inverse of the places
  have hinv : ∀ u, C.testBit u = true → ∃ j, j < own.length ∧ own.getD j 0 = u ∧ pl.getD u 0 = (j : Int) := by
    intro u hu
    obtain ⟨j, hj, hju⟩ := List.getElem_of_mem ((hom u).2 hu)
    have e : own.getD j 0 = u := by rw [List.getD_eq_getElem?_getD, List.getElem?_eq_getElem hj, Option.getD_some, hju]
    exact ⟨j, hj, e, by have := hplace j hj; rwa [e] at this⟩
  have hside : ∀ j, j < own.length → C.testBit (own.getD j 0) = true ∧ own.getD j 0 < (nearS n.toNat l).length := by
    intro j hj
    have : own.getD j 0 ∈ own := by rw [List.getD_eq_getElem?_getD, List.getElem?_eq_getElem hj]; exact List.getElem_mem _
    exact ⟨(hom _).1 this, hlt _ this⟩
  have hm1 : 1 ≤ own.length := by
    have := List.length_pos_of_mem ((hom f).2 hCf)
    omega
  -- both ends of an edge are in the part, or none
  have hends : ∀ e ∈ l, C.testBit e.f0.toNat = true → C.testBit e.f1.toNat = true := by
    intro e he hb
    obtain ⟨q1, q2, q3, q4, q5⟩ := hg.2.2.2 e he
    refine hCc e.f0.toNat e.f1.toNat (by omega) (by omega) hb ?_
    rw [near_bit l hg.2.2.2]
    exact ⟨e, he, .inl ⟨rfl, rfl⟩⟩
  have hll : l.length ≤ 60 := hg.2.2.1
  have hgp : GoodG (own.length : Int) (partE C pl l) := by
    refine ⟨by omega, by omega, ?_, fun e' he' => ?_⟩
    · unfold partE
      rw [List.length_map]
      have := List.length_filter_le (fun e : S42 => C.testBit e.f0.toNat) l
      omega
    · rw [Int.toNat_natCast]
      unfold partE at he'
      obtain ⟨e, he, rfl⟩ := List.mem_map.1 he'
      obtain ⟨he1, he2⟩ := List.mem_filter.1 he
      have hb0 : C.testBit e.f0.toNat = true := by simpa using he2
      have hb1 := hends e he1 hb0
      obtain ⟨i, hi, ei, pi⟩ := hinv _ hb0
      obtain ⟨j, hj, ej, pj⟩ := hinv _ hb1
      obtain ⟨q1, q2, q3, q4, q5⟩ := hg.2.2.2 e he1
      refine ⟨?_, ?_, ?_, ?_, ?_⟩ <;> simp only [pi, pj]
      · omega
      · omega
      · omega
      · omega
      · intro hij
        have : i = j := by omega
        rw [this, ej] at ei
        omega
  obtain ⟨hxp, hnp10, hnp0, hnnp, hnlp⟩ := hgp.rows
  -- the neighbours in the part
  have hadj : ∀ i j, i < own.length → j < own.length → (((nearS (own.length : Int).toNat (partE C pl l)).getD i 0).testBit j = true ↔ ((nearS n.toNat l).getD (own.getD i 0) 0).testBit (own.getD j 0) = true) := by
    intro i j hi hj
    rw [near_bit _ hgp.2.2.2, near_bit l hg.2.2.2]
    have back : ∀ (e : S42) (k : Nat), e ∈ l → C.testBit e.f0.toNat = true → k < own.length → (k = (pl.getD e.f0.toNat 0).toNat ↔ own.getD k 0 = e.f0.toNat) ∧ (k = (pl.getD e.f1.toNat 0).toNat ↔ own.getD k 0 = e.f1.toNat) := by
      intro e k he hb hk
      obtain ⟨i1, hi1, e1, p1⟩ := hinv _ hb
      obtain ⟨j1, hj1, e2, p2⟩ := hinv _ (hends e he hb)
      rw [p1, p2, Int.toNat_natCast, Int.toNat_natCast]
      have hkp := hplace k hk
      constructor
      · constructor
        · rintro rfl; exact e1
        · intro h; rw [h, p1] at hkp; omega
      · constructor
        · rintro rfl; exact e2
        · intro h; rw [h, p2] at hkp; omega
    constructor
    · rintro ⟨e', he', hc⟩
      unfold partE at he'
      obtain ⟨e, he, rfl⟩ := List.mem_map.1 he'
      obtain ⟨he1, he2⟩ := List.mem_filter.1 he
      have hb0 : C.testBit e.f0.toNat = true := by simpa using he2
      have bi := back e i he1 hb0 hi
      have bj := back e j he1 hb0 hj
      refine ⟨e, he1, ?_⟩
      rcases hc with ⟨c1, c2⟩ | ⟨c1, c2⟩
      · exact .inl ⟨bi.1.1 c1, bj.2.1 c2⟩
      · exact .inr ⟨bi.2.1 c1, bj.1.1 c2⟩
    · rintro ⟨e, he, hc⟩
      have hb0 : C.testBit e.f0.toNat = true := by
        rcases hc with ⟨c1, c2⟩ | ⟨c1, c2⟩
        · rw [← c1]; exact (hside i hi).1
        · rw [← c2]; exact (hside j hj).1
      have bi := back e i he hb0 hi
      have bj := back e j he hb0 hj
      refine ⟨⟨pl.getD e.f0.toNat 0, pl.getD e.f1.toNat 0⟩, List.mem_map.2 ⟨e, List.mem_filter.2 ⟨he, by simpa using hb0⟩, rfl⟩, ?_⟩
      rcases hc with ⟨c1, c2⟩ | ⟨c1, c2⟩
      · exact .inl ⟨bi.1.2 c1, bj.2.2 c2⟩
      · exact .inr ⟨bi.2.2 c1, bj.1.2 c2⟩
  obtain ⟨fj, hfj, ef, pf⟩ := hinv f hCf
  -- the two numbers
  have hbest := bestR_is hg (f := (f : Int)) (by omega) hfr.2
  have hbestp := bestR_is hgp (f := (fj : Int)) (by omega) (by omega)
  rw [Int.toNat_natCast] at hbest hbestp
  have hSim1 : Sim (nearS n.toNat l) (nearS (own.length : Int).toNat (partE C pl l)) (fun u => u < own.length) (fun u => own.getD u 0) := by
    refine ⟨fun u hu => ⟨by omega, (hside u hu).2⟩, fun u v hu hv he => ?_, fun u v hu hb => ?_⟩
    · have h1 := hplace u hu
      have h2 := hplace v hv
      have he' : own.getD u 0 = own.getD v 0 := he
      rw [he'] at h1
      rw [h1] at h2
      omega
    · have hv : v < own.length := by have := row_lt hxp hb; omega
      exact ⟨hv, (hadj u v hu hv).1 hb⟩
  have hSim2 : Sim (nearS (own.length : Int).toNat (partE C pl l)) (nearS n.toNat l) (fun u => C.testBit u = true) (fun u => (pl.getD u 0).toNat) := by
    refine ⟨fun u hu => ?_, fun u v hu hv he => ?_, fun u v hu hb => ?_⟩
    · obtain ⟨j, hj, e1, p1⟩ := hinv u hu
      refine ⟨lt_of_bit hCl hu, ?_⟩
      show (pl.getD u 0).toNat < _
      rw [p1, Int.toNat_natCast]
      omega
    · obtain ⟨j, hj, e1, p1⟩ := hinv u hu
      obtain ⟨j', hj', e1', p1'⟩ := hinv v hv
      have he' : (pl.getD u 0).toNat = (pl.getD v 0).toNat := he
      rw [p1, p1'] at he'
      have : j = j' := by omega
      rw [← e1, ← e1', this]
    · have hun := lt_of_bit hCl hu
      have hvn := row_lt hx hb
      have hv := hCc u v hun hvn hu hb
      obtain ⟨j, hj, e1, p1⟩ := hinv u hu
      obtain ⟨j', hj', e1', p1'⟩ := hinv v hv
      refine ⟨hv, ?_⟩
      show ((nearS (own.length : Int).toNat (partE C pl l)).getD (pl.getD u 0).toNat 0).testBit (pl.getD v 0).toNat = true
      have h9 := (hadj j j' hj hj').2 (by rw [e1, e1']; exact hb)
      rw [p1, p1']
      exact h9
  have i1 : (bestR n l (f : Int)).1 - ((nearS n.toNat l).length : Int) ≤ (bestR (own.length : Int) (partE C pl l) (fj : Int)).1 - ((nearS (own.length : Int).toNat (partE C pl l)).length : Int) := by
    refine hSim1.best hn10 hnp10 hx hxp (g' := fj) hfj (k := 30) (k' := 30) ?_ hbestp
    show bestF (nearS n.toNat l) 30 (2 ^ own.getD fj 0) 0 = _
    rw [ef]
    exact hbest
  have i2 : (bestR (own.length : Int) (partE C pl l) (fj : Int)).1 - ((nearS (own.length : Int).toNat (partE C pl l)).length : Int) ≤ (bestR n l (f : Int)).1 - ((nearS n.toNat l).length : Int) := by
    refine hSim2.best hnp10 hn10 hxp hx (g' := f) hCf (k := 30) (k' := 30) ?_ hbest
    show bestF _ 30 (2 ^ (pl.getD f 0).toNat) 0 = _
    rw [pf, Int.toNat_natCast]
    exact hbestp
  -- bounds of the numbers
  have hspec := bestR_spec (n := n) (l := l) (f := (f : Int)) ⟨hg, by omega, hfr.2⟩
  obtain ⟨o, ho, hos⟩ := hspec.1
  obtain ⟨e, _, _, hs⟩ := play_both ⟨hg, by omega, hfr.2⟩ _ o ho
  have hpe := popc_le16 e
  rw [hos] at hs
  have hrd : rd pl (f : Int) = (fj : Int) := by rw [rd_getD, Int.toNat_natCast]; exact pf
  have hB1 : fire_Best.f n l (f : Int) = some ((bestR n l (f : Int)).1, (bestR n l (f : Int)).2, 0) := by unfold fire_Best.f; rw [if_pos ⟨hg, by omega, hfr.2⟩]
  have hB2 : fire_Best.f ((toI own).length : Int) (partE C pl l) (rd pl (f : Int)) = some ((bestR (own.length : Int) (partE C pl l) (fj : Int)).1, (bestR (own.length : Int) (partE C pl l) (fj : Int)).2, 0) := by
    rw [hrd, toI_length]
    unfold fire_Best.f
    rw [if_pos ⟨hgp, by omega, by omega⟩]
  rw [hB1, hB2, b1]
  simp only [Option.bind_some, if_pos (show 0 ≤ (f : Int) by omega), if_pos (show (f : Int) < (pl.length : Int) by omega)]
  refine parts_ev hg q b3 b4 b5 (toI own) _ _ ?_
  rw [toI_length]
  unfold wrap64
  omega
end Go.Proofs.YtbgpnkchbcgekaaDoor.Fi
end
