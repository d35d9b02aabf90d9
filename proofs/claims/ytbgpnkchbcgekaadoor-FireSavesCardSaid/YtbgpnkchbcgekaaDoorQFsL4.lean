/- Texts of this claim, joined: P5, P6, P7, P8, L1, L2, L3, L4 -/
import Derived.Test.YtbgpnkchbcgekaaDoorQFsP4
import Derived.Test.YtbgpnkchbcgekaaDoorQFsFi0
import Derived.Test.YtbgpnkchbcgekaaDoorQFsFi1
import Derived.Test.YtbgpnkchbcgekaaDoorQFsFi4
import Derived.Test.YtbgpnkchbcgekaaDoorQFsHc2
import Derived.Test.YtbgpnkchbcgekaaDoorQFsHbr
import Derived.Test.YtbgpnkchbcgekaaDoorQFsS6
import Derived.Test.YtbgpnkchbcgekaaDoorQFsFi6
import Derived.Test.YtbgpnkchbcgekaaDoorQFsFi5
import Derived.Test.YtbgpnkchbcgekaaDoorQFsFi9
import Derived.Test.YtbgpnkchbcgekaaDoorQFsHbu
import Derived.Test.YtbgpnkchbcgekaaDoorQFsHe
import Derived.Test.YtbgpnkchbcgekaaDoorQFsHgr
import Derived.Test.YtbgpnkchbcgekaaDoorQFsR0
import Derived.Test.YtbgpnkchbcgekaaDoorQFsFi3
import Derived.Test.YtbgpnkchbcgekaaDoorQFsFi12
section
namespace Go.Proofs.YtbgpnkchbcgekaaDoor.Fi
open Go.RowKit Go.Proofs.YtbgpnkchbcgekaaDoorW.PrintWords Go.Proofs.YtbgpnkchbcgekaaDoorW.PrintLast Go.Proofs.YtbgpnkchbcgekaaDoorW.PrintMore Wog
set_option linter.unusedVariables false
theorem lexLt_irr : ∀ l : List Int, lexLt l l = false
  | [] => rfl
  | a :: l => by rw [lexLt, if_pos rfl]; exact lexLt_irr l
theorem before_ev (l m : List Int) (hl : l.length < 2 ^ 30) : Ev (fun k => woggleref01_Before.f k l m) (lexLt l m) := by
  have key : ∀ (a b p q : List Int), p.length = q.length → p.length + a.length < 2 ^ 30 → Ev (fun k => woggleref01_Before.l0 k (p ++ a) (q ++ b) (p.length : Int)) (lexLt a b) := by
    intro a
    induction a with
    | nil =>
      intro b p q hpq hpl
      refine Ev.step (f := fun k => woggleref01_Before.j1 k (p ++ []) (q ++ b) (p.length : Int) false) (fun k => ?_) ?_
      · simp only [woggleref01_Before.l0]
        rw [if_neg (by simp)]
      · refine Ev.step (f := fun _ => some (lexLt [] b)) (fun k => ?_) (Ev.now _)
        simp only [woggleref01_Before.j1]
        rw [if_neg (by simp)]
        cases b with
        | nil => simp [lexLt, hpq]
        | cons y b => simp [lexLt, hpq]; omega
    | cons x a ih =>
      intro b p q hpq hpl
      cases b with
      | nil =>
        refine Ev.step (f := fun k => woggleref01_Before.j1 k (p ++ x :: a) (q ++ []) (p.length : Int) false) (fun k => ?_) ?_
        · simp only [woggleref01_Before.l0]
          rw [if_pos (by simp; omega)]
          congr 1
          simp [hpq]
        · refine Ev.step (f := fun _ => some (lexLt (x :: a) [])) (fun k => ?_) (Ev.now _)
          simp only [woggleref01_Before.j1]
          rw [if_neg (by simp)]
          simp [lexLt, hpq]; omega
      | cons y b =>
        have e0 : rd (p ++ x :: a) (p.length : Int) = x := by unfold rd; simp [List.getD_eq_getElem?_getD]
        have e1 : rd (q ++ y :: b) (p.length : Int) = y := by rw [hpq]; unfold rd; simp [List.getD_eq_getElem?_getD]
        refine Ev.step (f := fun k => woggleref01_Before.j1 k (p ++ x :: a) (q ++ y :: b) (p.length : Int) true) (fun k => ?_) ?_
        · simp only [woggleref01_Before.l0]
          rw [if_pos (by simp; omega)]
          congr 1
          simp [hpq]; omega
        · by_cases hxy : x = y
          · subst hxy
            have ih' := ih b (p ++ [x]) (q ++ [x]) (by simp [hpq]) (by simp at hpl ⊢; omega)
            refine Ev.step (f := fun k => woggleref01_Before.l0 k (p ++ x :: a) (q ++ x :: b) ((p ++ [x]).length : Int)) (fun k => ?_) ?_
            · simp only [woggleref01_Before.j1]
              rw [if_pos trivial, if_pos (by omega), if_pos (by simp; omega), if_pos (by rw [hpq]; simp; omega), e0, e1, if_pos rfl, wrapS (by simp at hpl; omega)]
              simp
            · rw [lexLt, if_pos rfl]
              simpa using ih'
          · refine Ev.step (f := fun _ => some (decide (x < y))) (fun k => ?_) ?_
            · simp only [woggleref01_Before.j1]
              rw [if_pos trivial, if_pos (by omega), if_pos (by simp; omega), if_pos (by rw [hpq]; simp; omega), e0, e1, if_neg hxy]
            · rw [lexLt, if_neg hxy]; exact Ev.now _
  exact key l m [] [] rfl (by simpa using hl)
theorem same_ev (l : List Int) (hl : l.length < 2 ^ 30) : Ev (fun k => woggleref01_Same.f k l l) true := by
  unfold woggleref01_Same.f
  refine Ev.bind (before_ev l l hl) ?_
  simp only [lexLt_irr, Bool.false_eq_true, if_false]
  refine Ev.bind (before_ev l l hl) ?_
  simp only [lexLt_irr]
  exact Ev.now _
theorem sameLists_ev (l : List (List Int)) (hl : l.length < 2 ^ 30) (hl2 : ∀ x ∈ l, x.length < 2 ^ 30) : Ev (fun k => woggleref01_SameLists.f k l l) true := by
  have key : ∀ (d j : Nat), j + d = l.length → Ev (fun k => woggleref01_SameLists.l0 k l l (j : Int)) true := by
    intro d
    induction d with
    | zero =>
      intro j hj
      refine Ev.step (f := fun _ => some true) (fun k => ?_) (Ev.now _)
      simp only [woggleref01_SameLists.l0]
      rw [if_neg (by omega)]
    | succ d ih =>
      intro j hj
      have hmem : (rd_L4 l (j : Int)).length < 2 ^ 30 := by
        unfold rd_L4
        rw [Int.toNat_natCast, List.getD_eq_getElem?_getD, List.getElem?_eq_getElem (by omega)]
        exact hl2 _ (List.getElem_mem _)
      refine Ev.step (f := fun k => (woggleref01_Same.f k (rd_L4 l (j : Int)) (rd_L4 l (j : Int))).bind fun t => if t = true then woggleref01_SameLists.l0 k l l ((j + 1 : Nat) : Int) else some false) (fun k => ?_) ?_
      · simp only [woggleref01_SameLists.l0]
        rw [if_pos (by omega), if_pos (by omega), if_pos (by omega), wrapS (by omega)]
      · refine Ev.bind (same_ev _ hmem) ?_
        simp only [if_true]
        exact ih (j + 1) (by omega)
  have k := key l.length 0 (by omega)
  refine Ev.congr (fun k => ?_) k
  unfold woggleref01_SameLists.f
  rw [if_pos rfl]
  rfl
end Go.Proofs.YtbgpnkchbcgekaaDoor.Fi
end
section
namespace Go.Proofs.YtbgpnkchbcgekaaDoor.Fi
open Go.RowKit Go.Proofs.YtbgpnkchbcgekaaDoorW.PrintWords Go.Proofs.YtbgpnkchbcgekaaDoorW.PrintLast Go.Proofs.YtbgpnkchbcgekaaDoorW.PrintMore Wog
set_option linter.unusedVariables false
theorem raround_ev (nx : List Nat) (s : Nat) (hn : nx.length ≤ 10) (hx : ∀ x ∈ nx, x < 2 ^ nx.length) (hs : s < 2 ^ nx.length) : Ev (fun k => woggleref06_around.f k (toI nx) (s : Int)) ((nb nx s : Nat) : Int) := by
  have hpow : (2 : Nat) ^ nx.length ≤ 2 ^ 10 := Nat.pow_le_pow_right (by omega) hn
  have key : ∀ (d j acc : Nat), j + d = nx.length → acc < 2 ^ 10 →
      Ev (fun k => woggleref06_around.l0 k (toI nx) (s : Int) (acc : Int) (j : Int)) (((((List.range nx.length).drop j).foldl (fun acc v => if s.testBit v then acc ||| nx.getD v 0 else acc) acc : Nat)) : Int) := by
    intro d
    induction d with
    | zero =>
      intro j acc hj ha
      refine Ev.step (f := fun _ => some (acc : Int)) (fun k => ?_) ?_
      · simp only [woggleref06_around.l0]
        rw [if_neg (by rw [toI_length]; omega)]
      · rw [List.drop_eq_nil_of_le (by simp; omega)]; exact Ev.now _
    | succ d ih =>
      intro j acc hj ha
      have hjl : j < nx.length := by omega
      have hv : nx.getD j 0 < 2 ^ 10 := by
        rw [List.getD_eq_getElem?_getD, List.getElem?_eq_getElem hjl]
        exact Nat.lt_of_lt_of_le (hx _ (List.getElem_mem hjl)) hpow
      rw [drop_range hjl, List.foldl_cons]
      by_cases hb : s.testBit j = true
      · rw [if_pos hb]
        refine Ev.step (fun k => ?_) (ih (j + 1) (acc ||| nx.getD j 0) (by omega) (Nat.or_lt_two_pow ha hv))
        simp only [woggleref06_around.l0]
        rw [if_pos (by rw [toI_length]; omega), if_pos (by omega), has64 _ _ (by omega), if_pos (by rw [hb]; rfl), show rd (toI nx) (j : Int) = ((nx.getD j 0 : Nat) : Int) from rd_nat nx j, or64 _ _ (by omega) (by omega), wrapS (by omega)]
      · rw [if_neg hb]
        refine Ev.step (fun k => ?_) (ih (j + 1) acc (by omega) ha)
        rw [Bool.not_eq_true] at hb
        simp only [woggleref06_around.l0]
        rw [if_pos (by rw [toI_length]; omega), if_pos (by omega), has64 _ _ (by omega), if_neg (by rw [hb]; simp), wrapS (by omega)]
  exact key nx.length 0 0 (by omega) (by omega)
theorem members_ev (s : Nat) (hs : s < 2 ^ 10) : Ev (fun k => woggleref01_Members.f k (s : Int)) (mem10 s) := by
  have key : ∀ (d j : Nat), j + d = 10 → Ev (fun k => woggleref01_Members.l0 k (s : Int) (((List.range j).filter (fun i => s.testBit i)).map fun (i : Nat) => (i : Int)) (j : Int)) (mem10 s) := by
    have hdone : ∀ (j : Nat), j ≤ 10 → s / 2 ^ j = 0 → (((List.range j).filter (fun i => s.testBit i)).map fun (i : Nat) => (i : Int)) = mem10 s := by
      intro j hj h0
      unfold mem10
      congr 1
      have : ∀ d, (List.range (j + d)).filter (fun i => s.testBit i) = (List.range j).filter (fun i => s.testBit i) := by
        intro d
        induction d with
        | zero => rfl
        | succ d ih =>
          rw [show j + (d + 1) = (j + d) + 1 by omega, List.range_succ, List.filter_append, ih]
          have : s.testBit (j + d) = false := by
            refine Nat.testBit_lt_two_pow (Nat.lt_of_lt_of_le ?_ (Nat.pow_le_pow_right (by omega) (Nat.le_add_right j d)))
            exact (Nat.div_eq_zero_iff.1 h0).resolve_left (by have := Nat.two_pow_pos j; omega)
          simp [this]
      have h := this (10 - j)
      rw [show j + (10 - j) = 10 by omega] at h
      exact h.symm
    intro d
    induction d with
    | zero =>
      intro j hj
      obtain rfl : j = 10 := by omega
      refine Ev.step (f := fun _ => some (mem10 s)) (fun k => ?_) (Ev.now _)
      simp only [woggleref01_Members.l0]
      rw [if_pos (by omega), shr64, if_neg (by rw [Nat.div_eq_of_lt (by simpa using hs)]; simp)]
      rfl
    | succ d ih =>
      intro j hj
      by_cases h0 : s / 2 ^ j = 0
      · refine Ev.step (f := fun _ => some (mem10 s)) (fun k => ?_) (Ev.now _)
        simp only [woggleref01_Members.l0]
        rw [if_pos (by omega), shr64, Nat.min_eq_left (by omega), if_neg (by rw [h0]; simp), hdone j (by omega) h0]
      · refine Ev.step (fun k => ?_) (ih (j + 1) (by omega))
        simp only [woggleref01_Members.l0]
        rw [if_pos (by omega), if_pos (by rw [shr64, Nat.min_eq_left (by omega)]; exact Int.natCast_pos.2 (Nat.pos_of_ne_zero h0)), has64 _ _ (by omega), wrapS (by omega), List.range_succ, List.filter_append, List.map_append]
        by_cases hb : s.testBit j = true
        · rw [if_pos (by rw [hb]; rfl), if_pos]
          · simp [hb]
          · have := List.length_filter_le (fun i => s.testBit i) (List.range j)
            rw [List.length_map]
            rw [List.length_range] at this
            omega
        · rw [Bool.not_eq_true] at hb
          rw [if_neg (by rw [hb]; simp)]
          simp [hb]
  exact key 10 0 (by omega)
theorem mem10_len {s n : Nat} (hn : n ≤ 10) (hs : s < 2 ^ n) : (mem10 s).length = popc 16 s := by
  have hs' : s < 2 ^ 10 := Nat.lt_of_lt_of_le hs (Nat.pow_le_pow_right (by omega) hn)
  rw [popc16 (by omega) hs']
  unfold mem10 popc
  rw [List.length_map, List.countP_eq_length_filter]
theorem rsize_ev (s : Nat) (hs : s < 2 ^ 10) : Ev (fun k => woggleref06_Size.f k (s : Int)) ((popc 16 s : Nat) : Int) := by
  unfold woggleref06_Size.f
  refine Ev.bind (members_ev s hs) ?_
  rw [mem10_len (Nat.le_refl 10) hs]
  exact Ev.now _
end Go.Proofs.YtbgpnkchbcgekaaDoor.Fi
end
section
namespace Go.Proofs.YtbgpnkchbcgekaaDoor.Fi
open Go.RowKit Go.Proofs.YtbgpnkchbcgekaaDoorW.PrintWords Go.Proofs.YtbgpnkchbcgekaaDoorW.PrintLast Go.Proofs.YtbgpnkchbcgekaaDoorW.PrintMore Wog
set_option linter.unusedVariables false
theorem toI_setI (xs : List Nat) (i v : Nat) : (toI xs).set i (v : Int) = toI (xs.set i v) := by simp [toI, List.map_set]
theorem near_ev (n : Int) (l : List S42) (h : GoodG n l) : Ev (fun k => woggleref06_Near.f k n l) (toI (nearS n.toNat l)) := by
  obtain ⟨h1, h2, h3, h4⟩ := h
  have hpow : (2 : Nat) ^ n.toNat ≤ 2 ^ 10 := Nat.pow_le_pow_right (by omega) (by omega)
  have key : ∀ (d j : Nat), j + d = l.length → Ev (fun k => woggleref06_Near.l0 k l (toI (nearS n.toNat (l.take j))) (j : Int)) (toI (nearS n.toNat l)) := by
    intro d
    induction d with
    | zero =>
      intro j hj
      refine Ev.step (f := fun _ => some (toI (nearS n.toNat l))) (fun k => ?_) (Ev.now _)
      simp only [woggleref06_Near.l0]
      rw [if_neg (by omega), List.take_of_length_le (by omega)]
    | succ d ih =>
      intro j hj
      have hjl : j < l.length := by omega
      have ih' := ih (j + 1) (by omega)
      have he := h4 _ (List.getElem_mem hjl)
      rw [near_snoc n.toNat l j hjl] at ih'
      rw [← rd_mem hjl] at he
      obtain ⟨e, hee⟩ : ∃ e, e = rd_T42 l (j : Int) := ⟨_, rfl⟩
      rw [← hee] at he ih'
      obtain ⟨a0, a1, a2, a3, a4⟩ := he
      obtain ⟨x, hx⟩ := Int.eq_ofNat_of_zero_le a0
      obtain ⟨y, hy⟩ := Int.eq_ofNat_of_zero_le a1
      obtain ⟨xs, hxs⟩ : ∃ xs, xs = nearS n.toNat (l.take j) := ⟨_, rfl⟩
      have hxl : xs.length = n.toNat := by rw [hxs, nearS_length]
      have hxb : ∀ z ∈ xs, z < 2 ^ n.toNat := by rw [hxs]; exact nearS_lt (fun z hz => h4 z (List.mem_of_mem_take hz))
      rw [← hxs] at ih' ⊢
      have hg0 : xs.getD x 0 < 2 ^ n.toNat := getD_lt hxb x
      have hp0 : 2 ^ y < 2 ^ n.toNat := Nat.pow_lt_pow_right (by omega) (by omega)
      have hp1 : 2 ^ x < 2 ^ n.toNat := Nat.pow_lt_pow_right (by omega) (by omega)
      obtain ⟨ys, hys⟩ : ∃ ys, ys = xs.set x (xs.getD x 0 ||| 2 ^ y) := ⟨_, rfl⟩
      have hyl : ys.length = n.toNat := by rw [hys, List.length_set, hxl]
      have hyb : ∀ z ∈ ys, z < 2 ^ n.toNat := by
        intro z hz
        rw [hys] at hz
        rcases List.mem_or_eq_of_mem_set hz with hz | rfl
        · exact hxb z hz
        · exact Nat.or_lt_two_pow hg0 hp0
      have hg1 : ys.getD y 0 < 2 ^ n.toNat := getD_lt hyb y
      have hadd : addS xs e = ys.set y (ys.getD y 0 ||| 2 ^ x) := by
        unfold addS
        rw [hx, hy]
        simp only [Int.toNat_natCast]
        rw [← hys]
      refine Ev.step (fun k => ?_) ih'
      simp only [woggleref06_Near.l0]
      rw [← hee, hx, hy]
      simp only [Int.toNat_natCast]
      rw [if_pos (by omega), if_pos (by omega), if_pos (by omega), if_pos (by rw [toI_length, hxl]; omega), if_pos (by omega), Option.bind_some,
        show rd (toI xs) (x : Int) = ((xs.getD x 0 : Nat) : Int) from rd_nat xs x, shl64 y (by omega), or64 _ _ (by omega) (by omega), toI_setI, ← hys,
        if_pos (by rw [toI_length, hxl]; omega), show rd (toI ys) (y : Int) = ((ys.getD y 0 : Nat) : Int) from rd_nat ys y, shl64 x (by omega), or64 _ _ (by omega) (by omega), toI_setI, wrapS (by omega), hadd]
  have k := key l.length 0 (by omega)
  refine Ev.congr (fun k => ?_) k
  unfold woggleref06_Near.f
  rw [if_pos (by omega), if_pos (by omega)]
  congr 1
  simp [nearS, toI]
theorem cloF_fix {nx : List Nat} {B D k : Nat} (hd : disj B D) (hB : B < 2 ^ nx.length) (hx : ∀ x ∈ nx, x < 2 ^ nx.length) (h : cloF nx D k B = some B) : diff (arnd nx B) D = B := by
  cases k with
  | zero => simp [cloF] at h
  | succ k =>
    rw [cloF] at h
    by_cases e : diff (arnd nx B) D = B
    · exact e
    · rw [if_neg e] at h
      refine ext_lt (diff_le _ _ _ (arnd_lt hx hB)) hB (fun i _ => ?_)
      cases h1 : B.testBit i with
      | true => exact step_sup hd i h1
      | false =>
        cases h2 : (diff (arnd nx B) D).testBit i with
        | false => rfl
        | true => rw [cloF_sup _ _ _ (disj_diff _ _) h i h2] at h1; cases h1
end Go.Proofs.YtbgpnkchbcgekaaDoor.Fi
end
section
namespace Go.Proofs.YtbgpnkchbcgekaaDoor.Fi
open Go.RowKit Go.Proofs.YtbgpnkchbcgekaaDoorW.PrintWords Go.Proofs.YtbgpnkchbcgekaaDoorW.PrintLast Go.Proofs.YtbgpnkchbcgekaaDoorW.PrintMore Wog
set_option linter.unusedVariables false
section
variable {nx : List Nat}
theorem lt1024 (hn : nx.length ≤ 10) {x : Nat} (h : x < 2 ^ nx.length) : x < 2 ^ 10 := Nat.lt_of_lt_of_le h (Nat.pow_le_pow_right (by omega) hn)
theorem ball_add (v : Nat) (i : Nat) : ball nx v (i + 1) = ball nx v i ||| nb nx (ball nx v i) := rfl
theorem rball_ev (hn : nx.length ≤ 10) (hx : ∀ x ∈ nx, x < 2 ^ nx.length) {v r : Nat} (hv : v < nx.length) (hr : r < 2 ^ 30) : Ev (fun k => woggleref06_Ball.f k (toI nx) (v : Int) (r : Int)) ((ball nx v r : Nat) : Int) := by
  have key : ∀ (d i : Nat), d < 2 ^ 30 → Ev (fun k => woggleref06_Ball.l0 k (toI nx) (d : Int) ((ball nx v i : Nat) : Int)) ((ball nx v (i + d) : Nat) : Int) := by
    intro d
    induction d with
    | zero =>
      intro i _
      refine Ev.step (f := fun _ => some ((ball nx v i : Nat) : Int)) (fun k => ?_) (Ev.now _)
      simp only [woggleref06_Ball.l0]
      rw [if_neg (by omega)]
    | succ d ih =>
      intro i hd
      have hb := ball_lt hx hv i
      refine Ev.step (f := fun k => (woggleref06_around.f k (toI nx) ((ball nx v i : Nat) : Int)).bind fun t => woggleref06_Ball.l0 k (toI nx) (wrap64 (((d + 1 : Nat) : Int) - 1)) (Go.bits .or .i64 ((ball nx v i : Nat) : Int) t)) (fun k => ?_) ?_
      · simp only [woggleref06_Ball.l0]
        rw [if_pos (by omega)]
      · refine Ev.bind (raround_ev nx _ hn hx hb) ?_
        have h1 := lt1024 hn hb
        have h2 := lt1024 hn (nb_lt hx (ball nx v i))
        rw [or64 _ _ (by omega) (by omega), show wrap64 (((d + 1 : Nat) : Int) - 1) = (d : Int) by unfold wrap64; omega, ← ball_add]
        have := ih (i + 1) (by omega)
        rwa [show i + 1 + d = i + (d + 1) by omega] at this
  have h := key r 0 hr
  refine Ev.congr (f := fun k => woggleref06_Ball.l0 k (toI nx) (r : Int) ((ball nx v 0 : Nat) : Int)) (fun k => ?_) (by simpa using h)
  unfold woggleref06_Ball.f
  rw [if_pos (by omega), shl64 v (by omega)]
  rfl
end
end Go.Proofs.YtbgpnkchbcgekaaDoor.Fi
end
section
namespace Go.Proofs.YtbgpnkchbcgekaaDoor.Fi
open Go.RowKit Go.Proofs.YtbgpnkchbcgekaaDoorW.PrintWords Go.Proofs.YtbgpnkchbcgekaaDoorW.PrintLast Go.Proofs.YtbgpnkchbcgekaaDoorW.PrintMore Wog
set_option linter.unusedVariables false
theorem lives_best : fire_Best.f 4 ([(⟨0, 1⟩ : S42), (⟨1, 2⟩ : S42), (⟨2, 3⟩ : S42)] : List (S42)) 1 = some (2, [2], 0) := by decide +kernel
theorem lives_play : fire_Play.f 4 ([(⟨0, 1⟩ : S42), (⟨1, 2⟩ : S42), (⟨2, 3⟩ : S42)] : List (S42)) 1 [2] = some ([[0]], 0) := by decide +kernel
theorem lives_burning : fire_Burning.f 4 ([(⟨0, 1⟩ : S42), (⟨1, 2⟩ : S42), (⟨2, 3⟩ : S42)] : List (S42)) = some ([1, 3], 0) := by decide +kernel
theorem lives_ev : Ev (fun k => wogglelaw06_lives.f k) true := by
  unfold wogglelaw06_lives.f
  simp only [Option.bind_some, lives_best, lives_play, lives_burning, if_true]
  refine Ev.bind (same_ev [2] (by simp)) ?_
  simp only [if_true]
  refine Ev.bind (sameLists_ev [[0]] (by simp) (by simp)) ?_
  simp only [if_true]
  refine Ev.bind (same_ev [1, 3] (by simp)) ?_
  simp only [if_true]
  exact Ev.now _
theorem bestR_len {n : Int} {l : List S42} {f : Int} (h : GoodG n l) (h0 : 0 ≤ f) (hf : f < n) : (bestR n l f).2.length ≤ 30 := by
  have := bestR_is h h0 hf
  exact bestF_len this
end Go.Proofs.YtbgpnkchbcgekaaDoor.Fi
end
section
namespace Go.Proofs.YtbgpnkchbcgekaaDoor.Fi
open Go.RowKit Go.Proofs.YtbgpnkchbcgekaaDoorW.PrintWords Go.Proofs.YtbgpnkchbcgekaaDoorW.PrintLast Go.Proofs.YtbgpnkchbcgekaaDoorW.PrintMore Wog
set_option linter.unusedVariables false
theorem GoodG.rows {n : Int} {l : List S42} (h : GoodG n l) : (∀ x ∈ nearS n.toNat l, x < 2 ^ (nearS n.toNat l).length) ∧ (nearS n.toNat l).length ≤ 10 ∧ 0 < (nearS n.toNat l).length ∧ n = ((nearS n.toNat l).length : Int) ∧ (nearS n.toNat l).length = n.toNat := by
  obtain ⟨h1, h2, h3, h4⟩ := h
  have hl := nearS_length n.toNat l
  refine ⟨by rw [hl]; exact nearS_lt h4, by omega, by omega, by omega, hl⟩
end Go.Proofs.YtbgpnkchbcgekaaDoor.Fi
end
section
namespace Go.Proofs.YtbgpnkchbcgekaaDoor.Fi
open Go.RowKit Go.Proofs.YtbgpnkchbcgekaaDoorW.PrintWords Go.Proofs.YtbgpnkchbcgekaaDoorW.PrintLast Go.Proofs.YtbgpnkchbcgekaaDoorW.PrintMore Wog
set_option linter.unusedVariables false
def rres (nx : List Nat) (p : List Int) (B D : Nat) (out : List Nat) : List Int × Int × Bool := match playS nx p B D, endB nx p B D with
  | some o, some e => (toI (out ++ o), (e : Int), true)
  | _, _ => ([], 0, false)
section
variable {nx : List Nat}
theorem more64 (hn : nx.length ≤ 10) (hx : ∀ x ∈ nx, x < 2 ^ nx.length) {B D : Nat} (hB : B < 2 ^ nx.length) (hD : D < 2 ^ nx.length) :
    Go.bits .andNot .i64 ((nb nx B : Nat) : Int) (Go.bits .or .i64 (B : Int) (D : Int)) = ((moreS nx B D : Nat) : Int) := by
  have h1 := lt1024 hn hB
  have h2 := lt1024 hn hD
  have h3 := lt1024 hn (nb_lt hx B)
  rw [or64 _ _ (by omega) (by omega), andNot64 _ _ (by omega) (by have := Nat.or_lt_two_pow h1 h2; omega)]
  congr 1
  apply Nat.eq_of_testBit_eq
  intro i
  rw [testBit_diff, moreS_bit, Nat.testBit_or, arnd, Nat.testBit_or]
  cases B.testBit i <;> cases D.testBit i <;> simp
theorem more_zero {B D : Nat} (hd : disj B D) (h : moreS nx B D = 0) : diff (arnd nx B) D = B := by
  rw [← step_eq hd, h]; simp
theorem rend (hn : nx.length ≤ 10) (hx : ∀ x ∈ nx, x < 2 ^ nx.length) (n : Int) (plan : List Int) : ∀ (m j B D : Nat) (out : List Nat), plan.length ≤ j → j + m < 2 ^ 40 → B < 2 ^ nx.length → D < 2 ^ nx.length → disj B D → zer nx.length B ≤ m → out.length + m ≤ 2 ^ 41 →
    Ev (fun k => woggleref06_Play.j1 k n plan (toI nx) (B : Int) (D : Int) (toI out) (j : Int)) (rres nx [] B D out) := by
  intro m
  induction m with
  | zero =>
    intro j B D out hj hjm hB hD hd hz ho
    have h0 := zer_zero hx hB D (by omega)
    refine Ev.step (f := fun k => (woggleref06_around.f k (toI nx) (B : Int)).bind fun t => if Go.bits .andNot .i64 t (Go.bits .or .i64 (B : Int) (D : Int)) = 0 then some (toI out, (B : Int), true) else if (toI out).length < 17592186044416 then woggleref06_Play.l0 k n plan (toI nx) (Go.bits .or .i64 (B : Int) (Go.bits .andNot .i64 t (Go.bits .or .i64 (B : Int) (D : Int)))) (D : Int) (toI out ++ [Go.bits .andNot .i64 t (Go.bits .or .i64 (B : Int) (D : Int))]) (wrap64 ((j : Int) + 1)) else none) (fun k => ?_) ?_
    · simp only [woggleref06_Play.j1]
      congr 1
      funext t
      rw [wrapS (by omega)]
      split
      · rw [if_pos (by omega)]
      · rfl
    · refine Ev.bind (raround_ev nx _ hn hx hB) ?_
      simp only [more64 hn hx hB hD, h0]
      have e1 : playS nx [] B D = some [] := by
        show some (playN nx nx.length B D) = _
        rw [playN_unfold hx hB, if_pos h0]
      have e2 : endB nx [] B D = some B := by
        rw [endB, cloF, if_pos (more_zero hd h0)]
      unfold rres
      rw [e1, e2]
      simpa using Ev.now (toI out, (B : Int), true)
  | succ m ih =>
    intro j B D out hj hjm hB hD hd hz ho
    refine Ev.step (f := fun k => (woggleref06_around.f k (toI nx) (B : Int)).bind fun t => if Go.bits .andNot .i64 t (Go.bits .or .i64 (B : Int) (D : Int)) = 0 then some (toI out, (B : Int), true) else if (toI out).length < 17592186044416 then woggleref06_Play.l0 k n plan (toI nx) (Go.bits .or .i64 (B : Int) (Go.bits .andNot .i64 t (Go.bits .or .i64 (B : Int) (D : Int)))) (D : Int) (toI out ++ [Go.bits .andNot .i64 t (Go.bits .or .i64 (B : Int) (D : Int))]) ((j + 1 : Nat) : Int) else none) (fun k => ?_) ?_
    · simp only [woggleref06_Play.j1]
      congr 1
      funext t
      rw [wrapS (by omega)]
      split
      · rw [if_pos (by omega)]
      · rfl
    · refine Ev.bind (raround_ev nx _ hn hx hB) ?_
      simp only [more64 hn hx hB hD]
      by_cases h0 : moreS nx B D = 0
      · have e1 : playS nx [] B D = some [] := by
          show some (playN nx nx.length B D) = _
          rw [playN_unfold hx hB, if_pos h0]
        have e2 : endB nx [] B D = some B := by
          rw [endB, cloF, if_pos (more_zero hd h0)]
        unfold rres
        rw [e1, e2, h0]
        simpa using Ev.now (toI out, (B : Int), true)
      · have hM := moreS_lt hx hB D
        have h1 := lt1024 hn hB
        have h2 := lt1024 hn hM
        have hz' := zer_more hx hB h0
        have e1 : playS nx [] B D = (playS nx [] (B ||| moreS nx B D) D).map (moreS nx B D :: ·) := by
          show some (playN nx nx.length B D) = (some (playN nx nx.length (B ||| moreS nx B D) D)).map _
          rw [playN_unfold hx hB, if_neg h0]
          rfl
        have e2 : endB nx [] B D = endB nx [] (B ||| moreS nx B D) D := by
          have hB2 := Nat.or_lt_two_pow hB hM
          obtain ⟨R, hR, _, _⟩ := cloF_some hx nx.length _ hB2 (or_disj hd (moreS_disj B D)) (zer_le _ _)
          show cloF nx D (nx.length + 1) B = cloF nx D (nx.length + 1) _
          rw [hR]
          obtain ⟨R', hR', _, _⟩ := cloF_some hx nx.length _ hB hd (zer_le _ _)
          rw [hR']
          have : cloF nx D (nx.length + 1 + 1) B = some R := by
            rw [cloF, if_neg, ← step_eq hd]
            · exact hR
            · intro e
              rw [← step_eq hd] at e
              apply h0
              refine zero_of_bits (fun i => ?_)
              cases hi : (moreS nx B D).testBit i with
              | false => rfl
              | true =>
                have h1 := moreS_disjB B D i hi
                rw [← e, Nat.testBit_or, hi] at h1
                simp at h1
          rw [cloF_det hR' this]
        have e3 : rres nx [] B D out = rres nx [] (B ||| moreS nx B D) D (out ++ [moreS nx B D]) := by
          unfold rres
          rw [e1, e2]
          cases playS nx [] (B ||| moreS nx B D) D <;> cases endB nx [] (B ||| moreS nx B D) D <;> simp
        rw [e3]
        have hne : ¬ (((moreS nx B D : Nat) : Int) = 0) := by omega
        simp only [if_neg hne]
        have hlo : (toI out).length < 17592186044416 := by rw [toI_length]; omega
        simp only [if_pos hlo]
        rw [or64 _ _ (by omega) (by omega), toI_snoc]
        refine Ev.step (f := fun k => woggleref06_Play.j1 k n plan (toI nx) ((B ||| moreS nx B D : Nat) : Int) (D : Int) (toI (out ++ [moreS nx B D])) ((j + 1 : Nat) : Int)) (fun k => ?_) ?_
        · simp only [woggleref06_Play.l0]
          rw [if_neg (by omega)]
        · exact ih (j + 1) _ D _ (by omega) (by omega) (Nat.or_lt_two_pow hB hM) hD (or_disj hd (moreS_disj B D)) (by omega) (by simp; omega)
theorem rplay_l0 (hn : nx.length ≤ 10) (hx : ∀ x ∈ nx, x < 2 ^ nx.length) (n : Int) (hnn : n = nx.length) (plan : List Int) (hp : plan.length ≤ 1000) : ∀ (p : List Int) (j B D : Nat) (out : List Nat), plan.drop j = p → j + p.length = plan.length → B < 2 ^ nx.length → D < 2 ^ nx.length → disj B D → out.length ≤ j →
    Ev (fun k => woggleref06_Play.l0 k n plan (toI nx) (B : Int) (D : Int) (toI out) (j : Int)) (rres nx p B D out) := by
  intro p
  induction p with
  | nil =>
    intro j B D out hdr hj hB hD hd ho
    simp at hj
    refine Ev.step (f := fun k => woggleref06_Play.j1 k n plan (toI nx) (B : Int) (D : Int) (toI out) (j : Int)) (fun k => ?_) (rend hn hx n plan nx.length j B D out (by omega) (by omega) hB hD hd (zer_le _ _) (by omega))
    simp only [woggleref06_Play.l0]
    rw [if_neg (by omega)]
  | cons d p ih =>
    intro j B D out hdr hj hB hD hd ho
    obtain ⟨hjl, hget, hdr'⟩ := drop_cons hdr
    simp only [List.length_cons] at hj
    have hrd : rd plan (j : Int) = d := by unfold rd; rw [Int.toNat_natCast, List.getD_eq_getElem?_getD, hget]; rfl
    have hw : wrap64 (n - 1) = n - 1 := by unfold wrap64; omega
    have b1 := lt1024 hn hB
    have b2 := lt1024 hn hD
    have bor := Nat.or_lt_two_pow b1 b2
    by_cases hv : 0 ≤ d ∧ d < nx.length ∧ (B ||| D).testBit d.toNat = false
    · obtain ⟨hv1, hv2, hv3⟩ := hv
      obtain ⟨v, rfl⟩ := Int.eq_ofNat_of_zero_le hv1
      rw [Int.toNat_natCast] at hv3
      obtain ⟨c1, c2⟩ := valid_split hv3
      have hvn : v < nx.length := by omega
      have b3 : 2 ^ v < 2 ^ 10 := Nat.pow_lt_pow_right (by omega) (by omega)
      have hD' : D ||| 2 ^ v < 2 ^ nx.length := Nat.or_lt_two_pow hD (Nat.pow_lt_pow_right (by omega) hvn)
      have hdd : disj B (D ||| 2 ^ v) := disj_or hd (disj_one c1)
      refine Ev.step (f := fun k => woggleref06_Play.j1 k n plan (toI nx) (B : Int) ((D ||| 2 ^ v : Nat) : Int) (toI out) (j : Int)) (fun k => ?_) ?_
      · simp only [woggleref06_Play.l0, hrd]
        rw [if_pos (by omega), if_pos (by omega), hw]
        unfold woggleref06_in.f
        rw [if_pos (by omega), Option.bind_some]
        have : decide ((v : Int) ≤ n - 1) = true := decide_eq_true (by omega)
        rw [this, if_pos rfl, if_pos (by omega), or64 _ _ (by omega) (by omega), has64 _ _ (by omega), hv3, if_neg (by simp), shl64 v (by omega), or64 _ _ (by omega) (by omega)]
      · have hM := moreS_lt hx hB (D ||| 2 ^ v)
        have b4 := lt1024 hn hM
        refine Ev.step (f := fun k => (woggleref06_around.f k (toI nx) (B : Int)).bind fun t332 => (if (Go.bits .andNot .i64 t332 (Go.bits .or .i64 (B : Int) ((D ||| 2 ^ v : Nat) : Int))) = 0 then (if (wrap64 ((j : Int) + 1)) ≥ (plan.length : Int) then (some (toI out, (B : Int), true)) else (woggleref06_Play.l0 k n plan (toI nx) (Go.bits .or .i64 (B : Int) (Go.bits .andNot .i64 t332 (Go.bits .or .i64 (B : Int) ((D ||| 2 ^ v : Nat) : Int)))) ((D ||| 2 ^ v : Nat) : Int) (toI out) (wrap64 ((j : Int) + 1)))) else (if (toI out).length < 17592186044416 then (woggleref06_Play.l0 k n plan (toI nx) (Go.bits .or .i64 (B : Int) (Go.bits .andNot .i64 t332 (Go.bits .or .i64 (B : Int) ((D ||| 2 ^ v : Nat) : Int)))) ((D ||| 2 ^ v : Nat) : Int) (toI out ++ [Go.bits .andNot .i64 t332 (Go.bits .or .i64 (B : Int) ((D ||| 2 ^ v : Nat) : Int))]) (wrap64 ((j : Int) + 1))) else (none)))) (fun k => by simp only [woggleref06_Play.j1]) ?_
        refine Ev.bind (raround_ev nx _ hn hx hB) ?_
        simp only [more64 hn hx hB hD']
        have e0 : playS nx ((v : Int) :: p) B D = (playS nx p (B ||| moreS nx B (D ||| 2 ^ v)) (D ||| 2 ^ v)).map fun o => if moreS nx B (D ||| 2 ^ v) = 0 then o else moreS nx B (D ||| 2 ^ v) :: o := by
          rw [playS, if_pos ⟨by omega, by omega, by rw [Int.toNat_natCast]; exact hv3⟩, Int.toNat_natCast]
        have e1 : endB nx ((v : Int) :: p) B D = endB nx p (B ||| moreS nx B (D ||| 2 ^ v)) (D ||| 2 ^ v) := by
          rw [endB, if_pos ⟨by omega, by omega, by rw [Int.toNat_natCast]; exact hv3⟩, Int.toNat_natCast]
        by_cases h0 : moreS nx B (D ||| 2 ^ v) = 0
        · have hc : ((moreS nx B (D ||| 2 ^ v) : Nat) : Int) = 0 := by omega
          simp only [if_pos hc, wrapS (show j < 2 ^ 40 by omega)]
          have e3 : rres nx ((v : Int) :: p) B D out = rres nx p B (D ||| 2 ^ v) out := by
            unfold rres
            rw [e0, e1, h0]
            simp
          rw [e3]
          cases p with
          | nil =>
            simp at hj
            simp only [if_pos (show ((j + 1 : Nat) : Int) ≥ (plan.length : Int) by omega)]
            have e4 : playS nx [] B (D ||| 2 ^ v) = some [] := by
              show some (playN nx nx.length B (D ||| 2 ^ v)) = _
              rw [playN_unfold hx hB, if_pos h0]
            have e5 : endB nx [] B (D ||| 2 ^ v) = some B := by
              rw [endB, cloF, if_pos (more_zero hdd h0)]
            unfold rres
            rw [e4, e5]
            simpa using Ev.now (toI out, (B : Int), true)
          | cons d2 p =>
            simp at hj
            simp only [if_neg (show ¬ ((j + 1 : Nat) : Int) ≥ (plan.length : Int) by omega)]
            have hor : Go.bits .or .i64 (B : Int) ((moreS nx B (D ||| 2 ^ v) : Nat) : Int) = (B : Int) := by
              rw [or64 _ _ (by omega) (by omega), h0]; simp
            rw [hor]
            exact ih (j + 1) B (D ||| 2 ^ v) out hdr' (by simp; omega) hB hD' hdd (by omega)
        · have hc : ¬ ((moreS nx B (D ||| 2 ^ v) : Nat) : Int) = 0 := by omega
          simp only [if_neg hc, wrapS (show j < 2 ^ 40 by omega)]
          have hlo : (toI out).length < 17592186044416 := by rw [toI_length]; omega
          simp only [if_pos hlo]
          rw [or64 _ _ (by omega) (by omega), toI_snoc]
          have e3 : rres nx ((v : Int) :: p) B D out = rres nx p (B ||| moreS nx B (D ||| 2 ^ v)) (D ||| 2 ^ v) (out ++ [moreS nx B (D ||| 2 ^ v)]) := by
            unfold rres
            rw [e0, e1]
            cases playS nx p (B ||| moreS nx B (D ||| 2 ^ v)) (D ||| 2 ^ v) <;> cases endB nx p (B ||| moreS nx B (D ||| 2 ^ v)) (D ||| 2 ^ v) <;> simp [h0]
          rw [e3]
          exact ih (j + 1) _ _ _ hdr' (by omega) (Nat.or_lt_two_pow hB hM) hD' (or_disj hdd (moreS_disj _ _)) (by simp; omega)
    · have e0 : rres nx (d :: p) B D out = ([], 0, false) := by
        unfold rres
        rw [playS, endB, if_neg hv, if_neg hv]
      rw [e0]
      refine Ev.step (f := fun _ => some ([], 0, false)) (fun k => ?_) (Ev.now _)
      simp only [woggleref06_Play.l0, hrd]
      rw [if_pos (by omega), if_pos (by omega), hw]
      unfold woggleref06_in.f
      by_cases h1 : d ≥ 0
      · rw [if_pos h1, Option.bind_some]
        by_cases h2 : d ≤ n - 1
        · rw [decide_eq_true h2, if_pos rfl, if_pos h1]
          obtain ⟨v, rfl⟩ := Int.eq_ofNat_of_zero_le h1
          have : (B ||| D).testBit v = true := by
            cases h3 : (B ||| D).testBit v with
            | true => rfl
            | false => exact absurd ⟨h1, by omega, by rw [Int.toNat_natCast]; exact h3⟩ hv
          rw [or64 _ _ (by omega) (by omega), has64 _ _ (by omega), this, if_pos (by rfl)]
        · rw [decide_eq_false h2, if_neg (by simp)]
      · rw [if_neg h1, Option.bind_some, if_neg (by simp)]
end
theorem rplay_ev {n : Int} {l : List S42} {f : Int} (h : PlayOk n l f) (plan : List Int) (hp : plan.length ≤ 1000) : Ev (fun k => woggleref06_Play.f k n l f plan) (rres (nearS n.toNat l) plan (2 ^ f.toNat) 0 []) := by
  obtain ⟨hg, h0, hf⟩ := h
  obtain ⟨hx, hn10, hn0, hnn, hnl⟩ := hg.rows
  unfold woggleref06_Play.f
  refine Ev.bind (near_ev n l hg) ?_
  have hk := rplay_l0 hn10 hx n hnn plan hp plan 0 (2 ^ f.toNat) 0 [] (by simp) (by simp) (Nat.pow_lt_pow_right (by omega) (by omega)) (Nat.two_pow_pos _) (fun i _ => by simp) (by simp)
  have hs : shl .i64 1 f = ((2 ^ f.toNat : Nat) : Int) := by
    have := shl64 f.toNat (by omega)
    rwa [Int.toNat_of_nonneg h0] at this
  simp only [if_pos h0, hs]
  exact hk
theorem GoodG.near_lt {n : Int} {l : List S42} (h : GoodG n l) {f : Int} (h0 : 0 ≤ f) (hf : f < n) : 2 ^ f.toNat < 2 ^ (nearS n.toNat l).length := by
  obtain ⟨_, _, _, hnn, _⟩ := h.rows
  exact Nat.pow_lt_pow_right (by omega) (by omega)
theorem savedS_is (n : Int) (o : List Nat) : savedS n o = n - 1 - (sumP o : Int) := by
  unfold savedS sumP
  have : ∀ (o : List Nat) (a : Int), o.foldl (fun a s => a - ((popc 16 s : Nat) : Int)) a = a - (((o.map (popc 16)).sum : Nat) : Int) := by
    intro o
    induction o with
    | nil => intro a; simp
    | cons x o ih => intro a; rw [List.foldl_cons, ih]; simp; omega
  exact this o (n - 1)
/-- The rounds of a plan, and what burns in the end: both or none. -/
theorem play_both {n : Int} {l : List S42} {f : Int} (h : PlayOk n l f) (p : List Int) (o : List Nat) (ho : playS (nearS n.toNat l) p (2 ^ f.toNat) 0 = some o) :
    ∃ e, endB (nearS n.toNat l) p (2 ^ f.toNat) 0 = some e ∧ e < 2 ^ (nearS n.toNat l).length ∧ savedS n o = n - ((popc 16 e : Nat) : Int) := by
  obtain ⟨hg, h0, hf⟩ := h
  obtain ⟨hx, hn10, hn0, hnn, hnl⟩ := hg.rows
  have hB := hg.near_lt h0 hf
  have hz : disj (2 ^ f.toNat) 0 := fun i _ => by simp
  obtain ⟨e, h1, h2⟩ := playS_end hx p _ _ o hB hz ho
  refine ⟨e, h1, endB_lt hx _ _ _ _ hB hz h1, ?_⟩
  rw [savedS_is, h2, popc16 (by omega) hB, popc_pow (by omega)]
  omega
end Go.Proofs.YtbgpnkchbcgekaaDoor.Fi
end
section
namespace Go.Proofs.YtbgpnkchbcgekaaDoor.Fi
open Go.RowKit Go.Proofs.YtbgpnkchbcgekaaDoorW.PrintWords Go.Proofs.YtbgpnkchbcgekaaDoorW.PrintLast Go.Proofs.YtbgpnkchbcgekaaDoorW.PrintMore Wog
set_option linter.unusedVariables false
def tri : Nat → Nat
  | 0 => 0
  | i + 1 => tri i + i
theorem tri_le : ∀ i : Nat, i ≤ 10 → tri i ≤ 45 := by decide
theorem made_key (a1 : Int) (n : Nat) (hn10 : n ≤ 10) (hn0 : 1 ≤ n) : ∀ (d i : Nat) (l : List S42), i + d = n → (∀ e ∈ l, okE n e) → l.length ≤ tri i → ∃ l', GoodG n l' ∧ Ev (fun k => wogglelaw06_made.l0 k a1 (n : Int) l ((tri i : Nat) : Int) (i : Int)) ((n : Int), l') := by
  intro d
  induction d with
  | zero =>
    intro i l hi hl hlen
    have := tri_le i (by omega)
    refine ⟨l, ⟨by omega, by omega, by omega, by rw [Int.toNat_natCast]; exact hl⟩, Ev.step (f := fun _ => some ((n : Int), l)) (fun k => ?_) (Ev.now _)⟩
    simp only [wogglelaw06_made.l0]
    rw [if_neg (by omega)]
  | succ d ih =>
    intro i l hi hl hlen
    have htri := tri_le i (by omega)
    -- the inner loop
    have inner : ∀ (c j : Nat) (l : List S42), j + c = i → (∀ e ∈ l, okE n e) → l.length ≤ tri i + j → ∃ l', GoodG n l' ∧ Ev (fun k => wogglelaw06_made.l1 k a1 (n : Int) l ((tri i + j : Nat) : Int) (i : Int) (j : Int)) ((n : Int), l') := by
      intro c
      induction c with
      | zero =>
        intro j l hj hl hlen
        obtain rfl : j = i := by omega
        obtain ⟨l', h1, h2⟩ := ih (j + 1) l (by omega) hl (by show l.length ≤ tri j + j; exact hlen)
        have e : tri (j + 1) = tri j + j := rfl
        rw [e] at h2
        refine ⟨l', h1, Ev.step (fun k => ?_) h2⟩
        simp only [wogglelaw06_made.l1]
        rw [if_neg (by omega), wrapS (by omega)]
      | succ c ihc =>
        intro j l hj hl hlen
        have hadd : wrap64 (((tri i + j : Nat) : Int) + 1) = ((tri i + (j + 1) : Nat) : Int) := by unfold wrap64; omega
        by_cases hb : Go.bits .and .u64 (shr .u64 a1 ((tri i + j : Nat) : Int)) 1 = 1
        · obtain ⟨l', h1, h2⟩ := ihc (j + 1) (l ++ [(⟨(i : Int), (j : Int)⟩ : S42)]) (by omega) (fun e he => by
            rcases List.mem_append.1 he with he | he
            · exact hl e he
            · obtain rfl : e = (⟨(i : Int), (j : Int)⟩ : S42) := by simpa using he
              exact ⟨by show (0 : Int) ≤ i; omega, by show (0 : Int) ≤ j; omega, by show (i : Int) < n; omega, by show (j : Int) < n; omega, by show (i : Int) ≠ j; omega⟩) (by rw [List.length_append]; exact Nat.succ_le_succ hlen)
          refine ⟨l', h1, Ev.step (fun k => ?_) h2⟩
          simp only [wogglelaw06_made.l1]
          rw [if_pos (by omega), if_pos (by omega), if_pos hb, if_pos (by omega), hadd, wrapS (by omega)]
        · obtain ⟨l', h1, h2⟩ := ihc (j + 1) l (by omega) hl (by omega)
          refine ⟨l', h1, Ev.step (fun k => ?_) h2⟩
          simp only [wogglelaw06_made.l1]
          rw [if_pos (by omega), if_pos (by omega), if_neg hb, hadd, wrapS (by omega)]
    obtain ⟨l', h1, h2⟩ := inner i 0 l (by omega) hl (by omega)
    rw [Nat.add_zero, Int.natCast_zero] at h2
    refine ⟨l', h1, Ev.step (fun k => ?_) h2⟩
    simp only [wogglelaw06_made.l0]
    rw [if_pos (by omega)]
theorem made_ev (a0 a1 : Int) (h0 : (Lit.int .u8 a0).wf = true) : ∃ (n : Int) (l : List S42), GoodG n l ∧ Ev (fun k => wogglelaw06_made.f k a0 a1) (n, l) := by
  have hr : 0 ≤ a0 ∧ a0 ≤ 255 := by
    have h9 : (decide (IntKind.u8.min ≤ a0) && decide (a0 ≤ IntKind.u8.max)) = true := h0
    rw [Bool.and_eq_true, decide_eq_true_iff, decide_eq_true_iff] at h9
    have h8 : IntKind.u8.max = 255 := by kernel_rfl
    have h7 : IntKind.u8.min = 0 := by kernel_rfl
    rw [h8, h7] at h9
    exact h9
  obtain ⟨a, rfl⟩ := Int.eq_ofNat_of_zero_le hr.1
  have hn : wrap64 (Int.tmod (wrap64 (a : Int)) 10 + 1) = ((a % 10 + 1 : Nat) : Int) := by
    have h1 : wrap64 (a : Int) = (a : Int) := by unfold wrap64; omega
    rw [h1, Int.tmod_eq_emod_of_nonneg (by omega)]
    unfold wrap64
    omega
  obtain ⟨n, hnn⟩ : ∃ n, n = a % 10 + 1 := ⟨_, rfl⟩
  have hn10 : n ≤ 10 := by omega
  have hn0 : 1 ≤ n := by omega
  have key := made_key a1 n hn10 hn0
  obtain ⟨l', h1, h2⟩ := key n 0 [] (by omega) (by simp) (by simp)
  refine ⟨(n : Int), l', h1, ?_⟩
  unfold wogglelaw06_made.f
  have e : tri 0 = 0 := rfl
  rw [e, Int.natCast_zero] at h2
  simp only [hn, ← hnn]
  exact h2
theorem u8_range {x : Int} (h : (Lit.int .u8 x).wf = true) : 0 ≤ x ∧ x ≤ 255 := by
  have h9 : (decide (IntKind.u8.min ≤ x) && decide (x ≤ IntKind.u8.max)) = true := h
  rw [Bool.and_eq_true, decide_eq_true_iff, decide_eq_true_iff] at h9
  have h8 : IntKind.u8.max = 255 := by kernel_rfl
  have h7 : IntKind.u8.min = 0 := by kernel_rfl
  rw [h8, h7] at h9
  exact h9
theorem tmod_range {x n : Int} (hx : 0 ≤ x ∧ x ≤ 255) (hn : 1 ≤ n) : 0 ≤ Int.tmod (wrap64 x) n ∧ Int.tmod (wrap64 x) n < n := by
  have h1 : wrap64 x = x := by unfold wrap64; omega
  rw [h1, Int.tmod_eq_emod_of_nonneg hx.1]
  exact ⟨Int.emod_nonneg _ (by omega), Int.emod_lt_of_pos _ (by omega)⟩
/-- What Best returns: its own plan leaves as many as it says, and no plan more. -/
theorem bestR_spec {n : Int} {l : List S42} {f : Int} (h : PlayOk n l f) : (∃ o, playR n l f (bestR n l f).2 = some o ∧ savedS n o = (bestR n l f).1) ∧ ∀ p o, playR n l f p = some o → savedS n o ≤ (bestR n l f).1 := by
  obtain ⟨hg, h0, hf⟩ := h
  obtain ⟨hx, hn10, hn0, hnn, hnl⟩ := hg.rows
  have hB := hg.near_lt h0 hf
  have hz : disj (2 ^ f.toNat) 0 := fun i _ => by simp
  have hb := bestR_is hg h0 hf
  obtain ⟨e, h1, h2⟩ := bestF_attains hx _ _ _ _ hB hz hb
  obtain ⟨o, ho⟩ := playS_of_end _ _ _ _ h1
  refine ⟨⟨o, ho, ?_⟩, fun p o' ho' => ?_⟩
  · obtain ⟨e', h3, _, h4⟩ := play_both ⟨hg, h0, hf⟩ _ o ho
    rw [h1] at h3
    obtain rfl := Option.some.inj h3
    rw [h4, h2, ← hnn]
  · obtain ⟨e', h3, _, h4⟩ := play_both ⟨hg, h0, hf⟩ _ o' ho'
    have := bestF_ge hx _ _ _ _ hB hz hb p e' h3
    rw [← hnn] at this
    rw [h4]
    exact this
theorem FireSaves_ev (a0 a1 : Int) (x : List Int) (h0 : (Lit.int .u8 a0).wf = true) (_h1 : (Lit.int .u64 a1).wf = true) (hx8 : ∀ v ∈ x, (Lit.int .u8 v).wf = true) : Ev (fun k => wogglelaw06_FireSaves.f k a0 a1 x) true := by
  obtain ⟨n, l, hg, hm⟩ := made_ev a0 a1 h0
  obtain ⟨hx, hn10, hn0, hnn, hnl⟩ := hg.rows
  have hn1 : 1 ≤ n := hg.1
  have hpow : (2 : Nat) ^ (nearS n.toNat l).length ≤ 2 ^ 10 := Nat.pow_le_pow_right (by omega) hn10
  unfold wogglelaw06_FireSaves.f
  refine Ev.bind hm ?_
  have main : ∀ f : Int, 0 ≤ f → f < n → Ev (fun k => wogglelaw06_FireSaves.j0 k x n l f) true := by
    intro f hf0 hfn
    have hP : PlayOk n l f := ⟨hg, hf0, hfn⟩
    obtain ⟨⟨o, ho, hos⟩, hbest⟩ := bestR_spec hP
    have hlen := bestR_len hg hf0 hfn
    -- without a plan
    have hnone : ∃ o0, playR n l f [] = some o0 ∧ savedS n o0 = n - ((popc 16 (ball (nearS n.toNat l) f.toNat (nearS n.toNat l).length) : Nat) : Int) := by
      obtain ⟨e, h1, h2, h3⟩ := play_both hP [] (playN (nearS n.toNat l) (nearS n.toNat l).length (2 ^ f.toNat) 0) rfl
      refine ⟨_, rfl, ?_⟩
      rw [h3]
      have : endB (nearS n.toNat l) [] (2 ^ f.toNat) 0 = some (ball (nearS n.toNat l) f.toNat (nearS n.toNat l).length) := clo_ball hx (by omega)
      rw [this] at h1
      rw [Option.some.inj h1]
    obtain ⟨o0, ho0, hs0⟩ := hnone
    have hbl := ball_lt hx (v := f.toNat) (by omega) (nearS n.toNat l).length
    -- the plan that is derived
    have loop : ∀ (d i : Nat) (p : List Int), i + d = 9 → 1 ≤ i → p.length < i → (∃ op, playR n l f p = some op) → Ev (fun k => wogglelaw06_FireSaves.l0 k x n l f (bestR n l f).1 p (i : Int)) true := by
      have stop : ∀ (i : Nat) (p : List Int), p.length < i → i ≤ 9 → (∃ op, playR n l f p = some op) → Ev (fun k => wogglelaw06_FireSaves.j3 k x n l f (bestR n l f).1 p (i : Int) false) true := by
        intro i p hpi hi ⟨op, hop⟩
        have hle := hbest p op hop
        refine Ev.step (f := fun _ => some true) (fun k => ?_) (Ev.now _)
        simp only [wogglelaw06_FireSaves.j3, Bool.false_eq_true, if_false]
        unfold fire_Saved.f
        rw [if_pos (by omega), if_pos hP, hop]
        simp [hle]
      intro d
      induction d with
      | zero =>
        intro i p hi hi1 hpi hop
        refine Ev.step (f := fun k => wogglelaw06_FireSaves.j3 k x n l f (bestR n l f).1 p (i : Int) false) (fun k => ?_) (stop i p hpi (by omega) hop)
        simp only [wogglelaw06_FireSaves.l0]
        have : decide ((i : Int) < 9) = false := decide_eq_false (by omega)
        rw [this]
        split <;> rfl
      | succ d ih =>
        intro i p hi hi1 hpi hop
        by_cases hlt : i < x.length
        · refine Ev.step (f := fun k => wogglelaw06_FireSaves.j3 k x n l f (bestR n l f).1 p (i : Int) true) (fun k => ?_) ?_
          · simp only [wogglelaw06_FireSaves.l0]
            rw [if_pos (by omega), decide_eq_true (by omega)]
          · obtain ⟨v, hv⟩ : ∃ v, v = Int.tmod (wrap64 (rd x (i : Int))) n := ⟨_, rfl⟩
            refine Ev.step (f := fun k => (woggleref06_Play.f k n l f (p ++ [v])).bind fun bt => if bt.2.2 = true then wogglelaw06_FireSaves.l0 k x n l f (bestR n l f).1 (p ++ [v]) ((i + 1 : Nat) : Int) else wogglelaw06_FireSaves.l0 k x n l f (bestR n l f).1 p ((i + 1 : Nat) : Int)) (fun k => ?_) ?_
            · simp only [wogglelaw06_FireSaves.j3, if_true, Option.bind_some]
              rw [if_pos (by simp; omega), if_pos (by omega), if_pos (by omega), if_neg (by omega), if_pos (by simp; omega), wrapS (by omega), ← hv]
              simp
            · refine Ev.bind (rplay_ev hP (p ++ [v]) (by simp; omega)) ?_
              by_cases hok : ∃ op, playR n l f (p ++ [v]) = some op
              · obtain ⟨op, hop2⟩ := hok
                obtain ⟨e, h1, _, _⟩ := play_both hP _ op hop2
                have e1 : rres (nearS n.toNat l) (p ++ [v]) (2 ^ f.toNat) 0 [] = (toI op, (e : Int), true) := by
                  unfold rres
                  rw [show playS (nearS n.toNat l) (p ++ [v]) (2 ^ f.toNat) 0 = some op from hop2, h1]
                  rfl
                rw [e1]
                simp only [if_true]
                exact ih (i + 1) _ (by omega) (by omega) (by simp; omega) ⟨op, hop2⟩
              · have e1 : rres (nearS n.toNat l) (p ++ [v]) (2 ^ f.toNat) 0 [] = ([], 0, false) := by
                  unfold rres
                  cases hh : playS (nearS n.toNat l) (p ++ [v]) (2 ^ f.toNat) 0 with
                  | none => rfl
                  | some op => exact absurd ⟨op, hh⟩ hok
                rw [e1]
                simp only [Bool.false_eq_true, if_false]
                exact ih (i + 1) _ (by omega) (by omega) (by omega) hop
        · refine Ev.step (f := fun k => wogglelaw06_FireSaves.j3 k x n l f (bestR n l f).1 p (i : Int) false) (fun k => ?_) (stop i p hpi (by omega) hop)
          simp only [wogglelaw06_FireSaves.l0]
          rw [if_neg (by omega)]
    -- the first part
    have hpb : popc 16 (ball (nearS n.toNat l) f.toNat (nearS n.toNat l).length) ≤ 16 := popc_le16 _
    have hw : savedS n o0 = wrap64 (n - ((popc 16 (ball (nearS n.toNat l) f.toNat (nearS n.toNat l).length) : Nat) : Int)) := by rw [hs0]; unfold wrap64; omega
    refine Ev.step (f := fun k => (woggleref06_Near.f k n l).bind fun t384 => (woggleref06_Ball.f k t384 f n).bind fun t387 => (woggleref06_Size.f k t387).bind fun t388 => if savedS n o0 = wrap64 (n - t388) then (wogglelaw06_lives.f k).bind fun t389 => wogglelaw06_FireSaves.j1 k x n l f (bestR n l f).1 (!t389) else wogglelaw06_FireSaves.j1 k x n l f (bestR n l f).1 true) (fun k => ?_) ?_
    · simp only [wogglelaw06_FireSaves.j0]
      unfold fire_Best.f fire_Saved.f
      rw [if_pos ⟨hg, hf0, hfn⟩]
      simp only [Option.bind_some]
      have hp1 : (bestR n l f).2.length ≤ 1000 := by omega
      have hp2 : ([] : List Int).length ≤ 1000 := by simp
      simp only [if_pos hp1, if_pos hp2, if_pos hP, ho, ho0, Option.bind_some, if_true, hos]
    · refine Ev.bind (near_ev n l hg) ?_
      have hball := rball_ev hn10 hx (v := f.toNat) (r := (nearS n.toNat l).length) (by omega) (by omega)
      rw [Int.toNat_of_nonneg hf0, ← hnn] at hball
      refine Ev.bind hball ?_
      refine Ev.bind (rsize_ev _ (by omega)) ?_
      simp only [if_pos hw]
      refine Ev.bind lives_ev ?_
      refine Ev.step (f := fun k => wogglelaw06_FireSaves.l0 k x n l f (bestR n l f).1 [] ((1 : Nat) : Int)) (fun k => ?_) (loop 8 1 [] (by omega) (by omega) (by simp) ⟨o0, ho0⟩)
      simp only [wogglelaw06_FireSaves.j1, Bool.not_true, Bool.false_eq_true, if_false]
      rfl
  by_cases hl : (x.length : Int) > 0
  · have hv : 0 ≤ Int.tmod (wrap64 (rd x 0)) n ∧ Int.tmod (wrap64 (rd x 0)) n < n := by
      refine tmod_range (u8_range (hx8 _ ?_)) hn1
      unfold rd
      rw [List.getD_eq_getElem?_getD, show (0 : Int).toNat = 0 from rfl, List.getElem?_eq_getElem (by omega)]
      exact List.getElem_mem _
    simp only [if_pos hl, if_neg (show ¬ n = 0 by omega)]
    exact main _ hv.1 hv.2
  · simp only [if_neg hl]
    exact main 0 (by omega) (by omega)
end Go.Proofs.YtbgpnkchbcgekaaDoor.Fi
end
