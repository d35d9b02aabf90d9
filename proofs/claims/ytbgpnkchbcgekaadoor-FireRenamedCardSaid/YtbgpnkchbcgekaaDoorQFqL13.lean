/- Texts of this claim, joined: P5, P6, P7, P8, L1, L2, L4, L5, L6, L13 -/
import Derived.Test.YtbgpnkchbcgekaaDoorQFqP4
import Derived.Test.YtbgpnkchbcgekaaDoorQFqFi0
import Derived.Test.YtbgpnkchbcgekaaDoorQFqFi1
import Derived.Test.YtbgpnkchbcgekaaDoorQFqFi4
import Derived.Test.YtbgpnkchbcgekaaDoorQFqHc2
import Derived.Test.YtbgpnkchbcgekaaDoorQFqHbr
import Derived.Test.YtbgpnkchbcgekaaDoorQFqS6
import Derived.Test.YtbgpnkchbcgekaaDoorQFqFi6
import Derived.Test.YtbgpnkchbcgekaaDoorQFqFi5
import Derived.Test.YtbgpnkchbcgekaaDoorQFqFi9
import Derived.Test.YtbgpnkchbcgekaaDoorQFqHbu
import Derived.Test.YtbgpnkchbcgekaaDoorQFqHe
import Derived.Test.YtbgpnkchbcgekaaDoorQFqHgr
import Derived.Test.YtbgpnkchbcgekaaDoorQFqR1
import Derived.Test.YtbgpnkchbcgekaaDoorQFqFi3
import Derived.Test.YtbgpnkchbcgekaaDoorQFqHtr
import Derived.Deep.LoopGhost
import Derived.Outline
import Derived.Test.YtbgpnkchbcgekaaDoorQFqHfr
section
namespace Go.Proofs.YtbgpnkchbcgekaaDoor.Fi
open Go.RowKit Go.Proofs.YtbgpnkchbcgekaaDoorW.PrintWords Go.Proofs.YtbgpnkchbcgekaaDoorW.PrintLast Go.Proofs.YtbgpnkchbcgekaaDoorW.PrintMore Wog
set_option linter.unusedVariables false
theorem lexLt_irr : ∀ l : List Int, lexLt l l = false
  | [] => rfl
  | a :: l => by rw [lexLt, if_pos rfl]; exact lexLt_irr l
theorem before_ev (l m : List Int) (hl : l.length < 2 ^ 30) : Ev (fun k => woggleref01_Before.f k l m) (lexLt l m) := by
  have key : ∀ (a b p q : List Int), p.length = q.length → p.length + a.length < 2 ^ 30 → Ev (fun k => woggleref01_Before.l0 k (p ++ a) (q ++ b) (p.length : Int)) (lexLt a b) := by
    intro a
    induction a with
    | nil =>
      intro b p q hpq hpl
      refine Ev.step (f := fun k => woggleref01_Before.j1 k (p ++ []) (q ++ b) (p.length : Int) false) (fun k => ?_) ?_
      · simp only [woggleref01_Before.l0]
        rw [if_neg (by simp)]
      · refine Ev.step (f := fun _ => some (lexLt [] b)) (fun k => ?_) (Ev.now _)
        simp only [woggleref01_Before.j1]
        rw [if_neg (by simp)]
        cases b with
        | nil => simp [lexLt, hpq]
        | cons y b => simp [lexLt, hpq]; omega
    | cons x a ih =>
      intro b p q hpq hpl
      cases b with
      | nil =>
        refine Ev.step (f := fun k => woggleref01_Before.j1 k (p ++ x :: a) (q ++ []) (p.length : Int) false) (fun k => ?_) ?_
        · simp only [woggleref01_Before.l0]
          rw [if_pos (by simp; omega)]
          congr 1
          simp [hpq]
        · refine Ev.step (f := fun _ => some (lexLt (x :: a) [])) (fun k => ?_) (Ev.now _)
          simp only [woggleref01_Before.j1]
          rw [if_neg (by simp)]
          simp [lexLt, hpq]; omega
      | cons y b =>
        have e0 : rd (p ++ x :: a) (p.length : Int) = x := by unfold rd; simp [List.getD_eq_getElem?_getD]
        have e1 : rd (q ++ y :: b) (p.length : Int) = y := by rw [hpq]; unfold rd; simp [List.getD_eq_getElem?_getD]
        refine Ev.step (f := fun k => woggleref01_Before.j1 k (p ++ x :: a) (q ++ y :: b) (p.length : Int) true) (fun k => ?_) ?_
        · simp only [woggleref01_Before.l0]
          rw [if_pos (by simp; omega)]
          congr 1
          simp [hpq]; omega
        · by_cases hxy : x = y
          · subst hxy
            have ih' := ih b (p ++ [x]) (q ++ [x]) (by simp [hpq]) (by simp at hpl ⊢; omega)
            refine Ev.step (f := fun k => woggleref01_Before.l0 k (p ++ x :: a) (q ++ x :: b) ((p ++ [x]).length : Int)) (fun k => ?_) ?_
            · simp only [woggleref01_Before.j1]
              rw [if_pos trivial, if_pos (by omega), if_pos (by simp; omega), if_pos (by rw [hpq]; simp; omega), e0, e1, if_pos rfl, wrapS (by simp at hpl; omega)]
              simp
            · rw [lexLt, if_pos rfl]
              simpa using ih'
          · refine Ev.step (f := fun _ => some (decide (x < y))) (fun k => ?_) ?_
            · simp only [woggleref01_Before.j1]
              rw [if_pos trivial, if_pos (by omega), if_pos (by simp; omega), if_pos (by rw [hpq]; simp; omega), e0, e1, if_neg hxy]
            · rw [lexLt, if_neg hxy]; exact Ev.now _
  exact key l m [] [] rfl (by simpa using hl)
theorem same_ev (l : List Int) (hl : l.length < 2 ^ 30) : Ev (fun k => woggleref01_Same.f k l l) true := by
  unfold woggleref01_Same.f
  refine Ev.bind (before_ev l l hl) ?_
  simp only [lexLt_irr, Bool.false_eq_true, if_false]
  refine Ev.bind (before_ev l l hl) ?_
  simp only [lexLt_irr]
  exact Ev.now _
theorem sameLists_ev (l : List (List Int)) (hl : l.length < 2 ^ 30) (hl2 : ∀ x ∈ l, x.length < 2 ^ 30) : Ev (fun k => woggleref01_SameLists.f k l l) true := by
  have key : ∀ (d j : Nat), j + d = l.length → Ev (fun k => woggleref01_SameLists.l0 k l l (j : Int)) true := by
    intro d
    induction d with
    | zero =>
      intro j hj
      refine Ev.step (f := fun _ => some true) (fun k => ?_) (Ev.now _)
      simp only [woggleref01_SameLists.l0]
      rw [if_neg (by omega)]
    | succ d ih =>
      intro j hj
      have hmem : (rd_L4 l (j : Int)).length < 2 ^ 30 := by
        unfold rd_L4
        rw [Int.toNat_natCast, List.getD_eq_getElem?_getD, List.getElem?_eq_getElem (by omega)]
        exact hl2 _ (List.getElem_mem _)
      refine Ev.step (f := fun k => (woggleref01_Same.f k (rd_L4 l (j : Int)) (rd_L4 l (j : Int))).bind fun t => if t = true then woggleref01_SameLists.l0 k l l ((j + 1 : Nat) : Int) else some false) (fun k => ?_) ?_
      · simp only [woggleref01_SameLists.l0]
        rw [if_pos (by omega), if_pos (by omega), if_pos (by omega), wrapS (by omega)]
      · refine Ev.bind (same_ev _ hmem) ?_
        simp only [if_true]
        exact ih (j + 1) (by omega)
  have k := key l.length 0 (by omega)
  refine Ev.congr (fun k => ?_) k
  unfold woggleref01_SameLists.f
  rw [if_pos rfl]
  rfl
end Go.Proofs.YtbgpnkchbcgekaaDoor.Fi
end
section
namespace Go.Proofs.YtbgpnkchbcgekaaDoor.Fi
open Go.RowKit Go.Proofs.YtbgpnkchbcgekaaDoorW.PrintWords Go.Proofs.YtbgpnkchbcgekaaDoorW.PrintLast Go.Proofs.YtbgpnkchbcgekaaDoorW.PrintMore Wog
set_option linter.unusedVariables false
theorem raround_ev (nx : List Nat) (s : Nat) (hn : nx.length ≤ 10) (hx : ∀ x ∈ nx, x < 2 ^ nx.length) (hs : s < 2 ^ nx.length) : Ev (fun k => woggleref06_around.f k (toI nx) (s : Int)) ((nb nx s : Nat) : Int) := by
  have hpow : (2 : Nat) ^ nx.length ≤ 2 ^ 10 := Nat.pow_le_pow_right (by omega) hn
  have key : ∀ (d j acc : Nat), j + d = nx.length → acc < 2 ^ 10 →
      Ev (fun k => woggleref06_around.l0 k (toI nx) (s : Int) (acc : Int) (j : Int)) (((((List.range nx.length).drop j).foldl (fun acc v => if s.testBit v then acc ||| nx.getD v 0 else acc) acc : Nat)) : Int) := by
    intro d
    induction d with
    | zero =>
      intro j acc hj ha
      refine Ev.step (f := fun _ => some (acc : Int)) (fun k => ?_) ?_
      · simp only [woggleref06_around.l0]
        rw [if_neg (by rw [toI_length]; omega)]
      · rw [List.drop_eq_nil_of_le (by simp; omega)]; exact Ev.now _
    | succ d ih =>
      intro j acc hj ha
      have hjl : j < nx.length := by omega
      have hv : nx.getD j 0 < 2 ^ 10 := by
        rw [List.getD_eq_getElem?_getD, List.getElem?_eq_getElem hjl]
        exact Nat.lt_of_lt_of_le (hx _ (List.getElem_mem hjl)) hpow
      rw [drop_range hjl, List.foldl_cons]
      by_cases hb : s.testBit j = true
      · rw [if_pos hb]
        refine Ev.step (fun k => ?_) (ih (j + 1) (acc ||| nx.getD j 0) (by omega) (Nat.or_lt_two_pow ha hv))
        simp only [woggleref06_around.l0]
        rw [if_pos (by rw [toI_length]; omega), if_pos (by omega), has64 _ _ (by omega), if_pos (by rw [hb]; rfl), show rd (toI nx) (j : Int) = ((nx.getD j 0 : Nat) : Int) from rd_nat nx j, or64 _ _ (by omega) (by omega), wrapS (by omega)]
      · rw [if_neg hb]
        refine Ev.step (fun k => ?_) (ih (j + 1) acc (by omega) ha)
        rw [Bool.not_eq_true] at hb
        simp only [woggleref06_around.l0]
        rw [if_pos (by rw [toI_length]; omega), if_pos (by omega), has64 _ _ (by omega), if_neg (by rw [hb]; simp), wrapS (by omega)]
  exact key nx.length 0 0 (by omega) (by omega)
theorem members_ev (s : Nat) (hs : s < 2 ^ 10) : Ev (fun k => woggleref01_Members.f k (s : Int)) (mem10 s) := by
  have key : ∀ (d j : Nat), j + d = 10 → Ev (fun k => woggleref01_Members.l0 k (s : Int) (((List.range j).filter (fun i => s.testBit i)).map fun (i : Nat) => (i : Int)) (j : Int)) (mem10 s) := by
    have hdone : ∀ (j : Nat), j ≤ 10 → s / 2 ^ j = 0 → (((List.range j).filter (fun i => s.testBit i)).map fun (i : Nat) => (i : Int)) = mem10 s := by
      intro j hj h0
      unfold mem10
      congr 1
      have : ∀ d, (List.range (j + d)).filter (fun i => s.testBit i) = (List.range j).filter (fun i => s.testBit i) := by
        intro d
        induction d with
        | zero => rfl
        | succ d ih =>
          rw [show j + (d + 1) = (j + d) + 1 by omega, List.range_succ, List.filter_append, ih]
          have : s.testBit (j + d) = false := by
            refine Nat.testBit_lt_two_pow (Nat.lt_of_lt_of_le ?_ (Nat.pow_le_pow_right (by omega) (Nat.le_add_right j d)))
            exact (Nat.div_eq_zero_iff.1 h0).resolve_left (by have := Nat.two_pow_pos j; omega)
          simp [this]
      have h := this (10 - j)
      rw [show j + (10 - j) = 10 by omega] at h
      exact h.symm
    intro d
    induction d with
    | zero =>
      intro j hj
      obtain rfl : j = 10 := by omega
      refine Ev.step (f := fun _ => some (mem10 s)) (fun k => ?_) (Ev.now _)
      simp only [woggleref01_Members.l0]
      rw [if_pos (by omega), shr64, if_neg (by rw [Nat.div_eq_of_lt (by simpa using hs)]; simp)]
      rfl
    | succ d ih =>
      intro j hj
      by_cases h0 : s / 2 ^ j = 0
      · refine Ev.step (f := fun _ => some (mem10 s)) (fun k => ?_) (Ev.now _)
        simp only [woggleref01_Members.l0]
        rw [if_pos (by omega), shr64, Nat.min_eq_left (by omega), if_neg (by rw [h0]; simp), hdone j (by omega) h0]
      · refine Ev.step (fun k => ?_) (ih (j + 1) (by omega))
        simp only [woggleref01_Members.l0]
        rw [if_pos (by omega), if_pos (by rw [shr64, Nat.min_eq_left (by omega)]; exact Int.natCast_pos.2 (Nat.pos_of_ne_zero h0)), has64 _ _ (by omega), wrapS (by omega), List.range_succ, List.filter_append, List.map_append]
        by_cases hb : s.testBit j = true
        · rw [if_pos (by rw [hb]; rfl), if_pos]
          · simp [hb]
          · have := List.length_filter_le (fun i => s.testBit i) (List.range j)
            rw [List.length_map]
            rw [List.length_range] at this
            omega
        · rw [Bool.not_eq_true] at hb
          rw [if_neg (by rw [hb]; simp)]
          simp [hb]
  exact key 10 0 (by omega)
theorem mem10_len {s n : Nat} (hn : n ≤ 10) (hs : s < 2 ^ n) : (mem10 s).length = popc 16 s := by
  have hs' : s < 2 ^ 10 := Nat.lt_of_lt_of_le hs (Nat.pow_le_pow_right (by omega) hn)
  rw [popc16 (by omega) hs']
  unfold mem10 popc
  rw [List.length_map, List.countP_eq_length_filter]
theorem rsize_ev (s : Nat) (hs : s < 2 ^ 10) : Ev (fun k => woggleref06_Size.f k (s : Int)) ((popc 16 s : Nat) : Int) := by
  unfold woggleref06_Size.f
  refine Ev.bind (members_ev s hs) ?_
  rw [mem10_len (Nat.le_refl 10) hs]
  exact Ev.now _
end Go.Proofs.YtbgpnkchbcgekaaDoor.Fi
end
section
namespace Go.Proofs.YtbgpnkchbcgekaaDoor.Fi
open Go.RowKit Go.Proofs.YtbgpnkchbcgekaaDoorW.PrintWords Go.Proofs.YtbgpnkchbcgekaaDoorW.PrintLast Go.Proofs.YtbgpnkchbcgekaaDoorW.PrintMore Wog
set_option linter.unusedVariables false
theorem cloF_fix {nx : List Nat} {B D k : Nat} (hd : disj B D) (hB : B < 2 ^ nx.length) (hx : ∀ x ∈ nx, x < 2 ^ nx.length) (h : cloF nx D k B = some B) : diff (arnd nx B) D = B := by
  cases k with
  | zero => simp [cloF] at h
  | succ k =>
    rw [cloF] at h
    by_cases e : diff (arnd nx B) D = B
    · exact e
    · rw [if_neg e] at h
      refine ext_lt (diff_le _ _ _ (arnd_lt hx hB)) hB (fun i _ => ?_)
      cases h1 : B.testBit i with
      | true => exact step_sup hd i h1
      | false =>
        cases h2 : (diff (arnd nx B) D).testBit i with
        | false => rfl
        | true => rw [cloF_sup _ _ _ (disj_diff _ _) h i h2] at h1; cases h1
end Go.Proofs.YtbgpnkchbcgekaaDoor.Fi
end
section
namespace Go.Proofs.YtbgpnkchbcgekaaDoor.Fi
open Go.RowKit Go.Proofs.YtbgpnkchbcgekaaDoorW.PrintWords Go.Proofs.YtbgpnkchbcgekaaDoorW.PrintLast Go.Proofs.YtbgpnkchbcgekaaDoorW.PrintMore Wog
set_option linter.unusedVariables false
theorem set_bit (xs : List Nat) (i j a b : Nat) (hi : i < xs.length) : ((xs.set i (xs.getD i 0 ||| 2 ^ j)).getD a 0).testBit b = ((xs.getD a 0).testBit b || (decide (a = i) && decide (b = j))) := by
  rw [List.getD_eq_getElem?_getD, List.getD_eq_getElem?_getD, List.getElem?_set]
  by_cases h : i = a
  · subst h
    rw [if_pos rfl, if_pos hi]
    simp only [Option.getD_some]
    rw [Nat.testBit_or, testBit_two_pow, List.getD_eq_getElem?_getD]
    simp [eq_comm]
  · rw [if_neg h]
    have : decide (a = i) = false := decide_eq_false (fun e => h e.symm)
    rw [this]
    simp
theorem addS_bit {n : Nat} (xs : List Nat) (e : S42) (hl : xs.length = n) (he : okE n e) (a b : Nat) :
    ((addS xs e).getD a 0).testBit b = ((xs.getD a 0).testBit b || ((decide (a = e.f0.toNat) && decide (b = e.f1.toNat)) || (decide (a = e.f1.toNat) && decide (b = e.f0.toNat)))) := by
  obtain ⟨h1, h2, h3, h4, h5⟩ := he
  unfold addS
  simp only []
  rw [set_bit _ _ _ _ _ (by simp; omega), set_bit _ _ _ _ _ (by omega), Bool.or_assoc]
theorem near_bit {n : Nat} : ∀ (l : List S42), (∀ e ∈ l, okE n e) → ∀ a b, ((nearS n l).getD a 0).testBit b = true ↔ ∃ e ∈ l, (a = e.f0.toNat ∧ b = e.f1.toNat) ∨ (a = e.f1.toNat ∧ b = e.f0.toNat) := by
  have key : ∀ (l : List S42) (xs : List Nat), xs.length = n → (∀ e ∈ l, okE n e) → ∀ a b, ((l.foldl addS xs).getD a 0).testBit b = true ↔ (xs.getD a 0).testBit b = true ∨ ∃ e ∈ l, (a = e.f0.toNat ∧ b = e.f1.toNat) ∨ (a = e.f1.toNat ∧ b = e.f0.toNat) := by
    intro l
    induction l with
    | nil => intro xs _ _ a b; simp
    | cons e l ih =>
      intro xs hl he a b
      rw [List.foldl_cons, ih _ (by rw [addS_length, hl]) (fun x hx => he x (by simp [hx])) a b, addS_bit xs e hl (he e (by simp)) a b]
      simp only [Bool.or_eq_true, Bool.and_eq_true, decide_eq_true_eq, List.mem_cons, exists_eq_or_imp]
      constructor
      · rintro ((h | h) | h)
        · exact .inl h
        · exact .inr (.inl h)
        · exact .inr (.inr h)
      · rintro (h | h | h)
        · exact .inl (.inl h)
        · exact .inl (.inr h)
        · exact .inr h
  intro l he a b
  unfold nearS
  rw [key l _ (by simp) he a b]
  have : ((List.replicate n 0).getD a 0).testBit b = false := by
    rw [List.getD_eq_getElem?_getD, List.getElem?_replicate]
    split <;> simp
  rw [this]
  simp
theorem near_sym {n : Nat} {l : List S42} (he : ∀ e ∈ l, okE n e) : Sym (nearS n l) := by
  intro a b _ _
  rw [Bool.eq_iff_iff, near_bit l he, near_bit l he]
  constructor
  · rintro ⟨e, h1, h2⟩
    exact ⟨e, h1, by omega⟩
  · rintro ⟨e, h1, h2⟩
    exact ⟨e, h1, by omega⟩
theorem full64 {n : Nat} (hn : n ≤ 10) : wrap64 (shl .i64 1 (n : Int) - 1) = ((full n : Nat) : Int) := by
  rw [shl64 n (by omega)]
  have h1 : 2 ^ n ≤ 2 ^ 10 := Nat.pow_le_pow_right (by omega) hn
  have h2 := Nat.two_pow_pos n
  unfold full
  generalize 2 ^ n = x at *
  unfold wrap64
  omega
section
variable {nx : List Nat}
theorem lt1024 (hn : nx.length ≤ 10) {x : Nat} (h : x < 2 ^ nx.length) : x < 2 ^ 10 := Nat.lt_of_lt_of_le h (Nat.pow_le_pow_right (by omega) hn)
theorem ball_add (v : Nat) (i : Nat) : ball nx v (i + 1) = ball nx v i ||| nb nx (ball nx v i) := rfl
theorem rball_ev (hn : nx.length ≤ 10) (hx : ∀ x ∈ nx, x < 2 ^ nx.length) {v r : Nat} (hv : v < nx.length) (hr : r < 2 ^ 30) : Ev (fun k => woggleref06_Ball.f k (toI nx) (v : Int) (r : Int)) ((ball nx v r : Nat) : Int) := by
  have key : ∀ (d i : Nat), d < 2 ^ 30 → Ev (fun k => woggleref06_Ball.l0 k (toI nx) (d : Int) ((ball nx v i : Nat) : Int)) ((ball nx v (i + d) : Nat) : Int) := by
    intro d
    induction d with
    | zero =>
      intro i _
      refine Ev.step (f := fun _ => some ((ball nx v i : Nat) : Int)) (fun k => ?_) (Ev.now _)
      simp only [woggleref06_Ball.l0]
      rw [if_neg (by omega)]
    | succ d ih =>
      intro i hd
      have hb := ball_lt hx hv i
      refine Ev.step (f := fun k => (woggleref06_around.f k (toI nx) ((ball nx v i : Nat) : Int)).bind fun t => woggleref06_Ball.l0 k (toI nx) (wrap64 (((d + 1 : Nat) : Int) - 1)) (Go.bits .or .i64 ((ball nx v i : Nat) : Int) t)) (fun k => ?_) ?_
      · simp only [woggleref06_Ball.l0]
        rw [if_pos (by omega)]
      · refine Ev.bind (raround_ev nx _ hn hx hb) ?_
        have h1 := lt1024 hn hb
        have h2 := lt1024 hn (nb_lt hx (ball nx v i))
        rw [or64 _ _ (by omega) (by omega), show wrap64 (((d + 1 : Nat) : Int) - 1) = (d : Int) by unfold wrap64; omega, ← ball_add]
        have := ih (i + 1) (by omega)
        rwa [show i + 1 + d = i + (d + 1) by omega] at this
  have h := key r 0 hr
  refine Ev.congr (f := fun k => woggleref06_Ball.l0 k (toI nx) (r : Int) ((ball nx v 0 : Nat) : Int)) (fun k => ?_) (by simpa using h)
  unfold woggleref06_Ball.f
  rw [if_pos (by omega), shl64 v (by omega)]
  rfl
end
end Go.Proofs.YtbgpnkchbcgekaaDoor.Fi
end
section
namespace Go.Proofs.YtbgpnkchbcgekaaDoor.Fi
open Go.RowKit Go.Proofs.YtbgpnkchbcgekaaDoorW.PrintWords Go.Proofs.YtbgpnkchbcgekaaDoorW.PrintLast Go.Proofs.YtbgpnkchbcgekaaDoorW.PrintMore Wog
set_option linter.unusedVariables false
theorem lives_best : fire_Best.f 4 ([(⟨0, 1⟩ : S42), (⟨1, 2⟩ : S42), (⟨2, 3⟩ : S42)] : List (S42)) 1 = some (2, [2], 0) := by decide +kernel
theorem lives_play : fire_Play.f 4 ([(⟨0, 1⟩ : S42), (⟨1, 2⟩ : S42), (⟨2, 3⟩ : S42)] : List (S42)) 1 [2] = some ([[0]], 0) := by decide +kernel
theorem lives_burning : fire_Burning.f 4 ([(⟨0, 1⟩ : S42), (⟨1, 2⟩ : S42), (⟨2, 3⟩ : S42)] : List (S42)) = some ([1, 3], 0) := by decide +kernel
theorem lives_ev : Ev (fun k => wogglelaw06_lives.f k) true := by
  unfold wogglelaw06_lives.f
  simp only [Option.bind_some, lives_best, lives_play, lives_burning, if_true]
  refine Ev.bind (same_ev [2] (by simp)) ?_
  simp only [if_true]
  refine Ev.bind (sameLists_ev [[0]] (by simp) (by simp)) ?_
  simp only [if_true]
  refine Ev.bind (same_ev [1, 3] (by simp)) ?_
  simp only [if_true]
  exact Ev.now _
end Go.Proofs.YtbgpnkchbcgekaaDoor.Fi
end
section
namespace Go.Proofs.YtbgpnkchbcgekaaDoor.Fi
open Go.RowKit Go.Proofs.YtbgpnkchbcgekaaDoorW.PrintWords Go.Proofs.YtbgpnkchbcgekaaDoorW.PrintLast Go.Proofs.YtbgpnkchbcgekaaDoorW.PrintMore Wog
set_option linter.unusedVariables false
theorem GoodG.rows {n : Int} {l : List S42} (h : GoodG n l) : (∀ x ∈ nearS n.toNat l, x < 2 ^ (nearS n.toNat l).length) ∧ (nearS n.toNat l).length ≤ 10 ∧ 0 < (nearS n.toNat l).length ∧ n = ((nearS n.toNat l).length : Int) ∧ (nearS n.toNat l).length = n.toNat := by
  obtain ⟨h1, h2, h3, h4⟩ := h
  have hl := nearS_length n.toNat l
  refine ⟨by rw [hl]; exact nearS_lt h4, by omega, by omega, by omega, hl⟩
end Go.Proofs.YtbgpnkchbcgekaaDoor.Fi
end
section
namespace Go.Proofs.YtbgpnkchbcgekaaDoor.Fi
open Go.RowKit Go.Proofs.YtbgpnkchbcgekaaDoorW.PrintWords Go.Proofs.YtbgpnkchbcgekaaDoorW.PrintLast Go.Proofs.YtbgpnkchbcgekaaDoorW.PrintMore Wog
set_option linter.unusedVariables false
def tri : Nat → Nat
  | 0 => 0
  | i + 1 => tri i + i
theorem tri_le : ∀ i : Nat, i ≤ 10 → tri i ≤ 45 := by decide
theorem made_key (a1 : Int) (n : Nat) (hn10 : n ≤ 10) (hn0 : 1 ≤ n) : ∀ (d i : Nat) (l : List S42), i + d = n → (∀ e ∈ l, okE n e) → l.length ≤ tri i → ∃ l', (GoodG n l' ∧ l'.length ≤ 45) ∧ Ev (fun k => wogglelaw06_made.l0 k a1 (n : Int) l ((tri i : Nat) : Int) (i : Int)) ((n : Int), l') := by
  intro d
  induction d with
  | zero =>
    intro i l hi hl hlen
    have := tri_le i (by omega)
    refine ⟨l, ⟨⟨by omega, by omega, by omega, by rw [Int.toNat_natCast]; exact hl⟩, by omega⟩, Ev.step (f := fun _ => some ((n : Int), l)) (fun k => ?_) (Ev.now _)⟩
    simp only [wogglelaw06_made.l0]
    rw [if_neg (by omega)]
  | succ d ih =>
    intro i l hi hl hlen
    have htri := tri_le i (by omega)
    -- the inner loop
    have inner : ∀ (c j : Nat) (l : List S42), j + c = i → (∀ e ∈ l, okE n e) → l.length ≤ tri i + j → ∃ l', (GoodG n l' ∧ l'.length ≤ 45) ∧ Ev (fun k => wogglelaw06_made.l1 k a1 (n : Int) l ((tri i + j : Nat) : Int) (i : Int) (j : Int)) ((n : Int), l') := by
      intro c
      induction c with
      | zero =>
        intro j l hj hl hlen
        obtain rfl : j = i := by omega
        obtain ⟨l', h1, h2⟩ := ih (j + 1) l (by omega) hl (by show l.length ≤ tri j + j; exact hlen)
        have e : tri (j + 1) = tri j + j := rfl
        rw [e] at h2
        refine ⟨l', h1, Ev.step (fun k => ?_) h2⟩
        simp only [wogglelaw06_made.l1]
        rw [if_neg (by omega), wrapS (by omega)]
      | succ c ihc =>
        intro j l hj hl hlen
        have hadd : wrap64 (((tri i + j : Nat) : Int) + 1) = ((tri i + (j + 1) : Nat) : Int) := by unfold wrap64; omega
        by_cases hb : Go.bits .and .u64 (shr .u64 a1 ((tri i + j : Nat) : Int)) 1 = 1
        · obtain ⟨l', h1, h2⟩ := ihc (j + 1) (l ++ [(⟨(i : Int), (j : Int)⟩ : S42)]) (by omega) (fun e he => by
            rcases List.mem_append.1 he with he | he
            · exact hl e he
            · obtain rfl : e = (⟨(i : Int), (j : Int)⟩ : S42) := by simpa using he
              exact ⟨by show (0 : Int) ≤ i; omega, by show (0 : Int) ≤ j; omega, by show (i : Int) < n; omega, by show (j : Int) < n; omega, by show (i : Int) ≠ j; omega⟩) (by rw [List.length_append]; exact Nat.succ_le_succ hlen)
          refine ⟨l', h1, Ev.step (fun k => ?_) h2⟩
          simp only [wogglelaw06_made.l1]
          rw [if_pos (by omega), if_pos (by omega), if_pos hb, if_pos (by omega), hadd, wrapS (by omega)]
        · obtain ⟨l', h1, h2⟩ := ihc (j + 1) l (by omega) hl (by omega)
          refine ⟨l', h1, Ev.step (fun k => ?_) h2⟩
          simp only [wogglelaw06_made.l1]
          rw [if_pos (by omega), if_pos (by omega), if_neg hb, hadd, wrapS (by omega)]
    obtain ⟨l', h1, h2⟩ := inner i 0 l (by omega) hl (by omega)
    rw [Nat.add_zero, Int.natCast_zero] at h2
    refine ⟨l', h1, Ev.step (fun k => ?_) h2⟩
    simp only [wogglelaw06_made.l0]
    rw [if_pos (by omega)]
theorem made45_ev (a0 a1 : Int) (h0 : (Lit.int .u8 a0).wf = true) : ∃ (n : Int) (l : List S42), (GoodG n l ∧ l.length ≤ 45) ∧ Ev (fun k => wogglelaw06_made.f k a0 a1) (n, l) := by
  have hr : 0 ≤ a0 ∧ a0 ≤ 255 := by
    have h9 : (decide (IntKind.u8.min ≤ a0) && decide (a0 ≤ IntKind.u8.max)) = true := h0
    rw [Bool.and_eq_true, decide_eq_true_iff, decide_eq_true_iff] at h9
    have h8 : IntKind.u8.max = 255 := by kernel_rfl
    have h7 : IntKind.u8.min = 0 := by kernel_rfl
    rw [h8, h7] at h9
    exact h9
  obtain ⟨a, rfl⟩ := Int.eq_ofNat_of_zero_le hr.1
  have hn : wrap64 (Int.tmod (wrap64 (a : Int)) 10 + 1) = ((a % 10 + 1 : Nat) : Int) := by
    have h1 : wrap64 (a : Int) = (a : Int) := by unfold wrap64; omega
    rw [h1, Int.tmod_eq_emod_of_nonneg (by omega)]
    unfold wrap64
    omega
  obtain ⟨n, hnn⟩ : ∃ n, n = a % 10 + 1 := ⟨_, rfl⟩
  have hn10 : n ≤ 10 := by omega
  have hn0 : 1 ≤ n := by omega
  have key := made_key a1 n hn10 hn0
  obtain ⟨l', h1, h2⟩ := key n 0 [] (by omega) (by simp) (by simp)
  refine ⟨(n : Int), l', h1, ?_⟩
  unfold wogglelaw06_made.f
  have e : tri 0 = 0 := rfl
  rw [e, Int.natCast_zero] at h2
  simp only [hn, ← hnn]
  exact h2
theorem u8_range {x : Int} (h : (Lit.int .u8 x).wf = true) : 0 ≤ x ∧ x ≤ 255 := by
  have h9 : (decide (IntKind.u8.min ≤ x) && decide (x ≤ IntKind.u8.max)) = true := h
  rw [Bool.and_eq_true, decide_eq_true_iff, decide_eq_true_iff] at h9
  have h8 : IntKind.u8.max = 255 := by kernel_rfl
  have h7 : IntKind.u8.min = 0 := by kernel_rfl
  rw [h8, h7] at h9
  exact h9
end Go.Proofs.YtbgpnkchbcgekaaDoor.Fi
end
section
namespace Go.Proofs.YtbgpnkchbcgekaaDoor.Fi
open Go.RowKit Go.Proofs.YtbgpnkchbcgekaaDoorW.PrintWords Go.Proofs.YtbgpnkchbcgekaaDoorW.PrintLast Go.Proofs.YtbgpnkchbcgekaaDoorW.PrintMore Wog
set_option linter.unusedVariables false
def rbv (nx : List Nat) (k b : Nat) : List Int × Bool := match rbF nx k b with
  | some q => (toI q, true)
  | none => ([], false)
theorem mx_nat (a b : Nat) : mx (a : Int) (b : Int) = ((max a b : Nat) : Int) := by unfold mx; omega
section
variable {nx : List Nat}
theorem mostS_le (r : Nat) : mostS nx r ≤ 16 := by
  unfold mostS
  have : ∀ (l : List Nat) (m : Nat), m ≤ 16 → l.foldl (fun m v => max m (popc 16 (ball nx v r))) m ≤ 16 := by
    intro l
    induction l with
    | nil => intro m h; exact h
    | cons v l ih =>
      intro m h
      rw [List.foldl_cons]
      exact ih _ (Nat.max_le.2 ⟨h, popc_le16 _⟩)
  exact this _ 0 (by omega)
theorem roomS_le : ∀ k, roomS nx k ≤ 16 * k
  | 0 => by simp [roomS]
  | k + 1 => by rw [roomS_succ]; have := roomS_le k; have := mostS_le (nx := nx) k; omega
theorem rburn_most (hn : nx.length ≤ 10) (hx : ∀ x ∈ nx, x < 2 ^ nx.length) (K b r : Nat) (hr : r < 100) (a : Int) (res : List Int × Bool)
    (hend : Ev (fun k => woggleref06_burning.l0 k (toI nx) (K : Int) (b : Int) (nx.length : Int) (wrap64 (a + ((mostS nx r : Nat) : Int))) (wrap64 ((r : Int) + 1))) res) :
    Ev (fun k => woggleref06_burning.l1 k (toI nx) (K : Int) (b : Int) (nx.length : Int) a (r : Int) 0 0) res := by
  have key : ∀ (d v m : Nat), v + d = nx.length → ((List.range nx.length).drop v).foldl (fun m v => max m (popc 16 (ball nx v r))) m = mostS nx r → Ev (fun k => woggleref06_burning.l1 k (toI nx) (K : Int) (b : Int) (nx.length : Int) a (r : Int) (m : Int) (v : Int)) res := by
    intro d
    induction d with
    | zero =>
      intro v m hv hm
      rw [List.drop_eq_nil_of_le (by simp; omega)] at hm
      have hm' : m = mostS nx r := hm
      subst hm'
      refine Ev.step (fun k => ?_) hend
      simp only [woggleref06_burning.l1]
      rw [if_neg (by omega)]
    | succ d ih =>
      intro v m hv hm
      have hvn : v < nx.length := by omega
      rw [drop_range hvn, List.foldl_cons] at hm
      refine Ev.step (f := fun k => (woggleref06_Ball.f k (toI nx) (v : Int) (r : Int)).bind fun t => (woggleref06_Size.f k t).bind fun t2 => woggleref06_burning.l1 k (toI nx) (K : Int) (b : Int) (nx.length : Int) a (r : Int) (mx (m : Int) t2) ((v + 1 : Nat) : Int)) (fun k => ?_) ?_
      · simp only [woggleref06_burning.l1]
        rw [if_pos (by omega), wrapS (by omega)]
      · refine Ev.bind (rball_ev hn hx hvn (by omega)) ?_
        refine Ev.bind (rsize_ev _ (lt1024 hn (ball_lt hx hvn r))) ?_
        rw [mx_nat]
        exact ih (v + 1) _ (by omega) hm
  have h := key nx.length 0 0 (by omega) rfl
  rwa [Int.natCast_zero] at h
theorem rburn_room (hn : nx.length ≤ 10) (hx : ∀ x ∈ nx, x < 2 ^ nx.length) (K b : Nat) (hK : K < 90) (res : List Int × Bool)
    (hend : Ev (fun k => woggleref06_burning.l0 k (toI nx) (K : Int) (b : Int) (nx.length : Int) ((roomS nx K : Nat) : Int) (K : Int)) res) :
    Ev (fun k => woggleref06_burning.l0 k (toI nx) (K : Int) (b : Int) (nx.length : Int) 0 0) res := by
  have key : ∀ (d r : Nat), r + d = K → Ev (fun k => woggleref06_burning.l0 k (toI nx) (K : Int) (b : Int) (nx.length : Int) ((roomS nx r : Nat) : Int) (r : Int)) res := by
    intro d
    induction d with
    | zero =>
      intro r hr
      obtain rfl : r = K := by omega
      exact hend
    | succ d ih =>
      intro r hr
      refine Ev.step (f := fun k => woggleref06_burning.l1 k (toI nx) (K : Int) (b : Int) (nx.length : Int) ((roomS nx r : Nat) : Int) (r : Int) 0 0) (fun k => ?_) (rburn_most hn hx K b r (by omega) _ res ?_)
      · simp only [woggleref06_burning.l0]
        rw [if_pos (by omega)]
      · have h1 := roomS_le (nx := nx) r
        have h2 := mostS_le (nx := nx) r
        have e1 : wrap64 (((roomS nx r : Nat) : Int) + ((mostS nx r : Nat) : Int)) = ((roomS nx (r + 1) : Nat) : Int) := by rw [roomS_succ]; unfold wrap64; omega
        rw [e1, wrapS (by omega)]
        exact ih (r + 1) (by omega)
  have h := key K 0 (by omega)
  have e : roomS nx 0 = 0 := rfl
  rw [e, Int.natCast_zero] at h
  exact h
theorem rburning_ev (hn : nx.length ≤ 10) (hx : ∀ x ∈ nx, x < 2 ^ nx.length) : ∀ (K b : Nat), K < 90 → b < 2 ^ nx.length → Ev (fun k => woggleref06_burning.f k (toI nx) (K : Int) (b : Int)) (rbv nx K b) := by
  intro K
  induction K with
  | zero =>
    intro b _ hb
    refine Ev.step (f := fun _ => some ([], decide (b = full nx.length))) (fun k => ?_) ?_
    · simp only [woggleref06_burning.f]
      rw [if_pos (by rfl), toI_length, full64 hn]
      congr 2
      rw [Bool.eq_iff_iff]
      simp
      omega
    · unfold rbv
      rw [rbF]
      by_cases h : b = full nx.length
      · rw [if_pos h, decide_eq_true h]; exact Ev.now _
      · rw [if_neg h, decide_eq_false h]; exact Ev.now _
  | succ K ih =>
    intro b hK hb
    refine Ev.step (f := fun k => woggleref06_burning.l0 k (toI nx) ((K + 1 : Nat) : Int) (b : Int) (nx.length : Int) 0 0) (fun k => ?_) (rburn_room hn hx (K + 1) b hK _ ?_)
    · simp only [woggleref06_burning.f]
      rw [if_neg (by omega), toI_length]
    · have h1 := roomS_le (nx := nx) (K + 1)
      have hp : popc 16 b ≤ 16 := popc_le16 b
      have hw : wrap64 ((nx.length : Int) - ((popc 16 b : Nat) : Int)) = (nx.length : Int) - ((popc 16 b : Nat) : Int) := by unfold wrap64; omega
      refine Ev.step (f := fun k => (woggleref06_Size.f k (b : Int)).bind fun t => if wrap64 ((nx.length : Int) - t) > ((roomS nx (K + 1) : Nat) : Int) then some (([] : List Int), false) else woggleref06_burning.l2 k (toI nx) ((K + 1 : Nat) : Int) (b : Int) (nx.length : Int) 0) (fun k => ?_) ?_
      · simp only [woggleref06_burning.l0]
        rw [if_neg (by omega)]
      · refine Ev.bind (rsize_ev b (lt1024 hn hb)) ?_
        simp only [hw]
        by_cases hroom : (roomS nx (K + 1) : Int) < (nx.length : Int) - ((popc 16 b : Nat) : Int)
        · have hgt : (nx.length : Int) - ((popc 16 b : Nat) : Int) > ((roomS nx (K + 1) : Nat) : Int) := hroom
          simp only [if_pos hgt]
          unfold rbv
          rw [rbF, if_pos hroom]
          exact Ev.now _
        · have hgt : ¬ (nx.length : Int) - ((popc 16 b : Nat) : Int) > ((roomS nx (K + 1) : Nat) : Int) := hroom
          simp only [if_neg hgt]
          have e0 : rbF nx (K + 1) b = ((List.range nx.length).drop 0).findSome? fun v => (rbF nx K (b ||| ball nx v K)).map fun l => v :: l := by rw [rbF, if_neg hroom]; rfl
          have key : ∀ (d v : Nat), v + d = nx.length → rbF nx (K + 1) b = (((List.range nx.length).drop v).findSome? fun v => (rbF nx K (b ||| ball nx v K)).map fun l => v :: l) → Ev (fun k => woggleref06_burning.l2 k (toI nx) ((K + 1 : Nat) : Int) (b : Int) (nx.length : Int) (v : Int)) (rbv nx (K + 1) b) := by
            intro d
            induction d with
            | zero =>
              intro v hv hq
              rw [List.drop_eq_nil_of_le (by simp; omega)] at hq
              have hq' : rbF nx (K + 1) b = none := hq
              unfold rbv
              rw [hq']
              refine Ev.step (f := fun _ => some ([], false)) (fun k => ?_) (Ev.now _)
              simp only [woggleref06_burning.l2]
              rw [if_neg (by omega)]
            | succ d ihd =>
              intro v hv hq
              have hvn : v < nx.length := by omega
              rw [drop_range hvn, List.findSome?_cons] at hq
              have hbl := ball_lt hx hvn K
              have hbb := Nat.or_lt_two_pow hb hbl
              have hih := ih (b ||| ball nx v K) (by omega) hbb
              refine Ev.step (f := fun k => (woggleref06_Ball.f k (toI nx) (v : Int) (K : Int)).bind fun t421 => (woggleref06_burning.f k (toI nx) (K : Int) (Go.bits .or .i64 (b : Int) t421)).bind fun bt422 => (if bt422.2 = true then ((some (([(v : Int)] : List Int) : List Int)).bind fun y426 => (if y426.length + bt422.1.length < 17592186044416 then (some ((y426 ++ bt422.1), true)) else (none))) else (woggleref06_burning.l2 k (toI nx) ((K + 1 : Nat) : Int) (b : Int) (nx.length : Int) ((v + 1 : Nat) : Int)))) (fun k => ?_) ?_
              · simp only [woggleref06_burning.l2]
                rw [if_pos (by omega), wrapS (by omega), show wrap64 (((K + 1 : Nat) : Int) - 1) = (K : Int) by unfold wrap64; omega]
              · refine Ev.bind (rball_ev hn hx hvn (by omega)) ?_
                rw [or64 _ _ (by have := lt1024 hn hb; omega) (by have := lt1024 hn hbl; omega)]
                refine Ev.bind hih ?_
                cases hr : rbF nx K (b ||| ball nx v K) with
                | none =>
                  rw [hr] at hq
                  have e1 : rbv nx K (b ||| ball nx v K) = ([], false) := by unfold rbv; rw [hr]
                  rw [e1]
                  simp only [Bool.false_eq_true, if_false]
                  exact ihd (v + 1) (by omega) hq
                | some p =>
                  rw [hr] at hq
                  have hq' : rbF nx (K + 1) b = some (v :: p) := hq
                  have e1 : rbv nx K (b ||| ball nx v K) = (toI p, true) := by unfold rbv; rw [hr]
                  have e2 : rbv nx (K + 1) b = (toI (v :: p), true) := by unfold rbv; rw [hq']
                  have hpl := (rbF_sound _ _ _ hr).1
                  rw [e1, e2]
                  have hlen : [(v : Int)].length + (toI p).length < 17592186044416 := by rw [toI_length, hpl]; simp; omega
                  simp only [if_true, Option.bind_some, if_pos hlen]
                  exact Ev.now _
          have h := key nx.length 0 (by omega) e0
          rwa [Int.natCast_zero] at h
theorem rBurning_ev (hn : nx.length ≤ 10) (hx : ∀ x ∈ nx, x < 2 ^ nx.length) {q : List Nat} (h1 : 1 ≤ q.length) (hl : q.length ≤ 10) (hq : rbF nx q.length 0 = some q) (hno : ∀ j, 1 ≤ j → j < q.length → rbF nx j 0 = none) : Ev (fun k => woggleref06_Burning.f k (toI nx)) (toI q) := by
  have key : ∀ (d j : Nat), j + d = q.length → 1 ≤ j → Ev (fun k => woggleref06_Burning.l0 k (toI nx) (j : Int)) (toI q) := by
    intro d
    induction d with
    | zero =>
      intro j hj _
      obtain rfl : j = q.length := by omega
      refine Ev.step (f := fun k => (woggleref06_burning.f k (toI nx) (q.length : Int) ((0 : Nat) : Int)).bind fun bt432 => if bt432.2 = true then some bt432.1 else woggleref06_Burning.l0 k (toI nx) (wrap64 ((q.length : Int) + 1))) (fun k => by simp only [woggleref06_Burning.l0]; rfl) ?_
      refine Ev.bind (rburning_ev hn hx q.length 0 (by omega) (Nat.two_pow_pos _)) ?_
      have e1 : rbv nx q.length 0 = (toI q, true) := by unfold rbv; rw [hq]
      rw [e1]
      simp only [if_true]
      exact Ev.now _
    | succ d ih =>
      intro j hj hj1
      refine Ev.step (f := fun k => (woggleref06_burning.f k (toI nx) (j : Int) ((0 : Nat) : Int)).bind fun bt432 => if bt432.2 = true then some bt432.1 else woggleref06_Burning.l0 k (toI nx) ((j + 1 : Nat) : Int)) (fun k => by simp only [woggleref06_Burning.l0]; rw [wrapS (by omega)]; rfl) ?_
      refine Ev.bind (rburning_ev hn hx j 0 (by omega) (Nat.two_pow_pos _)) ?_
      have e1 : rbv nx j 0 = ([], false) := by unfold rbv; rw [hno j hj1 (by omega)]
      rw [e1]
      simp only [Bool.false_eq_true, if_false]
      exact ih (j + 1) (by omega) (by omega)
  have h := key (q.length - 1) 1 (by omega) (by omega)
  exact h
end
end Go.Proofs.YtbgpnkchbcgekaaDoor.Fi
end
section
namespace Go.Proofs.YtbgpnkchbcgekaaDoor.Fi
open Go.RowKit Go.Proofs.YtbgpnkchbcgekaaDoorW.PrintWords Go.Proofs.YtbgpnkchbcgekaaDoorW.PrintLast Go.Proofs.YtbgpnkchbcgekaaDoorW.PrintMore Wog
set_option linter.unusedVariables false
theorem GoodG.sym {n : Int} {l : List S42} (h : GoodG n l) : Sym (nearS n.toNat l) := near_sym h.2.2.2
theorem burn_spec {n : Int} {l : List S42} (h : GoodG n l) : ∃ q : List Nat, fire_Burning.f n l = some (toI q, 0) ∧ 1 ≤ q.length ∧ q.length ≤ (nearS n.toNat l).length ∧ (∀ v ∈ q, v < (nearS n.toNat l).length) ∧ covS (nearS n.toNat l) q 0 = full (nearS n.toNat l).length ∧ (∀ p : List Nat, 1 ≤ p.length → (∀ v ∈ p, v < (nearS n.toNat l).length) → covS (nearS n.toNat l) p 0 = full (nearS n.toNat l).length → q.length ≤ p.length) ∧ Ev (fun k => woggleref06_Burning.f k (toI (nearS n.toNat l))) (toI q) := by
  obtain ⟨hx, hn10, hn0, hnn, hnl⟩ := h.rows
  obtain ⟨q, h1, h2, h3, h4, h5, h6, h7, h8⟩ := burnS_spec hn10 hx h.sym hn0
  refine ⟨q, ?_, h2, h3, h4, h5, h6, rBurning_ev hn10 hx h2 (by omega) h7 h8⟩
  unfold fire_Burning.f
  rw [if_pos h, h1]
  rfl
end Go.Proofs.YtbgpnkchbcgekaaDoor.Fi
end
section
namespace Go.Proofs.YtbgpnkchbcgekaaDoor.Fi
open Go.RowKit Go.Proofs.YtbgpnkchbcgekaaDoorW.PrintWords Go.Proofs.YtbgpnkchbcgekaaDoorW.PrintLast Go.Proofs.YtbgpnkchbcgekaaDoorW.PrintMore Wog
set_option linter.unusedVariables false
theorem nameR_lt {k x0 x2 v : Nat} (hk : 1 ≤ k) : nameR k x0 x2 v < k := Nat.mod_lt _ (by omega)
/-- The vertex that has this name. -/
def backR (k x0 x2 w : Nat) : Nat := if x2 % 2 = 1 then k - 1 - (w + (k - x0 % k)) % k else (w + (k - x0 % k)) % k
theorem backR_lt {k x0 x2 w : Nat} (hk : 1 ≤ k) : backR k x0 x2 w < k := by
  unfold backR
  have := Nat.mod_lt (w + (k - x0 % k)) (show k > 0 by omega)
  split <;> omega
theorem turn_back {k x0 u : Nat} (hu : u < k) : ((u + x0) % k + (k - x0 % k)) % k = u := by
  have hr := Nat.mod_lt x0 (show k > 0 by omega)
  rw [Nat.add_mod u x0, Nat.mod_eq_of_lt hu]
  generalize x0 % k = r at hr ⊢
  rcases Nat.lt_or_ge (u + r) k with h | h
  · rw [Nat.mod_eq_of_lt h, show u + r + (k - r) = u + k by omega, Nat.add_mod_right, Nat.mod_eq_of_lt hu]
  · rw [Nat.mod_eq_sub_mod h, Nat.mod_eq_of_lt (show u + r - k < k by omega), show u + r - k + (k - r) = u by omega, Nat.mod_eq_of_lt hu]
theorem back_turn {k x0 w : Nat} (hw : w < k) : ((w + (k - x0 % k)) % k + x0) % k = w := by
  have hr := Nat.mod_lt x0 (show k > 0 by omega)
  rw [Nat.add_mod, Nat.mod_mod]
  generalize x0 % k = r at hr ⊢
  rcases Nat.lt_or_ge (w + (k - r)) k with h | h
  · rw [Nat.mod_eq_of_lt h, show w + (k - r) + r = w + k by omega, Nat.add_mod_right, Nat.mod_eq_of_lt hw]
  · rw [Nat.mod_eq_sub_mod h, Nat.mod_eq_of_lt (show w + (k - r) - k < k by omega), show w + (k - r) - k + r = w by omega, Nat.mod_eq_of_lt hw]
theorem back_name {k x0 x2 v : Nat} (hv : v < k) : backR k x0 x2 (nameR k x0 x2 v) = v := by
  unfold backR nameR
  split
  · rw [turn_back (by omega)]; omega
  · rw [turn_back hv]
theorem name_back {k x0 x2 w : Nat} (hw : w < k) : nameR k x0 x2 (backR k x0 x2 w) = w := by
  have := Nat.mod_lt (w + (k - x0 % k)) (show k > 0 by omega)
  unfold backR nameR
  split
  · rw [show k - 1 - (k - 1 - (w + (k - x0 % k)) % k) = (w + (k - x0 % k)) % k by omega, back_turn hw]
  · rw [back_turn hw]
section
variable {nx nx' : List Nat} {f : Nat → Nat}
theorem ball_map (hl : nx.length = nx'.length) (hf : ∀ u, u < nx.length → f u < nx.length) (h : ∀ a b, a < nx.length → (nx.getD a 0).testBit b = true → (nx'.getD (f a) 0).testBit (f b) = true) (v : Nat) : ∀ r i, (ball nx v r).testBit i = true → (ball nx' (f v) r).testBit (f i) = true
  | 0, i, hi => by
    rw [ball, Nat.testBit_two_pow, decide_eq_true_iff] at hi
    subst hi
    rw [ball, Nat.testBit_two_pow, decide_eq_true_iff]
  | r + 1, i, hi => by
    rw [ball, arnd_bit_iff] at hi ⊢
    rcases hi with hi | ⟨a, ha, h1, h2⟩
    · exact .inl (ball_map hl hf h v r i hi)
    · exact .inr ⟨f a, by rw [← hl]; exact hf a ha, ball_map hl hf h v r a h1, h a i ha h2⟩
theorem cov_map (hl : nx.length = nx'.length) (hf : ∀ u, u < nx.length → f u < nx.length) (h : ∀ a b, a < nx.length → (nx.getD a 0).testBit b = true → (nx'.getD (f a) 0).testBit (f b) = true) : ∀ (q : List Nat) (b c : Nat), (∀ i, b.testBit i = true → c.testBit (f i) = true) → ∀ i, (covS nx q b).testBit i = true → (covS nx' (q.map f) c).testBit (f i) = true := by
  intro q
  induction q with
  | nil => intro b c hbc; exact hbc
  | cons v q ih =>
    intro b c hbc
    refine ih _ _ (fun i hi => ?_)
    rw [Nat.testBit_or, Bool.or_eq_true] at hi ⊢
    rcases hi with hi | hi
    · exact .inl (hbc i hi)
    · rw [List.length_map]
      exact .inr (ball_map hl hf h v _ i hi)
/-- Renamed, a sequence that covers still covers. -/
theorem full_map (hl : nx.length = nx'.length) (hx' : ∀ x ∈ nx', x < 2 ^ nx'.length) (hf : ∀ u, u < nx.length → f u < nx.length) (hon : ∀ w, w < nx.length → ∃ u, u < nx.length ∧ f u = w) (h : ∀ a b, a < nx.length → (nx.getD a 0).testBit b = true → (nx'.getD (f a) 0).testBit (f b) = true) (q : List Nat) (hq : ∀ v ∈ q, v < nx.length) (hc : covS nx q 0 = full nx.length) : covS nx' (q.map f) 0 = full nx'.length := by
  refine full_of_sub (covS_lt hx' _ 0 (fun v hv => ?_) (Nat.two_pow_pos _)) (fun i hi => ?_)
  · obtain ⟨u, hu, rfl⟩ := List.mem_map.1 hv
    rw [← hl]
    exact hf u (hq u hu)
  · rw [full_test, decide_eq_true_iff] at hi
    obtain ⟨u, hu, rfl⟩ := hon i (by omega)
    refine cov_map hl hf h q 0 0 (fun i hi => by simp at hi) u ?_
    rw [hc, full_test]
    exact decide_eq_true hu
end
theorem other_good {kk x0 x2 : Nat} {l : List S42} (hg : GoodG kk l) (hk : 1 ≤ kk) : GoodG kk (otherR kk x0 x2 l) := by
  obtain ⟨h1, h2, h3, h4⟩ := hg
  refine ⟨h1, h2, by rw [otherR, List.length_map]; exact h3, fun e he => ?_⟩
  obtain ⟨p, hp, rfl⟩ := List.mem_map.1 he
  obtain ⟨q1, q2, q3, q4, q5⟩ := h4 p hp
  rw [Int.toNat_natCast] at q3 q4 ⊢
  have a1 : nameR kk x0 x2 p.f0.toNat < kk := nameR_lt hk
  have a2 : nameR kk x0 x2 p.f1.toNat < kk := nameR_lt hk
  refine ⟨Int.natCast_nonneg _, Int.natCast_nonneg _, by show ((nameR kk x0 x2 p.f0.toNat : Nat) : Int) < _; omega, by show ((nameR kk x0 x2 p.f1.toNat : Nat) : Int) < _; omega, fun h => ?_⟩
  have h' : nameR kk x0 x2 p.f0.toNat = nameR kk x0 x2 p.f1.toNat := Int.ofNat.inj h
  have h6 := congrArg (backR kk x0 x2) h'
  rw [back_name (by omega), back_name (by omega)] at h6
  omega
theorem renamed_facts (kk x0 x1 x2 : Nat) (l : List S42) (hk : 1 ≤ kk) (hg : GoodG kk l) : ∃ (s : Int) (q1 q2 u1 u2 : List Int),
    fire_Best.f kk l ((x1 % kk : Nat) : Int) = some (s, q1, 0) ∧ fire_Best.f kk (otherR kk x0 x2 l) ((nameR kk x0 x2 (x1 % kk) : Nat) : Int) = some (s, q2, 0) ∧
    fire_Burning.f kk l = some (u1, 0) ∧ fire_Burning.f kk (otherR kk x0 x2 l) = some (u2, 0) ∧ u1.length = u2.length := by
  obtain ⟨hx, hn10, hn0, hnn, hnl⟩ := hg.rows
  have hgm := other_good (x0 := x0) (x2 := x2) hg hk
  obtain ⟨hxm, hnm10, hnm0, hnnm, hnlm⟩ := hgm.rows
  obtain ⟨nx, hnx⟩ : ∃ nx, nx = nearS ((kk : Int)).toNat l := ⟨_, rfl⟩
  obtain ⟨ny, hny⟩ : ∃ ny, ny = nearS ((kk : Int)).toNat (otherR kk x0 x2 l) := ⟨_, rfl⟩
  have hkx : nx.length = kk := by rw [hnx]; omega
  have hky : ny.length = kk := by rw [hny]; omega
  have hadj : ∀ u v, u < nx.length → (nx.getD u 0).testBit v = true → (ny.getD (nameR kk x0 x2 u) 0).testBit (nameR kk x0 x2 v) = true := by
    intro u v _ huv
    rw [hnx, near_bit l hg.2.2.2] at huv
    rw [hny, near_bit _ hgm.2.2.2]
    obtain ⟨e, he, h⟩ := huv
    refine ⟨_, List.mem_map.2 ⟨e, he, rfl⟩, ?_⟩
    show (_ = Int.toNat ((nameR kk x0 x2 e.f0.toNat : Nat) : Int) ∧ _ = Int.toNat ((nameR kk x0 x2 e.f1.toNat : Nat) : Int)) ∨ (_ = Int.toNat ((nameR kk x0 x2 e.f1.toNat : Nat) : Int) ∧ _ = Int.toNat ((nameR kk x0 x2 e.f0.toNat : Nat) : Int))
    rw [Int.toNat_natCast, Int.toNat_natCast]
    rcases h with ⟨h1, h2⟩ | ⟨h1, h2⟩
    · exact .inl ⟨by rw [h1], by rw [h2]⟩
    · exact .inr ⟨by rw [h1], by rw [h2]⟩
  have hback : ∀ u v, u < ny.length → (ny.getD u 0).testBit v = true → (nx.getD (backR kk x0 x2 u) 0).testBit (backR kk x0 x2 v) = true := by
    intro u v _ huv
    rw [hny, near_bit _ hgm.2.2.2] at huv
    rw [hnx, near_bit l hg.2.2.2]
    obtain ⟨e', he', h⟩ := huv
    obtain ⟨e, he, rfl⟩ := List.mem_map.1 he'
    obtain ⟨q1, q2, q3, q4, q5⟩ := hg.2.2.2 e he
    rw [Int.toNat_natCast] at q3 q4
    refine ⟨e, he, ?_⟩
    have h' : (u = nameR kk x0 x2 e.f0.toNat ∧ v = nameR kk x0 x2 e.f1.toNat) ∨ (u = nameR kk x0 x2 e.f1.toNat ∧ v = nameR kk x0 x2 e.f0.toNat) := by
      have h2 : (u = Int.toNat ((nameR kk x0 x2 e.f0.toNat : Nat) : Int) ∧ v = Int.toNat ((nameR kk x0 x2 e.f1.toNat : Nat) : Int)) ∨ (u = Int.toNat ((nameR kk x0 x2 e.f1.toNat : Nat) : Int) ∧ v = Int.toNat ((nameR kk x0 x2 e.f0.toNat : Nat) : Int)) := h
      rwa [Int.toNat_natCast, Int.toNat_natCast] at h2
    rcases h' with ⟨h1, h2⟩ | ⟨h1, h2⟩
    · exact .inl ⟨by rw [h1, back_name (by omega)], by rw [h2, back_name (by omega)]⟩
    · exact .inr ⟨by rw [h1, back_name (by omega)], by rw [h2, back_name (by omega)]⟩
  have hx1 : x1 % kk < kk := Nat.mod_lt _ (by omega)
  have hf2 : nameR kk x0 x2 (x1 % kk) < kk := nameR_lt hk
  have hbl := bestR_is (f := ((x1 % kk : Nat) : Int)) hg (by omega) (by omega)
  have hbm := bestR_is (f := ((nameR kk x0 x2 (x1 % kk) : Nat) : Int)) hgm (by omega) (by omega)
  have hB : fire_Best.f kk l ((x1 % kk : Nat) : Int) = some ((bestR kk l ((x1 % kk : Nat) : Int)).1, (bestR kk l ((x1 % kk : Nat) : Int)).2, 0) := by unfold fire_Best.f; rw [if_pos ⟨hg, by omega, by omega⟩]
  have hBm : fire_Best.f kk (otherR kk x0 x2 l) ((nameR kk x0 x2 (x1 % kk) : Nat) : Int) = some ((bestR kk (otherR kk x0 x2 l) ((nameR kk x0 x2 (x1 % kk) : Nat) : Int)).1, (bestR kk (otherR kk x0 x2 l) ((nameR kk x0 x2 (x1 % kk) : Nat) : Int)).2, 0) := by unfold fire_Best.f; rw [if_pos ⟨hgm, by omega, by omega⟩]
  obtain ⟨q, b1, b2, b3, b4, b5, b6, _⟩ := burn_spec hg
  obtain ⟨q', c1, c2, c3, c4, c5, c6, _⟩ := burn_spec hgm
  rw [← hnx] at hx hn10 hbl b3 b4 b5 b6
  rw [← hny] at hxm hnm10 hbm c3 c4 c5 c6
  rw [Int.toNat_natCast] at hbl hbm
  have hS1 : Sim ny nx (fun u => u < nx.length) (nameR kk x0 x2) :=
    ⟨fun u hu => ⟨hu, by rw [hky]; exact nameR_lt hk⟩, fun u v hu hv huv => by have := congrArg (backR kk x0 x2) huv; rwa [back_name (by omega), back_name (by omega)] at this, fun u v hu huv => ⟨row_lt hx huv, hadj u v hu huv⟩⟩
  have hS2 : Sim nx ny (fun u => u < ny.length) (backR kk x0 x2) :=
    ⟨fun u hu => ⟨hu, by rw [hkx]; exact backR_lt hk⟩, fun u v hu hv huv => by have := congrArg (nameR kk x0 x2) huv; rwa [name_back (by omega), name_back (by omega)] at this, fun u v hu huv => ⟨row_lt hxm huv, hback u v hu huv⟩⟩
  have hle1 := hS1.best hnm10 hn10 hxm hx (g' := x1 % kk) (by omega) (k := 30) (k' := 30) hbm hbl
  have hle2 := hS2.best hn10 hnm10 hx hxm (g' := nameR kk x0 x2 (x1 % kk)) (by omega) (k := 30) (k' := 30) (by rw [back_name hx1]; exact hbl) hbm
  have hs : (bestR kk l ((x1 % kk : Nat) : Int)).1 = (bestR kk (otherR kk x0 x2 l) ((nameR kk x0 x2 (x1 % kk) : Nat) : Int)).1 := by rw [hkx, hky] at hle1 hle2; omega
  have hlq : q'.length ≤ (q.map (nameR kk x0 x2)).length := by
    refine c6 _ (by rw [List.length_map]; exact b2) (fun v hv => ?_) ?_
    · obtain ⟨u, hu, rfl⟩ := List.mem_map.1 hv
      rw [hky]
      exact nameR_lt hk
    · exact full_map (by omega) hxm (fun u hu => by rw [hkx]; exact nameR_lt hk) (fun w hw => ⟨backR kk x0 x2 w, by rw [hkx]; exact backR_lt hk, name_back (by omega)⟩) hadj q b4 b5
  have hlq' : q.length ≤ (q'.map (backR kk x0 x2)).length := by
    refine b6 _ (by rw [List.length_map]; exact c2) (fun v hv => ?_) ?_
    · obtain ⟨u, hu, rfl⟩ := List.mem_map.1 hv
      rw [hkx]
      exact backR_lt hk
    · exact full_map (by omega) hx (fun u hu => by rw [hky]; exact backR_lt hk) (fun w hw => ⟨nameR kk x0 x2 w, by rw [hky]; exact nameR_lt hk, back_name (by omega)⟩) hback q' c4 c5
  rw [List.length_map] at hlq hlq'
  rw [← hs] at hBm
  exact ⟨_, _, _, _, _, hB, hBm, b1, c1, by rw [toI_length, toI_length]; omega⟩
theorem renamed_all (a0 a1 x0 x1 x2 : Int) (h0 : (Lit.int .u8 a0).wf = true) (_h1 : (Lit.int .u64 a1).wf = true) (hx0 : (Lit.int .u8 x0).wf = true) (hx1 : (Lit.int .u8 x1).wf = true) (hx2 : (Lit.int .u8 x2).wf = true) (W : World) (hT : TabIn W) :
    Calls Tryd.prog 5 #[.int .u8 a0, .int .u64 a1, .agg #[.int .u8 x0, .int .u8 x1, .int .u8 x2]] W fun e w' => e = .returned (.bool true) ∧ Below W.heap.size W w' := by
  obtain ⟨n, l, ⟨hg, hl45⟩, K1, hm⟩ := made45_ev a0 a1 h0
  obtain ⟨K2, hv⟩ := lives_ev
  obtain ⟨kk, rfl⟩ := Int.eq_ofNat_of_zero_le (show 0 ≤ n by have := hg.1; omega)
  have hr0 := u8_range hx0
  have hr1 := u8_range hx1
  have hr2 := u8_range hx2
  obtain ⟨y0, rfl⟩ := Int.eq_ofNat_of_zero_le hr0.1
  obtain ⟨y1, rfl⟩ := Int.eq_ofNat_of_zero_le hr1.1
  obtain ⟨y2, rfl⟩ := Int.eq_ofNat_of_zero_le hr2.1
  have hk1 : 1 ≤ kk := by have := hg.1; omega
  have hk10 : kk ≤ 10 := by have := hg.2.1; omega
  obtain ⟨s, q1, q2, u1, u2, e1, e2, e3, e4, e5⟩ := renamed_facts kk y0 y1 y2 l hk1 hg
  exact renamed_calls (max K1 K2) a0 a1 y0 y1 y2 (by omega) (by omega) (by omega) kk l W hT hk1 hk10 (by omega) hg (hm _ (Nat.le_max_left _ _)) s q1 q2 u1 u2 e1 e2 e3 e4 e5 (hv _ (Nat.le_max_right _ _))
end Go.Proofs.YtbgpnkchbcgekaaDoor.Fi
end
