/- Texts of this claim, joined: P5, P7, P8, L1, L2, L3, L4, L5, L6, L9, L10 -/
import Derived.Test.YtbgpnkchbcgekaaDoorQFzP4
import Derived.Test.YtbgpnkchbcgekaaDoorQFzFi0
import Derived.Test.YtbgpnkchbcgekaaDoorQFzFi1
import Derived.Test.YtbgpnkchbcgekaaDoorQFzFi3
import Derived.Test.YtbgpnkchbcgekaaDoorQFzHc2
import Derived.Test.YtbgpnkchbcgekaaDoorQFzHbr
import Derived.Test.YtbgpnkchbcgekaaDoorQFzS8
import Derived.Test.YtbgpnkchbcgekaaDoorQFzFi6
import Derived.Test.YtbgpnkchbcgekaaDoorQFzFi7
import Derived.Test.YtbgpnkchbcgekaaDoorQFzFi9
import Derived.Test.YtbgpnkchbcgekaaDoorQFzFi14
import Derived.Test.YtbgpnkchbcgekaaDoorQFzFi5
import Derived.Test.YtbgpnkchbcgekaaDoorQFzHe
import Derived.Test.YtbgpnkchbcgekaaDoorQFzR0
import Derived.Test.YtbgpnkchbcgekaaDoorQFzHbu
import Derived.Test.YtbgpnkchbcgekaaDoorQFzHtr
import Derived.Deep.LoopGhost
import Derived.Outline
import Derived.Test.YtbgpnkchbcgekaaDoorQFzHgr
section
namespace Go.Proofs.YtbgpnkchbcgekaaDoor.Fi
open Go.RowKit Go.Proofs.YtbgpnkchbcgekaaDoorW.PrintWords Go.Proofs.YtbgpnkchbcgekaaDoorW.PrintLast Go.Proofs.YtbgpnkchbcgekaaDoorW.PrintMore Wog
set_option linter.unusedVariables false
theorem lexLt_irr : ∀ l : List Int, lexLt l l = false
  | [] => rfl
  | a :: l => by rw [lexLt, if_pos rfl]; exact lexLt_irr l
theorem before_ev (l m : List Int) (hl : l.length < 2 ^ 30) : Ev (fun k => woggleref01_Before.f k l m) (lexLt l m) := by
  have key : ∀ (a b p q : List Int), p.length = q.length → p.length + a.length < 2 ^ 30 → Ev (fun k => woggleref01_Before.l0 k (p ++ a) (q ++ b) (p.length : Int)) (lexLt a b) := by
    intro a
    induction a with
    | nil =>
      intro b p q hpq hpl
      refine Ev.step (f := fun k => woggleref01_Before.j1 k (p ++ []) (q ++ b) (p.length : Int) false) (fun k => ?_) ?_
      · simp only [woggleref01_Before.l0]
        rw [if_neg (by simp)]
      · refine Ev.step (f := fun _ => some (lexLt [] b)) (fun k => ?_) (Ev.now _)
        simp only [woggleref01_Before.j1]
        rw [if_neg (by simp)]
        cases b with
        | nil => simp [lexLt, hpq]
        | cons y b => simp [lexLt, hpq]; omega
    | cons x a ih =>
      intro b p q hpq hpl
      cases b with
      | nil =>
        refine Ev.step (f := fun k => woggleref01_Before.j1 k (p ++ x :: a) (q ++ []) (p.length : Int) false) (fun k => ?_) ?_
        · simp only [woggleref01_Before.l0]
          rw [if_pos (by simp; omega)]
          congr 1
          simp [hpq]
        · refine Ev.step (f := fun _ => some (lexLt (x :: a) [])) (fun k => ?_) (Ev.now _)
          simp only [woggleref01_Before.j1]
          rw [if_neg (by simp)]
          simp [lexLt, hpq]; omega
      | cons y b =>
        have e0 : rd (p ++ x :: a) (p.length : Int) = x := by unfold rd; simp [List.getD_eq_getElem?_getD]
        have e1 : rd (q ++ y :: b) (p.length : Int) = y := by rw [hpq]; unfold rd; simp [List.getD_eq_getElem?_getD]
        refine Ev.step (f := fun k => woggleref01_Before.j1 k (p ++ x :: a) (q ++ y :: b) (p.length : Int) true) (fun k => ?_) ?_
        · simp only [woggleref01_Before.l0]
          rw [if_pos (by simp; omega)]
          congr 1
          simp [hpq]; omega
        · by_cases hxy : x = y
          · subst hxy
            have ih' := ih b (p ++ [x]) (q ++ [x]) (by simp [hpq]) (by simp at hpl ⊢; omega)
            refine Ev.step (f := fun k => woggleref01_Before.l0 k (p ++ x :: a) (q ++ x :: b) ((p ++ [x]).length : Int)) (fun k => ?_) ?_
            · simp only [woggleref01_Before.j1]
              rw [if_pos trivial, if_pos (by omega), if_pos (by simp; omega), if_pos (by rw [hpq]; simp; omega), e0, e1, if_pos rfl, wrapS (by simp at hpl; omega)]
              simp
            · rw [lexLt, if_pos rfl]
              simpa using ih'
          · refine Ev.step (f := fun _ => some (decide (x < y))) (fun k => ?_) ?_
            · simp only [woggleref01_Before.j1]
              rw [if_pos trivial, if_pos (by omega), if_pos (by simp; omega), if_pos (by rw [hpq]; simp; omega), e0, e1, if_neg hxy]
            · rw [lexLt, if_neg hxy]; exact Ev.now _
  exact key l m [] [] rfl (by simpa using hl)
theorem same_ev (l : List Int) (hl : l.length < 2 ^ 30) : Ev (fun k => woggleref01_Same.f k l l) true := by
  unfold woggleref01_Same.f
  refine Ev.bind (before_ev l l hl) ?_
  simp only [lexLt_irr, Bool.false_eq_true, if_false]
  refine Ev.bind (before_ev l l hl) ?_
  simp only [lexLt_irr]
  exact Ev.now _
theorem sameLists_ev (l : List (List Int)) (hl : l.length < 2 ^ 30) (hl2 : ∀ x ∈ l, x.length < 2 ^ 30) : Ev (fun k => woggleref01_SameLists.f k l l) true := by
  have key : ∀ (d j : Nat), j + d = l.length → Ev (fun k => woggleref01_SameLists.l0 k l l (j : Int)) true := by
    intro d
    induction d with
    | zero =>
      intro j hj
      refine Ev.step (f := fun _ => some true) (fun k => ?_) (Ev.now _)
      simp only [woggleref01_SameLists.l0]
      rw [if_neg (by omega)]
    | succ d ih =>
      intro j hj
      have hmem : (rd_L4 l (j : Int)).length < 2 ^ 30 := by
        unfold rd_L4
        rw [Int.toNat_natCast, List.getD_eq_getElem?_getD, List.getElem?_eq_getElem (by omega)]
        exact hl2 _ (List.getElem_mem _)
      refine Ev.step (f := fun k => (woggleref01_Same.f k (rd_L4 l (j : Int)) (rd_L4 l (j : Int))).bind fun t => if t = true then woggleref01_SameLists.l0 k l l ((j + 1 : Nat) : Int) else some false) (fun k => ?_) ?_
      · simp only [woggleref01_SameLists.l0]
        rw [if_pos (by omega), if_pos (by omega), if_pos (by omega), wrapS (by omega)]
      · refine Ev.bind (same_ev _ hmem) ?_
        simp only [if_true]
        exact ih (j + 1) (by omega)
  have k := key l.length 0 (by omega)
  refine Ev.congr (fun k => ?_) k
  unfold woggleref01_SameLists.f
  rw [if_pos rfl]
  rfl
end Go.Proofs.YtbgpnkchbcgekaaDoor.Fi
end
section
namespace Go.Proofs.YtbgpnkchbcgekaaDoor.Fi
open Go.RowKit Go.Proofs.YtbgpnkchbcgekaaDoorW.PrintWords Go.Proofs.YtbgpnkchbcgekaaDoorW.PrintLast Go.Proofs.YtbgpnkchbcgekaaDoorW.PrintMore Wog
set_option linter.unusedVariables false
/-- What a fire threatens. -/
def threat (nx : List Nat) (B D : Nat) : Nat := diff (nb nx B) (B ||| D)
theorem cloF_fix {nx : List Nat} {B D k : Nat} (hd : disj B D) (hB : B < 2 ^ nx.length) (hx : ∀ x ∈ nx, x < 2 ^ nx.length) (h : cloF nx D k B = some B) : diff (arnd nx B) D = B := by
  cases k with
  | zero => simp [cloF] at h
  | succ k =>
    rw [cloF] at h
    by_cases e : diff (arnd nx B) D = B
    · exact e
    · rw [if_neg e] at h
      refine ext_lt (diff_le _ _ _ (arnd_lt hx hB)) hB (fun i _ => ?_)
      cases h1 : B.testBit i with
      | true => exact step_sup hd i h1
      | false =>
        cases h2 : (diff (arnd nx B) D).testBit i with
        | false => rfl
        | true => rw [cloF_sup _ _ _ (disj_diff _ _) h i h2] at h1; cases h1
end Go.Proofs.YtbgpnkchbcgekaaDoor.Fi
end
section
namespace Go.Proofs.YtbgpnkchbcgekaaDoor.Fi
open Go.RowKit Go.Proofs.YtbgpnkchbcgekaaDoorW.PrintWords Go.Proofs.YtbgpnkchbcgekaaDoorW.PrintLast Go.Proofs.YtbgpnkchbcgekaaDoorW.PrintMore Wog
set_option linter.unusedVariables false
theorem set_bit (xs : List Nat) (i j a b : Nat) (hi : i < xs.length) : ((xs.set i (xs.getD i 0 ||| 2 ^ j)).getD a 0).testBit b = ((xs.getD a 0).testBit b || (decide (a = i) && decide (b = j))) := by
  rw [List.getD_eq_getElem?_getD, List.getD_eq_getElem?_getD, List.getElem?_set]
  by_cases h : i = a
  · subst h
    rw [if_pos rfl, if_pos hi]
    simp only [Option.getD_some]
    rw [Nat.testBit_or, testBit_two_pow, List.getD_eq_getElem?_getD]
    simp [eq_comm]
  · rw [if_neg h]
    have : decide (a = i) = false := decide_eq_false (fun e => h e.symm)
    rw [this]
    simp
theorem addS_bit {n : Nat} (xs : List Nat) (e : S42) (hl : xs.length = n) (he : okE n e) (a b : Nat) :
    ((addS xs e).getD a 0).testBit b = ((xs.getD a 0).testBit b || ((decide (a = e.f0.toNat) && decide (b = e.f1.toNat)) || (decide (a = e.f1.toNat) && decide (b = e.f0.toNat)))) := by
  obtain ⟨h1, h2, h3, h4, h5⟩ := he
  unfold addS
  simp only []
  rw [set_bit _ _ _ _ _ (by simp; omega), set_bit _ _ _ _ _ (by omega), Bool.or_assoc]
theorem near_bit {n : Nat} : ∀ (l : List S42), (∀ e ∈ l, okE n e) → ∀ a b, ((nearS n l).getD a 0).testBit b = true ↔ ∃ e ∈ l, (a = e.f0.toNat ∧ b = e.f1.toNat) ∨ (a = e.f1.toNat ∧ b = e.f0.toNat) := by
  have key : ∀ (l : List S42) (xs : List Nat), xs.length = n → (∀ e ∈ l, okE n e) → ∀ a b, ((l.foldl addS xs).getD a 0).testBit b = true ↔ (xs.getD a 0).testBit b = true ∨ ∃ e ∈ l, (a = e.f0.toNat ∧ b = e.f1.toNat) ∨ (a = e.f1.toNat ∧ b = e.f0.toNat) := by
    intro l
    induction l with
    | nil => intro xs _ _ a b; simp
    | cons e l ih =>
      intro xs hl he a b
      rw [List.foldl_cons, ih _ (by rw [addS_length, hl]) (fun x hx => he x (by simp [hx])) a b, addS_bit xs e hl (he e (by simp)) a b]
      simp only [Bool.or_eq_true, Bool.and_eq_true, decide_eq_true_eq, List.mem_cons, exists_eq_or_imp]
      constructor
      · rintro ((h | h) | h)
        · exact .inl h
        · exact .inr (.inl h)
        · exact .inr (.inr h)
      · rintro (h | h | h)
        · exact .inl (.inl h)
        · exact .inl (.inr h)
        · exact .inr h
  intro l he a b
  unfold nearS
  rw [key l _ (by simp) he a b]
  have : ((List.replicate n 0).getD a 0).testBit b = false := by
    rw [List.getD_eq_getElem?_getD, List.getElem?_replicate]
    split <;> simp
  rw [this]
  simp
theorem near_sym {n : Nat} {l : List S42} (he : ∀ e ∈ l, okE n e) : Sym (nearS n l) := by
  intro a b _ _
  rw [Bool.eq_iff_iff, near_bit l he, near_bit l he]
  constructor
  · rintro ⟨e, h1, h2⟩
    exact ⟨e, h1, by omega⟩
  · rintro ⟨e, h1, h2⟩
    exact ⟨e, h1, by omega⟩
theorem near_irr {n : Nat} {l : List S42} (he : ∀ e ∈ l, okE n e) (a : Nat) : ((nearS n l).getD a 0).testBit a = false := by
  cases h : ((nearS n l).getD a 0).testBit a with
  | false => rfl
  | true =>
    obtain ⟨e, h1, h2⟩ := (near_bit l he a a).1 h
    obtain ⟨h3, h4, h5, h6, h7⟩ := he e h1
    omega
section
variable {nx : List Nat}
theorem lt1024 (hn : nx.length ≤ 10) {x : Nat} (h : x < 2 ^ nx.length) : x < 2 ^ 10 := Nat.lt_of_lt_of_le h (Nat.pow_le_pow_right (by omega) hn)
end
end Go.Proofs.YtbgpnkchbcgekaaDoor.Fi
end
section
namespace Go.Proofs.YtbgpnkchbcgekaaDoor.Fi
open Go.RowKit Go.Proofs.YtbgpnkchbcgekaaDoorW.PrintWords Go.Proofs.YtbgpnkchbcgekaaDoorW.PrintLast Go.Proofs.YtbgpnkchbcgekaaDoorW.PrintMore Wog
set_option linter.unusedVariables false
theorem lives_best : fire_Best.f 4 ([(⟨0, 1⟩ : S42), (⟨1, 2⟩ : S42), (⟨2, 3⟩ : S42)] : List (S42)) 1 = some (2, [2], 0) := by decide +kernel
theorem lives_play : fire_Play.f 4 ([(⟨0, 1⟩ : S42), (⟨1, 2⟩ : S42), (⟨2, 3⟩ : S42)] : List (S42)) 1 [2] = some ([[0]], 0) := by decide +kernel
theorem lives_burning : fire_Burning.f 4 ([(⟨0, 1⟩ : S42), (⟨1, 2⟩ : S42), (⟨2, 3⟩ : S42)] : List (S42)) = some ([1, 3], 0) := by decide +kernel
theorem lives_ev : Ev (fun k => wogglelaw06_lives.f k) true := by
  unfold wogglelaw06_lives.f
  simp only [Option.bind_some, lives_best, lives_play, lives_burning, if_true]
  refine Ev.bind (same_ev [2] (by simp)) ?_
  simp only [if_true]
  refine Ev.bind (sameLists_ev [[0]] (by simp) (by simp)) ?_
  simp only [if_true]
  refine Ev.bind (same_ev [1, 3] (by simp)) ?_
  simp only [if_true]
  exact Ev.now _
end Go.Proofs.YtbgpnkchbcgekaaDoor.Fi
end
section
namespace Go.Proofs.YtbgpnkchbcgekaaDoor.Fi
open Go.RowKit Go.Proofs.YtbgpnkchbcgekaaDoorW.PrintWords Go.Proofs.YtbgpnkchbcgekaaDoorW.PrintLast Go.Proofs.YtbgpnkchbcgekaaDoorW.PrintMore Wog
set_option linter.unusedVariables false
theorem lives_then : Ev (fun k => (wogglelaw06_lives.f k).bind fun t => some t) true := Ev.bind lives_ev (Ev.now _)
theorem GoodG.rows {n : Int} {l : List S42} (h : GoodG n l) : (∀ x ∈ nearS n.toNat l, x < 2 ^ (nearS n.toNat l).length) ∧ (nearS n.toNat l).length ≤ 10 ∧ 0 < (nearS n.toNat l).length ∧ n = ((nearS n.toNat l).length : Int) ∧ (nearS n.toNat l).length = n.toNat := by
  obtain ⟨h1, h2, h3, h4⟩ := h
  have hl := nearS_length n.toNat l
  refine ⟨by rw [hl]; exact nearS_lt h4, by omega, by omega, by omega, hl⟩
end Go.Proofs.YtbgpnkchbcgekaaDoor.Fi
end
section
namespace Go.Proofs.YtbgpnkchbcgekaaDoor.Fi
open Go.RowKit Go.Proofs.YtbgpnkchbcgekaaDoorW.PrintWords Go.Proofs.YtbgpnkchbcgekaaDoorW.PrintLast Go.Proofs.YtbgpnkchbcgekaaDoorW.PrintMore Wog
set_option linter.unusedVariables false
section
variable {nx : List Nat}
theorem more_zero {B D : Nat} (hd : disj B D) (h : moreS nx B D = 0) : diff (arnd nx B) D = B := by
  rw [← step_eq hd, h]; simp
end
theorem GoodG.near_lt {n : Int} {l : List S42} (h : GoodG n l) {f : Int} (h0 : 0 ≤ f) (hf : f < n) : 2 ^ f.toNat < 2 ^ (nearS n.toNat l).length := by
  obtain ⟨_, _, _, hnn, _⟩ := h.rows
  exact Nat.pow_lt_pow_right (by omega) (by omega)
theorem savedS_is (n : Int) (o : List Nat) : savedS n o = n - 1 - (sumP o : Int) := by
  unfold savedS sumP
  have : ∀ (o : List Nat) (a : Int), o.foldl (fun a s => a - ((popc 16 s : Nat) : Int)) a = a - (((o.map (popc 16)).sum : Nat) : Int) := by
    intro o
    induction o with
    | nil => intro a; simp
    | cons x o ih => intro a; rw [List.foldl_cons, ih]; simp; omega
  exact this o (n - 1)
/-- The rounds of a plan, and what burns in the end: both or none. -/
theorem play_both {n : Int} {l : List S42} {f : Int} (h : PlayOk n l f) (p : List Int) (o : List Nat) (ho : playS (nearS n.toNat l) p (2 ^ f.toNat) 0 = some o) :
    ∃ e, endB (nearS n.toNat l) p (2 ^ f.toNat) 0 = some e ∧ e < 2 ^ (nearS n.toNat l).length ∧ savedS n o = n - ((popc 16 e : Nat) : Int) := by
  obtain ⟨hg, h0, hf⟩ := h
  obtain ⟨hx, hn10, hn0, hnn, hnl⟩ := hg.rows
  have hB := hg.near_lt h0 hf
  have hz : disj (2 ^ f.toNat) 0 := fun i _ => by simp
  obtain ⟨e, h1, h2⟩ := playS_end hx p _ _ o hB hz ho
  refine ⟨e, h1, endB_lt hx _ _ _ _ hB hz h1, ?_⟩
  rw [savedS_is, h2, popc16 (by omega) hB, popc_pow (by omega)]
  omega
end Go.Proofs.YtbgpnkchbcgekaaDoor.Fi
end
section
namespace Go.Proofs.YtbgpnkchbcgekaaDoor.Fi
open Go.RowKit Go.Proofs.YtbgpnkchbcgekaaDoorW.PrintWords Go.Proofs.YtbgpnkchbcgekaaDoorW.PrintLast Go.Proofs.YtbgpnkchbcgekaaDoorW.PrintMore Wog
set_option linter.unusedVariables false
theorem u8_range {x : Int} (h : (Lit.int .u8 x).wf = true) : 0 ≤ x ∧ x ≤ 255 := by
  have h9 : (decide (IntKind.u8.min ≤ x) && decide (x ≤ IntKind.u8.max)) = true := h
  rw [Bool.and_eq_true, decide_eq_true_iff, decide_eq_true_iff] at h9
  have h8 : IntKind.u8.max = 255 := by kernel_rfl
  have h7 : IntKind.u8.min = 0 := by kernel_rfl
  rw [h8, h7] at h9
  exact h9
theorem tmod_range {x n : Int} (hx : 0 ≤ x ∧ x ≤ 255) (hn : 1 ≤ n) : 0 ≤ Int.tmod (wrap64 x) n ∧ Int.tmod (wrap64 x) n < n := by
  have h1 : wrap64 x = x := by unfold wrap64; omega
  rw [h1, Int.tmod_eq_emod_of_nonneg hx.1]
  exact ⟨Int.emod_nonneg _ (by omega), Int.emod_lt_of_pos _ (by omega)⟩
/-- What Best returns: its own plan leaves as many as it says, and no plan more. -/
theorem bestR_spec {n : Int} {l : List S42} {f : Int} (h : PlayOk n l f) : (∃ o, playR n l f (bestR n l f).2 = some o ∧ savedS n o = (bestR n l f).1) ∧ ∀ p o, playR n l f p = some o → savedS n o ≤ (bestR n l f).1 := by
  obtain ⟨hg, h0, hf⟩ := h
  obtain ⟨hx, hn10, hn0, hnn, hnl⟩ := hg.rows
  have hB := hg.near_lt h0 hf
  have hz : disj (2 ^ f.toNat) 0 := fun i _ => by simp
  have hb := bestR_is hg h0 hf
  obtain ⟨e, h1, h2⟩ := bestF_attains hx _ _ _ _ hB hz hb
  obtain ⟨o, ho⟩ := playS_of_end _ _ _ _ h1
  refine ⟨⟨o, ho, ?_⟩, fun p o' ho' => ?_⟩
  · obtain ⟨e', h3, _, h4⟩ := play_both ⟨hg, h0, hf⟩ _ o ho
    rw [h1] at h3
    obtain rfl := Option.some.inj h3
    rw [h4, h2, ← hnn]
  · obtain ⟨e', h3, _, h4⟩ := play_both ⟨hg, h0, hf⟩ _ o' ho'
    have := bestF_ge hx _ _ _ _ hB hz hb p e' h3
    rw [← hnn] at this
    rw [h4]
    exact this
end Go.Proofs.YtbgpnkchbcgekaaDoor.Fi
end
section
namespace Go.Proofs.YtbgpnkchbcgekaaDoor.Fi
open Go.RowKit Go.Proofs.YtbgpnkchbcgekaaDoorW.PrintWords Go.Proofs.YtbgpnkchbcgekaaDoorW.PrintLast Go.Proofs.YtbgpnkchbcgekaaDoorW.PrintMore Wog
set_option linter.unusedVariables false
section
variable {nx : List Nat}
theorem reachS_ball (hx : ∀ x ∈ nx, x < 2 ^ nx.length) {f : Nat} (hf : f < nx.length) : reachS nx 0 f = ball nx f nx.length := by
  unfold reachS
  rw [clo_ball hx hf]
  rfl
end
end Go.Proofs.YtbgpnkchbcgekaaDoor.Fi
end
section
namespace Go.Proofs.YtbgpnkchbcgekaaDoor.Fi
open Go.RowKit Go.Proofs.YtbgpnkchbcgekaaDoorW.PrintWords Go.Proofs.YtbgpnkchbcgekaaDoorW.PrintLast Go.Proofs.YtbgpnkchbcgekaaDoorW.PrintMore Wog
set_option linter.unusedVariables false
theorem GoodG.sym {n : Int} {l : List S42} (h : GoodG n l) : Sym (nearS n.toNat l) := near_sym h.2.2.2
end Go.Proofs.YtbgpnkchbcgekaaDoor.Fi
end
section
namespace Go.Proofs.YtbgpnkchbcgekaaDoor.Fi
open Go.RowKit Go.Proofs.YtbgpnkchbcgekaaDoorW.PrintWords Go.Proofs.YtbgpnkchbcgekaaDoorW.PrintLast Go.Proofs.YtbgpnkchbcgekaaDoorW.PrintMore Wog
set_option linter.unusedVariables false
section
variable {nx : List Nat}
theorem gfold_spec (B : Nat) : ∀ (l : List Int) (p : Int × Nat), p.2 ≤ (l.foldl (gstep nx B) p).2 ∧ (∀ v ∈ l, popc 16 (reachS nx B v.toNat) ≤ (l.foldl (gstep nx B) p).2) ∧ (l.foldl (gstep nx B) p = p ∨ ((l.foldl (gstep nx B) p).1 ∈ l ∧ (l.foldl (gstep nx B) p).2 = popc 16 (reachS nx B (l.foldl (gstep nx B) p).1.toNat))) := by
  intro l
  induction l with
  | nil => intro p; exact ⟨Nat.le_refl _, by simp, .inl rfl⟩
  | cons v l ih =>
    intro p
    rw [List.foldl_cons]
    obtain ⟨h1, h2, h3⟩ := ih (gstep nx B p v)
    have hs : p.2 ≤ (gstep nx B p v).2 ∧ popc 16 (reachS nx B v.toNat) ≤ (gstep nx B p v).2 ∧ (gstep nx B p v = p ∨ gstep nx B p v = (v, popc 16 (reachS nx B v.toNat))) := by
      unfold gstep
      split
      · rename_i hlt; exact ⟨Nat.le_of_lt hlt, Nat.le_refl _, .inr rfl⟩
      · rename_i hlt; exact ⟨Nat.le_refl _, by omega, .inl rfl⟩
    refine ⟨Nat.le_trans hs.1 h1, fun u hu => ?_, ?_⟩
    · rcases List.mem_cons.1 hu with rfl | hu
      · exact Nat.le_trans hs.2.1 h1
      · exact h2 u hu
    · rcases h3 with h3 | ⟨h3, h4⟩
      · rw [h3]
        rcases hs.2.2 with h5 | h5
        · exact .inl h5
        · rw [h5]; exact .inr ⟨by simp, rfl⟩
      · exact .inr ⟨by simp [h3], h4⟩
theorem mem10_of {s i : Nat} (hs : s < 2 ^ 10) (h : s.testBit i = true) : (i : Int) ∈ mem10 s := by
  unfold mem10
  exact List.mem_map.2 ⟨i, List.mem_filter.2 ⟨List.mem_range.2 (lt_of_bit hs h), h⟩, rfl⟩
theorem popc_pos {n x i : Nat} (hi : i < n) (h : x.testBit i = true) : 1 ≤ popc n x := by
  have := popc_lt_of (n := n) (a := 0) (b := x) (fun j hj => by simp at hj) hi (by simp) h
  omega
variable {f : Nat}
theorem more_edge (h : Tree nx) {B D a : Nat} (ha : (moreS nx B D).testBit a = true) : ∃ u, B.testBit u = true ∧ adj nx u a := by
  have haB := moreS_disjB (nx := nx) B D a ha
  rw [moreS_bit, Bool.and_eq_true, Bool.and_eq_true, arnd_bit_iff, haB] at ha
  rcases ha.1.1 with hu | ⟨u, _, h1, h2⟩
  · cases hu
  · exact ⟨u, h1, h2⟩
theorem more_reach (h : Tree nx) (hf : f < nx.length) {B D t a : Nat} (i : Inv nx f B D t) (ha : (moreS nx B D).testBit a = true) : reachS nx B a = behind nx f a := by
  obtain ⟨u, h1, h2⟩ := more_edge h ha
  exact h.reach_behind hf (i.conn h hf) (i.fB h hf) (i.lt h hf) (moreS_disjB (nx := nx) B D a ha) h1 h2
theorem more_ne (h : Tree nx) (hf : f < nx.length) {B D t a : Nat} (i : Inv nx f B D t) (ha : (moreS nx B D).testBit a = true) : a ≠ f := by
  rintro rfl
  have := moreS_disjB (nx := nx) B D a ha
  rw [i.fB h hf] at this
  cases this
/-- The choice: none if nothing is threatened, else one with the most behind it. -/
theorem gpick_spec (h : Tree nx) (hf : f < nx.length) {B D t : Nat} (i : Inv nx f B D t) : ((gpick nx B D).1 < 0 ∧ moreS nx B D = 0) ∨ ∃ v : Nat, (gpick nx B D).1 = (v : Int) ∧ (moreS nx B D).testBit v = true ∧ ∀ a, (moreS nx B D).testBit a = true → popc 16 (behind nx f a) ≤ popc 16 (behind nx f v) := by
  have hMl := moreS_lt h.rows (i.lt h hf) D
  obtain ⟨h1, h2, h3⟩ := gfold_spec (nx := nx) B (mem10 (moreS nx B D)) (-1, 0)
  have hg : (mem10 (moreS nx B D)).foldl (gstep nx B) (-1, 0) = gpick nx B D := rfl
  rw [hg] at h1 h2 h3
  rcases h3 with h3 | ⟨h3, h4⟩
  · left
    rw [h3] at h2 ⊢
    refine ⟨by show (-1 : Int) < 0; omega, zero_of_bits (fun a => ?_)⟩
    cases ha : (moreS nx B D).testBit a with
    | false => rfl
    | true =>
      have h5 := h2 (a : Int) (mem10_of (lt1024 h.len hMl) ha)
      have haB := moreS_disjB (nx := nx) B D a ha
      have hal := lt_of_bit hMl ha
      have h6 := popc_pos (n := 16) (by have := h.len; omega) (reach_start h.rows hal haB)
      rw [Int.toNat_natCast] at h5
      have h7 : popc 16 (reachS nx B a) ≤ 0 := h5
      omega
  · right
    obtain ⟨v, hv, hv10, hvM⟩ := mem10_mem h3
    refine ⟨v, hv, hvM, fun a ha => ?_⟩
    have h5 := h2 (a : Int) (mem10_of (lt1024 h.len hMl) ha)
    rw [h4, hv, Int.toNat_natCast, Int.toNat_natCast, more_reach h hf i ha, more_reach h hf i hvM] at h5
    exact h5
/-- The next state. -/
theorem greedy_next (h : Tree nx) (hf : f < nx.length) {B D t v : Nat} (i : Inv nx f B D t) (hv : (moreS nx B D).testBit v = true) : v < nx.length ∧ B.testBit v = false ∧ D.testBit v = false ∧ B ||| moreS nx B (D ||| 2 ^ v) = diff (arnd nx B) (D ||| 2 ^ v) ∧ Inv nx f (diff (arnd nx B) (D ||| 2 ^ v)) (D ||| 2 ^ v) (t + 1) := by
  have hvl := lt_of_bit (moreS_lt h.rows (i.lt h hf) D) hv
  have hvB := moreS_disjB (nx := nx) B D v hv
  have hvD := moreS_disj (nx := nx) B D v hv
  have he := step_eq (nx := nx) (disj_or (i.disj h hf) (disj_one hvB))
  refine ⟨hvl, hvB, hvD, he, ?_⟩
  have := i.step h hf hvl hvB hvD
  rwa [he] at this
theorem greedyF_some (h : Tree nx) (hf : f < nx.length) : ∀ (m B D t : Nat), Inv nx f B D t → zer nx.length D ≤ m → ∃ q, greedyF nx (m + 1) B D = some q := by
  intro m
  induction m with
  | zero =>
    intro B D t i hz
    rcases gpick_spec h hf i with ⟨h1, _⟩ | ⟨v, h1, h2, _⟩
    · exact ⟨_, by rw [greedyF, if_pos h1]⟩
    · exfalso
      obtain ⟨hvl, _, hvD, _⟩ := greedy_next h hf i h2
      have := countP_lt (l := List.range nx.length) (p := fun _ => false) (q := fun i => !D.testBit i) (j := v) (by simp) (List.mem_range.2 hvl) rfl (by simp [hvD])
      unfold zer at hz
      omega
  | succ m ih =>
    intro B D t i hz
    rcases gpick_spec h hf i with ⟨h1, _⟩ | ⟨v, h1, h2, _⟩
    · exact ⟨_, by rw [greedyF, if_pos h1]⟩
    · obtain ⟨hvl, hvB, hvD, _, hi'⟩ := greedy_next h hf i h2
      have hzl : zer nx.length (D ||| 2 ^ v) < zer nx.length D := by
        refine zer_lt (fun j hj => by rw [Nat.testBit_or, hj]; rfl) i.dlt hi'.dlt (fun e => ?_)
        have h2 : (D ||| 2 ^ v).testBit v = true := by rw [Nat.testBit_or, testBit_two_pow]; simp
        rw [e, hvD] at h2
        cases h2
      obtain ⟨q, hq⟩ := ih _ _ (t + 1) hi' (by omega)
      refine ⟨(q.1, (v : Int) :: q.2), ?_⟩
      rw [greedyF, if_neg (by rw [h1]; omega), h1, Int.toNat_natCast, hq]
      rfl
theorem greedyF_attains (h : Tree nx) (hf : f < nx.length) : ∀ (k B D t : Nat) (q : Int × List Int), Inv nx f B D t → greedyF nx k B D = some q → Attains nx B D q := by
  intro k
  induction k with
  | zero => intro B D t q _ hq; cases hq
  | succ k ih =>
    intro B D t q i hq
    rw [greedyF] at hq
    rcases gpick_spec h hf i with ⟨h1, h0⟩ | ⟨v, h1, h2, _⟩
    · rw [if_pos h1] at hq
      obtain rfl := Option.some.inj hq
      exact ⟨B, by rw [endB, cloF, if_pos (more_zero (i.disj h hf) h0)], rfl⟩
    · rw [if_neg (by rw [h1]; omega), h1, Int.toNat_natCast] at hq
      obtain ⟨q', hq', rfl⟩ := Option.map_eq_some_iff.1 hq
      obtain ⟨hvl, hvB, hvD, he, hi'⟩ := greedy_next h hf i h2
      obtain ⟨e, h3, h4⟩ := ih _ _ (t + 1) q' hi' hq'
      refine ⟨e, ?_, h4⟩
      show endB nx ((v : Int) :: q'.2) B D = some e
      rw [endB, if_pos ⟨by omega, by omega, by rw [Int.toNat_natCast, Nat.testBit_or, hvB, hvD]; rfl⟩, Int.toNat_natCast, he]
      exact h3
theorem popc_sub_or {n a b c : Nat} (h : ∀ x, a.testBit x = true → b.testBit x = true ∨ c.testBit x = true) : popc n a ≤ popc n b + popc n c :=
  Nat.le_trans (popc_mono n (fun x hx => by rw [Nat.testBit_or, Bool.or_eq_true]; exact h x hx)) (popc_or_le n b c)
theorem popc_diff_zero {n a b : Nat} (h : sub a b) : popc n (diff a b) = 0 := by
  have : diff a b = 0 := zero_of_bits (fun x => by
    rw [testBit_diff]
    cases hx : a.testBit x with
    | false => rfl
    | true => rw [h x hx]; rfl)
  rw [this]
  simp [popc]
/-- When the greedy plan has ended, all that another plan saves later is saved already. -/
theorem late (h : Tree nx) (hf : f < nx.length) {SG T : Nat} (hSG : ∀ x, x < nx.length → SG.testBit x = false → (ball nx f T).testBit x = true) (hdown : ∀ u, u ≠ f → SG.testBit u = true → sub (behind nx f u) SG) :
    ∀ (p : List Int) (B D t e : Nat), T ≤ t → Inv nx f B D t → endB nx p B D = some e → ∃ D', e = diff (full nx.length) (inS nx f D') ∧ ∀ x, (inS nx f D').testBit x = true → (inS nx f D).testBit x = true ∨ SG.testBit x = true := by
  intro p
  induction p with
  | nil => intro B D t e ht i he; exact ⟨D, i.end h hf he, fun x hx => .inl hx⟩
  | cons d p ih =>
    intro B D t e ht i he
    rw [endB] at he
    split at he
    · rename_i hv
      obtain ⟨h1, h2⟩ := valid_split hv.2.2
      have hdl : d.toNat < nx.length := by omega
      have hdf : d.toNat ≠ f := by intro e'; rw [e', i.fB h hf] at h1; cases h1
      obtain ⟨D', k1, k2⟩ := ih _ _ (t + 1) e (by omega) (i.step h hf hdl h1 h2) he
      refine ⟨D', k1, fun x hx => ?_⟩
      rcases k2 x hx with k | k
      · rw [inS_or hdl, Nat.testBit_or, Bool.or_eq_true] at k
        rcases k with k | k
        · exact .inl k
        · -- what is behind the vertex that is defended so late
          cases hs : SG.testBit d.toNat with
          | true => exact .inr (hdown _ hdf hs x k)
          | false =>
            have hb := hSG _ hdl hs
            have hmono : ∀ j, sub (ball nx f T) (ball nx f (T + j)) := by
              intro j
              induction j with
              | zero => exact sub_refl _
              | succ j ihj => exact sub_trans ihj (arnd_self nx _)
            have hbt := hmono (t - T) _ hb
            rw [show T + (t - T) = t by omega] at hbt
            have hS : (inS nx f D).testBit d.toNat = true := by
              cases hS : (inS nx f D).testBit d.toNat with
              | true => rfl
              | false => rw [(i.bits _).2 ⟨hbt, hS⟩] at h1; cases h1
            obtain ⟨c, hcl, hc, hcb⟩ := (inS_bit D _).1 hS
            exact .inl ((inS_bit D x).2 ⟨c, hcl, hc, h.behind_trans hf (i.ne h hf hc) hdf hcb x k⟩)
      · exact .inr k
    · cases he
theorem down_inS (h : Tree nx) (hf : f < nx.length) {B D t : Nat} (i : Inv nx f B D t) : ∀ u, u ≠ f → (inS nx f D).testBit u = true → sub (behind nx f u) (inS nx f D) := by
  intro u hu hS x hx
  obtain ⟨c, hcl, hc, hcb⟩ := (inS_bit D _).1 hS
  exact (inS_bit D x).2 ⟨c, hcl, hc, h.behind_trans hf (i.ne h hf hc) hu hcb x hx⟩
theorem half (h : Tree nx) (hf : f < nx.length) : ∀ (k B D t : Nat) (q : Int × List Int), Inv nx f B D t → (∀ d, D.testBit d = true → ∃ p, B.testBit p = true ∧ adj nx p d) → greedyF nx k B D = some q →
    ∃ SG, SG < 2 ^ nx.length ∧ q.1 = ((popc 16 SG : Nat) : Int) ∧ sub (inS nx f D) SG ∧ (∀ u, u ≠ f → SG.testBit u = true → sub (behind nx f u) SG) ∧
      ∀ (p : List Int) (Bo Do e : Nat), Inv nx f Bo Do t → endB nx p Bo Do = some e → ∃ Do', e = diff (full nx.length) (inS nx f Do') ∧ popc 16 (diff (inS nx f Do') (inS nx f Do ||| SG)) ≤ popc 16 (diff SG (inS nx f D)) := by
  intro k
  induction k with
  | zero => intro B D t q _ _ hq; cases hq
  | succ k ih =>
    intro B D t q i hP hq
    rw [greedyF] at hq
    rcases gpick_spec h hf i with ⟨h1, h0⟩ | ⟨v, h1, h2, hmax⟩
    · -- the end
      rw [if_pos h1] at hq
      obtain rfl := Option.some.inj hq
      have hfull : ∀ x, x < nx.length → (inS nx f D).testBit x = false → B.testBit x = true := by
        intro x hx hS
        rcases i.threat h hf x hx hS with k | ⟨a, k, _⟩
        · exact k
        · rw [h0] at k; simp at k
      refine ⟨inS nx f D, inS_lt D, ?_, sub_refl _, down_inS h hf i, fun p Bo Do e io he => ?_⟩
      · have hd : Wog.disj B (inS nx f D) := fun x hx => ((i.bits x).1 hx).2
        have h3 := popc_or_disj 16 B (inS nx f D) hd
        have h4 : B ||| inS nx f D = full nx.length := full_of_sub (Nat.or_lt_two_pow (i.lt h hf) (inS_lt D)) (fun x hx => by
          rw [full_test] at hx
          have hx' : x < nx.length := by simpa using hx
          rw [Nat.testBit_or]
          cases hS : (inS nx f D).testBit x with
          | true => simp
          | false => rw [hfull x hx' hS]; rfl)
        rw [h4, popc16 (by have := h.len; omega) (full_lt _), popc_full_self] at h3
        show (nx.length : Int) - ((popc 16 B : Nat) : Int) = _
        omega
      · obtain ⟨Do', k1, k2⟩ := late h hf (SG := inS nx f D) (T := t) (fun x hx hS => ((i.bits x).1 (hfull x hx hS)).1) (down_inS h hf i) p Bo Do t e (Nat.le_refl _) io he
        refine ⟨Do', k1, ?_⟩
        rw [popc_diff_zero (fun x hx => by
          rw [Nat.testBit_or, Bool.or_eq_true]
          exact k2 x hx)]
        omega
    · rw [if_neg (by rw [h1]; omega), h1, Int.toNat_natCast] at hq
      obtain ⟨q', hq', rfl⟩ := Option.map_eq_some_iff.1 hq
      obtain ⟨hvl, hvB, hvD, he, hi'⟩ := greedy_next h hf i h2
      have hvf := more_ne h hf i h2
      have hP' : ∀ d, (D ||| 2 ^ v).testBit d = true → ∃ p, (diff (arnd nx B) (D ||| 2 ^ v)).testBit p = true ∧ adj nx p d := by
        intro d hd
        have hsup : ∀ p, B.testBit p = true → (diff (arnd nx B) (D ||| 2 ^ v)).testBit p = true := fun p hp => by rw [← he]; exact sub_or_left _ _ _ hp
        rw [Nat.testBit_or, Bool.or_eq_true, testBit_two_pow] at hd
        rcases hd with hd | hd
        · obtain ⟨p, k1, k2⟩ := hP d hd
          exact ⟨p, hsup p k1, k2⟩
        · have : v = d := by simpa using hd
          subst this
          obtain ⟨u, k1, k2⟩ := more_edge h h2
          exact ⟨u, hsup u k1, k2⟩
      obtain ⟨SG, s1, s2, s3, s4, s5⟩ := ih _ _ (t + 1) q' hi' hP' hq'
      rw [inS_or hvl] at s3 s5
      have hsub1 : sub (inS nx f D) SG := sub_trans (sub_or_left _ _) s3
      have hsub2 : sub (behind nx f v) SG := sub_trans (sub_or_right _ _) s3
      have hapart := i.apart h hf hP h2
      -- what the choice adds
      have hcount : popc 16 (diff SG (inS nx f D ||| behind nx f v)) + popc 16 (behind nx f v) ≤ popc 16 (diff SG (inS nx f D)) := by
        have hd : Wog.disj (diff SG (inS nx f D ||| behind nx f v)) (behind nx f v) := fun x hx => by
          rw [testBit_diff, Nat.testBit_or] at hx
          cases hb : (behind nx f v).testBit x with
          | false => rfl
          | true => rw [hb] at hx; simp at hx
        rw [← popc_or_disj 16 _ _ hd]
        refine popc_mono 16 (fun x hx => ?_)
        rw [Nat.testBit_or, Bool.or_eq_true] at hx
        rw [testBit_diff]
        rcases hx with hx | hx
        · rw [testBit_diff, Nat.testBit_or] at hx
          cases h3 : SG.testBit x <;> cases h4 : (inS nx f D).testBit x <;> simp_all
        · rw [hsub2 x hx, hapart x hx]; rfl
      refine ⟨SG, s1, s2, hsub1, s4, fun p Bo Do e io hep => ?_⟩
      cases p with
      | nil =>
        refine ⟨Do, io.end h hf hep, ?_⟩
        rw [popc_diff_zero (sub_or_left _ _)]
        omega
      | cons u p =>
        rw [endB] at hep
        split at hep
        · rename_i hu
          obtain ⟨k1, k2⟩ := valid_split hu.2.2
          have hul : u.toNat < nx.length := by omega
          have huf : u.toNat ≠ f := by intro e'; rw [e', io.fB h hf] at k1; cases k1
          obtain ⟨Do', k3, k4⟩ := s5 p _ _ e (io.step h hf hul k1 k2) hep
          refine ⟨Do', k3, ?_⟩
          rw [inS_or hul] at k4
          by_cases hin : SG.testBit u.toNat = true ∨ (inS nx f Do).testBit u.toNat = true
          · -- nothing new
            have hb : sub (behind nx f u.toNat) (inS nx f Do ||| SG) := by
              rcases hin with hin | hin
              · exact sub_trans (s4 _ huf hin) (sub_or_right _ _)
              · exact sub_trans (down_inS h hf io _ huf hin) (sub_or_left _ _)
            have hm := popc_mono 16 (a := diff (inS nx f Do') (inS nx f Do ||| SG)) (b := diff (inS nx f Do') (inS nx f Do ||| behind nx f u.toNat ||| SG)) (fun x hx => by
              rw [testBit_diff, Bool.and_eq_true] at hx ⊢
              refine ⟨hx.1, ?_⟩
              have h5 : (inS nx f Do ||| SG).testBit x = false := by simpa using hx.2
              have h6 : (inS nx f Do ||| behind nx f u.toNat ||| SG).testBit x = false := by
                have h7 := h5
                rw [Nat.testBit_or, Bool.or_eq_false_iff] at h7
                rw [Nat.testBit_or, Nat.testBit_or, h7.1, h7.2]
                cases h8 : (behind nx f u.toNat).testBit x with
                | false => rfl
                | true => rw [hb x h8] at h5; cases h5
              rw [h6]; rfl)
            omega
          · -- a vertex behind a threatened one
            have hnS : (inS nx f D).testBit u.toNat = false := by
              cases h5 : (inS nx f D).testBit u.toNat with
              | false => rfl
              | true => exact absurd (.inl (hsub1 _ h5)) hin
            have hnB : B.testBit u.toNat = false := by
              cases h5 : B.testBit u.toNat with
              | false => rfl
              | true =>
                have h6 := ((i.bits _).1 h5).1
                have h7 : (inS nx f Do).testBit u.toNat = false := by
                  cases h8 : (inS nx f Do).testBit u.toNat with
                  | false => rfl
                  | true => exact absurd (.inr h8) hin
                rw [(io.bits _).2 ⟨h6, h7⟩] at k1
                cases k1
            rcases i.threat h hf _ hul hnS with k | ⟨a, ha, hau⟩
            · rw [hnB] at k; cases k
            · have h5 := popc_mono 16 (h.behind_trans hf (more_ne h hf i ha) huf hau)
              have h6 := hmax a ha
              have h7 := popc_sub_or (n := 16) (a := diff (inS nx f Do') (inS nx f Do ||| SG)) (b := diff (inS nx f Do') (inS nx f Do ||| behind nx f u.toNat ||| SG)) (c := behind nx f u.toNat) (fun x hx => by
                rw [testBit_diff, Bool.and_eq_true] at hx
                have h5 : (inS nx f Do ||| SG).testBit x = false := by simpa using hx.2
                rw [Nat.testBit_or, Bool.or_eq_false_iff] at h5
                cases h8 : (behind nx f u.toNat).testBit x with
                | true => exact .inr rfl
                | false =>
                  left
                  rw [testBit_diff, hx.1, Nat.testBit_or, Nat.testBit_or, h5.1, h5.2, h8]
                  rfl)
              omega
        · cases hep
/-- No plan saves more than twice as many as the greedy one. -/
theorem greedy_half (h : Tree nx) (hf : f < nx.length) {k : Nat} {q : Int × List Int} (hq : greedyF nx k (2 ^ f) 0 = some q) {p : List Int} {e : Nat} (he : endB nx p (2 ^ f) 0 = some e) : (nx.length : Int) - ((popc 16 e : Nat) : Int) ≤ 2 * q.1 := by
  have i0 := Inv.start h hf
  obtain ⟨SG, s1, s2, s3, s4, s5⟩ := half h hf k _ _ 0 q i0 (fun d hd => by simp at hd) hq
  obtain ⟨Do', k1, k2⟩ := s5 p _ _ e i0 he
  have h1 := popc_sub_or (n := 16) (a := inS nx f Do') (b := diff (inS nx f Do') (inS nx f 0 ||| SG)) (c := SG) (fun x hx => by
    cases h3 : SG.testBit x with
    | true => exact .inr rfl
    | false =>
      left
      rw [testBit_diff, hx, Nat.testBit_or, h3]
      have : (inS nx f 0).testBit x = false := by
        cases hS : (inS nx f 0).testBit x with
        | false => rfl
        | true => obtain ⟨d, _, h2, _⟩ := (inS_bit 0 x).1 hS; simp at h2
      rw [this]; rfl)
  have h2 : popc 16 (diff SG (inS nx f 0)) ≤ popc 16 SG := popc_mono 16 (fun x hx => by rw [testBit_diff, Bool.and_eq_true] at hx; exact hx.1)
  have hd : Wog.disj e (inS nx f Do') := fun x hx => by
    rw [k1, testBit_diff, Bool.and_eq_true] at hx
    simpa using hx.2
  have h3 := popc_or_disj 16 e (inS nx f Do') hd
  have h4 : e ||| inS nx f Do' = full nx.length := by
    rw [k1]
    apply Nat.eq_of_testBit_eq
    intro x
    rw [Nat.testBit_or, testBit_diff]
    cases h5 : (inS nx f Do').testBit x with
    | true => rw [sub_full (inS_lt Do') x h5]; simp
    | false => simp
  rw [h4, popc16 (by have := h.len; omega) (full_lt _), popc_full_self] at h3
  omega
end
end Go.Proofs.YtbgpnkchbcgekaaDoor.Fi
end
section
namespace Go.Proofs.YtbgpnkchbcgekaaDoor.Fi
open Go.RowKit Go.Proofs.YtbgpnkchbcgekaaDoorW.PrintWords Go.Proofs.YtbgpnkchbcgekaaDoorW.PrintLast Go.Proofs.YtbgpnkchbcgekaaDoorW.PrintMore Wog
set_option linter.unusedVariables false
theorem endsS_sum {nx : List Nat} (hn : nx.length ≤ 10) (hx : ∀ x ∈ nx, x < 2 ^ nx.length) : endsS nx nx.length = sumR nx.length (fun a => popc nx.length (nx.getD a 0)) := by
  unfold endsS sumR
  rw [List.take_length]
  congr 1
  refine List.ext_getElem (by simp) (fun i h1 h2 => ?_)
  simp only [List.getElem_map, List.getElem_range]
  have hi : i < nx.length := by simpa using h1
  rw [List.getD_eq_getElem?_getD, List.getElem?_eq_getElem hi, Option.getD_some, popc16 (by omega) (hx _ (List.getElem_mem hi))]
theorem tree_of {n : Int} {l : List S42} (hg : GoodG n l) (ht : treeS (nearS n.toNat l) = true) : Tree (nearS n.toNat l) := by
  obtain ⟨hx, hn10, hn0, hnn, hnl⟩ := hg.rows
  unfold treeS at ht
  rw [Bool.and_eq_true, decide_eq_true_iff, decide_eq_true_iff] at ht
  refine ⟨hx, hn10, hn0, hg.sym, fun a ha => ?_, ?_, ?_⟩
  · have := near_irr hg.2.2.2 a
    unfold adj at ha
    rw [ha] at this
    cases this
  · have hl := ball_lt hx hn0 (nearS n.toNat l).length
    rw [← popc16_full (by omega) hl, ← reachS_ball hx hn0]
    exact ht.2
  · rw [← endsS_sum hn10 hx]; exact ht.1
/-- The i-th edge leads from the vertex i + 1 to one before it. -/
def Grown (l : List S42) : Prop := ∀ (i : Nat) (e : S42), l[i]? = some e → 0 ≤ e.f0 ∧ e.f0 ≤ (i : Int) ∧ e.f1 = ((i + 1 : Nat) : Int)
theorem grown_good {l : List S42} (h : Grown l) (hl : l.length + 1 ≤ 10) : GoodG ((l.length + 1 : Nat) : Int) l := by
  refine ⟨by omega, by omega, by omega, fun e he => ?_⟩
  obtain ⟨i, hi, rfl⟩ := List.getElem_of_mem he
  obtain ⟨h1, h2, h3⟩ := h i _ (List.getElem?_eq_getElem hi)
  rw [Int.toNat_natCast]
  exact ⟨h1, by omega, by omega, by omega, by omega⟩
theorem popc_or_one {n a v : Nat} (hv : v < n) (h : a.testBit v = false) : popc n (a ||| 2 ^ v) = popc n a + 1 := by
  rw [popc_or_disj _ _ _ (disj_one h), popc_pow hv]
theorem addS_get {n : Nat} (xs : List Nat) (e : S42) (hl : xs.length = n) (he : okE n e) (a : Nat) : (addS xs e).getD a 0 = if a = e.f0.toNat then xs.getD a 0 ||| 2 ^ e.f1.toNat else if a = e.f1.toNat then xs.getD a 0 ||| 2 ^ e.f0.toNat else xs.getD a 0 := by
  have hb := addS_bit xs e hl he a
  obtain ⟨h1, h2, h3, h4, h5⟩ := he
  apply Nat.eq_of_testBit_eq
  intro b
  rw [hb b]
  by_cases k1 : a = e.f0.toNat
  · have k2 : ¬ a = e.f1.toNat := by omega
    rw [if_pos k1, decide_eq_true k1, decide_eq_false k2, Nat.testBit_or, testBit_two_pow]
    simp [eq_comm]
  · rw [if_neg k1, decide_eq_false k1]
    by_cases k2 : a = e.f1.toNat
    · rw [if_pos k2, decide_eq_true k2, Nat.testBit_or, testBit_two_pow]
      simp [eq_comm]
    · rw [if_neg k2, decide_eq_false k2]
      simp
theorem grown_ends {l : List S42} (h : Grown l) : ∀ k, k ≤ l.length → sumR (l.length + 1) (fun a => popc (l.length + 1) ((nearS (l.length + 1) (l.take k)).getD a 0)) = 2 * k := by
  intro k
  induction k with
  | zero =>
    intro _
    have : ∀ n, sumR n (fun a => popc (l.length + 1) ((nearS (l.length + 1) (l.take 0)).getD a 0)) = 0 := by
      intro n
      induction n with
      | zero => rfl
      | succ n ih =>
        rw [sumR_succ, ih]
        have : (nearS (l.length + 1) (l.take 0)).getD n 0 = 0 := by
          show (List.replicate (l.length + 1) 0).getD n 0 = 0
          rw [List.getD_eq_getElem?_getD, List.getElem?_replicate]
          split <;> rfl
        rw [this]
        simp [popc]
    exact this _
  | succ k ih =>
    intro hk
    have hkl : k < l.length := by omega
    obtain ⟨e, he⟩ : ∃ e, e = l[k] := ⟨_, rfl⟩
    have hget : l[k]? = some e := by rw [he, List.getElem?_eq_getElem hkl]
    obtain ⟨h1, h2, h3⟩ := h k e hget
    have hok : okE (l.length + 1) e := ⟨h1, by omega, by omega, by omega, by omega⟩
    have hall : ∀ e ∈ l.take k, okE (l.length + 1) e := by
      intro e' he'
      obtain ⟨i, hi, rfl⟩ := List.getElem_of_mem he'
      have hi' : i < l.length := by have := List.length_take_le k l; omega
      rw [List.getElem_take]
      obtain ⟨h1, h2, h3⟩ := h i _ (List.getElem?_eq_getElem hi')
      exact ⟨h1, by omega, by omega, by omega, by omega⟩
    -- the new vertex has no edge yet
    have hnew : ∀ a b, ((nearS (l.length + 1) (l.take k)).getD a 0).testBit b = true → a ≤ k ∧ b ≤ k := by
      intro a b hab
      obtain ⟨e', he', hc⟩ := (near_bit (l.take k) hall a b).1 hab
      obtain ⟨i, hi, rfl⟩ := List.getElem_of_mem he'
      have hi2 : i < k := by have := List.length_take_le k l; omega
      have hi' : i < l.length := by omega
      rw [List.getElem_take] at hc
      obtain ⟨h1, h2, h3⟩ := h i _ (List.getElem?_eq_getElem hi')
      omega
    have hsn : nearS (l.length + 1) (l.take (k + 1)) = addS (nearS (l.length + 1) (l.take k)) e := by
      unfold nearS
      rw [List.take_add_one, hget, List.foldl_append]
      rfl
    have hpt : ∀ a, a < l.length + 1 → popc (l.length + 1) ((nearS (l.length + 1) (l.take (k + 1))).getD a 0) = (popc (l.length + 1) ((nearS (l.length + 1) (l.take k)).getD a 0) + (if a = e.f0.toNat then 1 else 0)) + (if a = e.f1.toNat then 1 else 0) := by
      intro a ha
      rw [hsn, addS_get _ e (nearS_length _ _) hok]
      by_cases k1 : a = e.f0.toNat
      · have k2 : ¬ a = e.f1.toNat := by omega
        rw [if_pos k1, if_pos k1, if_neg k2]
        refine popc_or_one (by omega) ?_
        cases hb : ((nearS (l.length + 1) (l.take k)).getD a 0).testBit e.f1.toNat with
        | false => rfl
        | true => have := (hnew _ _ hb).2; omega
      · rw [if_neg k1, if_neg k1]
        by_cases k2 : a = e.f1.toNat
        · rw [if_pos k2, if_pos k2]
          refine popc_or_one (by omega) ?_
          cases hb : ((nearS (l.length + 1) (l.take k)).getD a 0).testBit e.f0.toNat with
          | false => rfl
          | true => have := (hnew _ _ hb).1; omega
        · rw [if_neg k2, if_neg k2]; rfl
    rw [sumR_congr hpt, sumR_add, sumR_add, ih (by omega), sumR_ind, sumR_ind, if_pos (by omega), if_pos (by omega)]
    omega
theorem grown_tree {l : List S42} (h : Grown l) (hl : l.length + 1 ≤ 10) : treeS (nearS (l.length + 1) l) = true := by
  have hg := grown_good h hl
  obtain ⟨hx, hn10, hn0, hnn, hnl⟩ := hg.rows
  rw [Int.toNat_natCast] at hx hn10 hn0 hnn hnl
  unfold treeS
  rw [Bool.and_eq_true, decide_eq_true_iff, decide_eq_true_iff]
  constructor
  · rw [endsS_sum hn10 hx, nearS_length]
    have := grown_ends h l.length (Nat.le_refl _)
    rw [List.take_length] at this
    rw [this]
    omega
  · rw [reachS_ball hx hn0, popc16_full (by omega) (ball_lt hx hn0 _)]
    refine full_of_sub (ball_lt hx hn0 _) (fun i hi => ?_)
    rw [full_test] at hi
    have hi' : i < (nearS (l.length + 1) l).length := by simpa using hi
    have hc := cloF_closed hx _ _ _ (clo_ball hx hn0)
    have key : ∀ m i, i ≤ m → i < (nearS (l.length + 1) l).length → (ball (nearS (l.length + 1) l) 0 (nearS (l.length + 1) l).length).testBit i = true := by
      intro m
      induction m with
      | zero =>
        intro i h1 h2
        obtain rfl : i = 0 := by omega
        exact ball_self 0 _
      | succ m ih =>
        intro i h1 h2
        rcases Nat.eq_zero_or_pos i with rfl | hp
        · exact ball_self 0 _
        · have hil : i - 1 < l.length := by rw [nearS_length] at h2; omega
          obtain ⟨k1, k2, k3⟩ := h (i - 1) _ (List.getElem?_eq_getElem hil)
          have hpar := ih l[i - 1].f0.toNat (by omega) (by rw [nearS_length] at h2 ⊢; omega)
          have hok := hg.2.2.2
          rw [Int.toNat_natCast] at hok
          refine hc _ i (by rw [nearS_length] at h2 ⊢; omega) h2 hpar ((near_bit l hok _ _).2 ⟨l[i - 1], List.getElem_mem hil, .inl ⟨rfl, by omega⟩⟩)
    exact key i i (Nat.le_refl _) hi'
theorem ltree_ev (x : List Int) (hx : ∀ v ∈ x, (Lit.int .u8 v).wf = true) : ∃ l : List S42, Grown l ∧ l.length + 1 ≤ 10 ∧ Ev (fun k => wogglelaw06_tree.f k x) (((l.length + 1 : Nat) : Int), l) := by
  have key : ∀ (d : Nat) (l : List S42), l.length + 1 + d = 10 → Grown l → ∃ l', Grown l' ∧ l'.length + 1 ≤ 10 ∧ Ev (fun k => wogglelaw06_tree.l0 k x ((l.length + 1 : Nat) : Int) l (l.length : Int)) (((l'.length + 1 : Nat) : Int), l') := by
    intro d
    induction d with
    | zero =>
      intro l hd hl
      refine ⟨l, hl, by omega, Ev.step (f := fun _ => some (((l.length + 1 : Nat) : Int), l)) (fun k => ?_) (Ev.now _)⟩
      simp only [wogglelaw06_tree.l0]
      split
      · rw [if_neg (by omega)]
      · rfl
    | succ d ih =>
      intro l hd hl
      by_cases hi : l.length < x.length
      · obtain ⟨v, hv⟩ : ∃ v, v = Int.tmod (wrap64 (rd x (l.length : Int))) ((l.length + 1 : Nat) : Int) := ⟨_, rfl⟩
        have hvr : 0 ≤ v ∧ v < ((l.length + 1 : Nat) : Int) := by
          rw [hv]
          refine tmod_range (u8_range (hx _ ?_)) (by omega)
          unfold rd
          rw [Int.toNat_natCast, List.getD_eq_getElem?_getD, List.getElem?_eq_getElem hi]
          exact List.getElem_mem _
        have hgr : Grown (l ++ [(⟨v, ((l.length + 1 : Nat) : Int)⟩ : S42)]) := by
          intro i e he
          rw [List.getElem?_append] at he
          split at he
          · exact hl i e he
          · rename_i hi'
            have hi0 : i - l.length = 0 := by
              have := (List.getElem?_eq_some_iff.1 he).1
              simp at this
              omega
            rw [hi0] at he
            obtain rfl := Option.some.inj he
            have : i = l.length := by omega
            subst this
            exact ⟨hvr.1, by show v ≤ _; omega, rfl⟩
        obtain ⟨l', h1, h2, h3⟩ := ih (l ++ [(⟨v, ((l.length + 1 : Nat) : Int)⟩ : S42)]) (by simp; omega) hgr
        have hlen : (l ++ [(⟨v, ((l.length + 1 : Nat) : Int)⟩ : S42)]).length = l.length + 1 := by simp
        rw [hlen] at h3
        refine ⟨l', h1, h2, Ev.step (fun k => ?_) h3⟩
        simp only [wogglelaw06_tree.l0]
        rw [if_pos (by omega), if_pos (by omega), if_pos (by omega), if_neg (by omega), if_pos (by omega), wrapS (by omega), wrapS (by omega), ← hv]
      · refine ⟨l, hl, by omega, Ev.step (f := fun _ => some (((l.length + 1 : Nat) : Int), l)) (fun k => ?_) (Ev.now _)⟩
        simp only [wogglelaw06_tree.l0]
        rw [if_neg (by omega)]
  obtain ⟨l', h1, h2, h3⟩ := key 9 [] rfl (fun i e he => by simp at he)
  exact ⟨l', h1, h2, h3⟩
/-- What Greedy returns on a tree. -/
theorem greedy_res {n : Int} {l : List S42} {f : Int} (hP : PlayOk n l f) (ht : treeS (nearS n.toNat l) = true) : ∃ q, greedyF (nearS n.toNat l) (n.toNat + 1) (2 ^ f.toNat) 0 = some q ∧ fire_Greedy.f n l f = some (q.1, q.2, 0) := by
  have hT := tree_of hP.1 ht
  obtain ⟨hx, hn10, hn0, hnn, hnl⟩ := hP.1.rows
  have hf : f.toNat < (nearS n.toNat l).length := by have := hP.2; omega
  obtain ⟨q, hq⟩ := greedyF_some hT hf (nearS n.toNat l).length _ _ 0 (Inv.start hT hf) (zer_le _ _)
  have hq' : greedyF (nearS n.toNat l) (n.toNat + 1) (2 ^ f.toNat) 0 = some q := by
    have e : (nearS n.toNat l).length + 1 = n.toNat + 1 := by omega
    rw [← e]; exact hq
  refine ⟨q, hq', ?_⟩
  unfold fire_Greedy.f
  rw [if_pos hP, if_pos ht, hq']
  rfl
theorem FireHalf_ev (x : List Int) (a1 : Int) (hx8 : ∀ v ∈ x, (Lit.int .u8 v).wf = true) (h1 : (Lit.int .u8 a1).wf = true) : Ev (fun k => wogglelaw06_FireHalf.f k x a1) true := by
  obtain ⟨l, hgr, hl10, hev⟩ := ltree_ev x hx8
  have hg := grown_good hgr hl10
  have ht := grown_tree hgr hl10
  obtain ⟨n, hn⟩ : ∃ n : Int, n = ((l.length + 1 : Nat) : Int) := ⟨_, rfl⟩
  have htn : treeS (nearS n.toNat l) = true := by rw [hn, Int.toNat_natCast]; exact ht
  rw [← hn] at hg hev
  have hr := tmod_range (u8_range h1) hg.1
  obtain ⟨f, hf⟩ : ∃ f, f = Int.tmod (wrap64 a1) n := ⟨_, rfl⟩
  rw [← hf] at hr
  have hP : PlayOk n l f := ⟨hg, hr.1, hr.2⟩
  have hT := tree_of hg htn
  obtain ⟨hx, hn10, hn0, hnn, hnl⟩ := hg.rows
  have hfl : f.toNat < (nearS n.toNat l).length := by omega
  obtain ⟨q, hq, hG⟩ := greedy_res hP htn
  obtain ⟨e, k1, k2⟩ := greedyF_attains hT hfl _ _ _ 0 q (Inv.start hT hfl) hq
  obtain ⟨o, ho⟩ := playS_of_end _ _ _ _ k1
  obtain ⟨e', k3, k4, k5⟩ := play_both hP q.2 o ho
  rw [k1] at k3
  obtain rfl := Option.some.inj k3
  have hsv : savedS n o = q.1 := by rw [k5, k2, ← hnn]
  obtain ⟨⟨ob, hob, hobs⟩, hbest⟩ := bestR_spec hP
  have hle := hbest q.2 o ho
  obtain ⟨eb, k6, k7, k8⟩ := play_both hP _ ob hob
  have hhalf := greedy_half hT hfl hq k6
  rw [← hnn, ← k8, hobs] at hhalf
  have hp1 := popc_le16 e
  have hql : q.2.length ≤ 1000 := by
    have : ∀ (k B D : Nat) (r : Int × List Int), greedyF (nearS n.toNat l) k B D = some r → r.2.length ≤ k := by
      intro k
      induction k with
      | zero => intro B D r h; cases h
      | succ k ih =>
        intro B D r h
        rw [greedyF] at h
        split at h
        · obtain rfl := Option.some.inj h; simp
        · obtain ⟨r', h1, rfl⟩ := Option.map_eq_some_iff.1 h
          have := ih _ _ _ h1
          simp
          omega
    have := this _ _ _ _ hq
    omega
  unfold wogglelaw06_FireHalf.f
  refine Ev.bind hev ?_
  simp only [if_neg (show ¬ n = 0 by omega), ← hf]
  have hB : fire_Best.f n l f = some ((bestR n l f).1, (bestR n l f).2, 0) := by unfold fire_Best.f; rw [if_pos ⟨hg, hr.1, hr.2⟩]
  have hS : fire_Saved.f n l f q.2 = some (q.1, 0) := by
    unfold fire_Saved.f
    rw [if_pos hql, if_pos hP, show playR n l f q.2 = some o from ho]
    simp only [hsv]
  simp only [hB, hG, hS, Option.bind_some, if_true]
  rw [hsv] at hle
  have hw : wrap64 (2 * q.1) ≥ (bestR n l f).1 := by unfold wrap64; omega
  simp only [if_pos hle, if_pos hw]
  exact lives_then
end Go.Proofs.YtbgpnkchbcgekaaDoor.Fi
end
