/- Texts of this claim, joined: P1, P3, P4 -/
import Derived.Test.YtbgpnkchbcgekaaDoorQFqFi1
import Derived.Test.YtbgpnkchbcgekaaDoorQFqFi8
import Derived.Test.YtbgpnkchbcgekaaDoorQFqS6
import Derived.Test.YtbgpnkchbcgekaaDoorQFqFi3
import Derived.Test.YtbgpnkchbcgekaaDoorQFqHb
import Derived.Test.YtbgpnkchbcgekaaDoorQFqFi6
section
namespace Go.Proofs.YtbgpnkchbcgekaaDoor.Fi
open Go.RowKit Go.Proofs.YtbgpnkchbcgekaaDoorW.PrintWords Go.Proofs.YtbgpnkchbcgekaaDoorW.PrintLast Go.Proofs.YtbgpnkchbcgekaaDoorW.PrintMore Wog
set_option linter.unusedVariables false
set_option linter.unusedSimpArgs false
theorem wrapS {i : Nat} (h : i < 2 ^ 40) : wrap64 ((i : Int) + 1) = ((i + 1 : Nat) : Int) := by unfold wrap64; omega
theorem has_is (s i : Nat) (hs : s < 65536) : fire_set_has.f (s : Int) (i : Int) = some (s.testBit i) := by
  unfold fire_set_has.f
  rw [if_pos (by omega), has16 s i hs, toNat_beq]
/-- The members of a set below 10. -/
def mem10 (s : Nat) : List Int := ((List.range 10).filter (fun i => s.testBit i)).map fun (i : Nat) => (i : Int)
theorem list_ev (s : Nat) (hs : s < 65536) : Ev (fun k => fire_set_list.f k (s : Int)) (mem10 s) := by
  have key : ∀ d i : Nat, i + d = 10 → Ev (fun k => fire_set_list.l0 k (s : Int) (((List.range i).filter (fun j => s.testBit j)).map fun (j : Nat) => (j : Int)) (i : Int)) (mem10 s) := by
    intro d
    induction d with
    | zero =>
      intro i hi
      obtain rfl : i = 10 := by omega
      refine Ev.step (f := fun _ => some (mem10 s)) (fun k => ?_) (Ev.now _)
      simp only [fire_set_list.l0]
      rw [if_neg (by omega)]
      rfl
    | succ d ih =>
      intro i hi
      refine Ev.step (fun k => ?_) (ih (i + 1) (by omega))
      simp only [fire_set_list.l0]
      rw [if_pos (by omega), has_is s i hs, Option.bind_some, wrapS (by omega), List.range_succ, List.filter_append, List.map_append]
      by_cases h : s.testBit i = true
      · rw [if_pos h, if_pos]
        · simp [h]
        · have := List.length_filter_le (fun j => s.testBit j) (List.range i)
          rw [List.length_map]
          rw [List.length_range] at this
          omega
      · rw [if_neg h]
        simp [h]
  exact key 10 0 rfl
theorem rd_nat (xs : List Nat) (i : Nat) : rd (xs.map fun (x : Nat) => (x : Int)) (i : Int) = ((xs.getD i 0 : Nat) : Int) := by
  unfold rd
  rw [Int.toNat_natCast, List.getD_eq_getElem?_getD, List.getD_eq_getElem?_getD, List.getElem?_map]
  cases xs[i]? <;> rfl
theorem around_ev (nx : List Nat) (n : Int) (s : Nat) (hn : nx.length ≤ 10) (hx : ∀ x ∈ nx, x < 2 ^ nx.length) (hs : s < 2 ^ nx.length) :
    Ev (fun k => fire_graph_around.f k n (nx.map fun (x : Nat) => (x : Int)) (s : Int)) (((arnd nx s : Nat) : Int), n) := by
  have hp : 2 ^ nx.length ≤ 2 ^ 10 := Nat.pow_le_pow_right (by omega) hn
  have hs' : s < 65536 := by omega
  have hb : ∀ i, nx.getD i 0 < 65536 := fun i => by
    rw [List.getD_eq_getElem?_getD]
    rcases Nat.lt_or_ge i nx.length with hv | hv
    · rw [List.getElem?_eq_getElem hv]; have := hx _ (List.getElem_mem hv); simp only [Option.getD_some]; omega
    · rw [List.getElem?_eq_none hv]; simp
  -- the loop, over a list of vertices
  have key : ∀ (m : List Nat) (pre : List Nat) (acc : Nat), acc < 65536 → (∀ v ∈ m, v < nx.length) → pre.length + m.length ≤ 10 →
      Ev (fun k => fire_graph_around.l0 k (acc : Int) ((pre ++ m).map fun (x : Nat) => (x : Int)) (((pre ++ m).map fun (x : Nat) => (x : Int)).length : Int) (pre.length : Int) n (nx.map fun (x : Nat) => (x : Int))) (((m.foldl (fun acc v => acc ||| nx.getD v 0) acc : Nat) : Int), n) := by
    intro m
    induction m with
    | nil =>
      intro pre acc ha _ hl
      refine Ev.step (f := fun _ => some ((acc : Int), n)) (fun k => ?_) (Ev.now _)
      simp only [fire_graph_around.l0]
      rw [if_neg (by simp)]
    | cons v m ih =>
      intro pre acc ha hm hl
      have hv := hm v (by simp)
      have ih' := ih (pre ++ [v]) (acc ||| nx.getD v 0) (Nat.or_lt_two_pow (n := 16) ha (hb v)) (fun u hu => hm u (by simp [hu])) (by simp at hl ⊢; omega)
      refine Ev.step (fun k => ?_) ih'
      have e0 : rd ((pre ++ v :: m).map fun (x : Nat) => (x : Int)) (pre.length : Int) = (v : Int) := by
        rw [rd_nat]
        simp [List.getD_eq_getElem?_getD]
      simp only [fire_graph_around.l0, e0]
      rw [if_pos (by simp; omega), if_pos (by omega), if_pos (by simp; omega), if_pos (by omega), if_pos (by rw [List.length_map]; omega), rd_nat, or16 _ _ ha (hb v), wrapS (by simp at hl; omega)]
      simp
  have h0 : ∀ (l : List Nat) (acc : Nat), (l.filter (fun i => s.testBit i)).foldl (fun acc v => acc ||| nx.getD v 0) acc = l.foldl (fun acc v => if s.testBit v then acc ||| nx.getD v 0 else acc) acc := by
    intro l
    induction l with
    | nil => intro acc; rfl
    | cons v l ih =>
      intro acc
      rw [List.filter_cons, List.foldl_cons]
      by_cases h : s.testBit v = true
      · rw [if_pos h, if_pos h, List.foldl_cons, ih]
      · rw [if_neg h, if_neg h, ih]
  unfold fire_graph_around.f
  refine Ev.bind (list_ev s hs') ?_
  have k := key ((List.range 10).filter (fun i => s.testBit i)) [] s hs' (fun v hv => lt_of_bit hs (by simpa using (List.mem_filter.1 hv).2)) (by have := List.length_filter_le (fun i => s.testBit i) (List.range 10); simpa using this)
  have e : (((List.range 10).filter (fun i => s.testBit i)).foldl (fun acc v => acc ||| nx.getD v 0) s) = arnd nx s := by
    rw [h0]
    apply Nat.eq_of_testBit_eq
    intro j
    unfold arnd
    rw [foldl_or_bit, Nat.testBit_or, nb_bit]
    congr 1
    rw [Bool.eq_iff_iff, List.any_eq_true, List.any_eq_true]
    constructor
    · rintro ⟨v, hv, h⟩
      have h' := h
      rw [Bool.and_eq_true] at h'
      exact ⟨v, List.mem_range.2 (lt_of_bit hs h'.1), h⟩
    · rintro ⟨v, hv, h⟩
      exact ⟨v, List.mem_range.2 (Nat.lt_of_lt_of_le (List.mem_range.1 hv) hn), h⟩
  rw [e] at k
  exact k
theorem size_is (s : Nat) (hs : s < 65536) : fire_set_size.f (s : Int) = some ((popc 16 s : Nat) : Int) := by
  unfold fire_set_size.f bits_OnesCount16.f
  rw [if_pos (by omega), if_pos (by omega), Int.toNat_natCast]
  rfl
theorem compare_is (a b : Int) : cmp_Compare_int.f a b = some (if a < b then -1 else if b < a then 1 else 0) := by
  unfold cmp_Compare_int.f cmp_isNaN_int.f
  simp only [bne_self_eq_false, Option.bind_some, Bool.false_eq_true, if_false]
  split <;> (try split) <;> first | rfl | (split <;> first | rfl | omega) | omega
theorem slices_compare_ev (l m : List Int) (hl : l.length < 2 ^ 30) : Ev (fun k => (slices_Compare_int_int.f k l m).bind fun t => some (decide (t < 0))) (lexLt l m) := by
  have key : ∀ (a b p q : List Int), p.length = q.length → p.length + a.length < 2 ^ 30 → 
      Ev (fun k => (slices_Compare_int_int.l0 k (p ++ a) (q ++ b) (p ++ a) ((p ++ a).length : Int) (p.length : Int)).bind fun t => some (decide (t < 0))) (lexLt a b) := by
    intro a
    induction a with
    | nil =>
      intro b p q hpq hb
      refine Ev.step (f := fun _ => some (lexLt [] b)) (fun k => ?_) (Ev.now _)
      simp only [slices_Compare_int_int.l0]
      rw [if_neg (by simp)]
      cases b with
      | nil => simp [hpq, lexLt]
      | cons y b => rw [if_pos (by simp; omega)]; rfl
    | cons x a ih =>
      intro b p q hpq hb
      cases b with
      | nil =>
        refine Ev.step (f := fun _ => some (lexLt (x :: a) [])) (fun k => ?_) (Ev.now _)
        simp only [slices_Compare_int_int.l0]
        rw [if_pos (by simp; omega), if_pos (by omega), if_pos (by simp; omega), if_pos (by simp; omega)]
        rfl
      | cons y b =>
        have e0 : rd (p ++ x :: a) (p.length : Int) = x := by unfold rd; simp [List.getD_eq_getElem?_getD]
        have e1 : rd (q ++ y :: b) (p.length : Int) = y := by unfold rd; rw [hpq]; simp [List.getD_eq_getElem?_getD]
        by_cases hxy : x = y
        · subst hxy
          have ih' := ih b (p ++ [x]) (q ++ [x]) (by simp [hpq]) (by simp at hb ⊢; omega)
          have e2 : lexLt (x :: a) (x :: b) = lexLt a b := by simp [lexLt]
          rw [e2]
          refine Ev.step (fun k => ?_) ih'
          simp only [slices_Compare_int_int.l0, e0, e1]
          rw [if_pos (by simp; omega), if_pos (by omega), if_pos (by simp; omega), if_neg (by simp; omega), if_pos (by simp; omega), compare_is, Option.bind_some, if_neg (Int.lt_irrefl x), if_neg (Int.lt_irrefl x), if_pos rfl, wrapS (by simp at hb; omega)]
          simp
        · refine Ev.step (f := fun _ => some (lexLt (x :: a) (y :: b))) (fun k => ?_) (Ev.now _)
          simp only [slices_Compare_int_int.l0, e0, e1]
          rw [if_pos (by simp; omega), if_pos (by omega), if_pos (by simp; omega), if_neg (by simp; omega), if_pos (by simp; omega), compare_is, Option.bind_some]
          simp only [lexLt, if_neg hxy]
          by_cases h : x < y
          · simp [h]
          · have : y < x := by omega
            simp [h, this]
  exact key l m [] [] rfl (by simpa using hl)
theorem better_ev (p q : Int × List Int) (h : p.2.length < 2 ^ 30) : Ev (fun k => fire_plan_better.f k p.1 p.2 q.1 q.2) (betterP p q) := by
  unfold fire_plan_better.f betterP
  by_cases e : p.1 = q.1
  · simp only [if_pos e]
    by_cases e2 : p.2.length = q.2.length
    · have e3 : (p.2.length : Int) = (q.2.length : Int) := by omega
      simp only [if_pos e2, if_pos e3]
      exact slices_compare_ev _ _ h
    · have e3 : ¬ (p.2.length : Int) = (q.2.length : Int) := by omega
      simp only [if_neg e2, if_neg e3]
      refine Ev.congr (fun k => ?_) (Ev.now _)
      congr 1
      simp
  · simp only [if_neg e]
    exact Ev.congr (fun k => rfl) (Ev.now _)
end Go.Proofs.YtbgpnkchbcgekaaDoor.Fi
end
section
namespace Go.Proofs.YtbgpnkchbcgekaaDoor.Fi
open Go.RowKit Go.Proofs.YtbgpnkchbcgekaaDoorW.PrintWords Go.Proofs.YtbgpnkchbcgekaaDoorW.PrintLast Go.Proofs.YtbgpnkchbcgekaaDoorW.PrintMore Wog
set_option linter.unusedVariables false
theorem more16 {nx : List Nat} (hn : nx.length ≤ 10) (hx : ∀ x ∈ nx, x < 2 ^ nx.length) {B D : Nat} (hB : B < 2 ^ nx.length) (hD : D < 2 ^ nx.length) :
    Go.bits .andNot .u16 (Go.bits .andNot .u16 ((arnd nx B : Nat) : Int) (B : Int)) (D : Int) = ((moreS nx B D : Nat) : Int) := by
  have h16 : ∀ {x : Nat}, x < 2 ^ nx.length → x < 65536 := fun h => Nat.lt_of_lt_of_le h (Nat.le_trans (Nat.pow_le_pow_right (by omega) hn) (by omega))
  rw [andNot16 _ _ (h16 (arnd_lt hx hB)) (h16 hB)]
  exact andNot16 _ _ (h16 (diff_le _ _ _ (arnd_lt hx hB))) (h16 hD)
theorem toI_snoc (xs : List Nat) (x : Nat) : toI xs ++ [(x : Int)] = toI (xs ++ [x]) := by simp [toI]
theorem drop_cons {α : Type} {l : List α} {j : Nat} {d : α} {p : List α} (h : l.drop j = d :: p) : j < l.length ∧ l[j]? = some d ∧ l.drop (j + 1) = p := by
  have hj : j < l.length := by
    rcases Nat.lt_or_ge j l.length with h1 | h1
    · exact h1
    · rw [List.drop_eq_nil_of_le h1] at h; cases h
  rw [List.drop_eq_getElem_cons hj] at h
  injection h with h1 h2
  exact ⟨hj, by rw [List.getElem?_eq_getElem hj, h1], h2⟩
def playOut (n : Int) (o : Option (List Nat)) (out : List Nat) : List Int × Bool × Int := match o with
  | some q => (toI (out ++ q), true, n)
  | none => ([], false, n)
theorem play_ev (nx : List Nat) (n : Int) (hnn : n = nx.length) (hn : nx.length ≤ 10) (hx : ∀ x ∈ nx, x < 2 ^ nx.length) (plan : List Int) (hp : plan.length < 2 ^ 39) (f : Nat) (hf : f < nx.length) :
    Ev (fun k => fire_graph_play.f k n (toI nx) (f : Int) plan) (playOut n (playS nx plan (2 ^ f) 0) []) := by
  have h16 : ∀ {x : Nat}, x < 2 ^ nx.length → x < 65536 := fun h => Nat.lt_of_lt_of_le h (Nat.le_trans (Nat.pow_le_pow_right (by omega) hn) (by omega))
  -- the rounds behind the plan
  have key0 : ∀ (m j B D : Nat) (out : List Nat), plan.length ≤ j → j + m < 2 ^ 40 → B < 2 ^ nx.length → D < 2 ^ nx.length → zer nx.length B ≤ m → out.length + m ≤ 2 ^ 41 →
      Ev (fun k => fire_graph_play.j1 k plan (toI out) (B : Int) (D : Int) (j : Int) n (toI nx)) (playOut n (some (playN nx nx.length B D)) out) := by
    intro m
    induction m with
    | zero =>
      intro j B D out hj hjm hB hD hz hl
      refine Ev.step (fun k => by simp only [fire_graph_play.j1]; rfl) ?_
      refine Ev.bind (around_ev nx n B hn hx hB) ?_
      simp only [more16 hn hx hB hD]
      rw [playN_unfold hx hB, if_pos (zer_zero hx hB D (by omega)), zer_zero hx hB D (by omega)]
      refine Ev.step (f := fun k => some (toI out, true, n)) (fun k => ?_) ?_
      · simp only [fire_graph_play.j2]
        rw [if_pos (show ((0 : Nat) : Int) = 0 from rfl), if_pos (by simp; omega)]
      · simpa [playOut] using Ev.now (toI out, true, n)
    | succ m ih =>
      intro j B D out hj hjm hB hD hz hl
      refine Ev.step (fun k => by simp only [fire_graph_play.j1]; rfl) ?_
      refine Ev.bind (around_ev nx n B hn hx hB) ?_
      simp only [more16 hn hx hB hD]
      rw [playN_unfold hx hB]
      by_cases h : moreS nx B D = 0
      · rw [if_pos h, h]
        refine Ev.step (f := fun k => some (toI out, true, n)) (fun k => ?_) ?_
        · simp only [fire_graph_play.j2]
          rw [if_pos (show ((0 : Nat) : Int) = 0 from rfl), if_pos (by simp; omega)]
        · simpa [playOut] using Ev.now (toI out, true, n)
      · rw [if_neg h]
        have hlt := zer_more hx hB h
        have hB' := Nat.or_lt_two_pow hB (moreS_lt hx hB D)
        have ih' := ih (j + 1) (B ||| moreS nx B D) D (out ++ [moreS nx B D]) (by omega) (by omega) hB' hD (by omega) (by simp; omega)
        have hne : ¬ (((moreS nx B D : Nat) : Int) = 0) := by omega
        refine Ev.step (f := fun k => fire_graph_play.l0 k plan (toI (out ++ [moreS nx B D])) (((B ||| moreS nx B D : Nat)) : Int) (D : Int) ((j + 1 : Nat) : Int) n (toI nx)) (fun k => ?_) ?_
        · simp only [fire_graph_play.j2]
          rw [if_neg hne, if_neg (by simp), if_neg hne, if_pos (by rw [toI_length]; omega), or16 _ _ (h16 hB) (h16 (moreS_lt hx hB D)), wrapS (by omega), toI_snoc]
        · refine Ev.step (f := fun k => fire_graph_play.j1 k plan (toI (out ++ [moreS nx B D])) (((B ||| moreS nx B D : Nat)) : Int) (D : Int) ((j + 1 : Nat) : Int) n (toI nx)) (fun k => ?_) ?_
          · simp only [fire_graph_play.l0]
            rw [if_neg (by omega)]
          · have e : playOut n (some (moreS nx B D :: playN nx nx.length (B ||| moreS nx B D) D)) out = playOut n (some (playN nx nx.length (B ||| moreS nx B D) D)) (out ++ [moreS nx B D]) := by simp [playOut]
            rw [e]
            exact ih'
  have key : ∀ (p : List Int) (j B D : Nat) (out : List Nat), plan.drop j = p → j + p.length = plan.length → B < 2 ^ nx.length → D < 2 ^ nx.length → out.length ≤ j →
      Ev (fun k => fire_graph_play.l0 k plan (toI out) (B : Int) (D : Int) (j : Int) n (toI nx)) (playOut n (playS nx p B D) out) := by
    intro p
    induction p with
    | nil =>
      intro j B D out hd hjp hB hD ho
      refine Ev.step (f := fun k => fire_graph_play.j1 k plan (toI out) (B : Int) (D : Int) (j : Int) n (toI nx)) (fun k => ?_) (key0 nx.length j B D out (by simp at hjp; omega) (by simp at hjp; omega) hB hD (zer_le _ _) (by simp at hjp; omega))
      simp only [fire_graph_play.l0]
      rw [if_neg (by simp at hjp; omega)]
    | cons d p ih =>
      intro j B D out hd hjp hB hD ho
      obtain ⟨hj, hget, hd'⟩ := drop_cons hd
      have hrd : rd plan (j : Int) = d := by
        unfold rd
        rw [Int.toNat_natCast, List.getD_eq_getElem?_getD, hget]; rfl
      have hjp' : j + 1 + p.length = plan.length := by simp at hjp; omega
      by_cases h0 : d < 0
      · refine Ev.step (f := fun k => some ([], false, n)) (fun k => ?_) ?_
        · simp only [fire_graph_play.l0, hrd]
          rw [if_pos (by omega), if_pos (by omega), if_pos h0]
        · rw [playS, if_neg (by omega)]
          exact Ev.now _
      · by_cases h1 : d ≥ n
        · refine Ev.step (f := fun k => some ([], false, n)) (fun k => ?_) ?_
          · simp only [fire_graph_play.l0, hrd]
            rw [if_pos (by omega), if_pos (by omega), if_neg h0, if_pos h1]
          · rw [playS, if_neg (by omega)]
            exact Ev.now _
        · obtain ⟨e, rfl⟩ := Int.eq_ofNat_of_zero_le (show 0 ≤ d by omega)
          have hBD := Nat.or_lt_two_pow hB hD
          have hhas := has_is (B ||| D) e (h16 hBD)
          have hor : Go.bits .or .u16 (B : Int) (D : Int) = ((B ||| D : Nat) : Int) := or16 _ _ (h16 hB) (h16 hD)
          have he : e < nx.length := by omega
          have hp2 : 2 ^ e < 2 ^ nx.length := Nat.pow_lt_pow_right (by omega) he
          by_cases hb : (B ||| D).testBit e = true
          · refine Ev.step (f := fun k => some ([], false, n)) (fun k => ?_) ?_
            · simp only [fire_graph_play.l0, hrd]
              rw [if_pos (by omega), if_pos (by omega), if_neg h0, if_neg h1, hor, hhas, Option.bind_some, if_pos hb]
            · rw [playS, if_neg (by simp [hb])]
              exact Ev.now _
          · rw [Bool.not_eq_true] at hb
            have hD' : D ||| 2 ^ e < 2 ^ nx.length := Nat.or_lt_two_pow hD hp2
            refine Ev.step (f := fun k => fire_graph_play.j1 k plan (toI out) (B : Int) ((D ||| 2 ^ e : Nat) : Int) (j : Int) n (toI nx)) (fun k => ?_) ?_
            · simp only [fire_graph_play.l0, hrd]
              rw [if_pos (by omega), if_pos (by omega), if_neg h0, if_neg h1, hor, hhas, Option.bind_some, hb, if_neg (by simp), if_pos (by omega), shl16 e (by omega), or16 _ _ (h16 hD) (h16 hp2)]
            · rw [playS, if_pos ⟨by omega, by omega, by simpa using hb⟩, Int.toNat_natCast]
              refine Ev.step (fun k => by simp only [fire_graph_play.j1]; rfl) ?_
              refine Ev.bind (around_ev nx n B hn hx hB) ?_
              simp only [more16 hn hx hB hD']
              have hge : decide (((j : Nat) : Int) ≥ (plan.length : Int)) = false := by simp; omega
              obtain ⟨M, hM⟩ : ∃ M, M = moreS nx B (D ||| 2 ^ e) := ⟨_, rfl⟩
              have hML : M < 2 ^ nx.length := by rw [hM]; exact moreS_lt hx hB _
              rw [← hM]
              by_cases h : M = 0
              · subst h
                have ih' := ih (j + 1) (B ||| 0) (D ||| 2 ^ e) out hd' hjp' (by simpa using hB) hD' (by omega)
                refine Ev.step (f := fun k => fire_graph_play.l0 k plan (toI out) ((B ||| 0 : Nat) : Int) ((D ||| 2 ^ e : Nat) : Int) ((j + 1 : Nat) : Int) n (toI nx)) (fun k => ?_) ?_
                · simp only [fire_graph_play.j2]
                  rw [if_pos (show ((0 : Nat) : Int) = 0 from rfl), if_neg (by rw [hge]; simp), if_pos (show ((0 : Nat) : Int) = 0 from rfl), or16 _ _ (h16 hB) (by omega), wrapS (by omega)]
                · have e1 : ∀ q : Option (List Nat), (q.map fun o => if (0 : Nat) = 0 then o else 0 :: o) = q := fun q => by cases q <;> simp
                  rw [e1]
                  exact ih'
              · have ih' := ih (j + 1) (B ||| M) (D ||| 2 ^ e) (out ++ [M]) hd' hjp' (Nat.or_lt_two_pow hB hML) hD' (by simp; omega)
                have hne : ¬ ((M : Int) = 0) := by omega
                refine Ev.step (f := fun k => fire_graph_play.l0 k plan (toI (out ++ [M])) ((B ||| M : Nat) : Int) ((D ||| 2 ^ e : Nat) : Int) ((j + 1 : Nat) : Int) n (toI nx)) (fun k => ?_) ?_
                · simp only [fire_graph_play.j2]
                  rw [if_neg hne, if_neg (by simp), if_neg hne, if_pos (by rw [toI_length]; omega), or16 _ _ (h16 hB) (h16 hML), wrapS (by omega), toI_snoc]
                · have e1 : ∀ q : Option (List Nat), playOut n (q.map fun o => if M = 0 then o else M :: o) out = playOut n q (out ++ [M]) := fun q => by cases q <;> simp [h, playOut]
                  rw [e1]
                  exact ih'
  have hp2 : 2 ^ f < 2 ^ nx.length := Nat.pow_lt_pow_right (by omega) hf
  have k := key plan 0 (2 ^ f) 0 [] (by simp) (by simp) hp2 (Nat.two_pow_pos _) (by simp)
  refine Ev.congr (fun k => ?_) k
  unfold fire_graph_play.f
  rw [if_pos (by omega), shl16 f (by omega)]
  rfl
end Go.Proofs.YtbgpnkchbcgekaaDoor.Fi
end
section
namespace Go.Proofs.YtbgpnkchbcgekaaDoor.Fi
open Go.RowKit Go.Proofs.YtbgpnkchbcgekaaDoorW.PrintWords Go.Proofs.YtbgpnkchbcgekaaDoorW.PrintLast Go.Proofs.YtbgpnkchbcgekaaDoorW.PrintMore Wog
set_option linter.unusedVariables false
theorem lt16' {nx : List Nat} (hn : nx.length ≤ 10) {x : Nat} (h : x < 2 ^ nx.length) : x < 65536 := Nat.lt_of_lt_of_le h (Nat.le_trans (Nat.pow_le_pow_right (by omega) hn) (by omega))
theorem reach_ev (nx : List Nat) (n : Int) (hn : nx.length ≤ 10) (hx : ∀ x ∈ nx, x < 2 ^ nx.length) (v D : Nat) (hv : v < nx.length) (hD : D < 2 ^ nx.length) (hd : D.testBit v = false) :
    Ev (fun k => fire_graph_reach.f k n (toI nx) (v : Int) (D : Int)) (((reachS nx D v : Nat) : Int), n) := by
  have key : ∀ (m s R : Nat), s < 2 ^ nx.length → cloF nx D m s = some R → Ev (fun k => fire_graph_reach.l0 k (D : Int) (s : Int) n (toI nx)) ((R : Int), n) := by
    intro m
    induction m with
    | zero => intro s R _ h; simp [cloF] at h
    | succ m ih =>
      intro s R hs h
      rw [cloF] at h
      refine Ev.step (fun k => by simp only [fire_graph_reach.l0]; rfl) ?_
      refine Ev.bind (around_ev nx n s hn hx hs) ?_
      have e : Go.bits .andNot .u16 ((arnd nx s : Nat) : Int) (D : Int) = ((diff (arnd nx s) D : Nat) : Int) := andNot16 _ _ (lt16' hn (arnd_lt hx hs)) (lt16' hn hD)
      simp only [e]
      by_cases hq : diff (arnd nx s) D = s
      · rw [if_pos hq] at h
        obtain rfl := Option.some.inj h
        simp only [if_pos (show ((diff (arnd nx s) D : Nat) : Int) = (s : Int) by rw [hq])]
        exact Ev.now _
      · rw [if_neg hq] at h
        simp only [if_neg (show ¬ ((diff (arnd nx s) D : Nat) : Int) = (s : Int) by omega)]
        exact ih _ _ (diff_le _ _ _ (arnd_lt hx hs)) h
  have k := key _ _ _ (Nat.pow_lt_pow_right (by omega) hv) (reach_is hx hv hd).1
  refine Ev.congr (fun k => ?_) k
  unfold fire_graph_reach.f
  rw [if_pos (by omega), shl16 v (by omega)]
theorem toI_rd (xs : List Nat) (j : Nat) (h : j < xs.length) : rd (toI xs) (j : Int) = ((xs[j] : Nat) : Int) := by
  unfold rd toI
  rw [Int.toNat_natCast, List.getD_eq_getElem?_getD, List.getElem?_map, List.getElem?_eq_getElem h]; rfl
theorem balls_ev (nx : List Nat) (n : Int) (hnn : n = nx.length) (hn : nx.length ≤ 10) (hx : ∀ x ∈ nx, x < 2 ^ nx.length) :
    Ev (fun k => fire_graph_balls.f k n (toI nx)) ((ballsS nx).map toI, n) := by
  have key1 : ∀ (d r v : Nat) (out : List (List Int)) (res : List (List Int) × Int), r + d = nx.length → 1 ≤ r → v < nx.length → out.length ≤ 10 →
      Ev (fun k => fire_graph_balls.l0 k (out ++ [toI (ballsRow nx v)]) n ((v + 1 : Nat) : Int) n (toI nx)) res →
      Ev (fun k => fire_graph_balls.l1 k out (toI ((List.range r).map (ball nx v))) (r : Int) n (v : Int) n (toI nx)) res := by
    intro d
    induction d with
    | zero =>
      intro r v out res hr h1 hv ho h
      obtain rfl : r = nx.length := by omega
      refine Ev.step (fun k => ?_) h
      simp only [fire_graph_balls.l1]
      rw [if_neg (by omega), if_pos (by omega), wrapS (by omega)]
      rfl
    | succ d ih =>
      intro r v out res hr h1 hv ho h
      have hlen : ((List.range r).map (ball nx v)).length = r := by simp
      have hwr : wrap64 ((r : Int) - 1) = ((r - 1 : Nat) : Int) := by unfold wrap64; omega
      have hrd : rd (toI ((List.range r).map (ball nx v))) ((r - 1 : Nat) : Int) = ((ball nx v (r - 1) : Nat) : Int) := by
        rw [toI_rd _ _ (by rw [hlen]; omega)]
        simp
      have hsn : toI ((List.range r).map (ball nx v)) ++ [((arnd nx (ball nx v (r - 1)) : Nat) : Int)] = toI ((List.range (r + 1)).map (ball nx v)) := by
        rw [toI_snoc, List.range_succ, List.map_append]
        congr 2
        obtain ⟨q, rfl⟩ : ∃ q, r = q + 1 := ⟨r - 1, by omega⟩
        rfl
      refine Ev.step (f := fun k => (fire_graph_around.f k n (toI nx) ((ball nx v (r - 1) : Nat) : Int)).bind fun bt147 => fire_graph_balls.l1 k out (toI ((List.range r).map (ball nx v)) ++ [bt147.1]) ((r + 1 : Nat) : Int) n (v : Int) bt147.2 (toI nx)) (fun k => ?_) ?_
      · simp only [fire_graph_balls.l1]
        rw [if_pos (by omega), hwr, if_pos (by omega), if_pos (by rw [toI_length, hlen]; omega), hrd, wrapS (by omega)]
        simp only [toI_length, hlen]
        congr 1
        funext bt
        rw [if_pos (by omega)]
      · refine Ev.bind (around_ev nx n _ hn hx (ball_lt hx hv _)) ?_
        simp only [hsn]
        exact ih (r + 1) v out res (by omega) (by omega) hv ho h
  have key0 : ∀ (d v : Nat), v + d = nx.length → Ev (fun k => fire_graph_balls.l0 k (((List.range v).map (ballsRow nx)).map toI) n (v : Int) n (toI nx)) ((ballsS nx).map toI, n) := by
    intro d
    induction d with
    | zero =>
      intro v hv
      obtain rfl : v = nx.length := by omega
      refine Ev.step (f := fun _ => some ((ballsS nx).map toI, n)) (fun k => ?_) (Ev.now _)
      simp only [fire_graph_balls.l0]
      rw [if_neg (by omega)]
      rfl
    | succ d ih =>
      intro v hv
      have ih' := ih (v + 1) (by omega)
      refine Ev.step (f := fun k => fire_graph_balls.l1 k (((List.range v).map (ballsRow nx)).map toI) (toI ((List.range 1).map (ball nx v))) ((1 : Nat) : Int) n (v : Int) n (toI nx)) (fun k => ?_) ?_
      · simp only [fire_graph_balls.l0]
        rw [if_pos (by omega), if_pos (by omega), shl16 v (by omega)]
        rfl
      · refine key1 (nx.length - 1) 1 v _ _ (by omega) (by omega) (by omega) (by simp; omega) ?_
        rw [List.range_succ, List.map_append, List.map_append] at ih'
        exact ih'
  have k := key0 nx.length 0 (by omega)
  subst hnn
  exact k
end Go.Proofs.YtbgpnkchbcgekaaDoor.Fi
end
