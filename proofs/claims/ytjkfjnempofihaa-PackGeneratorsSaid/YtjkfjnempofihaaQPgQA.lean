/- Plain: monomials, ideals, parts, duals, numerators. -/
import Derived.Test.YtjkfjnempofihaaQPgE16
import Derived.Test.YtjkfjnempofihaaQPgE15
namespace Go.Proofs.Ytjkfjnempofihaa.Fi
open Go.RowKit Go.Shelf Go.Lib Go.Proofs.YtjkfjnempofihaaW.PrintWords
set_option linter.unusedVariables false
set_option linter.unusedSimpArgs false
/-- Two sorted lists with the same members are the same. -/
theorem sorted_eq {α : Type} {r : α → α → Prop} (irr : ∀ a, ¬ r a a) (tr : ∀ a b c, r a b → r b c → r a c) : ∀ (l k : List α), l.Pairwise r → k.Pairwise r → (∀ x, x ∈ l ↔ x ∈ k) → l = k
  | [], [], _, _, _ => rfl
  | [], b :: k, _, _, h => absurd ((h b).2 List.mem_cons_self) (by simp)
  | a :: l, [], _, _, h => absurd ((h a).1 List.mem_cons_self) (by simp)
  | a :: l, b :: k, hl, hk, h => by
    rw [List.pairwise_cons] at hl hk
    have hab : a = b := by
      rcases List.mem_cons.1 ((h a).1 List.mem_cons_self) with e | e
      · exact e
      · rcases List.mem_cons.1 ((h b).2 List.mem_cons_self) with e2 | e2
        · exact e2.symm
        · exact absurd (tr _ _ _ (hk.1 a e) (hl.1 b e2)) (irr _)
    subst hab
    rw [sorted_eq irr tr l k hl.2 hk.2 (fun x => ?_)]
    constructor
    · intro hx
      rcases List.mem_cons.1 ((h x).1 (List.mem_cons_of_mem _ hx)) with e | e
      · subst e; exact absurd (hl.1 x hx) (irr _)
      · exact e
    · intro hx
      rcases List.mem_cons.1 ((h x).2 (List.mem_cons_of_mem _ hx)) with e | e
      · subst e; exact absurd (hk.1 x hx) (irr _)
      · exact e
theorem ltM_irr (a : M4) : ¬ ltM a a := by simp only [ltM]; omega
theorem ltM_tr (a b c : M4) (h1 : ltM a b) (h2 : ltM b c) : ltM a c := by simp only [ltM] at *; omega
/-- What is kept of a list: the members that no other one is below, each once. -/
theorem lstS_fold (bel : M4 → M4 → Bool) (l : List M4) : ∀ (k out : List M4), out.Nodup → (∀ x, x ∈ k.foldl (lstS bel l) out ↔ x ∈ out ∨ (x ∈ k ∧ ∀ y ∈ l, y ≠ x → bel y x = false)) ∧ (k.foldl (lstS bel l) out).Nodup
  | [], out, h => ⟨fun x => by simp, h⟩
  | a :: k, out, h => by
    rw [List.foldl_cons]
    have hn : (lstS bel l out a).Nodup := by
      unfold lstS
      split
      · rename_i hc
        rw [Bool.and_eq_true, Bool.not_eq_true', Bool.not_eq_true', List.any_eq_false, List.any_eq_false] at hc
        rw [List.nodup_append]
        refine ⟨h, by simp, ?_⟩
        intro x hx y hy e
        rw [List.mem_singleton] at hy
        subst hy
        subst e
        exact hc.2 x hx (by simp)
      · exact h
    have ih := lstS_fold bel l k (lstS bel l out a) hn
    refine ⟨fun x => ?_, ih.2⟩
    rw [ih.1 x]
    have hm : x ∈ lstS bel l out a ↔ x ∈ out ∨ (x = a ∧ ∀ y ∈ l, y ≠ x → bel y x = false) := by
      unfold lstS
      split
      · rename_i hc
        rw [Bool.and_eq_true, Bool.not_eq_true', Bool.not_eq_true', List.any_eq_false] at hc
        rw [List.mem_append, List.mem_singleton]
        constructor
        · rintro (h1 | h1)
          · exact .inl h1
          · refine .inr ⟨h1, fun y hy hne => ?_⟩
            subst h1
            have := hc.1 y hy
            simp only [Bool.and_eq_true, decide_eq_true_eq, not_and, Bool.not_eq_true] at this
            exact this hne
        · rintro (h1 | h1)
          · exact .inl h1
          · exact .inr h1.1
      · rename_i hc
        constructor
        · exact .inl
        · rintro (h1 | ⟨rfl, h1⟩)
          · exact h1
          · by_cases hx : x ∈ out
            · exact hx
            · exfalso
              apply hc
              rw [Bool.and_eq_true, Bool.not_eq_true', Bool.not_eq_true', List.any_eq_false, List.any_eq_false]
              refine ⟨fun y hy => ?_, fun y hy => ?_⟩
              · simp only [Bool.and_eq_true, decide_eq_true_eq, not_and, Bool.not_eq_true]
                exact h1 y hy
              · simp only [decide_eq_true_eq]
                intro e
                subst e
                exact hx hy
    rw [hm, List.mem_cons]
    constructor
    · rintro ((h1 | h1) | h1)
      · exact .inl h1
      · exact .inr ⟨.inl h1.1, h1.2⟩
      · exact .inr ⟨.inr h1.1, h1.2⟩
    · rintro (h1 | ⟨h1 | h1, h2⟩)
      · exact .inl (.inl h1)
      · exact .inl (.inr ⟨h1, h2⟩)
      · exact .inr ⟨h1, h2⟩
theorem srtM_perm (l : List M4) : (srtM l).Perm l := List.mergeSort_perm _ _
theorem srtM_pair (l : List M4) (h : l.Nodup) : (srtM l).Pairwise ltM := by
  have h1 : (srtM l).Pairwise (fun a b => (!(ltOf cmpM) b a) = true) := by
    refine List.pairwise_mergeSort (fun a b c => ?_) (fun a b => ?_) l
    · rw [ltOf_cmpM, ltOf_cmpM, ltOf_cmpM]
      intro h1 h2
      rw [Bool.not_eq_true', decide_eq_false_iff_not] at *
      simp only [ltM] at *
      omega
    · rw [ltOf_cmpM, ltOf_cmpM]
      rw [Bool.or_eq_true, Bool.not_eq_true', Bool.not_eq_true', decide_eq_false_iff_not, decide_eq_false_iff_not]
      simp only [ltM] at *
      omega
  have h2 : (srtM l).Nodup := (srtM_perm l).nodup_iff.2 h
  refine (h1.and h2).imp ?_
  rintro a b ⟨h1, h2⟩
  rw [ltOf_cmpM, Bool.not_eq_true', decide_eq_false_iff_not] at h1
  by_cases h3 : ltM a b
  · exact h3
  · exact absurd (ltM_tot a b h3 h1) h2
theorem mem_lstM (bel : M4 → M4 → Bool) (l : List M4) (x : M4) : x ∈ lstM bel l ↔ x ∈ l ∧ ∀ y ∈ l, y ≠ x → bel y x = false := by
  unfold lstM
  rw [(srtM_perm _).mem_iff, (lstS_fold bel l l [] List.nodup_nil).1 x]
  simp
theorem lstM_pair (bel : M4 → M4 → Bool) (l : List M4) : (lstM bel l).Pairwise ltM := srtM_pair _ (lstS_fold bel l l [] List.nodup_nil).2
/-- All numbers are at least 0. -/
def Nn (m : M4) : Prop := 0 ≤ m.1 ∧ 0 ≤ m.2.1 ∧ 0 ≤ m.2.2.1 ∧ 0 ≤ m.2.2.2
def dv (a b : M4) : Prop := a.1 ≤ b.1 ∧ a.2.1 ≤ b.2.1 ∧ a.2.2.1 ≤ b.2.2.1 ∧ a.2.2.2 ≤ b.2.2.2
instance (a b : M4) : Decidable (dv a b) := by unfold dv; infer_instance
theorem divM_iff (a b : M4) : divM a b = true ↔ dv a b := by
  obtain ⟨a0, a1, a2, a3⟩ := a
  obtain ⟨b0, b1, b2, b3⟩ := b
  unfold divM lcmM dv
  rw [decide_eq_true_iff]
  simp only [Prod.mk.injEq]
  omega
theorem dv_refl (a : M4) : dv a a := by unfold dv; omega
theorem dv_tr {a b c : M4} (h1 : dv a b) (h2 : dv b c) : dv a c := by unfold dv at *; omega
theorem m4_ext {a b : M4} (h0 : a.1 = b.1) (h1 : a.2.1 = b.2.1) (h2 : a.2.2.1 = b.2.2.1) (h3 : a.2.2.2 = b.2.2.2) : a = b := by
  obtain ⟨a0, a1, a2, a3⟩ := a
  obtain ⟨b0, b1, b2, b3⟩ := b
  simp only at h0 h1 h2 h3
  rw [h0, h1, h2, h3]
theorem dv_anti {a b : M4} (h1 : dv a b) (h2 : dv b a) : a = b := by
  unfold dv at *
  exact m4_ext (by omega) (by omega) (by omega) (by omega)
/-- Each power of the one part is in the other. -/
def wi1 (x y : Int) : Prop := 0 < x → 0 < y ∧ y ≤ x
def wi (a b : M4) : Prop := wi1 a.1 b.1 ∧ wi1 a.2.1 b.2.1 ∧ wi1 a.2.2.1 b.2.2.1 ∧ wi1 a.2.2.2 b.2.2.2
theorem wiI_iff {x y : Int} (hy : 0 ≤ y) : wiI x y = true ↔ wi1 x y := by
  unfold wiI wi1
  by_cases h : y = 0
  · subst h
    simp
  · have h1 : (y == 0) = false := beq_eq_false_iff_ne.2 h
    rw [h1, Bool.false_or, Bool.not_eq_true', Bool.and_eq_false_iff, decide_eq_false_iff_not, decide_eq_false_iff_not]
    omega
theorem wiM_iff {a b : M4} (hb : Nn b) : wiM a b = true ↔ wi a b := by
  unfold wiM wi
  rw [Bool.and_eq_true, Bool.and_eq_true, Bool.and_eq_true, wiI_iff hb.1, wiI_iff hb.2.1, wiI_iff hb.2.2.1, wiI_iff hb.2.2.2, and_assoc, and_assoc]
theorem wi_refl (a : M4) : wi a a := by unfold wi wi1; omega
theorem wi_tr {a b c : M4} (h1 : wi a b) (h2 : wi b c) : wi a c := by unfold wi wi1 at *; omega
theorem wi_anti {a b : M4} (ha : Nn a) (hb : Nn b) (h1 : wi a b) (h2 : wi b a) : a = b := by
  unfold wi wi1 Nn at *
  exact m4_ext (by omega) (by omega) (by omega) (by omega)
/-- A list has below each of its members one that none is below. -/
theorem least_below {α : Type} (r : α → α → Prop) (rf : ∀ a, r a a) (tr : ∀ a b c, r a b → r b c → r a c) : ∀ (n : Nat) (l : List α), l.length ≤ n → (∀ a ∈ l, ∀ b ∈ l, r a b → r b a → a = b) → ∀ x ∈ l, ∃ y ∈ l, r y x ∧ ∀ z ∈ l, z ≠ y → ¬ r z y
  | 0, l, hl, _, x, hx => by cases l with | nil => cases hx | cons => simp at hl
  | n + 1, l, hl, an, x, hx => by
    classical
    by_cases h : ∃ z ∈ l, z ≠ x ∧ r z x
    · obtain ⟨z, hz, hne, hr⟩ := h
      have hsub : ∀ a, a ∈ l.filter (fun a => decide (r a z)) ↔ a ∈ l ∧ r a z := fun a => by simp
      have hlen : (l.filter (fun a => decide (r a z))).length < l.length := by
        rw [← Nat.not_le]
        intro hle
        have := (List.length_filter_eq_length_iff (l := l) (p := fun a => decide (r a z))).1 (Nat.le_antisymm (List.length_filter_le _ _) hle) x hx
        exact hne (an z hz x hx hr (by simpa using this))
      obtain ⟨y, hy, hyr, hmin⟩ := least_below r rf tr n (l.filter (fun a => decide (r a z))) (by omega) (fun a ha b hb => an a ((hsub a).1 ha).1 b ((hsub b).1 hb).1) z ((hsub z).2 ⟨hz, rf z⟩)
      have hy2 := (hsub y).1 hy
      refine ⟨y, hy2.1, tr _ _ _ hyr hr, fun u hu hne2 hur => ?_⟩
      exact hmin u ((hsub u).2 ⟨hu, tr _ _ _ hur hyr⟩) hne2 hur
    · exact ⟨x, hx, rf x, fun z hz hne hr => h ⟨z, hz, hne, hr⟩⟩
/-- A monomial is in a part. -/
def in1 (x y : Int) : Prop := 0 < x ∧ x ≤ y
def inP (p m : M4) : Prop := in1 p.1 m.1 ∨ in1 p.2.1 m.2.1 ∨ in1 p.2.2.1 m.2.2.1 ∨ in1 p.2.2.2 m.2.2.2
instance (p m : M4) : Decidable (inP p m) := by unfold inP in1; infer_instance
theorem inP_wi {q p m : M4} (h : wi q p) (h2 : inP q m) : inP p m := by unfold wi wi1 inP in1 at *; omega
/-- Parts whose ideals contain all generators. -/
def CC (gs : List M4) (p : M4) : Prop := Nn p ∧ ∀ g ∈ gs, inP p g
def Rep (gs : List M4) (l : List M4) : Prop := (∀ q ∈ l, CC gs q) ∧ ∀ p, CC gs p → ∃ q ∈ l, wi q p
theorem Rep.least {gs l : List M4} (h : Rep gs l) : Rep gs (lstM wiM l) := by
  refine ⟨fun q hq => h.1 q ((mem_lstM _ _ _).1 hq).1, fun p hp => ?_⟩
  obtain ⟨q, hq, hw⟩ := h.2 p hp
  obtain ⟨y, hy, hyq, hmin⟩ := least_below wi wi_refl (fun _ _ _ => wi_tr) l.length l (Nat.le_refl _) (fun a ha b hb => wi_anti (h.1 a ha).1 (h.1 b hb).1) q hq
  refine ⟨y, (mem_lstM _ _ _).2 ⟨hy, fun z hz hne => ?_⟩, wi_tr hyq hw⟩
  rw [← Bool.not_eq_true]
  intro hc
  exact hmin z hz hne ((wiM_iff (h.1 y hy).1).1 hc)
theorem Rep.nil : Rep [] [oneM] := by
  refine ⟨fun q hq => ?_, fun p _ => ⟨oneM, List.mem_singleton.2 rfl, ?_⟩⟩
  · rw [List.mem_singleton] at hq
    subst hq
    exact ⟨by unfold Nn oneM; simp, fun g hg => by cases hg⟩
  · unfold wi wi1 oneM
    simp
/-- One variable's number of a part: that of the generator, unless the part has a smaller one. -/
def up1 (x e : Int) : Int := if x = 0 ∨ x > e then e else x
theorem updM_0 (p : M4) (e : Int) : updM p 0 e = (up1 p.1 e, p.2.1, p.2.2.1, p.2.2.2) := by
  obtain ⟨a, b, c, d⟩ := p
  unfold updM up1
  show (if a = 0 ∨ a > e then _ else _) = (if a = 0 ∨ a > e then e else a, b, c, d)
  split <;> rfl
theorem updM_1 (p : M4) (e : Int) : updM p 1 e = (p.1, up1 p.2.1 e, p.2.2.1, p.2.2.2) := by
  obtain ⟨a, b, c, d⟩ := p
  unfold updM up1
  show (if b = 0 ∨ b > e then _ else _) = (a, if b = 0 ∨ b > e then e else b, c, d)
  split <;> rfl
theorem updM_2 (p : M4) (e : Int) : updM p 2 e = (p.1, p.2.1, up1 p.2.2.1 e, p.2.2.2) := by
  obtain ⟨a, b, c, d⟩ := p
  unfold updM up1
  show (if c = 0 ∨ c > e then _ else _) = (a, b, if c = 0 ∨ c > e then e else c, d)
  split <;> rfl
theorem updM_3 (p : M4) (e : Int) : updM p 3 e = (p.1, p.2.1, p.2.2.1, up1 p.2.2.2 e) := by
  obtain ⟨a, b, c, d⟩ := p
  unfold updM up1
  show (if d = 0 ∨ d > e then _ else _) = (a, b, c, if d = 0 ∨ d > e then e else d)
  split <;> rfl
theorem mem_candT (g p x : M4) : x ∈ candT g p 4 ↔ (g.1 ≠ 0 ∧ x = (up1 p.1 g.1, p.2.1, p.2.2.1, p.2.2.2)) ∨ (g.2.1 ≠ 0 ∧ x = (p.1, up1 p.2.1 g.2.1, p.2.2.1, p.2.2.2)) ∨ (g.2.2.1 ≠ 0 ∧ x = (p.1, p.2.1, up1 p.2.2.1 g.2.2.1, p.2.2.2)) ∨ (g.2.2.2 ≠ 0 ∧ x = (p.1, p.2.1, p.2.2.1, up1 p.2.2.2 g.2.2.2)) := by
  rw [← updM_0, ← updM_1, ← updM_2, ← updM_3]
  obtain ⟨a, b, c, d⟩ := g
  simp only [candT, tl, List.getD_cons_zero, List.getD_cons_succ]
  by_cases h0 : a = 0 <;> by_cases h1 : b = 0 <;> by_cases h2 : c = 0 <;> by_cases h3 : d = 0 <;> simp [h0, h1, h2, h3, or_assoc]
theorem Rep.step {gs l : List M4} (h : Rep gs l) {g : M4} (hg : Nn g) : Rep (gs ++ [g]) (candS g l) := by
  constructor
  · intro q hq
    unfold candS at hq
    rw [List.mem_flatMap] at hq
    obtain ⟨p, hp, hq⟩ := hq
    have hc := h.1 p hp
    rw [mem_candT] at hq
    have hn : Nn q ∧ wi p q ∧ inP q g := by
      have h0 := hc.1
      rcases hq with ⟨h1, rfl⟩ | ⟨h1, rfl⟩ | ⟨h1, rfl⟩ | ⟨h1, rfl⟩ <;> (unfold Nn at *; unfold wi wi1 inP in1 up1; dsimp only; split <;> omega)
    refine ⟨hn.1, fun k hk => ?_⟩
    rw [List.mem_append, List.mem_singleton] at hk
    rcases hk with hk | rfl
    · exact inP_wi hn.2.1 (hc.2 k hk)
    · exact hn.2.2
  · intro p hp
    obtain ⟨q, hq, hw⟩ := h.2 p ⟨hp.1, fun k hk => hp.2 k (List.mem_append_left _ hk)⟩
    have hin := hp.2 g (List.mem_append_right _ (List.mem_singleton.2 rfl))
    have hqn := (h.1 q hq).1
    have hpn := hp.1
    have : ∃ x, x ∈ candT g q 4 ∧ wi x p := by
      unfold inP in1 at hin
      rcases hin with hi | hi | hi | hi
      · exact ⟨_, (mem_candT _ _ _).2 (.inl ⟨by omega, rfl⟩), by unfold wi wi1 Nn up1 at *; dsimp only; split <;> omega⟩
      · exact ⟨_, (mem_candT _ _ _).2 (.inr (.inl ⟨by omega, rfl⟩)), by unfold wi wi1 Nn up1 at *; dsimp only; split <;> omega⟩
      · exact ⟨_, (mem_candT _ _ _).2 (.inr (.inr (.inl ⟨by omega, rfl⟩))), by unfold wi wi1 Nn up1 at *; dsimp only; split <;> omega⟩
      · exact ⟨_, (mem_candT _ _ _).2 (.inr (.inr (.inr ⟨by omega, rfl⟩))), by unfold wi wi1 Nn up1 at *; dsimp only; split <;> omega⟩
    obtain ⟨x, hx, hxw⟩ := this
    exact ⟨x, List.mem_flatMap.2 ⟨q, hq, hx⟩, hxw⟩
/-- In the ideal. -/
def inI (gs : List M4) (m : M4) : Prop := ∃ g ∈ gs, dv g m
theorem inI_least (gs : List M4) (m : M4) : inI (lstM divM gs) m ↔ inI gs m := by
  constructor
  · rintro ⟨g, hg, hm⟩
    exact ⟨g, ((mem_lstM _ _ _).1 hg).1, hm⟩
  · rintro ⟨g, hg, hm⟩
    obtain ⟨y, hy, hyg, hmin⟩ := least_below dv dv_refl (fun _ _ _ => dv_tr) gs.length gs (Nat.le_refl _) (fun a _ b _ => dv_anti) g hg
    refine ⟨y, (mem_lstM _ _ _).2 ⟨hy, fun z hz hne => ?_⟩, dv_tr hyg hm⟩
    rw [← Bool.not_eq_true]
    intro hc
    exact hmin z hz hne ((divM_iff _ _).1 hc)
theorem inI_mem {gs : List M4} {g : M4} (h : g ∈ gs) : inI gs g := ⟨g, h, dv_refl g⟩
/-- A number mirrored at another one. -/
def mi1 (x y : Int) : Int := if 0 < x then y + 1 - x else x
def mir (a p : M4) : M4 := (mi1 p.1 a.1, mi1 p.2.1 a.2.1, mi1 p.2.2.1 a.2.2.1, mi1 p.2.2.2 a.2.2.2)
/-- Inclusion and exclusion. -/
def inc (f : M4 → Int) (m : M4) : List M4 → Int
  | [] => f m
  | g :: l => inc f m l - inc f (lcmM m g) l
theorem lcmM_comm (a b : M4) : lcmM a b = lcmM b a := m4_ext (Int.max_comm _ _) (Int.max_comm _ _) (Int.max_comm _ _) (Int.max_comm _ _)
theorem lcmM_swap (m a b : M4) : lcmM (lcmM m a) b = lcmM (lcmM m b) a := by
  unfold lcmM
  exact m4_ext (by dsimp only; omega) (by dsimp only; omega) (by dsimp only; omega) (by dsimp only; omega)
theorem dv_lcm {a b x : M4} : dv (lcmM a b) x ↔ dv a x ∧ dv b x := by unfold dv lcmM; dsimp only; omega
theorem lcm_left (a b : M4) : dv a (lcmM a b) := (dv_lcm.1 (dv_refl _)).1
theorem lcm_right (a b : M4) : dv b (lcmM a b) := (dv_lcm.1 (dv_refl _)).2
theorem lcm_dv {a b : M4} (h : dv b a) : lcmM a b = a := dv_anti (dv_lcm.2 ⟨dv_refl a, h⟩) (lcm_left a b)
theorem inc_perm (f : M4 → Int) {l k : List M4} (h : l.Perm k) : ∀ m, inc f m l = inc f m k := by
  induction h with
  | nil => intro m; rfl
  | cons x _ ih => intro m; rw [inc, inc, ih, ih]
  | swap x y l => intro m; rw [inc, inc, inc, inc, inc, inc, lcmM_swap m x y]; omega
  | trans _ _ ih1 ih2 => intro m; rw [ih1, ih2]
theorem inc_zero (f : M4 → Int) {g : M4} : ∀ {l : List M4} {m : M4}, g ∈ l → dv g m → inc f m l = 0
  | a :: l, m, h, hd => by
    rw [inc]
    rcases List.mem_cons.1 h with rfl | h
    · rw [lcm_dv hd]; omega
    · rw [inc_zero f h hd, inc_zero f h (dv_tr hd (lcm_left m a))]; rfl
theorem inc_app (f : M4 → Int) {H : List M4} (m : M4) : ∀ R : List M4, (∀ r ∈ R, inI H r) → inc f m (R ++ H) = inc f m H
  | [], _ => rfl
  | r :: R, h => by
    obtain ⟨k, hk, hd⟩ := h r List.mem_cons_self
    rw [List.cons_append, inc, inc_zero f (List.mem_append_right R hk) (dv_tr hd (lcm_right m r)), inc_app f m R (fun x hx => h x (List.mem_cons_of_mem _ hx))]
    omega
theorem inc_congr (f : M4 → Int) (m : M4) {G H : List M4} (h1 : ∀ r ∈ G, inI H r) (h2 : ∀ r ∈ H, inI G r) : inc f m G = inc f m H := by
  rw [← inc_app f m G h1, inc_perm f List.perm_append_comm, inc_app f m H h2]
theorem inc_least (f : M4 → Int) (m : M4) (G : List M4) : inc f m (lstM divM G) = inc f m G :=
  inc_congr f m (fun r hr => (inI_least G r).1 (inI_mem hr)) (fun r hr => (inI_least G r).2 (inI_mem hr))
theorem inc_snoc (f : M4 → Int) (m : M4) (G : List M4) (g : M4) : inc f m (G ++ [g]) = inc f m G - inc f (lcmM m g) G := by
  rw [inc_perm f (List.perm_append_comm (l₁ := G) (l₂ := [g])), List.singleton_append, inc]
def addM (a b : M4) : M4 := (a.1 + b.1, a.2.1 + b.2.1, a.2.2.1 + b.2.2.1, a.2.2.2 + b.2.2.2)
def sb1 (x y : Int) : Int := if 0 < x - y then x - y else 0
/-- A monomial over another one. -/
def ovr (k m : M4) : M4 := (sb1 m.1 k.1, sb1 m.2.1 k.2.1, sb1 m.2.2.1 k.2.2.1, sb1 m.2.2.2 k.2.2.2)
theorem ovr_Nn (k m : M4) : Nn (ovr k m) := by unfold Nn ovr sb1; dsimp only; refine ⟨?_, ?_, ?_, ?_⟩ <;> split <;> omega
theorem ovr_dv {k m b : M4} (hk : Nn k) (hb : Nn b) (h : dv m b) : dv (ovr k m) b := by unfold Nn dv ovr sb1 at *; dsimp only; refine ⟨?_, ?_, ?_, ?_⟩ <;> split <;> omega
theorem lcm_add {k m h : M4} (hm : Nn m) : lcmM (addM k m) h = addM k (lcmM m (ovr k h)) := by
  unfold lcmM addM ovr sb1 Nn at *
  refine m4_ext ?_ ?_ ?_ ?_ <;> (dsimp only; split <;> omega)
theorem inc_shift (f : M4 → Int) (k : M4) : ∀ (l : List M4) (m : M4), Nn m → inc f (addM k m) l = inc (fun x => f (addM k x)) m (l.map (ovr k))
  | [], m, _ => rfl
  | g :: l, m, hm => by
    have hg : Nn (lcmM m (ovr k g)) := by have := ovr_Nn k g; unfold Nn lcmM at *; dsimp only; omega
    rw [List.map_cons, inc, inc, inc_shift f k l m hm, lcm_add hm, inc_shift f k l _ hg]
def degM (m : M4) : Int := m.1 + m.2.1 + m.2.2.1 + m.2.2.2
/-- The coefficients of the numerator. -/
def cN (G : List M4) (j : Int) : Int := inc (fun m => if degM m = j then 1 else 0) oneM G
theorem cN_least (G : List M4) (j : Int) : cN (lstM divM G) j = cN G j := inc_least _ _ _
theorem addM_one (k : M4) : addM k oneM = k := by unfold addM oneM; exact m4_ext (Int.add_zero _) (Int.add_zero _) (Int.add_zero _) (Int.add_zero _)
theorem oneM_Nn : Nn oneM := by unfold Nn oneM; simp
theorem degM_add (a b : M4) : degM (addM a b) = degM a + degM b := by unfold degM addM; dsimp only; omega
theorem cN_snoc (G : List M4) (g : M4) (hg : Nn g) (j : Int) : cN (G ++ [g]) j = cN G j - cN (G.map (ovr g)) (j - degM g) := by
  unfold cN
  rw [inc_snoc, lcmM_comm, lcm_dv (show dv oneM g from hg)]
  congr 1
  have h := inc_shift (fun m => if degM m = j then 1 else 0) g G oneM oneM_Nn
  rw [addM_one] at h
  rw [h]
  congr 1
  funext x
  rw [degM_add]
  by_cases e : degM g + degM x = j
  · rw [if_pos e, if_pos (by omega)]
  · rw [if_neg e, if_neg (by omega)]
theorem cN_nil (j : Int) : cN [] j = if j = 0 then 1 else 0 := by
  show (if degM oneM = j then (1 : Int) else 0) = _
  have : degM oneM = 0 := rfl
  rw [this]
  by_cases e : j = 0
  · rw [if_pos e, if_pos e.symm]
  · rw [if_neg e, if_neg (fun h => e h.symm)]
theorem inc_supp {f : M4 → Int} {b : M4} : ∀ (l : List M4) (m : M4), Nn m → dv m b → (∀ g ∈ l, Nn g ∧ dv g b) → (∀ x, Nn x → dv x b → f x = 0) → inc f m l = 0
  | [], m, hm, hb, _, h => h m hm hb
  | g :: l, m, hm, hb, hl, h => by
    have hg := hl g List.mem_cons_self
    have h1 : Nn (lcmM m g) := by unfold Nn lcmM at *; dsimp only; omega
    rw [inc, inc_supp l m hm hb (fun x hx => hl x (List.mem_cons_of_mem _ hx)) h, inc_supp l _ h1 (dv_lcm.2 ⟨hb, hg.2⟩) (fun x hx => hl x (List.mem_cons_of_mem _ hx)) h]
    rfl
abbrev six : M4 := (6, 6, 6, 6)
theorem cN_out {G : List M4} (hG : ∀ g ∈ G, Nn g ∧ dv g six) {j : Int} (h : j < 0 ∨ 24 < j) : cN G j = 0 := by
  unfold cN
  refine inc_supp (b := six) G oneM oneM_Nn (by unfold dv oneM six; simp) hG (fun x hx hb => ?_)
  rw [if_neg]
  unfold Nn dv six degM at *
  dsimp only at hb
  omega
theorem inc_bound {f : M4 → Int} (hf : ∀ x, -1 ≤ f x ∧ f x ≤ 1) : ∀ (l : List M4) (m : M4), -(2 ^ l.length : Int) ≤ inc f m l ∧ inc f m l ≤ 2 ^ l.length
  | [], m => by have := hf m; simpa [inc] using this
  | g :: l, m => by
    have h1 := inc_bound hf l m
    have h2 := inc_bound hf l (lcmM m g)
    rw [inc, List.length_cons, Int.pow_succ]
    omega
theorem cN_bound (G : List M4) (j : Int) : -(2 ^ G.length : Int) ≤ cN G j ∧ cN G j ≤ 2 ^ G.length :=
  inc_bound (fun x => by split <;> omega) _ _
/-- Sums over a list. -/
def sumL {α : Type} (f : α → Int) : List α → Int
  | [] => 0
  | a :: l => f a + sumL f l
theorem sumL_app {α : Type} (f : α → Int) : ∀ (l k : List α), sumL f (l ++ k) = sumL f l + sumL f k
  | [], k => by simp [sumL]
  | a :: l, k => by rw [List.cons_append, sumL, sumL, sumL_app f l k]; omega
theorem sumL_congr {α : Type} {f g : α → Int} : ∀ (l : List α), (∀ a ∈ l, f a = g a) → sumL f l = sumL g l
  | [], _ => rfl
  | a :: l, h => by rw [sumL, sumL, h a List.mem_cons_self, sumL_congr l (fun b hb => h b (List.mem_cons_of_mem _ hb))]
theorem sumL_zero {α : Type} : ∀ l : List α, sumL (fun _ => 0) l = 0
  | [] => rfl
  | a :: l => by rw [sumL, sumL_zero l]; rfl
theorem sumL_range_add (f : Nat → Int) (a : Nat) : ∀ b : Nat, sumL f (List.range (a + b)) = sumL f (List.range a) + sumL (fun u => f (a + u)) (List.range b)
  | 0 => by simp [sumL]
  | b + 1 => by
    rw [← Nat.add_assoc, List.range_succ, sumL_app, sumL_range_add f a b, List.range_succ (n := b), sumL_app]
    show _ + (f (a + b) + 0) = _ + (_ + (f (a + b) + 0))
    omega
theorem sumL_zeros {α : Type} (f : α → Int) (l : List α) (h : ∀ a ∈ l, f a = 0) : sumL f l = 0 := by rw [sumL_congr l h, sumL_zero]
/-- The number of monomials of a degree in n + 1 variables. -/
def cF : Nat → Int → Int
  | 0, e => if 0 ≤ e then 1 else 0
  | n + 1, e => sumL (fun u : Nat => cF n (e - (u : Int))) (List.range (e.toNat + 1))
theorem cF_neg : ∀ (n : Nat) (e : Int), e < 0 → cF n e = 0
  | 0, e, h => by rw [cF, if_neg (by omega)]
  | n + 1, e, h => by
    rw [cF]
    exact sumL_zeros _ _ (fun u _ => cF_neg n _ (by omega))
theorem cF_ext (n : Nat) (e : Int) (D : Nat) (h : e ≤ (D : Int)) : sumL (fun u : Nat => cF n (e - (u : Int))) (List.range (D + 1)) = cF (n + 1) e := by
  rw [cF]
  by_cases h0 : e < 0
  · rw [sumL_zeros _ _ (fun u _ => cF_neg n _ (by omega)), sumL_zeros _ _ (fun u _ => cF_neg n _ (by omega))]
  · obtain ⟨k, hk⟩ : ∃ k, D + 1 = (e.toNat + 1) + k := ⟨D - e.toNat, by omega⟩
    rw [hk, sumL_range_add, sumL_zeros (fun u : Nat => cF n (e - ((e.toNat + 1 + u : Nat) : Int))) _ (fun u _ => cF_neg n _ (by omega))]
    omega
theorem cF_pascal (n : Nat) (e : Nat) : cF (n + 1) ((e : Int) + 1) = cF n ((e : Int) + 1) + cF (n + 1) (e : Int) := by
  rw [← cF_ext n ((e : Int) + 1) (e + 1) (by omega), ← cF_ext n (e : Int) e (by omega), show e + 1 + 1 = 1 + (e + 1) by omega, sumL_range_add]
  show (cF n ((e : Int) + 1 - ((0 : Nat) : Int)) + 0) + _ = _
  rw [show (e : Int) + 1 - ((0 : Nat) : Int) = (e : Int) + 1 by omega, Int.add_zero]
  congr 1
  refine sumL_congr _ (fun u _ => ?_)
  rw [show (e : Int) + 1 - ((1 + u : Nat) : Int) = (e : Int) - (u : Int) by omega]
theorem cF_0 (e : Nat) : cF 0 (e : Int) = 1 := by rw [cF, if_pos (by omega)]
theorem cF_1 : ∀ e : Nat, cF 1 (e : Int) = (e : Int) + 1
  | 0 => rfl
  | e + 1 => by
    rw [show ((e + 1 : Nat) : Int) = (e : Int) + 1 from rfl, cF_pascal, cF_1 e, show (e : Int) + 1 = ((e + 1 : Nat) : Int) from rfl, cF_0]
    omega
theorem cF_2 : ∀ e : Nat, 2 * cF 2 (e : Int) = ((e : Int) + 1) * ((e : Int) + 2)
  | 0 => rfl
  | e + 1 => by
    rw [show ((e + 1 : Nat) : Int) = (e : Int) + 1 from rfl, cF_pascal, Int.mul_add, cF_2 e, show (e : Int) + 1 = ((e + 1 : Nat) : Int) from rfl, cF_1]
    have : ((e + 1 : Nat) : Int) = (e : Int) + 1 := rfl
    rw [this]
    have h1 : ((e : Int) + 1 + 1) * ((e : Int) + 1 + 2) = (e : Int) * e + 5 * e + 6 := by
      rw [Int.add_mul, Int.add_mul, Int.mul_add, Int.mul_add]; omega
    have h2 : ((e : Int) + 1) * ((e : Int) + 2) = (e : Int) * e + 3 * e + 2 := by
      rw [Int.add_mul, Int.mul_add]; omega
    rw [h1, h2]
    omega
theorem cF_3 : ∀ e : Nat, 3 * cF 3 (e : Int) = cF 2 (e : Int) * ((e : Int) + 3)
  | 0 => rfl
  | e + 1 => by
    have ih := cF_3 e
    have h2 := cF_2 e
    have h2' := cF_2 (e + 1)
    have e1 : ((e + 1 : Nat) : Int) = (e : Int) + 1 := rfl
    rw [e1] at h2' ⊢
    rw [cF_pascal, Int.mul_add, ih]
    generalize cF 2 (e : Int) = A at *
    generalize cF 2 ((e : Int) + 1) = B at *
    have h3 : ((e : Int) + 1 + 1) * ((e : Int) + 1 + 2) = ((e : Int) + 1) * ((e : Int) + 2) + 2 * ((e : Int) + 2) := by
      rw [show (e : Int) + 1 + 1 = (e : Int) + 2 by omega, show (e : Int) + 1 + 2 = ((e : Int) + 1) + 2 by omega, Int.mul_add, Int.mul_comm ((e : Int) + 2) 2, Int.mul_comm ((e : Int) + 2) ((e : Int) + 1)]
    rw [h3, ← h2] at h2'
    have hB : B = A + ((e : Int) + 2) := by omega
    rw [hB]
    have h5 : ((e : Int) + 1) * ((e : Int) + 2) = (e : Int) * e + 3 * e + 2 := by
      rw [Int.add_mul, Int.mul_add]; omega
    have h6 : (A + ((e : Int) + 2)) * ((e : Int) + 1 + 3) = A * e + 4 * A + e * e + 6 * e + 8 := by
      rw [Int.add_mul, Int.add_mul, Int.mul_add, Int.mul_add, Int.mul_add, Int.mul_add, Int.mul_add, Int.mul_add]; omega
    have h7 : A * ((e : Int) + 3) = A * e + 3 * A := by rw [Int.mul_add]; omega
    rw [h6, h7]
    rw [h5] at h2
    omega
end Go.Proofs.Ytjkfjnempofihaa.Fi
