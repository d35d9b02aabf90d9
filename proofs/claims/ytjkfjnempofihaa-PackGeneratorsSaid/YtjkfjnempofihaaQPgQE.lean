/- Plain: the reference's Minimal and Ideal are the program's. -/
import Derived.Test.YtjkfjnempofihaaQPgQD
import Derived.Test.YtjkfjnempofihaaQPgE24
import Derived.Test.YtjkfjnempofihaaQPgE20
namespace Go.Proofs.Ytjkfjnempofihaa.Fi
open Go.RowKit Go.Shelf Go.Lib Go.Proofs.YtjkfjnempofihaaW.PrintWords Go.Proofs.YtjkfjnempofihaaW.PrintLast Go.Proofs.YtjkfjnempofihaaW.PrintMore
set_option linter.unusedVariables false
set_option linter.unusedSimpArgs false
theorem okI_iff (gens : List (List Int)) (i : Nat) : ∀ n, okI gens i n = true ↔ ∀ k, k < n → condI gens i k = false
  | 0 => by simp [okI]
  | n + 1 => by
    rw [okI, Bool.and_eq_true, okI_iff gens i n, Bool.not_eq_true']
    constructor
    · rintro ⟨h1, h2⟩ k hk
      rcases Nat.lt_or_ge k n with h | h
      · exact h1 k h
      · obtain rfl : k = n := by omega
        exact h2
    · intro h
      exact ⟨fun k hk => h k (by omega), h n (by omega)⟩
theorem mem_oT (gens : List (List Int)) : ∀ i q, q ∈ oT gens i ↔ q < i ∧ okI gens q gens.length = true
  | 0, q => by simp [oT]
  | i + 1, q => by
    have ih := mem_oT gens i q
    rw [oT]
    have hsplit : ∀ (o : List Nat) (p : Nat), q ∈ o.take p ++ [i] ++ o.drop p ↔ q ∈ o ∨ q = i := fun o p => by
      rw [List.mem_append, List.mem_append, List.mem_singleton]
      constructor
      · rintro ((h | h) | h)
        · exact .inl (List.mem_of_mem_take h)
        · exact .inr h
        · exact .inl (List.mem_of_mem_drop h)
      · rintro (h | h)
        · rw [← List.take_append_drop p o, List.mem_append] at h
          rcases h with h | h
          · exact .inl (.inl h)
          · exact .inr h
        · exact .inl (.inr h)
    split
    · rename_i hok
      rw [hsplit, ih]
      constructor
      · rintro (h | rfl)
        · exact ⟨by omega, h.2⟩
        · exact ⟨by omega, hok⟩
      · rintro ⟨h1, h2⟩
        by_cases e : q = i
        · exact .inr e
        · exact .inl ⟨by omega, h2⟩
    · rename_i hok
      rw [ih]
      constructor
      · rintro ⟨h1, h2⟩
        exact ⟨by omega, h2⟩
      · rintro ⟨h1, h2⟩
        refine ⟨?_, h2⟩
        by_cases e : q = i
        · subst e; exact absurd h2 hok
        · omega
theorem cond_same {gens : List (List Int)} {i q : Nat} (h : gens[q]! = gens[i]!) (hq : q < i) : condI gens i q = true := by
  unfold condI
  rw [h, divL_refl, decide_eq_true (show q ≠ i by omega), decide_eq_true hq]
  simp
theorem oT_sorted (gens : List (List Int)) : ∀ i, i ≤ gens.length → ((oT gens i).map fun q => gens[q]!).Pairwise fun a b => lexLt a b = true
  | 0, _ => by simp [oT]
  | i + 1, hi => by
    have ih := oT_sorted gens i (by omega)
    rw [oT]
    split
    · rename_i hok
      have hne : ∀ q ∈ oT gens i, gens[q]! ≠ gens[i]! := fun q hq e => by
        have h1 := ((mem_oT gens i q).1 hq).1
        have h2 := (okI_iff gens i _).1 hok q (by omega)
        rw [cond_same e h1] at h2
        cases h2
      generalize hx : gens[i]! = x at *
      generalize hp : posI gens (oT gens i) i = p at *
      have hpos : p = ((oT gens i).takeWhile fun q => lexLt gens[q]! x).length := by rw [← hp]; unfold posI; rw [hx]
      have htk : (oT gens i).take p = (oT gens i).takeWhile fun q => lexLt gens[q]! x := by
        rw [hpos]
        exact List.prefix_iff_eq_take.1 (List.takeWhile_prefix _) |>.symm
      have hlow : ∀ q ∈ (oT gens i).take p, lexLt gens[q]! x = true := fun q hq => by
        rw [htk] at hq
        have key : ∀ (l : List Nat), q ∈ l.takeWhile (fun q => lexLt gens[q]! x) → lexLt gens[q]! x = true := fun l => by
          induction l with
          | nil => intro h; cases h
          | cons a l ih =>
            intro h
            rw [List.takeWhile_cons] at h
            split at h
            · rename_i ha
              rcases List.mem_cons.1 h with rfl | h
              · exact ha
              · exact ih h
            · cases h
        exact key _ hq
      have hdr : (oT gens i).drop p = (oT gens i).dropWhile fun q => lexLt gens[q]! x := by
        have h := List.takeWhile_append_dropWhile (p := fun q => lexLt gens[q]! x) (l := oT gens i)
        have h2 : (oT gens i).drop p = (((oT gens i).takeWhile fun q => lexLt gens[q]! x) ++ (oT gens i).dropWhile fun q => lexLt gens[q]! x).drop p := by rw [h]
        rw [h2, List.drop_append_of_le_length (by omega), hpos, List.drop_length, List.nil_append]
      have ih2 := ih
      rw [← List.take_append_drop p (oT gens i), List.map_append, List.pairwise_append] at ih2
      have hhigh : ∀ q ∈ (oT gens i).drop p, lexLt x gens[q]! = true := by
        rw [hdr]
        rw [hdr] at ih2
        have hsub : ∀ q ∈ (oT gens i).dropWhile (fun q => lexLt gens[q]! x), q ∈ oT gens i := fun q hq => by
          have h := List.takeWhile_append_dropWhile (p := fun q => lexLt gens[q]! x) (l := oT gens i)
          rw [← h]
          exact List.mem_append_right _ hq
        have hhead : ∀ a l, (oT gens i).dropWhile (fun q => lexLt gens[q]! x) = a :: l → lexLt gens[a]! x = false := fun a l h => by
          have h2 := List.head?_dropWhile_not (fun q => lexLt gens[q]! x) (oT gens i)
          rw [h] at h2
          simpa using h2
        generalize (oT gens i).dropWhile (fun q => lexLt gens[q]! x) = D at *
        cases D with
        | nil => intro q hq; cases hq
        | cons a l =>
          have ha : lexLt x gens[a]! = true := by
            by_cases h : lexLt x gens[a]! = true
            · exact h
            · exact absurd (lexLt_tot _ _ (hhead a l rfl) (by simpa using h)) (hne a (hsub a List.mem_cons_self))
          intro q hq
          rcases List.mem_cons.1 hq with rfl | hq
          · exact ha
          · rw [List.map_cons, List.pairwise_cons] at ih2
            exact lexLt_tr _ _ _ ha (ih2.2.1.1 _ (List.mem_map.2 ⟨q, hq, rfl⟩))
      rw [List.append_assoc, List.map_append, List.pairwise_append]
      refine ⟨ih2.1, ?_, ?_⟩
      · rw [List.singleton_append, List.map_cons, List.pairwise_cons]
        refine ⟨fun b hb => ?_, ih2.2.1⟩
        obtain ⟨q, hq, rfl⟩ := List.mem_map.1 hb
        rw [hx]
        exact hhigh q hq
      · intro a ha b hb
        obtain ⟨q, hq, rfl⟩ := List.mem_map.1 ha
        rw [List.singleton_append, List.map_cons] at hb
        rcases List.mem_cons.1 hb with rfl | hb
        · rw [hx]; exact hlow q hq
        · exact ih2.2.2 _ (List.mem_map.2 ⟨q, hq, rfl⟩) _ hb
    · exact ih
theorem minL_sorted (gens : List (List Int)) : (minL gens).Pairwise fun a b => lexLt a b = true := oT_sorted gens _ (Nat.le_refl _)
theorem mem_minL (gens : List (List Int)) (x : List Int) : x ∈ minL gens ↔ x ∈ gens ∧ ∀ y ∈ gens, y ≠ x → divL y x = false := by
  unfold minL
  rw [List.mem_map]
  constructor
  · rintro ⟨q, hq, rfl⟩
    obtain ⟨h1, h2⟩ := (mem_oT gens _ q).1 hq
    rw [okI_iff] at h2
    have hg := getElem!_pos gens q h1
    refine ⟨by rw [hg]; exact List.getElem_mem _, fun y hy hne => ?_⟩
    obtain ⟨k, hk, rfl⟩ := List.getElem_of_mem hy
    have h3 := h2 k hk
    unfold condI at h3
    have hgk := getElem!_pos gens k hk
    rw [hgk, decide_eq_true (show k ≠ q from fun e => hne (by subst e; rw [← hgk])), decide_eq_false hne] at h3
    simpa using h3
  · rintro ⟨hx, hm⟩
    obtain ⟨q, hq, hmin⟩ : ∃ q, (∃ h : q < gens.length, gens[q] = x) ∧ ∀ k, k < q → ∀ h : k < gens.length, gens[k] ≠ x := by
      have key : ∀ n, (∃ q, q < n ∧ ∃ h : q < gens.length, gens[q] = x) → ∃ q, (∃ h : q < gens.length, gens[q] = x) ∧ ∀ k, k < q → ∀ h : k < gens.length, gens[k] ≠ x := fun n => by
        induction n with
        | zero => rintro ⟨q, h, _⟩; omega
        | succ n ih =>
          rintro ⟨q, h, hq⟩
          by_cases hc : ∃ q, q < n ∧ ∃ h : q < gens.length, gens[q] = x
          · exact ih hc
          · exact ⟨q, hq, fun k hk hl e => hc ⟨k, by omega, hl, e⟩⟩
      obtain ⟨q, hq, e⟩ := List.getElem_of_mem hx
      exact key (q + 1) ⟨q, by omega, hq, e⟩
    obtain ⟨hql, hqx⟩ := hq
    have hg := getElem!_pos gens q hql
    refine ⟨q, (mem_oT gens _ q).2 ⟨hql, (okI_iff gens q _).2 (fun k hk => ?_)⟩, by rw [hg, hqx]⟩
    unfold condI
    rw [getElem!_pos gens k hk, hg, hqx]
    by_cases e : gens[k] = x
    · have : ¬ k < q := fun h => hmin k h hk e
      rw [decide_eq_true e, decide_eq_false this]
      simp
    · rw [hm _ (List.getElem_mem hk) e]
      simp
theorem lex_irr (a : List Int) : ¬ lexLt a a = true := by rw [lexLt_irr]; decide
/-- The reference's Minimal is the program's. -/
theorem minL_eq {n : Nat} (hn : n ≤ 4) {gens : List (List Int)} (hg : ∀ l ∈ gens, l.length = n) : minL gens = (lstM divM (gens.map padM)).map (cutM n) := by
  have hc : ∀ m ∈ lstM divM (gens.map padM), ∃ l ∈ gens, m = padM l ∧ cutM n m = l := fun m hm => by
    obtain ⟨l, hl, rfl⟩ := List.mem_map.1 ((mem_lstM _ _ _).1 hm).1
    exact ⟨l, hl, rfl, cut_pad hn (hg l hl)⟩
  refine sorted_eq (r := fun a b => lexLt a b = true) lex_irr lexLt_tr _ _ (minL_sorted gens) ?_ (fun x => ?_)
  · rw [List.pairwise_map]
    refine (lstM_pair divM (gens.map padM)).imp_of_mem (fun {a b} ha hb h => ?_)
    obtain ⟨l, hl, rfl, h1⟩ := hc a ha
    obtain ⟨k, hk, rfl, h2⟩ := hc b hb
    rw [h1, h2]
    exact (lexLt_pad n hn l k (hg l hl) (hg k hk)).2 h
  · rw [mem_minL, List.mem_map]
    constructor
    · rintro ⟨hx, hm⟩
      refine ⟨padM x, (mem_lstM _ _ _).2 ⟨List.mem_map.2 ⟨x, hx, rfl⟩, fun y hy hne => ?_⟩, cut_pad hn (hg x hx)⟩
      obtain ⟨l, hl, rfl⟩ := List.mem_map.1 hy
      rw [← divL_pad n hn l x (hg l hl) (hg x hx)]
      exact hm l hl (fun e => hne (by rw [e]))
    · rintro ⟨m, hm, rfl⟩
      obtain ⟨l, hl, rfl, h1⟩ := hc m hm
      rw [h1]
      refine ⟨hl, fun y hy hne => ?_⟩
      rw [divL_pad n hn y l (hg y hy) (hg l hl)]
      exact ((mem_lstM _ _ _).1 hm).2 (padM y) (List.mem_map.2 ⟨y, hy, rfl⟩) (fun e => hne (pad_inj hn (hg y hy) (hg l hl) e))
end Go.Proofs.Ytjkfjnempofihaa.Fi
