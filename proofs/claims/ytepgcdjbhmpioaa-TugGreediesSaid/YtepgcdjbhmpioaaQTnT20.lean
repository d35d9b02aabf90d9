/- The greedy teams of the reference are those of the program; the law TugGreedies in plain words. -/
import Derived.Test.YtepgcdjbhmpioaaQTnT18
import Derived.Test.YtepgcdjbhmpioaaQTnT14
import Derived.Test.YtepgcdjbhmpioaaQTnFi19
namespace Go.Proofs.Ytepgcdjbhmpioaa.Fi
open Go.RowKit Go.Sort Go.Proofs.YtepgcdjbhmpioaaW.PrintWords Go.Proofs.YtepgcdjbhmpioaaW.PrintLast Go.Proofs.YtepgcdjbhmpioaaW.PrintMore
set_option linter.unusedVariables false
def ltQ (l : List Int) (x y : Fin (l.length - 1 + 1)) : Bool := decide (l.getD y.val 0 < l.getD x.val 0 ∨ (l.getD x.val 0 = l.getD y.val 0 ∧ x.val < y.val))
theorem swoQ (l : List Int) : SWO (ltQ l) where
  irrefl x := by unfold ltQ; rw [decide_eq_false_iff_not]; omega
  trans x y z h1 h2 := by unfold ltQ at *; rw [decide_eq_true_iff] at *; omega
  ntrans x y z h1 h2 := by unfold ltQ at *; rw [decide_eq_false_iff_not] at *; omega
theorem lt_same (l : List Int) (x y : Fin (l.length - 1 + 1)) (h : y.val < x.val) : ltOf (cfP l) x y = ltQ l x y := by
  rw [lt_cfP]
  unfold ltQ
  rw [decide_eq_decide]
  omega
theorem inner_same (l : List Int) : ∀ (j : Nat) (d : Array (Fin (l.length - 1 + 1))), j < d.size → (∀ p, p < j → d[p]!.val < d[j]!.val) → insInner (ltOf (cfP l)) 0 j d = insInner (ltQ l) 0 j d
  | 0, _, _, _ => rfl
  | j + 1, d, hj, h => by
    have h1 := h j (by omega)
    unfold insInner
    rw [lt_same l _ _ h1]
    split
    · refine inner_same l j _ (by rw [swp_size]; omega) (fun p hp => ?_)
      rw [swp_get d (by omega) (by omega), swp_get d (by omega) (by omega)]
      have h2 := h p (by omega)
      simp only [show p ≠ j + 1 by omega, show p ≠ j by omega, show j ≠ j + 1 by omega, if_false, if_true]
      exact h2
    · rfl
/-- What the insertion sort has seen. -/
def Seen (l : List Int) (i : Nat) (d : Array (Fin (l.length - 1 + 1))) : Prop := (∀ p, p < i → p < d.size → d[p]!.val < i) ∧ ∀ p, i ≤ p → p < d.size → d[p]!.val = p
theorem inner_seen (l : List Int) (lt : Fin (l.length - 1 + 1) → Fin (l.length - 1 + 1) → Bool) (i : Nat) : ∀ (j : Nat) (d : Array (Fin (l.length - 1 + 1))), j ≤ i → i < d.size → Seen l (i + 1) d → Seen l (i + 1) (insInner lt 0 j d) ∧ (insInner lt 0 j d).size = d.size
  | 0, d, _, _, h => ⟨h, rfl⟩
  | j + 1, d, hj, hi, h => by
    unfold insInner
    split
    · have h2 : Seen l (i + 1) (swp d (j + 1) j) := by
        obtain ⟨a, b⟩ := h
        refine ⟨fun p hp hps => ?_, fun p hp hps => ?_⟩
        · rw [swp_size] at hps
          rw [swp_get d (by omega) (by omega)]
          split
          · exact a _ (by omega) (by omega)
          · split
            · exact a _ (by omega) (by omega)
            · exact a p hp hps
        · rw [swp_size] at hps
          rw [swp_get d (by omega) (by omega)]
          simp only [show p ≠ j + 1 by omega, show p ≠ j by omega, if_false]
          exact b p hp hps
      have := inner_seen l lt i j _ (by omega) (by rw [swp_size]; exact hi) h2
      rw [swp_size] at this
      exact this
    · exact ⟨h, rfl⟩
theorem Seen.next {l : List Int} {i : Nat} {d : Array (Fin (l.length - 1 + 1))} (h : Seen l i d) : Seen l (i + 1) d := by
  obtain ⟨a, b⟩ := h
  refine ⟨fun p hp hps => ?_, fun p hp hps => b p (by omega) hps⟩
  rcases Nat.lt_or_ge p i with h1 | h1
  · have := a p h1 hps; omega
  · have := b p h1 hps; omega
theorem outer_same (l : List Int) : ∀ (m i n : Nat) (d : Array (Fin (l.length - 1 + 1))), n - i = m → n = d.size → Seen l i d → insOuter (ltOf (cfP l)) 0 n i d = insOuter (ltQ l) 0 n i d
  | 0, i, n, d, hm, hn, _ => by
    unfold insOuter
    rw [if_neg (by omega), if_neg (by omega)]
  | m + 1, i, n, d, hm, hn, h => by
    unfold insOuter
    rw [if_pos (by omega), if_pos (by omega)]
    have e : insInner (ltOf (cfP l)) 0 i d = insInner (ltQ l) 0 i d := inner_same l i d (by omega) (fun p hp => by
      have h1 := h.1 p hp (by omega)
      have h2 := h.2 i (by omega) (by omega)
      omega)
    rw [e]
    obtain ⟨h1, h2⟩ := inner_seen l (ltQ l) i i d (Nat.le_refl _) (by omega) h.next
    exact outer_same l m (i + 1) n _ (by omega) (by rw [h2]; exact hn) h1
theorem allP_get {l : List Int} {p : Nat} (h : p < (allP l).size) : (allP l)[p]!.val = p := by
  rw [getElem!_pos _ p h]
  simp [allP]
theorem sort_same (l : List Int) : Go.Sort.insertionSort (ltOf (cfP l)) (allP l) 0 (allP l).size = Go.Sort.insertionSort (ltQ l) (allP l) 0 (allP l).size := by
  unfold Go.Sort.insertionSort
  refine outer_same l _ _ _ _ rfl rfl ⟨fun p hp hps => ?_, fun p hp hps => allP_get hps⟩
  rw [allP_get hps]
  exact hp
/-- Greater pulls first, equals in their order. -/
theorem order_strict {l : List Int} (h : 1 ≤ l.length) : (orderS l).Pairwise fun i j => l.getD j 0 < l.getD i 0 ∨ (l.getD i 0 = l.getD j 0 ∧ i < j) := by
  obtain ⟨⟨h1, _, _⟩, h2⟩ := insertionSort_holds (swoQ l) (allP l) 0 (allP l).size (Nat.zero_le _) (Nat.le_refl _)
  have hnd : (orderS l).Nodup := (orderS_perm h).nodup_iff.2 List.nodup_range
  have hnd2 := hnd
  unfold orderS at hnd ⊢
  rw [sort_same] at hnd ⊢
  rw [List.Nodup, List.pairwise_map, List.pairwise_iff_getElem] at hnd
  rw [List.pairwise_map, List.pairwise_iff_getElem]
  intro i j hi hj hij
  have hne := hnd i j hi hj hij
  rw [Array.length_toList] at hi hj
  have h3 := h2 i j (Nat.zero_le _) hij (by omega)
  rw [getElem!_pos _ j hj, getElem!_pos _ i hi] at h3
  unfold ltQ at h3
  rw [decide_eq_false_iff_not] at h3
  rw [Array.getElem_toList, Array.getElem_toList] at hne ⊢
  unfold ltQ at hne ⊢
  omega
theorem idxOf_first (x : Int) : ∀ (l : List Int) (j : Nat), j < l.idxOf x → j < l.length → l.getD j 0 ≠ x
  | [], j, h, _ => by simp at h
  | y :: l, j, h, hl => by
    rw [List.idxOf_cons] at h
    by_cases e : (y == x) = true
    · rw [e] at h; simp at h
    · rw [Bool.not_eq_true] at e
      rw [e] at h
      cases j with
      | zero =>
        intro h'
        have : y = x := h'
        rw [this] at e
        simp at e
      | succ j => exact idxOf_first x l j (by simpa using h) (by simpa using hl)
theorem minAt_first {s : List Int} (h : 1 ≤ s.length) : ∀ j, j < minAt s → s.getD (minAt s) 0 < s.getD j 0 := by
  intro j hj
  obtain ⟨h1, h2⟩ := minAt_spec h
  have h3 := h2 j (by omega)
  have e : s.getD (minAt s) 0 = minT s s.length := by
    rw [List.getD_eq_getElem?_getD, List.getElem?_eq_getElem h1]
    exact List.getElem_idxOf h1
  have h4 := idxOf_first (minT s s.length) s j hj (by omega)
  rw [e] at h3 ⊢
  omega
def doneS (l : List Int) (r : Nat) : List Bool := (List.range l.length).map fun i => decide (i ∈ (orderS l).take r)
theorem doneS_len (l : List Int) (r : Nat) : (doneS l r).length = l.length := by simp [doneS]
theorem doneS_get {l : List Int} {r i : Nat} (h : i < l.length) : rdOf false (doneS l r) (i : Int) = decide (i ∈ (orderS l).take r) := by
  show (doneS l r).getD i false = _
  unfold doneS
  rw [List.getD_eq_getElem?_getD, List.getElem?_map, List.getElem?_range h]
  rfl
theorem refGreedy_ev (k : Nat) (l : List Int) (hk : 1 ≤ k ∧ k ≤ 4) (hok : OkL 14 l) : Ev (fun f => woggleref05_Greedy.f f l (k : Int)) (greedyS k l).1 := by
  have hlen := hok.2.1
  have hol := orderS_length l hok.1
  have hlt := order_lt l hok.1
  have hst := order_strict hok.1
  have hperm := orderS_perm hok.1
  have hnd : (orderS l).Nodup := hperm.nodup_iff.2 List.nodup_range
  -- the choice of a team
  have team : ∀ (s : List Int) (V : List Int) (x5 : List Int) (x7 : List Bool) (x8 x9 : Int), s.length = k → Ev (fun f => woggleref05_Greedy.l2 f l (k : Int) x5 s x7 x8 x9 ((minAt s : Nat) : Int) (k : Int)) V → Ev (fun f => woggleref05_Greedy.l2 f l (k : Int) x5 s x7 x8 x9 0 1) V := by
    intro s V x5 x7 x8 x9 hs hV
    obtain ⟨g1, g2⟩ := minAt_spec (s := s) (by omega)
    have g3 := minAt_first (s := s) (by omega)
    have key : ∀ d t a : Nat, t + d = k → a < t → (∀ j, j < t → s.getD a 0 ≤ s.getD j 0) → (∀ j, j < a → s.getD a 0 < s.getD j 0) → Ev (fun f => woggleref05_Greedy.l2 f l (k : Int) x5 s x7 x8 x9 (a : Int) (t : Int)) V := by
      intro d
      induction d with
      | zero =>
        intro t a ht hat h1 h2
        have e : a = minAt s := by
          have h3 := h1 (minAt s) (by omega)
          have h4 := g2 a (by omega)
          rcases Nat.lt_trichotomy a (minAt s) with h | h | h
          · have := g3 a h; omega
          · exact h
          · have := h2 _ h; omega
        rw [e, show t = k by omega]
        exact hV
      | succ d ih =>
        intro t a ht hat h1 h2
        have e1 : rd s (t : Int) = s.getD t 0 := rfl
        have e2 : rd s (a : Int) = s.getD a 0 := rfl
        have E3 : Aside0 (wrap64 ((t : Int) + 1) = ((t + 1 : Nat) : Int)) := ⟨by rw [wrapS (by omega)]; omega⟩
        by_cases c : s.getD t 0 < s.getD a 0
        · refine Ev.step (fun f => ?_) (ih (t + 1) t (by omega) (by omega) (fun j hj => ?_) (fun j hj => ?_))
          · simp only [woggleref05_Greedy.l2]
            rw [if_pos (by omega), if_pos (by omega), if_pos (by omega), if_pos (by omega), if_pos (by omega), e1, e2, if_pos c, E3.out]
          · rcases Nat.lt_or_ge j t with h | h
            · have := h1 j h; omega
            · obtain rfl : j = t := by omega
              exact Int.le_refl _
          · have := h1 j hj; omega
        · refine Ev.step (fun f => ?_) (ih (t + 1) a (by omega) (by omega) (fun j hj => ?_) h2)
          · simp only [woggleref05_Greedy.l2]
            rw [if_pos (by omega), if_pos (by omega), if_pos (by omega), if_pos (by omega), if_pos (by omega), e1, e2, if_neg c, E3.out]
          · rcases Nat.lt_or_ge j t with h | h
            · exact h1 j h
            · obtain rfl : j = t := by omega
              omega
    exact key (k - 1) 1 0 (by omega) (by omega) (fun j hj => by rw [show j = 0 by omega]; exact Int.le_refl _) (fun j hj => by omega)
  -- the choice of a pull
  have pick : ∀ (r o : Nat) (V : List Int) (x5 x6 : List Int) (x8 : Int), r < l.length → o = (orderS l).getD r 0 → Ev (fun f => woggleref05_Greedy.l2 f l (k : Int) x5 x6 (doneS l r) x8 (o : Int) 0 1) V → Ev (fun f => woggleref05_Greedy.l1 f l (k : Int) x5 x6 (doneS l r) x8 (-1) 0) V := by
    intro r o V x5 x6 x8 hr ho hV
    have hos : orderS l = (orderS l).take r ++ o :: (orderS l).drop (r + 1) := by
      have h1 : (orderS l).drop r = o :: (orderS l).drop (r + 1) := by
        rw [List.drop_eq_getElem_cons (by omega), ho, List.getD_eq_getElem?_getD, List.getElem?_eq_getElem (by omega)]
        rfl
      rw [← h1, List.take_append_drop]
    have hoin : o ∈ orderS l := by rw [hos]; simp
    have hou : o ∉ (orderS l).take r := fun h => by
      rw [hos, List.nodup_append] at hnd
      exact hnd.2.2 o h o (by simp) rfl
    have hbest : ∀ j, j < l.length → j ∉ (orderS l).take r → j ≠ o → l.getD j 0 < l.getD o 0 ∨ (l.getD o 0 = l.getD j 0 ∧ o < j) := fun j hj hju hjo => by
      have hjin : j ∈ orderS l := hperm.mem_iff.2 (List.mem_range.2 hj)
      rw [hos] at hjin hst
      rw [List.pairwise_append, List.pairwise_cons] at hst
      rcases List.mem_append.1 hjin with h | h
      · exact absurd h hju
      · rcases List.mem_cons.1 h with h | h
        · exact absurd h hjo
        · exact hst.2.1.1 j h
    have key : ∀ d i : Nat, ∀ a : Int, i + d = l.length → ((a = -1 ∧ ∀ j, j < i → j ∈ (orderS l).take r) ∨ ∃ b : Nat, a = (b : Int) ∧ b < i ∧ b ∉ (orderS l).take r ∧ ∀ j, j < i → j ∉ (orderS l).take r → j ≠ b → l.getD j 0 < l.getD b 0 ∨ (l.getD b 0 = l.getD j 0 ∧ b < j)) → Ev (fun f => woggleref05_Greedy.l1 f l (k : Int) x5 x6 (doneS l r) x8 a (i : Int)) V := by
      intro d
      induction d with
      | zero =>
        intro i a hi hinv
        obtain rfl : i = l.length := by omega
        have e : a = (o : Int) := by
          rcases hinv with ⟨_, h⟩ | ⟨b, h1, h2, h3, h4⟩
          · exact absurd (h o (hlt o hoin)) hou
          · by_cases hbo : b = o
            · rw [h1, hbo]
            · have h5 := h4 o (hlt o hoin) hou (fun e => hbo e.symm)
              have h6 := hbest b h2 h3 hbo
              omega
        rw [e]
        refine Ev.step (fun f => ?_) hV
        simp only [woggleref05_Greedy.l1]
        rw [if_neg (by omega)]
      | succ d ih =>
        intro i a hi hinv
        have hil : i < l.length := by omega
        have e1 := doneS_get (r := r) hil
        have E3 : Aside0 (wrap64 ((i : Int) + 1) = ((i + 1 : Nat) : Int)) := ⟨by rw [wrapS (by omega)]; omega⟩
        by_cases hdone : i ∈ (orderS l).take r
        · refine Ev.step (fun f => ?_) (ih (i + 1) a (by omega) ?_)
          · simp only [woggleref05_Greedy.l1]
            rw [if_pos (by omega), if_pos (by omega), if_pos (by rw [doneS_len]; omega), e1, decide_eq_true hdone, if_pos rfl, E3.out]
          · rcases hinv with ⟨h1, h2⟩ | ⟨b, h1, h2, h3, h4⟩
            · refine .inl ⟨h1, fun j hj => ?_⟩
              rcases Nat.lt_or_ge j i with h | h
              · exact h2 j h
              · obtain rfl : j = i := by omega
                exact hdone
            · refine .inr ⟨b, h1, by omega, h3, fun j hj hju hjb => ?_⟩
              rcases Nat.lt_or_ge j i with h | h
              · exact h4 j h hju hjb
              · obtain rfl : j = i := by omega
                exact absurd hdone hju
        · have hstep : ∀ a', ((∃ b : Nat, a' = (b : Int) ∧ b < i + 1 ∧ b ∉ (orderS l).take r ∧ ∀ j, j < i + 1 → j ∉ (orderS l).take r → j ≠ b → l.getD j 0 < l.getD b 0 ∨ (l.getD b 0 = l.getD j 0 ∧ b < j))) → Ev (fun f => woggleref05_Greedy.l1 f l (k : Int) x5 x6 (doneS l r) x8 a' ((i + 1 : Nat) : Int)) V := fun a' h => ih (i + 1) a' (by omega) (.inr h)
          rcases hinv with ⟨h1, h2⟩ | ⟨b, h1, h2, h3, h4⟩
          · refine Ev.step (fun f => ?_) (hstep (i : Int) ⟨i, rfl, by omega, hdone, fun j hj hju hjb => absurd (h2 j (by omega)) hju⟩)
            simp only [woggleref05_Greedy.l1]
            rw [if_pos (by omega), if_pos (by omega), if_pos (by rw [doneS_len]; omega), e1, decide_eq_false hdone, if_neg (by decide), if_pos (by omega), E3.out]
          · have e4 : rd l (i : Int) = l.getD i 0 := rfl
            have e5 : rd l a = l.getD b 0 := by rw [h1]; rfl
            by_cases hgt : l.getD i 0 > l.getD b 0
            · refine Ev.step (fun f => ?_) (hstep (i : Int) ⟨i, rfl, by omega, hdone, fun j hj hju hjb => ?_⟩)
              · simp only [woggleref05_Greedy.l1]
                rw [if_pos (by omega), if_pos (by omega), if_pos (by rw [doneS_len]; omega), e1, decide_eq_false hdone, if_neg (by decide), if_neg (by omega), if_pos (by omega), if_pos (by omega), e4, e5, if_pos hgt, E3.out]
              · by_cases hjb2 : j = b
                · rw [hjb2]; exact .inl hgt
                · have := h4 j (by omega) hju hjb2
                  omega
            · refine Ev.step (fun f => ?_) (hstep a ⟨b, h1, by omega, h3, fun j hj hju hjb => ?_⟩)
              · simp only [woggleref05_Greedy.l1]
                rw [if_pos (by omega), if_pos (by omega), if_pos (by rw [doneS_len]; omega), e1, decide_eq_false hdone, if_neg (by decide), if_neg (by omega), if_pos (by omega), if_pos (by omega), e4, e5, if_neg hgt, E3.out]
              · rcases Nat.lt_or_ge j i with h | h
                · exact h4 j h hju hjb
                · obtain rfl : j = i := by omega
                  omega
    exact key l.length 0 (-1) (by omega) (.inl ⟨rfl, fun j hj => by omega⟩)
  have rounds : ∀ d r : Nat, r + d = l.length → Ev (fun f => woggleref05_Greedy.l0 f l (k : Int) (stT l k r).1 (stT l k r).2 (doneS l r) (r : Int)) (greedyS k l).1 := by
    intro d
    induction d with
    | zero =>
      intro r hr
      refine Ev.step (f := fun _ => some (greedyS k l).1) (fun f => ?_) (Ev.now _)
      simp only [woggleref05_Greedy.l0]
      rw [if_neg (by omega)]
      congr 1
      unfold stT greedyS
      rw [List.take_of_length_le (by omega)]
    | succ d ih =>
      intro r hr
      obtain ⟨o, ho⟩ : ∃ o, o = (orderS l).getD r 0 := ⟨_, rfl⟩
      have hro : (orderS l)[r]'(by omega) = o := by rw [ho, List.getD_eq_getElem?_getD, List.getElem?_eq_getElem (by omega)]; rfl
      have hol2 : o < l.length := hlt o (by rw [← hro]; exact List.getElem_mem _)
      obtain ⟨q1, q2⟩ := stT_len l k r
      obtain ⟨g1, _⟩ := minAt_spec (s := (stT l k r).2) (by omega)
      refine Ev.step (f := fun f => woggleref05_Greedy.l1 f l (k : Int) (stT l k r).1 (stT l k r).2 (doneS l r) (r : Int) (-1) 0) (fun f => ?_) (pick r o _ _ _ _ (by omega) ho (team _ _ _ _ _ _ q2 ?_))
      · simp only [woggleref05_Greedy.l0]
        rw [if_pos (by omega)]
      · have e1 : rd (stT l k r).2 ((minAt (stT l k r).2 : Nat) : Int) = (stT l k r).2.getD (minAt (stT l k r).2) 0 := rfl
        have e2 : rd l (o : Int) = l.getD o 0 := rfl
        have b1 := stT_bound l k hok.2.2 r (by omega) _ (getD_mem (l := (stT l k r).2) (i := minAt (stT l k r).2) g1)
        have b2 := hok.2.2 _ (getD_mem (l := l) (i := o) hol2)
        have E3 : Aside0 (wrap64 ((stT l k r).2.getD (minAt (stT l k r).2) 0 + l.getD o 0) = (stT l k r).2.getD (minAt (stT l k r).2) 0 + l.getD o 0) := ⟨wrapS (by omega)⟩
        have E4 : Aside0 (wrap64 ((r : Int) + 1) = ((r + 1 : Nat) : Int)) := ⟨by rw [wrapS (by omega)]; omega⟩
        have e5 : (doneS l r).set o true = doneS l (r + 1) := by
          apply List.ext_getElem
          · simp [doneS]
          · intro i h1 h2
            rw [doneS_len] at h2
            rw [List.getElem_set]
            have m1 : (doneS l (r + 1))[i]'(by rw [doneS_len]; exact h2) = decide (i ∈ (orderS l).take (r + 1)) := by simp [doneS]
            have m2 : (doneS l r)[i]'(by rw [doneS_len]; exact h2) = decide (i ∈ (orderS l).take r) := by simp [doneS]
            have m3 : (orderS l).take (r + 1) = (orderS l).take r ++ [o] := by
              rw [List.take_add_one, List.getElem?_eq_getElem (by omega), hro]
              rfl
            rw [m1, m3]
            by_cases e : o = i
            · rw [if_pos e, e]
              symm
              rw [decide_eq_true_iff]
              simp
            · rw [if_neg e, m2, decide_eq_decide, List.mem_append, List.mem_singleton]
              exact ⟨.inl, fun h => h.resolve_right (fun h' => e h'.symm)⟩
        have e6 : stT l k (r + 1) = ((stT l k r).1.set o ((minAt (stT l k r).2 : Nat) : Int), (stT l k r).2.set (minAt (stT l k r).2) ((stT l k r).2.getD (minAt (stT l k r).2) 0 + l.getD o 0)) := by
          rw [stT_succ l k r (by omega), hro]
          rfl
        have := ih (r + 1) (by omega)
        rw [e6, ← e5] at this
        refine Ev.step (fun f => ?_) this
        simp only [woggleref05_Greedy.l2]
        rw [if_neg (by omega), if_pos (by omega), if_pos (by rw [doneS_len]; omega), if_pos (by omega), if_pos (by omega), if_pos (by omega), if_pos (by omega), e1, e2, E3.out, E4.out, Int.toNat_natCast, Int.toNat_natCast]
  unfold woggleref05_Greedy.f
  have e0 : List.replicate l.length false = doneS l 0 := by
    symm
    rw [List.eq_replicate_iff]
    refine ⟨doneS_len l 0, fun b hb => ?_⟩
    obtain ⟨i, _, rfl⟩ := List.mem_map.1 hb
    simp
  simp only [if_pos (show (0 : Int) ≤ (l.length : Int) by omega), Int.toNat_natCast, if_pos (show l.length ≤ 35184372088832 by omega), if_pos (show (0 : Int) ≤ (k : Int) by omega), if_pos (show k ≤ 35184372088832 by omega), if_pos (show l.length ≤ 281474976710656 by omega), e0]
  exact rounds l.length 0 (by omega)
theorem refBound_ev (k : Nat) (l : List Int) (hk : 1 ≤ k ∧ k ≤ 4) (hok : OkL 14 l) : Ev (fun f => woggleref05_Bound.f f l (k : Int)) (boundS k l) := by
  have hlen := hok.2.1
  have hpos := hok.1
  have hfl := (fall_perm l).length_eq
  have hF : woggleref05_Falling.f l = some (fallS l) := by unfold woggleref05_Falling.f; rw [if_pos hok]
  unfold woggleref05_Bound.f
  simp only [hF, Option.bind_some, if_pos (show (0 : Int) < ((fallS l).length : Int) by omega)]
  refine Ev.bind (sum_ev l (hok.widen (by omega))) ?_
  have hs := ok_sum (m := 14) (by omega) hok
  have e1 : wrap64 (l.sum + (k : Int)) = l.sum + (k : Int) := wrapS (by omega)
  have e2 : wrap64 (l.sum + (k : Int) - 1) = l.sum + (k : Int) - 1 := wrapS (by omega)
  have e3 : wrap64 (Int.tdiv (l.sum + (k : Int) - 1) (k : Int)) = (l.sum + (k : Int) - 1) / (k : Int) := by
    have h1 : 0 ≤ l.sum + (k : Int) - 1 := by omega
    have h2 := Int.ediv_nonneg h1 (show (0 : Int) ≤ (k : Int) by omega)
    have h3 := Int.ediv_le_self (k : Int) h1
    rw [Int.tdiv_eq_ediv_of_nonneg h1]
    exact wrapS (by omega)
  have e4 : wrap64 ((k : Int) - 1) = ((k - 1 : Nat) : Int) := by rw [wrapS (by omega)]; omega
  simp only [e1, e2, e3, e4, if_neg (show ¬ (k : Int) = 0 by omega)]
  have hfb : ∀ i, i < (fallS l).length → 1 ≤ (fallS l).getD i 0 ∧ (fallS l).getD i 0 ≤ 1000000 := fun i hi => hok.2.2 _ ((fall_perm l).mem_iff.1 (getD_mem hi))
  unfold boundS
  by_cases h : k < l.length
  · have b1 := hfb (k - 1) (by omega)
    have b2 := hfb k (by omega)
    have e5 : wrap64 (rd (fallS l) ((k - 1 : Nat) : Int) + rd (fallS l) (k : Int)) = (fallS l).getD (k - 1) 0 + (fallS l).getD k 0 := by
      show wrap64 ((fallS l).getD (k - 1) 0 + (fallS l).getD k 0) = _
      exact wrapS (by omega)
    simp only [e5, if_pos (show ((fallS l).length : Int) > (k : Int) by omega), if_pos (show (0 : Int) ≤ ((k - 1 : Nat) : Int) by omega), if_pos (show ((k - 1 : Nat) : Int) < ((fallS l).length : Int) by omega), if_pos (show (0 : Int) ≤ (k : Int) by omega), mx_is, if_pos h]
    exact Ev.now _
  · simp only [if_neg (show ¬ ((fallS l).length : Int) > (k : Int) by omega), mx_is, if_neg h]
    exact Ev.now _
/-- What is wrong with pulls and a number of teams. -/
def whyS (m : Nat) (l : List Int) (a : Int) : Int := if chk m l = 0 then (if 1 ≤ a ∧ a ≤ 4 then 0 else 1) else chk m l
theorem why_ev (m : Nat) (l : List Int) (a : Int) (hl : l.length ≤ 1000) : Ev (fun k => wogglelaw05_why.f k l (m : Int) a) (whyS m l a) := by
  unfold wogglelaw05_why.f
  refine Ev.bind (pulls_ev m l hl) ?_
  unfold whyS
  by_cases h : chk m l = 0
  · simp only [h, if_true]
    by_cases h1 : a < 1
    · simp only [if_pos h1, if_neg (show ¬ (1 ≤ a ∧ a ≤ 4) by omega)]
      exact Ev.now _
    · by_cases h2 : a > 4
      · simp only [if_neg h1, if_pos h2, if_neg (show ¬ (1 ≤ a ∧ a ≤ 4) by omega)]
        exact Ev.now _
      · simp only [if_neg h1, if_neg h2, if_pos (show 1 ≤ a ∧ a ≤ 4 by omega)]
        exact Ev.now _
  · simp only [if_neg h]
    exact Ev.now _
theorem TugGreedies_ev (x : List Int) (a : Int) (hx : x.length ≤ 17592186043904) : Ev (fun k => wogglelaw05_TugGreedies.f k x a) true := by
  unfold wogglelaw05_TugGreedies.f
  obtain ⟨l, hl⟩ : ∃ l, l = x.take 15 := ⟨_, rfl⟩
  have hll : l.length ≤ 15 := by rw [hl]; exact List.length_take_le _ _
  simp only [cut_is x hx, ← hl, Option.bind_some]
  by_cases h0 : chk 14 l = 0 ∧ 1 ≤ a ∧ a ≤ 4
  · obtain ⟨h0, h1, h2⟩ := h0
    have hok := chk_zero h0
    obtain ⟨K, rfl⟩ := Int.eq_ofNat_of_zero_le (show 0 ≤ a by omega)
    have hK : 1 ≤ K ∧ K ≤ 4 := by omega
    have e1 : tug_Greedy.f l (K : Int) = some (maxT (greedyS K l).2 K, (greedyS K l).1, 0) := by
      unfold tug_Greedy.f
      rw [if_pos h0, if_pos (by omega), Int.toNat_natCast]
    have e2 : tug_Bound.f l (K : Int) = some (boundS K l, 0) := by
      unfold tug_Bound.f
      rw [if_pos h0, if_pos (by omega), Int.toNat_natCast]
    obtain ⟨us, g1, g2, g3⟩ := greedy_teams hK.1 hok.1 hok.nonneg
    obtain ⟨a3, a4⟩ := allT_mem.1 g2
    simp only [e1, e2, Option.bind_some]
    refine Ev.bind (why_ev 14 l (K : Int) (by omega)) ?_
    have e3 : whyS 14 l (K : Int) = 0 := by unfold whyS; rw [if_pos h0, if_pos (by omega)]
    simp only [if_pos e3]
    refine Ev.bind (refGreedy_ev K l hK hok) ?_
    rw [g1]
    refine Ev.bind (rLoad_ev K l us hK (hok.widen (by omega)) a3 a4) ?_
    simp only [if_pos g3]
    have hlen := hok.2.1
    refine Ev.bind (same_ev (toZ us) (by rw [toZ_length]; omega)) ?_
    simp only [if_true]
    refine Ev.bind (refBound_ev K l hK hok) ?_
    simp only [if_true]
    exact lives_then
  · have hw : whyS 14 l a ≠ 0 := by
      unfold whyS
      by_cases h : chk 14 l = 0
      · rw [if_pos h, if_neg (fun h' => h0 ⟨h, h'⟩)]; decide
      · rw [if_neg h]; exact h
    have e1 : tug_Greedy.f l a = some (0, [], whyS 14 l a) := by
      unfold tug_Greedy.f whyS
      by_cases h : chk 14 l = 0
      · rw [if_pos h, if_neg (fun h' => h0 ⟨h, h'⟩), if_pos h, if_neg (fun h' => h0 ⟨h, h'⟩)]
      · rw [if_neg h, if_neg h]
    have e2 : tug_Bound.f l a = some (0, whyS 14 l a) := by
      unfold tug_Bound.f whyS
      by_cases h : chk 14 l = 0
      · rw [if_pos h, if_neg (fun h' => h0 ⟨h, h'⟩), if_pos h, if_neg (fun h' => h0 ⟨h, h'⟩)]
      · rw [if_neg h, if_neg h]
    simp only [e1, e2, Option.bind_some]
    refine Ev.bind (why_ev 14 l a (by omega)) ?_
    simp only [if_neg hw, if_true, List.length_nil, if_pos (show ((0 : Nat) : Int) = 0 from rfl)]
    exact lives_then
theorem TugGreedies_pure : wogglelaw05_TugGreedies.Pure := by
  intro l0 a1 h1 h2 _ _
  exact (TugGreedies_ev l0 a1 (by omega)).rounds
end Go.Proofs.Ytepgcdjbhmpioaa.Fi
