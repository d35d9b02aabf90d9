/- Plain words of tug: teams. -/
import Derived.Test.YtepgcdjbhmpioaaQTkT1
namespace Go.Proofs.Ytepgcdjbhmpioaa.Fi
set_option linter.unusedVariables false
/-- The greatest of the first k numbers, at least 0. -/
def maxF (k : Nat) (S : Nat → Int) : Int := (List.range k).foldl (fun a j => max a (S j)) 0
theorem foldl_max_le (S : Nat → Int) (M : Int) : ∀ (l : List Nat) (a : Int), l.foldl (fun a j => max a (S j)) a ≤ M ↔ a ≤ M ∧ ∀ j ∈ l, S j ≤ M
  | [], a => by simp
  | x :: l, a => by
    rw [List.foldl_cons, foldl_max_le S M l]
    simp only [List.mem_cons, forall_eq_or_imp]
    rw [Int.max_le, and_assoc]
theorem maxF_le {k : Nat} {S : Nat → Int} {M : Int} : maxF k S ≤ M ↔ 0 ≤ M ∧ ∀ j, j < k → S j ≤ M := by
  unfold maxF
  rw [foldl_max_le]
  simp only [List.mem_range]
theorem maxF_ge {k j : Nat} (S : Nat → Int) (h : j < k) : S j ≤ maxF k S := (maxF_le.1 (Int.le_refl (maxF k S))).2 j h
theorem maxF_nonneg (k : Nat) (S : Nat → Int) : 0 ≤ maxF k S := (maxF_le.1 (Int.le_refl (maxF k S))).1
theorem maxF_congr {k : Nat} {S T : Nat → Int} (h : ∀ j, j < k → S j = T j) : maxF k S = maxF k T :=
  Int.le_antisymm (maxF_le.2 ⟨maxF_nonneg _ _, fun j hj => by rw [h j hj]; exact maxF_ge T hj⟩) (maxF_le.2 ⟨maxF_nonneg _ _, fun j hj => by rw [← h j hj]; exact maxF_ge S hj⟩)
/-- What a team gets. -/
def tot : List Int → List Nat → Nat → Int
  | p :: ps, t :: ts, j => (if t = j then p else 0) + tot ps ts j
  | _, _, _ => 0
theorem tot_nonneg : ∀ {ps : List Int} (ts : List Nat) (j : Nat), (∀ p ∈ ps, 0 ≤ p) → 0 ≤ tot ps ts j
  | [], ts, j, _ => by cases ts <;> simp [tot]
  | p :: ps, [], j, _ => by simp [tot]
  | p :: ps, t :: ts, j, h => by
    have := tot_nonneg (ps := ps) ts j (fun x hx => h x (by simp [hx]))
    have hp := h p (by simp)
    rw [tot]
    split <;> omega
/-- All teams of n pulls, in lexicographic order. -/
def allT (k : Nat) : Nat → List (List Nat)
  | 0 => [[]]
  | n + 1 => (List.range k).flatMap fun t => (allT k n).map (t :: ·)
theorem allT_mem {k : Nat} : ∀ {n : Nat} {ts : List Nat}, ts ∈ allT k n ↔ ts.length = n ∧ ∀ t ∈ ts, t < k
  | 0, ts => by
    simp only [allT, List.mem_singleton]
    constructor
    · rintro rfl; simp
    · rintro ⟨h, _⟩; exact List.length_eq_zero_iff.1 h
  | n + 1, ts => by
    simp only [allT, List.mem_flatMap, List.mem_range, List.mem_map]
    constructor
    · rintro ⟨t, ht, us, hus, rfl⟩
      obtain ⟨h1, h2⟩ := allT_mem.1 hus
      refine ⟨by simp [h1], fun x hx => ?_⟩
      rcases List.mem_cons.1 hx with rfl | hx
      · exact ht
      · exact h2 x hx
    · rintro ⟨h1, h2⟩
      cases ts with
      | nil => simp at h1
      | cons t us =>
        exact ⟨t, h2 t (by simp), us, allT_mem.2 ⟨by simpa using h1, fun x hx => h2 x (by simp [hx])⟩, rfl⟩
/-- The lesser load; as many: the first. -/
def betT (acc x : Int × List Nat) : Int × List Nat := if acc.1 < 0 ∨ x.1 < acc.1 then x else acc
def ldT (k : Nat) (S : Nat → Int) (ps : List Int) (ts : List Nat) : Int := maxF k (fun j => S j + tot ps ts j)
def tryT (k : Nat) (S : Nat → Int) (ps : List Int) (pre : List Nat) (acc : Int × List Nat) (L : List (List Nat)) : Int × List Nat := L.foldl (fun acc ts => betT acc (ldT k S ps ts, pre ++ ts)) acc
theorem ldT_nonneg (k : Nat) (S : Nat → Int) (ps : List Int) (ts : List Nat) : 0 ≤ ldT k S ps ts := maxF_nonneg _ _
theorem tryT_le {k : Nat} {S : Nat → Int} {ps : List Int} {pre : List Nat} : ∀ (L : List (List Nat)) (acc : Int × List Nat), 0 ≤ acc.1 → 0 ≤ (tryT k S ps pre acc L).1 ∧ (tryT k S ps pre acc L).1 ≤ acc.1 ∧ ∀ ts ∈ L, (tryT k S ps pre acc L).1 ≤ ldT k S ps ts
  | [], acc, h => ⟨h, Int.le_refl _, by simp⟩
  | ts :: L, acc, h => by
    have hn := ldT_nonneg k S ps ts
    have hb : 0 ≤ (betT acc (ldT k S ps ts, pre ++ ts)).1 ∧ (betT acc (ldT k S ps ts, pre ++ ts)).1 ≤ acc.1 ∧ (betT acc (ldT k S ps ts, pre ++ ts)).1 ≤ ldT k S ps ts := by
      unfold betT
      split
      · rename_i hc; rcases hc with hc | hc <;> simp only at hc ⊢ <;> omega
      · rename_i hc; rw [not_or] at hc; simp only at hc ⊢; omega
    have ih := tryT_le (k := k) (S := S) (ps := ps) (pre := pre) L _ hb.1
    change 0 ≤ (tryT k S ps pre _ L).1 ∧ (tryT k S ps pre _ L).1 ≤ acc.1 ∧ _
    refine ⟨ih.1, Int.le_trans ih.2.1 hb.2.1, fun us hus => ?_⟩
    rcases List.mem_cons.1 hus with rfl | hus
    · exact Int.le_trans ih.2.1 hb.2.2
    · exact ih.2.2 us hus
theorem tryT_le' {k : Nat} {S : Nat → Int} {ps : List Int} {pre : List Nat} {L : List (List Nat)} (acc : Int × List Nat) (hL : L ≠ []) : 0 ≤ (tryT k S ps pre acc L).1 ∧ ∀ ts ∈ L, (tryT k S ps pre acc L).1 ≤ ldT k S ps ts := by
  cases L with
  | nil => exact absurd rfl hL
  | cons ts L =>
    have hn := ldT_nonneg k S ps ts
    have hb : 0 ≤ (betT acc (ldT k S ps ts, pre ++ ts)).1 ∧ (betT acc (ldT k S ps ts, pre ++ ts)).1 ≤ ldT k S ps ts := by
      unfold betT
      split
      · simp only; omega
      · rename_i hc; rw [not_or] at hc; simp only at hc ⊢; omega
    have ih := tryT_le (k := k) (S := S) (ps := ps) (pre := pre) L _ hb.1
    refine ⟨ih.1, fun us hus => ?_⟩
    rcases List.mem_cons.1 hus with rfl | hus
    · exact Int.le_trans ih.2.1 hb.2
    · exact ih.2.2 us hus
/-- What cannot be less changes nothing. -/
theorem tryT_idle {k : Nat} {S : Nat → Int} {ps : List Int} {pre : List Nat} : ∀ (L : List (List Nat)) (acc : Int × List Nat), 0 ≤ acc.1 → (∀ ts ∈ L, acc.1 ≤ ldT k S ps ts) → tryT k S ps pre acc L = acc
  | [], acc, _, _ => rfl
  | ts :: L, acc, h, hL => by
    have h1 := hL ts (by simp)
    have hb : betT acc (ldT k S ps ts, pre ++ ts) = acc := by
      unfold betT
      rw [if_neg (by simp only; omega)]
    show tryT k S ps pre (betT acc (ldT k S ps ts, pre ++ ts)) L = acc
    rw [hb]
    exact tryT_idle L acc h (fun us hus => hL us (by simp [hus]))
/-- The search with the first teams only, and no more than the best. -/
def asgS (k : Nat) : List Int → List Nat → List Int → Nat → Int × List Nat → Int × List Nat
  | [], pre, sums, _, acc => betT acc (maxF k (fun j => sums.getD j 0), pre)
  | p :: ps, pre, sums, used, acc => (List.range (min (used + 1) k)).foldl (fun acc t => if acc.1 < 0 ∨ sums.getD t 0 + p < acc.1 then asgS k ps (pre ++ [t]) (sums.set t (sums.getD t 0 + p)) (max used (t + 1)) acc else acc) acc
theorem tryT_cons (k : Nat) (S : Nat → Int) (p : Int) (ps : List Int) (pre : List Nat) (t : Nat) (L : List (List Nat)) : ∀ acc, tryT k S (p :: ps) pre acc (L.map (t :: ·)) = tryT k (fun j => S j + if t = j then p else 0) ps (pre ++ [t]) acc L := by
  induction L with
  | nil => intro acc; rfl
  | cons ts L ih =>
    intro acc
    have e : ldT k S (p :: ps) (t :: ts) = ldT k (fun j => S j + if t = j then p else 0) ps ts := by
      unfold ldT
      refine maxF_congr fun j _ => ?_
      rw [tot, Int.add_assoc]
    show tryT k S (p :: ps) pre (betT acc (ldT k S (p :: ps) (t :: ts), pre ++ t :: ts)) (L.map (t :: ·)) = _
    rw [ih, e]
    show _ = tryT k _ ps (pre ++ [t]) (betT acc (ldT k (fun j => S j + if t = j then p else 0) ps ts, pre ++ [t] ++ ts)) L
    rw [List.append_assoc]
    rfl
theorem tryT_flat (k : Nat) (S : Nat → Int) (ps : List Int) (pre : List Nat) (g : Nat → List (List Nat)) : ∀ (l : List Nat) acc, tryT k S ps pre acc (l.flatMap g) = l.foldl (fun acc t => tryT k S ps pre acc (g t)) acc
  | [], acc => rfl
  | t :: l, acc => by
    rw [List.flatMap_cons, List.foldl_cons, ← tryT_flat k S ps pre g l]
    exact List.foldl_append
/-- Two names change places. -/
def swp2 (a b j : Nat) : Nat := if j = a then b else if j = b then a else j
theorem swp2_swp2 (a b j : Nat) : swp2 a b (swp2 a b j) = j := by unfold swp2; split <;> split <;> (try split) <;> omega
theorem swp2_lt {a b j k : Nat} (ha : a < k) (hb : b < k) (hj : j < k) : swp2 a b j < k := by unfold swp2; split <;> (try split) <;> omega
theorem tot_map (a b : Nat) : ∀ (ps : List Int) (ts : List Nat) (j : Nat), tot ps (ts.map (swp2 a b)) j = tot ps ts (swp2 a b j)
  | [], ts, j => by cases ts <;> simp [tot]
  | p :: ps, [], j => by simp [tot]
  | p :: ps, t :: ts, j => by
    rw [List.map_cons, tot, tot, tot_map a b ps ts j]
    have : (swp2 a b t = j) ↔ (t = swp2 a b j) := ⟨fun h => by rw [← h, swp2_swp2], fun h => by rw [h, swp2_swp2]⟩
    by_cases h : swp2 a b t = j
    · rw [if_pos h, if_pos (this.1 h)]
    · rw [if_neg h, if_neg (fun h' => h (this.2 h'))]
theorem maxF_swp {k a b : Nat} (ha : a < k) (hb : b < k) (S : Nat → Int) : maxF k (fun j => S (swp2 a b j)) = maxF k S :=
  Int.le_antisymm (maxF_le.2 ⟨maxF_nonneg _ _, fun j hj => maxF_ge S (swp2_lt ha hb hj)⟩) (maxF_le.2 ⟨maxF_nonneg _ _, fun j hj => by
    have := maxF_ge (fun j => S (swp2 a b j)) (swp2_lt ha hb hj)
    simpa [swp2_swp2] using this⟩)
theorem foldl_idle {α β : Type} {f : β → α → β} {b : β} : ∀ {l : List α}, (∀ x ∈ l, f b x = b) → l.foldl f b = b
  | [], _ => rfl
  | x :: l, h => by rw [List.foldl_cons, h x (by simp)]; exact foldl_idle (fun y hy => h y (by simp [hy]))
theorem allT_ne {k : Nat} (hk : 1 ≤ k) (n : Nat) : allT k n ≠ [] := by
  intro h
  have : List.replicate n 0 ∈ allT k n := allT_mem.2 ⟨by simp, fun t ht => by rw [(List.mem_replicate.1 ht).2]; omega⟩
  rw [h] at this
  simp at this
theorem asgS_spec (k : Nat) (hk : 1 ≤ k) : ∀ (ps : List Int) (pre : List Nat) (sums : List Int) (used : Nat) (acc : Int × List Nat), sums.length = k → used ≤ k → (∀ p ∈ ps, 0 ≤ p) → (∀ j, 0 ≤ sums.getD j 0) → (∀ j, used ≤ j → sums.getD j 0 = 0) →
    asgS k ps pre sums used acc = tryT k (fun j => sums.getD j 0) ps pre acc (allT k ps.length) := by
  intro ps
  induction ps with
  | nil =>
    intro pre sums used acc hl hu hp h0 hz
    have e : ldT k (fun j => sums.getD j 0) [] [] = maxF k (fun j => sums.getD j 0) := maxF_congr fun j _ => by simp [tot]
    show betT acc (maxF k _, pre) = betT acc (ldT k _ [] [], pre ++ [])
    rw [e, List.append_nil]
  | cons p ps ih =>
    intro pre sums used acc hl hu hp h0 hz
    have hp0 : 0 ≤ p := hp p (by simp)
    have hps : ∀ x ∈ ps, 0 ≤ x := fun x hx => hp x (by simp [hx])
    rw [List.length_cons, allT, tryT_flat, asgS]
    -- one branch
    have hS : ∀ t, t < k → (fun j => (sums.set t (sums.getD t 0 + p)).getD j 0) = fun j => sums.getD j 0 + if t = j then p else 0 := by
      intro t ht
      funext j
      rw [List.getD_eq_getElem?_getD, List.getElem?_set]
      by_cases h : t = j
      · subst h
        rw [if_pos rfl, if_pos (by omega), if_pos rfl]; rfl
      · rw [if_neg h, if_neg h, ← List.getD_eq_getElem?_getD, Int.add_zero]
    have hbr : ∀ t, t < min (used + 1) k → ∀ acc : Int × List Nat, (if acc.1 < 0 ∨ sums.getD t 0 + p < acc.1 then asgS k ps (pre ++ [t]) (sums.set t (sums.getD t 0 + p)) (max used (t + 1)) acc else acc) = tryT k (fun j => sums.getD j 0) (p :: ps) pre acc ((allT k ps.length).map (t :: ·)) := by
      intro t ht acc
      have htk : t < k := by omega
      rw [tryT_cons, ← hS t htk]
      by_cases hc : acc.1 < 0 ∨ sums.getD t 0 + p < acc.1
      · rw [if_pos hc]
        refine ih (pre ++ [t]) _ _ acc (by rw [List.length_set]; exact hl) (by omega) hps (fun j => ?_) (fun j hj => ?_)
        · have h9 : (sums.set t (sums.getD t 0 + p)).getD j 0 = sums.getD j 0 + if t = j then p else 0 := congrFun (hS t htk) j
          rw [h9]
          have := h0 j
          split <;> omega
        · have h9 : (sums.set t (sums.getD t 0 + p)).getD j 0 = sums.getD j 0 + if t = j then p else 0 := congrFun (hS t htk) j
          rw [h9, hz j (by omega), if_neg (by omega)]
          rfl
      · rw [if_neg hc]
        rw [not_or] at hc
        refine (tryT_idle _ acc (by omega) (fun ts hts => ?_)).symm
        refine Int.le_trans ?_ (maxF_ge _ htk)
        have h1 : (sums.set t (sums.getD t 0 + p)).getD t 0 = sums.getD t 0 + if t = t then p else 0 := congrFun (hS t htk) t
        rw [if_pos rfl] at h1
        show acc.1 ≤ (sums.set t (sums.getD t 0 + p)).getD t 0 + _
        rw [h1]
        have := tot_nonneg (ps := ps) ts t hps
        omega
    have hsplit : List.range k = List.range (min (used + 1) k) ++ (List.range (k - min (used + 1) k)).map (min (used + 1) k + ·) := by
      rw [← List.range_add]; congr 1; omega
    rw [hsplit, List.foldl_append]
    have hfirst : ∀ (l : List Nat) (acc : Int × List Nat), (∀ t ∈ l, t < min (used + 1) k) → l.foldl (fun acc t => if acc.1 < 0 ∨ sums.getD t 0 + p < acc.1 then asgS k ps (pre ++ [t]) (sums.set t (sums.getD t 0 + p)) (max used (t + 1)) acc else acc) acc = l.foldl (fun acc t => tryT k (fun j => sums.getD j 0) (p :: ps) pre acc ((allT k ps.length).map (t :: ·))) acc := by
      intro l
      induction l with
      | nil => intro acc _; rfl
      | cons t l ihl =>
        intro acc hl
        rw [List.foldl_cons, List.foldl_cons, hbr t (hl t (by simp))]
        exact ihl _ (fun x hx => hl x (by simp [hx]))
    rw [hfirst _ acc (fun t ht => List.mem_range.1 ht)]
    -- the others: each has its like in the branch of the first team that is not used
    generalize hA : (List.range (min (used + 1) k)).foldl (fun acc t => tryT k (fun j => sums.getD j 0) (p :: ps) pre acc ((allT k ps.length).map (t :: ·))) acc = A
    refine (foldl_idle fun t ht => ?_).symm
    obtain ⟨i, hi, rfl⟩ := List.mem_map.1 ht
    rw [List.mem_range] at hi
    have huk : used < k := by omega
    have hmin : min (used + 1) k = used + 1 := by omega
    rw [hmin] at hA ⊢
    rw [List.range_succ, List.foldl_append, List.foldl_cons, List.foldl_nil] at hA
    have hne : (allT k ps.length).map (used :: ·) ≠ [] := by
      intro h; exact allT_ne hk _ (List.map_eq_nil_iff.1 h)
    have hle := tryT_le' (k := k) (S := fun j => sums.getD j 0) (ps := p :: ps) (pre := pre) ((List.range used).foldl (fun acc t => tryT k (fun j => sums.getD j 0) (p :: ps) pre acc ((allT k ps.length).map (t :: ·))) acc) hne
    rw [hA] at hle
    refine tryT_idle _ A hle.1 (fun ts hts => ?_)
    obtain ⟨us, hus, rfl⟩ := List.mem_map.1 hts
    obtain ⟨q1, q2⟩ := allT_mem.1 hus
    have htk : used + 1 + i < k := by omega
    have hmem : (used :: us.map (swp2 used (used + 1 + i))) ∈ (allT k ps.length).map (used :: ·) := List.mem_map.2 ⟨_, allT_mem.2 ⟨by simpa using q1, fun x hx => by
      obtain ⟨y, hy, rfl⟩ := List.mem_map.1 hx
      exact swp2_lt huk htk (q2 y hy)⟩, rfl⟩
    refine Int.le_trans (hle.2 _ hmem) (Int.le_of_eq ?_)
    unfold ldT
    rw [← maxF_swp huk htk]
    refine maxF_congr fun j hj => ?_
    rw [tot, tot, tot_map]
    rw [swp2_swp2]
    have hS2 : sums.getD (swp2 used (used + 1 + i) j) 0 = sums.getD j 0 := by
      unfold swp2
      split
      · rename_i h; rw [h, hz _ (by omega), hz _ (by omega)]
      · split
        · rename_i h; rw [h, hz _ (by omega), hz _ (by omega)]
        · rfl
    show sums.getD (swp2 used (used + 1 + i) j) 0 + _ = sums.getD j 0 + _
    rw [hS2]
    have : (used = swp2 used (used + 1 + i) j) ↔ (used + 1 + i = j) := by
      unfold swp2
      split
      · omega
      · split <;> omega
    by_cases h : used + 1 + i = j
    · rw [if_pos h, if_pos (this.2 h)]
    · rw [if_neg h, if_neg (fun h' => h (this.1 h'))]
end Go.Proofs.Ytepgcdjbhmpioaa.Fi
