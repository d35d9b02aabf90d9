/- Graham's bound of the greedy load, and the lower bounds of every load: plain. -/
import Derived.Test.YtepgcdjbhmpioaaQTgT12
namespace Go.Proofs.Ytepgcdjbhmpioaa.Fi
open Go.RowKit Go.Proofs.YtepgcdjbhmpioaaW.PrintWords Go.Proofs.YtepgcdjbhmpioaaW.PrintLast Go.Proofs.YtepgcdjbhmpioaaW.PrintMore
set_option linter.unusedVariables false
theorem range_pick (p : Int) (t : Nat) : ∀ k, ((List.range k).map fun j => if t = j then p else 0).sum = if t < k then p else 0
  | 0 => by simp
  | k + 1 => by
    rw [List.range_succ, List.map_append, List.sum_append, range_pick p t k]
    simp only [List.map_cons, List.map_nil, List.sum_cons, List.sum_nil, Int.add_zero]
    by_cases h1 : t < k
    · rw [if_pos h1, if_neg (by omega), if_pos (by omega)]; omega
    · by_cases h2 : t = k
      · rw [if_neg h1, if_pos h2, if_pos (by omega)]; omega
      · rw [if_neg h1, if_neg h2, if_neg (by omega)]; omega
theorem sum_map_add (f g : Nat → Int) : ∀ L : List Nat, (L.map fun j => f j + g j).sum = (L.map f).sum + (L.map g).sum
  | [] => rfl
  | a :: L => by
    simp only [List.map_cons, List.sum_cons]
    rw [sum_map_add f g L]
    omega
/-- What the teams get together. -/
theorem tot_total (k : Nat) : ∀ (p : List Int) (ts : List Nat), ts.length = p.length → (∀ t ∈ ts, t < k) → ((List.range k).map (tot p ts)).sum = p.sum
  | [], [], _, _ => by
    have e : ∀ L : List Nat, (L.map (tot [] [])).sum = 0 := fun L => by
      induction L with
      | nil => rfl
      | cons a L ih =>
        rw [List.map_cons, List.sum_cons, ih]
        rfl
    exact e _
  | [], _ :: _, h, _ => by simp at h
  | _ :: _, [], h, _ => by simp at h
  | a :: p, t :: ts, h, ht => by
    have ih := tot_total k p ts (by simpa using h) (fun x hx => ht x (by simp [hx]))
    have e : (tot (a :: p) (t :: ts)) = fun j => (if t = j then a else 0) + tot p ts j := by funext j; rw [tot]
    rw [e, sum_map_add, range_pick, if_pos (ht t (by simp)), ih, List.sum_cons]
theorem sum_ge (c : Int) (S : Nat → Int) : ∀ k : Nat, (∀ j, j < k → c ≤ S j) → (k : Int) * c ≤ ((List.range k).map S).sum
  | 0, _ => by simp
  | k + 1, h => by
    have h1 := sum_ge c S k (fun j hj => h j (by omega))
    have h2 := h k (by omega)
    rw [List.range_succ, List.map_append, List.sum_append]
    simp only [List.map_cons, List.map_nil, List.sum_cons, List.sum_nil, Int.add_zero]
    rw [Int.natCast_succ, Int.add_mul, Int.one_mul]
    omega
theorem sum_le (c : Int) (S : Nat → Int) : ∀ k : Nat, (∀ j, j < k → S j ≤ c) → ((List.range k).map S).sum ≤ (k : Int) * c
  | 0, _ => by simp
  | k + 1, h => by
    have h1 := sum_le c S k (fun j hj => h j (by omega))
    have h2 := h k (by omega)
    rw [List.range_succ, List.map_append, List.sum_append]
    simp only [List.map_cons, List.map_nil, List.sum_cons, List.sum_nil, Int.add_zero]
    rw [Int.natCast_succ, Int.add_mul, Int.one_mul]
    omega
theorem tot_take : ∀ (m : Nat) (p : List Int) (ts : List Nat) (j : Nat), (∀ x ∈ p, 0 ≤ x) → tot (p.take m) (ts.take m) j ≤ tot p ts j
  | 0, p, ts, j, h => by
    rw [List.take_zero]
    exact tot_nonneg ts j h
  | m + 1, [], ts, j, _ => by simp [tot]
  | m + 1, a :: p, [], j, h => by simp [tot]
  | m + 1, a :: p, t :: ts, j, h => by
    have := tot_take m p ts j (fun x hx => h x (by simp [hx]))
    rw [List.take_succ_cons, List.take_succ_cons, tot, tot]
    omega
def wtS (B q : Int) : Int := if q > B then 2 else 1
theorem wt_low (B : Int) (hB : 0 ≤ B) : ∀ (q : List Int) (ts : List Nat) (j : Nat), (∀ x ∈ q, 1 ≤ x) → 0 ≤ tot (q.map (wtS B)) ts j ∧ (tot (q.map (wtS B)) ts j = 0 → tot q ts j = 0) ∧ (tot (q.map (wtS B)) ts j = 1 → tot q ts j ≤ B)
  | [], ts, j, _ => by cases ts <;> simp [tot]
  | a :: q, [], j, _ => by simp [tot]
  | a :: q, t :: ts, j, h => by
    obtain ⟨h1, h2, h3⟩ := wt_low B hB q ts j (fun x hx => h x (by simp [hx]))
    have ha := h a (by simp)
    have hw : (wtS B a = 2 ∧ a > B) ∨ (wtS B a = 1 ∧ a ≤ B) := by
      unfold wtS
      split
      · exact .inl ⟨rfl, by assumption⟩
      · exact .inr ⟨rfl, by omega⟩
    rw [List.map_cons, tot, tot]
    by_cases ht : t = j
    · rw [if_pos ht, if_pos ht]
      refine ⟨by omega, fun e => by omega, fun e => ?_⟩
      have := h2 (by omega)
      omega
    · rw [if_neg ht, if_neg ht, Int.zero_add, Int.zero_add]
      exact ⟨h1, h2, h3⟩
theorem wt_high (M x : Int) (h3 : M < 3 * x) (hx : 1 ≤ x) (hM : x ≤ M) : ∀ (q : List Int) (ts : List Nat) (j : Nat), (∀ y ∈ q, x ≤ y) →
    0 ≤ tot (q.map (wtS (M - x))) ts j ∧ 0 ≤ tot q ts j ∧ (tot (q.map (wtS (M - x))) ts j = 1 → x ≤ tot q ts j) ∧ (tot (q.map (wtS (M - x))) ts j = 2 → 2 * x ≤ tot q ts j ∨ M - x < tot q ts j) ∧ (3 ≤ tot (q.map (wtS (M - x))) ts j → M < tot q ts j)
  | [], ts, j, _ => by cases ts <;> simp [tot]
  | a :: q, [], j, _ => by simp [tot]
  | a :: q, t :: ts, j, h => by
    obtain ⟨h1, h2, h4, h5, h6⟩ := wt_high M x h3 hx hM q ts j (fun x hx => h x (by simp [hx]))
    have ha := h a (by simp)
    have hw : (wtS (M - x) a = 2 ∧ a > M - x) ∨ (wtS (M - x) a = 1 ∧ a ≤ M - x) := by
      unfold wtS
      split
      · exact .inl ⟨rfl, by assumption⟩
      · exact .inr ⟨rfl, by omega⟩
    rw [List.map_cons, tot, tot]
    generalize tot (q.map (wtS (M - x))) ts j = V at *
    generalize tot q ts j = T at *
    by_cases ht : t = j
    · rw [if_pos ht, if_pos ht]
      have hV : V = 0 ∨ V = 1 ∨ V = 2 ∨ 3 ≤ V := by omega
      rcases hV with hV | hV | hV | hV
      · refine ⟨by omega, by omega, fun e => by omega, fun e => by omega, fun e => by omega⟩
      · have := h4 hV
        refine ⟨by omega, by omega, fun e => by omega, fun e => by omega, fun e => by omega⟩
      · have := h5 hV
        refine ⟨by omega, by omega, fun e => by omega, fun e => by omega, fun e => by omega⟩
      · have := h6 hV
        refine ⟨by omega, by omega, fun e => by omega, fun e => by omega, fun e => by omega⟩
    · rw [if_neg ht, if_neg ht, Int.zero_add, Int.zero_add]
      exact ⟨h1, h2, h4, h5, h6⟩
/-- If all pulls are greater than a third of what is enough, some team has room. -/
theorem room {k : Nat} {ps : List Int} {x M : Int} {ts us : List Nat} (hps : ∀ y ∈ ps, x ≤ y) (hx : 1 ≤ x) (hM : x ≤ M) (h3 : M < 3 * x) (ht : ts.length = ps.length) (htk : ∀ t ∈ ts, t < k) (hu : us.length = ps.length + 1) (huk : ∀ t ∈ us, t < k)
    (hopt : ∀ j, j < k → tot (ps ++ [x]) us j ≤ M) : ∃ j, j < k ∧ tot ps ts j ≤ M - x := by
  refine Classical.byContradiction fun hno => ?_
  have hall : ∀ j, j < k → M - x < tot ps ts j := fun j hj => by
    refine Classical.byContradiction fun h => hno ⟨j, hj, by omega⟩
  have lo : ∀ j, j < k → 2 ≤ tot (ps.map (wtS (M - x))) ts j := fun j hj => by
    obtain ⟨h1, h2, h4⟩ := wt_low (M - x) (by omega) ps ts j (fun y hy => by have := hps y hy; omega)
    have := hall j hj
    refine Classical.byContradiction fun h => ?_
    have h5 : tot (ps.map (wtS (M - x))) ts j = 0 ∨ tot (ps.map (wtS (M - x))) ts j = 1 := by omega
    rcases h5 with h5 | h5
    · have := h2 h5; omega
    · have := h4 h5; omega
  have hi : ∀ j, j < k → tot ((ps ++ [x]).map (wtS (M - x))) us j ≤ 2 := fun j hj => by
    obtain ⟨_, _, _, _, h6⟩ := wt_high M x h3 hx hM (ps ++ [x]) us j (fun y hy => by
      rcases List.mem_append.1 hy with hy | hy
      · exact hps y hy
      · have : y = x := by simpa using hy
        omega)
    have := hopt j hj
    refine Classical.byContradiction fun h => ?_
    have := h6 (by omega)
    omega
  have s1 := sum_ge 2 _ k lo
  have s2 := sum_le 2 _ k hi
  rw [tot_total k _ _ (by rw [List.length_map]; exact ht) htk] at s1
  rw [tot_total k _ _ (by rw [List.length_map, List.length_append]; simpa using hu) huk, List.map_append, List.sum_append] at s2
  have h1 : 1 ≤ wtS (M - x) x := by
    unfold wtS
    split <;> omega
  simp only [List.map_cons, List.map_nil, List.sum_cons, List.sum_nil, Int.add_zero] at s2
  omega
theorem minAt_spec {s : List Int} (h : 1 ≤ s.length) : minAt s < s.length ∧ ∀ j, j < s.length → s.getD (minAt s) 0 ≤ s.getD j 0 := by
  obtain ⟨h1, h2⟩ := minT_spec (l := s) (by omega)
  have h3 : minAt s < s.length := List.idxOf_lt_length_iff.2 h2
  refine ⟨h3, fun j hj => ?_⟩
  have e : s.getD (minAt s) 0 = minT s s.length := by
    rw [List.getD_eq_getElem?_getD, List.getElem?_eq_getElem h3]
    exact List.getElem_idxOf h3
  rw [e]
  exact h1 _ (getD_mem hj)
def stV (k : Nat) (p : List Int) (m : Nat) : List Int := (p.take m).foldl giveV (List.replicate k 0)
theorem stV_succ (k : Nat) (p : List Int) (m : Nat) (h : m < p.length) : stV k p (m + 1) = giveV (stV k p m) (p.getD m 0) := by
  unfold stV
  rw [List.take_add_one, List.getElem?_eq_getElem h, List.foldl_append, List.getD_eq_getElem?_getD, List.getElem?_eq_getElem h]
  rfl
theorem take_succ_getD (l : List Int) (i : Nat) (h : i < l.length) : l.take (i + 1) = l.take i ++ [l.getD i 0] := by
  rw [List.take_add_one, List.getElem?_eq_getElem h, List.getD_eq_getElem?_getD, List.getElem?_eq_getElem h]
  rfl
theorem stV_teams {k : Nat} (hk : 1 ≤ k) (p : List Int) : ∀ m, m ≤ p.length → (stV k p m).length = k ∧ ∃ ts : List Nat, ts.length = m ∧ (∀ t ∈ ts, t < k) ∧ ∀ j, j < k → (stV k p m).getD j 0 = tot (p.take m) ts j
  | 0, _ => by
    refine ⟨by simp [stV], [], rfl, by simp, fun j hj => ?_⟩
    simp only [stV, List.take_zero, List.foldl_nil, tot]
    rw [List.getD_eq_getElem?_getD, List.getElem?_replicate, if_pos hj]
    rfl
  | m + 1, h => by
    obtain ⟨h1, ts, h2, h3, h4⟩ := stV_teams hk p m (by omega)
    obtain ⟨h5, _⟩ := minAt_spec (s := stV k p m) (by omega)
    rw [stV_succ k p m (by omega)]
    refine ⟨by unfold giveV; rw [List.length_set]; exact h1, ts ++ [minAt (stV k p m)], by simp [h2], fun t ht => ?_, fun j hj => ?_⟩
    · rcases List.mem_append.1 ht with ht | ht
      · exact h3 t ht
      · have : t = minAt (stV k p m) := by simpa using ht
        omega
    · rw [take_succ_getD p m (by omega), tot_snoc _ _ _ _ _ (by rw [h2, List.length_take]; omega)]
      unfold giveV
      by_cases e : minAt (stV k p m) = j
      · rw [if_pos e, ← e, getD_set_self (by omega), h4 _ (by omega)]
      · rw [if_neg e, getD_set_other _ e, h4 j hj, Int.add_zero]
/-- Graham's bound, for falling pulls. -/
theorem graham_core {k : Nat} (hk : 1 ≤ k ∧ k ≤ 4) {p : List Int} (hp : ∀ x ∈ p, 1 ≤ x) (hs : p.Pairwise fun x y => y ≤ x) {us : List Nat} {M : Int} (hu : us.length = p.length) (huk : ∀ t ∈ us, t < k) (hopt : ∀ j, j < k → tot p us j ≤ M) (hM : 0 ≤ M) :
    ∀ m, m ≤ p.length → ∀ j, j < k → 3 * (k : Int) * (stV k p m).getD j 0 ≤ (4 * (k : Int) - 1) * M
  | 0, _, j, hj => by
    have e : (stV k p 0).getD j 0 = 0 := by
      simp only [stV, List.take_zero, List.foldl_nil]
      rw [List.getD_eq_getElem?_getD, List.getElem?_replicate, if_pos hj]
      rfl
    rw [e, Int.mul_zero]
    exact Int.mul_nonneg (by omega) hM
  | m + 1, h, j, hj => by
    have ih := graham_core hk hp hs hu huk hopt hM m (by omega) j hj
    obtain ⟨h1, ts, h2, h3, h4⟩ := stV_teams hk.1 p m (by omega)
    obtain ⟨h5, h6⟩ := minAt_spec (s := stV k p m) (by omega)
    rw [stV_succ k p m (by omega)]
    unfold giveV
    by_cases e : minAt (stV k p m) = j
    · rw [← e, getD_set_self h5]
      obtain ⟨x, hx⟩ : ∃ x, x = p.getD m 0 := ⟨_, rfl⟩
      obtain ⟨z, hz⟩ : ∃ z, z = (stV k p m).getD (minAt (stV k p m)) 0 := ⟨_, rfl⟩
      rw [← hx, ← hz]
      rw [← hz] at h6
      have hxm : x ∈ p := by rw [hx]; exact getD_mem (by omega)
      have hx1 := hp x hxm
      have hpx : p.take (m + 1) = p.take m ++ [x] := by rw [take_succ_getD p m (by omega), hx]
      have hnn : ∀ y ∈ p, 0 ≤ y := fun y hy => by have := hp y hy; omega
      have hopt' : ∀ j, j < k → tot (p.take m ++ [x]) (us.take (m + 1)) j ≤ M := fun j hj => by
        rw [← hpx]
        exact Int.le_trans (tot_take (m + 1) p us j hnn) (hopt j hj)
      have huk' : ∀ t ∈ us.take (m + 1), t < k := fun t ht => huk t (List.mem_of_mem_take ht)
      have hul : (us.take (m + 1)).length = (p.take m).length + 1 := by rw [List.length_take, List.length_take]; omega
      have hpt := tot_total k (p.take m ++ [x]) (us.take (m + 1)) (by rw [hul]; simp) huk'
      have hkM := sum_le M _ k hopt'
      rw [hpt, List.sum_append] at hkM
      simp only [List.sum_cons, List.sum_nil, Int.add_zero] at hkM
      have hts := tot_total k (p.take m) ts (by rw [h2, List.length_take]; omega) h3
      have hkz := sum_ge z (tot (p.take m) ts) k (fun j hj => by rw [← h4 j hj]; exact h6 j (by omega))
      rw [hts] at hkz
      by_cases c3 : 3 * x ≤ M
      · rcases (show k = 1 ∨ k = 2 ∨ k = 3 ∨ k = 4 by omega) with rfl | rfl | rfl | rfl <;> omega
      · have hxM : x ≤ M := by
          have hps0 : 0 ≤ (p.take m).sum := sum_nonneg (fun y hy => hnn y (List.mem_of_mem_take hy))
          have hu2 : us.take (m + 1) = us.take m ++ [us.getD m 0] := by
            rw [List.take_add_one, List.getElem?_eq_getElem (by omega), List.getD_eq_getElem?_getD, List.getElem?_eq_getElem (by omega)]
            rfl
          have hlt : us.getD m 0 < k := huk' _ (by rw [hu2]; simp)
          have h7 := hopt' _ hlt
          rw [hu2, tot_snoc _ _ _ _ _ (by rw [List.length_take, List.length_take]; omega), if_pos rfl] at h7
          have := tot_nonneg (ps := p.take m) (us.take m) (us.getD m 0) (fun y hy => hnn y (List.mem_of_mem_take hy))
          omega
        have hps : ∀ y ∈ p.take m, x ≤ y := by
          rw [← List.take_append_drop m p, List.pairwise_append] at hs
          intro y hy
          refine hs.2.2 y hy x ?_
          rw [hx, List.getD_eq_getElem?_getD, List.getElem?_eq_getElem (by omega)]
          exact List.mem_iff_getElem.2 ⟨0, by rw [List.length_drop]; omega, by simp⟩
        obtain ⟨i, hi, hr⟩ := room hps hx1 hxM (by omega) (by rw [h2, List.length_take]; omega) h3 hul huk' hopt'
        have := h6 i (by omega)
        rw [h4 i hi] at this
        rcases (show k = 1 ∨ k = 2 ∨ k = 3 ∨ k = 4 by omega) with rfl | rfl | rfl | rfl <;> omega
    · rw [getD_set_other _ e]
      exact ih
theorem maxT_at {s : List Int} {k : Nat} (hl : s.length = k) (hk : 1 ≤ k) : ∃ j, j < k ∧ maxT s k = s.getD j 0 := by
  obtain ⟨_, h2⟩ := maxT_spec (l := s) (by omega)
  rw [hl] at h2
  obtain ⟨j, hj, e⟩ := List.getElem_of_mem h2
  refine ⟨j, by omega, ?_⟩
  rw [← e, List.getD_eq_getElem?_getD, List.getElem?_eq_getElem hj]
  rfl
theorem graham {k : Nat} (hk : 1 ≤ k ∧ k ≤ 4) {l : List Int} (hl : 1 ≤ l.length) (hp : ∀ x ∈ l, 1 ≤ x) {M : Int} (hM : IsLow k l M) : 3 * (k : Int) * maxT (greedyS k l).2 k ≤ (4 * (k : Int) - 1) * M := by
  have hM2 := hM.perm (fall_perm l).symm
  obtain ⟨us, h1, h2⟩ := hM2.got
  obtain ⟨h3, h4⟩ := allT_mem.1 h1
  have e : (greedyS k l).2 = stV k (fallS l) (fallS l).length := by
    rw [greedy_is hl]
    unfold greedyV stV
    rw [List.take_length]
  obtain ⟨g1, _⟩ := stV_teams hk.1 (fallS l) _ (Nat.le_refl _)
  obtain ⟨j, hj, g2⟩ := maxT_at g1 hk.1
  rw [e, g2]
  refine graham_core hk (fun x hx => hp x ((fall_perm l).mem_iff.1 hx)) (fall_sorted l) h3 h4 (fun j hj => ?_) ?_ _ (Nat.le_refl _) j hj
  · rw [← h2]
    exact maxF_ge _ hj
  · rw [← h2]
    exact maxF_nonneg _ _
theorem cnt_low (y : Int) (hy : 0 ≤ y) : ∀ (q : List Int) (ts : List Nat) (j : Nat), (∀ x ∈ q, y ≤ x) →
    0 ≤ tot (q.map fun _ => 1) ts j ∧ 0 ≤ tot q ts j ∧ (tot (q.map fun _ => 1) ts j = 1 → y ≤ tot q ts j) ∧ (2 ≤ tot (q.map fun _ => 1) ts j → 2 * y ≤ tot q ts j)
  | [], ts, j, _ => by cases ts <;> simp [tot]
  | a :: q, [], j, _ => by simp [tot]
  | a :: q, t :: ts, j, h => by
    obtain ⟨h1, h2, h4, h5⟩ := cnt_low y hy q ts j (fun x hx => h x (by simp [hx]))
    have ha := h a (by simp)
    rw [List.map_cons, tot, tot]
    generalize tot (q.map fun _ => (1 : Int)) ts j = V at *
    generalize tot q ts j = T at *
    by_cases ht : t = j
    · rw [if_pos ht, if_pos ht]
      have hV : V = 0 ∨ V = 1 ∨ 2 ≤ V := by omega
      rcases hV with hV | hV | hV
      · refine ⟨by omega, by omega, fun e => by omega, fun e => by omega⟩
      · have := h4 hV
        refine ⟨by omega, by omega, fun e => by omega, fun e => by omega⟩
      · have := h5 hV
        refine ⟨by omega, by omega, fun e => by omega, fun e => by omega⟩
    · rw [if_neg ht, if_neg ht, Int.zero_add, Int.zero_add]
      exact ⟨h1, h2, h4, h5⟩
theorem sum_ones : ∀ q : List Int, (q.map fun _ => (1 : Int)).sum = q.length
  | [] => rfl
  | a :: q => by
    rw [List.map_cons, List.sum_cons, sum_ones q, List.length_cons]
    omega
/-- With one pull more than teams, two pulls are together. -/
theorem two_together {k : Nat} {q : List Int} {y z M : Int} {us : List Nat} (hq : ∀ x ∈ q, y ≤ x) (hz : 0 ≤ z) (hzy : z ≤ y) (hl : q.length = k) (hu : us.length = k) {t : Nat} (huk : ∀ u ∈ us, u < k) (ht : t < k) (hopt : ∀ j, j < k → tot (q ++ [z]) (us ++ [t]) j ≤ M) : y + z ≤ M := by
  refine Classical.byContradiction fun hno => ?_
  have e : ∀ j, tot (q ++ [z]) (us ++ [t]) j = tot q us j + if t = j then z else 0 := fun j => tot_snoc z t j q us (by omega)
  have hone : ∀ j, j < k → tot (q.map fun _ => 1) us j + (if t = j then 1 else 0) ≤ 1 := fun j hj => by
    obtain ⟨h1, h2, h4, h5⟩ := cnt_low y (by omega) q us j hq
    have := hopt j hj
    rw [e j] at this
    generalize tot (q.map fun _ => (1 : Int)) us j = V at *
    generalize tot q us j = T at *
    refine Classical.byContradiction fun h => ?_
    by_cases hj : t = j
    · rw [if_pos hj] at this h
      have hV : V = 1 ∨ 2 ≤ V := by omega
      rcases hV with hV | hV
      · have := h4 hV; omega
      · have := h5 hV; omega
    · rw [if_neg hj] at this h
      have := h5 (by omega)
      omega
  have s1 := sum_le 1 _ k hone
  rw [sum_map_add, range_pick, if_pos ht, tot_total k _ _ (by rw [List.length_map]; omega) huk, sum_ones] at s1
  omega
theorem tot_elem : ∀ (p : List Int) (ts : List Nat) (i : Nat), (∀ x ∈ p, 0 ≤ x) → i < p.length → i < ts.length → p.getD i 0 ≤ tot p ts (ts.getD i 0)
  | [], _, i, _, h, _ => by simp at h
  | _ :: _, [], i, _, _, h => by simp at h
  | a :: p, t :: ts, 0, h, _, _ => by
    have := tot_nonneg (ps := p) ts t (fun x hx => h x (by simp [hx]))
    show a ≤ tot (a :: p) (t :: ts) t
    rw [tot, if_pos rfl]
    omega
  | a :: p, t :: ts, i + 1, h, h1, h2 => by
    have := tot_elem p ts i (fun x hx => h x (by simp [hx])) (by simpa using h1) (by simpa using h2)
    have ha := h a (by simp)
    show p.getD i 0 ≤ tot (a :: p) (t :: ts) (ts.getD i 0)
    rw [tot]
    split <;> omega
theorem bound_le {k : Nat} (hk : 1 ≤ k ∧ k ≤ 4) {l : List Int} (hl : 1 ≤ l.length) (hp : ∀ x ∈ l, 0 ≤ x) {M : Int} (hM : IsLow k l M) : boundS k l ≤ M := by
  have hM2 := hM.perm (fall_perm l).symm
  obtain ⟨us, h1, h2⟩ := hM2.got
  obtain ⟨h3, h4⟩ := allT_mem.1 h1
  have hlen := (fall_perm l).length_eq
  have hnn : ∀ x ∈ fallS l, 0 ≤ x := fun x hx => hp x ((fall_perm l).mem_iff.1 hx)
  have hopt : ∀ j, j < k → tot (fallS l) us j ≤ M := fun j hj => by
    rw [← h2]
    exact maxF_ge _ hj
  have hsum := sum_le M _ k hopt
  rw [tot_total k _ _ h3 h4, perm_sum (fall_perm l)] at hsum
  have hs0 := sum_nonneg hp
  have e1 : (fallS l).getD 0 0 ≤ M := by
    have h5 := tot_elem (fallS l) us 0 hnn (by omega) (by omega)
    have h6 : us.getD 0 0 < k := h4 _ (by
      rw [List.getD_eq_getElem?_getD, List.getElem?_eq_getElem (by omega)]
      exact List.getElem_mem _)
    exact Int.le_trans h5 (hopt _ h6)
  have e2 : (l.sum + (k : Int) - 1) / (k : Int) ≤ M := by
    rcases (show k = 1 ∨ k = 2 ∨ k = 3 ∨ k = 4 by omega) with rfl | rfl | rfl | rfl <;> omega
  unfold boundS
  split
  · rename_i hkl
    have e3 : (fallS l).getD (k - 1) 0 + (fallS l).getD k 0 ≤ M := by
      obtain ⟨p, hpe⟩ : ∃ p, p = fallS l := ⟨_, rfl⟩
      have hso := fall_sorted l
      rw [← hpe] at hnn hopt hlen h3 hso ⊢
      have hpk := take_succ_getD p k (by omega)
      have huk : us.take (k + 1) = us.take k ++ [us.getD k 0] := by
        rw [List.take_add_one, List.getElem?_eq_getElem (by omega), List.getD_eq_getElem?_getD, List.getElem?_eq_getElem (by omega)]
        rfl
      have hge : ∀ i j, i ≤ j → j < p.length → p.getD j 0 ≤ p.getD i 0 := fun i j hij hj => by
        rcases Nat.eq_or_lt_of_le hij with h | h
        · rw [h]; exact Int.le_refl _
        · rw [List.pairwise_iff_getElem] at hso
          have := hso i j (by omega) hj h
          rw [List.getD_eq_getElem?_getD, List.getElem?_eq_getElem hj, List.getD_eq_getElem?_getD, List.getElem?_eq_getElem (by omega)]
          exact this
      refine two_together (k := k) (q := p.take k) (us := us.take k) (t := us.getD k 0) (fun x hx => ?_) (hnn _ (getD_mem (by omega))) (hge _ _ (by omega) (by omega)) (by rw [List.length_take]; omega) (by rw [List.length_take]; omega) (fun u hu => h4 u (List.mem_of_mem_take hu)) (h4 _ ?_) (fun j hj => ?_)
      · obtain ⟨i, hi, rfl⟩ := List.getElem_of_mem hx
        rw [List.length_take] at hi
        have := hge i (k - 1) (by omega) (by omega)
        rw [List.getElem_take]
        rw [List.getD_eq_getElem?_getD (i := i), List.getElem?_eq_getElem (by omega)] at this
        exact this
      · rw [List.getD_eq_getElem?_getD, List.getElem?_eq_getElem (by omega)]
        exact List.getElem_mem _
      · rw [← hpk, ← huk]
        exact Int.le_trans (tot_take (k + 1) p us j hnn) (hopt j hj)
    omega
  · omega
end Go.Proofs.Ytepgcdjbhmpioaa.Fi
