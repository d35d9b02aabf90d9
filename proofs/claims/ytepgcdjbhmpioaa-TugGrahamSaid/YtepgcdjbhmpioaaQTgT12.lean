/- Teams and their loads in plain words: the least load depends neither on the order nor, but for the factor, on the scale; the greedy load likewise. -/
import Derived.Test.YtepgcdjbhmpioaaQTgT11
import Derived.Test.YtepgcdjbhmpioaaQTgH4b
namespace Go.Proofs.Ytepgcdjbhmpioaa.Fi
open Go.RowKit Go.Sort Go.Proofs.YtepgcdjbhmpioaaW.PrintWords Go.Proofs.YtepgcdjbhmpioaaW.PrintLast Go.Proofs.YtepgcdjbhmpioaaW.PrintMore
set_option linter.unusedVariables false
theorem tryT_in {k : Nat} {S : Nat → Int} {ps : List Int} {pre : List Nat} : ∀ (L : List (List Nat)) (acc : Int × List Nat), tryT k S ps pre acc L = acc ∨ ∃ ts ∈ L, tryT k S ps pre acc L = (ldT k S ps ts, pre ++ ts)
  | [], acc => .inl rfl
  | ts :: L, acc => by
    have ih := tryT_in (k := k) (S := S) (ps := ps) (pre := pre) L (betT acc (ldT k S ps ts, pre ++ ts))
    rcases ih with ih | ⟨us, h1, h2⟩
    · change tryT k S ps pre acc (ts :: L) = _ at ih
      unfold betT at ih
      split at ih
      · exact .inr ⟨ts, by simp, ih⟩
      · exact .inl ih
    · exact .inr ⟨us, by simp [h1], h2⟩
/-- The greatest of the teams' loads. -/
def loadT (k : Nat) (l : List Int) (ts : List Nat) : Int := maxF k (tot l ts)
theorem loadT_is (k : Nat) (l : List Int) (ts : List Nat) : ldT k (fun _ => 0) l ts = loadT k l ts := maxF_congr fun j _ => Int.zero_add _
theorem teams_spec {k : Nat} (hk : 1 ≤ k) {l : List Int} (hl : ∀ x ∈ l, 0 ≤ x) : teamsS k l = (loadT k l (teamsS k l).2, (teamsS k l).2) ∧ (teamsS k l).2 ∈ allT k l.length ∧ ∀ us ∈ allT k l.length, (teamsS k l).1 ≤ loadT k l us := by
  have hz : ∀ j, (List.replicate k (0 : Int)).getD j 0 = 0 := fun j => by
    rw [List.getD_eq_getElem?_getD, List.getElem?_replicate]
    split <;> rfl
  have e : teamsS k l = tryT k (fun _ => 0) l [] (-1, []) (allT k l.length) := by
    unfold teamsS
    rw [asgS_spec k hk l [] _ 0 (-1, []) (by simp) (by omega) hl (fun j => by rw [hz]; omega) (fun j _ => hz j), funext hz]
  have h1 := tryT_le' (k := k) (S := fun _ => 0) (ps := l) (pre := []) (-1, []) (allT_ne hk l.length)
  rcases tryT_in (k := k) (S := fun _ => 0) (ps := l) (pre := []) (allT k l.length) (-1, []) with h2 | ⟨ts, h2, h3⟩
  · rw [h2] at h1
    exact absurd h1.1 (by decide)
  · rw [← e] at h3 h1
    rw [List.nil_append, loadT_is] at h3
    have e2 : (teamsS k l).2 = ts := by rw [h3]
    refine ⟨by rw [e2]; exact h3, by rw [e2]; exact h2, fun us hus => ?_⟩
    have := h1.2 us hus
    rwa [loadT_is] at this
/-- The least load of any teams. -/
structure IsLow (k : Nat) (l : List Int) (d : Int) : Prop where
  got : ∃ ts ∈ allT k l.length, loadT k l ts = d
  least : ∀ ts ∈ allT k l.length, d ≤ loadT k l ts
theorem teams_low {k : Nat} (hk : 1 ≤ k) {l : List Int} (hl : ∀ x ∈ l, 0 ≤ x) : IsLow k l (teamsS k l).1 := by
  obtain ⟨h1, h2, h3⟩ := teams_spec hk hl
  exact ⟨⟨_, h2, (congrArg Prod.fst h1).symm⟩, h3⟩
/-- Teams of the same pulls in another order. -/
theorem perm_teams {p q : List Int} (h : p.Perm q) : ∀ ts : List Nat, ts.length = p.length → ∃ us : List Nat, us.length = q.length ∧ us.Perm ts ∧ ∀ j, tot q us j = tot p ts j := by
  induction h with
  | nil => exact fun s hs => ⟨s, hs, List.Perm.refl _, fun _ => rfl⟩
  | cons x _ ih =>
    intro s hs
    cases s with
    | nil => simp at hs
    | cons b s =>
      obtain ⟨t, h1, h2, h3⟩ := ih s (by simpa using hs)
      exact ⟨b :: t, by simp [h1], h2.cons b, fun j => by rw [tot, tot, h3]⟩
  | swap x y l =>
    intro s hs
    match s, hs with
    | b :: c :: s, hs =>
      refine ⟨c :: b :: s, by simpa using hs, List.Perm.swap _ _ _, fun j => ?_⟩
      simp only [tot]
      omega
    | [_], hs => simp at hs
    | [], hs => simp at hs
  | trans _ _ ih1 ih2 =>
    intro s hs
    obtain ⟨t, a1, a2, a3⟩ := ih1 s hs
    obtain ⟨u, b1, b2, b3⟩ := ih2 t a1
    exact ⟨u, b1, b2.trans a2, fun j => (b3 j).trans (a3 j)⟩
theorem perm_all {k : Nat} {p q : List Int} (h : p.Perm q) {ts : List Nat} (ht : ts ∈ allT k p.length) : ∃ us ∈ allT k q.length, ∀ j, tot q us j = tot p ts j := by
  obtain ⟨h1, h2⟩ := allT_mem.1 ht
  obtain ⟨us, a1, a2, a3⟩ := perm_teams h ts h1
  exact ⟨us, allT_mem.2 ⟨a1, fun t ht => h2 t (a2.mem_iff.1 ht)⟩, a3⟩
theorem IsLow.perm {k : Nat} {p q : List Int} {d : Int} (h : IsLow k p d) (hp : p.Perm q) : IsLow k q d := by
  obtain ⟨⟨ts, a1, a2⟩, h2⟩ := h
  refine ⟨?_, fun ts ht => ?_⟩
  · obtain ⟨us, b1, b2⟩ := perm_all hp a1
    exact ⟨us, b1, (maxF_congr fun j _ => b2 j).trans a2⟩
  · obtain ⟨us, b1, b2⟩ := perm_all hp.symm ht
    exact Int.le_trans (h2 us b1) (Int.le_of_eq (maxF_congr fun j _ => b2 j))
theorem tot_snoc (x : Int) (t j : Nat) : ∀ (p : List Int) (ts : List Nat), ts.length = p.length → tot (p ++ [x]) (ts ++ [t]) j = tot p ts j + if t = j then x else 0
  | [], [], _ => by simp [tot]
  | [], _ :: _, h => by simp at h
  | _ :: _, [], h => by simp at h
  | a :: p, u :: ts, h => by
    rw [List.cons_append, List.cons_append, tot, tot, tot_snoc x t j p ts (by simpa using h), Int.add_assoc]
theorem sum_nonneg {p : List Int} (h : ∀ x ∈ p, 0 ≤ x) : 0 ≤ p.sum := by
  induction p with
  | nil => simp
  | cons a p ih =>
    have := h a (by simp)
    have := ih (fun x hx => h x (by simp [hx]))
    rw [List.sum_cons]
    omega
def giveV (sums : List Int) (p : Int) : List Int := sums.set (minAt sums) (sums.getD (minAt sums) 0 + p)
theorem greedy_sums (k : Nat) (l : List Int) : (greedyS k l).2 = ((orderS l).map (l.getD · 0)).foldl giveV (List.replicate k 0) := by
  unfold greedyS
  generalize (List.replicate l.length (0 : Int)) = a
  generalize (List.replicate k (0 : Int)) = b
  induction orderS l generalizing a b with
  | nil => rfl
  | cons i L ih => rw [List.foldl_cons, ih]; rfl
theorem map_getD_range (l : List Int) : (List.range l.length).map (l.getD · 0) = l := by
  apply List.ext_getElem
  · simp
  · intro i h1 h2
    rw [List.getElem_map, List.getElem_range, List.getD_eq_getElem?_getD, List.getElem?_eq_getElem h2]
    rfl
theorem lt_cfP (l : List Int) (x y : Fin (l.length - 1 + 1)) : ltOf (cfP l) x y = decide (l.getD y.val 0 - l.getD x.val 0 < 0) := rfl
theorem orderS_perm {l : List Int} (h : 1 ≤ l.length) : (orderS l).Perm (List.range l.length) := by
  obtain ⟨⟨h1, _, h2⟩, _⟩ := insertionSort_holds (swoP l) (allP l) 0 (allP l).size (Nat.zero_le _) (Nat.le_refl _)
  have e1 : (Go.Sort.insertionSort (ltOf (cfP l)) (allP l) 0 (allP l).size).extract 0 (allP l).size = Go.Sort.insertionSort (ltOf (cfP l)) (allP l) 0 (allP l).size := by
    rw [Array.extract_eq_self_iff]; exact .inr ⟨rfl, by omega⟩
  have e2 : (allP l).extract 0 (allP l).size = allP l := Array.extract_size
  rw [e1, e2] at h2
  have h3 := h2.map Fin.val
  have e3 : (allP l).toList.map Fin.val = List.range l.length := by
    apply List.ext_getElem
    · simp [allP]; omega
    · intro i h4 h5
      rw [List.getElem_map, List.getElem_range, Array.getElem_toList]
      unfold allP
      rw [Array.getElem_ofFn]
      rfl
  rw [e3] at h3
  exact h3
theorem orderS_sorted {l : List Int} (h : 1 ≤ l.length) : (orderS l).Pairwise fun i j => l.getD j 0 ≤ l.getD i 0 := by
  obtain ⟨⟨h1, _, _⟩, h2⟩ := insertionSort_holds (swoP l) (allP l) 0 (allP l).size (Nat.zero_le _) (Nat.le_refl _)
  unfold orderS
  rw [List.pairwise_map, List.pairwise_iff_getElem]
  intro i j hi hj hij
  rw [Array.length_toList] at hi hj
  have h3 := h2 i j (Nat.zero_le _) hij (by omega)
  rw [getElem!_pos _ j hj, getElem!_pos _ i hi] at h3
  rw [lt_cfP, decide_eq_false_iff_not] at h3
  rw [Array.getElem_toList, Array.getElem_toList]
  omega
theorem order_values {l : List Int} (h : 1 ≤ l.length) : (orderS l).map (l.getD · 0) = fallS l := by
  refine (fall_is ?_ ?_).symm
  · have := (orderS_perm h).map (l.getD · 0)
    rwa [map_getD_range] at this
  · rw [List.pairwise_map]
    exact orderS_sorted h
def greedyV (k : Nat) (l : List Int) : List Int := (fallS l).foldl giveV (List.replicate k 0)
theorem greedy_is {k : Nat} {l : List Int} (h : 1 ≤ l.length) : (greedyS k l).2 = greedyV k l := by
  rw [greedy_sums, order_values h]
  rfl
end Go.Proofs.Ytepgcdjbhmpioaa.Fi
