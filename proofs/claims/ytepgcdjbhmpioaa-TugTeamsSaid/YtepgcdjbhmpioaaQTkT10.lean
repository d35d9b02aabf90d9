/- Differencing in plain words: its sides have its result as their difference; what it is worth depends on the numbers alone. -/
import Derived.Test.YtepgcdjbhmpioaaQTkT6
namespace Go.Proofs.Ytepgcdjbhmpioaa.Fi
open Go.RowKit Go.Proofs.YtepgcdjbhmpioaaW.PrintWords Go.Proofs.YtepgcdjbhmpioaaW.PrintLast Go.Proofs.YtepgcdjbhmpioaaW.PrintMore
set_option linter.unusedVariables false
/-- The pulls in an item. -/
inductive Lv (l : List Int) (nd : List Nd) : Nat → List Nat → Prop
  | leaf (j : Nat) : nd.getD j default = ⟨l.getD j 0, none⟩ → Lv l nd j [j]
  | node (j a b : Nat) (A B : List Nat) : nd.getD j default = ⟨wth nd a - wth nd b, some (a, b)⟩ → a < j → b < j → Lv l nd a A → Lv l nd b B → Lv l nd j (A ++ B)
theorem Lv.more {l : List Int} {nd : List Nd} {j : Nat} {A : List Nat} (x : List Nd) (h : Lv l nd j A) : j < nd.length → Lv l (nd ++ x) j A := by
  induction h with
  | leaf j h => exact fun hj => .leaf j (by rw [getD_append_lt _ _ _ _ hj]; exact h)
  | node j a b A B h ha hb _ _ iha ihb =>
    intro hj
    refine .node j a b A B ?_ ha hb (iha (by omega)) (ihb (by omega))
    rw [getD_append_lt _ _ _ _ hj, h]
    unfold wth
    rw [getD_append_lt _ _ _ _ (by omega), getD_append_lt _ _ _ _ (by omega)]
theorem srtN_sorted (nd : List Nd) (its : List Nat) : (srtN nd its).Pairwise fun x y => befN nd y x = false := by
  have := List.pairwise_mergeSort (le := fun x y => !befN nd y x) (fun a b c h1 h2 => by
    simp only [Bool.not_eq_true', befN_not] at *
    omega) (fun a b => by
    simp only [Bool.or_eq_true, Bool.not_eq_true', befN_not]
    omega) its
  exact this.imp (fun h => by simpa using h)
/-- What the rounds keep of the items' pulls. -/
structure SI (l : List Int) (t : Nat) (s : List Nd × List Nat) (T : Nat → List Nat) : Prop where
  len : s.1.length = l.length + t
  its : s.2.length = l.length - t
  lt : ∀ j ∈ s.2, j < s.1.length
  lv : ∀ j ∈ s.2, Lv l s.1 j (T j)
  all : (s.2.flatMap T).Perm (List.range l.length)
  pos : ∀ j ∈ s.2, 0 ≤ wth s.1 j
theorem leaves_getD {l : List Int} {j : Nat} (hj : j < l.length) : (leaves l).getD j default = ⟨l.getD j 0, none⟩ := by
  have := leaves_take_getD l l.length j hj (Nat.le_refl _)
  rwa [List.take_length] at this
theorem SI.start {l : List Int} (hb : ∀ x ∈ l, 0 ≤ x) : SI l 0 (leaves l, List.range l.length) (fun j => [j]) := by
  refine ⟨by simp [leaves], by simp, fun j hj => by rw [leaves_length]; exact List.mem_range.1 hj, fun j hj => .leaf j (leaves_getD (List.mem_range.1 hj)), ?_, fun j hj => ?_⟩
  · have e : ∀ L : List Nat, L.flatMap (fun j => [j]) = L := fun L => by
      induction L with
      | nil => rfl
      | cons x L ih => rw [List.flatMap_cons, ih]; rfl
    rw [e]
  · unfold wth
    rw [leaves_getD (List.mem_range.1 hj)]
    exact hb _ (getD_mem (List.mem_range.1 hj))
theorem two_first {its : List Nat} (h : 2 ≤ its.length) : its = its.getD 0 0 :: its.getD 1 0 :: its.drop 2 := by
  match its, h with
  | a :: b :: r, _ => rfl
theorem flatMap_congr' {α β : Type} {f g : α → List β} : ∀ {L : List α}, (∀ x ∈ L, f x = g x) → L.flatMap f = L.flatMap g
  | [], _ => rfl
  | x :: L, h => by rw [List.flatMap_cons, List.flatMap_cons, h x (by simp), flatMap_congr' (fun y hy => h y (by simp [hy]))]
theorem SI.next {l : List Int} {t : Nat} {s : List Nd × List Nat} {T : Nat → List Nat} (h : SI l t s T) (h2 : 2 ≤ s.2.length) : ∃ T', SI l (t + 1) (stepN s) T' := by
  obtain ⟨nd, its⟩ := s
  obtain ⟨h1, h3, h4, h5, h6, h7⟩ := h
  simp only at *
  obtain ⟨q, hq⟩ : ∃ q, q = srtN nd its := ⟨_, rfl⟩
  have hp : q.Perm its := by rw [hq]; exact srtN_perm nd its
  have hs : q.Pairwise fun x y => befN nd y x = false := by rw [hq]; exact srtN_sorted nd its
  have hql : q.length = its.length := hp.length_eq
  obtain ⟨a, ha⟩ : ∃ a, a = q.getD 0 0 := ⟨_, rfl⟩
  obtain ⟨b, hb⟩ : ∃ b, b = q.getD 1 0 := ⟨_, rfl⟩
  obtain ⟨r, hr⟩ : ∃ r, r = q.drop 2 := ⟨_, rfl⟩
  have e : q = a :: b :: r := by rw [ha, hb, hr]; exact two_first (by omega)
  have ma : a ∈ its := hp.mem_iff.1 (by simp [e])
  have mb : b ∈ its := hp.mem_iff.1 (by simp [e])
  have mr : ∀ j ∈ r, j ∈ its := fun j hj => hp.mem_iff.1 (by simp [e, hj])
  have e0 : stepN (nd, its) = (nd ++ [⟨wth nd a - wth nd b, some (a, b)⟩], r ++ [nd.length]) := by
    unfold stepN
    simp only [← hq, ← ha, ← hb, ← hr]
  have hw : ∀ j, j < nd.length → wth (nd ++ [⟨wth nd a - wth nd b, some (a, b)⟩]) j = wth nd j := fun j hj => by
    unfold wth
    rw [getD_append_lt _ _ _ _ hj]
  have hN : (nd ++ [(⟨wth nd a - wth nd b, some (a, b)⟩ : Nd)]).getD nd.length default = ⟨wth nd a - wth nd b, some (a, b)⟩ := by
    rw [List.getD_eq_getElem?_getD, List.getElem?_append_right (Nat.le_refl _)]
    simp
  have hne : ∀ j ∈ its, j ≠ nd.length := fun j hj => by have := h4 j hj; omega
  have hge : wth nd b ≤ wth nd a := by
    have := (List.pairwise_cons.1 (e ▸ hs)).1 b (by simp)
    rw [befN_not] at this
    omega
  refine ⟨fun j => if j = nd.length then T a ++ T b else T j, ?_⟩
  rw [e0]
  refine ⟨by simp; omega, ?_, fun j hj => ?_, fun j hj => ?_, ?_, fun j hj => ?_⟩
  · have : q.length = r.length + 2 := by rw [e]; simp
    simp only [List.length_append, List.length_cons, List.length_nil]
    omega
  · simp only [List.length_append, List.length_cons, List.length_nil]
    rcases List.mem_append.1 hj with hj | hj
    · have := h4 j (mr j hj); omega
    · have : j = nd.length := by simpa using hj
      omega
  · simp only
    rcases List.mem_append.1 hj with hj | hj
    · rw [if_neg (hne j (mr j hj))]
      exact (h5 j (mr j hj)).more _ (h4 j (mr j hj))
    · obtain rfl : j = nd.length := by simpa using hj
      rw [if_pos rfl]
      refine .node _ a b _ _ ?_ (h4 a ma) (h4 b mb) ((h5 a ma).more _ (h4 a ma)) ((h5 b mb).more _ (h4 b mb))
      rw [hN, hw a (h4 a ma), hw b (h4 b mb)]
  · refine List.Perm.trans ?_ h6
    rw [List.flatMap_append]
    have e1 : r.flatMap (fun j => if j = nd.length then T a ++ T b else T j) = r.flatMap T := flatMap_congr' fun j hj => if_neg (hne j (mr j hj))
    have e2 : [nd.length].flatMap (fun j => if j = nd.length then T a ++ T b else T j) = T a ++ T b := by simp
    rw [e1, e2]
    have e3 : q.flatMap T = (T a ++ T b) ++ r.flatMap T := by
      rw [e, List.flatMap_cons, List.flatMap_cons, List.append_assoc]
    refine List.perm_append_comm.trans ?_
    rw [← e3]
    exact hp.flatMap_right T
  · rcases List.mem_append.1 hj with hj | hj
    · simp only
      rw [hw j (h4 j (mr j hj))]
      exact h7 j (mr j hj)
    · obtain rfl : j = nd.length := by simpa using hj
      show 0 ≤ ((nd ++ [(⟨wth nd a - wth nd b, some (a, b)⟩ : Nd)]).getD nd.length default).worth
      rw [hN]
      show 0 ≤ wth nd a - wth nd b
      omega
end Go.Proofs.Ytepgcdjbhmpioaa.Fi
