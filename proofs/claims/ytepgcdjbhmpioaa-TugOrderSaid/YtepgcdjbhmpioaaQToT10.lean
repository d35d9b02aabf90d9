/- Differencing in plain words: its sides have its result as their difference; what it is worth depends on the numbers alone. -/
import Derived.Test.YtepgcdjbhmpioaaQToT6
namespace Go.Proofs.Ytepgcdjbhmpioaa.Fi
open Go.RowKit Go.Proofs.YtepgcdjbhmpioaaW.PrintWords Go.Proofs.YtepgcdjbhmpioaaW.PrintLast Go.Proofs.YtepgcdjbhmpioaaW.PrintMore
set_option linter.unusedVariables false
/-- The pulls in an item. -/
inductive Lv (l : List Int) (nd : List Nd) : Nat → List Nat → Prop
  | leaf (j : Nat) : nd.getD j default = ⟨l.getD j 0, none⟩ → Lv l nd j [j]
  | node (j a b : Nat) (A B : List Nat) : nd.getD j default = ⟨wth nd a - wth nd b, some (a, b)⟩ → a < j → b < j → Lv l nd a A → Lv l nd b B → Lv l nd j (A ++ B)
theorem Lv.more {l : List Int} {nd : List Nd} {j : Nat} {A : List Nat} (x : List Nd) (h : Lv l nd j A) : j < nd.length → Lv l (nd ++ x) j A := by
  induction h with
  | leaf j h => exact fun hj => .leaf j (by rw [getD_append_lt _ _ _ _ hj]; exact h)
  | node j a b A B h ha hb _ _ iha ihb =>
    intro hj
    refine .node j a b A B ?_ ha hb (iha (by omega)) (ihb (by omega))
    rw [getD_append_lt _ _ _ _ hj, h]
    unfold wth
    rw [getD_append_lt _ _ _ _ (by omega), getD_append_lt _ _ _ _ (by omega)]
theorem srtN_sorted (nd : List Nd) (its : List Nat) : (srtN nd its).Pairwise fun x y => befN nd y x = false := by
  have := List.pairwise_mergeSort (le := fun x y => !befN nd y x) (fun a b c h1 h2 => by
    simp only [Bool.not_eq_true', befN_not] at *
    omega) (fun a b => by
    simp only [Bool.or_eq_true, Bool.not_eq_true', befN_not]
    omega) its
  exact this.imp (fun h => by simpa using h)
/-- What the rounds keep of the items' pulls. -/
structure SI (l : List Int) (t : Nat) (s : List Nd × List Nat) (T : Nat → List Nat) : Prop where
  len : s.1.length = l.length + t
  its : s.2.length = l.length - t
  lt : ∀ j ∈ s.2, j < s.1.length
  lv : ∀ j ∈ s.2, Lv l s.1 j (T j)
  all : (s.2.flatMap T).Perm (List.range l.length)
  pos : ∀ j ∈ s.2, 0 ≤ wth s.1 j
theorem leaves_getD {l : List Int} {j : Nat} (hj : j < l.length) : (leaves l).getD j default = ⟨l.getD j 0, none⟩ := by
  have := leaves_take_getD l l.length j hj (Nat.le_refl _)
  rwa [List.take_length] at this
theorem SI.start {l : List Int} (hb : ∀ x ∈ l, 0 ≤ x) : SI l 0 (leaves l, List.range l.length) (fun j => [j]) := by
  refine ⟨by simp [leaves], by simp, fun j hj => by rw [leaves_length]; exact List.mem_range.1 hj, fun j hj => .leaf j (leaves_getD (List.mem_range.1 hj)), ?_, fun j hj => ?_⟩
  · have e : ∀ L : List Nat, L.flatMap (fun j => [j]) = L := fun L => by
      induction L with
      | nil => rfl
      | cons x L ih => rw [List.flatMap_cons, ih]; rfl
    rw [e]
  · unfold wth
    rw [leaves_getD (List.mem_range.1 hj)]
    exact hb _ (getD_mem (List.mem_range.1 hj))
theorem two_first {its : List Nat} (h : 2 ≤ its.length) : its = its.getD 0 0 :: its.getD 1 0 :: its.drop 2 := by
  match its, h with
  | a :: b :: r, _ => rfl
theorem flatMap_congr' {α β : Type} {f g : α → List β} : ∀ {L : List α}, (∀ x ∈ L, f x = g x) → L.flatMap f = L.flatMap g
  | [], _ => rfl
  | x :: L, h => by rw [List.flatMap_cons, List.flatMap_cons, h x (by simp), flatMap_congr' (fun y hy => h y (by simp [hy]))]
theorem SI.next {l : List Int} {t : Nat} {s : List Nd × List Nat} {T : Nat → List Nat} (h : SI l t s T) (h2 : 2 ≤ s.2.length) : ∃ T', SI l (t + 1) (stepN s) T' := by
  obtain ⟨nd, its⟩ := s
  obtain ⟨h1, h3, h4, h5, h6, h7⟩ := h
  simp only at *
  obtain ⟨q, hq⟩ : ∃ q, q = srtN nd its := ⟨_, rfl⟩
  have hp : q.Perm its := by rw [hq]; exact srtN_perm nd its
  have hs : q.Pairwise fun x y => befN nd y x = false := by rw [hq]; exact srtN_sorted nd its
  have hql : q.length = its.length := hp.length_eq
  obtain ⟨a, ha⟩ : ∃ a, a = q.getD 0 0 := ⟨_, rfl⟩
  obtain ⟨b, hb⟩ : ∃ b, b = q.getD 1 0 := ⟨_, rfl⟩
  obtain ⟨r, hr⟩ : ∃ r, r = q.drop 2 := ⟨_, rfl⟩
  have e : q = a :: b :: r := by rw [ha, hb, hr]; exact two_first (by omega)
  have ma : a ∈ its := hp.mem_iff.1 (by simp [e])
  have mb : b ∈ its := hp.mem_iff.1 (by simp [e])
  have mr : ∀ j ∈ r, j ∈ its := fun j hj => hp.mem_iff.1 (by simp [e, hj])
  have e0 : stepN (nd, its) = (nd ++ [⟨wth nd a - wth nd b, some (a, b)⟩], r ++ [nd.length]) := by
    unfold stepN
    simp only [← hq, ← ha, ← hb, ← hr]
  have hw : ∀ j, j < nd.length → wth (nd ++ [⟨wth nd a - wth nd b, some (a, b)⟩]) j = wth nd j := fun j hj => by
    unfold wth
    rw [getD_append_lt _ _ _ _ hj]
  have hN : (nd ++ [(⟨wth nd a - wth nd b, some (a, b)⟩ : Nd)]).getD nd.length default = ⟨wth nd a - wth nd b, some (a, b)⟩ := by
    rw [List.getD_eq_getElem?_getD, List.getElem?_append_right (Nat.le_refl _)]
    simp
  have hne : ∀ j ∈ its, j ≠ nd.length := fun j hj => by have := h4 j hj; omega
  have hge : wth nd b ≤ wth nd a := by
    have := (List.pairwise_cons.1 (e ▸ hs)).1 b (by simp)
    rw [befN_not] at this
    omega
  refine ⟨fun j => if j = nd.length then T a ++ T b else T j, ?_⟩
  rw [e0]
  refine ⟨by simp; omega, ?_, fun j hj => ?_, fun j hj => ?_, ?_, fun j hj => ?_⟩
  · have : q.length = r.length + 2 := by rw [e]; simp
    simp only [List.length_append, List.length_cons, List.length_nil]
    omega
  · simp only [List.length_append, List.length_cons, List.length_nil]
    rcases List.mem_append.1 hj with hj | hj
    · have := h4 j (mr j hj); omega
    · have : j = nd.length := by simpa using hj
      omega
  · simp only
    rcases List.mem_append.1 hj with hj | hj
    · rw [if_neg (hne j (mr j hj))]
      exact (h5 j (mr j hj)).more _ (h4 j (mr j hj))
    · obtain rfl : j = nd.length := by simpa using hj
      rw [if_pos rfl]
      refine .node _ a b _ _ ?_ (h4 a ma) (h4 b mb) ((h5 a ma).more _ (h4 a ma)) ((h5 b mb).more _ (h4 b mb))
      rw [hN, hw a (h4 a ma), hw b (h4 b mb)]
  · refine List.Perm.trans ?_ h6
    rw [List.flatMap_append]
    have e1 : r.flatMap (fun j => if j = nd.length then T a ++ T b else T j) = r.flatMap T := flatMap_congr' fun j hj => if_neg (hne j (mr j hj))
    have e2 : [nd.length].flatMap (fun j => if j = nd.length then T a ++ T b else T j) = T a ++ T b := by simp
    rw [e1, e2]
    have e3 : q.flatMap T = (T a ++ T b) ++ r.flatMap T := by
      rw [e, List.flatMap_cons, List.flatMap_cons, List.append_assoc]
    refine List.perm_append_comm.trans ?_
    rw [← e3]
    exact hp.flatMap_right T
  · rcases List.mem_append.1 hj with hj | hj
    · simp only
      rw [hw j (h4 j (mr j hj))]
      exact h7 j (mr j hj)
    · obtain rfl : j = nd.length := by simpa using hj
      show 0 ≤ ((nd ++ [(⟨wth nd a - wth nd b, some (a, b)⟩ : Nd)]).getD nd.length default).worth
      rw [hN]
      show 0 ≤ wth nd a - wth nd b
      omega
theorem SI.all_ {l : List Int} (hb : ∀ x ∈ l, 0 ≤ x) : ∀ t, t + 1 ≤ l.length → ∃ T, SI l t (stN l t) T
  | 0, _ => ⟨_, SI.start hb⟩
  | t + 1, h => by
    obtain ⟨T, hT⟩ := SI.all_ hb t (by omega)
    exact hT.next (by rw [hT.its]; omega)
theorem perm_sum {a b : List Int} (h : a.Perm b) : a.sum = b.sum := by
  induction h with
  | nil => rfl
  | cons x _ ih => rw [List.sum_cons, List.sum_cons, ih]
  | swap x y l => simp only [List.sum_cons]; omega
  | trans _ _ h1 h2 => exact h1.trans h2
/-- The other way around. -/
def flipS (s : List Int) : List Int := s.map (1 - ·)
theorem flipS_bits {s : List Int} (h : Bits s) : Bits (flipS s) := by
  intro b hb
  obtain ⟨x, hx, rfl⟩ := List.mem_map.1 hb
  have := h x hx
  omega
theorem sgn_flip : ∀ (p s : List Int), sgn p (flipS s) = -sgn p s
  | [], s => by cases s <;> simp [sgn]
  | _ :: _, [] => by simp [sgn, flipS]
  | a :: p, b :: s => by
    have ih := sgn_flip p s
    unfold flipS at *
    rw [List.map_cons, sgn, sgn, ih, show (1 : Int) - 2 * (1 - b) = -(1 - 2 * b) by omega, Int.mul_neg, Int.neg_add]
theorem diffS_flip (p s : List Int) : diffS p (flipS s) = diffS p s := by
  unfold diffS
  rw [sgn_flip]
  omega
theorem fall_perm (l : List Int) : (fallS l).Perm l := List.mergeSort_perm _ _
theorem fall_sorted (l : List Int) : (fallS l).Pairwise fun x y => y ≤ x := by
  have := List.pairwise_mergeSort (le := fun x y : Int => decide (y ≤ x)) (fun a b c h1 h2 => by simp at *; omega) (fun a b => by simp; omega) l
  exact this.imp (fun h => by simpa using h)
/-- There is one falling order. -/
theorem fall_is {v l : List Int} (hp : l.Perm v) (hs : l.Pairwise fun x y => y ≤ x) : fallS v = l :=
  List.Perm.eq_of_pairwise (fun a b _ _ h1 h2 => Int.le_antisymm h2 h1) (fall_sorted v) hs ((fall_perm v).trans hp.symm)
theorem fall_congr {v l : List Int} (hp : v.Perm l) : fallS v = fallS l := fall_is ((fall_perm l).trans hp.symm) (fall_sorted l)
def stepV (v : List Int) : List Int := (fallS v).drop 2 ++ [(fallS v).getD 0 0 - (fallS v).getD 1 0]
def itV : Nat → List Int → List Int
  | 0, v => v
  | r + 1, v => stepV (itV r v)
def kkV (l : List Int) : Int := (itV (l.length - 1) l).getD 0 0
theorem map_srtN (nd : List Nd) (its : List Nat) : (srtN nd its).map (wth nd) = fallS (its.map (wth nd)) := by
  refine (fall_is ((srtN_perm nd its).map _) ?_).symm
  rw [List.pairwise_map]
  exact (srtN_sorted nd its).imp fun h => by rw [befN_not] at h; omega
theorem getD_map_lt {f : Nat → Int} {q : List Nat} {i : Nat} (h : i < q.length) : (q.map f).getD i 0 = f (q.getD i 0) := by
  rw [List.getD_eq_getElem?_getD, List.getElem?_map, List.getElem?_eq_getElem h, List.getD_eq_getElem?_getD, List.getElem?_eq_getElem h]
  rfl
theorem step_worths {s : List Nd × List Nat} (hlt : ∀ j ∈ s.2, j < s.1.length) (h2 : 2 ≤ s.2.length) : (stepN s).2.map (wth (stepN s).1) = stepV (s.2.map (wth s.1)) := by
  obtain ⟨nd, its⟩ := s
  simp only at *
  have hq : (srtN nd its).length = its.length := (srtN_perm nd its).length_eq
  unfold stepV stepN
  simp only
  rw [← map_srtN, getD_map_lt (by omega), getD_map_lt (by omega), List.map_append, List.map_drop]
  congr 1
  · refine congrArg (List.drop 2) (List.map_congr_left fun j hj => ?_)
    unfold wth
    rw [getD_append_lt _ _ _ _ (hlt j ((srtN_perm nd its).mem_iff.1 hj))]
  · simp [wth, List.getD_eq_getElem?_getD]
theorem kk_worth {l : List Int} (hl : 1 ≤ l.length) (hb : ∀ x ∈ l, 0 ≤ x) : (kkS l).1 = kkV l := by
  have key : ∀ t, t + 1 ≤ l.length → (stN l t).2.map (wth (stN l t).1) = itV t l := by
    intro t
    induction t with
    | zero =>
      intro _
      show (List.range l.length).map (wth (leaves l)) = l
      apply List.ext_getElem
      · simp
      · intro i h1 h2
        rw [List.getElem_map, List.getElem_range]
        unfold wth
        rw [leaves_getD h2]
        simp only
        rw [List.getD_eq_getElem?_getD, List.getElem?_eq_getElem h2]
        rfl
    | succ t ih =>
      intro h
      obtain ⟨T, hT⟩ := SI.all_ hb t (by omega)
      show (stepN (stN l t)).2.map _ = stepV (itV t l)
      rw [← ih (by omega)]
      exact step_worths hT.lt (by have := hT.its; unfold stN at this; omega)
  obtain ⟨T, hT⟩ := SI.all_ hb (l.length - 1) (by omega)
  have h := key (l.length - 1) (by omega)
  unfold kkV kkS
  rw [kkEnd_is, ← h]
  simp only
  rw [getD_map_lt (by rw [hT.its]; omega)]
theorem kkV_perm {v l : List Int} (hp : v.Perm l) : kkV v = kkV l := by
  have step : stepV v = stepV l := by unfold stepV; rw [fall_congr hp]
  have key : ∀ t, itV (t + 1) v = itV (t + 1) l := by
    intro t
    induction t with
    | zero => exact step
    | succ t ih => rw [itV, ih]; rfl
  unfold kkV
  rw [hp.length_eq]
  rcases Nat.lt_or_ge 1 l.length with h | h
  · obtain ⟨t, ht⟩ : ∃ t, l.length - 1 = t + 1 := ⟨l.length - 2, by omega⟩
    rw [ht, key]
  · have e : l.length - 1 = 0 := by omega
    rw [e]
    have hv := hp.length_eq
    match v, l, hv, h with
    | [], [], _, _ => rfl
    | [a], [b], _, _ =>
      have := List.perm_singleton.1 hp
      rw [this]
    | _ :: _ :: _, [b], hv, _ => simp at hv
end Go.Proofs.Ytepgcdjbhmpioaa.Fi
