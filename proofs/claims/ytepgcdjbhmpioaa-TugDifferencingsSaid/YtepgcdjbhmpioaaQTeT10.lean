/- Differencing in plain words: its sides have its result as their difference; what it is worth depends on the numbers alone. -/
import Derived.Test.YtepgcdjbhmpioaaQTeT6
namespace Go.Proofs.Ytepgcdjbhmpioaa.Fi
open Go.RowKit Go.Proofs.YtepgcdjbhmpioaaW.PrintWords Go.Proofs.YtepgcdjbhmpioaaW.PrintLast Go.Proofs.YtepgcdjbhmpioaaW.PrintMore
set_option linter.unusedVariables false
/-- The pulls in an item. -/
inductive Lv (l : List Int) (nd : List Nd) : Nat → List Nat → Prop
  | leaf (j : Nat) : nd.getD j default = ⟨l.getD j 0, none⟩ → Lv l nd j [j]
  | node (j a b : Nat) (A B : List Nat) : nd.getD j default = ⟨wth nd a - wth nd b, some (a, b)⟩ → a < j → b < j → Lv l nd a A → Lv l nd b B → Lv l nd j (A ++ B)
theorem Lv.more {l : List Int} {nd : List Nd} {j : Nat} {A : List Nat} (x : List Nd) (h : Lv l nd j A) : j < nd.length → Lv l (nd ++ x) j A := by
  induction h with
  | leaf j h => exact fun hj => .leaf j (by rw [getD_append_lt _ _ _ _ hj]; exact h)
  | node j a b A B h ha hb _ _ iha ihb =>
    intro hj
    refine .node j a b A B ?_ ha hb (iha (by omega)) (ihb (by omega))
    rw [getD_append_lt _ _ _ _ hj, h]
    unfold wth
    rw [getD_append_lt _ _ _ _ (by omega), getD_append_lt _ _ _ _ (by omega)]
/-- The signed sum of the pulls at some places. -/
def sgnAt (l out : List Int) (A : List Nat) : Int := (A.map fun i => l.getD i 0 * (1 - 2 * out.getD i 0)).sum
theorem sgnAt_congr {l o1 o2 : List Int} {A : List Nat} (h : ∀ i ∈ A, o1.getD i 0 = o2.getD i 0) : sgnAt l o1 A = sgnAt l o2 A := by
  unfold sgnAt
  rw [List.map_congr_left (fun i hi => by rw [h i hi])]
theorem getD_set_self {l : List Int} {j : Nat} (h : j < l.length) (x : Int) : (l.set j x).getD j 0 = x := by
  rw [List.getD_eq_getElem?_getD, List.getElem?_set, if_pos rfl, if_pos h]; rfl
theorem getD_set_other (l : List Int) {i j : Nat} (h : j ≠ i) (x : Int) : (l.set j x).getD i 0 = l.getD i 0 := by
  rw [List.getD_eq_getElem?_getD, List.getElem?_set, if_neg h, ← List.getD_eq_getElem?_getD]
theorem plc_sum {l : List Int} {nd : List Nd} {j : Nat} {A : List Nat} (h : Lv l nd j A) : ∀ (f : Nat) (side : Int) (out : List Int), j < f → (side = 0 ∨ side = 1) → A.Nodup → (∀ i ∈ A, i < out.length) →
    (plc nd f j side out).length = out.length ∧ (∀ i, i ∉ A → (plc nd f j side out).getD i 0 = out.getD i 0) ∧ (∀ i ∈ A, (plc nd f j side out).getD i 0 = 0 ∨ (plc nd f j side out).getD i 0 = 1) ∧ sgnAt l (plc nd f j side out) A = (1 - 2 * side) * wth nd j := by
  induction h with
  | leaf j h =>
    intro f side out hf hs _ hl
    obtain ⟨f, rfl⟩ : ∃ g, f = g + 1 := ⟨f - 1, by omega⟩
    have hj := hl j (by simp)
    simp only [plc, h]
    refine ⟨List.length_set, fun i hi => getD_set_other _ (fun e => hi (by simp [e])) _, fun i hi => ?_, ?_⟩
    · obtain rfl : i = j := by simpa using hi
      rw [getD_set_self hj]
      exact hs
    · unfold sgnAt wth
      rw [h]
      simp only [List.map_cons, List.map_nil, List.sum_cons, List.sum_nil, getD_set_self hj, Int.add_zero]
      exact Int.mul_comm _ _
  | node j a b A B h ha hb _ _ iha ihb =>
    intro f side out hf hs hn hl
    obtain ⟨f, rfl⟩ : ∃ g, f = g + 1 := ⟨f - 1, by omega⟩
    simp only [plc, h]
    obtain ⟨hnA, hnB, hd⟩ := List.nodup_append.1 hn
    obtain ⟨a1, a2, a3, a4⟩ := iha f side out (by omega) hs hnA (fun i hi => hl i (by simp [hi]))
    obtain ⟨b1, b2, b3, b4⟩ := ihb f (1 - side) (plc nd f a side out) (by omega) (by omega) hnB (fun i hi => by rw [a1]; exact hl i (by simp [hi]))
    have hAB : ∀ i ∈ A, i ∉ B := fun i hi hi' => hd i hi i hi' rfl
    refine ⟨b1.trans a1, fun i hi => ?_, fun i hi => ?_, ?_⟩
    · rw [List.mem_append, not_or] at hi
      rw [b2 i hi.2, a2 i hi.1]
    · rcases List.mem_append.1 hi with hi | hi
      · rw [b2 i (hAB i hi)]; exact a3 i hi
      · exact b3 i hi
    · have e1 : sgnAt l (plc nd f b (1 - side) (plc nd f a side out)) A = (1 - 2 * side) * wth nd a := by
        rw [← a4]
        exact sgnAt_congr fun i hi => b2 i (hAB i hi)
      have e2 : wth nd j = wth nd a - wth nd b := by
        show (nd.getD j default).worth = _
        rw [h]
      have e3 : sgnAt l (plc nd f b (1 - side) (plc nd f a side out)) (A ++ B) = sgnAt l (plc nd f b (1 - side) (plc nd f a side out)) A + sgnAt l (plc nd f b (1 - side) (plc nd f a side out)) B := by
        unfold sgnAt
        rw [List.map_append, List.sum_append]
      rw [e3, e1, b4, e2]
      rcases hs with rfl | rfl <;> omega
theorem srtN_sorted (nd : List Nd) (its : List Nat) : (srtN nd its).Pairwise fun x y => befN nd y x = false := by
  have := List.pairwise_mergeSort (le := fun x y => !befN nd y x) (fun a b c h1 h2 => by
    simp only [Bool.not_eq_true', befN_not] at *
    omega) (fun a b => by
    simp only [Bool.or_eq_true, Bool.not_eq_true', befN_not]
    omega) its
  exact this.imp (fun h => by simpa using h)
/-- What the rounds keep of the items' pulls. -/
structure SI (l : List Int) (t : Nat) (s : List Nd × List Nat) (T : Nat → List Nat) : Prop where
  len : s.1.length = l.length + t
  its : s.2.length = l.length - t
  lt : ∀ j ∈ s.2, j < s.1.length
  lv : ∀ j ∈ s.2, Lv l s.1 j (T j)
  all : (s.2.flatMap T).Perm (List.range l.length)
  pos : ∀ j ∈ s.2, 0 ≤ wth s.1 j
theorem leaves_getD {l : List Int} {j : Nat} (hj : j < l.length) : (leaves l).getD j default = ⟨l.getD j 0, none⟩ := by
  have := leaves_take_getD l l.length j hj (Nat.le_refl _)
  rwa [List.take_length] at this
theorem SI.start {l : List Int} (hb : ∀ x ∈ l, 0 ≤ x) : SI l 0 (leaves l, List.range l.length) (fun j => [j]) := by
  refine ⟨by simp [leaves], by simp, fun j hj => by rw [leaves_length]; exact List.mem_range.1 hj, fun j hj => .leaf j (leaves_getD (List.mem_range.1 hj)), ?_, fun j hj => ?_⟩
  · have e : ∀ L : List Nat, L.flatMap (fun j => [j]) = L := fun L => by
      induction L with
      | nil => rfl
      | cons x L ih => rw [List.flatMap_cons, ih]; rfl
    rw [e]
  · unfold wth
    rw [leaves_getD (List.mem_range.1 hj)]
    exact hb _ (getD_mem (List.mem_range.1 hj))
theorem two_first {its : List Nat} (h : 2 ≤ its.length) : its = its.getD 0 0 :: its.getD 1 0 :: its.drop 2 := by
  match its, h with
  | a :: b :: r, _ => rfl
theorem flatMap_congr' {α β : Type} {f g : α → List β} : ∀ {L : List α}, (∀ x ∈ L, f x = g x) → L.flatMap f = L.flatMap g
  | [], _ => rfl
  | x :: L, h => by rw [List.flatMap_cons, List.flatMap_cons, h x (by simp), flatMap_congr' (fun y hy => h y (by simp [hy]))]
theorem SI.next {l : List Int} {t : Nat} {s : List Nd × List Nat} {T : Nat → List Nat} (h : SI l t s T) (h2 : 2 ≤ s.2.length) : ∃ T', SI l (t + 1) (stepN s) T' := by
  obtain ⟨nd, its⟩ := s
  obtain ⟨h1, h3, h4, h5, h6, h7⟩ := h
  simp only at *
  obtain ⟨q, hq⟩ : ∃ q, q = srtN nd its := ⟨_, rfl⟩
  have hp : q.Perm its := by rw [hq]; exact srtN_perm nd its
  have hs : q.Pairwise fun x y => befN nd y x = false := by rw [hq]; exact srtN_sorted nd its
  have hql : q.length = its.length := hp.length_eq
  obtain ⟨a, ha⟩ : ∃ a, a = q.getD 0 0 := ⟨_, rfl⟩
  obtain ⟨b, hb⟩ : ∃ b, b = q.getD 1 0 := ⟨_, rfl⟩
  obtain ⟨r, hr⟩ : ∃ r, r = q.drop 2 := ⟨_, rfl⟩
  have e : q = a :: b :: r := by rw [ha, hb, hr]; exact two_first (by omega)
  have ma : a ∈ its := hp.mem_iff.1 (by simp [e])
  have mb : b ∈ its := hp.mem_iff.1 (by simp [e])
  have mr : ∀ j ∈ r, j ∈ its := fun j hj => hp.mem_iff.1 (by simp [e, hj])
  have e0 : stepN (nd, its) = (nd ++ [⟨wth nd a - wth nd b, some (a, b)⟩], r ++ [nd.length]) := by
    unfold stepN
    simp only [← hq, ← ha, ← hb, ← hr]
  have hw : ∀ j, j < nd.length → wth (nd ++ [⟨wth nd a - wth nd b, some (a, b)⟩]) j = wth nd j := fun j hj => by
    unfold wth
    rw [getD_append_lt _ _ _ _ hj]
  have hN : (nd ++ [(⟨wth nd a - wth nd b, some (a, b)⟩ : Nd)]).getD nd.length default = ⟨wth nd a - wth nd b, some (a, b)⟩ := by
    rw [List.getD_eq_getElem?_getD, List.getElem?_append_right (Nat.le_refl _)]
    simp
  have hne : ∀ j ∈ its, j ≠ nd.length := fun j hj => by have := h4 j hj; omega
  have hge : wth nd b ≤ wth nd a := by
    have := (List.pairwise_cons.1 (e ▸ hs)).1 b (by simp)
    rw [befN_not] at this
    omega
  refine ⟨fun j => if j = nd.length then T a ++ T b else T j, ?_⟩
  rw [e0]
  refine ⟨by simp; omega, ?_, fun j hj => ?_, fun j hj => ?_, ?_, fun j hj => ?_⟩
  · have : q.length = r.length + 2 := by rw [e]; simp
    simp only [List.length_append, List.length_cons, List.length_nil]
    omega
  · simp only [List.length_append, List.length_cons, List.length_nil]
    rcases List.mem_append.1 hj with hj | hj
    · have := h4 j (mr j hj); omega
    · have : j = nd.length := by simpa using hj
      omega
  · simp only
    rcases List.mem_append.1 hj with hj | hj
    · rw [if_neg (hne j (mr j hj))]
      exact (h5 j (mr j hj)).more _ (h4 j (mr j hj))
    · obtain rfl : j = nd.length := by simpa using hj
      rw [if_pos rfl]
      refine .node _ a b _ _ ?_ (h4 a ma) (h4 b mb) ((h5 a ma).more _ (h4 a ma)) ((h5 b mb).more _ (h4 b mb))
      rw [hN, hw a (h4 a ma), hw b (h4 b mb)]
  · refine List.Perm.trans ?_ h6
    rw [List.flatMap_append]
    have e1 : r.flatMap (fun j => if j = nd.length then T a ++ T b else T j) = r.flatMap T := flatMap_congr' fun j hj => if_neg (hne j (mr j hj))
    have e2 : [nd.length].flatMap (fun j => if j = nd.length then T a ++ T b else T j) = T a ++ T b := by simp
    rw [e1, e2]
    have e3 : q.flatMap T = (T a ++ T b) ++ r.flatMap T := by
      rw [e, List.flatMap_cons, List.flatMap_cons, List.append_assoc]
    refine List.perm_append_comm.trans ?_
    rw [← e3]
    exact hp.flatMap_right T
  · rcases List.mem_append.1 hj with hj | hj
    · simp only
      rw [hw j (h4 j (mr j hj))]
      exact h7 j (mr j hj)
    · obtain rfl : j = nd.length := by simpa using hj
      show 0 ≤ ((nd ++ [(⟨wth nd a - wth nd b, some (a, b)⟩ : Nd)]).getD nd.length default).worth
      rw [hN]
      show 0 ≤ wth nd a - wth nd b
      omega
theorem SI.all_ {l : List Int} (hb : ∀ x ∈ l, 0 ≤ x) : ∀ t, t + 1 ≤ l.length → ∃ T, SI l t (stN l t) T
  | 0, _ => ⟨_, SI.start hb⟩
  | t + 1, h => by
    obtain ⟨T, hT⟩ := SI.all_ hb t (by omega)
    exact hT.next (by rw [hT.its]; omega)
theorem sgn_at : ∀ (p s : List Int), s.length = p.length → sgn p s = sgnAt p s (List.range p.length)
  | [], [], _ => rfl
  | [], _ :: _, h => by simp at h
  | _ :: _, [], h => by simp at h
  | a :: p, b :: s, h => by
    have ih := sgn_at p s (by simpa using h)
    unfold sgnAt at *
    rw [List.length_cons, List.range_succ_eq_map, List.map_cons, List.sum_cons, List.map_map, sgn, ih]
    rfl
theorem perm_sum {a b : List Int} (h : a.Perm b) : a.sum = b.sum := by
  induction h with
  | nil => rfl
  | cons x _ ih => rw [List.sum_cons, List.sum_cons, ih]
  | swap x y l => simp only [List.sum_cons]; omega
  | trans _ _ h1 h2 => exact h1.trans h2
/-- The other way around. -/
def flipS (s : List Int) : List Int := s.map (1 - ·)
theorem flipS_bits {s : List Int} (h : Bits s) : Bits (flipS s) := by
  intro b hb
  obtain ⟨x, hx, rfl⟩ := List.mem_map.1 hb
  have := h x hx
  omega
theorem sgn_flip : ∀ (p s : List Int), sgn p (flipS s) = -sgn p s
  | [], s => by cases s <;> simp [sgn]
  | _ :: _, [] => by simp [sgn, flipS]
  | a :: p, b :: s => by
    have ih := sgn_flip p s
    unfold flipS at *
    rw [List.map_cons, sgn, sgn, ih, show (1 : Int) - 2 * (1 - b) = -(1 - 2 * b) by omega, Int.mul_neg, Int.neg_add]
theorem diffS_flip (p s : List Int) : diffS p (flipS s) = diffS p s := by
  unfold diffS
  rw [sgn_flip]
  omega
theorem bits_getD {s : List Int} (h : ∀ i, i < s.length → s.getD i 0 = 0 ∨ s.getD i 0 = 1) : Bits s := by
  intro b hb
  obtain ⟨i, hi, rfl⟩ := List.getElem_of_mem hb
  have := h i hi
  rwa [List.getD_eq_getElem?_getD, List.getElem?_eq_getElem hi] at this
/-- The sides of Differencing have its result as their difference. -/
theorem kkS_sides {l : List Int} (hl : 1 ≤ l.length) (hb : ∀ x ∈ l, 0 ≤ x) : Sd l.length (kkS l).2 ∧ diffS l (kkS l).2 = (kkS l).1 ∧ 0 ≤ (kkS l).1 := by
  obtain ⟨T, hT⟩ := SI.all_ hb (l.length - 1) (by omega)
  have hits := hT.its
  obtain ⟨⟨nd, its⟩, hst⟩ : ∃ s, stN l (l.length - 1) = s := ⟨_, rfl⟩
  rw [hst] at hT hits
  simp only at hits
  obtain ⟨j, rfl⟩ : ∃ j, its = [j] := by
    match its, hits with
    | [j], _ => exact ⟨j, rfl⟩
    | [], h => simp at h; omega
    | _ :: _ :: _, h => simp at h; omega
  have hall : (T j).Perm (List.range l.length) := by
    have := hT.all
    simpa using this
  have hnd : (T j).Nodup := hall.nodup_iff.2 List.nodup_range
  have hin : ∀ i, i ∈ T j ↔ i < l.length := fun i => by rw [hall.mem_iff, List.mem_range]
  obtain ⟨p1, p2, p3, p4⟩ := plc_sum (hT.lv j (by simp)) (j + 1) 0 (List.replicate l.length 0) (by omega) (.inl rfl) hnd (fun i hi => by rw [List.length_replicate]; exact (hin i).1 hi)
  have eo : kkOut l = plc nd (j + 1) j 0 (List.replicate l.length 0) := by
    unfold kkOut
    rw [kkEnd_is, hst]
    rfl
  have e1 : (kkS l).1 = wth nd j := by
    unfold kkS
    rw [kkEnd_is, hst]
    rfl
  have e2 : (kkS l).2 = if (kkOut l).getD 0 0 = 1 then flipS (kkOut l) else kkOut l := rfl
  rw [← eo] at p1 p3 p4
  rw [List.length_replicate] at p1
  have hbits : Bits (kkOut l) := bits_getD fun i hi => p3 i ((hin i).2 (by omega))
  have hs : sgn l (kkOut l) = wth nd j := by
    rw [sgn_at l _ p1]
    have : sgnAt l (kkOut l) (List.range l.length) = sgnAt l (kkOut l) (T j) := by
      unfold sgnAt
      exact (perm_sum (hall.map _)).symm
    rw [this, p4, show (1 : Int) - 2 * 0 = 1 from rfl, Int.one_mul]
  have hpos := hT.pos j (by simp)
  simp only at hpos
  have hd : diffS l (kkOut l) = wth nd j := by
    unfold diffS
    rw [hs]
    omega
  rw [e1, e2]
  have h0 := p3 0 ((hin 0).2 (by omega))
  split
  · rename_i h1
    refine ⟨⟨by simp [flipS, p1], flipS_bits hbits, ?_⟩, by rw [diffS_flip, hd], hpos⟩
    unfold flipS
    rw [List.getD_eq_getElem?_getD, List.getElem?_map]
    rw [List.getD_eq_getElem?_getD] at h1
    rw [List.getElem?_eq_getElem (show 0 < (kkOut l).length by omega)] at h1 ⊢
    simp only [Option.getD_some, Option.map_some] at h1 ⊢
    omega
  · exact ⟨⟨p1, hbits, by omega⟩, hd, hpos⟩
end Go.Proofs.Ytepgcdjbhmpioaa.Fi
