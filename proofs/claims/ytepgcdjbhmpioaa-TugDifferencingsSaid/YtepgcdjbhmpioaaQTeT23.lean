/- The reference's differencing is the program's: plain. -/
import Derived.Test.YtepgcdjbhmpioaaQTeT10
import Derived.Test.YtepgcdjbhmpioaaQTeH7t
namespace Go.Proofs.Ytepgcdjbhmpioaa.Fi
open Go.RowKit Go.Proofs.YtepgcdjbhmpioaaW.PrintWords Go.Proofs.YtepgcdjbhmpioaaW.PrintLast Go.Proofs.YtepgcdjbhmpioaaW.PrintMore
open Go.Proofs.Ytepgcdjbhmpioaa.Fd (vlT mxAt)
set_option linter.unusedVariables false
/-- The sides of the pulls in an item; -1: it is not in it. -/
inductive Lsd (nd : List Nd) : Nat → (Nat → Int) → Prop
  | leaf (j : Nat) : (nd.getD j default).kids = none → Lsd nd j (fun i => if i = j then 0 else -1)
  | node (j a b : Nat) (α β : Nat → Int) : (nd.getD j default).kids = some (a, b) → a < j → b < j → Lsd nd a α → Lsd nd b β → Lsd nd j (fun i => if β i ≥ 0 then 1 - β i else α i)
theorem Lsd.more {nd : List Nd} {j : Nat} {σ : Nat → Int} (x : List Nd) (h : Lsd nd j σ) : j < nd.length → Lsd (nd ++ x) j σ := by
  induction h with
  | leaf j h => exact fun hj => .leaf j (by rw [getD_append_lt _ _ _ _ hj]; exact h)
  | node j a b α β h ha hb _ _ iha ihb => exact fun hj => .node j a b α β (by rw [getD_append_lt _ _ _ _ hj]; exact h) ha hb (iha (by omega)) (ihb (by omega))
theorem Lsd.small {nd : List Nd} {j : Nat} {σ : Nat → Int} (h : Lsd nd j σ) : ∀ i, σ i = -1 ∨ σ i = 0 ∨ σ i = 1 := by
  induction h with
  | leaf j h =>
    intro i
    simp only
    split <;> omega
  | node j a b α β h ha hb _ _ iha ihb =>
    intro i
    have h1 := iha i
    have h2 := ihb i
    simp only
    split <;> omega
/-- What is placed are the sides. -/
theorem Lsd.placed {nd : List Nd} {j : Nat} {σ : Nat → Int} (h : Lsd nd j σ) : ∀ (f : Nat) (side : Int) (out : List Int), j < f → (side = 0 ∨ side = 1) → (plc nd f j side out).length = out.length ∧ ∀ i, i < out.length → (plc nd f j side out).getD i 0 = if σ i ≥ 0 then (if side = 0 then σ i else 1 - σ i) else out.getD i 0 := by
  induction h with
  | leaf j h =>
    intro f side out hf hs
    obtain ⟨f, rfl⟩ : ∃ g, f = g + 1 := ⟨f - 1, by omega⟩
    simp only [plc, h]
    refine ⟨List.length_set, fun i hi => ?_⟩
    by_cases e : i = j
    · subst e
      rw [getD_set_self hi, if_pos rfl, if_pos (by omega)]
      rcases hs with rfl | rfl
      · rfl
      · rfl
    · rw [getD_set_other _ (fun e' => e e'.symm), if_neg e, if_neg (by omega)]
  | node j a b α β h ha hb hα hβ iha ihb =>
    intro f side out hf hs
    obtain ⟨f, rfl⟩ : ∃ g, f = g + 1 := ⟨f - 1, by omega⟩
    simp only [plc, h]
    obtain ⟨a1, a2⟩ := iha f side out (by omega) hs
    obtain ⟨b1, b2⟩ := ihb f (1 - side) (plc nd f a side out) (by omega) (by omega)
    refine ⟨b1.trans a1, fun i hi => ?_⟩
    rw [b2 i (by rw [a1]; exact hi)]
    have s := hβ.small i
    by_cases e : β i ≥ 0
    · rw [if_pos e, if_pos e, if_pos (show 1 - β i ≥ 0 by omega)]
      rcases hs with rfl | rfl
      · rw [if_neg (by omega), if_pos rfl]
      · rw [if_pos (by omega), if_neg (by omega)]; omega
    · rw [if_neg e, if_neg e, a2 i hi]
/-- One item of the reference. -/
def itm (n : Nat) (nd : List Nd) (Sg : Nat → Nat → Int) (j : Nat) : Fd.S71 := ⟨wth nd j, (List.range n).map (Sg j)⟩
theorem mxAt_spec (l : List Fd.S71) : ∀ i, 1 ≤ i → mxAt l i < i ∧ (∀ q, q < i → vlT l q ≤ vlT l (mxAt l i)) ∧ ∀ q, q < mxAt l i → vlT l q < vlT l (mxAt l i)
  | 0, h => by omega
  | 1, _ => by
    have e : mxAt l 1 = 0 := Fd.mxAt_one l
    rw [e]
    refine ⟨by omega, fun q hq => ?_, fun q hq => by omega⟩
    obtain rfl : q = 0 := by omega
    exact Int.le_refl _
  | i + 2, _ => by
    obtain ⟨h1, h2, h3⟩ := mxAt_spec l (i + 1) (by omega)
    by_cases c : vlT l (i + 1) > vlT l (mxAt l (i + 1))
    · have e : mxAt l (i + 2) = i + 1 := by show (if _ then _ else _) = _; rw [if_pos c]
      rw [e]
      refine ⟨by omega, fun q hq => ?_, fun q hq => ?_⟩
      · rcases Nat.lt_or_ge q (i + 1) with h | h
        · have := h2 q h; omega
        · obtain rfl : q = i + 1 := by omega
          exact Int.le_refl _
      · have := h2 q hq; omega
    · have e : mxAt l (i + 2) = mxAt l (i + 1) := by show (if _ then _ else _) = _; rw [if_neg c]
      rw [e]
      refine ⟨by omega, fun q hq => ?_, h3⟩
      rcases Nat.lt_or_ge q (i + 1) with h | h
      · exact h2 q h
      · obtain rfl : q = i + 1 := by omega
        omega
theorem vlT_itm {n : Nat} {nd : List Nd} {Sg : Nat → Nat → Int} {R : List Nat} {q : Nat} (h : q < R.length) : vlT (R.map (itm n nd Sg)) q = wth nd (R.getD q 0) := by
  unfold vlT
  rw [List.getD_eq_getElem?_getD, List.getElem?_map, List.getElem?_eq_getElem h, List.getD_eq_getElem?_getD, List.getElem?_eq_getElem h]
  rfl
/-- The greatest, the first that was made, is the first of the sorted ones. -/
theorem take_first {n : Nat} {nd : List Nd} {Sg : Nat → Nat → Int} {R rest : List Nat} {a : Nat} (hp : R.Perm (a :: rest)) (ha : R.Pairwise (· < ·)) (hs : (a :: rest).Pairwise fun x y => befN nd y x = false) :
    mxAt (R.map (itm n nd Sg)) R.length < R.length ∧ R.getD (mxAt (R.map (itm n nd Sg)) R.length) 0 = a ∧ (R.take (mxAt (R.map (itm n nd Sg)) R.length) ++ R.drop (mxAt (R.map (itm n nd Sg)) R.length + 1)).Perm rest ∧ (R.take (mxAt (R.map (itm n nd Sg)) R.length) ++ R.drop (mxAt (R.map (itm n nd Sg)) R.length + 1)).Pairwise (· < ·) := by
  have hl : 1 ≤ R.length := by rw [hp.length_eq]; simp
  obtain ⟨h1, h2, h3⟩ := mxAt_spec (R.map (itm n nd Sg)) R.length hl
  obtain ⟨p, hpe⟩ : ∃ p, p = mxAt (R.map (itm n nd Sg)) R.length := ⟨_, rfl⟩
  rw [← hpe] at h1 h2 h3 ⊢
  have hsplit : R = R.take p ++ R.getD p 0 :: R.drop (p + 1) := by
    have h4 : R.drop p = R.getD p 0 :: R.drop (p + 1) := by
      rw [List.drop_eq_getElem_cons h1, List.getD_eq_getElem?_getD, List.getElem?_eq_getElem h1]
      rfl
    rw [← h4, List.take_append_drop]
  have hbest : ∀ x ∈ R, x ≠ R.getD p 0 → befN nd (R.getD p 0) x = true := fun x hx hne => by
    obtain ⟨q, hq, rfl⟩ := List.getElem_of_mem hx
    have e : R[q] = R.getD q 0 := by rw [List.getD_eq_getElem?_getD, List.getElem?_eq_getElem hq]; rfl
    rw [e] at hne ⊢
    rw [befN_iff]
    have h5 := h2 q hq
    rw [vlT_itm hq, vlT_itm h1] at h5
    rcases Nat.lt_trichotomy q p with h | h | h
    · have h6 := h3 q h
      rw [vlT_itm hq, vlT_itm h1] at h6
      exact .inl h6
    · rw [h] at hne; exact absurd rfl hne
    · have h6 : R.getD p 0 < R.getD q 0 := by
        rw [List.pairwise_iff_getElem] at ha
        have := ha p q h1 hq h
        rw [List.getD_eq_getElem?_getD, List.getElem?_eq_getElem h1, List.getD_eq_getElem?_getD, List.getElem?_eq_getElem hq]
        exact this
      omega
  have hae : R.getD p 0 = a := by
    refine Classical.byContradiction fun hne => ?_
    have haR : a ∈ R := hp.mem_iff.2 (by simp)
    have h7 := hbest a haR (fun e => hne e.symm)
    have hpR : R.getD p 0 ∈ R := by
      rw [List.getD_eq_getElem?_getD, List.getElem?_eq_getElem h1]
      exact List.getElem_mem _
    have h8 : R.getD p 0 ∈ rest := by
      rcases List.mem_cons.1 (hp.mem_iff.1 hpR) with h | h
      · exact absurd h hne
      · exact h
    have h9 := (List.pairwise_cons.1 hs).1 _ h8
    rw [h7] at h9
    cases h9
  refine ⟨h1, hae, ?_, ?_⟩
  · have h4 : (a :: (R.take p ++ R.drop (p + 1))).Perm (a :: rest) := by
      refine List.Perm.trans ?_ hp
      conv => rhs; rw [hsplit, hae]
      exact List.perm_middle.symm
    exact List.Perm.cons_inv h4
  · rw [hsplit] at ha
    rw [List.pairwise_append, List.pairwise_cons] at ha
    rw [List.pairwise_append]
    exact ⟨ha.1, ha.2.1.2, fun x hx y hy => ha.2.2 x hx y (by simp [hy])⟩
/-- What the rounds keep, told for the reference's list: the items in the order in which they were made. -/
structure RI (l : List Int) (t : Nat) (s : List Nd × List Nat) (R : List Nat) (Sg : Nat → Nat → Int) : Prop where
  len : s.1.length = l.length + t
  its : s.2.length = l.length - t
  lt : ∀ j ∈ s.2, j < s.1.length
  perm : R.Perm s.2
  asc : R.Pairwise (· < ·)
  side : ∀ j ∈ s.2, Lsd s.1 j (Sg j)
  cov : ∀ i, i < l.length → ∃ j ∈ s.2, 0 ≤ Sg j i
  val : ∀ j ∈ s.2, 0 ≤ wth s.1 j ∧ wth s.1 j ≤ 1000000
theorem RI.start {l : List Int} (hb : ∀ x ∈ l, 1 ≤ x ∧ x ≤ 1000000) : RI l 0 (leaves l, List.range l.length) (List.range l.length) (fun j i => if i = j then 0 else -1) := by
  refine ⟨by simp [leaves], by simp, fun j hj => by rw [leaves_length]; exact List.mem_range.1 hj, List.Perm.refl _, List.pairwise_lt_range, fun j hj => .leaf j (by rw [leaves_getD (List.mem_range.1 hj)]), fun i hi => ⟨i, List.mem_range.2 hi, by simp⟩, fun j hj => ?_⟩
  unfold wth
  rw [leaves_getD (List.mem_range.1 hj)]
  have := hb _ (getD_mem (List.mem_range.1 hj))
  simp only
  omega
/-- The join of two items. -/
def joinT (n : Nat) (x y : Fd.S71) : Fd.S71 := ⟨x.f0 - y.f0, (List.range n).map fun i => if y.f1.getD i 0 ≥ 0 then 1 - y.f1.getD i 0 else x.f1.getD i 0⟩
/-- The item that is taken, and the others. -/
def takT (L : List Fd.S71) : Fd.S71 × List Fd.S71 := (L.getD (mxAt L L.length) Fd.z71, L.take (mxAt L L.length) ++ L.drop (mxAt L L.length + 1))
def rndT (n : Nat) (L : List Fd.S71) : List Fd.S71 := (takT (takT L).2).2 ++ [joinT n (takT L).1 (takT (takT L).2).1]
theorem takT_itm {n : Nat} {nd : List Nd} {Sg : Nat → Nat → Int} {R rest : List Nat} {a : Nat} (hp : R.Perm (a :: rest)) (ha : R.Pairwise (· < ·)) (hs : (a :: rest).Pairwise fun x y => befN nd y x = false) :
    ∃ R' : List Nat, takT (R.map (itm n nd Sg)) = (itm n nd Sg a, R'.map (itm n nd Sg)) ∧ R'.Perm rest ∧ R'.Pairwise (· < ·) := by
  obtain ⟨h1, h2, h3, h4⟩ := take_first (n := n) (Sg := Sg) hp ha hs
  refine ⟨_, ?_, h3, h4⟩
  unfold takT
  rw [List.length_map]
  congr 1
  · rw [List.getD_eq_getElem?_getD, List.getElem?_map, List.getElem?_eq_getElem h1]
    rw [List.getD_eq_getElem?_getD, List.getElem?_eq_getElem h1] at h2
    have h5 : R[mxAt (R.map (itm n nd Sg)) R.length] = a := h2
    show itm n nd Sg R[mxAt (R.map (itm n nd Sg)) R.length] = _
    rw [h5]
  · rw [List.map_append, List.map_take, List.map_drop]
theorem itm_congr {n : Nat} {nd nd' : List Nd} {Sg Sg' : Nat → Nat → Int} {j : Nat} (h1 : wth nd j = wth nd' j) (h2 : Sg j = Sg' j) : itm n nd Sg j = itm n nd' Sg' j := by
  unfold itm
  rw [h1, h2]
theorem RI.next {l : List Int} {t : Nat} {s : List Nd × List Nat} {R : List Nat} {Sg : Nat → Nat → Int} (h : RI l t s R Sg) (h2 : 2 ≤ s.2.length) :
    ∃ R' Sg', RI l (t + 1) (stepN s) R' Sg' ∧ R'.map (itm l.length (stepN s).1 Sg') = rndT l.length (R.map (itm l.length s.1 Sg)) := by
  obtain ⟨nd, its⟩ := s
  obtain ⟨h1, h3, h4, h5, h6, h7, h8, h9⟩ := h
  simp only at *
  obtain ⟨q, hq⟩ : ∃ q, q = srtN nd its := ⟨_, rfl⟩
  have hp : q.Perm its := by rw [hq]; exact srtN_perm nd its
  have hs : q.Pairwise fun x y => befN nd y x = false := by rw [hq]; exact srtN_sorted nd its
  have hql : q.length = its.length := hp.length_eq
  obtain ⟨a, ha⟩ : ∃ a, a = q.getD 0 0 := ⟨_, rfl⟩
  obtain ⟨b, hb⟩ : ∃ b, b = q.getD 1 0 := ⟨_, rfl⟩
  obtain ⟨r, hr⟩ : ∃ r, r = q.drop 2 := ⟨_, rfl⟩
  have e : q = a :: b :: r := by rw [ha, hb, hr]; exact two_first (by omega)
  rw [e] at hp hs
  have ma : a ∈ its := hp.mem_iff.1 (by simp)
  have mb : b ∈ its := hp.mem_iff.1 (by simp)
  have mr : ∀ j ∈ r, j ∈ its := fun j hj => hp.mem_iff.1 (by simp [hj])
  have e0 : stepN (nd, its) = (nd ++ [⟨wth nd a - wth nd b, some (a, b)⟩], r ++ [nd.length]) := by
    unfold stepN
    simp only [← hq, ← ha, ← hb, ← hr]
  have hw : ∀ j, j < nd.length → wth (nd ++ [⟨wth nd a - wth nd b, some (a, b)⟩]) j = wth nd j := fun j hj => by
    unfold wth
    rw [getD_append_lt _ _ _ _ hj]
  have hN : (nd ++ [(⟨wth nd a - wth nd b, some (a, b)⟩ : Nd)]).getD nd.length default = ⟨wth nd a - wth nd b, some (a, b)⟩ := by
    rw [List.getD_eq_getElem?_getD, List.getElem?_append_right (Nat.le_refl _)]
    simp
  have hWN : wth (nd ++ [⟨wth nd a - wth nd b, some (a, b)⟩]) nd.length = wth nd a - wth nd b := by
    show ((nd ++ [(⟨wth nd a - wth nd b, some (a, b)⟩ : Nd)]).getD nd.length default).worth = _
    rw [hN]
  have hne : ∀ j ∈ its, j ≠ nd.length := fun j hj => by have := h4 j hj; omega
  have hge : wth nd b ≤ wth nd a := by
    have := (List.pairwise_cons.1 hs).1 b (by simp)
    rw [befN_not] at this
    omega
  obtain ⟨R1, t1, t2, t3⟩ := takT_itm (n := l.length) (Sg := Sg) (h5.trans hp.symm) h6 hs
  obtain ⟨R2, u1, u2, u3⟩ := takT_itm (n := l.length) (Sg := Sg) t2 t3 (List.pairwise_cons.1 hs).2
  have mR2 : ∀ j ∈ R2, j ∈ its := fun j hj => mr j (u2.mem_iff.1 hj)
  obtain ⟨Sg', hSg⟩ : ∃ Sg' : Nat → Nat → Int, Sg' = fun j => if j = nd.length then (fun i => if Sg b i ≥ 0 then 1 - Sg b i else Sg a i) else Sg j := ⟨_, rfl⟩
  have hSgo : ∀ j ∈ its, Sg' j = Sg j := fun j hj => by rw [hSg]; simp only; rw [if_neg (hne j hj)]
  have hSgn : Sg' nd.length = fun i => if Sg b i ≥ 0 then 1 - Sg b i else Sg a i := by rw [hSg]; simp only [if_true]
  refine ⟨R2 ++ [nd.length], Sg', ?_, ?_⟩
  · rw [e0]
    refine ⟨by simp; omega, ?_, fun j hj => ?_, ?_, ?_, fun j hj => ?_, fun i hi => ?_, fun j hj => ?_⟩
    · have := hp.length_eq
      simp only [List.length_append, List.length_cons, List.length_nil] at this ⊢
      omega
    · simp only [List.length_append, List.length_cons, List.length_nil]
      rcases List.mem_append.1 hj with hj | hj
      · have := h4 j (mr j hj); omega
      · have : j = nd.length := by simpa using hj
        omega
    · exact u2.append_right _
    · rw [List.pairwise_append]
      refine ⟨u3, by simp, fun x hx y hy => ?_⟩
      have : y = nd.length := by simpa using hy
      have := h4 x (mR2 x hx)
      omega
    · simp only
      rcases List.mem_append.1 hj with hj | hj
      · rw [hSgo j (mr j hj)]
        exact (h7 j (mr j hj)).more _ (h4 j (mr j hj))
      · obtain rfl : j = nd.length := by simpa using hj
        rw [hSgn]
        exact .node _ a b _ _ (by rw [hN]) (h4 a ma) (h4 b mb) ((h7 a ma).more _ (h4 a ma)) ((h7 b mb).more _ (h4 b mb))
    · obtain ⟨j, hj, hji⟩ := h8 i hi
      have hjq := hp.mem_iff.2 hj
      have sb := (h7 b mb).small i
      rcases List.mem_cons.1 hjq with rfl | hjq
      · refine ⟨nd.length, by simp, ?_⟩
        rw [hSgn]
        simp only
        split <;> omega
      · rcases List.mem_cons.1 hjq with rfl | hjq
        · refine ⟨nd.length, by simp, ?_⟩
          rw [hSgn]
          simp only
          rw [if_pos hji]
          omega
        · exact ⟨j, by simp [hjq], by rw [hSgo j hj]; exact hji⟩
    · rcases List.mem_append.1 hj with hj | hj
      · simp only
        rw [hw j (h4 j (mr j hj))]
        exact h9 j (mr j hj)
      · obtain rfl : j = nd.length := by simpa using hj
        simp only
        rw [hWN]
        have := h9 a ma
        have := h9 b mb
        omega
  · rw [e0]
    simp only
    unfold rndT
    rw [t1]
    simp only
    rw [u1]
    simp only
    rw [List.map_append]
    congr 1
    · exact List.map_congr_left fun j hj => itm_congr (hw j (h4 j (mR2 j hj))) (hSgo j (mR2 j hj))
    · show [itm _ _ _ _] = _
      unfold itm joinT
      rw [hWN, hSgn]
      congr 2
      refine List.map_congr_left fun i hi => ?_
      have hi' := List.mem_range.1 hi
      have g : ∀ j, ((List.range l.length).map (Sg j)).getD i 0 = Sg j i := fun j => by
        rw [List.getD_eq_getElem?_getD, List.getElem?_map, List.getElem?_range hi']
        rfl
      simp only [g]
def itT (n : Nat) : Nat → List Fd.S71 → List Fd.S71
  | 0, L => L
  | r + 1, L => rndT n (itT n r L)
/-- The first items. -/
def begT (l : List Int) : List Fd.S71 := (List.range l.length).map fun j => ⟨l.getD j 0, (List.range l.length).map fun i => if i = j then 0 else -1⟩
theorem RI.all_ {l : List Int} (hb : ∀ x ∈ l, 1 ≤ x ∧ x ≤ 1000000) : ∀ t, t + 1 ≤ l.length → ∃ R Sg, RI l t (stN l t) R Sg ∧ R.map (itm l.length (stN l t).1 Sg) = itT l.length t (begT l)
  | 0, _ => ⟨_, _, RI.start hb, by
    show (List.range l.length).map (itm l.length (leaves l) _) = begT l
    unfold begT
    refine List.map_congr_left fun j hj => ?_
    unfold itm wth
    rw [leaves_getD (List.mem_range.1 hj)]⟩
  | t + 1, h => by
    obtain ⟨R, Sg, h1, h2⟩ := RI.all_ hb t (by omega)
    have hits := h1.its
    obtain ⟨R', Sg', h3, h4⟩ := h1.next (by omega)
    refine ⟨R', Sg', h3, ?_⟩
    show R'.map (itm l.length (stepN (stN l t)).1 Sg') = rndT l.length (itT l.length t (begT l))
    rw [h4, h2]
/-- What the reference ends with is what the program answers. -/
theorem ref_end {l : List Int} (hl : 1 ≤ l.length) (hb : ∀ x ∈ l, 1 ≤ x ∧ x ≤ 1000000) : ∃ v : Int, ∃ s : List Int, itT l.length (l.length - 1) (begT l) = [⟨v, s⟩] ∧ s.length = l.length ∧ Bits s ∧ v = (kkS l).1 ∧ (if s.getD 0 0 = 1 then flipS s else s) = (kkS l).2 := by
  obtain ⟨R, Sg, h1, h2⟩ := RI.all_ hb (l.length - 1) (by omega)
  have hits := h1.its
  obtain ⟨⟨nd, its⟩, hst⟩ : ∃ s, stN l (l.length - 1) = s := ⟨_, rfl⟩
  rw [hst] at h1 h2 hits
  simp only at hits
  obtain ⟨j, rfl⟩ : ∃ j, its = [j] := by
    match its, hits with
    | [j], _ => exact ⟨j, rfl⟩
    | [], h => simp at h; omega
    | _ :: _ :: _, h => simp at h; omega
  have hR : R = [j] := List.perm_singleton.1 h1.perm
  rw [hR] at h2
  have hcov : ∀ i, i < l.length → 0 ≤ Sg j i := fun i hi => by
    obtain ⟨j', hj', h⟩ := h1.cov i hi
    have : j' = j := by simpa using hj'
    rw [this] at h
    exact h
  have hside := h1.side j (by simp)
  obtain ⟨p1, p2⟩ := hside.placed (j + 1) 0 (List.replicate l.length 0) (by omega) (.inl rfl)
  have eo : kkOut l = plc nd (j + 1) j 0 (List.replicate l.length 0) := by
    unfold kkOut
    rw [kkEnd_is, hst]
    rfl
  have es : kkOut l = (List.range l.length).map (Sg j) := by
    rw [eo]
    rw [List.length_replicate] at p1 p2
    apply List.ext_getElem
    · rw [p1]; simp
    · intro i hi1 hi2
      have hi : i < l.length := by rw [p1] at hi1; exact hi1
      have h := p2 i hi
      rw [List.getD_eq_getElem?_getD, List.getElem?_eq_getElem hi1, if_pos (hcov i hi), if_pos rfl] at h
      rw [List.getElem_map, List.getElem_range]
      exact h
  refine ⟨wth nd j, (List.range l.length).map (Sg j), h2.symm, by simp, fun x hx => ?_, ?_, ?_⟩
  · obtain ⟨i, hi, rfl⟩ := List.mem_map.1 hx
    have h3 := hside.small i
    have h4 := hcov i (List.mem_range.1 hi)
    omega
  · unfold kkS
    rw [kkEnd_is, hst]
    rfl
  · rw [← es]
    rfl
end Go.Proofs.Ytepgcdjbhmpioaa.Fi
