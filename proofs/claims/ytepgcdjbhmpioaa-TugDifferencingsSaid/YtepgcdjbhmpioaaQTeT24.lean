/- The reference's Differencing, as printed, answers what the program answers. -/
import Derived.Test.YtepgcdjbhmpioaaQTeT23
import Derived.Test.YtepgcdjbhmpioaaQTeT13
import Derived.Test.YtepgcdjbhmpioaaQTeFd2
namespace Go.Proofs.Ytepgcdjbhmpioaa.Fi
open Go.RowKit Go.Proofs.YtepgcdjbhmpioaaW.PrintWords Go.Proofs.YtepgcdjbhmpioaaW.PrintLast Go.Proofs.YtepgcdjbhmpioaaW.PrintMore
open Go.Proofs.Ytepgcdjbhmpioaa.Fd (vlT mxAt)
set_option linter.unusedVariables false
theorem take_is {L : List Fd.S71} (h : 1 ≤ L.length ∧ L.length ≤ 1000) : Fd.woggleref05_take.f L = some ((takT L).1.f0, (takT L).1.f1, (takT L).2) := by
  unfold Fd.woggleref05_take.f
  rw [if_pos h]
  rfl
theorem takT_len {L : List Fd.S71} (h : 1 ≤ L.length) : (takT L).2.length = L.length - 1 := by
  have := Fd.mxAt_lt L L.length h
  unfold takT
  simp only [List.length_append, List.length_take, List.length_drop]
  omega
theorem takT_mem {L : List Fd.S71} (h : 1 ≤ L.length) : (takT L).1 ∈ L ∧ ∀ x ∈ (takT L).2, x ∈ L := by
  have := Fd.mxAt_lt L L.length h
  unfold takT
  refine ⟨?_, fun x hx => ?_⟩
  · simp only
    rw [List.getD_eq_getElem?_getD, List.getElem?_eq_getElem this]
    exact List.getElem_mem _
  · rcases List.mem_append.1 hx with hx | hx
    · exact List.mem_of_mem_take hx
    · exact List.mem_of_mem_drop hx
/-- An item as it may be. -/
def GoodT (n : Nat) (x : Fd.S71) : Prop := x.f1.length = n ∧ (∀ v ∈ x.f1, v = -1 ∨ v = 0 ∨ v = 1) ∧ 0 ≤ x.f0 ∧ x.f0 ≤ 1000000
theorem tk_next (l : List Int) (i : Nat) (h : i < l.length) : l.take (i + 1) = l.take i ++ [l.getD i 0] := by
  rw [List.take_add_one, List.getElem?_eq_getElem h, List.getD_eq_getElem?_getD, List.getElem?_eq_getElem h]
  rfl
theorem l4_ev (v : Int) (s : List Int) (hs : Bits s) (hl : 1 ≤ s.length ∧ s.length ≤ 100) : Ev (fun k => Fd.woggleref05_Differencing.l4 k [⟨v, s⟩] s [] 0) (v, if s.getD 0 0 = 1 then flipS s else s) := by
  obtain ⟨o, ho⟩ : ∃ o, o = if s.getD 0 0 = 1 then flipS s else s := ⟨_, rfl⟩
  have hol : o.length = s.length := by
    rw [ho]
    split
    · simp [flipS]
    · rfl
  rw [← ho]
  have key : ∀ d i : Nat, i + d = s.length → Ev (fun k => Fd.woggleref05_Differencing.l4 k [⟨v, s⟩] s (o.take i) (i : Int)) (v, o) := by
    intro d
    induction d with
    | zero =>
      intro i hi
      refine Ev.step (f := fun _ => some (v, o)) (fun k => ?_) (Ev.now _)
      simp only [Fd.woggleref05_Differencing.l4]
      rw [if_neg (by omega), if_pos (by simp), List.take_of_length_le (by omega)]
      rfl
    | succ d ih =>
      intro i hi
      have hb := hs _ (getD_mem (l := s) (i := i) (by omega))
      have q1 : (i : Int) < (s.length : Int) := by omega
      have q2 : (0 : Int) < (s.length : Int) := by omega
      have q3 : (0 : Int) ≤ (i : Int) := by omega
      have q4 : (o.take i).length < 17592186044416 := by rw [List.length_take]; omega
      have E3 : Aside0 (wrap64 ((i : Int) + 1) = ((i + 1 : Nat) : Int)) := ⟨by rw [wrapS (by omega)]; omega⟩
      have e4 : rd s (i : Int) = s.getD i 0 := rfl
      have e5 : rd s 0 = s.getD 0 0 := rfl
      have := ih (i + 1) (by omega)
      rw [tk_next o i (by omega)] at this
      refine Ev.step (fun k => ?_) this
      simp only [Fd.woggleref05_Differencing.l4]
      rw [if_pos q1, if_pos q2, e5]
      by_cases h1 : s.getD 0 0 = 1
      · have e6 : o.getD i 0 = 1 - s.getD i 0 := by
          rw [ho, if_pos h1]
          unfold flipS
          rw [List.getD_eq_getElem?_getD, List.getElem?_map, List.getElem?_eq_getElem (by omega), List.getD_eq_getElem?_getD, List.getElem?_eq_getElem (by omega)]
          rfl
        have E7 : Aside0 (wrap64 (1 - s.getD i 0) = 1 - s.getD i 0) := ⟨wrapS (by omega)⟩
        rw [if_pos h1, if_pos q3, if_pos q4, e4, E3.out, E7.out, e6]
      · have e6 : o.getD i 0 = s.getD i 0 := by rw [ho, if_neg h1]
        rw [if_neg h1, if_pos q3, if_pos q4, e4, E3.out, e6]
  exact key s.length 0 (by omega)
theorem l3_ev (l : List Int) (left : List Fd.S71) (x y : Fd.S71) (V : Int × List Int) (hl : l.length ≤ 100) (hleft : left.length ≤ 1000) (hx : GoodT l.length x) (hy : GoodT l.length y)
    (hV : Ev (fun k => Fd.woggleref05_Differencing.l2 k l (left ++ [joinT l.length x y])) V) : Ev (fun k => Fd.woggleref05_Differencing.l3 k l left 0 x.f0 x.f1 y.f0 y.f1 (wrap64 (x.f0 - y.f0)) []) V := by
  obtain ⟨x1, x2, x3, x4⟩ := hx
  obtain ⟨y1, y2, y3, y4⟩ := hy
  have e0 : wrap64 (x.f0 - y.f0) = x.f0 - y.f0 := wrapS (by omega)
  rw [e0]
  have key : ∀ d i : Nat, i + d = l.length → Ev (fun k => Fd.woggleref05_Differencing.l3 k l left (i : Int) x.f0 x.f1 y.f0 y.f1 (x.f0 - y.f0) ((List.range i).map fun i => if y.f1.getD i 0 ≥ 0 then 1 - y.f1.getD i 0 else x.f1.getD i 0)) V := by
    intro d
    induction d with
    | zero =>
      intro i hi
      obtain rfl : i = l.length := by omega
      refine Ev.step (fun k => ?_) hV
      simp only [Fd.woggleref05_Differencing.l3]
      rw [if_neg (by omega), if_pos (by omega)]
      rfl
    | succ d ih =>
      intro i hi
      have hb := y2 _ (getD_mem (l := y.f1) (i := i) (by omega))
      have q1 : (i : Int) < (l.length : Int) := by omega
      have q2 : (i : Int) < (y.f1.length : Int) := by omega
      have q5 : (i : Int) < (x.f1.length : Int) := by omega
      have q3 : (0 : Int) ≤ (i : Int) := by omega
      have q4 : ((List.range i).map fun i => if y.f1.getD i 0 ≥ 0 then 1 - y.f1.getD i 0 else x.f1.getD i 0).length < 17592186044416 := by rw [List.length_map, List.length_range]; omega
      have E3 : Aside0 (wrap64 ((i : Int) + 1) = ((i + 1 : Nat) : Int)) := ⟨by rw [wrapS (by omega)]; omega⟩
      have e4 : rd y.f1 (i : Int) = y.f1.getD i 0 := rfl
      have e5 : rd x.f1 (i : Int) = x.f1.getD i 0 := rfl
      have := ih (i + 1) (by omega)
      rw [List.range_succ, List.map_append] at this
      refine Ev.step (fun k => ?_) this
      simp only [Fd.woggleref05_Differencing.l3]
      rw [if_pos q1, if_pos q3, if_pos q2, e4]
      by_cases h1 : y.f1.getD i 0 ≥ 0
      · have E7 : Aside0 (wrap64 (1 - y.f1.getD i 0) = 1 - y.f1.getD i 0) := ⟨wrapS (by omega)⟩
        rw [if_pos h1, if_pos q4, E3.out, E7.out]
        simp only [List.map_cons, List.map_nil, if_pos h1]
      · rw [if_neg h1, if_pos q5, if_pos q4, e5, E3.out]
        simp only [List.map_cons, List.map_nil, if_neg h1]
  exact key l.length 0 (by omega)
theorem good_all {l : List Int} (hb : ∀ x ∈ l, 1 ≤ x ∧ x ≤ 1000000) {t : Nat} (ht : t + 1 ≤ l.length) : (itT l.length t (begT l)).length = l.length - t ∧ ∀ x ∈ itT l.length t (begT l), GoodT l.length x := by
  obtain ⟨R, Sg, h1, h2⟩ := RI.all_ hb t ht
  rw [← h2]
  refine ⟨by rw [List.length_map, h1.perm.length_eq]; exact h1.its, fun x hx => ?_⟩
  obtain ⟨j, hj, rfl⟩ := List.mem_map.1 hx
  have hj2 := h1.perm.mem_iff.1 hj
  have hv := h1.val j hj2
  refine ⟨by simp [itm], fun v hv => ?_, hv.1, hv.2⟩
  obtain ⟨i, _, rfl⟩ := List.mem_map.1 hv
  exact (h1.side j hj2).small i
theorem l2_ev (l : List Int) (hok : OkL 14 l) : Ev (fun k => Fd.woggleref05_Differencing.l2 k l (begT l)) ((kkS l).1, (kkS l).2) := by
  have hlen := hok.2.1
  have hpos := hok.1
  have key : ∀ d t : Nat, t + 1 + d = l.length → Ev (fun k => Fd.woggleref05_Differencing.l2 k l (itT l.length t (begT l))) ((kkS l).1, (kkS l).2) := by
    intro d
    induction d with
    | zero =>
      intro t ht
      obtain ⟨v, s, h1, h2, h3, h4, h5⟩ := ref_end hpos hok.2.2
      rw [show t = l.length - 1 by omega, h1]
      have h6 := l4_ev v s h3 ⟨by omega, by omega⟩
      rw [h5, h4] at h6
      refine Ev.step (f := fun k => Fd.woggleref05_Differencing.l4 k [⟨v, s⟩] s [] 0) (fun k => ?_) ?_
      · simp only [Fd.woggleref05_Differencing.l2]
        rw [if_neg (by simp), if_pos (by simp)]
        rfl
      · rw [h4]
        exact h6
    | succ d ih =>
      intro t ht
      obtain ⟨g1, g2⟩ := good_all hok.2.2 (t := t) (by omega)
      have hnext := ih (t + 1) (by omega)
      obtain ⟨L, hL⟩ : ∃ L, L = itT l.length t (begT l) := ⟨_, rfl⟩
      have hL2 : itT l.length (t + 1) (begT l) = rndT l.length L := by rw [hL]; rfl
      rw [hL2] at hnext
      rw [← hL] at g1 g2 ⊢
      have k1 := takT_len (L := L) (by omega)
      obtain ⟨m1, m2⟩ := takT_mem (L := L) (by omega)
      have k2 := takT_len (L := (takT L).2) (by omega)
      obtain ⟨m3, m4⟩ := takT_mem (L := (takT L).2) (by omega)
      refine Ev.step (fun k => ?_) (l3_ev l (takT (takT L).2).2 (takT L).1 (takT (takT L).2).1 _ (by omega) (by omega) (g2 _ m1) (g2 _ (m2 _ m3)) hnext)
      simp only [Fd.woggleref05_Differencing.l2]
      rw [if_pos (by omega), take_is (L := L) ⟨by omega, by omega⟩, Option.bind_some, take_is (L := (takT L).2) ⟨by omega, by omega⟩, Option.bind_some]
  exact key (l.length - 1) 0 (by omega)
theorem refKK_ev (l : List Int) (hok : OkL 14 l) : Ev (fun k => Fd.woggleref05_Differencing.f k l) ((kkS l).1, (kkS l).2) := by
  have hlen := hok.2.1
  unfold Fd.woggleref05_Differencing.f
  obtain ⟨it, hit⟩ : ∃ it : Nat → Fd.S71, it = fun j => ⟨l.getD j 0, (List.range l.length).map fun i => if i = j then 0 else -1⟩ := ⟨_, rfl⟩
  have hbeg : begT l = (List.range l.length).map it := by rw [hit]; rfl
  have inner : ∀ j : Nat, j < l.length → Ev (fun k => Fd.woggleref05_Differencing.l0 k l ((List.range (j + 1)).map it) ((j + 1 : Nat) : Int)) ((kkS l).1, (kkS l).2) → Ev (fun k => Fd.woggleref05_Differencing.l1 k l ((List.range j).map it) (j : Int) 0 (rd l (j : Int)) []) ((kkS l).1, (kkS l).2) := by
    intro j hj hV
    have key : ∀ d i : Nat, i + d = l.length → Ev (fun k => Fd.woggleref05_Differencing.l1 k l ((List.range j).map it) (j : Int) (i : Int) (rd l (j : Int)) ((List.range i).map fun i => if i = j then 0 else -1)) ((kkS l).1, (kkS l).2) := by
      intro d
      induction d with
      | zero =>
        intro i hi
        obtain rfl : i = l.length := by omega
        have E3 : Aside0 (wrap64 ((j : Int) + 1) = ((j + 1 : Nat) : Int)) := ⟨by rw [wrapS (by omega)]; omega⟩
        rw [List.range_succ, List.map_append] at hV
        refine Ev.step (fun k => ?_) hV
        simp only [Fd.woggleref05_Differencing.l1]
        rw [if_neg (by omega), if_pos (by simp; omega), E3.out, hit]
        rfl
      | succ d ih =>
        intro i hi
        have q1 : (i : Int) < (l.length : Int) := by omega
        have q4 : ((List.range i).map fun i => if i = j then (0 : Int) else -1).length < 17592186044416 := by rw [List.length_map, List.length_range]; omega
        have E3 : Aside0 (wrap64 ((i : Int) + 1) = ((i + 1 : Nat) : Int)) := ⟨by rw [wrapS (by omega)]; omega⟩
        have := ih (i + 1) (by omega)
        rw [List.range_succ, List.map_append] at this
        refine Ev.step (fun k => ?_) this
        simp only [Fd.woggleref05_Differencing.l1]
        rw [if_pos q1]
        by_cases h1 : i = j
        · rw [if_pos (by omega), if_pos q4, E3.out]
          simp only [List.map_cons, List.map_nil, if_pos h1]
        · rw [if_neg (by omega), if_pos q4, E3.out]
          simp only [List.map_cons, List.map_nil, if_neg h1]
    exact key l.length 0 (by omega)
  have outer : ∀ d j : Nat, j + d = l.length → Ev (fun k => Fd.woggleref05_Differencing.l0 k l ((List.range j).map it) (j : Int)) ((kkS l).1, (kkS l).2) := by
    intro d
    induction d with
    | zero =>
      intro j hj
      obtain rfl : j = l.length := by omega
      have h := l2_ev l hok
      rw [hbeg] at h
      refine Ev.step (fun k => ?_) h
      simp only [Fd.woggleref05_Differencing.l0]
      rw [if_neg (by omega)]
    | succ d ih =>
      intro j hj
      refine Ev.step (fun k => ?_) (inner j (by omega) (ih (j + 1) (by omega)))
      simp only [Fd.woggleref05_Differencing.l0]
      rw [if_pos (by omega), if_pos (by omega)]
  exact outer l.length 0 (by omega)
end Go.Proofs.Ytepgcdjbhmpioaa.Fi
