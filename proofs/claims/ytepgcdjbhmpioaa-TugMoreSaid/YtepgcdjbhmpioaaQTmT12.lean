/- Teams and their loads in plain words: the least load depends neither on the order nor, but for the factor, on the scale; the greedy load likewise. -/
import Derived.Test.YtepgcdjbhmpioaaQTmT11
import Derived.Test.YtepgcdjbhmpioaaQTmH4b
namespace Go.Proofs.Ytepgcdjbhmpioaa.Fi
open Go.RowKit Go.Sort Go.Proofs.YtepgcdjbhmpioaaW.PrintWords Go.Proofs.YtepgcdjbhmpioaaW.PrintLast Go.Proofs.YtepgcdjbhmpioaaW.PrintMore
set_option linter.unusedVariables false
theorem tryT_in {k : Nat} {S : Nat → Int} {ps : List Int} {pre : List Nat} : ∀ (L : List (List Nat)) (acc : Int × List Nat), tryT k S ps pre acc L = acc ∨ ∃ ts ∈ L, tryT k S ps pre acc L = (ldT k S ps ts, pre ++ ts)
  | [], acc => .inl rfl
  | ts :: L, acc => by
    have ih := tryT_in (k := k) (S := S) (ps := ps) (pre := pre) L (betT acc (ldT k S ps ts, pre ++ ts))
    rcases ih with ih | ⟨us, h1, h2⟩
    · change tryT k S ps pre acc (ts :: L) = _ at ih
      unfold betT at ih
      split at ih
      · exact .inr ⟨ts, by simp, ih⟩
      · exact .inl ih
    · exact .inr ⟨us, by simp [h1], h2⟩
/-- The greatest of the teams' loads. -/
def loadT (k : Nat) (l : List Int) (ts : List Nat) : Int := maxF k (tot l ts)
theorem loadT_is (k : Nat) (l : List Int) (ts : List Nat) : ldT k (fun _ => 0) l ts = loadT k l ts := maxF_congr fun j _ => Int.zero_add _
theorem teams_spec {k : Nat} (hk : 1 ≤ k) {l : List Int} (hl : ∀ x ∈ l, 0 ≤ x) : teamsS k l = (loadT k l (teamsS k l).2, (teamsS k l).2) ∧ (teamsS k l).2 ∈ allT k l.length ∧ ∀ us ∈ allT k l.length, (teamsS k l).1 ≤ loadT k l us := by
  have hz : ∀ j, (List.replicate k (0 : Int)).getD j 0 = 0 := fun j => by
    rw [List.getD_eq_getElem?_getD, List.getElem?_replicate]
    split <;> rfl
  have e : teamsS k l = tryT k (fun _ => 0) l [] (-1, []) (allT k l.length) := by
    unfold teamsS
    rw [asgS_spec k hk l [] _ 0 (-1, []) (by simp) (by omega) hl (fun j => by rw [hz]; omega) (fun j _ => hz j), funext hz]
  have h1 := tryT_le' (k := k) (S := fun _ => 0) (ps := l) (pre := []) (-1, []) (allT_ne hk l.length)
  rcases tryT_in (k := k) (S := fun _ => 0) (ps := l) (pre := []) (allT k l.length) (-1, []) with h2 | ⟨ts, h2, h3⟩
  · rw [h2] at h1
    exact absurd h1.1 (by decide)
  · rw [← e] at h3 h1
    rw [List.nil_append, loadT_is] at h3
    have e2 : (teamsS k l).2 = ts := by rw [h3]
    refine ⟨by rw [e2]; exact h3, by rw [e2]; exact h2, fun us hus => ?_⟩
    have := h1.2 us hus
    rwa [loadT_is] at this
/-- The least load of any teams. -/
structure IsLow (k : Nat) (l : List Int) (d : Int) : Prop where
  got : ∃ ts ∈ allT k l.length, loadT k l ts = d
  least : ∀ ts ∈ allT k l.length, d ≤ loadT k l ts
theorem teams_low {k : Nat} (hk : 1 ≤ k) {l : List Int} (hl : ∀ x ∈ l, 0 ≤ x) : IsLow k l (teamsS k l).1 := by
  obtain ⟨h1, h2, h3⟩ := teams_spec hk hl
  exact ⟨⟨_, h2, (congrArg Prod.fst h1).symm⟩, h3⟩
/-- Teams of the same pulls in another order. -/
theorem perm_teams {p q : List Int} (h : p.Perm q) : ∀ ts : List Nat, ts.length = p.length → ∃ us : List Nat, us.length = q.length ∧ us.Perm ts ∧ ∀ j, tot q us j = tot p ts j := by
  induction h with
  | nil => exact fun s hs => ⟨s, hs, List.Perm.refl _, fun _ => rfl⟩
  | cons x _ ih =>
    intro s hs
    cases s with
    | nil => simp at hs
    | cons b s =>
      obtain ⟨t, h1, h2, h3⟩ := ih s (by simpa using hs)
      exact ⟨b :: t, by simp [h1], h2.cons b, fun j => by rw [tot, tot, h3]⟩
  | swap x y l =>
    intro s hs
    match s, hs with
    | b :: c :: s, hs =>
      refine ⟨c :: b :: s, by simpa using hs, List.Perm.swap _ _ _, fun j => ?_⟩
      simp only [tot]
      omega
    | [_], hs => simp at hs
    | [], hs => simp at hs
  | trans _ _ ih1 ih2 =>
    intro s hs
    obtain ⟨t, a1, a2, a3⟩ := ih1 s hs
    obtain ⟨u, b1, b2, b3⟩ := ih2 t a1
    exact ⟨u, b1, b2.trans a2, fun j => (b3 j).trans (a3 j)⟩
theorem perm_all {k : Nat} {p q : List Int} (h : p.Perm q) {ts : List Nat} (ht : ts ∈ allT k p.length) : ∃ us ∈ allT k q.length, ∀ j, tot q us j = tot p ts j := by
  obtain ⟨h1, h2⟩ := allT_mem.1 ht
  obtain ⟨us, a1, a2, a3⟩ := perm_teams h ts h1
  exact ⟨us, allT_mem.2 ⟨a1, fun t ht => h2 t (a2.mem_iff.1 ht)⟩, a3⟩
theorem IsLow.perm {k : Nat} {p q : List Int} {d : Int} (h : IsLow k p d) (hp : p.Perm q) : IsLow k q d := by
  obtain ⟨⟨ts, a1, a2⟩, h2⟩ := h
  refine ⟨?_, fun ts ht => ?_⟩
  · obtain ⟨us, b1, b2⟩ := perm_all hp a1
    exact ⟨us, b1, (maxF_congr fun j _ => b2 j).trans a2⟩
  · obtain ⟨us, b1, b2⟩ := perm_all hp.symm ht
    exact Int.le_trans (h2 us b1) (Int.le_of_eq (maxF_congr fun j _ => b2 j))
theorem mem_dropLast' {α : Type} {l : List α} {x : α} (h : x ∈ l.dropLast) : x ∈ l := by
  rw [List.dropLast_eq_take] at h
  exact List.mem_of_mem_take h
theorem tot_snoc (x : Int) (t j : Nat) : ∀ (p : List Int) (ts : List Nat), ts.length = p.length → tot (p ++ [x]) (ts ++ [t]) j = tot p ts j + if t = j then x else 0
  | [], [], _ => by simp [tot]
  | [], _ :: _, h => by simp at h
  | _ :: _, [], h => by simp at h
  | a :: p, u :: ts, h => by
    rw [List.cons_append, List.cons_append, tot, tot, tot_snoc x t j p ts (by simpa using h), Int.add_assoc]
theorem low_more {k : Nat} {p : List Int} {x d e : Int} (hx : 0 ≤ x) (h1 : IsLow k p d) (h2 : IsLow k (p ++ [x]) e) : d ≤ e := by
  obtain ⟨ts, a1, a2⟩ := h2.got
  obtain ⟨b1, b2⟩ := allT_mem.1 a1
  rw [List.length_append, List.length_singleton] at b1
  have e1 : ts = ts.dropLast ++ [ts.getLast (by intro h; rw [h] at b1; simp at b1)] := (List.dropLast_concat_getLast _).symm
  have hm : ts.dropLast ∈ allT k p.length := allT_mem.2 ⟨by simp; omega, fun t ht => b2 t (mem_dropLast' ht)⟩
  refine Int.le_trans (h1.least _ hm) ?_
  rw [← a2]
  unfold loadT
  refine maxF_le.2 ⟨maxF_nonneg _ _, fun j hj => Int.le_trans ?_ (maxF_ge (tot (p ++ [x]) ts) hj)⟩
  rw [e1, List.dropLast_concat, tot_snoc x _ j p _ (by simp; omega)]
  split <;> omega
theorem sgn_snoc2 (x b : Int) : ∀ (p s : List Int), s.length = p.length → sgn (p ++ [x]) (s ++ [b]) = sgn p s + x * (1 - 2 * b)
  | [], [], _ => by simp [sgn]
  | [], _ :: _, h => by simp at h
  | _ :: _, [], h => by simp at h
  | a :: p, u :: s, h => by
    rw [List.cons_append, List.cons_append, sgn, sgn, sgn_snoc2 x b p s (by simpa using h), Int.add_assoc]
/-- One more pull changes the least difference by at most that pull. -/
theorem min_more {p : List Int} {x d e : Int} (hx : 0 ≤ x) (h1 : IsMin anyS p d) (h2 : IsMin anyS (p ++ [x]) e) : d - e ≤ x ∧ e - d ≤ x := by
  constructor
  · obtain ⟨s, a1, a2, _, a4⟩ := h2.got
    rw [List.length_append, List.length_singleton] at a2
    have e1 : s = s.dropLast ++ [s.getLast (by intro h; rw [h] at a2; simp at a2)] := (List.dropLast_concat_getLast _).symm
    have hb : Bits s.dropLast := fun b hb => a1 b (mem_dropLast' hb)
    have := h1.least s.dropLast hb (by simp; omega) rfl
    have hl := a1 (s.getLast (by intro h; rw [h] at a2; simp at a2)) (List.getLast_mem _)
    have h3 := sgn_snoc2 x (s.getLast (by intro h; rw [h] at a2; simp at a2)) p s.dropLast (by simp; omega)
    rw [← e1] at h3
    unfold diffS at *
    rcases hl with hl | hl <;> rw [hl] at h3 <;> omega
  · obtain ⟨s, a1, a2, _, a4⟩ := h1.got
    have := h2.least (s ++ [0]) (fun b hb => by
      rcases List.mem_append.1 hb with hb | hb
      · exact a1 b hb
      · exact .inl (by simpa using hb)) (by simp [a2]) rfl
    have h3 := sgn_snoc2 x 0 p s a2
    unfold diffS at *
    rw [h3] at this
    omega
end Go.Proofs.Ytepgcdjbhmpioaa.Fi
