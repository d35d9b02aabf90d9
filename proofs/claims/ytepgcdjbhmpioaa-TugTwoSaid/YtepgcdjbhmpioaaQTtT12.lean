/- Teams and their loads in plain words: the least load depends neither on the order nor, but for the factor, on the scale; the greedy load likewise. -/
import Derived.Test.YtepgcdjbhmpioaaQTtT11
import Derived.Test.YtepgcdjbhmpioaaQTtH4b
namespace Go.Proofs.Ytepgcdjbhmpioaa.Fi
open Go.RowKit Go.Sort Go.Proofs.YtepgcdjbhmpioaaW.PrintWords Go.Proofs.YtepgcdjbhmpioaaW.PrintLast Go.Proofs.YtepgcdjbhmpioaaW.PrintMore
set_option linter.unusedVariables false
theorem tryT_in {k : Nat} {S : Nat → Int} {ps : List Int} {pre : List Nat} : ∀ (L : List (List Nat)) (acc : Int × List Nat), tryT k S ps pre acc L = acc ∨ ∃ ts ∈ L, tryT k S ps pre acc L = (ldT k S ps ts, pre ++ ts)
  | [], acc => .inl rfl
  | ts :: L, acc => by
    have ih := tryT_in (k := k) (S := S) (ps := ps) (pre := pre) L (betT acc (ldT k S ps ts, pre ++ ts))
    rcases ih with ih | ⟨us, h1, h2⟩
    · change tryT k S ps pre acc (ts :: L) = _ at ih
      unfold betT at ih
      split at ih
      · exact .inr ⟨ts, by simp, ih⟩
      · exact .inl ih
    · exact .inr ⟨us, by simp [h1], h2⟩
/-- The greatest of the teams' loads. -/
def loadT (k : Nat) (l : List Int) (ts : List Nat) : Int := maxF k (tot l ts)
theorem loadT_is (k : Nat) (l : List Int) (ts : List Nat) : ldT k (fun _ => 0) l ts = loadT k l ts := maxF_congr fun j _ => Int.zero_add _
theorem teams_spec {k : Nat} (hk : 1 ≤ k) {l : List Int} (hl : ∀ x ∈ l, 0 ≤ x) : teamsS k l = (loadT k l (teamsS k l).2, (teamsS k l).2) ∧ (teamsS k l).2 ∈ allT k l.length ∧ ∀ us ∈ allT k l.length, (teamsS k l).1 ≤ loadT k l us := by
  have hz : ∀ j, (List.replicate k (0 : Int)).getD j 0 = 0 := fun j => by
    rw [List.getD_eq_getElem?_getD, List.getElem?_replicate]
    split <;> rfl
  have e : teamsS k l = tryT k (fun _ => 0) l [] (-1, []) (allT k l.length) := by
    unfold teamsS
    rw [asgS_spec k hk l [] _ 0 (-1, []) (by simp) (by omega) hl (fun j => by rw [hz]; omega) (fun j _ => hz j), funext hz]
  have h1 := tryT_le' (k := k) (S := fun _ => 0) (ps := l) (pre := []) (-1, []) (allT_ne hk l.length)
  rcases tryT_in (k := k) (S := fun _ => 0) (ps := l) (pre := []) (allT k l.length) (-1, []) with h2 | ⟨ts, h2, h3⟩
  · rw [h2] at h1
    exact absurd h1.1 (by decide)
  · rw [← e] at h3 h1
    rw [List.nil_append, loadT_is] at h3
    have e2 : (teamsS k l).2 = ts := by rw [h3]
    refine ⟨by rw [e2]; exact h3, by rw [e2]; exact h2, fun us hus => ?_⟩
    have := h1.2 us hus
    rwa [loadT_is] at this
/-- The least load of any teams. -/
structure IsLow (k : Nat) (l : List Int) (d : Int) : Prop where
  got : ∃ ts ∈ allT k l.length, loadT k l ts = d
  least : ∀ ts ∈ allT k l.length, d ≤ loadT k l ts
theorem teams_low {k : Nat} (hk : 1 ≤ k) {l : List Int} (hl : ∀ x ∈ l, 0 ≤ x) : IsLow k l (teamsS k l).1 := by
  obtain ⟨h1, h2, h3⟩ := teams_spec hk hl
  exact ⟨⟨_, h2, (congrArg Prod.fst h1).symm⟩, h3⟩
/-- Teams of the same pulls in another order. -/
theorem perm_teams {p q : List Int} (h : p.Perm q) : ∀ ts : List Nat, ts.length = p.length → ∃ us : List Nat, us.length = q.length ∧ us.Perm ts ∧ ∀ j, tot q us j = tot p ts j := by
  induction h with
  | nil => exact fun s hs => ⟨s, hs, List.Perm.refl _, fun _ => rfl⟩
  | cons x _ ih =>
    intro s hs
    cases s with
    | nil => simp at hs
    | cons b s =>
      obtain ⟨t, h1, h2, h3⟩ := ih s (by simpa using hs)
      exact ⟨b :: t, by simp [h1], h2.cons b, fun j => by rw [tot, tot, h3]⟩
  | swap x y l =>
    intro s hs
    match s, hs with
    | b :: c :: s, hs =>
      refine ⟨c :: b :: s, by simpa using hs, List.Perm.swap _ _ _, fun j => ?_⟩
      simp only [tot]
      omega
    | [_], hs => simp at hs
    | [], hs => simp at hs
  | trans _ _ ih1 ih2 =>
    intro s hs
    obtain ⟨t, a1, a2, a3⟩ := ih1 s hs
    obtain ⟨u, b1, b2, b3⟩ := ih2 t a1
    exact ⟨u, b1, b2.trans a2, fun j => (b3 j).trans (a3 j)⟩
theorem perm_all {k : Nat} {p q : List Int} (h : p.Perm q) {ts : List Nat} (ht : ts ∈ allT k p.length) : ∃ us ∈ allT k q.length, ∀ j, tot q us j = tot p ts j := by
  obtain ⟨h1, h2⟩ := allT_mem.1 ht
  obtain ⟨us, a1, a2, a3⟩ := perm_teams h ts h1
  exact ⟨us, allT_mem.2 ⟨a1, fun t ht => h2 t (a2.mem_iff.1 ht)⟩, a3⟩
theorem IsLow.perm {k : Nat} {p q : List Int} {d : Int} (h : IsLow k p d) (hp : p.Perm q) : IsLow k q d := by
  obtain ⟨⟨ts, a1, a2⟩, h2⟩ := h
  refine ⟨?_, fun ts ht => ?_⟩
  · obtain ⟨us, b1, b2⟩ := perm_all hp a1
    exact ⟨us, b1, (maxF_congr fun j _ => b2 j).trans a2⟩
  · obtain ⟨us, b1, b2⟩ := perm_all hp.symm ht
    exact Int.le_trans (h2 us b1) (Int.le_of_eq (maxF_congr fun j _ => b2 j))
/-- Two teams as sides. -/
theorem two_teams : ∀ (p : List Int) (ts : List Nat), ts.length = p.length → (∀ t ∈ ts, t < 2) → Bits (toZ ts) ∧ tot p ts 0 + tot p ts 1 = p.sum ∧ tot p ts 0 - tot p ts 1 = sgn p (toZ ts)
  | [], [], _, _ => ⟨fun b hb => by simp [toZ] at hb, by simp [tot], by simp [tot, sgn]⟩
  | [], _ :: _, h, _ => by simp at h
  | _ :: _, [], h, _ => by simp at h
  | a :: p, t :: ts, h, ht => by
    obtain ⟨h1, h2, h3⟩ := two_teams p ts (by simpa using h) (fun x hx => ht x (by simp [hx]))
    have h4 := ht t (by simp)
    have e : toZ (t :: ts) = (t : Int) :: toZ ts := rfl
    rw [e, sgn, List.sum_cons]
    simp only [tot]
    refine ⟨fun b hb => ?_, ?_, ?_⟩
    · rcases List.mem_cons.1 hb with rfl | hb
      · omega
      · exact h1 b hb
    · rcases (show t = 0 ∨ t = 1 by omega) with rfl | rfl <;> simp <;> omega
    · rcases (show t = 0 ∨ t = 1 by omega) with rfl | rfl <;> simp <;> omega
theorem load_two {p : List Int} {ts : List Nat} (hp : ∀ x ∈ p, 0 ≤ x) (hl : ts.length = p.length) (ht : ∀ t ∈ ts, t < 2) : 2 * loadT 2 p ts = p.sum + diffS p (toZ ts) := by
  obtain ⟨_, h2, h3⟩ := two_teams p ts hl ht
  have e : loadT 2 p ts = max (max 0 (tot p ts 0)) (tot p ts 1) := rfl
  have a0 := tot_nonneg ts 0 hp
  have a1 := tot_nonneg ts 1 hp
  unfold diffS
  rw [e, ← h2, ← h3]
  omega
theorem toZ_back {s : List Int} (h : Bits s) : toZ (s.map Int.toNat) = s ∧ ∀ t ∈ s.map Int.toNat, t < 2 := by
  constructor
  · unfold toZ
    rw [List.map_map]
    exact (List.map_congr_left fun x hx => by
      have := h x hx
      show ((x.toNat : Nat) : Int) = id x
      simp only [id]
      omega).trans (List.map_id s)
  · intro t ht
    obtain ⟨x, hx, rfl⟩ := List.mem_map.1 ht
    have := h x hx
    omega
/-- The load of two teams is half of the sum and the least difference. -/
theorem low_two {p : List Int} {d e : Int} (hp : ∀ x ∈ p, 0 ≤ x) (h1 : IsLow 2 p d) (h2 : IsMin anyS p e) : 2 * d = p.sum + e := by
  obtain ⟨ts, a1, a2⟩ := h1.got
  obtain ⟨b1, b2⟩ := allT_mem.1 a1
  obtain ⟨s, c1, c2, _, c4⟩ := h2.got
  have i1 := load_two hp b1 b2
  have i2 := h2.least (toZ ts) (two_teams p ts b1 b2).1 ((toZ_length ts).trans b1) rfl
  obtain ⟨j1, j2⟩ := toZ_back c1
  have i3 := load_two hp (by rw [List.length_map]; exact c2) j2
  have i4 := h1.least _ (allT_mem.2 ⟨by rw [List.length_map]; exact c2, j2⟩)
  rw [j1] at i3
  omega
theorem tot_one : ∀ (p : List Int) (ts : List Nat), ts.length = p.length → (∀ t ∈ ts, t < 1) → tot p ts 0 = p.sum
  | [], [], _, _ => rfl
  | [], _ :: _, h, _ => by simp at h
  | _ :: _, [], h, _ => by simp at h
  | a :: p, t :: ts, h, ht => by
    have h4 : t = 0 := by have := ht t (by simp); omega
    rw [tot, tot_one p ts (by simpa using h) (fun x hx => ht x (by simp [hx])), h4, List.sum_cons]
    simp
theorem sum_nonneg {p : List Int} (h : ∀ x ∈ p, 0 ≤ x) : 0 ≤ p.sum := by
  induction p with
  | nil => simp
  | cons a p ih =>
    have := h a (by simp)
    have := ih (fun x hx => h x (by simp [hx]))
    rw [List.sum_cons]
    omega
theorem teams_one {l : List Int} (hl : ∀ x ∈ l, 0 ≤ x) : (teamsS 1 l).1 = l.sum ∧ toZ (teamsS 1 l).2 = List.replicate l.length 0 := by
  obtain ⟨h1, h2, _⟩ := teams_spec (Nat.le_refl 1) hl
  obtain ⟨b1, b2⟩ := allT_mem.1 h2
  constructor
  · rw [congrArg Prod.fst h1]
    have e : loadT 1 l (teamsS 1 l).2 = max 0 (tot l (teamsS 1 l).2 0) := rfl
    rw [e, tot_one l _ b1 b2, Int.max_eq_right (sum_nonneg hl)]
  · refine List.eq_replicate_iff.2 ⟨(toZ_length _).trans b1, fun x hx => ?_⟩
    obtain ⟨t, ht, rfl⟩ := List.mem_map.1 hx
    have := b2 t ht
    omega
end Go.Proofs.Ytepgcdjbhmpioaa.Fi
