/- Teams and their loads in plain words: the least load depends neither on the order nor, but for the factor, on the scale; the greedy load likewise. -/
import Derived.Test.YtepgcdjbhmpioaaQTeT11
import Derived.Test.YtepgcdjbhmpioaaQTeH4b
namespace Go.Proofs.Ytepgcdjbhmpioaa.Fi
open Go.RowKit Go.Sort Go.Proofs.YtepgcdjbhmpioaaW.PrintWords Go.Proofs.YtepgcdjbhmpioaaW.PrintLast Go.Proofs.YtepgcdjbhmpioaaW.PrintMore
set_option linter.unusedVariables false
/-- The greatest of the teams' loads. -/
def loadT (k : Nat) (l : List Int) (ts : List Nat) : Int := maxF k (tot l ts)
/-- The least load of any teams. -/
structure IsLow (k : Nat) (l : List Int) (d : Int) : Prop where
  got : ∃ ts ∈ allT k l.length, loadT k l ts = d
  least : ∀ ts ∈ allT k l.length, d ≤ loadT k l ts
/-- Teams of the same pulls in another order. -/
theorem perm_teams {p q : List Int} (h : p.Perm q) : ∀ ts : List Nat, ts.length = p.length → ∃ us : List Nat, us.length = q.length ∧ us.Perm ts ∧ ∀ j, tot q us j = tot p ts j := by
  induction h with
  | nil => exact fun s hs => ⟨s, hs, List.Perm.refl _, fun _ => rfl⟩
  | cons x _ ih =>
    intro s hs
    cases s with
    | nil => simp at hs
    | cons b s =>
      obtain ⟨t, h1, h2, h3⟩ := ih s (by simpa using hs)
      exact ⟨b :: t, by simp [h1], h2.cons b, fun j => by rw [tot, tot, h3]⟩
  | swap x y l =>
    intro s hs
    match s, hs with
    | b :: c :: s, hs =>
      refine ⟨c :: b :: s, by simpa using hs, List.Perm.swap _ _ _, fun j => ?_⟩
      simp only [tot]
      omega
    | [_], hs => simp at hs
    | [], hs => simp at hs
  | trans _ _ ih1 ih2 =>
    intro s hs
    obtain ⟨t, a1, a2, a3⟩ := ih1 s hs
    obtain ⟨u, b1, b2, b3⟩ := ih2 t a1
    exact ⟨u, b1, b2.trans a2, fun j => (b3 j).trans (a3 j)⟩
theorem perm_all {k : Nat} {p q : List Int} (h : p.Perm q) {ts : List Nat} (ht : ts ∈ allT k p.length) : ∃ us ∈ allT k q.length, ∀ j, tot q us j = tot p ts j := by
  obtain ⟨h1, h2⟩ := allT_mem.1 ht
  obtain ⟨us, a1, a2, a3⟩ := perm_teams h ts h1
  exact ⟨us, allT_mem.2 ⟨a1, fun t ht => h2 t (a2.mem_iff.1 ht)⟩, a3⟩
theorem IsLow.perm {k : Nat} {p q : List Int} {d : Int} (h : IsLow k p d) (hp : p.Perm q) : IsLow k q d := by
  obtain ⟨⟨ts, a1, a2⟩, h2⟩ := h
  refine ⟨?_, fun ts ht => ?_⟩
  · obtain ⟨us, b1, b2⟩ := perm_all hp a1
    exact ⟨us, b1, (maxF_congr fun j _ => b2 j).trans a2⟩
  · obtain ⟨us, b1, b2⟩ := perm_all hp.symm ht
    exact Int.le_trans (h2 us b1) (Int.le_of_eq (maxF_congr fun j _ => b2 j))
end Go.Proofs.Ytepgcdjbhmpioaa.Fi
