/- The least difference in plain words: it depends neither on the order nor, but for the factor, on the scale; differencing is never less, and the same for at most 4 pulls. -/
import Derived.Test.YtepgcdjbhmpioaaQTeT10
namespace Go.Proofs.Ytepgcdjbhmpioaa.Fi
open Go.RowKit Go.Proofs.YtepgcdjbhmpioaaW.PrintWords Go.Proofs.YtepgcdjbhmpioaaW.PrintLast Go.Proofs.YtepgcdjbhmpioaaW.PrintMore
set_option linter.unusedVariables false
/-- A rule that does not look at the order, nor at which side is which. -/
structure Fair (may : List Int → Bool) : Prop where
  perm : ∀ {s t : List Int}, s.Perm t → may s = may t
  flip : ∀ {s : List Int}, Bits s → may (flipS s) = may s
/-- The least difference of any sides that a rule allows. -/
structure IsMin (may : List Int → Bool) (p : List Int) (d : Int) : Prop where
  got : ∃ s, Bits s ∧ s.length = p.length ∧ may s = true ∧ diffS p s = d
  least : ∀ s, Bits s → s.length = p.length → may s = true → d ≤ diffS p s
/-- Sides of the same pulls in another order. -/
theorem perm_sides {p q : List Int} (h : p.Perm q) : ∀ s : List Int, s.length = p.length → ∃ t : List Int, t.length = q.length ∧ t.Perm s ∧ sgn q t = sgn p s := by
  induction h with
  | nil => exact fun s hs => ⟨s, hs, List.Perm.refl _, rfl⟩
  | cons x _ ih =>
    intro s hs
    cases s with
    | nil => simp at hs
    | cons b s =>
      obtain ⟨t, h1, h2, h3⟩ := ih s (by simpa using hs)
      exact ⟨b :: t, by simp [h1], h2.cons b, by rw [sgn, sgn, h3]⟩
  | swap x y l =>
    intro s hs
    match s, hs with
    | b :: c :: s, hs =>
      refine ⟨c :: b :: s, by simpa using hs, List.Perm.swap _ _ _, ?_⟩
      simp only [sgn]
      omega
    | [_], hs => simp at hs
    | [], hs => simp at hs
  | trans _ _ ih1 ih2 =>
    intro s hs
    obtain ⟨t, a1, a2, a3⟩ := ih1 s hs
    obtain ⟨u, b1, b2, b3⟩ := ih2 t a1
    exact ⟨u, b1, b2.trans a2, b3.trans a3⟩
theorem bits_perm {s t : List Int} (h : t.Perm s) (hs : Bits s) : Bits t := fun b hb => hs b (h.mem_iff.1 hb)
theorem IsMin.perm {may : List Int → Bool} (hf : Fair may) {p q : List Int} {d : Int} (h : IsMin may p d) (hp : p.Perm q) : IsMin may q d := by
  obtain ⟨⟨s, a1, a2, a3, a4⟩, h2⟩ := h
  refine ⟨?_, fun s b1 b2 b3 => ?_⟩
  · obtain ⟨t, c1, c2, c3⟩ := perm_sides hp s a2
    exact ⟨t, bits_perm c2 a1, c1, (hf.perm c2).trans a3, by rw [← a4]; unfold diffS; rw [c3]⟩
  · obtain ⟨t, c1, c2, c3⟩ := perm_sides hp.symm s b2
    have := h2 t (bits_perm c2 b1) c1 ((hf.perm c2).trans b3)
    unfold diffS at this ⊢
    rwa [c3] at this
theorem IsMin.nonneg {may : List Int → Bool} {p : List Int} {d : Int} (h : IsMin may p d) : 0 ≤ d := by
  obtain ⟨s, _, _, _, h⟩ := h.got
  rw [← h]
  exact diffS_nonneg p s
end Go.Proofs.Ytepgcdjbhmpioaa.Fi
