/- The laws TugSides and TugLeast in plain words. -/
import Derived.Test.YtepgcdjbhmpioaaQTsT11
import Derived.Test.YtepgcdjbhmpioaaQTsT8
import Derived.Test.YtepgcdjbhmpioaaQTsFi8
import Derived.Test.YtepgcdjbhmpioaaQTsFi13
namespace Go.Proofs.Ytepgcdjbhmpioaa.Fi
open Go.RowKit Go.Proofs.YtepgcdjbhmpioaaW.PrintWords Go.Proofs.YtepgcdjbhmpioaaW.PrintLast Go.Proofs.YtepgcdjbhmpioaaW.PrintMore
set_option linter.unusedVariables false
theorem u16_made {x : List Int} (h : ∀ v ∈ x, (Lit.int .u16 v).wf = true) : ∀ v ∈ x, 0 ≤ v ∧ v ≤ 65535 := fun v hv => by
  have := h v hv
  simp [Lit.wf] at this
  have a : IntKind.u16.min = 0 := by decide
  have b : IntKind.u16.max = 65535 := by decide
  omega
theorem OkL.widen {m k : Nat} {l : List Int} (h : OkL m l) (hm : m ≤ k) : OkL k l := ⟨h.1, Nat.le_trans h.2.1 hm, h.2.2⟩
theorem OkL.nonneg {m : Nat} {l : List Int} (h : OkL m l) : ∀ x ∈ l, 0 ≤ x := fun x hx => by have := h.2.2 x hx; omega
theorem split_is {l : List Int} (h : OkL 14 l) : tug_Split.f l = some ((findS anyS l).1, (findS anyS l).2, 0) := by
  unfold tug_Split.f
  rw [if_pos (chk_ok h)]
theorem kk_is {l : List Int} (h : OkL 14 l) : tug_Differencing.f l = some ((kkS l).1, (kkS l).2, 0) := by
  unfold tug_Differencing.f
  rw [if_pos (chk_ok h)]
theorem sdB_sd {n : Nat} {s : List Int} (hn : 1 ≤ n) (h : Sd n s) : sdB n s = true := (sdB_iff _ _).2 ⟨h.1, hn, h.2.1, h.2.2⟩
theorem TugSides_ev (x : List Int) (hx : ∀ v ∈ x, 0 ≤ v ∧ v ≤ 65535) : Ev (fun k => wogglelaw05_TugSides.f k x) true := by
  unfold wogglelaw05_TugSides.f
  refine Ev.bind (made_ev x 14 (by omega) hx) ?_
  obtain ⟨l, hl⟩ : ∃ l, l = madeS x 14 := ⟨_, rfl⟩
  have hok : OkL 14 l := by rw [hl]; exact made_ok hx (by omega)
  rw [← hl]
  obtain ⟨s1, s2, s3⟩ := kkS_sides hok.1 hok.nonneg
  have s4 := sdB_sd hok.1 s1
  simp only [kk_is hok, Option.bind_some, if_true]
  refine Ev.bind (rSides_ev l.length (kkS l).2 (by have := s1.1; have := hok.2.1; omega)) ?_
  simp only [s4, if_true]
  refine Ev.bind (rDiff_ev l (kkS l).2 (hok.widen (by omega)) s1.2.1 s1.1) ?_
  simp only [s2, if_true]
  refine Ev.bind lives_ev ?_
  have e1 : mn (l.length : Int) 4 = ((min l.length 4 : Nat) : Int) := by unfold mn; split <;> omega
  have hfew : OkL 14 (l.take (min l.length 4)) := by
    refine ⟨?_, ?_, fun v hv => hok.2.2 v (List.mem_of_mem_take hv)⟩
    · rw [List.length_take]; have := hok.1; omega
    · rw [List.length_take]; omega
  have h4 : (l.take (min l.length 4)).length ≤ 4 := by rw [List.length_take]; omega
  have hk := kk_few hfew.1 h4 hfew.nonneg
  refine Ev.step (f := fun _ => some true) (fun k => ?_) (Ev.now _)
  simp only [wogglelaw05_TugSides.j0, e1]
  rw [if_neg (by decide), if_pos (by omega), if_pos (by omega), Int.toNat_natCast, Option.bind_some, split_is hfew, kk_is hfew]
  simp [hk]
theorem TugSides_pure : wogglelaw05_TugSides.Pure := by
  intro l0 h1 h2 h3
  exact (TugSides_ev l0 (u16_made h3)).rounds
end Go.Proofs.Ytepgcdjbhmpioaa.Fi
