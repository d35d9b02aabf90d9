/- The laws TugSides and TugLeast in plain words. -/
import Derived.Test.YtepgcdjbhmpioaaQTlT11
import Derived.Test.YtepgcdjbhmpioaaQTlT8
import Derived.Test.YtepgcdjbhmpioaaQTlFi8
import Derived.Test.YtepgcdjbhmpioaaQTlFi13
namespace Go.Proofs.Ytepgcdjbhmpioaa.Fi
open Go.RowKit Go.Proofs.YtepgcdjbhmpioaaW.PrintWords Go.Proofs.YtepgcdjbhmpioaaW.PrintLast Go.Proofs.YtepgcdjbhmpioaaW.PrintMore
set_option linter.unusedVariables false
theorem u16_made {x : List Int} (h : ∀ v ∈ x, (Lit.int .u16 v).wf = true) : ∀ v ∈ x, 0 ≤ v ∧ v ≤ 65535 := fun v hv => by
  have := h v hv
  simp [Lit.wf] at this
  have a : IntKind.u16.min = 0 := by decide
  have b : IntKind.u16.max = 65535 := by decide
  omega
theorem u8_nat {v : Int} (h : (Lit.int .u8 v).wf = true) : 0 ≤ v ∧ v ≤ 255 := by
  simp [Lit.wf] at h
  have a : IntKind.u8.min = 0 := by decide
  have b : IntKind.u8.max = 255 := by decide
  omega
theorem OkL.widen {m k : Nat} {l : List Int} (h : OkL m l) (hm : m ≤ k) : OkL k l := ⟨h.1, Nat.le_trans h.2.1 hm, h.2.2⟩
theorem OkL.nonneg {m : Nat} {l : List Int} (h : OkL m l) : ∀ x ∈ l, 0 ≤ x := fun x hx => by have := h.2.2 x hx; omega
theorem split_is {l : List Int} (h : OkL 14 l) : tug_Split.f l = some ((findS anyS l).1, (findS anyS l).2, 0) := by
  unfold tug_Split.f
  rw [if_pos (chk_ok h)]
theorem even_is {l : List Int} (h : OkL 14 l) : tug_Even.f l = some ((findS evS l).1, (findS evS l).2, 0) := by
  unfold tug_Even.f
  rw [if_pos (chk_ok h)]
theorem kk_is {l : List Int} (h : OkL 14 l) : tug_Differencing.f l = some ((kkS l).1, (kkS l).2, 0) := by
  unfold tug_Differencing.f
  rw [if_pos (chk_ok h)]
theorem sdB_sd {n : Nat} {s : List Int} (hn : 1 ≤ n) (h : Sd n s) : sdB n s = true := (sdB_iff _ _).2 ⟨h.1, hn, h.2.1, h.2.2⟩
/-- Some other sides: from arbitrary numbers. -/
def othS (y : List Int) (i : Nat) : Int := if 0 < i ∧ i < y.length then y.getD i 0 % 2 else 0
theorem TugLeast_j0 (y l t : List Int) (d : Int) (hok : OkL 14 l) (ht : Sd l.length t) (hev : evS t = true) (hd : ∀ s, Sd l.length s → d ≤ diffS l s) (hy : ∀ v ∈ y, 0 ≤ v ∧ v ≤ 255) : Ev (fun k => wogglelaw05_TugLeast.j0 k y l d t false) true := by
  obtain ⟨g1, g2, g3⟩ := hok
  have hs : ∀ i, i ≤ t.length → 0 ≤ (t.take i).sum ∧ (t.take i).sum ≤ i := by
    intro i
    induction i with
    | zero => intro _; simp
    | succ i ih =>
      intro hi
      have := ih (by omega)
      have := ht.2.1 _ (getD_mem (l := t) (i := i) (by omega))
      rw [sum_snoc t i (by omega)]
      omega
  have ho : ∀ i, othS y i = 0 ∨ othS y i = 1 := fun i => by
    unfold othS
    split
    · omega
    · exact .inl rfl
  have key : ∀ dd i : Nat, i + dd = l.length → Ev (fun k => wogglelaw05_TugLeast.l0 k y l d t (t.take i).sum ((List.range i).map (othS y)) (i : Int)) true := by
    intro dd
    induction dd with
    | zero =>
      intro i hi
      have ht1 := ht.1
      have h1 := hs i (by omega)
      have h2 : t.take i = t := List.take_of_length_le (by omega)
      rw [h2] at h1 ⊢
      unfold evS at hev
      rw [decide_eq_true_iff] at hev
      have hsd : Sd l.length ((List.range i).map (othS y)) := by
        refine ⟨by simp; omega, fun b hb => ?_, ?_⟩
        · obtain ⟨j, _, rfl⟩ := List.mem_map.1 hb
          exact ho j
        · obtain ⟨m, rfl⟩ : ∃ m, i = m + 1 := ⟨i - 1, by omega⟩
          rw [List.range_succ_eq_map, List.map_cons]
          show othS y 0 = 0
          unfold othS
          rw [if_neg (by omega)]
      have e1 : wrap64 (2 * t.sum) = 2 * t.sum := wrapS (by omega)
      refine Ev.step (f := fun k => (woggleref05_Difference.f k l ((List.range i).map (othS y))).bind fun t396 => (some (decide (t396 ≥ d)))) (fun k => ?_) (Ev.bind (rDiff_ev l _ ⟨g1, by omega, g3⟩ hsd.2.1 hsd.1) ?_)
      · simp only [wogglelaw05_TugLeast.l0]
        rw [if_neg (by omega), e1, wrapS (by omega), if_pos (by omega), if_pos (by omega)]
      · rw [decide_eq_true (hd _ hsd)]
        exact Ev.now _
    | succ dd ih =>
      intro i hi
      have ht1 := ht.1
      have h1 := hs i (by omega)
      have h2 := ht.2.1 _ (getD_mem (l := t) (i := i) (by omega))
      have e2 : (List.range (i + 1)).map (othS y) = (List.range i).map (othS y) ++ [othS y i] := by rw [List.range_succ, List.map_append]; rfl
      have e3 : wrap64 ((t.take i).sum + rd t (i : Int)) = (t.take (i + 1)).sum := by
        rw [sum_snoc t i (by omega), rdN, wrapS (by omega)]
      have e4 : wrap64 ((i : Int) + 1) = ((i + 1 : Nat) : Int) := by rw [wrapS (by omega)]; omega
      have := ih (i + 1) (by omega)
      rw [e2] at this
      refine Ev.step (fun k => ?_) this
      simp only [wogglelaw05_TugLeast.l0]
      rw [if_pos (by omega), if_pos (by omega), if_pos (by omega), e3, e4]
      by_cases c1 : 0 < i
      · rw [if_pos (by omega)]
        by_cases c2 : i < y.length
        · have h3 := hy _ (getD_mem c2)
          rw [if_pos (by omega), if_pos (by simp; omega)]
          have e5 : Int.tmod (wrap64 (rd y (i : Int))) 2 = othS y i := by
            have e6 : wrap64 (rd y (i : Int)) = y.getD i 0 := by rw [rdN]; exact wrapS (by omega)
            rw [e6, Int.tmod_eq_emod_of_nonneg h3.1]
            unfold othS
            rw [if_pos ⟨c1, c2⟩]
          rw [e5]
        · have e5 : othS y i = 0 := by unfold othS; rw [if_neg (by omega)]
          rw [if_neg (by omega), if_pos (by simp; omega), e5]
      · have e5 : othS y i = 0 := by unfold othS; rw [if_neg (by omega)]
        rw [if_neg (by omega), if_pos (by simp; omega), e5]
  refine Ev.step (f := fun k => wogglelaw05_TugLeast.l0 k y l d t 0 (([] : List Int)) 0) (fun k => ?_) (key l.length 0 (by omega))
  simp only [wogglelaw05_TugLeast.j0]
  rw [if_neg (by decide)]
theorem TugLeast_ev (x y : List Int) (hx : ∀ v ∈ x, 0 ≤ v ∧ v ≤ 65535) (hy : ∀ v ∈ y, 0 ≤ v ∧ v ≤ 255) : Ev (fun k => wogglelaw05_TugLeast.f k x y) true := by
  unfold wogglelaw05_TugLeast.f
  refine Ev.bind (made_ev x 14 (by omega) hx) ?_
  obtain ⟨l, hl⟩ : ∃ l, l = madeS x 14 := ⟨_, rfl⟩
  have hok : OkL 14 l := by rw [hl]; exact made_ok hx (by omega)
  rw [← hl]
  obtain ⟨a1, _, a3, a4⟩ := find_any_spec hok.1
  obtain ⟨b1, b2, b3, b4⟩ := find_even_spec hok.1
  have h1 := kk_ge hok.1 hok.nonneg
  have h2 : (findS anyS l).1 ≤ (findS evS l).1 := by rw [b3]; exact a4 _ b1 rfl
  have hlen := hok.2.1
  have c1 := a1.1
  have c2 := b1.1
  simp only [split_is hok, even_is hok, kk_is hok, Option.bind_some, if_true]
  refine Ev.bind (rSides_ev l.length (findS anyS l).2 (by omega)) ?_
  simp only [sdB_sd hok.1 a1, if_true]
  refine Ev.bind (rSides_ev l.length (findS evS l).2 (by omega)) ?_
  simp only [sdB_sd hok.1 b1, if_true]
  refine Ev.bind (rDiff_ev l _ (hok.widen (by omega)) a1.2.1 a1.1) ?_
  simp only [← a3, if_true]
  refine Ev.bind (rDiff_ev l _ (hok.widen (by omega)) b1.2.1 b1.1) ?_
  simp only [← b3, if_true, if_neg (show ¬ (findS evS l).1 < (findS anyS l).1 by omega), if_neg (show ¬ (kkS l).1 < (findS anyS l).1 by omega)]
  refine Ev.bind lives_ev ?_
  exact TugLeast_j0 y l _ _ hok b1 b2 (fun s hs => a4 s hs rfl) hy
theorem u8_list {x : List Int} (h : ∀ v ∈ x, (Lit.int .u8 v).wf = true) : ∀ v ∈ x, 0 ≤ v ∧ v ≤ 255 := fun v hv => u8_nat (h v hv)
theorem TugLeast_pure : wogglelaw05_TugLeast.Pure := by
  intro l0 l1 h1 h2 h3 h4 h5 h6
  exact (TugLeast_ev l0 l1 (u16_made h3) (u8_list h6)).rounds
end Go.Proofs.Ytepgcdjbhmpioaa.Fi
