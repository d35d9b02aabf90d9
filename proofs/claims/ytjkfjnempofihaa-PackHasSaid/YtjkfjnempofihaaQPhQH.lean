/- Plain: the reference's Has and Over are the program's. -/
import Derived.Test.YtjkfjnempofihaaQPhQG
namespace Go.Proofs.Ytjkfjnempofihaa.Fi
open Go.RowKit Go.Shelf Go.Lib Go.Proofs.YtjkfjnempofihaaW.PrintWords Go.Proofs.YtjkfjnempofihaaW.PrintLast Go.Proofs.YtjkfjnempofihaaW.PrintMore
set_option linter.unusedVariables false
set_option linter.unusedSimpArgs false
def overL (m g : List Int) : List Int := (List.range m.length).map fun j => mx 0 (wrap64 (g.getD j 0 - m.getD j 0))
theorem overL_len (m g : List Int) : (overL m g).length = m.length := by simp [overL]
theorem over_ev {n : Nat} (gens : List (List Int)) (m : List Int) (hn : n ≤ 100000) (hg : gens.length ≤ 67108864) (hl : ∀ l ∈ gens, l.length = n) (hm : m.length = n) : Ev (fun k => woggleref04_Over.f k gens m) (minL (gens.map (overL m))) := by
  have key : ∀ (d i : Nat), i + d = gens.length → Ev (fun k => woggleref04_Over.l0 k gens m ((gens.take i).map (overL m)) (i : Int)) (minL (gens.map (overL m))) := by
    intro d
    induction d with
    | zero =>
      intro i hi
      rw [show i = gens.length by omega, List.take_length]
      refine Ev.step (f := fun _ => some (minL (gens.map (overL m)))) (fun k => ?_) (Ev.now _)
      simp only [woggleref04_Over.l0]
      rw [if_neg (by omega), rmin_f (n := n) (by rw [List.length_map]; exact hg) hn (fun x hx => by obtain ⟨y, hy, rfl⟩ := List.mem_map.1 hx; rw [overL_len, hm])]
      rfl
    | succ d ih =>
      intro i hi
      have hil : i < gens.length := by omega
      have hlen : gens[i].length = n := hl _ (List.getElem_mem _)
      have inner : ∀ (e j : Nat), j + e = m.length → Ev (fun k => woggleref04_Over.l1 k gens m ((gens.take i).map (overL m)) (i : Int) ((List.range j).map fun j => mx 0 (wrap64 (gens[i].getD j 0 - m.getD j 0))) (j : Int)) (minL (gens.map (overL m))) := by
        intro e
        induction e with
        | zero =>
          intro j hj
          refine Ev.step (fun k => ?_) (ih (i + 1) (by omega))
          simp only [woggleref04_Over.l1]
          rw [if_neg (by omega), if_pos (by simp; omega), wrapS (by omega), take_snoc gens i hil, List.map_append, show j = m.length by omega]
          rfl
        | succ e ihe =>
          intro j hj
          have hjl : j < m.length := by omega
          refine Ev.step (fun k => ?_) (ihe (j + 1) (by omega))
          simp only [woggleref04_Over.l1]
          rw [if_pos (by omega), if_pos (by omega), if_pos (by omega), if_pos (by omega), rd_L1_get _ _ hil, if_pos (by omega), if_pos (by simp; omega), wrapS (x := (j : Int) + 1) (by omega), List.range_succ, List.map_append]
          unfold rd
          rw [Int.toNat_natCast]
          rfl
      refine Ev.step (fun k => ?_) (inner m.length 0 (by omega))
      simp only [woggleref04_Over.l0]
      rw [if_pos (by omega)]
      rfl
  exact key gens.length 0 (by omega)
theorem over_pad {n : Nat} {m g : List Int} (hm : m.length = n) (hg : g.length = n) : padM (overL m g) = subM (padM m) (padM g) := by
  have h : ∀ i, (overL m g).getD i 0 = sub0 (g.getD i 0) (m.getD i 0) := fun i => by
    unfold overL
    rw [List.getD_eq_getElem?_getD, List.getElem?_map]
    rcases Nat.lt_or_ge i m.length with hi | hi
    · rw [List.getElem?_range hi]
      show mx 0 (wrap64 (g.getD i 0 - m.getD i 0)) = _
      unfold mx sub0
      rfl
    · rw [List.getElem?_eq_none (by simpa using hi), List.getD_eq_getElem?_getD, List.getElem?_eq_none (by omega), List.getD_eq_getElem?_getD, List.getElem?_eq_none hi]
      show (0 : Int) = sub0 0 0
      unfold sub0
      rw [show wrap64 ((0 : Int) - 0) = 0 from wrapS (by omega)]
      rfl
  unfold padM subM
  rw [h, h, h, h]
theorem over_eq {n : Nat} (hn : n ≤ 4) {gens : List (List Int)} {m : List Int} (hg : ∀ l ∈ gens, l.length = n) (hm : m.length = n) : minL (gens.map (overL m)) = (lstM divM ((gens.map padM).map (subM (padM m)))).map (cutM n) := by
  rw [minL_eq hn (fun x hx => by obtain ⟨y, hy, rfl⟩ := List.mem_map.1 hx; rw [overL_len, hm]), List.map_map, List.map_map]
  congr 2
  exact List.map_congr_left (fun l hl => over_pad hm (hg l hl))
theorem hasL_pad {n : Nat} (hn : n ≤ 4) {gens : List (List Int)} {m : List Int} (hg : ∀ l ∈ gens, l.length = n) (hm : m.length = n) : (gens.map padM).any (fun x => divM x (padM m)) = hasL gens m := by
  unfold hasL
  rw [List.any_map]
  rw [Bool.eq_iff_iff, List.any_eq_true, List.any_eq_true]
  constructor
  · rintro ⟨x, hx, h⟩
    exact ⟨x, hx, by rw [divL_pad n hn x m (hg x hx) hm]; exact h⟩
  · rintro ⟨x, hx, h⟩
    exact ⟨x, hx, by rw [divL_pad n hn x m (hg x hx) hm] at h; exact h⟩
theorem valid_len {k : Nat} {m : List Int} (h : validB k m = true) : m.length = k := by
  unfold validB at h
  rw [Bool.and_eq_true, decide_eq_true_iff] at h
  exact h.1
end Go.Proofs.Ytjkfjnempofihaa.Fi
