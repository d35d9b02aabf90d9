/- Plain: the document's examples, computed. -/
import Derived.Test.YtjkfjnempofihaaQPgE21
import Derived.Test.YtjkfjnempofihaaQPgE22
namespace Go.Proofs.Ytjkfjnempofihaa.Fi
open Go.RowKit Go.Shelf Go.Lib Go.Proofs.YtjkfjnempofihaaW.PrintWords
set_option linter.unusedVariables false
set_option linter.unusedSimpArgs false
def insM (x : M4) : List M4 → List M4
  | [] => [x]
  | y :: l => if ltM x y then x :: y :: l else y :: insM x l
def isrtM : List M4 → List M4
  | [] => []
  | x :: l => insM x (isrtM l)
theorem insM_perm (x : M4) : ∀ l, (insM x l).Perm (x :: l)
  | [] => List.Perm.refl _
  | y :: l => by
    rw [insM]
    split
    · exact List.Perm.refl _
    · exact ((insM_perm x l).cons y).trans (List.Perm.swap x y l)
theorem isrtM_perm : ∀ l, (isrtM l).Perm l
  | [] => List.Perm.refl _
  | x :: l => (insM_perm x _).trans ((isrtM_perm l).cons x)
theorem insM_pair {x : M4} : ∀ {l : List M4}, l.Pairwise ltM → x ∉ l → (insM x l).Pairwise ltM
  | [], _, _ => List.pairwise_singleton _ _
  | y :: l, h, hx => by
    rw [insM]
    rw [List.pairwise_cons] at h
    split
    · rename_i hlt
      refine List.pairwise_cons.2 ⟨fun z hz => ?_, List.pairwise_cons.2 h⟩
      rcases List.mem_cons.1 hz with rfl | hz
      · exact hlt
      · exact ltM_tr _ _ _ hlt (h.1 z hz)
    · rename_i hlt
      have hne : y ≠ x := fun e => hx (by rw [e]; exact List.mem_cons_self)
      refine List.pairwise_cons.2 ⟨fun z hz => ?_, insM_pair h.2 (fun hh => hx (List.mem_cons_of_mem _ hh))⟩
      rcases List.mem_cons.1 ((insM_perm x l).mem_iff.1 hz) with rfl | hz
      · by_cases h2 : ltM y z
        · exact h2
        · exact absurd (ltM_tot _ _ h2 hlt) hne
      · exact h.1 z hz
theorem isrtM_pair : ∀ {l : List M4}, l.Nodup → (isrtM l).Pairwise ltM
  | [], _ => List.Pairwise.nil
  | x :: l, h => by
    rw [List.nodup_cons] at h
    exact insM_pair (isrtM_pair h.2) (fun hh => h.1 ((isrtM_perm l).mem_iff.1 hh))
/-- The sorted list, computable. -/
theorem srtM_ins {l : List M4} (h : l.Nodup) : srtM l = isrtM l :=
  sorted_eq ltM_irr ltM_tr _ _ (srtM_pair l h) (isrtM_pair h) (fun x => by rw [(srtM_perm l).mem_iff, (isrtM_perm l).mem_iff])
def lstC (bel : M4 → M4 → Bool) (l : List M4) : List M4 := isrtM (l.foldl (lstS bel l) [])
theorem lstM_C (bel : M4 → M4 → Bool) (l : List M4) : lstM bel l = lstC bel l := srtM_ins (lstS_fold bel l l [] List.nodup_nil).2
def partC (gs : List M4) : List M4 := gs.foldl (fun l g => lstC wiM (candS g l)) [oneM]
theorem partS_C (gs : List M4) : partS gs = partC gs := by
  unfold partS partT partC
  rw [List.take_length]
  congr 1
  funext l g
  rw [lstM_C]
instance (m : M4) : Decidable (Nn m) := by unfold Nn; infer_instance
theorem mir0_mi {x y : Int} (hx : 0 ≤ x ∧ x ≤ 6) (hy : 0 ≤ y ∧ y ≤ 6) : mir0 x y = mi1 x y := by
  unfold mir0 mi1
  rw [wrapS (x := y + 1) (by omega), wrapS (by omega)]
theorem mirM_mir {a p : M4} (ha : Nn a ∧ dv a six) (hp : Nn p ∧ dv p six) : mirM a p = mir a p := by
  have h1 := Gd.six ha
  have h2 := Gd.six hp
  exact m4_ext (mir0_mi h2.1 h1.1) (mir0_mi h2.2.1 h1.2.1) (mir0_mi h2.2.2.1 h1.2.2.1) (mir0_mi h2.2.2.2 h1.2.2.2)
theorem map_mirM {a : M4} {P : List M4} (ha : Nn a ∧ dv a six) (hP : Gd P) : P.map (mirM a) = P.map (mir a) := List.map_congr_left (fun m hm => mirM_mir ha (hP m hm))
def exL : List (List Int) := [[2, 0], [1, 1], [0, 3]]
def exD : List (List Int) := [[1, 1, 0], [0, 1, 1]]
theorem ex_parts : partsE 2 exL = 0 ∧ partsR 2 exL = [[1, 3], [2, 1]] := by
  have e : partsE 2 exL = 0 := by decide
  refine ⟨e, ?_⟩
  unfold partsR
  rw [if_pos e, lstM_C, partS_C]
  decide
theorem ex_num : readErr 2 exL = 0 ∧ numerR 2 exL = [1, 0, -2, 0, 1] := by
  have e : readErr 2 exL = 0 := by decide
  refine ⟨e, ?_⟩
  unfold numerR
  rw [if_pos e]
  decide
theorem ex_dual : dualE 3 exD [1, 1, 1] = 0 ∧ dualR 3 exD [1, 1, 1] = [[0, 1, 0], [1, 0, 1]] := by
  have e : dualE 3 exD [1, 1, 1] = 0 := by
    unfold dualE
    rw [lstM_C]
    decide
  refine ⟨e, ?_⟩
  unfold dualR
  have h1 : partC (lstC divM (exD.map padM)) = [(0, 1, 0, 0), (1, 0, 1, 0)] := by decide
  have h2 : oneV (Int.toNat 3) [1, 1, 1] = (1, 1, 1, 0) := by decide
  have h3 : wholeB exD = false := by decide
  have h4 : Gd [(0, 1, 0, 0), (1, 0, 1, 0)] := fun g hg => by
    rcases List.mem_cons.1 hg with rfl | hg
    · decide
    · rw [List.mem_singleton] at hg
      subst hg
      decide
  rw [if_pos e, lstM_C, partS_C, lstM_C, h1, h2, h3, map_mirM (by decide) h4]
  decide
theorem ex_hil : hilbE 2 exL 1 = 0 ∧ hilbR 2 exL 1 = 2 := by
  have e : hilbE 2 exL 1 = 0 := by decide
  refine ⟨e, ?_⟩
  unfold hilbR
  rw [if_pos e]
  decide
end Go.Proofs.Ytjkfjnempofihaa.Fi
