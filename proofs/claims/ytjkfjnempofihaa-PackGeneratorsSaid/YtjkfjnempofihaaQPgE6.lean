/- The library's sort of a row of monomials. -/
import Derived.Test.YtjkfjnempofihaaQPgE3
import Derived.Shelf.SlSortCmp.NoneTotal
namespace Go.Proofs.Ytjkfjnempofihaa.Fi
open Go.RowKit Go.Shelf Go.Lib Go.Proofs.YtjkfjnempofihaaW.PrintWords Go.Proofs.YtjkfjnempofihaaW.PrintLast Go.Proofs.YtjkfjnempofihaaW.PrintMore
set_option linter.unusedVariables false
set_option linter.unusedSimpArgs false
theorem cmpI_neg (a b r : Int) : cmpI a b r < 0 ↔ a < b ∨ (a = b ∧ r < 0) := by
  unfold cmpI
  split
  · constructor
    · intro; left; assumption
    · intro; decide
  · split
    · constructor
      · intro h; exact absurd h (by decide)
      · intro h; omega
    · constructor
      · intro h; right; exact ⟨by omega, h⟩
      · intro h; rcases h with h | h
        · omega
        · exact h.2
/-- Before, in lexicographic order. -/
def ltM (a b : M4) : Prop := a.1 < b.1 ∨ (a.1 = b.1 ∧ (a.2.1 < b.2.1 ∨ (a.2.1 = b.2.1 ∧ (a.2.2.1 < b.2.2.1 ∨ (a.2.2.1 = b.2.2.1 ∧ a.2.2.2 < b.2.2.2)))))
instance (a b : M4) : Decidable (ltM a b) := by unfold ltM; infer_instance
theorem cmpM_neg (a b : M4) : cmpM a b < 0 ↔ ltM a b := by
  unfold cmpM ltM
  rw [cmpI_neg, cmpI_neg, cmpI_neg, cmpI_neg]
  simp
theorem ltOf_cmpM (a b : M4) : ltOf cmpM a b = decide (ltM a b) := by
  unfold ltOf
  exact decide_eq_decide.2 (cmpM_neg a b)
theorem ltM_tot (a b : M4) (h1 : ¬ ltM a b) (h2 : ¬ ltM b a) : a = b := by
  obtain ⟨a0, a1, a2, a3⟩ := a
  obtain ⟨b0, b1, b2, b3⟩ := b
  simp only [ltM] at h1 h2
  have e0 : a0 = b0 := by omega
  subst e0
  have e1 : a1 = b1 := by omega
  subst e1
  have e2 : a2 = b2 := by omega
  subst e2
  have e3 : a3 = b3 := by omega
  rw [e3]
theorem swoM : Go.Sort.SWO (ltOf cmpM) where
  irrefl x := by rw [ltOf_cmpM]; simp [ltM]
  trans x y z h1 h2 := by
    rw [ltOf_cmpM, decide_eq_true_iff] at *
    simp only [ltM] at *
    omega
  ntrans x y z h1 h2 := by
    rw [ltOf_cmpM, decide_eq_false_iff_not] at *
    simp only [ltM] at *
    omega
/-- Sorted. -/
def srtM (l : List M4) : List M4 := l.mergeSort fun x y => !(ltOf cmpM) y x
theorem srtM_len (l : List M4) : (srtM l).length = l.length := List.length_mergeSort l
theorem flatK_eq (d : Array M4) : Go.Sort.flatK enc4 4 d = (flat d.toList).toArray := by
  refine Go.Sort.ext_get! (by simp [flat_len]) fun t ht => ?_
  have ht' : t < d.size * 4 := by simpa using ht
  rw [Go.Sort.get_flatK _ _ _ t ht']
  have hj : t / 4 < d.toList.length := by simp; omega
  have hi : t % 4 < (enc4 d[t / 4]!).length := by show t % 4 < 4; omega
  have h := flat_get d.toList (t / 4) hj (t % 4) ((enc4 d[t / 4]!)[t % 4]!) (by
    have e : d.toList[t / 4]! = d[t / 4]! := by rw [getElem!_pos d.toList _ hj, getElem!_pos d _ (by simpa using hj)]; simp
    rw [e, List.getElem?_eq_getElem hi]
    simp [hi])
  rw [show t / 4 * 4 + t % 4 = t by omega] at h
  simp [h]
theorem mr_holds {w : World} {base g n cap : Nat} {d : Array M4} (hn : d.size = n) (h : MR w base (.slice (some ⟨g, 0, none⟩) n cap) d.toList) : Go.Sort.HoldsK enc4 4 w g 0 d := by
  unfold Go.Sort.HoldsK
  rw [flatK_eq]
  intro j hj
  have hj' : j < (flat d.toList).length := by simpa using hj
  rcases h.2 with ⟨h1, h2⟩ | ⟨g', cap', cur, h1, h2, h3, h4, h5, h6, h7⟩
  · cases h1
  · injection h1 with h1 h8 h9
    injection h1 with h1
    injection h1 with h1
    subst h1
    refine ⟨?_, blk_frozen h3 _⟩
    rw [Nat.zero_add, blk_cell h3]
    have e : (flat d.toList)[j]? = cur[j]? := by
      rw [← h7, List.getElem?_take, if_pos (by rw [flat_len] at hj'; omega), Array.getElem?_toList]
    rw [← e, List.getElem?_eq_getElem hj']
    simp [hj']
open Go.Sort in
theorem mr_sorted {w : World} {base g cap m : Nat} {l k : List M4} {os : Array Obj} (hk : k.length = l.length) (h : MR w base (.slice (some ⟨g, 0, none⟩) l.length cap) l) : MR (sortWorldK enc4 4 w g 0 m k.toArray os) base (.slice (some ⟨g, 0, none⟩) l.length cap) k := by
  refine ⟨by rw [flat_len], ?_⟩
  rcases h.2 with ⟨h1, h2⟩ | ⟨g', cap', cur, h1, h2, h3, h4, h5, h6, h7⟩
  · cases h1
  · injection h1 with h1 h8 h9
    injection h1 with h1
    injection h1 with h1
    subst h1
    subst h9
    refine .inr ⟨g, cap, putCells id 0 (flatK enc4 4 k.toArray) cur, by rw [hk], h2, ?_, by omega, h5, by simp [putCells]; exact h6, ?_⟩
    · show (((Go.Sort.ahead w m).heap.modify g (onCells (putCells id 0 (flatK enc4 4 k.toArray)))) ++ os)[g]? = _
      have hh : (Go.Sort.ahead w m).heap[g]? = some (.cells cur 75 (0, 0)) := h3
      have hl2 : g < (Go.Sort.ahead w m).heap.size := blk_lt hh
      rw [Array.getElem?_append_left (by rw [Array.size_modify]; exact hl2), Array.getElem?_modify, if_pos rfl, hh]
      rfl
    · have hc : k.length * 4 ≤ cur.size := by rw [h6, hk]; omega
      rw [flatK_eq]
      apply List.ext_getElem?
      intro j
      rw [List.getElem?_take]
      rcases Nat.lt_or_ge j (k.length * 4) with hj | hj
      · rw [if_pos hj]
        have hjf : j < (flat k).length := by rw [flat_len]; exact hj
        have hjc : j < cur.size := by omega
        simp only [putCells, Array.toList_mapIdx, List.getElem?_mapIdx, Array.getElem?_toList, Array.getElem?_eq_getElem hjc, Option.map_some, List.size_toArray]
        rw [if_pos (by omega), List.getElem?_eq_getElem hjf]
        simp [hjf]
      · rw [if_neg (by omega), List.getElem?_eq_none (by rw [flat_len]; omega)]
open Go.Sort in
theorem sortK_below {w0 w : World} {base g m : Nat} {d : Array M4} {os : Array Obj} (h : Below base w0 w) (hg : base ≤ g) (hlt : g < w.heap.size) : Below base w0 (sortWorldK enc4 4 w g 0 m d os) := by
  refine ⟨h.os, h.tape, h.output, ?_, fun q hq => ?_⟩
  · show w0.heap.size ≤ (((Go.Sort.ahead w m).heap.modify g _) ++ os).size
    rw [Array.size_append, Array.size_modify]
    exact Nat.le_trans h.size (Nat.le_add_right _ _)
  · show (((Go.Sort.ahead w m).heap.modify g _) ++ os)[q]? = _
    have hl2 : q < (Go.Sort.ahead w m).heap.size := by show q < w.heap.size; omega
    rw [Array.getElem?_append_left (by rw [Array.size_modify]; exact hl2), Array.getElem?_modify, if_neg (by omega)]
    exact h.block q hq
set_option maxHeartbeats 30000000 in
set_option maxRecDepth 20000000 in
theorem sort_calls (v : Value) (l : List M4) (base : Nat) (w0 w : World) (h : MR w base v l) (hb : Below base w0 w) (hl : l.length ≤ 30000000) :
    Calls Try.prog 89 #[v, .func (.func 79) #[] #[]] w fun e w' => e = .returned (.tuple #[]) ∧ MR w' base v (srtM l) ∧ Below base w0 w' := by
  rcases h.cases with ⟨rfl, rfl⟩ | ⟨g, c, rfl, hbg, hlt, hc, hbig, hcells⟩
  · refine (AnyF.slices_SortFunc_none sortM none 0 (.func (.func 79) #[] #[]) w).mono ?_
    rintro e w' ⟨rfl, rfl⟩
    exact ⟨rfl, by rw [show srtM [] = [] from by simp [srtM]]; exact h, hb⟩
  · have hcmp : CmpLays Try.prog 79 #[] enc4 4 cmpM g 0 l.toArray.size w := fun m os dk _ x y => compare_calls x y _
    have := AnyQ.slices_SortFunc_total sortM 4 Try.isAgg75 Try.sizeOf75 enc4 (fun _ => rfl) (fun x v hv => kM.K_one (w := w) (x := x) rfl v hv) cmpM swoM 79 #[] g 0 c l.toArray w (fun args w => enters_ Try.func79 (by kernel_rfl) rfl args w) hcmp (mr_holds rfl h) hlt (by simp; omega) (fun x y h1 h2 => by
      rw [ltOf_cmpM, decide_eq_false_iff_not] at h1 h2
      exact ltM_tot x y h1 h2)
    refine this.mono ?_
    rintro e w' ⟨rfl, n, os, rfl⟩
    exact ⟨rfl, mr_sorted (srtM_len l) h, sortK_below hb hbg hlt⟩
end Go.Proofs.Ytjkfjnempofihaa.Fi
