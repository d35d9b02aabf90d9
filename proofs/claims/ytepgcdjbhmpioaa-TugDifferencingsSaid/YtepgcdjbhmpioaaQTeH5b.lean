/- The items of Differencing: a row of them, sorted, cut and made longer. -/
import Derived.Test.YtepgcdjbhmpioaaQTeH5a
namespace Go.Proofs.Ytepgcdjbhmpioaa.Fi
open Go.RowKit Go.Shelf Go.Lib Go.Sort Go.Proofs.YtepgcdjbhmpioaaW.PrintWords Go.Proofs.YtepgcdjbhmpioaaW.PrintLast Go.Proofs.YtepgcdjbhmpioaaW.PrintMore
set_option linter.unusedVariables false
set_option linter.unusedSimpArgs false
def ptrs (tab : Nat → Nat) (its : List Nat) : List Value := its.map fun j => .pointer (some ⟨tab j, 0, none⟩)
def toF (N j : Nat) : Fin (N - 1 + 1) := ⟨min j (N - 1), by omega⟩
def encN (tab : Nat → Nat) (N : Nat) (x : Fin (N - 1 + 1)) : Value := .pointer (some ⟨tab x.val, 0, none⟩)
def cfN (nd : List Nd) (x y : Fin (nd.length - 1 + 1)) : Int := if befN nd x.val y.val then -1 else 1
theorem lt_cfN (nd : List Nd) (x y : Fin (nd.length - 1 + 1)) : ltOf (cfN nd) x y = befN nd x.val y.val := by
  unfold ltOf cfN
  cases befN nd x.val y.val <;> rfl
theorem befN_iff (nd : List Nd) (a b : Nat) : befN nd a b = true ↔ (wth nd b < wth nd a ∨ (wth nd a = wth nd b ∧ a < b)) := by unfold befN; rw [decide_eq_true_iff]
theorem befN_not (nd : List Nd) (a b : Nat) : befN nd a b = false ↔ ¬ (wth nd b < wth nd a ∨ (wth nd a = wth nd b ∧ a < b)) := by unfold befN; rw [decide_eq_false_iff_not]
theorem swoN (nd : List Nd) : SWO (ltOf (cfN nd)) where
  irrefl x := by rw [lt_cfN, befN_not]; omega
  trans x y z h1 h2 := by rw [lt_cfN, befN_iff] at *; omega
  ntrans x y z h1 h2 := by rw [lt_cfN, befN_not] at *; omega
theorem srtN_map (nd : List Nd) (its : List Nat) (h : ∀ j ∈ its, j < nd.length) : (((its.map (toF nd.length)).mergeSort fun x y => !(ltOf (cfN nd)) y x).map Fin.val) = srtN nd its := by
  have e : (its.map (toF nd.length)).map Fin.val = its := by
    rw [List.map_map]
    refine (List.map_congr_left fun j hj => ?_).trans (List.map_id its)
    have := h j hj
    simp [toF]
    omega
  unfold srtN
  rw [List.map_mergeSort (s := fun x y => !befN nd y x) (fun a _ b _ => by rw [lt_cfN]), e]
section
variable {α : Type} [Inhabited α]
theorem q_holds {enc : α → Value} {W : World} {base g off cap : Nat} {d : Array α} (h : QRow W base 59 1 (.slice (some ⟨g, off, none⟩) d.size cap) d.size (d.toList.map enc)) : Holds enc W g off d := by
  intro j hj
  obtain ⟨h1, h2⟩ := h
  rcases h2 with ⟨h0, _⟩ | ⟨g', o, cap', cur, e, hb, hg, hn, hm, hc, ht⟩
  · omega
  · rw [Nat.mul_one] at e ht
    injection e with e1 e2 e3
    injection e1 with e1
    injection e1 with e1 e4
    subst e1
    subst e4
    refine ⟨?_, blk_frozen hg _⟩
    rw [blk_cell hg]
    have h3 := congrArg (·[j]?) ht
    simp only [Nat.mul_one] at h3
    rw [List.getElem?_take, if_pos hj, List.getElem?_drop] at h3
    rw [← Array.getElem?_toList, h3]
    simp [getElem!_pos d j hj, List.getElem?_map, Array.getElem?_toList, Array.getElem?_eq_getElem hj]
theorem q_sorted {enc : α → Value} {W : World} {base g off cap m : Nat} {d dk : Array α} {os : Array Obj} (h : QRow W base 59 1 (.slice (some ⟨g, off, none⟩) d.size cap) d.size (d.toList.map enc)) (hs : dk.size = d.size) (h0 : 0 < d.size) : QRow (sortWorld enc W g off m dk os) base 59 1 (.slice (some ⟨g, off, none⟩) d.size cap) d.size (dk.toList.map enc) := by
  have hH := q_holds h
  obtain ⟨h1, h2⟩ := h
  refine ⟨by simp [hs], ?_⟩
  rcases h2 with ⟨h0', _⟩ | ⟨g', o, cap', cur, e, hb, hg, hn, hm, hc, ht⟩
  · omega
  · rw [Nat.mul_one] at e ht
    injection e with e1 e2 e3
    injection e1 with e1
    injection e1 with e1 e4
    subst e1
    subst e4
    subst e3
    have hlt := blk_lt hg
    have hH2 := holds_sortWorld enc W g off m d dk os hlt hH hs
    have hblk : ∃ cur', (sortWorld enc W g off m dk os).heap[g]? = some (.cells cur' 59 (0, 0)) ∧ cur'.size = cur.size := by
      refine ⟨putCells enc off dk cur, ?_, by simp [putCells]⟩
      show (((Go.Sort.ahead W m).heap.modify g (onCells (putCells enc off dk))) ++ os)[g]? = _
      have hh : (Go.Sort.ahead W m).heap[g]? = some (.cells cur 59 (0, 0)) := hg
      have hl2 : g < (Go.Sort.ahead W m).heap.size := blk_lt hh
      rw [Array.getElem?_append_left (by rw [Array.size_modify]; exact hl2), Array.getElem?_modify, if_pos rfl, hh]
      rfl
    obtain ⟨cur', g1, g2⟩ := hblk
    refine .inr ⟨g, off, cap, cur', by rw [Nat.mul_one], hb, g1, hn, hm, g2.trans hc, ?_⟩
    rw [Nat.mul_one]
    apply List.ext_getElem?
    intro j
    rw [List.getElem?_take]
    rcases Nat.lt_or_ge j d.size with hj | hj
    · rw [if_pos (by omega), List.getElem?_drop]
      have h3 := (hH2 j (by omega)).1
      rw [blk_cell g1] at h3
      rw [Nat.mul_one, Array.getElem?_toList, h3]
      simp [getElem!_pos dk j (by omega), List.getElem?_map, Array.getElem?_toList, Array.getElem?_eq_getElem (show j < dk.size by omega)]
    · rw [if_neg (by omega), List.getElem?_eq_none (by simp; omega)]
end
set_option maxHeartbeats 1000000 in
/-- The items are sorted, the greatest first. -/
theorem sortN_calls (tab : Nat → Nat) (nd : List Nd) (base : Nat) (its : List Nat) (g off cap : Nat) (w0 W : World) (hN : NodesAt W base tab nd) (hi : ∀ j ∈ its, j < nd.length) (h0 : 0 < its.length) (hl : its.length ≤ 1000) (hQ : QRow W base 59 1 (.slice (some ⟨g, off, none⟩) its.length cap) its.length (ptrs tab its)) (hb : Below base w0 W) (hbase : base ≤ W.heap.size) :
    Calls Try.prog 44 #[.slice (some ⟨g, off, none⟩) its.length cap, .func (.func 45) #[] #[]] W fun e W' => e = .returned (.tuple #[]) ∧ QRow W' base 59 1 (.slice (some ⟨g, off, none⟩) its.length cap) its.length (ptrs tab (srtN nd its)) ∧ NodesAt W' base tab nd ∧ Below base w0 W' := by
  obtain ⟨d, hd⟩ : ∃ d : Array (Fin (nd.length - 1 + 1)), d = (its.map (toF nd.length)).toArray := ⟨_, rfl⟩
  have hds : d.size = its.length := by rw [hd]; simp
  have hde : d.toList.map (encN tab nd.length) = ptrs tab its := by
    rw [hd]
    simp only [List.map_map, ptrs]
    refine List.map_congr_left fun j hj => ?_
    have := hi j hj
    have e : min j (nd.length - 1) = j := by omega
    show Value.pointer (some ⟨tab (min j (nd.length - 1)), 0, none⟩) = _
    rw [e]
  rw [← hds, ← hde] at hQ
  have hgt : ∃ cur, W.heap[g]? = some (.cells cur 59 (0, 0)) := (q_typed hQ g rfl).2
  obtain ⟨cur, hg⟩ := hgt
  have hgb : base ≤ g := (q_typed hQ g rfl).1
  have hH := q_holds hQ
  have hne : ∀ j, j < nd.length → tab j ≠ g := fun j hj => blk_ne (hN j hj).2 hg (by decide)
  have hNs : ∀ (m : Nat) (os : Array Obj) (dk : Array (Fin (nd.length - 1 + 1))), NodesAt (sortWorld (encN tab nd.length) W g off m dk os) base tab nd := fun m os dk => hN.move (fun j hj => by
    show (((Go.Sort.ahead W m).heap.modify g (onCells (putCells (encN tab nd.length) off dk))) ++ os)[tab j]? = _
    have hl2 : tab j < (Go.Sort.ahead W m).heap.size := blk_lt (hN j hj).2
    rw [Array.getElem?_append_left (by rw [Array.size_modify]; exact hl2), Array.getElem?_modify, if_neg (fun e => hne j hj e.symm)]
    rfl)
  have hnd : 0 < nd.length := by
    obtain ⟨j, hj⟩ := List.exists_mem_of_length_pos h0
    have := hi j hj
    omega
  have hcmp : CmpLays1 Try.prog 45 #[] (encN tab nd.length) (cfN nd) g off d.size W := fun m os dk _ x y => by
    have hx : x.val < nd.length := by have := x.isLt; omega
    have hy : y.val < nd.length := by have := y.isLt; omega
    exact cmpN_calls tab nd base x.val y.val _ (hNs m os dk) hx hy
  have := Any.slices_SortFunc_total sortP (encN tab nd.length) (fun _ => rfl) (cfN nd) (swoN nd) 45 #[] g off cap d W (fun args w => enters_ Try.func45 (by kernel_rfl) rfl args w) hcmp hH (blk_lt hg) (by omega) (fun x y h1 h2 => by
    rw [lt_cfN, befN_not] at h1 h2
    exact Fin.ext (by omega))
  change Calls Try.prog 44 _ _ _ at this
  rw [hds] at this
  refine this.mono fun e W' ⟨he, n, os, hw⟩ => ⟨he, ?_, ?_, ?_⟩
  · rw [hw]
    have hsz : (d.toList.mergeSort fun x y => !(ltOf (cfN nd)) y x).toArray.size = d.size := by simp
    have := q_sorted (m := n) (os := os) hQ hsz (by omega)
    rw [hds] at this
    have e2 : ((d.toList.mergeSort fun x y => !(ltOf (cfN nd)) y x).toArray.toList.map (encN tab nd.length)) = ptrs tab (srtN nd its) := by
      rw [← srtN_map nd its hi, hd]
      simp [ptrs, encN, Function.comp_def]
    rw [e2] at this
    exact this
  · rw [hw]; exact hNs _ _ _
  · rw [hw]
    refine hb.trans ⟨rfl, rfl, rfl, ?_, fun q hq => ?_⟩
    · show W.heap.size ≤ (((Go.Sort.ahead W n).heap.modify g _) ++ os).size
      rw [Array.size_append, Array.size_modify]
      exact Nat.le_add_right _ _
    · show (((Go.Sort.ahead W n).heap.modify g _) ++ os)[q]? = _
      have hl2 : q < (Go.Sort.ahead W n).heap.size := by show q < W.heap.size; omega
      rw [Array.getElem?_append_left (by rw [Array.size_modify]; exact hl2), Array.getElem?_modify, if_neg (by omega)]
      rfl
end Go.Proofs.Ytepgcdjbhmpioaa.Fi
