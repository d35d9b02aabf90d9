/- The calls of tug.Greedy. -/
import Derived.Test.YtepgcdjbhmpioaaQTeH4a
import Derived.Test.YtepgcdjbhmpioaaQTeH9g
import Derived.Test.YtepgcdjbhmpioaaQTeH3b
import Derived.Outline
namespace Go.Proofs.Ytepgcdjbhmpioaa.Fi
open Go.RowKit Go.Shelf Go.Lib Go.Sort Go.Proofs.YtepgcdjbhmpioaaW.PrintWords Go.Proofs.YtepgcdjbhmpioaaW.PrintLast Go.Proofs.YtepgcdjbhmpioaaW.PrintMore
set_option linter.unusedVariables false
set_option linter.unusedSimpArgs false
section
variable {ops rest : Array Oper} {o : Oper} {a : Act} {Q : Exit → Act → World → Prop}
theorem run_make_ints {W : World} (a : Act) (o : Oper) (x y : Operand) (ho : o.op = .makeSlice 22 x y) (m : Nat) (hx : a.eval x = .int .i64 (m : Int)) (hy : a.eval y = .int .i64 (m : Int)) (hm : m ≤ 1000) :
    (execOp a.eval o).run Try.prog W = .ok (.value (.slice (some ⟨W.heap.size, 0, none⟩) m m)) (W.alloc (.cells (ints (List.replicate m 0)).toArray 3)) := by
  obtain ⟨i0, hi, hzz⟩ := Option.map_eq_some_iff.1 info3
  simp only [Prod.mk.injEq] at hzz
  obtain ⟨hz0, hz1, hz2⟩ := hzz
  have hr := run_make (P := Try.prog) W 22 3 i0 (.int .i64 0) Try.underlying22 hi hz0 .i64 .i64 (m : Int) (m : Int) (by omega) (by omega) (by rw [hz2]; omega) (by omega)
  simp only [Int.toNat_natCast] at hr
  rw [hz1, Nat.mul_one] at hr
  have e : madeCells (Value.int .i64 0).cells m = (ints (List.replicate m 0)).toArray := by
    apply Array.ext'
    show (madeCells #[Value.int .i64 0] m).toList = _
    rw [toList_madeCells_one]
    simp [ints]
  rw [e] at hr
  simp [execOp, ho, hx, hy, hr]
end
theorem make_event {ops : Array Oper} {rest : List Oper} {o : Oper} {a : Act} {Q : Exit → Act → World → Prop} {W : World} (hgd : o.guard = none) {N : Tmp} (_hd : o.dst = some N) (x y : Operand) (ho : o.op = .makeSlice 22 x y) (m : Nat) (hx : a.eval x = .int .i64 (m : Int)) (hy : a.eval y = .int .i64 (m : Int)) (hm : m ≤ 1000)
    (h : ∀ g, g = W.heap.size → ∀ w1, w1.heap[g]? = some (.cells (ints (List.replicate m 0)).toArray 3 (0, 0)) → Below W.heap.size W w1 → wpList Try.prog ops Q rest (a.put o.dst (.slice (some ⟨g, 0, none⟩) m m)) w1) : wpList Try.prog ops Q (o :: rest) a W :=
  Kd.event_run hgd (run_make_ints a o x y ho m hx hy hm) (h _ rfl _ (blk_new W _) (below_alloc (Below.refl _ _) _))
theorem make_stepG {ops : Array Oper} {o : Oper} {a : Act} {Q : Exit → Act → World → Prop} {Kc : Act → World → Prop} {W : World} (hw : Region.wanted o (yielded ops a.tmps) = true) {N : Tmp} (hd : o.dst = some N) (x y : Operand) (ho : o.op = .makeSlice 22 x y) (m : Nat) (hx : a.eval x = .int .i64 (m : Int)) (hy : a.eval y = .int .i64 (m : Int)) (hm : m ≤ 1000)
    (h : Kc (a.put o.dst (.slice (some ⟨W.heap.size, 0, none⟩) m m)) (W.alloc (.cells (ints (List.replicate m 0)).toArray 3))) : if Region.wanted o (yielded ops a.tmps) = true then Oper.wp Try.prog o a W Kc Q else Kc (a.put o.dst undef) W := by
  rw [if_pos hw]
  have hr := run_make_ints a o x y ho m hx hy hm (W := W)
  unfold Oper.wp
  rw [hr]
  exact h
theorem ints_cell {W : World} {g : Nat} {l : List Int} (h : W.heap[g]? = some (.cells (ints l).toArray 3 (0, 0))) {i : Nat} (hi : i < l.length) : W.cell? ⟨g, i, none⟩ = some (.int .i64 (l.getD i 0)) := by
  rw [blk_cell h i]
  simp [ints, List.getD_eq_getElem?_getD, List.getElem?_eq_getElem hi]
theorem ints_set {W : World} {g : Nat} {l : List Int} (h : W.heap[g]? = some (.cells (ints l).toArray 3 (0, 0))) (i : Nat) (x : Int) : (W.setCell ⟨g, i, none⟩ (.int .i64 x)).heap[g]? = some (.cells (ints (l.set i x)).toArray 3 (0, 0)) := by
  refine blk_put h i _ ?_
  rw [List.setIfInBounds_toArray]
  simp [ints, List.map_set]
/-- A row of ints that fills its block is read by its cells. -/
theorem ints_C {W : World} {g : Nat} {l : List Int} (h : W.heap[g]? = some (.cells (ints l).toArray 3 (0, 0))) (hl : l.length ≤ 1000) : Kd.C (Kd.int .i64) W (some ⟨g, 0, none⟩) l.length l := by
  have hR : TRow W 0 (.slice (some ⟨g, 0, none⟩) l.length l.length) l := ⟨by simp [ints], .inr ⟨g, l.length, _, rfl, Nat.zero_le _, h, Nat.le_refl _, by simp only [maxLen]; omega, by simp [ints], by rw [Nat.mul_one]; exact List.take_of_length_le (by simp [ints])⟩⟩
  exact (Kd.R_reads' hR.R).2.2
theorem ints_row {W : World} {g base : Nat} {l : List Int} (h : W.heap[g]? = some (.cells (ints l).toArray 3 (0, 0))) (hl : l.length ≤ 1000) (hb : base ≤ g) : TRow W base (.slice (some ⟨g, 0, none⟩) l.length l.length) l := ⟨by simp [ints], .inr ⟨g, l.length, _, rfl, hb, h, Nat.le_refl _, by simp only [maxLen]; omega, by simp [ints], by rw [Nat.mul_one]; exact List.take_of_length_le (by simp [ints])⟩⟩
theorem cell_other {α : Type} [Inhabited α] (enc : α → Value) (W : World) (blk off n : Nat) (dk : Array α) (os : Array Obj) (a : Addr) (h1 : a.block ≠ blk) (h2 : a.block < W.heap.size) : (sortWorld enc W blk off n dk os).cell? a = W.cell? a := by
  unfold sortWorld
  rw [cell?_grow _ _ _ (by rw [size_putRow]; exact h2), cell?_putRow_other enc _ blk off dk a (Or.inl h1)]
  rfl
set_option maxHeartbeats 1000000 in
set_option maxRecDepth 100000 in
/-- The closure that compares two places. -/
theorem cmp_calls (gp : Nat) (ad : Addr) (c0 n i j : Nat) (x y : Int) (W : World) (hp : W.cell? ⟨gp, 0, none⟩ = some (.slice (some ad) n c0)) (hi : i < n) (hj : j < n) (hx : W.cell? (ad.add i) = some (.int .i64 x)) (hy : W.cell? (ad.add j) = some (.int .i64 y)) (hw : wrap64 (y - x) = y - x) :
    Calls Try.prog 62 #[.int .i64 (i : Int), .int .i64 (j : Int), .pointer (some ⟨gp, 0, none⟩)] W fun e w' => e = .returned (.int .i64 (y - x)) ∧ ∃ q, w' = W.drewN q := by
  go_enter Try.func62, Try.ntmps62
  go_wp2
  go_quiet (fail)
  go_wp2
  go_ret
  exact ⟨by first | rfl | (simp [hw]; done), _, rfl⟩
theorem cmp_reads (gp : Nat) (ad : Addr) (c0 : Nat) (l : List Int) (blk : Nat) (w : World) (hl : 1 ≤ l.length) (hb : ∀ x ∈ l, 1 ≤ x ∧ x ≤ 1000000) (hp : w.cell? ⟨gp, 0, none⟩ = some (.slice (some ad) l.length c0)) (hc : ∀ k, k < l.length → w.cell? (ad.add k) = some (.int .i64 (l.getD k 0))) (h1 : gp ≠ blk) (h2 : ad.block ≠ blk) :
    CmpReads Try.prog 62 #[.pointer (some ⟨gp, 0, none⟩)] (fun i : Fin (l.length - 1 + 1) => Value.int .i64 ((i.val : Nat) : Int)) (cfP l) blk 0 (allP l).size w := by
  intro m os dk hs x y
  have hx : x.val < l.length := by have := x.isLt; omega
  have hy : y.val < l.length := by have := y.isLt; omega
  have e1 : ∀ a : Addr, a.block ≠ blk → ∀ v, w.cell? a = some v → (sortWorld (fun i : Fin (l.length - 1 + 1) => Value.int .i64 ((i.val : Nat) : Int)) w blk 0 m dk os).cell? a = some v := fun a ha v hv => by
    rw [cell_other _ _ _ _ _ _ _ _ ha (World.block_lt_of_cell? _ _ hv)]
    exact hv
  refine cmp_calls gp ad c0 l.length x.val y.val (l.getD x.val 0) (l.getD y.val 0) _ (e1 _ h1 _ hp) hx hy (e1 _ (by rw [add_block]; exact h2) _ (hc _ hx)) (e1 _ (by rw [add_block]; exact h2) _ (hc _ hy)) ?_
  have := hb _ (getD_mem hx)
  have := hb _ (getD_mem hy)
  exact wrapS (by omega)
/-- The places that are written so far. -/
def ordT (n i : Nat) : List Int := (List.range n).map fun j => if j < i then (j : Int) else 0
theorem ordT_len (n i : Nat) : (ordT n i).length = n := by simp [ordT]
theorem ordT_zero (n : Nat) : ordT n 0 = List.replicate n 0 := by
  unfold ordT
  apply List.ext_getElem <;> simp
theorem ordT_set (n i : Nat) (hi : i < n) : (ordT n i).set i (i : Int) = ordT n (i + 1) := by
  unfold ordT
  apply List.ext_getElem
  · simp
  · intro j h1 h2
    rw [List.getElem_set]
    simp only [List.getElem_map, List.getElem_range]
    by_cases e : i = j
    · subst e; simp
    · rw [if_neg e]
      by_cases h : j < i
      · rw [if_pos h, if_pos (by omega)]
      · rw [if_neg h, if_neg (by omega)]
theorem grownBy_putRow {α : Type} [Inhabited α] (enc : α → Value) (w : World) (blk n : Nat) (d : Array α) : w.grownBy ((putRow enc w blk 0 d).drewN n) (some blk) := by
  refine ⟨rfl, rfl, rfl, by simp, fun k _ hne => ?_⟩
  have hk : ¬ blk = k := fun e => hne (by rw [e])
  show (w.heap.modify blk _)[k]? = _
  rw [Array.getElem?_modify, if_neg hk]
theorem swoP (l : List Int) : SWO (ltOf (cfP l)) where
  irrefl x := by unfold ltOf cfP; simp
  trans x y z h1 h2 := by unfold ltOf cfP at *; simp only [decide_eq_true_eq] at *; omega
  ntrans x y z h1 h2 := by unfold ltOf cfP at *; simp only [decide_eq_false_iff_not] at *; omega
theorem order_size (l : List Int) : (Go.Sort.insertionSort (ltOf (cfP l)) (allP l) 0 (allP l).size).size = (allP l).size := (insertionSort_holds (swoP l) (allP l) 0 (allP l).size (Nat.zero_le _) (Nat.le_refl _)).1.1
theorem allP_size (l : List Int) (h : 1 ≤ l.length) : (allP l).size = l.length := by
  unfold allP
  rw [Array.size_ofFn]
  omega
theorem orderS_length (l : List Int) (h : 1 ≤ l.length) : (orderS l).length = l.length := by
  unfold orderS
  rw [List.length_map, Array.length_toList, order_size, allP_size l h]
theorem order_calls (gO gp : Nat) (ad : Addr) (c0 : Nat) (l : List Int) (w : World) (hl : 1 ≤ l.length) (h19 : l.length ≤ 19) (hb : ∀ x ∈ l, 1 ≤ x ∧ x ≤ 1000000) (BO : w.heap[gO]? = some (.cells (ints (ordT l.length l.length)).toArray 3 (0, 0))) (hp : w.cell? ⟨gp, 0, none⟩ = some (.slice (some ad) l.length c0)) (hc : ∀ k, k < l.length → w.cell? (ad.add k) = some (.int .i64 (l.getD k 0))) (h1 : gp ≠ gO) (h2 : ad.block ≠ gO) :
    Calls Try.prog 61 #[.slice (some ⟨gO, 0, none⟩) l.length l.length, .func (.func 62) #[] #[.pointer (some ⟨gp, 0, none⟩)]] w fun e w' => e = .returned (.tuple #[]) ∧ w.grownBy w' (some gO) ∧ Kd.C (Kd.int .i64) w' (some ⟨gO, 0, none⟩) l.length (toZ (orderS l)) := by
  have hs := allP_size l hl
  have hH : Go.Sort.Holds (fun i : Fin (l.length - 1 + 1) => Value.int .i64 ((i.val : Nat) : Int)) w gO 0 (allP l) := by
    intro j hj
    rw [hs] at hj
    refine ⟨?_, blk_frozen BO _⟩
    rw [Nat.zero_add, ints_cell BO (by rw [ordT_len]; exact hj)]
    have e1 : (ordT l.length l.length).getD j 0 = (j : Int) := by
      rw [List.getD_eq_getElem?_getD, List.getElem?_eq_getElem (by rw [ordT_len]; exact hj)]
      simp [ordT, hj]
    rw [e1]
    have e2 : ((allP l)[j]!).val = j := by
      rw [getElem!_pos _ j (by rw [hs]; exact hj)]
      simp [allP]
    show _ = some (Value.int .i64 (((allP l)[j]!).val : Int))
    rw [e2]
  have := stable_calls (fun i : Fin (l.length - 1 + 1) => Value.int .i64 ((i.val : Nat) : Int)) (fun _ => rfl) (cfP l) 62 #[.pointer (some ⟨gp, 0, none⟩)] gO l.length (allP l) w (fun args w => enters_ Try.func62 (by kernel_rfl) rfl args w) (cmp_reads gp ad c0 l gO w hl hb hp hc h1 h2) hH (by rw [hs]; exact h19)
  rw [show (Value.slice (some ⟨gO, 0, none⟩) (allP l).size l.length) = .slice (some ⟨gO, 0, none⟩) l.length l.length by rw [hs]] at this
  refine this.mono fun e w' ⟨he, n, hw⟩ => ⟨he, ?_, ?_⟩
  · rw [hw]
    exact grownBy_putRow _ _ _ _ _
  · rw [hw]
    have hsz := order_size l
    have hH2 := holds_putRow (fun i : Fin (l.length - 1 + 1) => Value.int .i64 ((i.val : Nat) : Int)) w gO 0 (allP l) (Go.Sort.insertionSort (ltOf (cfP l)) (allP l) 0 (allP l).size) hH hsz
    have hlen := orderS_length l hl
    refine Kd.C_of_reads (enc := Value.int .i64) (d := 0) (h1 := fun _ => rfl) ⟨by rw [toZ_length, hlen], by omega, fun _ => ⟨⟨gO, 0, none⟩, rfl, fun j hj => ?_⟩⟩
    have h3 := (hH2 j (by rw [hsz, hs]; exact hj)).1
    rw [Nat.zero_add] at h3
    have e3 : ((⟨gO, 0, none⟩ : Addr).add j) = ⟨gO, j, none⟩ := by simp [Addr.add]; omega
    rw [e3]
    refine Eq.trans (b := some (Value.int .i64 (((Go.Sort.insertionSort (ltOf (cfP l)) (allP l) 0 (allP l).size)[j]!).val : Int))) h3 ?_
    congr 2
    have hj' : j < (Go.Sort.insertionSort (ltOf (cfP l)) (allP l) 0 (allP l).size).size := by rw [hsz, hs]; exact hj
    rw [getElem!_pos _ j hj']
    simp only [toZ, orderS, List.getD_eq_getElem?_getD, List.getElem?_map, Array.getElem?_toList, Array.getElem?_eq_getElem hj', Option.map_some, Option.getD_some]
theorem index_ev (l : List Int) (x : Int) (hx : x ∈ l) (hl : l.length ≤ 1000) : Ev (fun k => slices_Index_int_int.f k l x) ((l.idxOf x : Nat) : Int) := by
  unfold slices_Index_int_int.f
  have hi := List.idxOf_lt_length_iff.2 hx
  have hat : l.getD (l.idxOf x) 0 = x := by
    rw [List.getD_eq_getElem?_getD, List.getElem?_eq_getElem hi, Option.getD_some, List.getElem_idxOf]
  have key : ∀ d i : Nat, i + d = l.idxOf x → Ev (fun k => slices_Index_int_int.l0 k l x (l.length : Int) (i : Int)) ((l.idxOf x : Nat) : Int) := by
    intro d
    induction d with
    | zero =>
      intro i hd
      obtain rfl : i = l.idxOf x := by omega
      refine Ev.step (f := fun _ => some ((l.idxOf x : Nat) : Int)) (fun k => ?_) (Ev.now _)
      simp only [slices_Index_int_int.l0, rdN]
      rw [if_pos (by omega), if_pos (by omega), if_pos (by omega)]
      exact if_pos hat.symm
    | succ d ih =>
      intro i hd
      have hne : ¬ x = l.getD i 0 := by
        intro e
        have hil : i < l.length := by omega
        have h2 : l[i] = x := by rw [e, List.getD_eq_getElem?_getD, List.getElem?_eq_getElem hil]; rfl
        have h3 : i < l.findIdx (· == x) := by show i < l.idxOf x; omega
        have h4 : (l[i] == x) = false := List.not_of_lt_findIdx h3
        rw [h2] at h4
        simp at h4
      refine Ev.step (fun k => ?_) (ih (i + 1) (by omega))
      simp only [slices_Index_int_int.l0, rdN]
      rw [if_pos (by omega), if_pos (by omega), if_pos (by omega), wrapS (by omega)]
      exact if_neg hne
  exact key (l.idxOf x) 0 (by omega)
/-- What is given after some rounds. -/
def stT (l : List Int) (k i : Nat) : List Int × List Int := ((orderS l).take i).foldl (giveS l) (List.replicate l.length 0, List.replicate k 0)
theorem stT_len (l : List Int) (k : Nat) : ∀ i, (stT l k i).1.length = l.length ∧ (stT l k i).2.length = k := by
  have key : ∀ (os : List Nat) (st : List Int × List Int), (os.foldl (giveS l) st).1.length = st.1.length ∧ (os.foldl (giveS l) st).2.length = st.2.length := by
    intro os
    induction os with
    | nil => intro st; exact ⟨rfl, rfl⟩
    | cons o os ih =>
      intro st
      rw [List.foldl_cons]
      obtain ⟨a, b⟩ := ih (giveS l st o)
      exact ⟨a.trans (by simp [giveS]), b.trans (by simp [giveS])⟩
  intro i
  obtain ⟨a, b⟩ := key ((orderS l).take i) (List.replicate l.length 0, List.replicate k 0)
  exact ⟨a.trans (by simp), b.trans (by simp)⟩
theorem stT_succ (l : List Int) (k i : Nat) (hi : i < (orderS l).length) : stT l k (i + 1) = giveS l (stT l k i) ((orderS l)[i]) := by
  unfold stT
  rw [List.take_add_one, List.getElem?_eq_getElem hi, List.foldl_append]
  rfl
theorem stT_bound (l : List Int) (k : Nat) (hb : ∀ x ∈ l, 1 ≤ x ∧ x ≤ 1000000) : ∀ i, i ≤ (orderS l).length → ∀ x ∈ (stT l k i).2, 0 ≤ x ∧ x ≤ 1000000 * (i : Int) := by
  intro i
  induction i with
  | zero =>
    intro _ x hx
    have : x ∈ List.replicate k (0 : Int) := hx
    rw [(List.mem_replicate.1 this).2]
    simp
  | succ i ih =>
    intro hi x hx
    rw [stT_succ l k i (by omega)] at hx
    have ih' := ih (by omega)
    rcases List.mem_or_eq_of_mem_set hx with h | h
    · have := ih' x h; omega
    · rw [h]
      have h1 : 0 ≤ (stT l k i).2.getD (minAt (stT l k i).2) 0 ∧ (stT l k i).2.getD (minAt (stT l k i).2) 0 ≤ 1000000 * (i : Int) := by
        rw [List.getD_eq_getElem?_getD]
        rcases Nat.lt_or_ge (minAt (stT l k i).2) (stT l k i).2.length with h2 | h2
        · rw [List.getElem?_eq_getElem h2]; exact ih' _ (List.getElem_mem h2)
        · rw [List.getElem?_eq_none h2]; simp only [Option.getD_none]; omega
      have h2 : 0 ≤ l.getD (orderS l)[i] 0 ∧ l.getD (orderS l)[i] 0 ≤ 1000000 := by
        rw [List.getD_eq_getElem?_getD]
        rcases Nat.lt_or_ge (orderS l)[i] l.length with h2 | h2
        · rw [List.getElem?_eq_getElem h2]
          have := hb _ (List.getElem_mem h2)
          simp only [Option.getD_some]
          omega
        · rw [List.getElem?_eq_none h2]; simp
      omega
theorem order_lt (l : List Int) (h : 1 ≤ l.length) : ∀ o ∈ orderS l, o < l.length := by
  intro o ho
  obtain ⟨x, _, rfl⟩ := List.mem_map.1 ho
  have := x.isLt
  omega
set_option maxHeartbeats 2000000 in
set_option maxRecDepth 100000 in
theorem greedy_ok (A0 : Option Addr) (c0 : Nat) (l0 : List Int) (k : Nat) (w : World) (hr0 : Kd.C (Kd.int .i64) w A0 l0.length l0) (hc0 : l0.length ≤ c0) (hok : OkL 14 l0) (hk : 1 ≤ k ∧ k ≤ 4) :
    Calls Try.prog 38 #[.slice A0 l0.length c0, .int .i64 (k : Int)] w fun e w' => ∃ v0_ : Value, e = .returned (.tuple #[.int .i64 (maxT (greedyS k l0).2 k), v0_, .int .i64 0]) ∧ Kd.R (Kd.int .i64) 3 w' w.heap.size (fun _ => True) v0_ (greedyS k l0).1 ∧ Below w.heap.size w w' := by
  obtain ⟨ad, rfl, hcell⟩ := C_int_cell hr0 hok.1
  have HR0 := Aside0.mk hr0
  have HC0 := Aside0.mk hc0
  have HOK := Aside0.mk hok
  have HCE := Aside0.mk hcell
  have CK : Aside0 (tug_check.f l0 ((14 : Nat) : Int) = some 0) := ⟨by rw [check_is 14 (by omega) l0, chk_ok hok]⟩
  have HB := Aside0.mk (Below.refl w.heap.size w)
  have e1 : decide ((k : Int) < 1) = false := decide_eq_false (by omega)
  have e2 : decide (4 < (k : Int)) = false := decide_eq_false (by omega)
  have HK := Aside0.mk hk
  have HN : Aside0 (l0.length ≤ 1000) := ⟨by have := hok.2.1; omega⟩
  clear hr0 hc0 hok hcell hk
  go_enter Try.func38, Try.ntmps38
  go_wp2_with (first | ((with_reducible refine gate_dst (N := 2) rfl ?_); refine box_event ?hg (N := 2) ?hd (cs := #[.slice (some ad) l0.length c0]) (t := 22) ?hr ?_; (case hd => rfl); (case hg => rfl); (case hr => first | (go_simp; done) | (go_simp; rfl)); intro gp hgp w7 hbox hb; have HR1 := Aside0.mk (Kd.C_below HR0.out hb); have BP := Aside0.mk hbox; have HB1 := Aside0.mk (below_step HB.out hb); have GP := Aside0.mk hgp; clear hb hbox hgp; have d1 := blk_cell BP.out 0) | (go_at_call 43; refine (tug_check.calls (some ad) c0 l0 14 0 _ HR1.out HC0.out CK.out).mono ?_; rintro e w8 ⟨rfl, nd, rfl⟩; have HR2 := Aside0.mk (Kd.C_drewN HR1.out nd); have BP2 := Aside0.mk (blk_drewN BP.out nd); have HB2 := Aside0.mk (pw_below_drewN HB1.out nd); clear d1; have d1 := blk_cell BP2.out 0; generalize World.drewN w7 nd = w9 at HR2 BP2 HB2 d1 ⊢) | ((with_reducible refine gate_dst (N := 28) rfl ?_); refine make_event ?hg (N := 28) ?hd (.tmp 27) (.tmp 27) rfl l0.length rfl rfl HN.out ?_; (case hd => rfl); (case hg => rfl); intro gO hgO w10 hbox hb; have BO := Aside0.mk hbox; have HB3 := Aside0.mk (below_step HB2.out hb); have HR3 := Aside0.mk (Kd.C_below HR2.out hb); have BP3 := Aside0.mk (blk_below BP2.out hb); have GO := Aside0.mk hgO; clear hbox hb hgO d1))
  have HGO : Aside0 (w.heap.size ≤ gO) := ⟨by rw [GO.out]; exact HB2.out.size⟩
  have HGP : Aside0 (w.heap.size ≤ gp ∧ gp < gO) := ⟨by rw [GP.out, GO.out]; exact ⟨Nat.le_refl _, by have := blk_lt BP2.out; rw [GP.out] at this; exact this⟩⟩
  rw [← ordT_zero] at BO
  go_loopg [31] l0.length (fun kq v31 wr => ∃ i : Nat, v31 = .int .i64 (i : Int) ∧ Aside0 (i + kq = l0.length) ∧ Aside0 (wr.heap[gO]? = some (.cells (ints (ordT l0.length i)).toArray 3 (0, 0))) ∧ Aside0 (wr.heap[gp]? = some (.cells #[.slice (some ad) l0.length c0] 22 (0, 0))) ∧ Aside0 (Below w.heap.size w wr))
  case atStart => exact ⟨0, rfl, ⟨by omega⟩, BO, BP3, HB3⟩
  case round =>
    clear BO BP3 HB3 HR3 HR2 BP2 HB2
    obtain ⟨i, rfl, HI, BO, BP, HB⟩ := hrel
    cases gk with
    | zero =>
      obtain rfl : i = l0.length := by have := HI.out; omega
      have hd : decide ((l0.length : Int) < (l0.length : Int)) = false := by simp
      have d1 := blk_cell BP.out 0
      have hp2 := HGP.out
      have hadl : ad.block < w.heap.size := by
        have := World.block_lt_of_cell? _ _ (HCE.out 0 HOK.out.1)
        rwa [add_block] at this
      have hadn : ad.block ≠ gO := by have := HGO.out; omega
      have HCW : Aside0 (∀ j, j < l0.length → wr.cell? (ad.add j) = some (.int .i64 (l0.getD j 0))) := ⟨fun j hj => by rw [HB.out.cell (by rw [add_block]; exact hadl)]; exact HCE.out j hj⟩
      have HORD := Aside0.mk (order_calls gO gp ad c0 l0 wr HOK.out.1 (by have := HOK.out.2.1; omega) HOK.out.2.2 BO.out d1 HCW.out (Nat.ne_of_lt hp2.2) hadn)
      have HADL := Aside0.mk hadl
      clear hadl hadn hp2
      go_wp2_with (go_at_call 61; refine HORD.out.mono ?_; rintro e w11 ⟨rfl, hg, hC⟩; have HB11 := Aside0.mk (HB.out.grown hg HB.out.size (fun q hq => by cases hq; exact HGO.out)); have BP11 := Aside0.mk (blk_grown BP.out hg (fun e => by injection e with e; have := HGP.out.2; omega)); have HC11 := Aside0.mk hC; clear hg hC HORD HCW BO BP HB d1)
      have HK1000 : Aside0 (k ≤ 1000) := ⟨by have := HK.out; omega⟩
      refine start_ (n := 7) (S := fun w' => w'.cell? ⟨gp, 0, none⟩ = some (.slice (some ad) l0.length c0)) (ds := []) #[false, false, false, false, false, false, false] (by kernel_rfl) rfl rfl (blk_cell (blk_drew BP11.out) 0) (fun hHeld => ?_)
      refine take_ (i := 0) (N := some 42) (v := ?_) (a' := ?_) #[true, false, false, false, false, false, false] rfl rfl (by kernel_rfl) (fun _ _ _ h => h) (Or.inl ⟨by rfl, ?_⟩) hHeld ?_ ?_
      rotate_left
      · rintro w' s0
        go_simp
        with_reducible rfl
      rotate_left
      · simp only [Act.put, List.setIfInBounds_toArray, List.set_cons_zero, List.set_cons_succ, i64_w, i32_w]
        rfl
      refine pure_ (i := 1) (N := some 43) (v := ?_) (a' := ?_) #[true, true, false, false, false, false, false] rfl rfl (by kernel_rfl) (fun _ _ _ h => h) (Or.inl ⟨by rfl, ?_⟩) ?_ ?_
      rotate_left
      · intro w'
        go_simp
        with_reducible rfl
      rotate_left
      · simp only [Act.put, List.setIfInBounds_toArray, List.set_cons_zero, List.set_cons_succ, i64_w, i32_w]
        rfl
      refine pure_ (i := 3) (N := some 45) (v := ?_) (a' := ?_) #[true, true, false, true, false, false, false] rfl rfl (by kernel_rfl) (fun _ _ _ h => h) (Or.inl ⟨by rfl, ?_⟩) ?_ ?_
      rotate_left
      · intro w'
        go_simp
        with_reducible rfl
      rotate_left
      · simp only [Act.put, List.setIfInBounds_toArray, List.set_cons_zero, List.set_cons_succ, i64_w, i32_w]
        rfl
      refine join_ (σ := Nat × Nat) 1 #[true, true, true, true, true, true, false] (fun s_ => [(44, .slice (some ⟨s_.1, 0, none⟩) l0.length l0.length), (46, .slice (some ⟨s_.2, 0, none⟩) k k), (10, .slice (some ⟨s_.1, 0, none⟩) l0.length l0.length)]) (fun s_ w' => Below w11.heap.size w11 w' ∧ w'.heap[s_.1]? = some (.cells (ints (List.replicate l0.length 0)).toArray 3 (0, 0)) ∧ w'.heap[s_.2]? = some (.cells (ints (List.replicate k 0)).toArray 3 (0, 0)) ∧ s_.1 ≠ s_.2 ∧ w11.heap.size ≤ s_.1 ∧ w11.heap.size ≤ s_.2) ?_ ?_
      rotate_left
      · intro hJ
        refine two_ (i := 2) (j := 4) (Ni := some 44) (Nj := some 46) #[true, true, true, true, false, false, false] #[true, true, false, true, true, false, false] rfl rfl rfl rfl (by kernel_rfl) (by decide) (by decide) (fun K hK => ?_) (fun K hK => ?_)
        · skip
          refine make_stepG (W := w11.drew) (by rfl) (N := 44) rfl (.tmp 43) (.tmp 43) rfl l0.length rfl rfl HN.out ?_
          refine hK.out _ _ (blk_cell (blk_alloc (blk_drew BP11.out) _) 0) (fun hHeld => ?_)
          clear hK K
          refine norm_ (a' := ?_) ?_ ?_
          rotate_left
          · show Act.put _ (some 44) _ = _
            simp only [Act.put, List.setIfInBounds_toArray, List.set_cons_zero, List.set_cons_succ, i64_w, i32_w]
            rfl
          refine pure_ (i := 5) (N := some 10) (v := ?_) (a' := ?_) #[true, true, true, true, false, true, false] rfl rfl (by kernel_rfl) (fun _ _ _ h => h) (Or.inl ⟨by rfl, ?_⟩) ?_ ?_
          rotate_left
          · intro w'
            go_simp
            with_reducible rfl
          rotate_left
          · simp only [Act.put, List.setIfInBounds_toArray, List.set_cons_zero, List.set_cons_succ, i64_w, i32_w]
            rfl
          refine one_ (i := 4) (N := some 46) #[true, true, true, true, true, true, false] rfl rfl (by kernel_rfl) (by decide) (fun K hK => ?_)
          refine make_stepG (W := w11.drew.alloc (.cells (ints (List.replicate l0.length 0)).toArray 3)) (by rfl) (N := 46) rfl (.tmp 45) (.tmp 45) rfl k rfl rfl HK1000.out ?_
          refine hK.out _ _ (blk_cell (blk_alloc (blk_alloc (blk_drew BP11.out) _) _) 0) (fun hHeld => ?_)
          clear hK K
          refine norm_ (a' := ?_) ?_ ?_
          rotate_left
          · show Act.put _ (some 46) _ = _
            simp only [Act.put, List.setIfInBounds_toArray, List.set_cons_zero, List.set_cons_succ, i64_w, i32_w]
            rfl
          have hsz : (0 : Nat) = 0 := rfl
          exact norm_ (by first | (simp only [putAll, Act.put, List.setIfInBounds_toArray, List.set_cons_zero, List.set_cons_succ, hsz]; done) | (simp only [putAll, Act.put, List.setIfInBounds_toArray, List.set_cons_zero, List.set_cons_succ, hsz]; rfl) | (simp only [putAll, Act.put, List.setIfInBounds_toArray, List.set_cons_zero, List.set_cons_succ]; done) | (simp only [putAll, Act.put, List.setIfInBounds_toArray, List.set_cons_zero, List.set_cons_succ]; rfl)) (hJ (w11.drew.heap.size, (w11.drew.alloc (.cells (ints (List.replicate l0.length 0)).toArray 3)).heap.size) _ ⟨below_alloc (below_alloc (below_drew1 (Below.refl _ _)) _) _, blk_alloc (blk_new w11.drew _) _, blk_new _ _, (by simp), Nat.le_refl _, (by simp)⟩)
        · skip
          refine make_stepG (W := w11.drew) (by rfl) (N := 46) rfl (.tmp 45) (.tmp 45) rfl k rfl rfl HK1000.out ?_
          refine hK.out _ _ (blk_cell (blk_alloc (blk_drew BP11.out) _) 0) (fun hHeld => ?_)
          clear hK K
          refine norm_ (a' := ?_) ?_ ?_
          rotate_left
          · show Act.put _ (some 46) _ = _
            simp only [Act.put, List.setIfInBounds_toArray, List.set_cons_zero, List.set_cons_succ, i64_w, i32_w]
            rfl
          refine one_ (i := 2) (N := some 44) #[true, true, true, true, true, false, false] rfl rfl (by kernel_rfl) (by decide) (fun K hK => ?_)
          refine make_stepG (W := w11.drew.alloc (.cells (ints (List.replicate k 0)).toArray 3)) (by rfl) (N := 44) rfl (.tmp 43) (.tmp 43) rfl l0.length rfl rfl HN.out ?_
          refine hK.out _ _ (blk_cell (blk_alloc (blk_alloc (blk_drew BP11.out) _) _) 0) (fun hHeld => ?_)
          clear hK K
          refine norm_ (a' := ?_) ?_ ?_
          rotate_left
          · show Act.put _ (some 44) _ = _
            simp only [Act.put, List.setIfInBounds_toArray, List.set_cons_zero, List.set_cons_succ, i64_w, i32_w]
            rfl
          refine pure_ (i := 5) (N := some 10) (v := ?_) (a' := ?_) #[true, true, true, true, true, true, false] rfl rfl (by kernel_rfl) (fun _ _ _ h => h) (Or.inl ⟨by rfl, ?_⟩) ?_ ?_
          rotate_left
          · intro w'
            go_simp
            with_reducible rfl
          rotate_left
          · simp only [Act.put, List.setIfInBounds_toArray, List.set_cons_zero, List.set_cons_succ, i64_w, i32_w]
            rfl
          have hsz : (w11.drew.alloc (.cells (ints (List.replicate k 0)).toArray 3)).heap.size = w11.heap.size + 1 := by simp
          exact norm_ (by first | (simp only [putAll, Act.put, List.setIfInBounds_toArray, List.set_cons_zero, List.set_cons_succ, hsz]; done) | (simp only [putAll, Act.put, List.setIfInBounds_toArray, List.set_cons_zero, List.set_cons_succ, hsz]; rfl) | (simp only [putAll, Act.put, List.setIfInBounds_toArray, List.set_cons_zero, List.set_cons_succ]; done) | (simp only [putAll, Act.put, List.setIfInBounds_toArray, List.set_cons_zero, List.set_cons_succ]; rfl)) (hJ (w11.heap.size + 1, w11.drew.heap.size) _ ⟨below_alloc (below_alloc (below_drew1 (Below.refl _ _)) _) _, by rw [← hsz]; exact blk_new _ _, blk_alloc (blk_new w11.drew _) _, (by simp), (by simp), Nat.le_refl _⟩)
      rintro ⟨go, gs⟩ w12 ⟨f1, f2, f3, f4, f5, f6⟩
      have HF := Aside0.mk f1
      have BU := Aside0.mk f2
      have BS := Aside0.mk f3
      have HNE := Aside0.mk f4
      have HGO2 := Aside0.mk f5
      have HGS := Aside0.mk f6
      simp only at BU BS HNE HGO2 HGS
      clear f1 f2 f3 f4 f5 f6 hHeld
      refine norm_ (a' := ?_) ?_ ?_
      rotate_left
      · simp only [putAll, Act.put, List.setIfInBounds_toArray, List.set_cons_zero, List.set_cons_succ]
        rfl
      refine pure_ (i := 6) (N := some 11) (v := ?_) (a' := ?_) #[true, true, true, true, true, true, true] rfl rfl (by kernel_rfl) (fun _ _ _ h => h) (Or.inl ⟨by rfl, ?_⟩) ?_ ?_
      rotate_left
      · intro w'
        go_simp
        with_reducible rfl
      rotate_left
      · simp only [Act.put, List.setIfInBounds_toArray, List.set_cons_zero, List.set_cons_succ, i64_w, i32_w]
        rfl
      refine done_ (by kernel_rfl) ?_
      go_wp2
      have HGO3 := HGO2
      clear HGO2
      go_loopg [49] l0.length (fun kq v49 wv => ∃ i : Nat, v49 = .int .i64 (i : Int) ∧ Aside0 (i + kq = l0.length) ∧ Aside0 (wv.heap[go]? = some (.cells (ints (stT l0 k i).1).toArray 3 (0, 0))) ∧ Aside0 (wv.heap[gs]? = some (.cells (ints (stT l0 k i).2).toArray 3 (0, 0))) ∧ Aside0 (Below w11.heap.size w11 wv))
      case atStart => exact ⟨0, rfl, ⟨by omega⟩, BU, BS, HF⟩
      case round =>
        clear BU BS HF
        obtain ⟨i, rfl, HI, BU, BS, HF⟩ := hrel
        have HLEN := Aside0.mk (stT_len l0 k i)
        have HOL : Aside0 ((orderS l0).length = l0.length) := ⟨orderS_length l0 HOK.out.1⟩
        obtain ⟨so, hso⟩ : ∃ s, s = (stT l0 k i).1 := ⟨_, rfl⟩
        obtain ⟨su, hsu⟩ : ∃ s, s = (stT l0 k i).2 := ⟨_, rfl⟩
        rw [← hso] at BU
        rw [← hsu] at BS
        have hlo : so.length = l0.length := by rw [hso]; exact (stT_len l0 k i).1
        have hlu : su.length = k := by rw [hsu]; exact (stT_len l0 k i).2
        have HSO := Aside0.mk hso
        have HSU := Aside0.mk hsu
        have HLO := Aside0.mk hlo
        have HLU := Aside0.mk hlu
        have hC : ∀ m, Kd.C (Kd.int .i64) (wr.drewN m) (some ⟨gs, 0, none⟩) su.length su := fun m => Kd.C_drewN (ints_C BS.out (by have := HK1000.out; omega)) m
        have HC2 := Aside0.mk hC
        clear hso hsu hlo hlu hC
        cases gk with
        | zero =>
          obtain rfl : i = l0.length := by have := HI.out; omega
          have hd : decide ((l0.length : Int) < (l0.length : Int)) = false := by simp
          have HMX : Aside0 (Calls Try.prog 52 #[.slice (some ⟨gs, 0, none⟩) k k] wr fun e w' => e = .returned (.int .i64 (maxT su k)) ∧ Drawn0 wr w') := ⟨by
            have := slices_Max_int_int.calls (some ⟨gs, 0, none⟩) k su (maxT su su.length) wr (HC2.out 0) (by rw [HLU.out]; exact Nat.le_refl _) (by unfold slices_Max_int_int.f; rw [if_pos ⟨by rw [HLU.out]; exact HK.out.1, by rw [HLU.out]; have := HK1000.out; omega⟩])
            rwa [HLU.out] at this⟩
          go_wp2_with (go_at_call 52; refine HMX.out.mono ?_; rintro e w13 ⟨rfl, nd, rfl⟩)
          go_ret3
          have hst : stT l0 k l0.length = greedyS k l0 := by
            unfold stT greedyS
            rw [List.take_of_length_le (by rw [HOL.out]; exact Nat.le_refl _)]
          have h1 := HSO.out
          have h2 := HSU.out
          rw [hst] at h1 h2
          rw [h2, ← h1]
          have hrow := ints_row BU.out (by rw [HLO.out]; exact HN.out) (Nat.le_trans HB11.out.size HGO3.out)
          rw [HLO.out] at hrow
          exact ⟨_, rfl, (TRow.R hrow), pw_below_drewN (below_step HB11.out HF.out) _⟩
        | succ kq =>
          have hin : i < l0.length := by have := HI.out; omega
          have hd : decide ((i : Int) < (l0.length : Int)) = true := decide_eq_true (by omega)
          obtain ⟨o, ho⟩ : ∃ o, o = (orderS l0)[i]'(by rw [HOL.out]; exact hin) := ⟨_, rfl⟩
          have HO := Aside0.mk ho
          have hol : o < l0.length := by rw [ho]; exact order_lt l0 HOK.out.1 _ (List.getElem_mem _)
          have hoc : wr.cell? ⟨gO, i, none⟩ = some (.int .i64 (o : Int)) := by
            have h := ReadsOf.at_ (Kd.reads_of_C (enc := Value.int .i64) (d := (0 : Int)) (h1 := fun _ => rfl) (Kd.C_below HC11.out HF.out)) (i : Int) (by omega) (by omega)
            obtain ⟨ad', h1, h2⟩ := h
            cases h1
            have e3 : ((⟨gO, 0, none⟩ : Addr).add i) = ⟨gO, i, none⟩ := by simp [Addr.add]; omega
            rw [show ((i : Int)).toNat = i from rfl, e3] at h2
            rw [h2, ho]
            have hlt : i < (orderS l0).length := by rw [HOL.out]; exact hin
            simp [rdOf, toZ, List.getD_eq_getElem?_getD, List.getElem?_eq_getElem hlt]
          obtain ⟨tt, htt⟩ : ∃ t, t = minAt su := ⟨_, rfl⟩
          have hsu0 : 0 < su.length := by rw [HLU.out]; exact HK.out.1
          have hmin := (minT_spec hsu0).2
          have httk : tt < k := by rw [htt, ← HLU.out]; exact List.idxOf_lt_length_iff.2 hmin
          obtain ⟨kk, hkk⟩ := (index_ev su (minT su su.length) hmin (by rw [HLU.out]; exact HK1000.out)).rounds
          have HMN : Aside0 (Calls Try.prog 56 #[.slice (some ⟨gs, 0, none⟩) k k] wr fun e w' => e = .returned (.int .i64 (minT su k)) ∧ Drawn0 wr w') := ⟨by
            have := slices_Min_int_int.calls (some ⟨gs, 0, none⟩) k su (minT su su.length) wr (HC2.out 0) (by rw [HLU.out]; exact Nat.le_refl _) (by unfold slices_Min_int_int.f; rw [if_pos ⟨hsu0, by rw [HLU.out]; have := HK1000.out; omega⟩])
            rwa [HLU.out] at this⟩
          have HIX : Aside0 (∀ m, Calls Try.prog 63 #[.slice (some ⟨gs, 0, none⟩) k k, .int .i64 (minT su k)] (wr.drewN m) fun e w' => e = .returned (.int .i64 (tt : Int)) ∧ Drawn0 (wr.drewN m) w') := ⟨fun m => by
            have := slices_Index_int_int.calls kk (some ⟨gs, 0, none⟩) k su (minT su su.length) ((minAt su : Nat) : Int) (wr.drewN m) (HC2.out m) (by rw [HLU.out]; exact Nat.le_refl _) hkk
            rw [← htt] at this
            rwa [HLU.out] at this⟩
          have HTT := Aside0.mk htt
          have HO2 := Aside0.mk hol
          have HTK := Aside0.mk httk
          have sco := ints_cell BU.out (i := o) (by rw [HLO.out]; exact hol)
          have fzo := blk_frozen BU.out o
          clear htt hkk hsu0 hmin ho
          go_wp2_with (first | (go_at_call 56; refine HMN.out.mono ?_; rintro e w13 ⟨rfl, nd, rfl⟩) | (go_at_call 63; refine (HIX.out nd).mono ?_; rintro e w14 ⟨rfl, ne, rfl⟩; have sco : ((wr.drewN nd).drewN ne).cell? ⟨go, o, none⟩ = _ := sco; have fzo : ((wr.drewN nd).drewN ne).frozen? ⟨go, o, none⟩ = _ := fzo))
          have HGG := HNE.out
          have BU1 : Aside0 (((wr.drewN (nd + ne)).setCell ⟨go, o, none⟩ (.int .i64 (tt : Int))).heap[go]? = some (.cells (ints (so.set o (tt : Int))).toArray 3 (0, 0))) := ⟨ints_set (blk_drewN BU.out _) o _⟩
          have BS1 : Aside0 (((wr.drewN (nd + ne)).setCell ⟨go, o, none⟩ (.int .i64 (tt : Int))).heap[gs]? = some (.cells (ints su).toArray 3 (0, 0))) := ⟨blk_far (blk_drewN BS.out _) (fun e => HGG e.symm) _⟩
          have HF1 : Aside0 (Below w11.heap.size w11 ((wr.drewN (nd + ne)).setCell ⟨go, o, none⟩ (.int .i64 (tt : Int)))) := ⟨below_set (pw_below_drewN HF.out _) HGO3.out⟩
          generalize (wr.drewN (nd + ne)).setCell ⟨go, o, none⟩ (.int .i64 (tt : Int)) = w1 at BU1 BS1 HF1 ⊢
          obtain ⟨x, hx⟩ : ∃ x, x = su.getD tt 0 := ⟨_, rfl⟩
          obtain ⟨y, hy⟩ : ∃ y, y = l0.getD o 0 := ⟨_, rfl⟩
          have sct := ints_cell BS1.out (i := tt) (by rw [HLU.out]; exact HTK.out)
          rw [← hx] at sct
          have fzt := blk_frozen BS1.out tt
          have d1 : w1.cell? ⟨gp, 0, none⟩ = some (.slice (some ad) l0.length c0) := blk_cell (blk_below BP11.out HF1.out) 0
          have d4 : w1.cell? (ad.add o) = some (.int .i64 y) := by
            rw [(below_step HB11.out HF1.out).cell (by rw [add_block]; exact HADL.out), hy]
            exact HCE.out o HO2.out
          have hw2 : wrap64 (x + y) = x + y := wrapS (by
            have h1 := stT_bound l0 k HOK.out.2.2 i (by rw [HOL.out]; omega) x (by rw [← HSU.out, hx]; exact getD_mem (by rw [HLU.out]; exact HTK.out))
            have h2 := HOK.out.2.2 y (by rw [hy]; exact getD_mem HO2.out)
            have h3 := HN.out
            omega)
          have hw1 : wrap64 ((i : Int) + 1) = ((i + 1 : Nat) : Int) := wrapS (by have := HN.out; omega)
          have HX := Aside0.mk hx
          have HY := Aside0.mk hy
          have hk2 := HTK.out
          have ho2 := HO2.out
          clear hx hy HGG BU BS sco fzo hoc hol httk
          refine start_ (n := 11) (S := fun w' => w'.cell? ⟨gs, tt, none⟩ = some (.int .i64 x) ∧ w'.cell? ⟨gp, 0, none⟩ = some (.slice (some ad) l0.length c0) ∧ w'.cell? (ad.add o) = some (.int .i64 y)) (ds := [10]) #[false, false, false, false, false, false, false, false, false, false, false] (by kernel_rfl) rfl rfl ⟨sct, d1, d4⟩ (fun hHeld => ?_)
          refine pure_ (i := 0) (N := some 61) (v := ?_) (a' := ?_) #[true, false, false, false, false, false, false, false, false, false, false] rfl rfl (by kernel_rfl) (fun _ _ _ h => h) (Or.inl ⟨by rfl, ?_⟩) ?_ ?_
          rotate_left
          · intro w'
            go_simp
            with_reducible rfl
          rotate_left
          · simp only [Act.put, List.setIfInBounds_toArray, List.set_cons_zero, List.set_cons_succ, i64_w, i32_w]
            rfl
          refine pure_ (i := 1) (N := some 62) (v := ?_) (a' := ?_) #[true, true, false, false, false, false, false, false, false, false, false] rfl rfl (by kernel_rfl) (fun _ _ _ h => h) (Or.inl ⟨by rfl, ?_⟩) ?_ ?_
          rotate_left
          · intro w'
            go_simp
            with_reducible rfl
          rotate_left
          · simp only [Act.put, List.setIfInBounds_toArray, List.set_cons_zero, List.set_cons_succ, i64_w, i32_w]
            rfl
          refine pure_ (i := 2) (N := some 63) (v := ?_) (a' := ?_) #[true, true, true, false, false, false, false, false, false, false, false] rfl rfl (by kernel_rfl) (fun _ _ _ h => h) (Or.inl ⟨by rfl, ?_⟩) ?_ ?_
          rotate_left
          · intro w'
            go_simp
            with_reducible rfl
          rotate_left
          · simp only [Act.put, List.setIfInBounds_toArray, List.set_cons_zero, List.set_cons_succ, i64_w, i32_w]
            rfl
          refine pure_ (i := 5) (N := some 66) (v := ?_) (a' := ?_) #[true, true, true, false, false, true, false, false, false, false, false] rfl rfl (by kernel_rfl) (fun _ _ _ h => h) (Or.inl ⟨by rfl, ?_⟩) ?_ ?_
          rotate_left
          · intro w'
            go_simp
            with_reducible rfl
          rotate_left
          · simp only [Act.put, List.setIfInBounds_toArray, List.set_cons_zero, List.set_cons_succ, i64_w, i32_w]
            rfl
          refine take_ (i := 3) (N := some 64) (v := ?_) (a' := ?_) #[true, true, true, true, false, true, false, false, false, false, false] rfl rfl (by kernel_rfl) (fun _ _ _ h => h) (Or.inl ⟨by rfl, ?_⟩) hHeld ?_ ?_
          rotate_left
          · rintro w' ⟨s0, s1, s2⟩
            go_simp
            with_reducible rfl
          rotate_left
          · simp only [Act.put, List.setIfInBounds_toArray, List.set_cons_zero, List.set_cons_succ, i64_w, i32_w]
            rfl
          refine take_ (i := 4) (N := some 65) (v := ?_) (a' := ?_) #[true, true, true, true, true, true, false, false, false, false, false] rfl rfl (by kernel_rfl) (fun _ _ _ h => h) (Or.inl ⟨by rfl, ?_⟩) hHeld ?_ ?_
          rotate_left
          · rintro w' ⟨s0, s1, s2⟩
            go_simp
            with_reducible rfl
          rotate_left
          · simp only [Act.put, List.setIfInBounds_toArray, List.set_cons_zero, List.set_cons_succ, i64_w, i32_w]
            rfl
          refine pure_ (i := 6) (N := some 67) (v := ?_) (a' := ?_) #[true, true, true, true, true, true, true, false, false, false, false] rfl rfl (by kernel_rfl) (fun _ _ _ h => h) (Or.inl ⟨by rfl, ?_⟩) ?_ ?_
          rotate_left
          · intro w'
            go_simp
            with_reducible rfl
          rotate_left
          · simp only [Act.put, List.setIfInBounds_toArray, List.set_cons_zero, List.set_cons_succ, i64_w, i32_w]
            rfl
          refine take_ (i := 7) (N := some 68) (v := ?_) (a' := ?_) #[true, true, true, true, true, true, true, true, false, false, false] rfl rfl (by kernel_rfl) (fun _ _ _ h => h) (Or.inl ⟨by rfl, ?_⟩) hHeld ?_ ?_
          rotate_left
          · rintro w' ⟨s0, s1, s2⟩
            go_simp
            with_reducible rfl
          rotate_left
          · simp only [Act.put, List.setIfInBounds_toArray, List.set_cons_zero, List.set_cons_succ, i64_w, i32_w]
            rfl
          refine pure_ (i := 8) (N := some 69) (v := ?_) (a' := ?_) #[true, true, true, true, true, true, true, true, true, false, false] rfl rfl (by kernel_rfl) (fun _ _ _ h => h) (Or.inl ⟨by rfl, ?_⟩) ?_ ?_
          rotate_left
          · intro w'
            go_simp
            with_reducible rfl
          rotate_left
          · simp only [Act.put, List.setIfInBounds_toArray, List.set_cons_zero, List.set_cons_succ, i64_w, i32_w]
            rfl
          refine pure_ (i := 9) (N := some 70) (v := ?_) (a' := ?_) #[true, true, true, true, true, true, true, true, true, true, false] rfl rfl (by kernel_rfl) (fun _ _ _ h => h) (Or.inl ⟨by rfl, ?_⟩) ?_ ?_
          rotate_left
          · intro w'
            go_simp
            with_reducible rfl
          rotate_left
          · simp only [Act.put, List.setIfInBounds_toArray, List.set_cons_zero, List.set_cons_succ, i64_w, i32_w]
            rfl
          refine last_ (i := 10) (N := none) #[true, true, true, true, true, true, true, true, true, true, true] rfl rfl (by kernel_rfl) (by decide) (fun K hK => ?_)
          refine skip_ (w1 := ?_) (by rfl) rfl ?_ ?_
          rotate_left
          · go_simp
            rfl
          refine hK.out _ _ ?_
          clear hK K
          refine done_ (by kernel_rfl) ?_
          have hst : stT l0 k (i + 1) = (so.set o (tt : Int), su.set tt (x + y)) := by
            rw [stT_succ l0 k i (by rw [HOL.out]; exact hin), ← HO.out]
            unfold giveS
            rw [← HSO.out, ← HSU.out, ← HTT.out, HX.out, HY.out]
          go_wp2
          go_roundg kq
          case measure => have := HI.out; omega
          case rel => exact ⟨i + 1, by first | rfl | rw [hw1], ⟨by have := HI.out; omega⟩, ⟨by rw [hst]; exact blk_drew (blk_far BU1.out HNE.out _)⟩, ⟨by rw [hst]; exact blk_drew (ints_set BS1.out tt _)⟩, ⟨below_drew1 (below_set HF1.out HGS.out)⟩⟩
    | succ kq =>
      have hd : decide ((i : Int) < (l0.length : Int)) = true := decide_eq_true (by have := HI.out; omega)
      have hin : i < l0.length := by have := HI.out; omega
      have sc := ints_cell BO.out (i := i) (by rw [ordT_len]; exact hin)
      have fz := blk_frozen BO.out i
      have hw1 : wrap64 ((i : Int) + 1) = ((i + 1 : Nat) : Int) := wrapS (by have := HN.out; omega)
      go_wp2
      go_roundg kq
      case measure => have := HI.out; omega
      case rel => exact ⟨i + 1, by first | rfl | rw [hw1], ⟨by have := HI.out; omega⟩, ⟨by rw [← ordT_set _ _ hin]; exact ints_set BO.out i _⟩, ⟨blk_far BP.out (by have := HGP.out.2; exact Nat.ne_of_lt this) _⟩, ⟨below_set HB.out HGO.out⟩⟩
end Go.Proofs.Ytepgcdjbhmpioaa.Fi
