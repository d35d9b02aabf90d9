/- The calls of tug.Differencing. -/
import Derived.Test.YtepgcdjbhmpioaaQTeH5b
namespace Go.Proofs.Ytepgcdjbhmpioaa.Fi
open Go.RowKit Go.Shelf Go.Lib Go.Sort Go.Proofs.YtepgcdjbhmpioaaW.PrintWords Go.Proofs.YtepgcdjbhmpioaaW.PrintLast Go.Proofs.YtepgcdjbhmpioaaW.PrintMore
set_option linter.unusedVariables false
set_option linter.unusedSimpArgs false
theorem info59 : (Try.prog.info? 59).map (fun i => (i.zero, i.size, i.bytes)) = some (some (.pointer none), 1, 8) := by kernel_rfl
theorem app_run (W : World) (base : Nat) (v : Value) (xs : List Value) (u : Value) (g1 : Nat) (hu : W.cell? ⟨g1, 0, none⟩ = some u) (h1 : u.oneCell' = true) (HO : QRow W base 59 1 v xs.length xs) (hbase : base ≤ W.heap.size) (hl : xs.length ≤ 1000) :
    ∃ v1 w1, (Builtin.append_ #[58, 58] 58 #[v, .slice (some ⟨g1, 0, none⟩) 1 1]).run Try.prog W = .ok v1 w1 ∧ QRow w1 base 59 1 v1 (xs.length + 1) (xs ++ [u]) ∧ W.grownBy w1 v.ownBlock ∧ (v1.ownBlock = v.ownBlock ∨ ∃ b, v1.ownBlock = some b ∧ W.heap.size ≤ b) := by
  obtain ⟨i0, hi, hzz⟩ := Option.map_eq_some_iff.1 info59
  simp only [Prod.mk.injEq] at hzz
  obtain ⟨hz0, hz1, hz2⟩ := hzz
  exact q_append W base 58 58 59 i0 (.pointer none) 1 8 Try.underlying58 hi hz0 hz1 hz2 rfl (by decide) v xs.length xs HO ⟨g1, 0, none⟩ 1 1 [u] (by simp) (fun j w hj => by
    match j, hj with
    | 0, hj =>
      simp at hj
      subst hj
      exact hu) (by simpa using h1) (by decide) (by simp only [maxLen]; omega) (by omega) hbase
theorem app_event {ops : Array Oper} {rest : List Oper} {o : Oper} {a : Act} {Q : Exit → Act → World → Prop} {W : World} (hgd : o.guard = none) (s x : Operand) (ho : o.op = .call { callee := .builtin .append, args := #[s, x], argTypes := #[58, 58] }) (hty : o.type = 58) (base : Nat) (v : Value) (xs : List Value) (u : Value) (g1 : Nat) (hs : a.eval s = v) (hx : a.eval x = .slice (some ⟨g1, 0, none⟩) 1 1) (hu : W.cell? ⟨g1, 0, none⟩ = some u) (h1 : u.oneCell' = true) (HO : QRow W base 59 1 v xs.length xs) (hbase : base ≤ W.heap.size) (hl : xs.length ≤ 1000)
    (h : ∀ v1 w1, QRow w1 base 59 1 v1 (xs.length + 1) (xs ++ [u]) → W.grownBy w1 v.ownBlock → (v1.ownBlock = v.ownBlock ∨ ∃ b, v1.ownBlock = some b ∧ W.heap.size ≤ b) → wpList Try.prog ops Q rest (a.put o.dst v1) w1) : wpList Try.prog ops Q (o :: rest) a W := by
  obtain ⟨v1, w1, hr, h2, h3, h4⟩ := app_run W base v xs u g1 hu h1 HO hbase hl
  refine Kd.event_run hgd (v := v1) (w1 := w1) ?_ (h v1 w1 h2 h3 h4)
  unfold execOp
  simp only [ho, hty, resolve, invoke, builtin, Sem.run_bind, Sem.run_pure, Result.andThen_ok, List.map_toArray, List.map_cons, List.map_nil, hs, hx, hr]
theorem app_step {ops : Array Oper} {o : Oper} {a : Act} {Q : Exit → Act → World → Prop} {Kc : Act → World → Prop} {W : World} (hw : Region.wanted o (yielded ops a.tmps) = true) (hty : o.type = 58) (s x : Operand) (ho : o.op = .call { callee := .builtin .append, args := #[s, x], argTypes := #[58, 58] }) (base : Nat) (v : Value) (xs : List Value) (u : Value) (g1 : Nat) (hs : a.eval s = v) (hx : a.eval x = .slice (some ⟨g1, 0, none⟩) 1 1) (hu : W.cell? ⟨g1, 0, none⟩ = some u) (h1 : u.oneCell' = true) (HO : QRow W base 59 1 v xs.length xs) (hbase : base ≤ W.heap.size) (hl : xs.length ≤ 1000)
    (h : ∀ v1 w1, QRow w1 base 59 1 v1 (xs.length + 1) (xs ++ [u]) → W.grownBy w1 v.ownBlock → (v1.ownBlock = v.ownBlock ∨ ∃ b, v1.ownBlock = some b ∧ W.heap.size ≤ b) → Kc (a.put o.dst v1) w1) : if Region.wanted o (yielded ops a.tmps) = true then Oper.wp Try.prog o a W Kc Q else Kc (a.put o.dst undef) W := by
  rw [if_pos hw]
  obtain ⟨v1, w1, hr, h2, h3, h4⟩ := app_run W base v xs u g1 hu h1 HO hbase hl
  unfold Oper.wp execOp
  simp only [ho, hty, resolve, invoke, builtin, Sem.run_bind, Sem.run_pure, Result.andThen_ok, List.map_toArray, List.map_cons, List.map_nil, hs, hx, hr]
  exact h v1 w1 h2 h3 h4
theorem ptrs_length (tab : Nat → Nat) (its : List Nat) : (ptrs tab its).length = its.length := by simp [ptrs]
theorem leaves_take_getD (l : List Int) (i j : Nat) (h : j < i) (hi : i ≤ l.length) : (leaves (l.take i)).getD j default = ⟨l.getD j 0, none⟩ := by
  unfold leaves
  rw [List.getD_eq_getElem?_getD, List.getElem?_map, List.getElem?_take, if_pos h, List.getElem?_eq_getElem (by omega), List.getD_eq_getElem?_getD, List.getElem?_eq_getElem (by omega)]
  rfl
theorem leaves_length (l : List Int) : (leaves l).length = l.length := by simp [leaves]
/-- One more pull has become an item. -/
theorem leaf_next {w0b : Nat} {W W2 w1 : World} {tab : Nat → Nat} {l : List Int} {i : Nat} {v v1 : Value} (hi : i < l.length) (hN : NodesAt W w0b tab (leaves (l.take i))) (hQ : QRow W w0b 59 1 v i (ptrs tab (List.range i))) (hb0 : w0b ≤ W.heap.size)
    (hW2 : W2 = (W.alloc (.cells #[.int .i64 (l.getD i 0), .int .i64 (i : Int), .int .i64 (i : Int), .pointer none, .pointer none] 63)).alloc (.cells #[.pointer (some ⟨W.heap.size, 0, none⟩)] 59))
    (hQ1 : QRow w1 w0b 59 1 v1 ((ptrs tab (List.range i)).length + 1) (ptrs tab (List.range i) ++ [.pointer (some ⟨W.heap.size, 0, none⟩)])) (hg : W2.grownBy w1 v.ownBlock) :
    ∃ tab', NodesAt w1 w0b tab' (leaves (l.take (i + 1))) ∧ QRow w1 w0b 59 1 v1 (i + 1) (ptrs tab' (List.range (i + 1))) := by
  refine ⟨fun j => if j = i then W.heap.size else tab j, fun j hj => ?_, ?_⟩
  · rw [leaves_length, List.length_take] at hj
    rw [leaves_take_getD l (i + 1) j (by omega) (by omega)]
    have hold : ∀ q o, W.heap[q]? = some o → W2.heap[q]? = some o := fun q o h => by rw [hW2]; exact blk_alloc (blk_alloc h _) _
    by_cases e : j = i
    · subst e
      simp only [if_true]
      refine ⟨hb0, ?_⟩
      have h1 : W2.heap[W.heap.size]? = some (.cells #[.int .i64 (l.getD j 0), .int .i64 (j : Int), .int .i64 (j : Int), .pointer none, .pointer none] 63 (0, 0)) := by rw [hW2]; exact blk_alloc (blk_new W _) _
      exact blk_grown h1 hg (fun e => by have := q_lt hQ _ e.symm; omega)
    · simp only [if_neg e]
      have hj' : j < i := by omega
      obtain ⟨a1, a2⟩ := hN j (by rw [leaves_length, List.length_take]; omega)
      rw [leaves_take_getD l i j hj' (by omega)] at a2
      refine ⟨a1, ?_⟩
      have h2 : ndCells (fun j => if j = i then W.heap.size else tab j) ⟨l.getD j 0, none⟩ j = ndCells tab ⟨l.getD j 0, none⟩ j := rfl
      rw [h2]
      refine blk_grown (hold _ _ a2) hg (fun e => ?_)
      obtain ⟨_, cur, hc⟩ := q_typed hQ _ e.symm
      exact blk_ne a2 hc (by decide) rfl
  · have e : ptrs tab (List.range i) ++ [.pointer (some ⟨W.heap.size, 0, none⟩)] = ptrs (fun j => if j = i then W.heap.size else tab j) (List.range (i + 1)) := by
      unfold ptrs
      rw [List.range_succ, List.map_append]
      congr 1
      · refine List.map_congr_left fun j hj => ?_
        have : j ≠ i := by have := List.mem_range.1 hj; omega
        simp only [if_neg this]
      · simp
    rw [e, ptrs_length, List.length_range] at hQ1
    exact hQ1
/-- One round of differencing. -/
def stepN (s : List Nd × List Nat) : List Nd × List Nat := (s.1 ++ [⟨wth s.1 ((srtN s.1 s.2).getD 0 0) - wth s.1 ((srtN s.1 s.2).getD 1 0), some ((srtN s.1 s.2).getD 0 0, (srtN s.1 s.2).getD 1 0)⟩], (srtN s.1 s.2).drop 2 ++ [s.1.length])
def itN : Nat → List Nd × List Nat → List Nd × List Nat
  | 0, s => s
  | r + 1, s => stepN (itN r s)
theorem itN_front : ∀ (r : Nat) (s : List Nd × List Nat), itN r (stepN s) = stepN (itN r s)
  | 0, s => rfl
  | r + 1, s => by rw [itN, itN, itN_front r s]
theorem kkR_itN : ∀ (r : Nat) (s : List Nd × List Nat), kkR r s.1 s.2 = itN r s
  | 0, s => rfl
  | r + 1, s => by
    rw [itN, ← itN_front, ← kkR_itN r (stepN s)]
    rfl
def stN (l : List Int) (t : Nat) : List Nd × List Nat := itN t (leaves l, List.range l.length)
theorem kkEnd_is (l : List Int) : kkEnd l = stN l (l.length - 1) := by
  unfold kkEnd stN
  exact kkR_itN _ (leaves l, List.range l.length)
theorem srtN_perm (nd : List Nd) (its : List Nat) : (srtN nd its).Perm its := List.mergeSort_perm _ _
theorem srtN_length (nd : List Nd) (its : List Nat) : (srtN nd its).length = its.length := (srtN_perm nd its).length_eq
/-- What the rounds keep. -/
structure KI (l : List Int) (t : Nat) (s : List Nd × List Nat) : Prop where
  nodes : s.1.length = l.length + t
  its : s.2.length = l.length - t
  lt : ∀ j ∈ s.2, j < s.1.length
  kids : KidsOk l.length s.1
  bound : ∀ j, -(1000000 * 2 ^ t) ≤ wth s.1 j ∧ wth s.1 j ≤ 1000000 * 2 ^ t
theorem getD_append_lt {α : Type} (a b : List α) (d : α) (j : Nat) (h : j < a.length) : (a ++ b).getD j d = a.getD j d := by
  rw [List.getD_eq_getElem?_getD, List.getElem?_append_left h, ← List.getD_eq_getElem?_getD]
theorem KI.start (l : List Int) (hb : ∀ x ∈ l, 1 ≤ x ∧ x ≤ 1000000) : KI l 0 (leaves l, List.range l.length) := by
  have hg : ∀ j, j < l.length → (leaves l).getD j default = ⟨l.getD j 0, none⟩ := fun j hj => by
    have := leaves_take_getD l l.length j hj (Nat.le_refl _)
    rwa [List.take_length] at this
  refine ⟨by simp [leaves], by simp, fun j hj => by rw [leaves_length]; exact List.mem_range.1 hj, fun j hj => ?_, fun j => ?_⟩
  · rw [leaves_length] at hj
    simp only [hg j hj]
    exact hj
  · unfold wth
    rcases Nat.lt_or_ge j l.length with hj | hj
    · simp only [hg j hj]
      have := hb _ (getD_mem hj)
      omega
    · rw [List.getD_eq_getElem?_getD, List.getElem?_eq_none (by rw [leaves_length]; exact hj)]
      show -(1000000 * 2 ^ 0) ≤ (0 : Int) ∧ (0 : Int) ≤ 1000000 * 2 ^ 0
      omega
theorem KI.next {l : List Int} {t : Nat} {s : List Nd × List Nat} (h : KI l t s) (h2 : 2 ≤ s.2.length) : KI l (t + 1) (stepN s) := by
  have hsl := srtN_length s.1 s.2
  have hm : ∀ i, i < s.2.length → (srtN s.1 s.2).getD i 0 < s.1.length := fun i hi => by
    refine h.lt _ ((srtN_perm s.1 s.2).mem_iff.1 ?_)
    rw [List.getD_eq_getElem?_getD, List.getElem?_eq_getElem (by rw [hsl]; exact hi)]
    exact List.getElem_mem _
  have hnl := h.nodes
  have hil := h.its
  refine ⟨?_, ?_, fun j hj => ?_, fun j hj => ?_, fun j => ?_⟩
  · simp only [stepN, List.length_append, List.length_cons, List.length_nil]; omega
  · simp only [stepN, List.length_append, List.length_cons, List.length_nil, List.length_drop]; omega
  · simp only [stepN, List.length_append, List.length_cons, List.length_nil]
    rcases List.mem_append.1 hj with hj | hj
    · have := h.lt j ((srtN_perm s.1 s.2).mem_iff.1 (List.mem_of_mem_drop hj)); omega
    · have : j = s.1.length := by simpa using hj
      omega
  · simp only [stepN, List.length_append, List.length_cons, List.length_nil] at hj
    simp only [stepN]
    rcases Nat.lt_or_ge j s.1.length with hj' | hj'
    · rw [getD_append_lt _ _ _ _ hj']
      exact h.kids j hj'
    · obtain rfl : j = s.1.length := by omega
      rw [List.getD_eq_getElem?_getD, List.getElem?_append_right (Nat.le_refl _)]
      simp only [Nat.sub_self, List.getElem?_cons_zero, Option.getD_some]
      exact ⟨hm 0 (by omega), hm 1 (by omega)⟩
  · have hp : (2 : Int) ^ (t + 1) = 2 * 2 ^ t := by rw [Int.pow_succ, Int.mul_comm]
    have hpp : (0 : Int) < 2 ^ t := Int.pow_pos (by decide)
    rw [hp]
    have hj0 := h.bound j
    simp only [stepN]
    rcases Nat.lt_or_ge j s.1.length with hj' | hj'
    · unfold wth at hj0 ⊢
      rw [getD_append_lt _ _ _ _ hj']
      omega
    · rcases Nat.lt_or_ge s.1.length j with hj2 | hj2
      · unfold wth
        rw [List.getD_eq_getElem?_getD, List.getElem?_eq_none (by simp; omega)]
        show _ ≤ (0 : Int) ∧ (0 : Int) ≤ _
        omega
      · obtain rfl : j = s.1.length := by omega
        have e : wth (s.1 ++ [⟨wth s.1 ((srtN s.1 s.2).getD 0 0) - wth s.1 ((srtN s.1 s.2).getD 1 0), some ((srtN s.1 s.2).getD 0 0, (srtN s.1 s.2).getD 1 0)⟩]) s.1.length = wth s.1 ((srtN s.1 s.2).getD 0 0) - wth s.1 ((srtN s.1 s.2).getD 1 0) := by
          conv => lhs; unfold wth
          rw [List.getD_eq_getElem?_getD, List.getElem?_append_right (Nat.le_refl _)]
          simp only [Nat.sub_self, List.getElem?_cons_zero, Option.getD_some]
          rfl
        rw [e]
        have a1 := h.bound ((srtN s.1 s.2).getD 0 0)
        have a2 := h.bound ((srtN s.1 s.2).getD 1 0)
        omega
theorem KI.all (l : List Int) (hb : ∀ x ∈ l, 1 ≤ x ∧ x ≤ 1000000) : ∀ t, t + 1 ≤ l.length → KI l t (stN l t)
  | 0, _ => KI.start l hb
  | t + 1, h => by
    have ih := KI.all l hb t (by omega)
    exact ih.next (by rw [ih.its]; omega)
theorem ndCells_congr {tab tab' : Nat → Nat} {x : Nd} {j : Nat} (h : ∀ a b, x.kids = some (a, b) → tab a = tab' a ∧ tab b = tab' b) : ndCells tab x j = ndCells tab' x j := by
  unfold ndCells
  rcases hk : x.kids with _ | ⟨a, b⟩
  · rfl
  · obtain ⟨h1, h2⟩ := h a b hk
    simp [kidP, h1, h2]
/-- One more difference has become an item. -/
theorem diff_next {base n : Nat} {W W2 w1 : World} {tab : Nat → Nat} {nd : List Nd} {its : List Nat} {vs v1 : Value} {a b : Nat} {wa wb : Int} (hN : NodesAt W base tab nd) (hk : KidsOk n nd) (hi : ∀ j ∈ its, j < nd.length) (h2 : 2 ≤ its.length) (hb0 : base ≤ W.heap.size)
    (ha : a = (srtN nd its).getD 0 0) (hb : b = (srtN nd its).getD 1 0) (han : a < nd.length) (hbn : b < nd.length) (hwa : wa = wth nd a) (hwb : wb = wth nd b)
    (hQ : QRow W2 base 59 1 vs (ptrs tab ((srtN nd its).drop 2)).length (ptrs tab ((srtN nd its).drop 2)))
    (hqw : ∀ q, vs.ownBlock = some q → q < W.heap.size)
    (hW2 : W2 = (W.alloc (.cells #[.int .i64 (wa - wb), .int .i64 (nd.length : Int), .int .i64 (-1), .pointer (some ⟨tab a, 0, none⟩), .pointer (some ⟨tab b, 0, none⟩)] 63)).alloc (.cells #[.pointer (some ⟨W.heap.size, 0, none⟩)] 59))
    (hQ1 : QRow w1 base 59 1 v1 ((ptrs tab ((srtN nd its).drop 2)).length + 1) (ptrs tab ((srtN nd its).drop 2) ++ [.pointer (some ⟨W.heap.size, 0, none⟩)])) (hg : W2.grownBy w1 vs.ownBlock) :
    ∃ tab', NodesAt w1 base tab' (stepN (nd, its)).1 ∧ QRow w1 base 59 1 v1 (stepN (nd, its)).2.length (ptrs tab' (stepN (nd, its)).2) := by
  have hold : ∀ q o, W.heap[q]? = some o → W2.heap[q]? = some o := fun q o h => by rw [hW2]; exact blk_alloc (blk_alloc h _) _
  refine ⟨fun j => if j = nd.length then W.heap.size else tab j, fun j hj => ?_, ?_⟩
  · simp only [stepN, List.length_append, List.length_cons, List.length_nil] at hj
    simp only [stepN]
    by_cases e : j = nd.length
    · subst e
      rw [List.getD_eq_getElem?_getD, List.getElem?_append_right (Nat.le_refl _)]
      simp only [Nat.sub_self, List.getElem?_cons_zero, Option.getD_some, if_true]
      refine ⟨hb0, ?_⟩
      have h1 : W2.heap[W.heap.size]? = some (.cells #[.int .i64 (wa - wb), .int .i64 (nd.length : Int), .int .i64 (-1), .pointer (some ⟨tab a, 0, none⟩), .pointer (some ⟨tab b, 0, none⟩)] 63 (0, 0)) := by rw [hW2]; exact blk_alloc (blk_new W _) _
      have h3 := blk_grown h1 hg (fun e => by have := hqw _ e.symm; omega)
      rw [h3]
      simp only [ndCells, ← ha, ← hb, hwa, hwb, Option.isSome_some, if_true, Option.map_some, kidP, if_neg (show ¬ a = nd.length by omega), if_neg (show ¬ b = nd.length by omega)]
    · have hj' : j < nd.length := by omega
      rw [getD_append_lt _ _ _ _ hj']
      simp only [if_neg e]
      obtain ⟨a1, a2⟩ := hN j hj'
      refine ⟨a1, ?_⟩
      have hkj := hk j hj'
      have h4 : ndCells (fun j => if j = nd.length then W.heap.size else tab j) (nd.getD j default) j = ndCells tab (nd.getD j default) j := ndCells_congr fun x y hxy => by
        rw [hxy] at hkj
        have := hkj
        simp only at this
        exact ⟨by rw [if_neg (by omega)], by rw [if_neg (by omega)]⟩
      rw [h4]
      refine blk_grown (hold _ _ a2) hg (fun e => ?_)
      obtain ⟨_, cur, hc⟩ := q_typed hQ _ e.symm
      exact blk_ne (hold _ _ a2) hc (by decide) rfl
  · have e : ptrs tab ((srtN nd its).drop 2) ++ [.pointer (some ⟨W.heap.size, 0, none⟩)] = ptrs (fun j => if j = nd.length then W.heap.size else tab j) (stepN (nd, its)).2 := by
      simp only [stepN, ptrs, List.map_append]
      congr 1
      · refine List.map_congr_left fun j hj => ?_
        have := hi j ((srtN_perm nd its).mem_iff.1 (List.mem_of_mem_drop hj))
        simp only [if_neg (show ¬ j = nd.length by omega)]
      · simp
    rw [e] at hQ1
    have e2 : (ptrs tab ((srtN nd its).drop 2)).length + 1 = (stepN (nd, its)).2.length := by simp [stepN, ptrs_length]
    rw [e2] at hQ1
    exact hQ1
theorem plc_bits (nd : List Nd) : ∀ (f j : Nat) (side : Int) (out : List Int), Bits out → (side = 0 ∨ side = 1) → Bits (plc nd f j side out)
  | 0, _, _, _, h, _ => h
  | f + 1, j, side, out, h, hs => by
    unfold plc
    split
    · intro x hx
      rcases List.mem_or_eq_of_mem_set hx with h1 | h1
      · exact h x h1
      · rw [h1]; exact hs
    · exact plc_bits nd f _ _ _ (plc_bits nd f _ _ _ h hs) (by omega)
/-- Sides that are changed one by one. -/
def flT (out : List Int) (i : Nat) : List Int := (List.range out.length).map fun j => if j < i then 1 - out.getD j 0 else out.getD j 0
theorem flT_len (out : List Int) (i : Nat) : (flT out i).length = out.length := by simp [flT]
theorem flT_get (out : List Int) (i j : Nat) (hj : j < out.length) : (flT out i).getD j 0 = if j < i then 1 - out.getD j 0 else out.getD j 0 := by
  rw [List.getD_eq_getElem?_getD, List.getElem?_eq_getElem (by rw [flT_len]; exact hj)]
  simp [flT]
theorem flT_zero (out : List Int) : flT out 0 = out := by
  apply List.ext_getElem
  · rw [flT_len]
  · intro j h1 h2
    simp [flT, List.getD_eq_getElem?_getD, List.getElem?_eq_getElem h2]
theorem flT_all (out : List Int) : flT out out.length = out.map (1 - ·) := by
  apply List.ext_getElem
  · rw [flT_len, List.length_map]
  · intro j h1 h2
    rw [List.length_map] at h2
    simp [flT, List.getD_eq_getElem?_getD, List.getElem?_eq_getElem h2, h2]
theorem flT_set (out : List Int) (i : Nat) (hi : i < out.length) : (flT out i).set i (1 - out.getD i 0) = flT out (i + 1) := by
  unfold flT
  apply List.ext_getElem
  · simp
  · intro j h1 h2
    rw [List.getElem_set]
    simp only [List.getElem_map, List.getElem_range]
    by_cases e : i = j
    · subst e; rw [if_pos rfl, if_pos (by omega)]
    · rw [if_neg e]
      by_cases h : j < i
      · rw [if_pos h, if_pos (by omega)]
      · rw [if_neg h, if_neg (by omega)]
set_option maxHeartbeats 2000000 in
set_option maxRecDepth 100000 in
theorem diffcing_ok (A0 : Option Addr) (c0 : Nat) (l0 : List Int) (w : World) (hr0 : Kd.C (Kd.int .i64) w A0 l0.length l0) (hc0 : l0.length ≤ c0) (hok : OkL 14 l0) :
    Calls Try.prog 18 #[.slice A0 l0.length c0] w fun e w' => ∃ v0_ : Value, e = .returned (.tuple #[.int .i64 (kkS l0).1, v0_, .int .i64 0]) ∧ Kd.R (Kd.int .i64) 3 w' w.heap.size (fun _ => True) v0_ (kkS l0).2 ∧ Below w.heap.size w w' := by
  obtain ⟨ad, rfl, hcell⟩ := C_int_cell hr0 hok.1
  have HR0 := Aside0.mk hr0
  have HC0 := Aside0.mk hc0
  have HOK := Aside0.mk hok
  have HCE := Aside0.mk hcell
  have CK : Aside0 (tug_check.f l0 ((14 : Nat) : Int) = some 0) := ⟨by rw [check_is 14 (by omega) l0, chk_ok hok]⟩
  have HB := Aside0.mk (Below.refl w.heap.size w)
  have HN : Aside0 (l0.length ≤ 14) := ⟨hok.2.1⟩
  clear hr0 hc0 hok hcell
  go_enter Try.func18, Try.ntmps18
  go_wp2_with (go_at_call 43; refine (tug_check.calls (some ad) c0 l0 14 0 _ HR0.out HC0.out CK.out).mono ?_; rintro e w8 ⟨rfl, nd, rfl⟩; have HB2 := Aside0.mk (pw_below_drewN HB.out nd); generalize World.drewN w nd = w9 at HB2 ⊢)
  go_loopg [6, 21] l0.length (fun kq v6 v21 wr => ∃ (i : Nat) (tab : Nat → Nat), v21 = .int .i64 (i : Int) ∧ Aside0 (i + kq = l0.length) ∧ Aside0 (NodesAt wr w.heap.size tab (leaves (l0.take i))) ∧ Aside0 (QRow wr w.heap.size 59 1 v6 i (ptrs tab (List.range i))) ∧ Aside0 (Below w.heap.size w wr))
  case atStart => exact ⟨0, fun _ => 0, rfl, ⟨by omega⟩, ⟨fun j hj => by simp [leaves] at hj⟩, ⟨⟨rfl, .inl ⟨rfl, none, rfl, fun a h => by cases h⟩⟩⟩, HB2⟩
  case round =>
    clear HB2
    obtain ⟨i, tab, rfl, HI, HNA, HQ, HB⟩ := hrel
    cases gk with
    | zero =>
      obtain rfl : i = l0.length := by have := HI.out; omega
      have hd : decide ((l0.length : Int) < (l0.length : Int)) = false := by simp
      go_wp2
      have HKA : Aside0 (∀ t, t + 1 ≤ l0.length → KI l0 t (stN l0 t)) := ⟨KI.all l0 HOK.out.2.2⟩
      rw [List.take_length] at HNA
      go_loopg [6, 9] (l0.length - 1) (fun kq v6 v9 wr => ∃ (t : Nat) (tab : Nat → Nat), v9 = .int .i64 ((l0.length + t : Nat) : Int) ∧ Aside0 (t + kq = l0.length - 1) ∧ Aside0 (NodesAt wr w.heap.size tab (stN l0 t).1) ∧ Aside0 (QRow wr w.heap.size 59 1 v6 (stN l0 t).2.length (ptrs tab (stN l0 t).2)) ∧ Aside0 (Below w.heap.size w wr))
      case atStart => exact ⟨0, tab, rfl, ⟨by omega⟩, HNA, ⟨by have := HQ.out; rwa [show (stN l0 0).2.length = l0.length by simp [stN, itN]]⟩, HB⟩
      case round =>
        clear HNA HQ HB
        obtain ⟨t, tab, rfl, HI, HNA, HQ, HB⟩ := hrel
        have hKI := HKA.out t (by have := HI.out; have := HOK.out.1; omega)
        obtain ⟨nd, hnd⟩ : ∃ x, x = (stN l0 t).1 := ⟨_, rfl⟩
        obtain ⟨its, hits⟩ : ∃ x, x = (stN l0 t).2 := ⟨_, rfl⟩
        have HKI : Aside0 (KI l0 t (nd, its)) := ⟨by rw [hnd, hits]; exact hKI⟩
        have HST : Aside0 (stN l0 t = (nd, its)) := ⟨by rw [hnd, hits]⟩
        rw [← hnd] at HNA
        rw [← hits] at HQ
        clear hKI hnd hits
        have hpos : 0 < its.length := by have h1 := HKI.out.its; have h2 := HI.out; have h3 := HOK.out.1; simp only at h1; omega
        obtain ⟨g, off, cap, hv6, hgb⟩ : ∃ g off cap, u6 = .slice (some ⟨g, off, none⟩) its.length cap ∧ w.heap.size ≤ g := by
          obtain ⟨_, h2⟩ := HQ.out
          rcases h2 with ⟨h0, _⟩ | ⟨g, off, cap, cur, e, hb, _⟩
          · omega
          · exact ⟨g, off * 1, cap, e, hb⟩
        subst hv6
        cases gk with
        | zero =>
          have hone : its.length = 1 := by have h1 := HKI.out.its; have h2 := HI.out; have h3 := HOK.out.1; simp only at h1; omega
          have hd : decide ((1 : Int) < (its.length : Int)) = false := decide_eq_false (by omega)
          obtain ⟨j, hj⟩ : ∃ j, j = its.getD 0 0 := ⟨_, rfl⟩
          have hjm : j < nd.length := HKI.out.lt j (by rw [hj, List.getD_eq_getElem?_getD, List.getElem?_eq_getElem hpos]; exact List.getElem_mem _)
          have hci : wr.cell? ⟨g, off, none⟩ = some (.pointer (some ⟨tab j, 0, none⟩)) := by
            obtain ⟨ad', h1, h2⟩ := q_cells HQ.out hpos
            cases h1
            have h3 := h2 0 (.pointer (some ⟨tab j, 0, none⟩)) (by simp only [ptrs, List.getElem?_map, hj, List.getD_eq_getElem?_getD, List.getElem?_eq_getElem hpos, Option.map_some, Option.getD_some])
            have e3 : ((⟨g, off, none⟩ : Addr).add 0) = ⟨g, off, none⟩ := by simp [Addr.add]
            rw [e3] at h3
            exact h3
          have hend : kkEnd l0 = (nd, its) := by rw [kkEnd_is, ← HST.out]; congr 1; have := HI.out; omega
          have HJ := Aside0.mk hj
          have HJM := Aside0.mk hjm
          have HEND := Aside0.mk hend
          have HCI := Aside0.mk hci
          have HN1000 : Aside0 (l0.length ≤ 1000) := ⟨by have := HN.out; omega⟩
          have HPOS := Aside0.mk hpos
          clear hj hjm hci hend hone hgb
          obtain ⟨oo, hoo⟩ : ∃ oo, oo = plc nd (j + 1) j 0 (List.replicate l0.length 0) := ⟨_, rfl⟩
          have HOO := Aside0.mk hoo.symm
          have HLO : Aside0 (oo.length = l0.length) := ⟨by rw [hoo, plc_len]; simp⟩
          have HBT : Aside0 (Bits oo) := ⟨by rw [hoo]; exact plc_bits nd _ _ _ _ (fun x hx => .inl (List.mem_replicate.1 hx).2) (.inl rfl)⟩
          have hkk : kkOut l0 = oo := by unfold kkOut; rw [HEND.out, hoo, HJ.out]
          have hn0 : 0 < l0.length := by have := HOK.out.1; omega
          obtain ⟨o0, ho0⟩ : ∃ o0, o0 = oo.getD 0 0 := ⟨_, rfl⟩
          have HO0 := Aside0.mk ho0.symm
          have hkS : kkS l0 = (wth nd j, if o0 = 1 then oo.map (1 - ·) else oo) := by unfold kkS; simp only [hkk, HEND.out, ← HJ.out, ← ho0]
          have HKS := Aside0.mk hkS
          clear hoo hkk ho0 hkS
          by_cases h01 : o0 = 1
          · have HKS2 : Aside0 (kkS l0 = (wth nd j, oo.map (1 - ·))) := ⟨by rw [HKS.out, if_pos h01]⟩
            have e01 : (o0 == 1) = true := beq_iff_eq.2 h01
            clear h01 HKS
            go_wp2_with (first | ((with_reducible refine gate_dst (N := 74) rfl ?_); refine make_event ?hg (N := 74) ?hd (.tmp 73) (.tmp 73) rfl l0.length rfl rfl HN1000.out ?_; (case hd => rfl); (case hg => rfl); intro gO hgO w10 hbox hb; have BO := Aside0.mk hbox; have HB3 := Aside0.mk (below_step HB.out hb); have HN3 := Aside0.mk (HNA.out.move (fun q hq => hb.block _ (blk_lt (HNA.out q hq).2))); have GO := Aside0.mk hgO; have HNE : Aside0 (∀ q, q < nd.length → tab q ≠ gO) := ⟨fun q hq => by have := blk_lt (HNA.out q hq).2; omega⟩; have HGO : Aside0 (w.heap.size ≤ gO) := ⟨by have := HB.out.size; omega⟩; have HGG : Aside0 (g ≠ gO) := ⟨by have h9 := World.block_lt_of_cell? _ _ HCI.out; simp only at h9; omega⟩; have hci3 : w10.cell? ⟨g, off, none⟩ = some (.pointer (some ⟨tab j, 0, none⟩)) := (hb.cell (World.block_lt_of_cell? _ _ HCI.out)).trans HCI.out; have HC3 := Aside0.mk hci3; clear hbox hb hgO) | (go_at_call 47; refine (place_calls tab nd l0.length w.heap.size gO HKI.out.kids HNE.out (j + 1) j (Nat.lt_succ_self _) HJM.out 0 (List.replicate l0.length 0) w10 (.inl rfl) (by simp) HN1000.out HN3.out BO.out).mono ?_; rintro e w11 ⟨rfl, hg, hb⟩; have HG11 := Aside0.mk hg; have hb' := hb; rw [HOO.out] at hb'; have BO11 := Aside0.mk hb'; have sc0 := ints_cell hb' (i := 0) (by rw [HLO.out]; exact hn0); rw [HO0.out] at sc0; have hc9 := hg.cell HC3.out (fun e => HGG.out (by injection e)); have hc10 : w11.cell? ⟨tab j, 0, none⟩ = some (.int .i64 (wth nd j)) := (blk_cell (blk_grown (HN3.out j HJM.out).2 hg (fun e => HNE.out j HJM.out (by injection e))) 0); clear hg hb hb' hci3))
            rw [← flT_zero oo] at BO11
            go_loopg [86] l0.length (fun kq v86 wz => ∃ i : Nat, v86 = .int .i64 (i : Int) ∧ Aside0 (i + kq = l0.length) ∧ Aside0 (wz.heap[gO]? = some (.cells (ints (flT oo i)).toArray 3 (0, 0))) ∧ Aside0 (w10.grownBy wz (some gO)))
            case atStart => exact ⟨0, rfl, ⟨by omega⟩, BO11, HG11⟩
            case round =>
              clear BO11 HG11 sc0 hc9 hc10
              obtain ⟨i, rfl, HI2, BO2, HG2⟩ := hrel
              cases gk with
              | zero =>
                obtain rfl : i = l0.length := by have := HI2.out; omega
                have hd : decide ((l0.length : Int) < (l0.length : Int)) = false := by simp
                have hc9' := HG2.out.cell HC3.out (fun e => HGG.out (by injection e))
                have hc10' : wr.cell? ⟨tab j, 0, none⟩ = some (.int .i64 (wth nd j)) := (blk_cell (blk_grown (HN3.out j HJM.out).2 HG2.out (fun e => HNE.out j HJM.out (by injection e))) 0)
                go_wp2
                go_ret3
                rw [HKS2.out]
                have hrow := ints_row BO2.out (by rw [flT_len, HLO.out]; exact HN1000.out) HGO.out
                rw [flT_len, HLO.out] at hrow
                have hall : flT oo l0.length = oo.map (1 - ·) := by rw [← HLO.out, flT_all]
                rw [hall] at hrow
                exact ⟨_, rfl, TRow.R hrow, HB3.out.grown HG2.out HB3.out.size (fun q hq => by cases hq; exact HGO.out)⟩
              | succ kq =>
                have hin : i < l0.length := by have := HI2.out; omega
                have hd : decide ((i : Int) < (l0.length : Int)) = true := decide_eq_true (by omega)
                have sc := ints_cell BO2.out (i := i) (by rw [flT_len, HLO.out]; exact hin)
                rw [flT_get oo i i (by rw [HLO.out]; exact hin), if_neg (Nat.lt_irrefl i)] at sc
                have fz := blk_frozen BO2.out i
                have hbit := HBT.out _ (getD_mem (l := oo) (i := i) (by rw [HLO.out]; exact hin))
                obtain ⟨x, hx⟩ : ∃ x, x = oo.getD i 0 := ⟨_, rfl⟩
                rw [← hx] at sc hbit
                have hwx : wrap64 (1 - x) = 1 - x := wrapS (by omega)
                have hw1 : wrap64 ((i : Int) + 1) = ((i + 1 : Nat) : Int) := wrapS (by have := HN.out; omega)
                have HX := Aside0.mk hx
                clear hx hbit
                go_wp2
                go_roundg kq
                case measure => have := HI2.out; omega
                case rel => exact ⟨i + 1, by first | rfl | rw [hw1], ⟨by have := HI2.out; omega⟩, ⟨by rw [← flT_set oo i (by rw [HLO.out]; exact hin), ← HX.out]; exact ints_set BO2.out i _⟩, ⟨⟨HG2.out.os, HG2.out.tape, HG2.out.output, by have := HG2.out.size; simpa [World.setCell] using this, fun q hq hne => (Below.heap_setCell _ _ _ q (fun e => hne (by rw [e]))).trans (HG2.out.block q hq hne)⟩⟩⟩
          · have HKS2 : Aside0 (kkS l0 = (wth nd j, oo)) := ⟨by rw [HKS.out, if_neg h01]⟩
            have e01 : (o0 == 1) = false := beq_eq_false_iff_ne.2 h01
            clear h01 HKS
            go_wp2_with (first | ((with_reducible refine gate_dst (N := 74) rfl ?_); refine make_event ?hg (N := 74) ?hd (.tmp 73) (.tmp 73) rfl l0.length rfl rfl HN1000.out ?_; (case hd => rfl); (case hg => rfl); intro gO hgO w10 hbox hb; have BO := Aside0.mk hbox; have HB3 := Aside0.mk (below_step HB.out hb); have HN3 := Aside0.mk (HNA.out.move (fun q hq => hb.block _ (blk_lt (HNA.out q hq).2))); have GO := Aside0.mk hgO; have HNE : Aside0 (∀ q, q < nd.length → tab q ≠ gO) := ⟨fun q hq => by have := blk_lt (HNA.out q hq).2; omega⟩; have HGO : Aside0 (w.heap.size ≤ gO) := ⟨by have := HB.out.size; omega⟩; have HGG : Aside0 (g ≠ gO) := ⟨by have h9 := World.block_lt_of_cell? _ _ HCI.out; simp only at h9; omega⟩; have hci3 : w10.cell? ⟨g, off, none⟩ = some (.pointer (some ⟨tab j, 0, none⟩)) := (hb.cell (World.block_lt_of_cell? _ _ HCI.out)).trans HCI.out; have HC3 := Aside0.mk hci3; clear hbox hb hgO) | (go_at_call 47; refine (place_calls tab nd l0.length w.heap.size gO HKI.out.kids HNE.out (j + 1) j (Nat.lt_succ_self _) HJM.out 0 (List.replicate l0.length 0) w10 (.inl rfl) (by simp) HN1000.out HN3.out BO.out).mono ?_; rintro e w11 ⟨rfl, hg, hb⟩; have HG11 := Aside0.mk hg; have hb' := hb; rw [HOO.out] at hb'; have BO11 := Aside0.mk hb'; have sc0 := ints_cell hb' (i := 0) (by rw [HLO.out]; exact hn0); rw [HO0.out] at sc0; have hc9 := hg.cell HC3.out (fun e => HGG.out (by injection e)); have hc10 : w11.cell? ⟨tab j, 0, none⟩ = some (.int .i64 (wth nd j)) := (blk_cell (blk_grown (HN3.out j HJM.out).2 hg (fun e => HNE.out j HJM.out (by injection e))) 0); clear hg hb hb' hci3))
            go_ret3
            rw [HKS2.out]
            have hrow := ints_row BO11.out (by rw [HLO.out]; exact HN1000.out) HGO.out
            rw [HLO.out] at hrow
            exact ⟨_, rfl, TRow.R hrow, HB3.out.grown HG11.out HB3.out.size (fun q hq => by cases hq; exact HGO.out)⟩
        | succ kq =>
          have htwo : 2 ≤ its.length := by have h1 := HKI.out.its; have h2 := HI.out; have h3 := HOK.out.1; simp only at h1; omega
          have hd : decide ((1 : Int) < (its.length : Int)) = true := decide_eq_true (by omega)
          have HTW := Aside0.mk htwo
          have HSORT := Aside0.mk (sortN_calls tab nd w.heap.size its g off cap w wr HNA.out (fun j hj => HKI.out.lt j hj) hpos (by have h1 := HKI.out.its; have := HN.out; simp only at h1; omega) HQ.out HB.out HB.out.size)
          go_wp2_with (go_at_call 44; refine HSORT.out.mono ?_; rintro e w2 ⟨rfl, hq, hn, hb⟩; have HQ2 := Aside0.mk hq; have HN2 := Aside0.mk hn; have HB2 := Aside0.mk hb; clear hq hn hb)
          obtain ⟨a, ha⟩ : ∃ a, a = (srtN nd its).getD 0 0 := ⟨_, rfl⟩
          obtain ⟨b, hb⟩ : ∃ b, b = (srtN nd its).getD 1 0 := ⟨_, rfl⟩
          have hsl := srtN_length nd its
          have hcell : ∀ j, j < its.length → w2.cell? ⟨g, off + j, none⟩ = some (.pointer (some ⟨tab ((srtN nd its).getD j 0), 0, none⟩)) := fun j hj => by
            obtain ⟨ad', h1, h2⟩ := q_cells HQ2.out hpos
            cases h1
            have hj2 : j < (srtN nd its).length := by rw [hsl]; exact hj
            have h3 := h2 j (.pointer (some ⟨tab ((srtN nd its).getD j 0), 0, none⟩)) (by simp only [ptrs, List.getElem?_map, List.getD_eq_getElem?_getD, List.getElem?_eq_getElem hj2, Option.map_some, Option.getD_some])
            have e3 : ((⟨g, off, none⟩ : Addr).add j) = ⟨g, off + j, none⟩ := by simp [Addr.add]; try omega
            rw [e3] at h3
            exact h3
          have c0' := hcell 0 hpos
          have c1' := hcell 1 htwo
          rw [← ha] at c0'
          rw [← hb] at c1'
          rw [Nat.add_zero] at c0'
          have hamem : a < nd.length := HKI.out.lt _ ((srtN_perm nd its).mem_iff.1 (by rw [ha, List.getD_eq_getElem?_getD, List.getElem?_eq_getElem (by rw [hsl]; omega)]; exact List.getElem_mem _))
          have hbmem : b < nd.length := HKI.out.lt _ ((srtN_perm nd its).mem_iff.1 (by rw [hb, List.getD_eq_getElem?_getD, List.getElem?_eq_getElem (by rw [hsl]; omega)]; exact List.getElem_mem _))
          have HA := Aside0.mk ha
          have HBB := Aside0.mk hb
          have HAM := Aside0.mk hamem
          have HBM := Aside0.mk hbmem
          have hone : 1 < its.length := htwo
          clear ha hb hsl hcell HSORT hamem hbmem
          go_quiet (fail)
          go_wp2
          generalize hqq : World.drewN w2 _ = w3 at ⊢
          have HN3 : Aside0 (NodesAt w3 w.heap.size tab nd) := ⟨by rw [← hqq]; exact HN2.out⟩
          have HQ3 : Aside0 (QRow w3 w.heap.size 59 1 (.slice (some ⟨g, off, none⟩) its.length cap) its.length (ptrs tab (srtN nd its))) := ⟨by rw [← hqq]; exact HQ2.out⟩
          have HB3 : Aside0 (Below w.heap.size w w3) := ⟨by rw [← hqq]; exact pw_below_drewN HB2.out _⟩
          clear HN2 HQ2 HB2 hqq c0' c1' HNA HQ HB
          have hM : (l0.length : Int) + (t : Int) = (nd.length : Int) := by have h1 := HKI.out.nodes; simp only at h1; omega
          rw [hM]
          have hcap : its.length ≤ cap := (q_slice HQ3.out).elim fun A ⟨c, e, h⟩ => by cases e; exact h
          obtain ⟨wa, hwa⟩ : ∃ x, x = wth nd a := ⟨_, rfl⟩
          obtain ⟨wb, hwb⟩ : ∃ x, x = wth nd b := ⟨_, rfl⟩
          have ca : w3.cell? ⟨tab a, 0, none⟩ = some (.int .i64 wa) := by rw [HN3.out.cells HAM.out 0, hwa]; rfl
          have cb : w3.cell? ⟨tab b, 0, none⟩ = some (.int .i64 wb) := by rw [HN3.out.cells HBM.out 0, hwb]; rfl
          have hws : wrap64 (wa - wb) = wa - wb := wrapS (by
            have h1 := HKI.out.bound a
            have h2 := HKI.out.bound b
            have h3 := HI.out
            have h4 := HN.out
            simp only at h1 h2
            rw [← hwa] at h1
            rw [← hwb] at h2
            have h5 : (2 : Int) ^ t ≤ 2 ^ 13 := by
              have : 2 ^ t ≤ 2 ^ 13 := Nat.pow_le_pow_right (by omega) (by omega)
              exact_mod_cast this
            omega)
          have HWA := Aside0.mk hwa
          have HWB := Aside0.mk hwb
          have h2i : (2 : Int) ≤ (its.length : Int) := by omega
          obtain ⟨vs, hvs⟩ : ∃ v, v = Value.slice (if cap = 2 then some ⟨g, off, none⟩ else some ⟨g, off + 2, none⟩) (its.length - 2) (cap - 2) := ⟨_, rfl⟩
          have HVS := Aside0.mk hvs.symm
          have hQS : QRow w3 w.heap.size 59 1 vs (ptrs tab ((srtN nd its).drop 2)).length (ptrs tab ((srtN nd its).drop 2)) := by
            have h := q_drop HQ3.out htwo
            have e1 : (if cap = 2 then some (⟨g, off, none⟩ : Addr) else (some (⟨g, off, none⟩ : Addr)).map (·.add (2 * 1))) = if cap = 2 then some ⟨g, off, none⟩ else some ⟨g, off + 2, none⟩ := by split <;> simp [Addr.add]
            rw [e1, ← hvs] at h
            have e2 : (ptrs tab (srtN nd its)).drop (2 * 1) = ptrs tab ((srtN nd its).drop 2) := by simp [ptrs]
            rw [e2] at h
            rw [ptrs_length, List.length_drop, srtN_length]
            exact h
          have hAP : ∀ W2 : World, W2 = (w3.drew.alloc (.cells #[.int .i64 (wa - wb), .int .i64 (nd.length : Int), .int .i64 (-1), .pointer (some ⟨tab a, 0, none⟩), .pointer (some ⟨tab b, 0, none⟩)] 63)).alloc (.cells #[.pointer (some ⟨w3.heap.size, 0, none⟩)] 59) → W2.cell? ⟨w3.heap.size + 1, 0, none⟩ = some (.pointer (some ⟨w3.heap.size, 0, none⟩)) ∧ QRow W2 w.heap.size 59 1 vs (ptrs tab ((srtN nd its).drop 2)).length (ptrs tab ((srtN nd its).drop 2)) ∧ w.heap.size ≤ W2.heap.size ∧ Below w.heap.size w W2 := by
            rintro W2 rfl
            refine ⟨?_, ?_, ?_, below_alloc (below_alloc (below_drew1 HB3.out) _) _⟩
            · have h := blk_cell (blk_new (w3.drew.alloc (.cells #[.int .i64 (wa - wb), .int .i64 (nd.length : Int), .int .i64 (-1), .pointer (some ⟨tab a, 0, none⟩), .pointer (some ⟨tab b, 0, none⟩)] 63)) (.cells #[.pointer (some ⟨w3.heap.size, 0, none⟩)] 59)) 0
              simpa using h
            · exact q_move hQS (fun k hk => by rw [Below.heap_alloc _ _ _ (by have := q_lt hQS k hk; simp; omega)]; exact Below.heap_alloc w3.drew _ _ (q_lt hQS k hk))
            · have := HB3.out.size
              simp
              omega
          have HAP := Aside0.mk (hAP _ rfl)
          have HQS := Aside0.mk hQS
          clear hwa hwb hM hvs hQS hAP
          refine start_ (n := 22) (S := fun w' => w'.cell? ⟨tab a, 0, none⟩ = some (.int .i64 wa) ∧ w'.cell? ⟨tab b, 0, none⟩ = some (.int .i64 wb)) (ds := [18, 19, 20]) #[false, false, false, false, false, false, false, false, false, false, false, false, false, false, false, false, false, false, false, false, false, false] (by kernel_rfl) rfl rfl ⟨ca, cb⟩ (fun hHeld => ?_)
          refine pure_ (i := 0) (N := some 51) (v := ?_) (a' := ?_) #[true, false, false, false, false, false, false, false, false, false, false, false, false, false, false, false, false, false, false, false, false, false] rfl rfl (by kernel_rfl) (fun _ _ _ h => h) (Or.inl ⟨by rfl, ?_⟩) ?_ ?_
          rotate_left
          · intro w'
            go_simp
            with_reducible rfl
          rotate_left
          · simp only [Act.put, List.setIfInBounds_toArray, List.set_cons_zero, List.set_cons_succ, i64_w, i32_w]
            rfl
          refine pure_ (i := 1) (N := some 52) (v := ?_) (a' := ?_) #[true, true, false, false, false, false, false, false, false, false, false, false, false, false, false, false, false, false, false, false, false, false] rfl rfl (by kernel_rfl) (fun _ _ _ h => h) (Or.inl ⟨by rfl, ?_⟩) ?_ ?_
          rotate_left
          · intro w'
            go_simp
            with_reducible rfl
          rotate_left
          · simp only [Act.put, List.setIfInBounds_toArray, List.set_cons_zero, List.set_cons_succ, i64_w, i32_w]
            rfl
          rw [HVS.out]
          refine pure_ (i := 2) (N := some 53) (v := ?_) (a' := ?_) #[true, true, true, false, false, false, false, false, false, false, false, false, false, false, false, false, false, false, false, false, false, false] rfl rfl (by kernel_rfl) (fun _ _ _ h => h) (Or.inl ⟨by rfl, ?_⟩) ?_ ?_
          rotate_left
          · intro w'
            go_simp
            with_reducible rfl
          rotate_left
          · simp only [Act.put, List.setIfInBounds_toArray, List.set_cons_zero, List.set_cons_succ, i64_w, i32_w]
            rfl
          refine pure_ (i := 3) (N := some 54) (v := ?_) (a' := ?_) #[true, true, true, true, false, false, false, false, false, false, false, false, false, false, false, false, false, false, false, false, false, false] rfl rfl (by kernel_rfl) (fun _ _ _ h => h) (Or.inl ⟨by rfl, ?_⟩) ?_ ?_
          rotate_left
          · intro w'
            go_simp
            with_reducible rfl
          rotate_left
          · simp only [Act.put, List.setIfInBounds_toArray, List.set_cons_zero, List.set_cons_succ, i64_w, i32_w]
            rfl
          refine pure_ (i := 4) (N := some 55) (v := ?_) (a' := ?_) #[true, true, true, true, true, false, false, false, false, false, false, false, false, false, false, false, false, false, false, false, false, false] rfl rfl (by kernel_rfl) (fun _ _ _ h => h) (Or.inl ⟨by rfl, ?_⟩) ?_ ?_
          rotate_left
          · intro w'
            go_simp
            with_reducible rfl
          rotate_left
          · simp only [Act.put, List.setIfInBounds_toArray, List.set_cons_zero, List.set_cons_succ, i64_w, i32_w]
            rfl
          refine pure_ (i := 5) (N := some 56) (v := ?_) (a' := ?_) #[true, true, true, true, true, true, false, false, false, false, false, false, false, false, false, false, false, false, false, false, false, false] rfl rfl (by kernel_rfl) (fun _ _ _ h => h) (Or.inl ⟨by rfl, ?_⟩) ?_ ?_
          rotate_left
          · intro w'
            go_simp
            with_reducible rfl
          rotate_left
          · simp only [Act.put, List.setIfInBounds_toArray, List.set_cons_zero, List.set_cons_succ, i64_w, i32_w]
            rfl
          refine pure_ (i := 7) (N := some 58) (v := ?_) (a' := ?_) #[true, true, true, true, true, true, false, true, false, false, false, false, false, false, false, false, false, false, false, false, false, false] rfl rfl (by kernel_rfl) (fun _ _ _ h => h) (Or.inl ⟨by rfl, ?_⟩) ?_ ?_
          rotate_left
          · intro w'
            go_simp
            with_reducible rfl
          rotate_left
          · simp only [Act.put, List.setIfInBounds_toArray, List.set_cons_zero, List.set_cons_succ, i64_w, i32_w]
            rfl
          refine pure_ (i := 8) (N := some 59) (v := ?_) (a' := ?_) #[true, true, true, true, true, true, false, true, true, false, false, false, false, false, false, false, false, false, false, false, false, false] rfl rfl (by kernel_rfl) (fun _ _ _ h => h) (Or.inl ⟨by rfl, ?_⟩) ?_ ?_
          rotate_left
          · intro w'
            go_simp
            with_reducible rfl
          rotate_left
          · simp only [Act.put, List.setIfInBounds_toArray, List.set_cons_zero, List.set_cons_succ, i64_w, i32_w]
            rfl
          refine pure_ (i := 9) (N := some 60) (v := ?_) (a' := ?_) #[true, true, true, true, true, true, false, true, true, true, false, false, false, false, false, false, false, false, false, false, false, false] rfl rfl (by kernel_rfl) (fun _ _ _ h => h) (Or.inl ⟨by rfl, ?_⟩) ?_ ?_
          rotate_left
          · intro w'
            go_simp
            with_reducible rfl
          rotate_left
          · simp only [Act.put, List.setIfInBounds_toArray, List.set_cons_zero, List.set_cons_succ, i64_w, i32_w]
            rfl
          refine pure_ (i := 10) (N := some 61) (v := ?_) (a' := ?_) #[true, true, true, true, true, true, false, true, true, true, true, false, false, false, false, false, false, false, false, false, false, false] rfl rfl (by kernel_rfl) (fun _ _ _ h => h) (Or.inl ⟨by rfl, ?_⟩) ?_ ?_
          rotate_left
          · intro w'
            go_simp
            with_reducible rfl
          rotate_left
          · simp only [Act.put, List.setIfInBounds_toArray, List.set_cons_zero, List.set_cons_succ, i64_w, i32_w]
            rfl
          refine pure_ (i := 13) (N := some 64) (v := ?_) (a' := ?_) #[true, true, true, true, true, true, false, true, true, true, true, false, false, true, false, false, false, false, false, false, false, false] rfl rfl (by kernel_rfl) (fun _ _ _ h => h) (Or.inl ⟨by rfl, ?_⟩) ?_ ?_
          rotate_left
          · intro w'
            go_simp
            with_reducible rfl
          rotate_left
          · simp only [Act.put, List.setIfInBounds_toArray, List.set_cons_zero, List.set_cons_succ, i64_w, i32_w]
            rfl
          refine pure_ (i := 15) (N := some 66) (v := ?_) (a' := ?_) #[true, true, true, true, true, true, false, true, true, true, true, false, false, true, false, true, false, false, false, false, false, false] rfl rfl (by kernel_rfl) (fun _ _ _ h => h) (Or.inl ⟨by rfl, ?_⟩) ?_ ?_
          rotate_left
          · intro w'
            go_simp
            with_reducible rfl
          rotate_left
          · simp only [Act.put, List.setIfInBounds_toArray, List.set_cons_zero, List.set_cons_succ, i64_w, i32_w]
            rfl
          refine pure_ (i := 16) (N := some 67) (v := ?_) (a' := ?_) #[true, true, true, true, true, true, false, true, true, true, true, false, false, true, false, true, true, false, false, false, false, false] rfl rfl (by kernel_rfl) (fun _ _ _ h => h) (Or.inl ⟨by rfl, ?_⟩) ?_ ?_
          rotate_left
          · intro w'
            go_simp
            with_reducible rfl
          rotate_left
          · simp only [Act.put, List.setIfInBounds_toArray, List.set_cons_zero, List.set_cons_succ, i64_w, i32_w]
            rfl
          refine take_ (i := 6) (N := some 57) (v := ?_) (a' := ?_) #[true, true, true, true, true, true, true, true, true, true, true, false, false, true, false, true, true, false, false, false, false, false] rfl rfl (by kernel_rfl) (fun _ _ _ h => h) (Or.inl ⟨by rfl, ?_⟩) hHeld ?_ ?_
          rotate_left
          · rintro w' ⟨s0, s1⟩
            go_simp
            with_reducible rfl
          rotate_left
          · simp only [Act.put, List.setIfInBounds_toArray, List.set_cons_zero, List.set_cons_succ, i64_w, i32_w]
            rfl
          refine take_ (i := 11) (N := some 62) (v := ?_) (a' := ?_) #[true, true, true, true, true, true, true, true, true, true, true, true, false, true, false, true, true, false, false, false, false, false] rfl rfl (by kernel_rfl) (fun _ _ _ h => h) (Or.inl ⟨by rfl, ?_⟩) hHeld ?_ ?_
          rotate_left
          · rintro w' ⟨s0, s1⟩
            go_simp
            with_reducible rfl
          rotate_left
          · simp only [Act.put, List.setIfInBounds_toArray, List.set_cons_zero, List.set_cons_succ, i64_w, i32_w]
            rfl
          refine pure_ (i := 12) (N := some 63) (v := ?_) (a' := ?_) #[true, true, true, true, true, true, true, true, true, true, true, true, true, true, false, true, true, false, false, false, false, false] rfl rfl (by kernel_rfl) (fun _ _ _ h => h) (Or.inl ⟨by rfl, ?_⟩) ?_ ?_
          rotate_left
          · intro w'
            go_simp
            with_reducible rfl
          rotate_left
          · simp only [Act.put, List.setIfInBounds_toArray, List.set_cons_zero, List.set_cons_succ, i64_w, i32_w]
            rfl
          refine pure_ (i := 14) (N := some 65) (v := ?_) (a' := ?_) #[true, true, true, true, true, true, true, true, true, true, true, true, true, true, true, true, true, false, false, false, false, false] rfl rfl (by kernel_rfl) (fun _ _ _ h => h) (Or.inl ⟨by rfl, ?_⟩) ?_ ?_
          rotate_left
          · intro w'
            go_simp
            with_reducible rfl
          rotate_left
          · simp only [Act.put, List.setIfInBounds_toArray, List.set_cons_zero, List.set_cons_succ, i64_w, i32_w]
            rfl
          refine pure_ (i := 17) (N := some 68) (v := ?_) (a' := ?_) #[true, true, true, true, true, true, true, true, true, true, true, true, true, true, true, true, true, true, false, false, false, false] rfl rfl (by kernel_rfl) (fun _ _ _ h => h) (Or.inl ⟨by rfl, ?_⟩) ?_ ?_
          rotate_left
          · intro w'
            go_simp
            with_reducible rfl
          rotate_left
          · simp only [Act.put, List.setIfInBounds_toArray, List.set_cons_zero, List.set_cons_succ, i64_w, i32_w]
            rfl
          refine last_ (i := 18) (N := some 69) #[true, true, true, true, true, true, true, true, true, true, true, true, true, true, true, true, true, true, true, false, false, false] rfl rfl (by kernel_rfl) (by decide) (fun K hK => ?_)
          refine value_ (w1 := ?_) (v := ?_) (by rfl) rfl ?_ ?_
          rotate_left 2
          · go_simp
            constructor
            · rfl
            · rfl
          refine hK.out _ _ ?_
          clear hK K
          refine norm_ (a' := ?_) ?_ ?_
          rotate_left
          · show Act.put _ (some 69) _ = _
            simp only [Act.put, List.setIfInBounds_toArray, List.set_cons_zero, List.set_cons_succ, i64_w, i32_w]
            rfl
          refine last_ (i := 19) (N := some 70) #[true, true, true, true, true, true, true, true, true, true, true, true, true, true, true, true, true, true, true, true, false, false] rfl rfl (by kernel_rfl) (by decide) (fun K hK => ?_)
          refine value_ (w1 := ?_) (v := ?_) (by rfl) rfl ?_ ?_
          rotate_left 2
          · go_simp
            constructor
            · rfl
            · rfl
          refine hK.out _ _ ?_
          clear hK K
          refine norm_ (a' := ?_) ?_ ?_
          rotate_left
          · show Act.put _ (some 70) _ = _
            simp only [Act.put, List.setIfInBounds_toArray, List.set_cons_zero, List.set_cons_succ, i64_w, i32_w]
            rfl
          refine last_ (i := 20) (N := some 71) #[true, true, true, true, true, true, true, true, true, true, true, true, true, true, true, true, true, true, true, true, true, false] rfl rfl (by kernel_rfl) (by decide) (fun K hK => ?_)
          refine app_step (by rfl) rfl (.tmp 52) (.tmp 70) rfl w.heap.size vs (ptrs tab ((srtN nd its).drop 2)) (.pointer (some ⟨w3.heap.size, 0, none⟩)) (w3.heap.size + 1) rfl rfl HAP.out.1 rfl HAP.out.2.1 HAP.out.2.2.1 (by rw [ptrs_length, List.length_drop, srtN_length]; have h1 := HKI.out.its; have := HN.out; simp only at h1; omega) ?_
          intro v1 w4 h1 h2 h3
          have HQ4 := Aside0.mk h1
          have HG4 := Aside0.mk h2
          clear h1 h2 h3
          refine hK.out _ _ ?_
          clear hK K
          refine norm_ (a' := ?_) ?_ ?_
          rotate_left
          · show Act.put _ (some 71) _ = _
            simp only [Act.put, List.setIfInBounds_toArray, List.set_cons_zero, List.set_cons_succ, i64_w, i32_w]
            rfl
          refine pure_ (i := 21) (N := some 6) (v := ?_) (a' := ?_) #[true, true, true, true, true, true, true, true, true, true, true, true, true, true, true, true, true, true, true, true, true, true] rfl rfl (by kernel_rfl) (fun _ _ _ h => h) (Or.inl ⟨by rfl, ?_⟩) ?_ ?_
          rotate_left
          · intro w'
            go_simp
            with_reducible rfl
          rotate_left
          · simp only [Act.put, List.setIfInBounds_toArray, List.set_cons_zero, List.set_cons_succ, i64_w, i32_w]
            rfl
          refine done_ (by kernel_rfl) ?_
          have hb4 := HAP.out.2.2.2.grown HG4.out HAP.out.2.2.1 (fun q hq => (q_typed HQS.out q hq).1)
          have HB4 := Aside0.mk hb4
          obtain ⟨tab', hN', hQ'⟩ := diff_next (W := w3.drew) (n := l0.length) (its := its) HN3.out HKI.out.kids (fun j hj => HKI.out.lt j hj) HTW.out HB3.out.size HA.out HBB.out HAM.out HBM.out HWA.out HWB.out HAP.out.2.1 (fun q hq => q_lt HQS.out q hq) rfl HQ4.out HG4.out
          have HN' := Aside0.mk hN'
          have HQ' := Aside0.mk hQ'
          have HSS : Aside0 (stN l0 (t + 1) = stepN (nd, its)) := ⟨by show stepN (stN l0 t) = _; rw [HST.out]⟩
          have hwm : wrap64 ((nd.length : Int) + 1) = ((l0.length + (t + 1) : Nat) : Int) := by
            have h1 := HKI.out.nodes
            have h2 := HI.out
            have h3 := HN.out
            simp only at h1
            rw [wrapS (by omega)]
            omega
          clear hb4 hN' hQ' hHeld
          go_wp2
          go_roundg kq
          case measure => have := HI.out; omega
          case rel => exact ⟨t + 1, tab', by first | rfl | rw [hwm], ⟨by have := HI.out; omega⟩, ⟨by rw [HSS.out]; exact HN'.out⟩, ⟨by rw [HSS.out]; exact HQ'.out⟩, HB4⟩
    | succ kq =>
      have hin : i < l0.length := by have := HI.out; omega
      have hd : decide ((i : Int) < (l0.length : Int)) = true := decide_eq_true (by omega)
      obtain ⟨x, hx⟩ : ∃ x, x = l0.getD i 0 := ⟨_, rfl⟩
      have hadl : ad.block < w.heap.size := by
        have := World.block_lt_of_cell? _ _ (HCE.out 0 HOK.out.1)
        rwa [add_block] at this
      have sc : wr.cell? (ad.add i) = some (.int .i64 x) := by
        rw [HB.out.cell (by rw [add_block]; exact hadl), hx]
        exact HCE.out i hin
      have HX := Aside0.mk hx
      clear hx hadl
      have hbs := below_size HB.out
      have hW2 : ∀ W2 : World, W2 = (wr.alloc (.cells #[.int .i64 x, .int .i64 (i : Int), .int .i64 (i : Int), .pointer none, .pointer none] 63)).alloc (.cells #[.pointer (some ⟨wr.heap.size, 0, none⟩)] 59) → W2.cell? ⟨wr.heap.size + 1, 0, none⟩ = some (.pointer (some ⟨wr.heap.size, 0, none⟩)) ∧ QRow W2 w.heap.size 59 1 u6 (ptrs tab (List.range i)).length (ptrs tab (List.range i)) ∧ w.heap.size ≤ W2.heap.size ∧ Below w.heap.size w W2 := by
        rintro W2 rfl
        refine ⟨?_, ?_, ?_, below_alloc (below_alloc HB.out _) _⟩
        · have h := blk_cell (blk_new (wr.alloc (.cells #[.int .i64 x, .int .i64 (i : Int), .int .i64 (i : Int), .pointer none, .pointer none] 63)) (.cells #[.pointer (some ⟨wr.heap.size, 0, none⟩)] 59)) 0
          simp
        · rw [ptrs_length, List.length_range]
          exact q_move HQ.out (fun k hk => by rw [Below.heap_alloc _ _ _ (by have := q_lt HQ.out k hk; simp; omega)]; exact Below.heap_alloc _ _ _ (q_lt HQ.out k hk))
        · simp; omega
      have HW2 := Aside0.mk hW2
      have HBS := Aside0.mk hbs
      have hw1 : wrap64 ((i : Int) + 1) = ((i + 1 : Nat) : Int) := wrapS (by have := HN.out; omega)
      clear hW2 hbs
      go_wp2_with ((with_reducible refine gate_builtin (b := .append) (xs := #[.tmp 26, .tmp 33]) rfl ?_); at_builtin; refine app_event rfl (.tmp 26) (.tmp 33) rfl rfl w.heap.size u6 (ptrs tab (List.range i)) (.pointer (some ⟨wr.heap.size, 0, none⟩)) (wr.heap.size + 1) rfl rfl (HW2.out _ rfl).1 rfl (HW2.out _ rfl).2.1 (HW2.out _ rfl).2.2.1 (by rw [ptrs_length, List.length_range]; have := HN.out; omega) ?_; intro v1 w1 h1 h2 h3; have HQ1 := Aside0.mk h1; have HG1 := Aside0.mk h2; have HAT := Aside0.mk h3; clear h1 h2 h3)
      have hb1 := (HW2.out _ rfl).2.2.2.grown HG1.out (HW2.out _ rfl).2.2.1 (fun q hq => (q_typed HQ.out q hq).1)
      have HB1 := Aside0.mk hb1
      have hg' := HG1.out
      rw [HX.out] at hg'
      obtain ⟨tab', hN', hQ'⟩ := leaf_next (l := l0) (v1 := v1) hin HNA.out HQ.out HBS.out rfl HQ1.out hg'
      have HN' := Aside0.mk hN'
      have HQ' := Aside0.mk hQ'
      clear hb1 hN' hQ' hg'
      go_roundg kq
      case measure => have := HI.out; omega
      case rel => exact ⟨i + 1, tab', by first | rfl | rw [hw1], ⟨by have := HI.out; omega⟩, HN', HQ', HB1⟩
end Go.Proofs.Ytepgcdjbhmpioaa.Fi
