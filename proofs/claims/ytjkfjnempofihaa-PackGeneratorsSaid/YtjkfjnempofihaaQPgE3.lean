/- The calls of pack.compare. -/
import Derived.Test.YtjkfjnempofihaaQPgE2
import Derived.Test.YtjkfjnempofihaaQPgFi1
namespace Go.Proofs.Ytjkfjnempofihaa.Fi
open Go.Sort (alloc_eq_grow grow_grow)
open Go.RowKit Go.Shelf Go.Lib Go.Proofs.YtjkfjnempofihaaW.PrintWords Go.Proofs.YtjkfjnempofihaaW.PrintLast Go.Proofs.YtjkfjnempofihaaW.PrintMore
set_option linter.unusedVariables false
set_option linter.unusedSimpArgs false
def cmpI (a b : Int) (r : Int) : Int := if a < b then -1 else if a > b then 1 else r
/-- The lexicographic order. -/
def cmpM (a b : M4) : Int := cmpI a.1 b.1 (cmpI a.2.1 b.2.1 (cmpI a.2.2.1 b.2.2.1 (cmpI a.2.2.2 b.2.2.2 0)))
theorem cmpCompare_f (a b : Int) : cmp_Compare_int.f a b = some (cmpI a b 0) := by
  simp [cmp_Compare_int.f, cmp_isNaN_int.f, cmpI]
  split
  · rfl
  · split <;> rfl
theorem compare_l (k : Nat) (x y : List Int) (i : Nat) (hx : x.length = 4) (hy : y.length = 4) (hi : i < 4) : slices_Compare_int_int.l0 (k + 1) x y x 4 (i : Int) = if cmpI (x.getD i 0) (y.getD i 0) 0 = 0 then slices_Compare_int_int.l0 k x y x 4 ((i + 1 : Nat) : Int) else some (cmpI (x.getD i 0) (y.getD i 0) 0) := by
  rw [slices_Compare_int_int.l0, if_pos (by omega), if_pos (by omega), if_pos (by omega), if_neg (by omega), if_pos (by omega), cmpCompare_f]
  simp only [Option.bind_some, rd, Int.toNat_natCast]
  rw [show wrap64 ((i : Int) + 1) = ((i + 1 : Nat) : Int) from wrapS (by omega)]
theorem cmpI_step (a b r : Int) : (if cmpI a b 0 = 0 then some r else some (cmpI a b 0)) = some (cmpI a b r) := by
  unfold cmpI
  split
  · rfl
  · split <;> rfl
theorem compare_f (a b : M4) : slices_Compare_int_int.f 5 (tl a) (tl b) = some (cmpM a b) := by
  show slices_Compare_int_int.l0 5 (tl a) (tl b) (tl a) 4 ((0 : Nat) : Int) = _
  have e : slices_Compare_int_int.l0 1 (tl a) (tl b) (tl a) 4 ((4 : Nat) : Int) = some 0 := by
    rw [slices_Compare_int_int.l0, if_neg (by omega), if_neg (by simp [tl_len])]
  rw [compare_l 4 _ _ 0 (tl_len a) (tl_len b) (by omega), compare_l 3 _ _ 1 (tl_len a) (tl_len b) (by omega), compare_l 2 _ _ 2 (tl_len a) (tl_len b) (by omega), compare_l 1 _ _ 3 (tl_len a) (tl_len b) (by omega), e]
  simp only [cmpI_step]
  rfl
set_option maxHeartbeats 2000000 in
set_option maxRecDepth 100000 in
theorem compare_calls (a b : M4) (w : World) : Calls Try.prog 79 #[ag a, ag b] w fun e w' => e = .returned (.int .i64 (cmpM a b)) ∧ ∃ q os', w' = Go.Sort.grow (w.drewN q) os' := by
  have HF := Aside0.mk (compare_f a b)
  obtain ⟨r, hr⟩ : ∃ r, r = cmpM a b := ⟨_, rfl⟩
  rw [← hr] at HF ⊢
  clear hr
  obtain ⟨a0, a1, a2, a3⟩ := a
  obtain ⟨b0, b1, b2, b3⟩ := b
  have HC : Aside0 (∀ W, (∀ j, j < 4 → W.cell? ⟨w.heap.size, j, none⟩ = some (.int .i64 ([a0, a1, a2, a3].getD j 0))) → (∀ j, j < 4 → W.cell? ⟨w.heap.size + 1, j, none⟩ = some (.int .i64 ([b0, b1, b2, b3].getD j 0))) → Calls Try.prog 90 #[.slice (some ⟨w.heap.size, 0, none⟩) 4 4, .slice (some ⟨w.heap.size + 1, 0, none⟩) 4 4] W fun e w' => e = .returned (.int .i64 r) ∧ Drawn0 W w') := ⟨fun W h0 h1 =>
    slices_Compare_int_int.calls 5 _ 4 [a0, a1, a2, a3] _ 4 [b0, b1, b2, b3] r W ⟨rfl, by simp, fun _ => ⟨_, rfl, fun j p hj => ⟨[.int .i64 p], rfl, rfl, fun i u hu => by
      have hj4 : j < 4 := by have := (List.getElem?_eq_some_iff.1 hj).1; simpa using this
      have hi : i = 0 := by have := (List.getElem?_eq_some_iff.1 hu).1; simpa using this
      subst hi
      have e : u = .int .i64 p := by simpa using hu.symm
      rw [e, Addr.add_lit]
      have := h0 j hj4
      rw [List.getD_eq_getElem?_getD, hj] at this
      simpa [Kd.int, Kd.scalar] using this⟩⟩⟩ (Nat.le_refl _) ⟨rfl, by simp, fun _ => ⟨_, rfl, fun j p hj => ⟨[.int .i64 p], rfl, rfl, fun i u hu => by
      have hj4 : j < 4 := by have := (List.getElem?_eq_some_iff.1 hj).1; simpa using this
      have hi : i = 0 := by have := (List.getElem?_eq_some_iff.1 hu).1; simpa using this
      subst hi
      have e : u = .int .i64 p := by simpa using hu.symm
      rw [e, Addr.add_lit]
      have := h1 j hj4
      rw [List.getD_eq_getElem?_getD, hj] at this
      simpa [Kd.int, Kd.scalar] using this⟩⟩⟩ (Nat.le_refl _) HF.out⟩
  show Calls Try.prog 79 #[.agg #[.int .i64 a0, .int .i64 a1, .int .i64 a2, .int .i64 a3], .agg #[.int .i64 b0, .int .i64 b1, .int .i64 b2, .int .i64 b3]] w _
  clear HF
  have HB0 : Aside0 (((w.alloc (.cells #[.int .i64 a0, .int .i64 a1, .int .i64 a2, .int .i64 a3] 75)).alloc (.cells #[.int .i64 b0, .int .i64 b1, .int .i64 b2, .int .i64 b3] 75)).heap[w.heap.size]? = some (.cells (ints [a0, a1, a2, a3]).toArray 75 (0, 0))) := ⟨(heap_alloc_old _ _ (by simp)).trans (heap_alloc_new w _)⟩
  have HB1 : Aside0 (((w.alloc (.cells #[.int .i64 a0, .int .i64 a1, .int .i64 a2, .int .i64 a3] 75)).alloc (.cells #[.int .i64 b0, .int .i64 b1, .int .i64 b2, .int .i64 b3] 75)).heap[w.heap.size + 1]? = some (.cells (ints [b0, b1, b2, b3]).toArray 75 (0, 0))) := ⟨by
    have := heap_alloc_new (w.alloc (.cells #[.int .i64 a0, .int .i64 a1, .int .i64 a2, .int .i64 a3] 75)) (.cells #[.int .i64 b0, .int .i64 b1, .int .i64 b2, .int .i64 b3] 75)
    rwa [show (w.alloc (.cells #[.int .i64 a0, .int .i64 a1, .int .i64 a2, .int .i64 a3] 75)).heap.size = w.heap.size + 1 from by simp] at this⟩
  go_enter Try.func79, Try.ntmps79
  go_wp2
  go_region_with (go_at_call 90; refine (HC.out _ (fun j hj => ints_cell (t := 75) (blk_drew HB0.out) hj) (fun j hj => ints_cell (t := 75) (blk_drew HB1.out) hj)).mono ?_; rintro e w9 ⟨rfl, ⟨nd, rfl⟩⟩)
  all_goals go_wp2
  all_goals go_ret
  all_goals (refine ⟨rfl, ?_⟩)
  all_goals (rw [alloc_eq_grow, alloc_eq_grow, grow_grow])
  all_goals exact ⟨_, _, rfl⟩
end Go.Proofs.Ytjkfjnempofihaa.Fi
