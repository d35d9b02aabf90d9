/- An append to a row that its caller holds too: the cells below stay. -/
import Derived.Test.YtepgcdjbhmpioaaQTeT4
import Derived.Maps.AppendAt
namespace Go.Proofs.Ytepgcdjbhmpioaa.Fi
open Go.RowKit Go.Proofs.YtepgcdjbhmpioaaW.PrintWords Go.Proofs.YtepgcdjbhmpioaaW.PrintLast Go.Proofs.YtepgcdjbhmpioaaW.PrintMore
set_option linter.unusedVariables false
set_option linter.unusedSimpArgs false
def ints (l : List Int) : List Value := l.map (Value.int .i64)
/-- A row of ints of the call's own. -/
def TRow (W : World) (base : Nat) (v : Value) (l : List Int) : Prop := W.ownsRow base 3 1 v l.length (ints l)
/-- What a row holds below n stays. -/
def RowKept (W W' : World) (v : Value) (n : Nat) : Prop := ∀ g cur, v.ownBlock = some g → W.heap[g]? = some (.cells cur 3 (0, 0)) → ∃ cur', W'.heap[g]? = some (.cells cur' 3 (0, 0)) ∧ cur'.size = cur.size ∧ cur'.toList.take n = cur.toList.take n
theorem RowKept.refl (W : World) (v : Value) (n : Nat) : RowKept W W v n := fun g cur _ h => ⟨cur, h, rfl, rfl⟩
theorem RowKept.trans {W W1 W2 : World} {v : Value} {n : Nat} (h1 : RowKept W W1 v n) (h2 : RowKept W1 W2 v n) : RowKept W W2 v n := fun g cur hv hg => by
  obtain ⟨c1, a1, a2, a3⟩ := h1 g cur hv hg
  obtain ⟨c2, b1, b2, b3⟩ := h2 g c1 hv a1
  exact ⟨c2, b1, b2.trans a2, b3.trans a3⟩
theorem RowKept.of_block {W W' : World} {v : Value} {n : Nat} (h : ∀ g, v.ownBlock = some g → g < W.heap.size → W'.heap[g]? = W.heap[g]?) : RowKept W W' v n := fun g cur hv hg => ⟨cur, (h g hv (blk_lt hg)).trans hg, rfl, rfl⟩
theorem RowKept.less {W W' : World} {v : Value} {n m : Nat} (h : RowKept W W' v n) (hm : m ≤ n) : RowKept W W' v m := fun g cur hv hg => by
  obtain ⟨c1, a1, a2, a3⟩ := h g cur hv hg
  refine ⟨c1, a1, a2, ?_⟩
  have := congrArg (List.take m) a3
  rwa [List.take_take, List.take_take, Nat.min_eq_left hm] at this
theorem TRow.kept {W W' : World} {base : Nat} {v : Value} {l : List Int} (h : TRow W base v l) (hk : RowKept W W' v l.length) : TRow W' base v l := by
  obtain ⟨h1, h2⟩ := h
  refine ⟨h1, ?_⟩
  rcases h2 with h2 | ⟨g, cap, cur, rfl, hb, hg, hn, hm, hc, ht⟩
  · exact .inl h2
  · obtain ⟨cur', a1, a2, a3⟩ := hk g cur rfl hg
    exact .inr ⟨g, cap, cur', rfl, hb, a1, hn, hm, a2.trans hc, by rw [Nat.mul_one] at ht ⊢; rw [a3]; exact ht⟩
theorem TRow.R {W : World} {base : Nat} {v : Value} {l : List Int} (h : TRow W base v l) : Kd.R (Kd.int .i64) 3 W base (fun _ => True) v l := ⟨fun _ _ => trivial, ints l, h, Kd.reps_scalar l⟩
theorem TRow.reads {W : World} {base : Nat} {v : Value} {l : List Int} (h : TRow W base v l) (hl : l.length ≤ 9223372036854775807) : ∃ A c, v = .slice A l.length c ∧ l.length ≤ c ∧ Kd.C (Kd.int .i64) W A l.length l := by
  have hR : Kd.R (Kd.int .i64) 3 W base (fun _ => True) v l := h.R
  obtain ⟨A, c, rfl⟩ := Kd.R_slice hR
  exact ⟨A, c, rfl, (Kd.R_reads' hR).2.1, (Kd.R_reads' hR).2.2⟩
theorem team_append (W : World) (base : Nat) (v : Value) (l : List Int) (x : Int) (hown : TRow W base v l) (hbase : base ≤ W.heap.size) (hl : l.length ≤ 1000) :
    ∃ v1 w1, (Builtin.append_ #[22, 22] 22 #[v, .slice (some ⟨W.heap.size, 0, none⟩) 1 1]).run Try.prog (W.alloc (.cells #[.int .i64 x] 3)) = .ok v1 w1 ∧ TRow w1 base v1 (l ++ [x]) ∧ W.grownBy w1 v.ownBlock ∧ (v1.ownBlock = v.ownBlock ∨ ∃ b, v1.ownBlock = some b ∧ W.heap.size ≤ b) ∧ RowKept W w1 v l.length := by
  obtain ⟨i0, hi, hzz⟩ := Option.map_eq_some_iff.1 info3
  simp only [Prod.mk.injEq] at hzz
  obtain ⟨hz0, hz1, hz2⟩ := hzz
  have hnews : ∀ j u, [Value.int .i64 x][j]? = some u → (W.alloc (.cells #[.int .i64 x] 3)).cell? ((⟨W.heap.size, 0, none⟩ : Addr).add j) = some u := cell_one_new W _ 3
  obtain ⟨v1, w1, hr, ho, hg, _, hat⟩ := run_append_own_at (P := Try.prog) (W.alloc (.cells #[.int .i64 x] 3)) base 22 22 3 i0 (.int .i64 0) 1 8 Try.underlying22 hi hz0 hz1 hz2 rfl (by decide) v l.length (ints l) (World.ownsRow.alloc hown _) ⟨W.heap.size, 0, none⟩ 1 1 [.int .i64 x] (by simp) hnews (by simp [Value.oneCell']) (by simp only [maxLen]; omega) (by omega) (by simp; omega)
  refine ⟨v1, w1, hr, by unfold TRow; simpa [ints] using ho, World.grownBy.trans (World.grownBy_alloc W _ _) hg, hat.imp id (fun h => ⟨_, h, by simp⟩), ?_⟩
  obtain ⟨_, hown⟩ := hown
  rcases hown with ⟨rfl, _⟩ | ⟨g, cap, cur, rfl, hbg, hgc, hnc, hcm, hcs, htake⟩
  · intro g cur hv; cases hv
  · have hgW : (W.alloc (.cells #[.int .i64 x] 3)).heap[g]? = some (.cells cur 3 (0, 0)) := blk_alloc hgc _
    by_cases hroom : l.length + 1 ≤ cap
    · have hr2 := run_append_room (P := Try.prog) (W.alloc (.cells #[.int .i64 x] 3)) 22 22 3 i0 Try.underlying22 hi g l.length cap cur hgW ⟨W.heap.size, 0, none⟩ 1 1 [.int .i64 x] (by rw [hz1]; rfl) hnews (by simp [Value.oneCell']) hroom (by rw [hz1]; simp; omega)
      rw [hr] at hr2
      injection hr2 with _ e
      subst e
      intro g' cur' hv hg'
      obtain rfl : g = g' := by simpa [Value.ownBlock] using hv
      rw [hgc] at hg'
      obtain rfl : cur = cur' := by simpa using hg'
      refine ⟨_, setRow_heap _ g cur _ 3 _ hgW, ?_, ?_⟩
      · rw [hz1]
        simp
        omega
      · have hle : l.length ≤ cur.toList.length := by show l.length ≤ cur.size; omega
        rw [hz1, Nat.mul_one, List.append_assoc]
        show List.take l.length (List.take l.length cur.toList ++ _) = _
        rw [List.take_append_of_le_length (by rw [List.length_take, Nat.min_eq_left hle]; exact Nat.le_refl _), List.take_take, Nat.min_self]
    · have hr2 := run_append_grow (P := Try.prog) (W.alloc (.cells #[.int .i64 x] 3)) 22 22 3 i0 (.int .i64 0) Try.underlying22 hi hz0 ⟨g, 0, none⟩ l.length cap (ints l) (by rw [hz1]; simp [ints]) (World.ownsRow.cells (World.ownsRow.alloc (show World.ownsRow W base 3 1 _ l.length (ints l) from ⟨by simp [ints], .inr ⟨g, cap, cur, rfl, hbg, hgc, hnc, hcm, hcs, htake⟩⟩) _) (g := g) rfl) ⟨W.heap.size, 0, none⟩ 1 1 [.int .i64 x] (by rw [hz1]; rfl) hnews (by omega) (by omega) (growslice_fits (by omega) (by rw [hz2]; omega))
      rw [hr] at hr2
      injection hr2 with _ e
      subst e
      refine RowKept.of_block fun g' hv hlt => ?_
      rw [Below.heap_alloc _ _ _ (by simp; omega)]
      exact Below.heap_alloc _ _ _ hlt
end Go.Proofs.Ytepgcdjbhmpioaa.Fi
