/- The calls of least's closure. -/
import Derived.Test.YtjkfjnempofihaaQPgE4
namespace Go.Proofs.Ytjkfjnempofihaa.Fi
open Go.RowKit Go.Shelf Go.Lib Go.Proofs.YtjkfjnempofihaaW.PrintWords Go.Proofs.YtjkfjnempofihaaW.PrintLast Go.Proofs.YtjkfjnempofihaaW.PrintMore
set_option linter.unusedVariables false
set_option linter.unusedSimpArgs false
theorem eqg75 (a0 a1 a2 a3 b0 b1 b2 b3 : Int) (w : World) : (binOp .neq 75 (.agg #[.int .i64 a0, .int .i64 a1, .int .i64 a2, .int .i64 a3]) (.agg #[.int .i64 b0, .int .i64 b1, .int .i64 b2, .int .i64 b3])).run Try.prog w = .ok (.bool (!(a0 == b0 && a1 == b1 && a2 == b2 && a3 == b3))) w := by
  have h := eql75 a0 a1 a2 a3 b0 b1 b2 b3 w
  rw [run_eql_struct] at h
  rw [run_neq_struct]
  revert h
  generalize (Op.equalIn 10000 75 (.agg #[.int .i64 a0, .int .i64 a1, .int .i64 a2, .int .i64 a3]) (.agg #[.int .i64 b0, .int .i64 b1, .int .i64 b2, .int .i64 b3])).run Try.prog w = R
  cases R <;> simp [Result.andThen]
attribute [local go_sem high] eqg75
/-- What a list of monomials is asked by: a function value that says of two whether the one is below the other. -/
structure BelF (bel : M4 → M4 → Bool) (gb : Nat) : Prop where
  eg : ∀ args w, (callFunc gb args).run Try.prog w = .ok (.enter gb args) w
  calls : ∀ (a b : M4) (w : World), Calls Try.prog gb #[ag a, ag b] w fun e w' => e = .returned (.bool (bel a b)) ∧ Below w.heap.size w w'
theorem divF : BelF divM 57 := ⟨fun args w => enters_ Try.func57 (by kernel_rfl) rfl args w, divM_calls⟩
theorem wiF : BelF wiM 81 := ⟨fun args w => enters_ Try.func81 (by kernel_rfl) rfl args w, within_calls⟩
set_option maxHeartbeats 4000000 in
set_option maxRecDepth 100000 in
theorem least1_calls (bel : M4 → M4 → Bool) (gb : Nat) (hF : BelF bel gb) (x y : M4) (gx gf : Nat) (w : World) (hx : w.heap[gx]? = some (.cells (enc4 x).toArray 75 (0, 0))) (hf : w.heap[gf]? = some (.cells #[.func (.func gb) #[] #[]] 83 (0, 0))) :
    Calls Try.prog 87 #[ag y, .pointer (some ⟨gx, 0, none⟩), .pointer (some ⟨gf, 0, none⟩)] w fun e w' => e = .returned (.bool (decide (y ≠ x) && bel y x)) ∧ Below w.heap.size w w' := by
  have HB := Aside0.mk (Below.refl w.heap.size w)
  have eg := hF.eg
  have HC := Aside0.mk (hF.calls y x)
  have HX := Aside0.mk hx
  have HF := Aside0.mk hf
  obtain ⟨r, hr⟩ : ∃ r, bel y x = r := ⟨_, rfl⟩
  rw [hr] at HC ⊢
  clear hx hf hr hF
  obtain ⟨x0, x1, x2, x3⟩ := x
  obtain ⟨y0, y1, y2, y3⟩ := y
  have HE : Aside0 (decide ((y0, y1, y2, y3) ≠ (x0, x1, x2, x3)) = !(y0 == x0 && y1 == x1 && y2 == x2 && y3 == x3)) := ⟨by
    rw [Bool.eq_iff_iff]; simp [and_assoc, or_assoc]⟩
  rw [HE.out]
  obtain ⟨q, hq⟩ : ∃ q, (y0 == x0 && y1 == x1 && y2 == x2 && y3 == x3) = q := ⟨_, rfl⟩
  have HX' : Aside0 (w.heap[gx]? = some (.cells #[.int .i64 x0, .int .i64 x1, .int .i64 x2, .int .i64 x3] 75 (0, 0))) := ⟨HX.out⟩
  have HC' : Aside0 (∀ w : World, Calls Try.prog gb #[.agg #[.int .i64 y0, .int .i64 y1, .int .i64 y2, .int .i64 y3], .agg #[.int .i64 x0, .int .i64 x1, .int .i64 x2, .int .i64 x3]] w fun e w' => e = .returned (.bool r) ∧ Below w.heap.size w w') := ⟨HC.out⟩
  show Calls Try.prog 87 #[.agg #[.int .i64 y0, .int .i64 y1, .int .i64 y2, .int .i64 y3], .pointer (some ⟨gx, 0, none⟩), .pointer (some ⟨gf, 0, none⟩)] w _
  clear HX HC HE
  cases q with
  | true =>
    rw [hq]
    go_enter Try.func87, Try.ntmps87
    go_wp2_with ((with_reducible refine gate_dst (N := 3) rfl ?_); refine box_event ?hg (N := 3) ?hd (cs := #[.int .i64 y0, .int .i64 y1, .int .i64 y2, .int .i64 y3]) (t := 75) ?hr ?_; (case hd => rfl); (case hg => rfl); (case hr => first | (go_simp; done) | (go_simp; rfl)); intro ga hga w1 hbox hb; have BX := blk_below HX'.out hb; have BF := blk_below HF.out hb; have s0 := blk_cell hbox 0; have s1 := blk_cell hbox 1; have s2 := blk_cell hbox 2; have s3 := blk_cell hbox 3; have o0 := blk_cell BX 0; have o1 := blk_cell BX 1; have o2 := blk_cell BX 2; have o3 := blk_cell BX 3; have f0 := blk_cell BF 0; have HB1 := Aside0.mk (below_step HB.out hb); clear hbox hb hga BX BF)
    go_ret
    exact ⟨rfl, HB1.out⟩
  | false =>
    rw [hq]
    go_enter Try.func87, Try.ntmps87
    go_wp2_with (first
      | ((with_reducible refine gate_dst (N := 3) rfl ?_); refine box_event ?hg (N := 3) ?hd (cs := #[.int .i64 y0, .int .i64 y1, .int .i64 y2, .int .i64 y3]) (t := 75) ?hr ?_; (case hd => rfl); (case hg => rfl); (case hr => first | (go_simp; done) | (go_simp; rfl)); intro ga hga w1 hbox hb; have BX := blk_below HX'.out hb; have BF := blk_below HF.out hb; have s0 := blk_cell hbox 0; have s1 := blk_cell hbox 1; have s2 := blk_cell hbox 2; have s3 := blk_cell hbox 3; have o0 := blk_cell BX 0; have o1 := blk_cell BX 1; have o2 := blk_cell BX 2; have o3 := blk_cell BX 3; have f0 := blk_cell BF 0; have HB1 := Aside0.mk (below_step HB.out hb); clear hbox hb hga BX BF)
      | (go_at_fn gb; refine (HC'.out _).mono ?_; rintro e w2 ⟨rfl, hb⟩; have HB2 := Aside0.mk (below_step HB1.out hb); clear hb))
    go_ret
    exact ⟨rfl, HB2.out⟩
end Go.Proofs.Ytjkfjnempofihaa.Fi
