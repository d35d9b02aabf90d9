/- The calls of pack.divides. -/
import Derived.Test.YtjkfjnempofihaaQPgE0
import Derived.ChangeKeysEq
namespace Go.Proofs.Ytjkfjnempofihaa.Fi
open Go.RowKit Go.Proofs.YtjkfjnempofihaaW.PrintWords Go.Proofs.YtjkfjnempofihaaW.PrintLast Go.Proofs.YtjkfjnempofihaaW.PrintMore
set_option linter.unusedVariables false
set_option linter.unusedSimpArgs false
theorem info3p : (Try.prog.info? 3).map (fun i => (i.zero, i.size)) = some (some (.int .i64 0), 1) := by kernel_rfl
theorem cells3 : Try.prog.cellsOf 3 = 1 := by kernel_rfl
theorem eql75 (a0 a1 a2 a3 b0 b1 b2 b3 : Int) (w : World) : (binOp .eql 75 (.agg #[.int .i64 a0, .int .i64 a1, .int .i64 a2, .int .i64 a3]) (.agg #[.int .i64 b0, .int .i64 b1, .int .i64 b2, .int .i64 b3])).run Try.prog w = .ok (.bool (a0 == b0 && a1 == b1 && a2 == b2 && a3 == b3)) w := by
  obtain ⟨i0, hi, hzz⟩ := Option.map_eq_some_iff.1 info3p
  rw [run_eql_struct]
  have h : (Op.equalIn 10000 75 (.agg #[.int .i64 a0, .int .i64 a1, .int .i64 a2, .int .i64 a3]) (.agg #[.int .i64 b0, .int .i64 b1, .int .i64 b2, .int .i64 b3])).run Try.prog w = .ok (a0 == b0 && a1 == b1 && a2 == b2 && a3 == b3) w := by
    have h1 := run_equalIn_array (P := Try.prog) w 9999 #[.int .i64 a0, .int .i64 a1, .int .i64 a2, .int .i64 a3] #[.int .i64 b0, .int .i64 b1, .int .i64 b2, .int .i64 b3] Try.underlying75 hi
    refine h1.trans ?_
    rw [cells3, show List.range 4 = [0, 1, 2, 3] from rfl]
    simp only [Op.eqItems]
    go_simp
    by_cases h0 : a0 = b0 <;> by_cases h1 : a1 = b1 <;> by_cases h2 : a2 = b2 <;> by_cases h3 : a3 = b3 <;> simp [h0, h1, h2, h3]
  rw [h]
  rfl
attribute [local go_sem high] eql75
/-- Whether a monomial divides another one. -/
def divB (a b : List Int) : Bool := decide (lcmS a b = b)
set_option maxHeartbeats 4000000 in
set_option maxRecDepth 100000 in
theorem divides_calls (a b : List Int) (ha : a.length = 4) (hb : b.length = 4) (w : World) :
    Calls Try.prog 57 #[agg4 a, agg4 b] w fun e w' => e = .returned (.bool (divB a b)) ∧ Below w.heap.size w w' := by
  have HB := Aside0.mk (Below.refl w.heap.size w)
  have HLC := Aside0.mk (fun w => lcm_calls a b ha hb w)
  obtain ⟨p, q, r, s, he⟩ := len4 (lcmS_len a b)
  have HR : Aside0 (agg4 (lcmS a b) = .agg #[.int .i64 p, .int .i64 q, .int .i64 r, .int .i64 s]) := ⟨by rw [he]; rfl⟩
  obtain ⟨a0, a1, a2, a3, hae⟩ := len4 ha
  obtain ⟨b0, b1, b2, b3, hbe⟩ := len4 hb
  have hav : agg4 a = .agg #[.int .i64 a0, .int .i64 a1, .int .i64 a2, .int .i64 a3] := by rw [hae]; rfl
  have hbv : agg4 b = .agg #[.int .i64 b0, .int .i64 b1, .int .i64 b2, .int .i64 b3] := by rw [hbe]; rfl
  have HDIV : Aside0 (divB a b = (p == b0 && q == b1 && r == b2 && s == b3)) := ⟨by
    unfold divB
    rw [he, hbe]
    rw [Bool.eq_iff_iff]
    simp [and_assoc]⟩
  rw [hav, hbv, HR.out] at HLC
  rw [hav, hbv]
  clear ha hb hae hbe hav hbv he
  go_enter Try.func57, Try.ntmps57
  go_wp2_with (first
    | ((with_reducible refine gate_dst (N := 2) rfl ?_); refine box_event ?hg (N := 2) ?hd (cs := #[.int .i64 a0, .int .i64 a1, .int .i64 a2, .int .i64 a3]) (t := 75) ?hr ?_; (case hd => rfl); (case hg => rfl); (case hr => first | (go_simp; done) | (go_simp; rfl)); intro ga hga w1 hbox hb; have BA := Aside0.mk hbox; have HB1 := Aside0.mk (below_step HB.out hb); clear hbox hb hga)
    | ((with_reducible refine gate_dst (N := 3) rfl ?_); refine box_event ?hg (N := 3) ?hd (cs := #[.int .i64 b0, .int .i64 b1, .int .i64 b2, .int .i64 b3]) (t := 75) ?hr ?_; (case hd => rfl); (case hg => rfl); (case hr => first | (go_simp; done) | (go_simp; rfl)); intro gb hgb w2 hbox hb; have BB := Aside0.mk hbox; have BA2 := Aside0.mk (blk_below BA.out hb); have HB2 := Aside0.mk (below_step HB1.out hb); clear hbox hb hgb))
  have s0 := blk_cell BA2.out 0
  have s1 := blk_cell BA2.out 1
  have s2 := blk_cell BA2.out 2
  have s3 := blk_cell BA2.out 3
  have o0 := blk_cell BB.out 0
  have o1 := blk_cell BB.out 1
  have o2 := blk_cell BB.out 2
  have o3 := blk_cell BB.out 3
  clear BA HB1
  go_region_with (go_at_call 80; refine (HLC.out _).mono ?_; rintro e w9 ⟨rfl, hb9⟩; have hbb := blk_below (blk_drew BB.out) hb9; have o0 := blk_cell hbb 0; have o1 := blk_cell hbb 1; have o2 := blk_cell hbb 2; have o3 := blk_cell hbb 3; have HB9 := Aside0.mk (below_step (below_drew1 HB2.out) hb9))
  all_goals go_wp2
  all_goals go_ret
  all_goals (refine ⟨?_, by first | exact HB9.out | exact pw_below_drewN HB9.out _ | exact below_drew1 HB9.out⟩)
  all_goals (rw [HDIV.out]; rfl)
end Go.Proofs.Ytjkfjnempofihaa.Fi
