/- The calls of the closure of Dual, that asks what does not divide. -/
import Derived.Test.YtjkfjnempofihaaQPgE8
namespace Go.Proofs.Ytjkfjnempofihaa.Fi
open Go.RowKit Go.Shelf Go.Lib Go.Proofs.YtjkfjnempofihaaW.PrintWords Go.Proofs.YtjkfjnempofihaaW.PrintLast Go.Proofs.YtjkfjnempofihaaW.PrintMore
set_option linter.unusedVariables false
set_option linter.unusedSimpArgs false
set_option maxHeartbeats 4000000 in
set_option maxRecDepth 100000 in
theorem not1_calls (x m : M4) (gm : Nat) (w : World) (hm : w.heap[gm]? = some (.cells (enc4 m).toArray 75 (0, 0))) :
    Calls Try.prog 56 #[ag x, pt gm] w fun e w' => e = .returned (.bool (!divM x m)) ∧ Below w.heap.size w w' := by
  have HB := Aside0.mk (Below.refl w.heap.size w)
  have HM := Aside0.mk hm
  have HC := Aside0.mk (divM_calls x m)
  obtain ⟨r, hr⟩ : ∃ r, divM x m = r := ⟨_, rfl⟩
  rw [hr] at HC ⊢
  clear hm hr
  obtain ⟨m0, m1, m2, m3⟩ := m
  obtain ⟨x0, x1, x2, x3⟩ := x
  show Calls Try.prog 56 #[.agg #[.int .i64 x0, .int .i64 x1, .int .i64 x2, .int .i64 x3], .pointer (some ⟨gm, 0, none⟩)] w _
  go_enter Try.func56, Try.ntmps56
  go_wp2_with (first
    | ((with_reducible refine gate_dst (N := 2) rfl ?_); refine box_event ?hg (N := 2) ?hd (cs := #[.int .i64 x0, .int .i64 x1, .int .i64 x2, .int .i64 x3]) (t := 75) ?hr ?_; (case hd => rfl); (case hg => rfl); (case hr => first | (go_simp; done) | (go_simp; rfl)); intro ga hga w1 hbox hb; have BX : w1.heap[gm]? = some (.cells #[.int .i64 m0, .int .i64 m1, .int .i64 m2, .int .i64 m3] 75 (0, 0)) := blk_below HM.out hb; have s0 := blk_cell hbox 0; have s1 := blk_cell hbox 1; have s2 := blk_cell hbox 2; have s3 := blk_cell hbox 3; have o0 := blk_cell BX 0; have o1 := blk_cell BX 1; have o2 := blk_cell BX 2; have o3 := blk_cell BX 3; have HB1 := Aside0.mk (below_step HB.out hb); clear hbox hb hga BX)
    | (go_at_call 57; refine (HC.out _).mono ?_; rintro e w2 ⟨rfl, hb⟩; have HB2 := Aside0.mk (below_step HB1.out hb); clear hb))
  go_ret
  exact ⟨rfl, HB2.out⟩
theorem eg56 (args : Array Value) (w : World) : (callFunc 56 args).run Try.prog w = .ok (.enter 56 args) w := enters_ Try.func56 (by kernel_rfl) rfl args w
theorem anyNot (l : List M4) (v : Value) (m : M4) (gm : Nat) (W : World) (hM : MR W 0 v l) (hm : W.heap[gm]? = some (.cells (enc4 m).toArray 75 (0, 0))) :
    Calls Try.prog 54 #[v, .func (.func 56) #[] #[pt gm]] W fun e w' => e = .returned (.bool (l.any fun x => !divM x m)) ∧ Below W.heap.size W w' :=
  any_calls v l (fun x => !divM x m) 56 _ W eg56 hM (fun W' y hW => (not1_calls y m gm W' (blk_below hm hW)).mono (fun e w' hh => ⟨hh.1, below_step hW hh.2⟩))
end Go.Proofs.Ytjkfjnempofihaa.Fi
