/- The calls of the laws' monomial. -/
import Derived.Test.YtjkfjnempofihaaQPgE18
namespace Go.Proofs.Ytjkfjnempofihaa.Fi
open Go.RowKit Go.Shelf Go.Lib Go.Proofs.YtjkfjnempofihaaW.PrintWords Go.Proofs.YtjkfjnempofihaaW.PrintLast Go.Proofs.YtjkfjnempofihaaW.PrintMore
set_option linter.unusedVariables false
set_option linter.unusedSimpArgs false
def monV (x : List Int) (k : Nat) : List Int := (x.take k).map fun a => a % 7
theorem blk_grownR {w w1 : World} {base g t : Nat} {v : Value} {l : List Int} {c : Array Value} (hg : w.grownBy w1 v.ownBlock) (HO : RI w base v l) (hb : w.heap[g]? = some (.cells c t (0, 0))) (ht : 3 ≠ t) : w1.heap[g]? = some (.cells c t (0, 0)) := by
  rw [hg.block g (blk_lt hb) (fun e => ?_)]
  · exact hb
  · obtain ⟨d, hd⟩ := HO.typed e.symm
    exact blk_ne hd hb ht rfl
set_option maxHeartbeats 4000000 in
set_option maxRecDepth 100000 in
theorem monomial_calls (k : Nat) (x0 x1 x2 x3 : Int) (w : World) (hk : k ≤ 4) (h0 : 0 ≤ x0 ∧ x0 ≤ 255) (h1 : 0 ≤ x1 ∧ x1 ≤ 255) (h2 : 0 ≤ x2 ∧ x2 ≤ 255) (h3 : 0 ≤ x3 ∧ x3 ≤ 255) :
    Calls Try.prog 34 #[.int .i64 (k : Int), .agg #[.int .u8 x0, .int .u8 x1, .int .u8 x2, .int .u8 x3]] w fun e w' => ∃ v, e = .returned v ∧ RI w' w.heap.size v (monV [x0, x1, x2, x3] k) ∧ Below w.heap.size w w' := by
  have HK := Aside0.mk hk
  have HX0 := Aside0.mk h0
  have HX1 := Aside0.mk h1
  have HX2 := Aside0.mk h2
  have HX3 := Aside0.mk h3
  clear hk h0 h1 h2 h3
  go_enter Try.func34, Try.ntmps34
  go_wp2_with (first | ((with_reducible refine gate_dst (N := 3) rfl ?_); refine box_event ?hg (N := 3) ?hd (cs := #[.int .u8 x0, .int .u8 x1, .int .u8 x2, .int .u8 x3]) (t := 51) ?hr ?_; (case hd => rfl); (case hg => rfl); (case hr => first | (go_simp; done) | (go_simp; rfl)); intro gx hgx w1 hbox hb; have BX1 : Aside0 (w1.heap[gx]? = some (.cells #[.int .u8 x0, .int .u8 x1, .int .u8 x2, .int .u8 x3] 51 (0, 0))) := ⟨hbox⟩; have HB1 := Aside0.mk hb; clear hbox hgx hb) | ((with_reducible refine gate_dst (N := 7) rfl ?_); refine Kd.R_lit (Kd.int .i64) (w0 := w) w.heap.size 3 ?hg (N := 7) ?hd (xs := ([] : List Int)) (inner := []) (ok := fun _ => True) (okp := fun _ => True) ?hr ?hp (fun _ hk => hk) trivial HB1.out HB1.out.size (by simp) ?_; (case hd => rfl); (case hg => rfl); (case hr => first | (go_simp; done) | (go_simp; rfl)); (case hp => exact (Reps.none _ _)); intro v2 w2 h1 h2 h3 h4; have H1 := Aside0.mk h1; have H2 := Aside0.mk h2; have BX2 := Aside0.mk (blk_grown BX1.out h3 (by simp)); clear h1 h2 h3 h4))
  go_loopg [5, 6] k (fun kq v5 v6 wr => ∃ i : Nat, v6 = .int .i64 (i : Int) ∧ Aside0 (i + kq = k) ∧ Aside0 (RI wr w.heap.size v5 (monV [x0, x1, x2, x3] i)) ∧ Aside0 (wr.heap[gx]? = some (.cells #[.int .u8 x0, .int .u8 x1, .int .u8 x2, .int .u8 x3] 51 (0, 0))) ∧ Aside0 (Below w.heap.size w wr))
  case atStart => exact ⟨0, rfl, ⟨by omega⟩, H1, BX2, H2⟩
  case round =>
    clear H1 H2 BX1 BX2 HB1
    obtain ⟨i, hv6, HI, HO, BX, HB⟩ := hrel
    cases gk with
    | zero =>
      obtain rfl : i = k := by have := HI.out; omega
      subst hv6
      have hd : decide ((i : Int) < (i : Int)) = false := by simp
      go_wp2
      go_ret
      exact ⟨_, rfl, HO.out, HB.out⟩
    | succ kq =>
      have hlt : i < k := by have := HI.out; omega
      rcases (show i = 0 ∨ i = 1 ∨ i = 2 ∨ i = 3 by have := HK.out; omega) with rfl | rfl | rfl | rfl
      · change _ = Value.int .i64 0 at hv6
        subst hv6
        have sc := blk_cell BX.out 0
        have HLE : Aside0 (((monV [x0, x1, x2, x3] 0).length + 1) * 8 ≤ 140737488355328) := ⟨by simp [monV]⟩
        obtain ⟨Ao, co, rfl⟩ := Kd.R_slice HO.out
        have HP : Aside0 (monV [x0, x1, x2, x3] 0 ++ [(wrap64 x0).tmod 7] = monV [x0, x1, x2, x3] (0 + 1)) := ⟨by
          rw [wrapS (by have := HX0.out; omega), show x0.tmod 7 = x0 % 7 from Int.tmod_eq_emod_of_nonneg HX0.out.1]; rfl⟩
        go_wp2_with (((with_reducible refine gate_builtin (b := .append) (xs := #[.tmp 13, .tmp 19]) rfl ?_); at_builtin; refine Kd.R_append (Kd.int .i64) (w0 := w) w.heap.size rfl (.tmp 13) (.tmp 19) 25 3 (.int .i64 0) 8 rfl Try.underlying25 info3 rfl (by decide) (by omega) (.slice Ao (monV [x0, x1, x2, x3] 0).length co) (monV [x0, x1, x2, x3] 0) ((wrap64 x0).tmod 7) [.int .i64 ((wrap64 x0).tmod 7)] (fun _ => True) (fun _ => False) rfl rfl rfl (fun _ hk => hk.elim) (fun _ _ => trivial) HO.out HB.out HB.out.size HLE.out ?_; intro v9 w9 ho hb hg hat; have HO9 := Aside0.mk ho; have HB9 := Aside0.mk hb; have BX9 := Aside0.mk (blk_grownR hg HO.out BX.out (by decide)); clear ho hb hg hat))
        go_roundg kq
        case measure => have := HI.out; omega
        case rel => exact ⟨0 + 1, rfl, ⟨by have := HI.out; omega⟩, ⟨by rw [← HP.out]; exact HO9.out⟩, BX9, HB9⟩
      · change _ = Value.int .i64 1 at hv6
        subst hv6
        have sc := blk_cell BX.out 1
        have HLE : Aside0 (((monV [x0, x1, x2, x3] 1).length + 1) * 8 ≤ 140737488355328) := ⟨by simp [monV]⟩
        obtain ⟨Ao, co, rfl⟩ := Kd.R_slice HO.out
        have HP : Aside0 (monV [x0, x1, x2, x3] 1 ++ [(wrap64 x1).tmod 7] = monV [x0, x1, x2, x3] (1 + 1)) := ⟨by
          rw [wrapS (by have := HX1.out; omega), show x1.tmod 7 = x1 % 7 from Int.tmod_eq_emod_of_nonneg HX1.out.1]; rfl⟩
        go_wp2_with (((with_reducible refine gate_builtin (b := .append) (xs := #[.tmp 13, .tmp 19]) rfl ?_); at_builtin; refine Kd.R_append (Kd.int .i64) (w0 := w) w.heap.size rfl (.tmp 13) (.tmp 19) 25 3 (.int .i64 0) 8 rfl Try.underlying25 info3 rfl (by decide) (by omega) (.slice Ao (monV [x0, x1, x2, x3] 1).length co) (monV [x0, x1, x2, x3] 1) ((wrap64 x1).tmod 7) [.int .i64 ((wrap64 x1).tmod 7)] (fun _ => True) (fun _ => False) rfl rfl rfl (fun _ hk => hk.elim) (fun _ _ => trivial) HO.out HB.out HB.out.size HLE.out ?_; intro v9 w9 ho hb hg hat; have HO9 := Aside0.mk ho; have HB9 := Aside0.mk hb; have BX9 := Aside0.mk (blk_grownR hg HO.out BX.out (by decide)); clear ho hb hg hat))
        go_roundg kq
        case measure => have := HI.out; omega
        case rel => exact ⟨1 + 1, rfl, ⟨by have := HI.out; omega⟩, ⟨by rw [← HP.out]; exact HO9.out⟩, BX9, HB9⟩
      · change _ = Value.int .i64 2 at hv6
        subst hv6
        have sc := blk_cell BX.out 2
        have HLE : Aside0 (((monV [x0, x1, x2, x3] 2).length + 1) * 8 ≤ 140737488355328) := ⟨by simp [monV]⟩
        obtain ⟨Ao, co, rfl⟩ := Kd.R_slice HO.out
        have HP : Aside0 (monV [x0, x1, x2, x3] 2 ++ [(wrap64 x2).tmod 7] = monV [x0, x1, x2, x3] (2 + 1)) := ⟨by
          rw [wrapS (by have := HX2.out; omega), show x2.tmod 7 = x2 % 7 from Int.tmod_eq_emod_of_nonneg HX2.out.1]; rfl⟩
        go_wp2_with (((with_reducible refine gate_builtin (b := .append) (xs := #[.tmp 13, .tmp 19]) rfl ?_); at_builtin; refine Kd.R_append (Kd.int .i64) (w0 := w) w.heap.size rfl (.tmp 13) (.tmp 19) 25 3 (.int .i64 0) 8 rfl Try.underlying25 info3 rfl (by decide) (by omega) (.slice Ao (monV [x0, x1, x2, x3] 2).length co) (monV [x0, x1, x2, x3] 2) ((wrap64 x2).tmod 7) [.int .i64 ((wrap64 x2).tmod 7)] (fun _ => True) (fun _ => False) rfl rfl rfl (fun _ hk => hk.elim) (fun _ _ => trivial) HO.out HB.out HB.out.size HLE.out ?_; intro v9 w9 ho hb hg hat; have HO9 := Aside0.mk ho; have HB9 := Aside0.mk hb; have BX9 := Aside0.mk (blk_grownR hg HO.out BX.out (by decide)); clear ho hb hg hat))
        go_roundg kq
        case measure => have := HI.out; omega
        case rel => exact ⟨2 + 1, rfl, ⟨by have := HI.out; omega⟩, ⟨by rw [← HP.out]; exact HO9.out⟩, BX9, HB9⟩
      · change _ = Value.int .i64 3 at hv6
        subst hv6
        have sc := blk_cell BX.out 3
        have HLE : Aside0 (((monV [x0, x1, x2, x3] 3).length + 1) * 8 ≤ 140737488355328) := ⟨by simp [monV]⟩
        obtain ⟨Ao, co, rfl⟩ := Kd.R_slice HO.out
        have HP : Aside0 (monV [x0, x1, x2, x3] 3 ++ [(wrap64 x3).tmod 7] = monV [x0, x1, x2, x3] (3 + 1)) := ⟨by
          rw [wrapS (by have := HX3.out; omega), show x3.tmod 7 = x3 % 7 from Int.tmod_eq_emod_of_nonneg HX3.out.1]; rfl⟩
        go_wp2_with (((with_reducible refine gate_builtin (b := .append) (xs := #[.tmp 13, .tmp 19]) rfl ?_); at_builtin; refine Kd.R_append (Kd.int .i64) (w0 := w) w.heap.size rfl (.tmp 13) (.tmp 19) 25 3 (.int .i64 0) 8 rfl Try.underlying25 info3 rfl (by decide) (by omega) (.slice Ao (monV [x0, x1, x2, x3] 3).length co) (monV [x0, x1, x2, x3] 3) ((wrap64 x3).tmod 7) [.int .i64 ((wrap64 x3).tmod 7)] (fun _ => True) (fun _ => False) rfl rfl rfl (fun _ hk => hk.elim) (fun _ _ => trivial) HO.out HB.out HB.out.size HLE.out ?_; intro v9 w9 ho hb hg hat; have HO9 := Aside0.mk ho; have HB9 := Aside0.mk hb; have BX9 := Aside0.mk (blk_grownR hg HO.out BX.out (by decide)); clear ho hb hg hat))
        go_roundg kq
        case measure => have := HI.out; omega
        case rel => exact ⟨3 + 1, rfl, ⟨by have := HI.out; omega⟩, ⟨by rw [← HP.out]; exact HO9.out⟩, BX9, HB9⟩
end Go.Proofs.Ytjkfjnempofihaa.Fi
