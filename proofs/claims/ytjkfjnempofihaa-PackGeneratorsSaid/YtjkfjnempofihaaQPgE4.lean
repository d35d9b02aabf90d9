/- The calls of pack.within. -/
import Derived.Test.YtjkfjnempofihaaQPgE3
namespace Go.Proofs.Ytjkfjnempofihaa.Fi
open Go.RowKit Go.Proofs.YtjkfjnempofihaaW.PrintWords Go.Proofs.YtjkfjnempofihaaW.PrintLast Go.Proofs.YtjkfjnempofihaaW.PrintMore
set_option linter.unusedVariables false
set_option linter.unusedSimpArgs false
/-- At one variable: the power of the one part is in the other. -/
def wiI (x y : Int) : Bool := !(decide (0 < x) && (y == 0 || decide (x < y)))
def wiM (a b : M4) : Bool := wiI a.1 b.1 && wiI a.2.1 b.2.1 && wiI a.2.2.1 b.2.2.1 && wiI a.2.2.2 b.2.2.2
theorem wiM_all (a b : M4) (h : ∀ j, j < 4 → wiI ((tl a).getD j 0) ((tl b).getD j 0) = true) : wiM a b = true := by
  have h0 := h 0 (by omega)
  have h1 := h 1 (by omega)
  have h2 := h 2 (by omega)
  have h3 := h 3 (by omega)
  simp only [tl, List.getD_cons_zero, List.getD_cons_succ] at h0 h1 h2 h3
  simp [wiM, h0, h1, h2, h3]
theorem wiM_not (a b : M4) (j : Nat) (hj : j < 4) (h : wiI ((tl a).getD j 0) ((tl b).getD j 0) = false) : wiM a b = false := by
  rcases (show j = 0 ∨ j = 1 ∨ j = 2 ∨ j = 3 by omega) with rfl | rfl | rfl | rfl <;> (simp only [tl, List.getD_cons_zero, List.getD_cons_succ] at h; simp [wiM, h])
set_option maxHeartbeats 4000000 in
set_option maxRecDepth 100000 in
theorem within_calls (a b : M4) (w : World) : Calls Try.prog 81 #[ag a, ag b] w fun e w' => e = .returned (.bool (wiM a b)) ∧ Below w.heap.size w w' := by
  have HALL := Aside0.mk (wiM_all a b)
  have HNOT := Aside0.mk (wiM_not a b)
  have HB := Aside0.mk (Below.refl w.heap.size w)
  obtain ⟨r, hr⟩ : ∃ r, r = wiM a b := ⟨_, rfl⟩
  rw [← hr] at HALL HNOT ⊢
  have HAV : Aside0 (ag a = .agg #[.int .i64 a.1, .int .i64 a.2.1, .int .i64 a.2.2.1, .int .i64 a.2.2.2]) := ⟨rfl⟩
  have HBV : Aside0 (ag b = .agg #[.int .i64 b.1, .int .i64 b.2.1, .int .i64 b.2.2.1, .int .i64 b.2.2.2]) := ⟨rfl⟩
  have HAE : Aside0 ((#[.int .i64 a.1, .int .i64 a.2.1, .int .i64 a.2.2.1, .int .i64 a.2.2.2] : Array Value) = (ints (tl a)).toArray) := ⟨rfl⟩
  have HBE : Aside0 ((#[.int .i64 b.1, .int .i64 b.2.1, .int .i64 b.2.2.1, .int .i64 b.2.2.2] : Array Value) = (ints (tl b)).toArray) := ⟨rfl⟩
  have HLA := Aside0.mk (tl_len a)
  have HLB := Aside0.mk (tl_len b)
  obtain ⟨la, hla⟩ : ∃ l, l = tl a := ⟨_, rfl⟩
  obtain ⟨lb, hlb⟩ : ∃ l, l = tl b := ⟨_, rfl⟩
  rw [← hla] at HALL HNOT HAE HLA
  rw [← hlb] at HALL HNOT HBE HLB
  rw [HAV.out, HBV.out]
  obtain ⟨a0, a1, a2, a3⟩ := a
  obtain ⟨b0, b1, b2, b3⟩ := b
  clear hr hla hlb HAV HBV
  dsimp only at HAE HBE ⊢
  go_enter Try.func81, Try.ntmps81
  go_wp2_with (first
    | ((with_reducible refine gate_dst (N := 2) rfl ?_); refine box_event ?hg (N := 2) ?hd (cs := #[.int .i64 a0, .int .i64 a1, .int .i64 a2, .int .i64 a3]) (t := 75) ?hr ?_; (case hd => rfl); (case hg => rfl); (case hr => first | (go_simp; done) | (go_simp; rfl)); intro ga hga w1 hbox hb; rw [HAE.out] at hbox; have BA := Aside0.mk hbox; have HB1 := Aside0.mk (below_step HB.out hb); clear hbox hb hga)
    | ((with_reducible refine gate_dst (N := 3) rfl ?_); refine box_event ?hg (N := 3) ?hd (cs := #[.int .i64 b0, .int .i64 b1, .int .i64 b2, .int .i64 b3]) (t := 75) ?hr ?_; (case hd => rfl); (case hg => rfl); (case hr => first | (go_simp; done) | (go_simp; rfl)); intro gb hgb w2 hbox hb; rw [HBE.out] at hbox; have BB := Aside0.mk hbox; have BA2 := Aside0.mk (blk_below BA.out hb); have HB2 := Aside0.mk (below_step HB1.out hb); clear hbox hb hgb))
  go_loopg [5, 6] 4 (fun kq v5 v6 wr => ∃ i m : Nat, v6 = .int .i64 (i : Int) ∧ Aside0 (i + kq = 4) ∧ Aside0 (∀ j, j < i → wiI (la.getD j 0) (lb.getD j 0) = true) ∧ wr = w2.drewN m)
  case atStart => exact ⟨0, 0, rfl, ⟨rfl⟩, ⟨fun j hj => absurd hj (by omega)⟩, rfl⟩
  case round =>
    obtain ⟨i, m, rfl, HI, HJ, rfl⟩ := hrel
    cases gk with
    | zero =>
      obtain rfl : i = 4 := by have := HI.out; omega
      go_wp2
      go_ret
      exact ⟨by rw [HALL.out HJ.out]; rfl, pw_below_drewN HB2.out m⟩
    | succ kq =>
      have hi4 : i < 4 := by have := HI.out; omega
      have hq4 : ((i : Int) < 4) = True := eq_true (by omega)
      have sca := ints_cell BA2.out (i := i) (by rw [HLA.out]; exact hi4)
      have scb := ints_cell BB.out (i := i) (by rw [HLB.out]; exact hi4)
      have HS := Aside0.mk (HNOT.out i hi4)
      obtain ⟨x, hx⟩ : ∃ x, x = la.getD i 0 := ⟨_, rfl⟩
      obtain ⟨y, hy⟩ : ∃ y, y = lb.getD i 0 := ⟨_, rfl⟩
      rw [← hx] at sca HS
      rw [← hy] at scb HS
      have HX := Aside0.mk hx
      have HY := Aside0.mk hy
      clear hx hy
      have sca' : (w2.drewN m).drew.cell? ⟨ga, i, none⟩ = some (.int .i64 x) := sca
      have scb' : (w2.drewN m).drew.cell? ⟨gb, i, none⟩ = some (.int .i64 y) := scb
      have HN : Aside0 (wiI x y = true → ∀ j, j < i + 1 → wiI (la.getD j 0) (lb.getD j 0) = true) := ⟨fun h j hj => by
        rcases Nat.lt_or_ge j i with h1 | h1
        · exact HJ.out j h1
        · obtain rfl : j = i := by omega
          rw [← HX.out, ← HY.out]; exact h⟩
      clear HJ
      have hw1 : wrap64 ((i : Int) + 1) = ((i + 1 : Nat) : Int) := wrapS (by omega)
      by_cases h1 : 0 < x
      · have d1 : decide (0 < x) = true := decide_eq_true h1
        by_cases h2 : y = 0
        · have d2 : (y == 0) = true := beq_iff_eq.2 h2
          have HF := Aside0.mk (HS.out (by simp [wiI, d1, d2]))
          clear h1 h2
          go_wp2
          go_region
          all_goals go_wp2
          all_goals go_ret
          all_goals exact ⟨by rw [HF.out]; rfl, by first | exact pw_below_drewN HB2.out _ | exact below_drew1 (pw_below_drewN HB2.out _)⟩
        · have d2 : (y == 0) = false := beq_eq_false_iff_ne.2 h2
          cases d3 : decide (x < y) with
          | true =>
            have HF := Aside0.mk (HS.out (by simp [wiI, d1, d2, d3]))
            clear h1 h2
            go_wp2
            go_region
            all_goals go_wp2
            all_goals go_ret
            all_goals exact ⟨by rw [HF.out]; rfl, by first | exact pw_below_drewN HB2.out _ | exact below_drew1 (pw_below_drewN HB2.out _)⟩
          | false =>
            have HO := Aside0.mk (HN.out (by simp [wiI, d1, d2, d3]))
            clear h1 h2
            go_wp2
            go_region
            all_goals go_wp2
            all_goals go_roundg kq
            all_goals first | (have := HI.out; omega) | exact ⟨i + 1, m + 1, by first | rfl | rw [hw1], ⟨by have := HI.out; omega⟩, HO, by first | rfl | (rw [World.drewN_drewN])⟩
      · have d1 : decide (0 < x) = false := decide_eq_false h1
        have HO := Aside0.mk (HN.out (by simp [wiI, d1]))
        clear h1
        go_wp2
        go_region
        all_goals go_wp2
        all_goals go_roundg kq
        all_goals first | (have := HI.out; omega) | exact ⟨i + 1, m + 1, by first | rfl | rw [hw1], ⟨by have := HI.out; omega⟩, HO, by first | rfl | (rw [World.drewN_drewN])⟩
end Go.Proofs.Ytjkfjnempofihaa.Fi
