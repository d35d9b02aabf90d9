/- The calls of the exported Has, Over and Dual. -/
import Derived.Test.YtjkfjnempofihaaQPgE20
namespace Go.Proofs.Ytjkfjnempofihaa.Fi
open Go.RowKit Go.Shelf Go.Lib Go.Proofs.YtjkfjnempofihaaW.PrintWords Go.Proofs.YtjkfjnempofihaaW.PrintLast Go.Proofs.YtjkfjnempofihaaW.PrintMore
set_option linter.unusedVariables false
set_option linter.unusedSimpArgs false
def hasE (n : Int) (gens : List (List Int)) (m : List Int) : Int := if readErr n gens = 0 then (if validB n.toNat m = true then 0 else 1) else readErr n gens
/-- Has. -/
def hasR (n : Int) (gens : List (List Int)) (m : List Int) : Bool := if hasE n gens m = 0 then ((gens.map padM).any fun x => divM x (oneV n.toNat m)) else false
set_option maxHeartbeats 4000000 in
set_option maxRecDepth 100000 in
theorem has_out (n : Int) (A : Option Addr) (c : Nat) (gens : List (List Int)) (Am : Option Addr) (cm : Nat) (m : List Int) (w : World) (hr : Kd.C kL w A gens.length gens) (hm : Kd.C (Kd.int .i64) w Am m.length m) (hml : m.length ≤ 100000) (hll : ∀ l ∈ gens, l.length ≤ 100000) :
    Calls Try.prog 40 #[.int .i64 n, .slice A gens.length c, .slice Am m.length cm] w fun e w' => e = .returned (.tuple #[.bool (hasR n gens m), .int .i64 (hasE n gens m)]) ∧ Below w.heap.size w w' := by
  have HR := Aside0.mk hr
  have HLL := Aside0.mk hll
  have HB0 := Aside0.mk (Below.refl w.heap.size w)
  have HM := Aside0.mk hm
  have HML := Aside0.mk hml
  clear hm hml
  unfold hasR hasE
  obtain ⟨E, hE⟩ : ∃ E, E = readErr n gens := ⟨_, rfl⟩
  by_cases h0 : E = 0
  rotate_left
  · have HE : Aside0 (readErr n gens ≠ 0) := ⟨by rw [← hE]; exact h0⟩
    have HEE := Aside0.mk hE.symm
    have d1 : (E != 0) = true := bne_iff_ne.2 h0
    rw [if_neg HE.out, ← hE, if_neg h0]
    clear hr hll hE h0
    go_enter Try.func40, Try.ntmps40
    go_wp2_with ((go_at_call 52; refine (read_calls n A c gens w HR.out HLL.out).mono ?_; rintro e w2 ⟨⟨he, ho⟩, hb⟩; have e2 := ho HE.out; rw [HEE.out] at e2; subst e2; clear he ho; have HB2 := Aside0.mk hb; clear hb))
    go_ret2
    exact ⟨rfl, HB2.out⟩
  subst h0
  have HE := Aside0.mk hE.symm
  obtain ⟨h12, k, hnk, hk1, hk4, hall⟩ := readErr_ok hE.symm
  subst hnk
  have HL : Aside0 ((gens.map padM).length ≤ 12) := ⟨by rw [List.length_map]; exact h12⟩
  have HK4 := Aside0.mk hk4
  have HK1 := Aside0.mk hk1
  have HALL := Aside0.mk hall
  clear hr hll hE h12 hk1 hk4 hall
  rw [if_pos HE.out, Int.toNat_natCast]
  obtain ⟨⟨x0, x1, x2, x3⟩, hx⟩ : ∃ x, x = oneV k m := ⟨_, rfl⟩
  have HOV : Aside0 (ag (oneV k m) = .agg #[.int .i64 x0, .int .i64 x1, .int .i64 x2, .int .i64 x3]) := ⟨by rw [← hx]; rfl⟩
  obtain ⟨b, hb⟩ : ∃ b, validB k m = b := ⟨_, rfl⟩
  have HVB := Aside0.mk hb
  rw [hb, ← hx]
  clear hb hx
  cases b with
  | false =>
    rw [if_neg (by decide), if_neg (by decide)]
    go_enter Try.func40, Try.ntmps40
    go_wp2_with (first | (go_at_call 52; refine (read_calls (k : Int) A c gens w HR.out HLL.out).mono ?_; rintro e w2 ⟨⟨he, ho⟩, hb⟩; obtain ⟨g, v, e2, hg, hi⟩ := he HE.out; subst e2; obtain ⟨Av, cv, ev, -⟩ := hi.row.slice; subst ev; have HI2 := Aside0.mk hi; clear he ho hi hg; have HB2 := Aside0.mk hb; clear hb) | (go_at_call 53; refine (one_calls k Am cm m _ (Kd.C_below HM.out HB2.out) HK1.out HK4.out HML.out).mono ?_; rintro e w3 ⟨he, hb⟩; rw [HOV.out, HVB.out] at he; subst he; have HB3 := Aside0.mk hb; have HI3 := Aside0.mk (HI2.out.below hb); clear hb))
    go_ret2
    exact ⟨rfl, below_alloc (below_step HB2.out HB3.out) _⟩
  | true =>
    rw [if_pos rfl, if_pos rfl]
    obtain ⟨b, hb⟩ : ∃ b, ((gens.map padM).any fun x => divM x (x0, x1, x2, x3)) = b := ⟨_, rfl⟩
    have HBB := Aside0.mk hb
    rw [hb]
    clear hb
    go_enter Try.func40, Try.ntmps40
    go_wp2_with (first | (go_at_call 52; refine (read_calls (k : Int) A c gens w HR.out HLL.out).mono ?_; rintro e w2 ⟨⟨he, ho⟩, hb⟩; obtain ⟨g, v, e2, hg, hi⟩ := he HE.out; subst e2; obtain ⟨Av, cv, ev, -⟩ := hi.row.slice; subst ev; have HI2 := Aside0.mk hi; clear he ho hi hg; have HB2 := Aside0.mk hb; clear hb) | (go_at_call 53; refine (one_calls k Am cm m _ (Kd.C_below HM.out HB2.out) HK1.out HK4.out HML.out).mono ?_; rintro e w3 ⟨he, hb⟩; rw [HOV.out, HVB.out] at he; subst he; have HB3 := Aside0.mk hb; have HI3 := Aside0.mk (HI2.out.below hb); clear hb) | (go_at_call 67; refine (ihas_calls g (k : Int) _ (gens.map padM) (x0, x1, x2, x3) _ (HI3.out.below (below_alloc (Below.refl _ _) (.cells #[.int .i64 x0, .int .i64 x1, .int .i64 x2, .int .i64 x3] 75)))).mono ?_; rintro e w4 ⟨he, hb⟩; rw [HBB.out] at he; subst he; have HB4 := Aside0.mk (below_step (below_alloc (Below.refl _ _) (.cells #[.int .i64 x0, .int .i64 x1, .int .i64 x2, .int .i64 x3] 75)) hb); clear hb))
    go_ret2
    exact ⟨rfl, below_step HB2.out (below_step HB3.out HB4.out)⟩
theorem eg61 (args : Array Value) (w : World) : (callFunc 61 args).run Try.prog w = .ok (.enter 61 args) w := enters_ Try.func61 (by kernel_rfl) rfl args w
def dualE (n : Int) (gens : List (List Int)) (m : List Int) : Int := if readErr n gens = 0 then (if validB n.toNat m = true then (if ((lstM divM (gens.map padM)).any fun x => !divM x (oneV n.toNat m)) = true then 1 else 0) else 1) else readErr n gens
/-- Dual. -/
def dualR (n : Int) (gens : List (List Int)) (m : List Int) : List (List Int) := if dualE n gens m = 0 then (if wholeB gens = true then [] else (lstM divM ((partS (lstM divM (gens.map padM))).map (mirM (oneV n.toNat m)))).map (cutM n.toNat)) else []
set_option maxHeartbeats 4000000 in
set_option maxRecDepth 100000 in
theorem dual_out (n : Int) (A : Option Addr) (c : Nat) (gens : List (List Int)) (Am : Option Addr) (cm : Nat) (m : List Int) (w : World) (hr : Kd.C kL w A gens.length gens) (hm : Kd.C (Kd.int .i64) w Am m.length m) (hml : m.length ≤ 100000) (hll : ∀ l ∈ gens, l.length ≤ 100000) :
    Calls Try.prog 20 #[.int .i64 n, .slice A gens.length c, .slice Am m.length cm] w fun e w' => ∃ v, e = .returned (.tuple #[v, .int .i64 (dualE n gens m)]) ∧ Kd.S kL 25 w' w.heap.size (fun _ => True) v (dualR n gens m) ∧ Below w.heap.size w w' := by
  have HR := Aside0.mk hr
  have HLL := Aside0.mk hll
  have HB0 := Aside0.mk (Below.refl w.heap.size w)
  have HM := Aside0.mk hm
  have HML := Aside0.mk hml
  clear hm hml
  unfold dualR dualE
  obtain ⟨E, hE⟩ : ∃ E, E = readErr n gens := ⟨_, rfl⟩
  by_cases h0 : E = 0
  rotate_left
  · have HE : Aside0 (readErr n gens ≠ 0) := ⟨by rw [← hE]; exact h0⟩
    have HEE := Aside0.mk hE.symm
    have d1 : (E != 0) = true := bne_iff_ne.2 h0
    rw [if_neg HE.out, ← hE, if_neg h0]
    clear hr hll hE h0
    go_enter Try.func20, Try.ntmps20
    go_wp2_with ((go_at_call 52; refine (read_calls n A c gens w HR.out HLL.out).mono ?_; rintro e w2 ⟨⟨he, ho⟩, hb⟩; have e2 := ho HE.out; rw [HEE.out] at e2; subst e2; clear he ho; have HB2 := Aside0.mk hb; clear hb))
    go_ret2
    exact ⟨_, rfl, Kd.S_nil _ _ _ _ _, HB2.out⟩
  subst h0
  have HE := Aside0.mk hE.symm
  obtain ⟨h12, k, hnk, hk1, hk4, hall⟩ := readErr_ok hE.symm
  subst hnk
  have HL : Aside0 ((gens.map padM).length ≤ 12) := ⟨by rw [List.length_map]; exact h12⟩
  have HK4 := Aside0.mk hk4
  have HK1 := Aside0.mk hk1
  have HALL := Aside0.mk hall
  clear hr hll hE h12 hk1 hk4 hall
  rw [if_pos HE.out, Int.toNat_natCast]
  obtain ⟨⟨x0, x1, x2, x3⟩, hx⟩ : ∃ x, x = oneV k m := ⟨_, rfl⟩
  have HOV : Aside0 (ag (oneV k m) = .agg #[.int .i64 x0, .int .i64 x1, .int .i64 x2, .int .i64 x3]) := ⟨by rw [← hx]; rfl⟩
  obtain ⟨b, hb⟩ : ∃ b, validB k m = b := ⟨_, rfl⟩
  have HVB := Aside0.mk hb
  rw [hb, ← hx]
  clear hb hx
  cases b with
  | false =>
    rw [if_neg (show ¬ (false = true) by decide), if_neg (by decide)]
    go_enter Try.func20, Try.ntmps20
    go_wp2_with (first | (go_at_call 52; refine (read_calls (k : Int) A c gens w HR.out HLL.out).mono ?_; rintro e w2 ⟨⟨he, ho⟩, hb⟩; obtain ⟨g, v, e2, hg, hi⟩ := he HE.out; subst e2; obtain ⟨Av, cv, ev, -⟩ := hi.row.slice; subst ev; have HI2 := Aside0.mk hi; clear he ho hi hg; have HB2 := Aside0.mk hb; clear hb) | (go_at_call 53; refine (one_calls k Am cm m _ (Kd.C_below HM.out HB2.out) HK1.out HK4.out HML.out).mono ?_; rintro e w3 ⟨he, hb⟩; rw [HOV.out, HVB.out] at he; subst he; have HB3 := Aside0.mk hb; have HI3 := Aside0.mk (HI2.out.below hb); clear hb))
    go_ret2
    exact ⟨_, rfl, Kd.S_nil _ _ _ _ _, below_alloc (below_step HB2.out HB3.out) _⟩
  | true =>
    rw [if_pos (show true = true from rfl)]
    obtain ⟨M, hM⟩ : ∃ M, lstM divM (gens.map padM) = M := ⟨_, rfl⟩
    have HMG := Aside0.mk hM
    have HML2 : Aside0 (M.length ≤ 12) := ⟨by rw [← hM]; exact Nat.le_trans (lstM_le divM _) HL.out⟩
    rw [hM]
    obtain ⟨b, hb⟩ : ∃ b, (M.any fun x => !divM x (x0, x1, x2, x3)) = b := ⟨_, rfl⟩
    have HBB := Aside0.mk hb
    rw [hb]
    clear hb hM
    cases b with
    | true =>
      rw [if_pos rfl, if_neg (by decide)]
      go_enter Try.func20, Try.ntmps20
      go_wp2_with (first | (go_at_call 52; refine (read_calls (k : Int) A c gens w HR.out HLL.out).mono ?_; rintro e w2 ⟨⟨he, ho⟩, hb⟩; obtain ⟨g, v, e2, hg, hi⟩ := he HE.out; subst e2; obtain ⟨Av, cv, ev, -⟩ := hi.row.slice; subst ev; have HI2 := Aside0.mk hi; clear he ho hi hg; have HB2 := Aside0.mk hb; clear hb) | (go_at_call 53; refine (one_calls k Am cm m _ (Kd.C_below HM.out HB2.out) HK1.out HK4.out HML.out).mono ?_; rintro e w3 ⟨he, hb⟩; rw [HOV.out, HVB.out] at he; subst he; have HB3 := Aside0.mk hb; have HI3 := Aside0.mk (HI2.out.below hb); clear hb) | (go_at_call 55; refine (minimal_calls g (k : Int) _ (gens.map padM) _ (HI3.out.below (below_alloc (Below.refl _ _) (.cells #[.int .i64 x0, .int .i64 x1, .int .i64 x2, .int .i64 x3] 75))) (Nat.le_trans HL.out (by decide))).mono ?_; rintro e w4 ⟨g4, v4, rfl, hg, hm, hb⟩; rw [HMG.out] at hm; obtain ⟨A4, c4, e4, -⟩ := hm.row.slice; subst e4; have HM4 := Aside0.mk hm; have HB4 := Aside0.mk (below_step (below_alloc (Below.refl _ _) (.cells #[.int .i64 x0, .int .i64 x1, .int .i64 x2, .int .i64 x3] 75)) hb); have HI4 := Aside0.mk (HI3.out.below (below_step (below_alloc (Below.refl _ _) (.cells #[.int .i64 x0, .int .i64 x1, .int .i64 x2, .int .i64 x3] 75)) hb)); have BT4 := Aside0.mk (blk_below (heap_alloc_new w3 (.cells #[.int .i64 x0, .int .i64 x1, .int .i64 x2, .int .i64 x3] 75)) hb); have b0 := blk_cell hm.blk 0; have b1 := blk_cell hm.blk 1; clear hg hm hb) | (go_at_call 54; refine (anyNot M _ (x0, x1, x2, x3) w3.heap.size _ HM4.out.row BT4.out).mono ?_; rintro e w5 ⟨he, hb⟩; rw [HBB.out] at he; subst he; have HB5 := Aside0.mk hb; have HI5 := Aside0.mk (HI4.out.below hb); have BT5 := Aside0.mk (blk_below BT4.out hb); clear hb))
      go_ret2
      exact ⟨_, rfl, Kd.S_nil _ _ _ _ _, below_step HB2.out (below_step HB3.out (below_step HB4.out HB5.out))⟩
    | false =>
      rw [if_neg (show ¬ (false = true) by decide), if_pos rfl]
      unfold wholeB
      obtain ⟨b, hb⟩ : ∃ b, ((gens.map padM).any fun x => divM x oneM) = b := ⟨_, rfl⟩
      have HWH := Aside0.mk hb
      rw [hb]
      clear hb
      cases b with
      | true =>
        rw [if_pos rfl]
        go_enter Try.func20, Try.ntmps20
        go_wp2_with (first | (go_at_call 52; refine (read_calls (k : Int) A c gens w HR.out HLL.out).mono ?_; rintro e w2 ⟨⟨he, ho⟩, hb⟩; obtain ⟨g, v, e2, hg, hi⟩ := he HE.out; subst e2; obtain ⟨Av, cv, ev, -⟩ := hi.row.slice; subst ev; have HI2 := Aside0.mk hi; clear he ho hi hg; have HB2 := Aside0.mk hb; clear hb) | (go_at_call 53; refine (one_calls k Am cm m _ (Kd.C_below HM.out HB2.out) HK1.out HK4.out HML.out).mono ?_; rintro e w3 ⟨he, hb⟩; rw [HOV.out, HVB.out] at he; subst he; have HB3 := Aside0.mk hb; have HI3 := Aside0.mk (HI2.out.below hb); clear hb) | (go_at_call 55; refine (minimal_calls g (k : Int) _ (gens.map padM) _ (HI3.out.below (below_alloc (Below.refl _ _) (.cells #[.int .i64 x0, .int .i64 x1, .int .i64 x2, .int .i64 x3] 75))) (Nat.le_trans HL.out (by decide))).mono ?_; rintro e w4 ⟨g4, v4, rfl, hg, hm, hb⟩; rw [HMG.out] at hm; obtain ⟨A4, c4, e4, -⟩ := hm.row.slice; subst e4; have HM4 := Aside0.mk hm; have HB4 := Aside0.mk (below_step (below_alloc (Below.refl _ _) (.cells #[.int .i64 x0, .int .i64 x1, .int .i64 x2, .int .i64 x3] 75)) hb); have HI4 := Aside0.mk (HI3.out.below (below_step (below_alloc (Below.refl _ _) (.cells #[.int .i64 x0, .int .i64 x1, .int .i64 x2, .int .i64 x3] 75)) hb)); have BT4 := Aside0.mk (blk_below (heap_alloc_new w3 (.cells #[.int .i64 x0, .int .i64 x1, .int .i64 x2, .int .i64 x3] 75)) hb); have b0 := blk_cell hm.blk 0; have b1 := blk_cell hm.blk 1; clear hg hm hb) | (go_at_call 54; refine (anyNot M _ (x0, x1, x2, x3) w3.heap.size _ HM4.out.row BT4.out).mono ?_; rintro e w5 ⟨he, hb⟩; rw [HBB.out] at he; subst he; have HB5 := Aside0.mk hb; have HI5 := Aside0.mk (HI4.out.below hb); have BT5 := Aside0.mk (blk_below BT4.out hb); clear hb) | (go_at_call 58; refine (whole_calls g (k : Int) _ (gens.map padM) _ HI5.out).mono ?_; rintro e w6 ⟨he, hb⟩; rw [HWH.out] at he; subst he; have HB6 := Aside0.mk hb; have HI6 := Aside0.mk (HI5.out.below hb); have BT6 := Aside0.mk (blk_below BT5.out hb); clear hb))
        go_ret2
        exact ⟨_, rfl, Kd.S_nil _ _ _ _ _, below_step HB2.out (below_step HB3.out (below_step HB4.out (below_step HB5.out HB6.out)))⟩
      | false =>
        rw [if_neg (by decide)]
        obtain ⟨P, hP⟩ : ∃ P, partS M = P := ⟨_, rfl⟩
        have HPS : Aside0 (partS (lstM divM (gens.map padM)) = P) := ⟨by rw [HMG.out, hP]⟩
        have HPL : Aside0 (P.length ≤ 16777216) := ⟨by
          have h1 := partT_le M _ (Nat.le_refl _)
          have h3 : 4 ^ M.length ≤ 4 ^ 12 := Nat.pow_le_pow_right (by omega) HML2.out
          rw [← hP]
          exact Nat.le_trans h1 (Nat.le_trans h3 (by decide))⟩
        rw [hP]
        have HQL : Aside0 ((lstM divM (P.map (mirM (x0, x1, x2, x3)))).length ≤ 20000000) := ⟨Nat.le_trans (lstM_le divM _) (by rw [List.length_map]; exact Nat.le_trans HPL.out (by decide))⟩
        obtain ⟨Q, hQ⟩ : ∃ Q, lstM divM (P.map (mirM (x0, x1, x2, x3))) = Q := ⟨_, rfl⟩
        have HQ := Aside0.mk hQ
        rw [hQ] at HQL ⊢
        clear hQ hP
        go_enter Try.func20, Try.ntmps20
        go_wp2_with (first | (go_at_call 52; refine (read_calls (k : Int) A c gens w HR.out HLL.out).mono ?_; rintro e w2 ⟨⟨he, ho⟩, hb⟩; obtain ⟨g, v, e2, hg, hi⟩ := he HE.out; subst e2; obtain ⟨Av, cv, ev, -⟩ := hi.row.slice; subst ev; have HI2 := Aside0.mk hi; clear he ho hi hg; have HB2 := Aside0.mk hb; clear hb) | (go_at_call 53; refine (one_calls k Am cm m _ (Kd.C_below HM.out HB2.out) HK1.out HK4.out HML.out).mono ?_; rintro e w3 ⟨he, hb⟩; rw [HOV.out, HVB.out] at he; subst he; have HB3 := Aside0.mk hb; have HI3 := Aside0.mk (HI2.out.below hb); clear hb) | (go_at_call 55; refine (minimal_calls g (k : Int) _ (gens.map padM) _ (HI3.out.below (below_alloc (Below.refl _ _) (.cells #[.int .i64 x0, .int .i64 x1, .int .i64 x2, .int .i64 x3] 75))) (Nat.le_trans HL.out (by decide))).mono ?_; rintro e w4 ⟨g4, v4, rfl, hg, hm, hb⟩; rw [HMG.out] at hm; obtain ⟨A4, c4, e4, -⟩ := hm.row.slice; subst e4; have HM4 := Aside0.mk hm; have HB4 := Aside0.mk (below_step (below_alloc (Below.refl _ _) (.cells #[.int .i64 x0, .int .i64 x1, .int .i64 x2, .int .i64 x3] 75)) hb); have HI4 := Aside0.mk (HI3.out.below (below_step (below_alloc (Below.refl _ _) (.cells #[.int .i64 x0, .int .i64 x1, .int .i64 x2, .int .i64 x3] 75)) hb)); have BT4 := Aside0.mk (blk_below (heap_alloc_new w3 (.cells #[.int .i64 x0, .int .i64 x1, .int .i64 x2, .int .i64 x3] 75)) hb); have b0 := blk_cell hm.blk 0; have b1 := blk_cell hm.blk 1; clear hg hm hb) | (go_at_call 54; refine (anyNot M _ (x0, x1, x2, x3) w3.heap.size _ HM4.out.row BT4.out).mono ?_; rintro e w5 ⟨he, hb⟩; rw [HBB.out] at he; subst he; have HB5 := Aside0.mk hb; have HI5 := Aside0.mk (HI4.out.below hb); have BT5 := Aside0.mk (blk_below BT4.out hb); clear hb) | (go_at_call 58; refine (whole_calls g (k : Int) _ (gens.map padM) _ HI5.out).mono ?_; rintro e w6 ⟨he, hb⟩; rw [HWH.out] at he; subst he; have HB6 := Aside0.mk hb; have HI6 := Aside0.mk (HI5.out.below hb); have BT6 := Aside0.mk (blk_below BT5.out hb); clear hb) | (go_at_call 59; refine (parts_calls g (k : Int) _ (gens.map padM) _ HI6.out HL.out).mono ?_; rintro e w7 ⟨v7, rfl, hm, hb⟩; rw [HPS.out] at hm; obtain ⟨A7, c7, e7, -⟩ := hm.slice; subst e7; have HM7 := Aside0.mk hm; have HB7 := Aside0.mk hb; have HI7 := Aside0.mk (HI6.out.below hb); have BT7 := Aside0.mk (blk_below BT6.out hb); clear hm hb) | ((with_reducible refine gate_dst (N := 45) rfl ?_); refine box_event ?hg (N := 45) ?hd (cs := #[.int .i64 (k : Int), .slice A7 P.length c7]) (t := 81) ?hr ?_; (case hd => rfl); (case hg => rfl); (case hr => first | (go_simp; done) | (go_simp; rfl)); intro gy hgy w8 hbox hb; have HY8 := Aside0.mk (IA.mk hbox (HM7.out.zero.below hb)); have HI8 := Aside0.mk (HI7.out.below hb); have BT8 := Aside0.mk (blk_below BT7.out hb); have HB8 := Aside0.mk hb; clear hbox hb hgy) | (go_at_call 60; refine (changed_calls (mirM (x0, x1, x2, x3)) 61 #[pt w3.heap.size] gy (k : Int) _ P _ HY8.out (Nat.le_trans HPL.out (by decide)) eg61 (fun W y hW => mir61_calls y (x0, x1, x2, x3) w3.heap.size W (blk_below BT8.out hW))).mono ?_; rintro e w10 ⟨g10, v10, rfl, hg, hm, hb⟩; rw [HQ.out] at hm; obtain ⟨A10, c10, e10, -⟩ := hm.row.slice; subst e10; have HM10 := Aside0.mk hm; have HB10 := Aside0.mk hb; have HI10 := Aside0.mk (HI8.out.below hb); have b0 := blk_cell hm.blk 0; have b1 := blk_cell hm.blk 1; clear hg hm hb) | (go_at_call 62; refine (list_calls g k _ _ (gens.map padM) Q _ HI10.out HM10.out.row HK4.out HQL.out).mono ?_; rintro e w9 ⟨v9, rfl, hs, hb⟩; have HS9 := Aside0.mk hs; have HB9 := Aside0.mk hb; clear hs hb))
        go_ret2
        exact ⟨_, rfl, S_base HS9.out (by have := HB2.out.size; have := HB3.out.size; have := HB4.out.size; have := HB5.out.size; have := HB6.out.size; have := HB7.out.size; have := HB8.out.size; have := HB10.out.size; omega), below_step HB2.out (below_step HB3.out (below_step HB4.out (below_step HB5.out (below_step HB6.out (below_step HB7.out (below_step HB8.out (below_step HB10.out HB9.out)))))))⟩
end Go.Proofs.Ytjkfjnempofihaa.Fi
