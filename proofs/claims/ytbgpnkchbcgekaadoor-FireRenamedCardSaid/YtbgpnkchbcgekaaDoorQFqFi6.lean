-- Printed for this claim over the translation (with hand-proved callees). Lean checks it.
import Derived.Test.YtbgpnkchbcgekaaDoorQFqFi0
import Derived.Test.YtbgpnkchbcgekaaDoorQFqFi1
import Derived.Test.YtbgpnkchbcgekaaDoorQFqFi3
import Derived.Test.YtbgpnkchbcgekaaDoorQFqFi4
import Derived.Test.YtbgpnkchbcgekaaDoorQFqFi5
namespace Go.Proofs.YtbgpnkchbcgekaaDoor.Fi
open Go.RowKit Go.Proofs.YtbgpnkchbcgekaaDoorW.PrintWords Go.Proofs.YtbgpnkchbcgekaaDoorW.PrintLast Go.Proofs.YtbgpnkchbcgekaaDoorW.PrintMore
attribute [local go_sem] max2_int min2_int max_two min_two max_three min_three max_four min_four   -- for this text's walks alone
set_option linter.unusedVariables false
set_option linter.unusedSimpArgs false
def fire_graph_reach.l0 : Nat → Int → Int → Int → List Int → Option (Int × Int)
  | 0, _, _, _, _ => none
  | k + 1, x2, x7, x1000, x1001 => (fire_graph_around.f k x1000 x1001 x7).bind fun bt418 => (if (Go.bits .andNot .u16 bt418.1 x2) = x7 then (some (x7, bt418.2)) else (fire_graph_reach.l0 k x2 (Go.bits .andNot .u16 bt418.1 x2) bt418.2 x1001))
def fire_graph_reach.f (k : Nat) (s0_0 : Int) (s0_1 : List Int) (a1 : Int) (a2 : Int) : Option (Int × Int) := if 0 ≤ a1 then (fire_graph_reach.l0 k a2 (shl .u16 1 a1) s0_0 s0_1) else (none)
set_option maxHeartbeats 8000000 in
set_option maxRecDepth 100000 in
theorem fire_graph_reach.calls (k : Nat) (g : Nat) (s0_0 : Int) (s0_1 : List Int) (a1 : Int) (a2 : Int) (r1 : Int) (r2 : Int) (w0 w : World) (hI : IsS105 w0 w g s0_0 s0_1) (hB : Below w0.heap.size w0 w) (h : fire_graph_reach.f k s0_0 s0_1 a1 a2 = some (r1, r2)) :
    Calls Tryd.prog 55 #[.pointer (some ⟨g, 0, none⟩), .int .i64 a1, .int .u16 a2] w fun e w' => e = .returned (.int .u16 r1) ∧ IsS105 w0 w' g r2 s0_1 ∧ Below w0.heap.size w0 w' ∧ KeepBut w w' g none := by
  have HI0 := Aside0.mk hI
  have HK := Aside0.mk (KeepBut.refl w g none)
  have HL := Aside0.mk hB.size
  clear hI
  have HW0 := Aside0.mk hB.size
  have HB := Aside0.mk hB
  clear hB
  have H : (if 0 ≤ a1 then (fire_graph_reach.l0 k a2 (shl .u16 1 a1) s0_0 s0_1) else (none)) = some (r1, r2) := h
  clear h
  by_cases c4 : 0 ≤ a1
  · rw [if_pos c4] at H
    have c4b0 := eq_true c4
    have c4b1 : decide (0 ≤ a1) = true := decide_eq_true c4
    clear c4
    obtain ⟨ji5, hji5⟩ : ∃ j_ : Int, (shl .u16 1 a1) = j_ := ⟨_, rfl⟩
    replace H : (fire_graph_reach.l0 k a2 ji5 s0_0 s0_1) = some (r1, r2) := by first | (rw [hji5] at H; exact H) | (simp only [hji5] at H ⊢; exact H)
    have hji5_ : (IntKind.u16.wrap (1 * 2 ^ min a1.toNat 16)) = ji5 := hji5
    have hji5z : a1 ≤ 16 → (IntKind.u16.wrap (1 * 2 ^ a1.toNat)) = ji5 := shl_small hji5
    have hji5u : (IntKind.u16.wrap (2 ^ min a1.toNat 16)) = ji5 := by have h_ := hji5_; rw [Int.one_mul] at h_; exact h_
    have hji5v : a1 ≤ 16 → (IntKind.u16.wrap (2 ^ a1.toNat)) = ji5 := fun hle_ => by have h_ := hji5z hle_; rw [Int.one_mul] at h_; exact h_
    have H' := Aside0.mk H
    clear H
    go_enter Tryd.func55, Tryd.ntmps55
    go_wp2
    go_loopg [7] k (fun kq v7 w' => ∃ (x7_1 : Int) (x1000_1 : Int), v7 = .int .u16 x7_1 ∧ Aside0 (fire_graph_reach.l0 kq a2 x7_1 x1000_1 s0_1 = some (r1, r2)) ∧ Aside0 (kq ≤ k) ∧ Aside0 (IsS105 w0 w' g x1000_1 s0_1) ∧ Aside0 (KeepBut w w' g none) ∧ Aside0 (Below w0.heap.size w0 w'))
    case atStart => exact ⟨(ji5), (s0_0), (by first | rfl | (simp; done) | (simp only [← hji5] <;> (first | rfl | simp)) | (simp [*]; done)), H', ⟨Nat.le_refl _⟩, ⟨by repeat (first | (with_reducible first | exact HI0.out | apply IsS105.alloc | apply IsS105.drewN | apply IsS105.drew | apply IsS105.set_0) | exact HI0.out)⟩, ⟨by repeat (first | (with_reducible first | exact HK.out | apply KeepBut.set_ | apply keep_drewN | apply keep_drew | apply keep_alloc) | exact HK.out)⟩, ⟨by repeat (first | (with_reducible first | exact HB.out | apply below_alloc | apply pw_below_drewN | apply below_drew1 | refine below_set ?_ (IsS105.ge HI0.out)) | exact HB.out)⟩⟩
    case round =>
      clear H'
      try clear p2
      try clear c4
      try clear c4b0
      try clear c4b1
      try clear c5
      obtain ⟨x7_1, x1000_1, rfl, HA, HK1, HI0, HK, HB⟩ := hrel
      cases gk with
      | zero => exact absurd HA.out (by simp [fire_graph_reach.l0])
      | succ k1 =>
        have H := HA.out
        clear HA
        simp only [fire_graph_reach.l0] at H
        replace H := Option.bind_eq_some_iff.mp H
        obtain ⟨⟨t418, t419⟩, A60, H⟩ := H
        replace H : (if (Go.bits .andNot .u16 t418 a2) = x7_1 then (some (x7_1, t419)) else (fire_graph_reach.l0 k1 a2 (Go.bits .andNot .u16 t418 a2) t419 s0_1)) = some (r1, r2) := H
        have A6 := Aside0.mk A60
        clear A60
        by_cases c7 : (Go.bits .andNot .u16 t418 a2) = x7_1
        · rw [if_pos c7] at H
          have c7b0 : ((Go.bits .andNot .u16 t418 a2) == x7_1) = true := beq_iff_eq.mpr c7
          have c7b1 : ((Go.bits .andNot .u16 t418 a2) != x7_1) = false := bne_eq_false_iff_eq.mpr c7
          clear c7
          simp only [Option.some.injEq, Prod.mk.injEq] at H
          obtain ⟨rfl, rfl⟩ := H
          go_wp2_with (first | ((with_reducible refine gate_callee (f := 59) rfl ?_); refine goesL_ (some 13) rfl rfl Tryd.func59 (by kernel_rfl) rfl #[.pointer (some ⟨g, 0, none⟩), .int .u16 x7_1] rfl (by (try simp only [List.map_toArray, List.map_cons, List.map_nil]); first | done | rfl | (simp only [List.length_drop, List.length_take]; rfl)) ?_; (with_reducible refine (fire_graph_around.calls k1 g x1000_1 s0_1 x7_1 t418 t419 w0 _ ?side1 ?side2 A6.out).mono ?_); (case side1 => repeat (first | (with_reducible first | exact HI0.out | apply IsS105.alloc | apply IsS105.drewN | apply IsS105.drew | apply IsS105.set_0) | exact HI0.out)); (case side2 => repeat (first | (with_reducible first | exact HB.out | apply below_alloc | apply pw_below_drewN | apply below_drew1 | refine below_set ?_ (IsS105.ge HI0.out)) | exact HB.out)); rintro e w8 ⟨rfl, hi, hb, hk⟩; refine ⟨_, rfl, ?_⟩; have n0_ := Aside0.mk (KeepBut.trans (by repeat (first | (with_reducible first | exact HK.out | apply KeepBut.set_ | apply keep_drewN | apply keep_drew | apply keep_alloc) | exact HK.out)) hk (.inl rfl)); have n1_ := Aside0.mk (hb); have n2_ := Aside0.mk (hi); clear HK; clear HB; clear HI0; have HK := n0_; have HB := n1_; have HI0 := n2_; clear n0_ n1_ n2_; (try clear hb); (try clear hb2); (try clear hk); (try clear hi)))
          go_ret
          exact ⟨by first | rfl | (simp [errW_none, errW_some] <;> rfl) | (simp only [← hji5]; first | rfl | (simp [errW_none, errW_some] <;> rfl)) | (simp [*, errW_none, errW_some] <;> rfl), by repeat (first | (with_reducible first | exact HI0.out | apply IsS105.alloc | apply IsS105.drewN | apply IsS105.drew | apply IsS105.set_0) | exact HI0.out), by repeat (first | (with_reducible first | exact HB.out | apply below_alloc | apply pw_below_drewN | apply below_drew1 | refine below_set ?_ (IsS105.ge HI0.out)) | exact HB.out), by repeat (first | (with_reducible first | exact HK.out | apply KeepBut.set_ | apply keep_drewN | apply keep_drew | apply keep_alloc) | exact HK.out)⟩
        · rw [if_neg c7] at H
          have c7b0 : ((Go.bits .andNot .u16 t418 a2) == x7_1) = false := beq_eq_false_iff_ne.mpr c7
          have c7b1 : ((Go.bits .andNot .u16 t418 a2) != x7_1) = true := bne_iff_ne.mpr c7
          have H' := Aside0.mk H
          clear H
          go_wp2_with (first | ((with_reducible refine gate_callee (f := 59) rfl ?_); refine goesL_ (some 13) rfl rfl Tryd.func59 (by kernel_rfl) rfl #[.pointer (some ⟨g, 0, none⟩), .int .u16 x7_1] rfl (by (try simp only [List.map_toArray, List.map_cons, List.map_nil]); first | done | rfl | (simp only [List.length_drop, List.length_take]; rfl)) ?_; (with_reducible refine (fire_graph_around.calls k1 g x1000_1 s0_1 x7_1 t418 t419 w0 _ ?side1 ?side2 A6.out).mono ?_); (case side1 => repeat (first | (with_reducible first | exact HI0.out | apply IsS105.alloc | apply IsS105.drewN | apply IsS105.drew | apply IsS105.set_0) | exact HI0.out)); (case side2 => repeat (first | (with_reducible first | exact HB.out | apply below_alloc | apply pw_below_drewN | apply below_drew1 | refine below_set ?_ (IsS105.ge HI0.out)) | exact HB.out)); rintro e w9 ⟨rfl, hi, hb, hk⟩; refine ⟨_, rfl, ?_⟩; have n0_ := Aside0.mk (KeepBut.trans (by repeat (first | (with_reducible first | exact HK.out | apply KeepBut.set_ | apply keep_drewN | apply keep_drew | apply keep_alloc) | exact HK.out)) hk (.inl rfl)); have n1_ := Aside0.mk (hb); have n2_ := Aside0.mk (hi); clear HK; clear HB; clear HI0; have HK := n0_; have HB := n1_; have HI0 := n2_; clear n0_ n1_ n2_; (try clear hb); (try clear hb2); (try clear hk); (try clear hi)))
          go_roundg k1
          case measure => have := HK1.out; omega
          case rel => exact ⟨(Go.bits .andNot .u16 t418 a2), (t419), (by first | rfl | (simp; done) | (simp [*]; done)), H', ⟨by have := HK1.out; omega⟩, ⟨by repeat (first | (with_reducible first | exact HI0.out | apply IsS105.alloc | apply IsS105.drewN | apply IsS105.drew | apply IsS105.set_0) | exact HI0.out)⟩, ⟨by repeat (first | (with_reducible first | exact HK.out | apply KeepBut.set_ | apply keep_drewN | apply keep_drew | apply keep_alloc) | exact HK.out)⟩, ⟨by repeat (first | (with_reducible first | exact HB.out | apply below_alloc | apply pw_below_drewN | apply below_drew1 | refine below_set ?_ (IsS105.ge HI0.out)) | exact HB.out)⟩⟩
  · rw [if_neg c4] at H
    exact absurd H (by simp)
mutual
def woggleref06_burning.l0 : Nat → List Int → Int → Int → Int → Int → Int → Option (List Int × Bool)
  | 0, _, _, _, _, _, _ => none
  | k + 1, x0, x1, x2, x8, x9, x10 => if x10 < x1 then (woggleref06_burning.l1 k x0 x1 x2 x8 x9 x10 0 0) else ((woggleref06_Size.f k x2).bind fun t425 => (if (wrap64 (x8 - t425)) > x9 then (some (([] : List Int), false)) else (woggleref06_burning.l2 k x0 x1 x2 x8 0)))
def woggleref06_burning.l1 : Nat → List Int → Int → Int → Int → Int → Int → Int → Int → Option (List Int × Bool)
  | 0, _, _, _, _, _, _, _, _ => none
  | k + 1, x0, x1, x2, x8, x9, x10, x11, x12 => if x12 < x8 then ((woggleref06_Ball.f k x0 x12 x10).bind fun t423 => ((woggleref06_Size.f k t423).bind fun t424 => (woggleref06_burning.l1 k x0 x1 x2 x8 x9 x10 (mx x11 t424) (wrap64 (x12 + 1))))) else (woggleref06_burning.l0 k x0 x1 x2 x8 (wrap64 (x9 + x11)) (wrap64 (x10 + 1)))
def woggleref06_burning.l2 : Nat → List Int → Int → Int → Int → Int → Option (List Int × Bool)
  | 0, _, _, _, _, _ => none
  | k + 1, x0, x1, x2, x8, x13 => if x13 < x8 then ((woggleref06_Ball.f k x0 x13 (wrap64 (x1 - 1))).bind fun t426 => ((woggleref06_burning.f k x0 (wrap64 (x1 - 1)) (Go.bits .or .i64 x2 t426)).bind fun bt427 => (if bt427.2 = true then ((some (([x13] : List Int) : List Int)).bind fun y431 => (if y431.length + bt427.1.length < 17592186044416 then (some ((y431 ++ bt427.1), true)) else (none))) else (woggleref06_burning.l2 k x0 x1 x2 x8 (wrap64 (x13 + 1)))))) else (some (([] : List Int), false))
def woggleref06_burning.f : Nat → List Int → Int → Int → Option (List Int × Bool)
  | 0, _, _, _ => none
  | k + 1, l0, a1, a2 => if a1 = 0 then (some ((([] : List Int)), (a2 == (wrap64 ((shl .i64 1 (l0.length : Int)) - 1))))) else (woggleref06_burning.l0 k l0 a1 a2 (l0.length : Int) 0 0)
end
def woggleref06_Burning.l0 : Nat → List Int → Int → Option (List Int)
  | 0, _, _ => none
  | k + 1, x0, x3 => (woggleref06_burning.f k x0 x3 0).bind fun bt437 => (if bt437.2 = true then (some bt437.1) else (woggleref06_Burning.l0 k x0 (wrap64 (x3 + 1))))
def woggleref06_Burning.f (k : Nat) (l0 : List Int) : Option (List Int) := woggleref06_Burning.l0 k l0 1
end Go.Proofs.YtbgpnkchbcgekaaDoor.Fi
