/- Texts of this claim, joined: Ht, R0, R1 -/
import Derived.Test.YtbgpnkchbcgekaaDoorQFqFi1
import Derived.Test.YtbgpnkchbcgekaaDoorQFqS6
import Derived.Test.YtbgpnkchbcgekaaDoorCards
import Derived.Test.YtbgpnkchbcgekaaDoorTie
import Derived.WalkKit
import Derived.ProofKit
import Derived.OpenShut
import Derived.Deep.DeepHandedRow
import Derived.Deep.SlicePairs
import Derived.Lib.LaidTab
import Derived.Lib.SmallJoins
import Derived.Laws.IdiomArrays
section
namespace Go.Proofs.YtbgpnkchbcgekaaDoor.Fi
open Go.RowKit Go.Proofs.YtbgpnkchbcgekaaDoorW.PrintWords Go.Proofs.YtbgpnkchbcgekaaDoorW.PrintLast Go.Proofs.YtbgpnkchbcgekaaDoorW.PrintMore Wog
set_option linter.unusedVariables false
set_option linter.unusedSimpArgs false
/-- What the table holds. -/
def tabL : List Int := [0, 1, 28, 2, 29, 14, 24, 3, 30, 22, 20, 15, 25, 17, 4, 8, 31, 27, 13, 23, 21, 19, 16, 7, 26, 12, 18, 6, 11, 5, 10, 9]
/-- The table lies where the program has it. -/
def TabIn (w : World) : Prop := ∀ i, i < 32 → w.cell? ⟨0, i, none⟩ = some (.int .u8 (tabL.getD i 0))
theorem TabIn.heap {w w1 : World} (h : TabIn w) (hb : w1.heap[0]? = w.heap[0]?) : TabIn w1 := by
  intro i hi
  have := h i hi
  unfold World.cell? at this ⊢
  rw [show w1.heap[(⟨0, i, none⟩ : Addr).block]? = w.heap[(⟨0, i, none⟩ : Addr).block]? from hb]
  exact this
theorem TabIn.lt {w : World} (h : TabIn w) : 0 < w.heap.size := World.block_lt_of_cell? w _ (h 0 (by omega))
theorem TabIn.below {w w1 : World} {B : Nat} (h : TabIn w) (hb : Below B w w1) (hB : 0 < B) : TabIn w1 := h.heap (hb.block 0 hB)
theorem TabIn.below' {w w1 : World} (h : TabIn w) (hb : Below w.heap.size w w1) : TabIn w1 := h.below hb h.lt
theorem low_spec : ∀ x : Fin 1024, x.val ≠ 0 → low x.val < 10 ∧ x.val.testBit (low x.val) = true ∧ Go.bits .and .u16 (x.val : Int) (IntKind.u16.wrap (-(x.val : Int))) = ((2 ^ low x.val : Nat) : Int) := by decide +kernel
set_option maxHeartbeats 2000000 in
set_option maxRecDepth 100000 in
theorem tz_calls (x : Nat) (h0 : x ≠ 0) (h : x < 1024) (w : World) (hT : TabIn w) : Calls Tryd.prog 69 #[.int .u16 (x : Int)] w fun e w' => e = .returned (.int .i64 ((low x : Nat) : Int)) ∧ Drawn0 w w' := by
  obtain ⟨h1, h2, h3⟩ := low_spec ⟨x, h⟩ h0
  have hb : ((x : Int) == 0) = false := by simp; omega
  obtain ⟨i, hi⟩ : ∃ i, i = low x := ⟨_, rfl⟩
  dsimp only at h1 h2 h3
  rw [← hi] at h1 h3 ⊢
  have hcell := fun j hj => hT j hj
  clear hT h2 hi h
  have hcase : i = 0 ∨ i = 1 ∨ i = 2 ∨ i = 3 ∨ i = 4 ∨ i = 5 ∨ i = 6 ∨ i = 7 ∨ i = 8 ∨ i = 9 := by omega
  clear h1
  rcases hcase with rfl | rfl | rfl | rfl | rfl | rfl | rfl | rfl | rfl | rfl
  · have hc := hcell 0 (by decide)
    simp only [tabL] at hc
    simp at hc
    clear hcell
    go_enter Tryd.func69, Tryd.ntmps69
    go_wp2
    go_ret
    exact ⟨rfl, Drawn0.refl _⟩
  · have hc := hcell 1 (by decide)
    simp only [tabL] at hc
    simp at hc
    clear hcell
    go_enter Tryd.func69, Tryd.ntmps69
    go_wp2
    go_ret
    exact ⟨rfl, Drawn0.refl _⟩
  · have hc := hcell 3 (by decide)
    simp only [tabL] at hc
    simp at hc
    clear hcell
    go_enter Tryd.func69, Tryd.ntmps69
    go_wp2
    go_ret
    exact ⟨rfl, Drawn0.refl _⟩
  · have hc := hcell 7 (by decide)
    simp only [tabL] at hc
    simp at hc
    clear hcell
    go_enter Tryd.func69, Tryd.ntmps69
    go_wp2
    go_ret
    exact ⟨rfl, Drawn0.refl _⟩
  · have hc := hcell 14 (by decide)
    simp only [tabL] at hc
    simp at hc
    clear hcell
    go_enter Tryd.func69, Tryd.ntmps69
    go_wp2
    go_ret
    exact ⟨rfl, Drawn0.refl _⟩
  · have hc := hcell 29 (by decide)
    simp only [tabL] at hc
    simp at hc
    clear hcell
    go_enter Tryd.func69, Tryd.ntmps69
    go_wp2
    go_ret
    exact ⟨rfl, Drawn0.refl _⟩
  · have hc := hcell 27 (by decide)
    simp only [tabL] at hc
    simp at hc
    clear hcell
    go_enter Tryd.func69, Tryd.ntmps69
    go_wp2
    go_ret
    exact ⟨rfl, Drawn0.refl _⟩
  · have hc := hcell 23 (by decide)
    simp only [tabL] at hc
    simp at hc
    clear hcell
    go_enter Tryd.func69, Tryd.ntmps69
    go_wp2
    go_ret
    exact ⟨rfl, Drawn0.refl _⟩
  · have hc := hcell 15 (by decide)
    simp only [tabL] at hc
    simp at hc
    clear hcell
    go_enter Tryd.func69, Tryd.ntmps69
    go_wp2
    go_ret
    exact ⟨rfl, Drawn0.refl _⟩
  · have hc := hcell 31 (by decide)
    simp only [tabL] at hc
    simp at hc
    clear hcell
    go_enter Tryd.func69, Tryd.ntmps69
    go_wp2
    go_ret
    exact ⟨rfl, Drawn0.refl _⟩
end Go.Proofs.YtbgpnkchbcgekaaDoor.Fi
end
section
namespace Go.Proofs.YtbgpnkchbcgekaaDoor.Fi
open Go.ChangeShapes Go.WideShapes Go.ChangeAt Go.RowKit Go.Proofs.YtbgpnkchbcgekaaDoorW.PrintWords Go.Proofs.YtbgpnkchbcgekaaDoorW.PrintMore
set_option linter.unusedVariables false
theorem gTab : Tryd.prog.globalNamed "math/bits.deBruijn32tab" = some 0 := by kernel_rfl
theorem gTabType : (Tryd.prog.globals[0]?).map (·.type) = some 114 := by kernel_rfl
theorem cells114 : Tryd.prog.cellsOf 114 = 32 := by kernel_rfl
theorem cells5 : Tryd.prog.cellsOf 5 = 1 := by kernel_rfl
theorem table {W : World} (h : laidMetH Tryd.prog Rows.fireBestsRow.laid W) : Lib.TabIs Tryd.prog W "math/bits.deBruijn32tab" .u8 tabL :=
  Lib.tabIs_of_head (rest := []) gTab gTabType Tryd.underlying114 Tryd.underlying5 cells5 cells114 h
theorem tabIn {W : World} (h : laidMetH Tryd.prog Rows.fireBestsRow.laid W) : TabIn W := by
  intro i hi
  have := (table h).cell gTab i (by simpa [tabL] using hi)
  rw [List.getD_eq_getElem?_getD]
  simpa using this
theorem own : ownKnob Tryd.prog.godebug = none := by kernel_rfl
theorem laidOut : laidOutB Tryd.prog = true := by kernel_rfl
end Go.Proofs.YtbgpnkchbcgekaaDoor.Fi
end
section
namespace Go.Proofs.YtbgpnkchbcgekaaDoor.Fi
open Go.ChangeShapes Go.WideShapes Go.ChangeAt Go.RowKit Go.Proofs.YtbgpnkchbcgekaaDoorW.PrintWords Go.Proofs.YtbgpnkchbcgekaaDoorW.PrintMore
set_option linter.unusedVariables false
set_option maxRecDepth 100000 in
theorem arr3_open {H : Type} {enc : TypeId × Value → H} {W : World} {spare : Nat → Bool} {held : Bool} {r : Reach} {b0 : Nat} {v : Value} {d : DataW H} {p : List MemPlace} (hv : Value.okWide Tryd.prog W r b0 39 v) (h : DataW.Trod enc Tryd.prog W 0 spare held 39 v d p) :
    ∃ x0 x1 x2 : Int, v = .agg #[.int .u8 x0, .int .u8 x1, .int .u8 x2] ∧ (Lit.int .u8 x0).wf = true ∧ (Lit.int .u8 x1).wf = true ∧ (Lit.int .u8 x2).wf = true := by
  simp only [Value.okWide, Tryd.underlying39] at hv
  obtain ⟨cs, rfl, hs, _⟩ := hv
  have hs3 : cs.size = 3 := hs.trans (by kernel_rfl)
  obtain ⟨c0, c1, c2, rfl⟩ : ∃ c0 c1 c2, cs = #[c0, c1, c2] := by
    obtain ⟨l⟩ := cs
    match l, hs3 with
    | [c0, c1, c2], _ => exact ⟨c0, c1, c2, rfl⟩
  obtain ⟨fuel, hf⟩ := h
  have hf' : DataW.trod enc Tryd.prog W 0 spare held fuel 39 [c0, c1, c2] = some (d, p) := by simpa [Value.cells] using hf
  obtain ⟨y0, y1, y2, m, _, h0, h1, h2⟩ := trod_array3 Tryd.underlying39 (by kernel_rfl) hf'
  obtain ⟨x0, e0, _, w0⟩ := DataW.trod_int (k := .u8) Tryd.underlying5 h0
  obtain ⟨x1, e1, _, w1⟩ := DataW.trod_int (k := .u8) Tryd.underlying5 h1
  obtain ⟨x2, e2, _, w2⟩ := DataW.trod_int (k := .u8) Tryd.underlying5 h2
  injection e0 with e0 _
  injection e1 with e1 _
  injection e2 with e2 _
  subst e0 e1 e2
  exact ⟨x0, x1, x2, rfl, w0, w1, w2⟩
end Go.Proofs.YtbgpnkchbcgekaaDoor.Fi
end
