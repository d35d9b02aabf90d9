/- Texts of this claim, joined: Ht, R0 -/
import Derived.Test.YtbgpnkchbcgekaaDoorQFzFi1
import Derived.Test.YtbgpnkchbcgekaaDoorQFzS8
import Derived.Test.YtbgpnkchbcgekaaDoorCards
import Derived.Test.YtbgpnkchbcgekaaDoorTie
import Derived.WalkKit
import Derived.ProofKit
import Derived.OpenShut
import Derived.Deep.DeepHandedRow
import Derived.Deep.SlicePairs
import Derived.Lib.LaidTab
import Derived.Lib.SmallJoins
section
namespace Go.Proofs.YtbgpnkchbcgekaaDoor.Fi
open Go.RowKit Go.Proofs.YtbgpnkchbcgekaaDoorW.PrintWords Go.Proofs.YtbgpnkchbcgekaaDoorW.PrintLast Go.Proofs.YtbgpnkchbcgekaaDoorW.PrintMore Wog
set_option linter.unusedVariables false
set_option linter.unusedSimpArgs false
/-- What the table holds. -/
def tabL : List Int := [0, 1, 28, 2, 29, 14, 24, 3, 30, 22, 20, 15, 25, 17, 4, 8, 31, 27, 13, 23, 21, 19, 16, 7, 26, 12, 18, 6, 11, 5, 10, 9]
/-- The table lies where the program has it. -/
def TabIn (w : World) : Prop := ∀ i, i < 32 → w.cell? ⟨0, i, none⟩ = some (.int .u8 (tabL.getD i 0))
theorem TabIn.heap {w w1 : World} (h : TabIn w) (hb : w1.heap[0]? = w.heap[0]?) : TabIn w1 := by
  intro i hi
  have := h i hi
  unfold World.cell? at this ⊢
  rw [show w1.heap[(⟨0, i, none⟩ : Addr).block]? = w.heap[(⟨0, i, none⟩ : Addr).block]? from hb]
  exact this
theorem TabIn.lt {w : World} (h : TabIn w) : 0 < w.heap.size := World.block_lt_of_cell? w _ (h 0 (by omega))
theorem TabIn.below {w w1 : World} {B : Nat} (h : TabIn w) (hb : Below B w w1) (hB : 0 < B) : TabIn w1 := h.heap (hb.block 0 hB)
theorem TabIn.below' {w w1 : World} (h : TabIn w) (hb : Below w.heap.size w w1) : TabIn w1 := h.below hb h.lt
theorem low_spec : ∀ x : Fin 1024, x.val ≠ 0 → low x.val < 10 ∧ x.val.testBit (low x.val) = true ∧ Go.bits .and .u16 (x.val : Int) (IntKind.u16.wrap (-(x.val : Int))) = ((2 ^ low x.val : Nat) : Int) := by decide +kernel
set_option maxHeartbeats 2000000 in
set_option maxRecDepth 100000 in
theorem tz_calls (x : Nat) (h0 : x ≠ 0) (h : x < 1024) (w : World) (hT : TabIn w) : Calls Tryd.prog 69 #[.int .u16 (x : Int)] w fun e w' => e = .returned (.int .i64 ((low x : Nat) : Int)) ∧ Drawn0 w w' := by
  obtain ⟨h1, h2, h3⟩ := low_spec ⟨x, h⟩ h0
  have hb : ((x : Int) == 0) = false := by simp; omega
  obtain ⟨i, hi⟩ : ∃ i, i = low x := ⟨_, rfl⟩
  dsimp only at h1 h2 h3
  rw [← hi] at h1 h3 ⊢
  have hcell := fun j hj => hT j hj
  clear hT h2 hi h
  have hcase : i = 0 ∨ i = 1 ∨ i = 2 ∨ i = 3 ∨ i = 4 ∨ i = 5 ∨ i = 6 ∨ i = 7 ∨ i = 8 ∨ i = 9 := by omega
  clear h1
  rcases hcase with rfl | rfl | rfl | rfl | rfl | rfl | rfl | rfl | rfl | rfl
  · have hc := hcell 0 (by decide)
    simp only [tabL] at hc
    simp at hc
    clear hcell
    go_enter Tryd.func69, Tryd.ntmps69
    go_wp2
    go_ret
    exact ⟨rfl, Drawn0.refl _⟩
  · have hc := hcell 1 (by decide)
    simp only [tabL] at hc
    simp at hc
    clear hcell
    go_enter Tryd.func69, Tryd.ntmps69
    go_wp2
    go_ret
    exact ⟨rfl, Drawn0.refl _⟩
  · have hc := hcell 3 (by decide)
    simp only [tabL] at hc
    simp at hc
    clear hcell
    go_enter Tryd.func69, Tryd.ntmps69
    go_wp2
    go_ret
    exact ⟨rfl, Drawn0.refl _⟩
  · have hc := hcell 7 (by decide)
    simp only [tabL] at hc
    simp at hc
    clear hcell
    go_enter Tryd.func69, Tryd.ntmps69
    go_wp2
    go_ret
    exact ⟨rfl, Drawn0.refl _⟩
  · have hc := hcell 14 (by decide)
    simp only [tabL] at hc
    simp at hc
    clear hcell
    go_enter Tryd.func69, Tryd.ntmps69
    go_wp2
    go_ret
    exact ⟨rfl, Drawn0.refl _⟩
  · have hc := hcell 29 (by decide)
    simp only [tabL] at hc
    simp at hc
    clear hcell
    go_enter Tryd.func69, Tryd.ntmps69
    go_wp2
    go_ret
    exact ⟨rfl, Drawn0.refl _⟩
  · have hc := hcell 27 (by decide)
    simp only [tabL] at hc
    simp at hc
    clear hcell
    go_enter Tryd.func69, Tryd.ntmps69
    go_wp2
    go_ret
    exact ⟨rfl, Drawn0.refl _⟩
  · have hc := hcell 23 (by decide)
    simp only [tabL] at hc
    simp at hc
    clear hcell
    go_enter Tryd.func69, Tryd.ntmps69
    go_wp2
    go_ret
    exact ⟨rfl, Drawn0.refl _⟩
  · have hc := hcell 15 (by decide)
    simp only [tabL] at hc
    simp at hc
    clear hcell
    go_enter Tryd.func69, Tryd.ntmps69
    go_wp2
    go_ret
    exact ⟨rfl, Drawn0.refl _⟩
  · have hc := hcell 31 (by decide)
    simp only [tabL] at hc
    simp at hc
    clear hcell
    go_enter Tryd.func69, Tryd.ntmps69
    go_wp2
    go_ret
    exact ⟨rfl, Drawn0.refl _⟩
end Go.Proofs.YtbgpnkchbcgekaaDoor.Fi
end
section
namespace Go.Proofs.YtbgpnkchbcgekaaDoor.Fi
open Go.ChangeShapes Go.WideShapes Go.ChangeAt Go.RowKit Go.Proofs.YtbgpnkchbcgekaaDoorW.PrintWords Go.Proofs.YtbgpnkchbcgekaaDoorW.PrintMore
set_option linter.unusedVariables false
theorem gTab : Tryd.prog.globalNamed "math/bits.deBruijn32tab" = some 0 := by kernel_rfl
theorem gTabType : (Tryd.prog.globals[0]?).map (·.type) = some 114 := by kernel_rfl
theorem cells114 : Tryd.prog.cellsOf 114 = 32 := by kernel_rfl
theorem cells5 : Tryd.prog.cellsOf 5 = 1 := by kernel_rfl
theorem table {W : World} (h : laidMetH Tryd.prog Rows.fireBestsRow.laid W) : Lib.TabIs Tryd.prog W "math/bits.deBruijn32tab" .u8 tabL :=
  Lib.tabIs_of_head (rest := []) gTab gTabType Tryd.underlying114 Tryd.underlying5 cells5 cells114 h
theorem tabIn {W : World} (h : laidMetH Tryd.prog Rows.fireBestsRow.laid W) : TabIn W := by
  intro i hi
  have := (table h).cell gTab i (by simpa [tabL] using hi)
  rw [List.getD_eq_getElem?_getD]
  simpa using this
theorem own : ownKnob Tryd.prog.godebug = none := by kernel_rfl
theorem laidOut : laidOutB Tryd.prog = true := by kernel_rfl
set_option maxRecDepth 100000 in
theorem ints_open {H : Type} {enc : TypeId × Value → H} {W : World} {held : Bool} {r : Reach} {b0 : Nat} {v : Value} {d : DataW H} {p : List MemPlace} {k : IntKind} {T E : Nat} (hT : Tryd.prog.underlying T = some (.slice E)) (hE : Tryd.prog.underlying E = some (.int k)) (hc : Tryd.prog.cellsOf E = 1)
    (hv : Value.okWide Tryd.prog W r b0 T v) (h : DataW.Trod enc Tryd.prog W 0 (fun _ => true) held T v d p) :
    ∃ (A : Option Addr) (c : Nat) (l : List Int), v = .slice A l.length c ∧ Kd.C (Kd.int k) W A l.length l ∧ l.length ≤ c ∧ ∀ x ∈ l, (Lit.int k x).wf = true := by
  obtain ⟨a, len, cap, rfl⟩ := okWide_slice hT hv
  obtain ⟨fuel, hf⟩ := h
  have hrow : (a = none ∧ len = 0 ∧ cap = 0 ∧ ([] : List Int) = []) ∨ True := .inr trivial
  have : ∃ zs : List Int, (a = none ∧ len = 0 ∧ cap = 0 ∧ zs = []) ∨ ∃ x, a = some x ∧ len ≤ cap ∧ cap ≤ maxLen ∧ zs.length = cap ∧ (∀ i, i < zs.length → W.cell? (x.add i) = some (.int k (zs.getD i 0))) ∧ ∀ n ∈ zs, (Lit.int k n).wf = true := by
    rcases open_ints hT hE hc hf with ⟨hcs, _⟩ | ⟨x, l, c, zs, hcs, _, hl, hm, hz, _, hcell, hwz⟩
    · simp [Value.cells] at hcs
      obtain ⟨rfl, rfl, rfl⟩ := hcs
      exact ⟨[], .inl ⟨rfl, rfl, rfl, rfl⟩⟩
    · simp [Value.cells] at hcs
      obtain ⟨rfl, rfl, rfl⟩ := hcs
      exact ⟨zs, .inr ⟨_, rfl, hl, hm, by simpa using hz, hcell, hwz⟩⟩
  obtain ⟨zs, hz⟩ := this
  obtain ⟨l, rfl, h1, h2, h3, h4⟩ := ReadsInt.ofRowC hz
  exact ⟨a, cap, l, rfl, Kd.C_of_reads (d := (0 : Int)) (h1 := fun _ => rfl) h1, h4, h3⟩
end Go.Proofs.YtbgpnkchbcgekaaDoor.Fi
end
