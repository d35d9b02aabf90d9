/- Texts of this claim, joined: Ht, R0 -/
import Derived.Test.YtbgpnkchbcgekaaDoorQFgFi1
import Derived.Test.YtbgpnkchbcgekaaDoorQFgS8
import Derived.Test.YtbgpnkchbcgekaaDoorCards
import Derived.Test.YtbgpnkchbcgekaaDoorTie
import Derived.WalkKit
import Derived.ProofKit
import Derived.OpenShut
import Derived.Deep.DeepHandedRow
import Derived.Deep.SlicePairs
import Derived.Lib.LaidTab
import Derived.Lib.SmallJoins
section
namespace Go.Proofs.YtbgpnkchbcgekaaDoor.Fi
open Go.RowKit Go.Proofs.YtbgpnkchbcgekaaDoorW.PrintWords Go.Proofs.YtbgpnkchbcgekaaDoorW.PrintLast Go.Proofs.YtbgpnkchbcgekaaDoorW.PrintMore Wog
set_option linter.unusedVariables false
set_option linter.unusedSimpArgs false
/-- What the table holds. -/
def tabL : List Int := [0, 1, 28, 2, 29, 14, 24, 3, 30, 22, 20, 15, 25, 17, 4, 8, 31, 27, 13, 23, 21, 19, 16, 7, 26, 12, 18, 6, 11, 5, 10, 9]
/-- The table lies where the program has it. -/
def TabIn (w : World) : Prop := ∀ i, i < 32 → w.cell? ⟨0, i, none⟩ = some (.int .u8 (tabL.getD i 0))
theorem TabIn.heap {w w1 : World} (h : TabIn w) (hb : w1.heap[0]? = w.heap[0]?) : TabIn w1 := by
  intro i hi
  have := h i hi
  unfold World.cell? at this ⊢
  rw [show w1.heap[(⟨0, i, none⟩ : Addr).block]? = w.heap[(⟨0, i, none⟩ : Addr).block]? from hb]
  exact this
theorem TabIn.lt {w : World} (h : TabIn w) : 0 < w.heap.size := World.block_lt_of_cell? w _ (h 0 (by omega))
theorem TabIn.below {w w1 : World} {B : Nat} (h : TabIn w) (hb : Below B w w1) (hB : 0 < B) : TabIn w1 := h.heap (hb.block 0 hB)
theorem TabIn.below' {w w1 : World} (h : TabIn w) (hb : Below w.heap.size w w1) : TabIn w1 := h.below hb h.lt
theorem low_spec : ∀ x : Fin 1024, x.val ≠ 0 → low x.val < 10 ∧ x.val.testBit (low x.val) = true ∧ Go.bits .and .u16 (x.val : Int) (IntKind.u16.wrap (-(x.val : Int))) = ((2 ^ low x.val : Nat) : Int) := by decide +kernel
set_option maxHeartbeats 2000000 in
set_option maxRecDepth 100000 in
theorem tz_calls (x : Nat) (h0 : x ≠ 0) (h : x < 1024) (w : World) (hT : TabIn w) : Calls Tryd.prog 69 #[.int .u16 (x : Int)] w fun e w' => e = .returned (.int .i64 ((low x : Nat) : Int)) ∧ Drawn0 w w' := by
  obtain ⟨h1, h2, h3⟩ := low_spec ⟨x, h⟩ h0
  have hb : ((x : Int) == 0) = false := by simp; omega
  obtain ⟨i, hi⟩ : ∃ i, i = low x := ⟨_, rfl⟩
  dsimp only at h1 h2 h3
  rw [← hi] at h1 h3 ⊢
  have hcell := fun j hj => hT j hj
  clear hT h2 hi h
  have hcase : i = 0 ∨ i = 1 ∨ i = 2 ∨ i = 3 ∨ i = 4 ∨ i = 5 ∨ i = 6 ∨ i = 7 ∨ i = 8 ∨ i = 9 := by omega
  clear h1
  rcases hcase with rfl | rfl | rfl | rfl | rfl | rfl | rfl | rfl | rfl | rfl
  · have hc := hcell 0 (by decide)
    simp only [tabL] at hc
    simp at hc
    clear hcell
    go_enter Tryd.func69, Tryd.ntmps69
    go_wp2
    go_ret
    exact ⟨rfl, Drawn0.refl _⟩
  · have hc := hcell 1 (by decide)
    simp only [tabL] at hc
    simp at hc
    clear hcell
    go_enter Tryd.func69, Tryd.ntmps69
    go_wp2
    go_ret
    exact ⟨rfl, Drawn0.refl _⟩
  · have hc := hcell 3 (by decide)
    simp only [tabL] at hc
    simp at hc
    clear hcell
    go_enter Tryd.func69, Tryd.ntmps69
    go_wp2
    go_ret
    exact ⟨rfl, Drawn0.refl _⟩
  · have hc := hcell 7 (by decide)
    simp only [tabL] at hc
    simp at hc
    clear hcell
    go_enter Tryd.func69, Tryd.ntmps69
    go_wp2
    go_ret
    exact ⟨rfl, Drawn0.refl _⟩
  · have hc := hcell 14 (by decide)
    simp only [tabL] at hc
    simp at hc
    clear hcell
    go_enter Tryd.func69, Tryd.ntmps69
    go_wp2
    go_ret
    exact ⟨rfl, Drawn0.refl _⟩
  · have hc := hcell 29 (by decide)
    simp only [tabL] at hc
    simp at hc
    clear hcell
    go_enter Tryd.func69, Tryd.ntmps69
    go_wp2
    go_ret
    exact ⟨rfl, Drawn0.refl _⟩
  · have hc := hcell 27 (by decide)
    simp only [tabL] at hc
    simp at hc
    clear hcell
    go_enter Tryd.func69, Tryd.ntmps69
    go_wp2
    go_ret
    exact ⟨rfl, Drawn0.refl _⟩
  · have hc := hcell 23 (by decide)
    simp only [tabL] at hc
    simp at hc
    clear hcell
    go_enter Tryd.func69, Tryd.ntmps69
    go_wp2
    go_ret
    exact ⟨rfl, Drawn0.refl _⟩
  · have hc := hcell 15 (by decide)
    simp only [tabL] at hc
    simp at hc
    clear hcell
    go_enter Tryd.func69, Tryd.ntmps69
    go_wp2
    go_ret
    exact ⟨rfl, Drawn0.refl _⟩
  · have hc := hcell 31 (by decide)
    simp only [tabL] at hc
    simp at hc
    clear hcell
    go_enter Tryd.func69, Tryd.ntmps69
    go_wp2
    go_ret
    exact ⟨rfl, Drawn0.refl _⟩
end Go.Proofs.YtbgpnkchbcgekaaDoor.Fi
end
section
namespace Go.Proofs.YtbgpnkchbcgekaaDoor.Fi
open Go.ChangeShapes Go.WideShapes Go.ChangeAt Go.RowKit Go.Proofs.YtbgpnkchbcgekaaDoorW.PrintWords Go.Proofs.YtbgpnkchbcgekaaDoorW.PrintMore
set_option linter.unusedVariables false
theorem gTab : Tryd.prog.globalNamed "math/bits.deBruijn32tab" = some 0 := by kernel_rfl
theorem gTabType : (Tryd.prog.globals[0]?).map (·.type) = some 114 := by kernel_rfl
theorem cells114 : Tryd.prog.cellsOf 114 = 32 := by kernel_rfl
theorem cells5 : Tryd.prog.cellsOf 5 = 1 := by kernel_rfl
theorem table {W : World} (h : laidMetH Tryd.prog Rows.fireBestsRow.laid W) : Lib.TabIs Tryd.prog W "math/bits.deBruijn32tab" .u8 tabL :=
  Lib.tabIs_of_head (rest := []) gTab gTabType Tryd.underlying114 Tryd.underlying5 cells5 cells114 h
theorem tabIn {W : World} (h : laidMetH Tryd.prog Rows.fireBestsRow.laid W) : TabIn W := by
  intro i hi
  have := (table h).cell gTab i (by simpa [tabL] using hi)
  rw [List.getD_eq_getElem?_getD]
  simpa using this
theorem own : ownKnob Tryd.prog.godebug = none := by kernel_rfl
theorem laidOut : laidOutB Tryd.prog = true := by kernel_rfl
set_option maxRecDepth 100000 in
theorem graph_open {H : Type} {enc : TypeId × Value → H} {W : World} {spare : Nat → Bool} {held : Bool} {r : Reach} {b0 : Nat} {v : Value} {d : DataW H} {p : List MemPlace} (hv : Value.okWide Tryd.prog W r b0 24 v) (h : DataW.Trod enc Tryd.prog W 0 spare held 24 v d p) :
    ∃ (n : Int) (A : Option Addr) (c : Nat) (l : List S42), v = .agg #[.int .i64 n, .slice A l.length c] ∧ Kd.C k42 W A l.length l ∧ l.length ≤ c ∧ n < 2 ^ 63 := by
  obtain ⟨v0, v1, y0, y1, m, rfl, rfl, rfl, h0, h1⟩ := Go.Joins.open_agg2 Tryd.underlying24 (by kernel_rfl) (by kernel_rfl) hv h
  obtain ⟨n, e0, _, hw⟩ := DataW.trod_int (k := .i64) Tryd.underlying3 h0
  have hn : n < 2 ^ 63 := by
    have h9 : (decide (IntKind.i64.min ≤ n) && decide (n ≤ IntKind.i64.max)) = true := hw
    rw [Bool.and_eq_true, decide_eq_true_iff, decide_eq_true_iff] at h9
    have h8 : IntKind.i64.max = 9223372036854775807 := by kernel_rfl
    rw [h8] at h9
    omega
  injection e0 with e0 _
  subst e0
  rcases Go.Deep.open_slice_pairs Tryd.underlying22 Tryd.underlying42 (by kernel_rfl) rfl rfl (by kernel_rfl) (by kernel_rfl) h1 with ⟨e1, _⟩ | ⟨a, len, cap, m', k, V0, V1, D0, D1, P0, P1, e1, hb, hl, hcap, hm, _, hx⟩
  · injection e1 with e1 _
    subst e1
    exact ⟨n, none, 0, [], rfl, ⟨rfl, by simp, fun h => absurd h (by simp)⟩, by simp, hn⟩
  · injection e1 with e1 _
    subst e1
    have hlm : len ≤ m' := by rw [hm]; split <;> omega
    have each : ∀ i, i < len → ∃ q : S42, W.cell? (a.add (i * 2)) = some (.int .i64 q.f0) ∧ W.cell? (a.add (i * 2 + 1)) = some (.int .i64 q.f1) := by
      intro i hi
      obtain ⟨g0, g1, g2, g3⟩ := hx i (by omega)
      obtain ⟨x0, e2, _, _⟩ := DataW.trod_int (k := .i64) Tryd.underlying3 g2
      obtain ⟨x1, e3, _, _⟩ := DataW.trod_int (k := .i64) Tryd.underlying3 g3
      injection e2 with e2 _
      injection e3 with e3 _
      exact ⟨⟨x0, x1⟩, by rw [g0, e2], by rw [g1, e3]⟩
    haveI : Inhabited S42 := ⟨⟨0, 0⟩⟩
    obtain ⟨q, hq⟩ := Go.Deep.choose_lt each
    have hlen : ((List.range len).map q).length = len := by simp
    refine ⟨n, some a, cap, (List.range len).map q, by rw [hlen], ⟨rfl, by simp; have := hcap; unfold maxLen at this; omega, fun _ => ⟨a, rfl, fun j p hj => ?_⟩⟩, by rw [hlen]; exact hl, hn⟩
    have hj' : j < len := by
      have := (List.getElem?_eq_some_iff.1 hj).1
      simpa using this
    rw [List.getElem?_map, List.getElem?_range hj'] at hj
    obtain rfl := Option.some.inj hj
    refine ⟨[.int .i64 (q j).f0, .int .i64 (q j).f1], rfl, k42_mk W (q j), fun i u hu => ?_⟩
    obtain ⟨h2, h3⟩ := hq j hj'
    match i, hu with
    | 0, hu => obtain rfl := Option.some.inj hu; exact h2
    | 1, hu => obtain rfl := Option.some.inj hu; exact h3
end Go.Proofs.YtbgpnkchbcgekaaDoor.Fi
end
