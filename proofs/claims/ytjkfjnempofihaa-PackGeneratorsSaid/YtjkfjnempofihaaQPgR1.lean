/- Arguments of four bytes, and slices of such. -/
import Derived.Test.YtjkfjnempofihaaQPgRM
import Derived.Test.YtjkfjnempofihaaRows
import Derived.WalkKit
import Derived.ProofKit
import Derived.OpenShut
import Derived.Deep.DeepHandedRow
import Derived.Deep.Slices
import Derived.Lib.SmallJoins
import Derived.Test.YtjkfjnempofihaaQPgE26
import Derived.Laws.IdiomArrays
namespace Go.Proofs.Ytjkfjnempofihaa.Fi
open Go.ChangeShapes Go.WideShapes Go.ChangeAt Go.RowKit Go.Proofs.YtjkfjnempofihaaW.PrintWords Go.Proofs.YtjkfjnempofihaaW.PrintMore
set_option linter.unusedVariables false
/-- Four bytes. -/
def U8 (x : M4) : Prop := (0 ≤ x.1 ∧ x.1 ≤ 255) ∧ (0 ≤ x.2.1 ∧ x.2.1 ≤ 255) ∧ (0 ≤ x.2.2.1 ∧ x.2.2.1 ≤ 255) ∧ (0 ≤ x.2.2.2 ∧ x.2.2.2 ≤ 255)
theorem wf_u8 {a : Int} (h : (Lit.int .u8 a).wf = true) : 0 ≤ a ∧ a ≤ 255 := by
  have h9 : (decide (IntKind.u8.min ≤ a) && decide (a ≤ IntKind.u8.max)) = true := h
  rw [Bool.and_eq_true, decide_eq_true_iff, decide_eq_true_iff] at h9
  have h8 : IntKind.u8.max = 255 := by kernel_rfl
  have h7 : IntKind.u8.min = 0 := by kernel_rfl
  rw [h8, h7] at h9
  exact h9
set_option maxRecDepth 100000 in
theorem four_of {H : Type} {enc : TypeId × Value → H} {W : World} {spare : Nat → Bool} {held : Bool} {fuel : Nat} {c0 c1 c2 c3 : Value} {x : DataW H × List MemPlace} (h : DataW.trod enc Try.prog W 0 spare held fuel 51 [c0, c1, c2, c3] = some x) :
    ∃ q : M4, [c0, c1, c2, c3] = encU q ∧ U8 q := by
  obtain ⟨y0, y1, y2, y3, m, _, h0, h1, h2, h3⟩ := trod_array4 Try.underlying51 (by kernel_rfl) h
  obtain ⟨x0, e0, _, w0⟩ := DataW.trod_int (k := .u8) Try.underlying5 h0
  obtain ⟨x1, e1, _, w1⟩ := DataW.trod_int (k := .u8) Try.underlying5 h1
  obtain ⟨x2, e2, _, w2⟩ := DataW.trod_int (k := .u8) Try.underlying5 h2
  obtain ⟨x3, e3, _, w3⟩ := DataW.trod_int (k := .u8) Try.underlying5 h3
  injection e0 with e0 _
  injection e1 with e1 _
  injection e2 with e2 _
  injection e3 with e3 _
  subst e0 e1 e2 e3
  exact ⟨(x0, x1, x2, x3), rfl, wf_u8 w0, wf_u8 w1, wf_u8 w2, wf_u8 w3⟩
set_option maxRecDepth 100000 in
theorem arr_open {H : Type} {enc : TypeId × Value → H} {W : World} {spare : Nat → Bool} {held : Bool} {r : Reach} {b0 : Nat} {v : Value} {d : DataW H} {p : List MemPlace} (hv : Value.okWide Try.prog W r b0 51 v) (h : DataW.Trod enc Try.prog W 0 spare held 51 v d p) :
    ∃ q : M4, v = .agg (encU q).toArray ∧ U8 q := by
  simp only [Value.okWide, Try.underlying51] at hv
  obtain ⟨cs, rfl, hs, _⟩ := hv
  have hs3 : cs.size = 4 := hs.trans (by kernel_rfl)
  obtain ⟨c0, c1, c2, c3, rfl⟩ : ∃ c0 c1 c2 c3, cs = #[c0, c1, c2, c3] := by
    obtain ⟨l⟩ := cs
    match l, hs3 with
    | [c0, c1, c2, c3], _ => exact ⟨c0, c1, c2, c3, rfl⟩
  obtain ⟨fuel, hf⟩ := h
  have hf' : DataW.trod enc Try.prog W 0 spare held fuel 51 [c0, c1, c2, c3] = some (d, p) := by simpa [Value.cells] using hf
  obtain ⟨q, h1, h2⟩ := four_of hf'
  exact ⟨q, by rw [← h1], h2⟩
set_option maxRecDepth 100000 in
theorem arrs_open {H : Type} {enc : TypeId × Value → H} {W : World} {spare : Nat → Bool} {held : Bool} {r : Reach} {b0 : Nat} {v : Value} {d : DataW H} {p : List MemPlace} (hv : Value.okWide Try.prog W r b0 48 v) (h : DataW.Trod enc Try.prog W 0 spare held 48 v d p) :
    ∃ (A : Option Addr) (c : Nat) (l : List M4), v = .slice A l.length c ∧ Kd.C kU W A l.length l ∧ l.length ≤ c ∧ ∀ x ∈ l, U8 x := by
  obtain ⟨a, len, cap, rfl⟩ := okWide_slice Try.underlying48 hv
  obtain ⟨fuel, hf0⟩ := h
  have hf : DataW.trod enc Try.prog W 0 spare held fuel 48 [.slice a len cap] = some (d, p) := by simpa [Value.cells] using hf0
  rcases Go.Deep.open_slice Try.underlying48 hf with ⟨e1, _⟩ | ⟨a, len, cap, m', k, D, Pl, e1, hb, hl, hcap, hm, _, hx⟩
  · injection e1 with e1 _
    rw [e1]
    exact ⟨none, 0, [], rfl, ⟨rfl, by simp, fun h => absurd h (by simp)⟩, by simp, fun x hx => by cases hx⟩
  · injection e1 with e1 _
    rw [e1]
    have hlm : len ≤ m' := by rw [hm]; split <;> omega
    have hc4 : Try.prog.cellsOf 51 = 4 := by kernel_rfl
    rw [hc4] at hx
    have each : ∀ i, i < len → ∃ q : M4, (∀ j u, (encU q)[j]? = some u → W.cell? (a.add (i * 4 + j)) = some u) ∧ U8 q := by
      intro i hi
      obtain ⟨cs', g0, g1⟩ := hx i (by omega)
      obtain ⟨_, hlen, hcell⟩ := World.cells?_some g0
      match cs', hlen with
      | [c0, c1, c2, c3], _ =>
        obtain ⟨q, h1, h2⟩ := four_of g1
        refine ⟨q, fun j u hu => ?_, h2⟩
        have hj : j < 4 := by
          have := (List.getElem?_eq_some_iff.1 hu).1
          exact this
        have h3 := hcell j hj
        rw [h1, hu] at h3
        rw [← h3]
        congr 1
        unfold Addr.add
        by_cases h0 : i * 4 = 0
        · rw [if_pos h0, h0, Nat.zero_add]
        · rw [if_neg h0]
          by_cases hj0 : j = 0
          · rw [if_pos hj0, if_neg (by omega), hj0]
            rfl
          · rw [if_neg hj0, if_neg (by omega)]
            simp [Nat.add_assoc]
    obtain ⟨q, hq⟩ := Go.Deep.choose_lt (α := M4) each
    have hlen : ((List.range len).map q).length = len := by simp
    refine ⟨some a, cap, (List.range len).map q, by rw [hlen], ⟨rfl, by rw [hlen]; unfold maxLen at hcap; omega, fun _ => ⟨a, rfl, fun j p hj => ?_⟩⟩, by rw [hlen]; exact hl, fun x hx2 => ?_⟩
    · have hj' : j < len := by
        have := (List.getElem?_eq_some_iff.1 hj).1
        simpa using this
      rw [List.getElem?_map, List.getElem?_range hj'] at hj
      obtain rfl := Option.some.inj hj
      exact ⟨encU (q j), rfl, rfl, fun i u hu => (hq j hj').1 i u hu⟩
    · obtain ⟨j, hj, rfl⟩ := List.mem_map.1 hx2
      exact (hq j (List.mem_range.1 hj)).2
end Go.Proofs.Ytjkfjnempofihaa.Fi
