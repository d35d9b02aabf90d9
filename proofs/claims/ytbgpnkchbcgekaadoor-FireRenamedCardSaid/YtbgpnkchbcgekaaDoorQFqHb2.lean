/- The calls of fire.read and fire.lit, by what the graph is; slices.Clone of a slice of numbers; bits.TrailingZeros16 of a number below 1024. -/
import Derived.Test.YtbgpnkchbcgekaaDoorQFqHb
import Derived.WalkSpells
import Derived.Lib.LazyBuf
namespace Go.Proofs.YtbgpnkchbcgekaaDoor.Fi
open Go.RowKit Go.Proofs.YtbgpnkchbcgekaaDoorW.PrintWords Go.Proofs.YtbgpnkchbcgekaaDoorW.PrintLast Go.Proofs.YtbgpnkchbcgekaaDoorW.PrintMore
attribute [local go_sem] max2_int min2_int max_two min_two max_three min_three max_four min_four
set_option linter.unusedVariables false
set_option linter.unusedSimpArgs false
def GoodG (n : Int) (l : List S42) : Prop := 1 ≤ n ∧ n ≤ 10 ∧ l.length ≤ 60 ∧ ∀ x ∈ l, okE n.toNat x
/-- The world as it was when only the first g blocks were there. -/
def cutW (w : World) (g : Nat) : World := { w with heap := w.heap.extract 0 g }
theorem cutW_heap (w : World) (g k : Nat) (h : k < g) (hg : g ≤ w.heap.size) : (cutW w g).heap[k]? = w.heap[k]? := by
  show (w.heap.extract 0 g)[k]? = _
  rw [Array.getElem?_extract]
  simp [show k < g - 0 by omega, show k < w.heap.size by omega]
  omega
theorem cutW_size (w : World) (g : Nat) (hg : g ≤ w.heap.size) : (cutW w g).heap.size = g := by
  show (w.heap.extract 0 g).size = _
  rw [Array.size_extract]
  omega
theorem cutW_below (w : World) (g : Nat) (hg : g ≤ w.heap.size) : Below (cutW w g).heap.size (cutW w g) w :=
  ⟨rfl, rfl, rfl, by rw [cutW_size w g hg]; exact hg, fun k hk => by rw [cutW_size w g hg] at hk; exact (cutW_heap w g k hk hg).symm⟩
theorem Rd.is {w wr : World} {n : Nat} {xs : List Nat} (h : Rd w wr n xs) (hl : xs.length = n) (hn : n ≤ 10) :
    ∃ w0, IsS105 w0 wr (w.heap.size + 1) n (toI xs) ∧ Below w0.heap.size w0 wr ∧ Below w.heap.size w w0 := by
  have hg := blk_lt h.st
  have hs := cutW_size wr (w.heap.size + 1) (by omega)
  have hr : (cutW wr (w.heap.size + 1)).heap[w.heap.size]? = some (.cells (nums .u16 (toI xs)).toArray 81 (0, 0)) := (cutW_heap wr _ _ (by omega) (by omega)).trans h.row
  have hB := cutW_below wr (w.heap.size + 1) (by omega)
  refine ⟨cutW wr (w.heap.size + 1), ⟨some ⟨w.heap.size, 0, none⟩, n, by rw [toI_length, hl]; exact h.st, by omega, ?_⟩, hB, ?_⟩
  · refine Kd.C_of_reads (d := (0 : Int)) (h1 := fun _ => rfl) ⟨rfl, by rw [toI_length]; omega, fun _ => ⟨_, rfl, fun j hj => ?_⟩⟩
    rw [toI_length] at hj
    rw [add_plain, blk_cell hr, toI_get xs j hj]
    congr 2
    simp [toI, List.getD_eq_getElem?_getD, List.getElem?_eq_getElem hj]
  · exact ⟨h.bel.os, h.bel.tape, h.bel.output, by omega, fun k hk => (cutW_heap wr _ _ (by omega) (by omega)).trans (h.bel.block k hk)⟩
theorem read_yes (n : Int) (A : Option Addr) (c : Nat) (l : List S42) (w : World) (hr : Kd.C k42 w A l.length l) (hc : l.length ≤ c) (h : GoodG n l) :
    Calls Tryd.prog 49 #[.int .i64 n, .slice A l.length c] w fun e w' => ∃ w0 g, e = .returned (.tuple #[.pointer (some ⟨g, 0, none⟩), .bool true]) ∧ IsS105 w0 w' g n (toI (nearS n.toNat l)) ∧ Below w0.heap.size w0 w' ∧ Below w.heap.size w w0 := by
  obtain ⟨h1, h2, h3, h4⟩ := h
  obtain ⟨m, rfl⟩ := Int.eq_ofNat_of_zero_le (show 0 ≤ n by omega)
  rw [Int.toNat_natCast] at h4 ⊢
  refine (read_ok m A c l w hr hc (by omega) (by omega) h3).mono fun e w' hp => ?_
  obtain ⟨he, hd⟩ := hp.1 h4
  obtain ⟨w0, k1, k2, k3⟩ := hd.is (nearS_length _ _) (by omega)
  exact ⟨w0, _, he, k1, k2, k3⟩
set_option maxHeartbeats 1000000 in
set_option maxRecDepth 100000 in
theorem read_no (n : Int) (A : Option Addr) (c : Nat) (l : List S42) (w : World) (hr : Kd.C k42 w A l.length l) (hc : l.length ≤ c) (h : ¬ GoodG n l) :
    Calls Tryd.prog 49 #[.int .i64 n, .slice A l.length c] w fun e w' => e = .returned (.tuple #[.pointer none, .bool false]) ∧ Below w.heap.size w w' := by
  by_cases h1 : n < 1
  · have b1 : decide (n < 1) = true := decide_eq_true h1
    clear h hr
    go_enter Tryd.func49, Tryd.ntmps49
    go_wp2
    go_ret2
    exact ⟨rfl, Below.refl _ _⟩
  · have b1 : decide (n < 1) = false := decide_eq_false h1
    by_cases h2 : 10 < n
    · have b2 : decide (10 < n) = true := decide_eq_true h2
      clear h hr
      go_enter Tryd.func49, Tryd.ntmps49
      go_wp2
      go_ret2
      exact ⟨rfl, Below.refl _ _⟩
    · have b2 : decide (10 < n) = false := decide_eq_false h2
      by_cases h3 : 60 < l.length
      · have b3 : decide ((60 : Int) < (l.length : Int)) = true := by simp; omega
        have b4 : decide (60 < l.length) = true := by simp; omega
        clear h hr
        go_enter Tryd.func49, Tryd.ntmps49
        go_wp2
        go_ret2
        exact ⟨rfl, Below.refl _ _⟩
      · obtain ⟨m, rfl⟩ := Int.eq_ofNat_of_zero_le (show 0 ≤ n by omega)
        refine (read_ok m A c l w hr hc (by omega) (by omega) (by omega)).mono fun e w' hp => ?_
        exact hp.2 (fun h4 => h ⟨by omega, by omega, by omega, by rw [Int.toNat_natCast]; exact h4⟩)
set_option maxHeartbeats 1000000 in
set_option maxRecDepth 100000 in
theorem lit_yes (n : Int) (A : Option Addr) (c : Nat) (l : List S42) (f : Int) (w : World) (hr : Kd.C k42 w A l.length l) (hc : l.length ≤ c) (h : GoodG n l) (h0 : 0 ≤ f) (hf : f < n) :
    Calls Tryd.prog 44 #[.int .i64 n, .slice A l.length c, .int .i64 f] w fun e w' => ∃ w0 g, e = .returned (.tuple #[.pointer (some ⟨g, 0, none⟩), .bool true]) ∧ IsS105 w0 w' g n (toI (nearS n.toNat l)) ∧ Below w0.heap.size w0 w' ∧ Below w.heap.size w w0 := by
  have HG : Hid (GoodG n l) := h
  clear h
  have b0 : decide (0 ≤ f) = true := decide_eq_true h0
  have b1 : decide (f < n) = true := decide_eq_true hf
  have HR := Aside0.mk hr
  clear hr
  go_enter Tryd.func44, Tryd.ntmps44
  go_wp2_with fail
  refine (read_yes n A c l w HR.out hc HG).mono ?_
  rintro e w' ⟨w0, g, rfl, k1, k2, k3⟩
  have K1 := Aside0.mk k1
  have K2 := Aside0.mk k2
  have K3 := Aside0.mk k3
  clear k1 k2 k3
  go_wp2
  go_ret2
  exact ⟨w0, g, rfl, K1.out, K2.out, K3.out⟩
set_option maxHeartbeats 1000000 in
set_option maxRecDepth 100000 in
theorem lit_no (n : Int) (A : Option Addr) (c : Nat) (l : List S42) (f : Int) (w : World) (hr : Kd.C k42 w A l.length l) (hc : l.length ≤ c) (h : ¬ (GoodG n l ∧ 0 ≤ f ∧ f < n)) :
    Calls Tryd.prog 44 #[.int .i64 n, .slice A l.length c, .int .i64 f] w fun e w' => ∃ p, e = .returned (.tuple #[.pointer p, .bool false]) ∧ Below w.heap.size w w' := by
  have HR := Aside0.mk hr
  clear hr
  by_cases hG : GoodG n l
  · by_cases h0 : 0 ≤ f
    · have hf : ¬ f < n := fun hf => h ⟨hG, h0, hf⟩
      have b0 : decide (0 ≤ f) = true := decide_eq_true h0
      have b1 : decide (f < n) = false := decide_eq_false hf
      have HG : Hid (GoodG n l) := hG
      clear hG h
      go_enter Tryd.func44, Tryd.ntmps44
      go_wp2_with fail
      refine (read_yes n A c l w HR.out hc HG).mono ?_
      rintro e w' ⟨w0, g, rfl, k1, k2, k3⟩
      have K2 := Aside0.mk k2
      have K3 := Aside0.mk k3
      clear k1 k2 k3
      go_wp2
      go_ret2
      exact ⟨_, rfl, below_then K3.out K3.out.size K2.out⟩
    · have b0 : decide (0 ≤ f) = false := decide_eq_false h0
      have HG : Hid (GoodG n l) := hG
      clear hG h
      go_enter Tryd.func44, Tryd.ntmps44
      go_wp2_with fail
      refine (read_yes n A c l w HR.out hc HG).mono ?_
      rintro e w' ⟨w0, g, rfl, k1, k2, k3⟩
      have K2 := Aside0.mk k2
      have K3 := Aside0.mk k3
      clear k1 k2 k3
      go_wp2
      go_ret2
      exact ⟨_, rfl, below_then K3.out K3.out.size K2.out⟩
  · have HG : Hid (¬ GoodG n l) := hG
    clear hG h
    go_enter Tryd.func44, Tryd.ntmps44
    go_wp2_with fail
    refine (read_no n A c l w HR.out hc HG).mono ?_
    rintro e w' ⟨rfl, k3⟩
    have K3 := Aside0.mk k3
    clear k3
    go_wp2
    go_ret2
    exact ⟨_, rfl, K3.out⟩
end Go.Proofs.YtbgpnkchbcgekaaDoor.Fi
