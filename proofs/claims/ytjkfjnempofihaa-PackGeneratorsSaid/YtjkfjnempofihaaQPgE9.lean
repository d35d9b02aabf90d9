/- The calls of slices.Clone, slices.Min and slices.Max. -/
import Derived.Test.YtjkfjnempofihaaQPgWRepsOne
import Derived.Test.YtjkfjnempofihaaQPgE0
import Derived.Outline
import Derived.Lib.SliceRun
import Derived.Laws.Cover3
namespace Go.Proofs.Ytjkfjnempofihaa.Fi
open Go.RowKit Go.Proofs.YtjkfjnempofihaaW.PrintWords Go.Proofs.YtjkfjnempofihaaW.PrintLast Go.Proofs.YtjkfjnempofihaaW.PrintMore
set_option linter.unusedVariables false
set_option linter.unusedSimpArgs false
theorem eql25 (w : World) (a : Option Addr) (n c : Nat) : (binOp .eql 25 (.slice a n c) (.slice none 0 0)).run Try.prog w = .ok (.bool a.isNone) w := by
  simp [binOp, run_equal_slice_nil w 25 3 a n c Try.underlying25]
theorem neq25 (w : World) (a : Option Addr) (n c : Nat) : (binOp .neq 25 (.slice a n c) (.slice none 0 0)).run Try.prog w = .ok (.bool (!a.isNone)) w := run_neq_slice_nil w 25 3 a n c Try.underlying25
attribute [local go_sem] eql25 neq25
set_option maxHeartbeats 2000000 in
set_option maxRecDepth 100000 in
theorem clone_calls (A : Option Addr) (c : Nat) (l : List Int) (w : World) (hr : Kd.C (Kd.int .i64) w A l.length l) (hl : l.length ≤ 100000) :
    Calls Try.prog 82 #[.slice A l.length c] w fun e w' => ∃ v, e = .returned v ∧ Kd.R (Kd.int .i64) 3 w' w.heap.size (fun _ => True) v l ∧ Below w.heap.size w w' := by
  have HR := Aside0.mk hr
  have hu25 := Try.underlying25
  clear hr
  cases A with
  | none =>
    have hl0 : l.length = 0 := by
      rcases Nat.eq_zero_or_pos l.length with h | h
      · exact h
      · obtain ⟨_, _, h1, _⟩ := ReadsRow.get_ HR.out 0 0 (by omega) (by omega)
        cases h1
    obtain rfl : l = [] := List.eq_nil_of_length_eq_zero hl0
    clear hl0
    go_enter Try.func82, Try.ntmps82
    go_wp2
    go_ret
    exact ⟨_, rfl, Kd.R_nil _ _ _ _ _, Below.refl _ _⟩
  | some ad =>
    go_enter Try.func82, Try.ntmps82
    go_wp2_with (first | ((with_reducible refine gate_dst (N := 5) rfl ?_); refine Kd.R_lit (Kd.int .i64) (w0 := w) w.heap.size 3 ?hg (N := 5) ?hd (xs := ([] : List Int)) (inner := []) (ok := fun _ => True) (okp := fun _ => True) ?hr ?hp (fun _ hk => hk) trivial (Below.refl _ _) (Nat.le_refl _) (by simp) ?_; (case hd => rfl); (case hg => rfl); (case hr => first | (go_simp; done) | (go_simp; rfl)); (case hp => exact (Reps.none _ _)); intro v1 w1 h1 h2 h3 h4; clear h3 h4; have H1 := Aside0.mk h1; have H2 := Aside0.mk h2; clear h1 h2) | ((with_reducible refine gate_builtin (b := .append) (xs := #[.tmp 5, .tmp 6]) rfl ?_); at_builtin; refine Kd.R_append_rows (Kd.int .i64) (w0 := w) w.heap.size rfl (.tmp 5) (.tmp 6) 25 3 (.int .i64 0) 8 rfl Try.underlying25 info3 rfl (by decide) (by omega) v1 [] l (some ad) l.length c (fun _ => True) (fun _ => False) rfl rfl H1.out (Kd.C_below HR.out H2.out) (fun _ _ h => h) (fun _ h => h.elim) (fun _ _ => trivial) H2.out H2.out.size (by simp; omega) ?_; intro v2 w2 h1 h2 h3 h4; have H3 := Aside0.mk h1; have H4 := Aside0.mk h2; clear h1 h2 h3 h4))
    go_ret
    exact ⟨_, rfl, by simpa using H3.out, H4.out⟩
def minT (l : List Int) (k : Nat) : Int := (l.take k).foldl min (l.getD 0 0)
def maxT (l : List Int) (k : Nat) : Int := (l.take k).foldl max (l.getD 0 0)
theorem minT_succ (l : List Int) (k : Nat) (h : k < l.length) : minT l (k + 1) = min (minT l k) (l.getD k 0) := by
  unfold minT
  rw [List.take_add_one, List.foldl_append, List.getElem?_eq_getElem h]
  simp [List.getD_eq_getElem?_getD, List.getElem?_eq_getElem h]
theorem maxT_succ (l : List Int) (k : Nat) (h : k < l.length) : maxT l (k + 1) = max (maxT l k) (l.getD k 0) := by
  unfold maxT
  rw [List.take_add_one, List.foldl_append, List.getElem?_eq_getElem h]
  simp [List.getD_eq_getElem?_getD, List.getElem?_eq_getElem h]
theorem minT_one (l : List Int) (h : 0 < l.length) : minT l 1 = l.getD 0 0 := by
  rw [show (1 : Nat) = 0 + 1 from rfl, minT_succ l 0 h]; simp [minT]
theorem maxT_one (l : List Int) (h : 0 < l.length) : maxT l 1 = l.getD 0 0 := by
  rw [show (1 : Nat) = 0 + 1 from rfl, maxT_succ l 0 h]; simp [maxT]
theorem C_int_cell {w : World} {A : Option Addr} {l : List Int} (hr : Kd.C (Kd.int .i64) w A l.length l) (h : 0 < l.length) : ∃ ad, A = some ad ∧ ∀ k, k < l.length → w.cell? (ad.add k) = some (.int .i64 (l.getD k 0)) := by
  obtain ⟨ad, c, h1, h2, h3, h4⟩ := Kd.C_get hr 0 ((0 : Nat) : Int) (by simp) (by simpa using h)
  refine ⟨ad, h1, fun k hk => ?_⟩
  obtain ⟨ad', c', g1, g2, g3, g4⟩ := Kd.C_get hr 0 (k : Int) (by omega) (by omega)
  rw [h1] at g1
  injection g1 with g1
  subst g1
  have h5 : c' = [Value.int .i64 (l.getD (k : Int).toNat 0)] := g3
  have h6 := g4 0 _ (by rw [h5]; rfl)
  have e : (k : Int).toNat * (Kd.int .i64).sz + 0 = k := by show (k : Int).toNat * 1 + 0 = k; simp
  rw [e, Int.toNat_natCast] at h6
  exact h6
theorem min_if (a b : Int) : min a b = if b < a then b else a := by split <;> omega
theorem max_if (a b : Int) : max a b = if a < b then b else a := by split <;> omega
set_option maxHeartbeats 1000000 in
set_option maxRecDepth 100000 in
theorem min_calls (A : Option Addr) (c : Nat) (l : List Int) (w : World) (hr : Kd.C (Kd.int .i64) w A l.length l) (h0 : 0 < l.length) (hl : l.length ≤ 100000) :
    Calls Try.prog 75 #[.slice A l.length c] w fun e w' => e = .returned (.int .i64 (minT l l.length)) ∧ w' = w := by
  obtain ⟨ad, rfl, hc⟩ := C_int_cell hr h0
  have HC := Aside0.mk hc
  obtain ⟨x0, hx0⟩ : ∃ x, x = l.getD 0 0 := ⟨_, rfl⟩
  have HM := Aside0.mk (minT_one l h0)
  have hc0 : w.cell? ad = some (.int .i64 x0) := by
    have h := hc 0 h0
    rw [← hx0] at h
    have e : ad.add 0 = ad := by rfl
    rwa [e] at h
  rw [← hx0] at HM
  have hlt1 : decide ((l.length : Int) < 1) = false := by simp; omega
  clear hr hc hx0
  go_enter Try.func75, Try.ntmps75
  go_wp2
  go_loop [3, 4] (fun m i => ∃ k : Nat, 1 ≤ k ∧ k ≤ l.length ∧ i = .int .i64 k ∧ m = .int .i64 (minT l k)) (fun _ i => l.length - (intOf i).toNat)
  case atStart => exact ⟨1, by omega, by omega, rfl, by rw [HM.out]⟩
  case round =>
    obtain ⟨k, hk1, hk, rfl, rfl⟩ := hrel
    by_cases hlt : k < l.length
    · have hck := HC.out k hlt
      have HS := Aside0.mk (minT_succ l k hlt)
      rw [min_if] at HS
      obtain ⟨x, hx⟩ : ∃ x, x = l.getD k 0 := ⟨_, rfl⟩
      rw [← hx] at HS hck
      obtain ⟨m0, hm0⟩ : ∃ m, m = minT l k := ⟨_, rfl⟩
      rw [← hm0] at HS ⊢
      clear hx hm0
      go_wp2
      go_round
      case rel => exact ⟨k + 1, by omega, by omega, by go_num, by rw [HS.out]⟩
      case measure => simp [intOf]; omega
    · obtain rfl : k = l.length := by omega
      go_wp2
      go_ret
      exact ⟨rfl, rfl⟩
set_option maxHeartbeats 1000000 in
set_option maxRecDepth 100000 in
theorem max_calls (A : Option Addr) (c : Nat) (l : List Int) (w : World) (hr : Kd.C (Kd.int .i64) w A l.length l) (h0 : 0 < l.length) (hl : l.length ≤ 100000) :
    Calls Try.prog 76 #[.slice A l.length c] w fun e w' => e = .returned (.int .i64 (maxT l l.length)) ∧ w' = w := by
  obtain ⟨ad, rfl, hc⟩ := C_int_cell hr h0
  have HC := Aside0.mk hc
  obtain ⟨x0, hx0⟩ : ∃ x, x = l.getD 0 0 := ⟨_, rfl⟩
  have HM := Aside0.mk (maxT_one l h0)
  have hc0 : w.cell? ad = some (.int .i64 x0) := by
    have h := hc 0 h0
    rw [← hx0] at h
    have e : ad.add 0 = ad := by rfl
    rwa [e] at h
  rw [← hx0] at HM
  have hlt1 : decide ((l.length : Int) < 1) = false := by simp; omega
  clear hr hc hx0
  go_enter Try.func76, Try.ntmps76
  go_wp2
  go_loop [3, 4] (fun m i => ∃ k : Nat, 1 ≤ k ∧ k ≤ l.length ∧ i = .int .i64 k ∧ m = .int .i64 (maxT l k)) (fun _ i => l.length - (intOf i).toNat)
  case atStart => exact ⟨1, by omega, by omega, rfl, by rw [HM.out]⟩
  case round =>
    obtain ⟨k, hk1, hk, rfl, rfl⟩ := hrel
    by_cases hlt : k < l.length
    · have hck := HC.out k hlt
      have HS := Aside0.mk (maxT_succ l k hlt)
      rw [max_if] at HS
      obtain ⟨x, hx⟩ : ∃ x, x = l.getD k 0 := ⟨_, rfl⟩
      rw [← hx] at HS hck
      obtain ⟨m0, hm0⟩ : ∃ m, m = maxT l k := ⟨_, rfl⟩
      rw [← hm0] at HS ⊢
      clear hx hm0
      go_wp2
      go_round
      case rel => exact ⟨k + 1, by omega, by omega, by go_num, by rw [HS.out]⟩
      case measure => simp [intOf]; omega
    · obtain rfl : k = l.length := by omega
      go_wp2
      go_ret
      exact ⟨rfl, rfl⟩
theorem min_called {A : Option Addr} {c : Nat} {l : List Int} {w : World} {m : Int} (hm : m = minT l l.length) (hr : Kd.C (Kd.int .i64) w A l.length l) (h0 : 0 < l.length) (hl : l.length ≤ 100000) :
    Calls Try.prog 75 #[.slice A l.length c] w fun e w' => e = .returned (.int .i64 m) ∧ w = w' := (min_calls A c l w hr h0 hl).mono fun e w' ⟨h1, h2⟩ => ⟨by rw [hm]; exact h1, h2.symm⟩
theorem max_called {A : Option Addr} {c : Nat} {l : List Int} {w : World} {m : Int} (hm : m = maxT l l.length) (hr : Kd.C (Kd.int .i64) w A l.length l) (h0 : 0 < l.length) (hl : l.length ≤ 100000) :
    Calls Try.prog 76 #[.slice A l.length c] w fun e w' => e = .returned (.int .i64 m) ∧ w = w' := (max_calls A c l w hr h0 hl).mono fun e w' ⟨h1, h2⟩ => ⟨by rw [hm]; exact h1, h2.symm⟩
end Go.Proofs.Ytjkfjnempofihaa.Fi
