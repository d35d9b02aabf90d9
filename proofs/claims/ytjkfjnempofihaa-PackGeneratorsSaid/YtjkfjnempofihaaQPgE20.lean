/- The calls of the exported functions, but Dimension, Hilbert, Both and Either. -/
import Derived.Test.YtjkfjnempofihaaQPgE15
import Derived.Test.YtjkfjnempofihaaQPgE16
import Derived.Test.YtjkfjnempofihaaQPgE17
import Derived.Test.YtjkfjnempofihaaQPgE18
namespace Go.Proofs.Ytjkfjnempofihaa.Fi
open Go.RowKit Go.Shelf Go.Lib Go.Proofs.YtjkfjnempofihaaW.PrintWords Go.Proofs.YtjkfjnempofihaaW.PrintLast Go.Proofs.YtjkfjnempofihaaW.PrintMore
set_option linter.unusedVariables false
set_option linter.unusedSimpArgs false
/-- The error that read hands back. -/
def readErr (n : Int) (gens : List (List Int)) : Int := if 12 < gens.length then 3 else if n < 1 ∨ 4 < n then 1 else if gens.all (validB n.toNat) then 0 else 1
theorem readErr_ok {n : Int} {gens : List (List Int)} (h : readErr n gens = 0) : gens.length ≤ 12 ∧ ∃ k : Nat, n = (k : Int) ∧ 1 ≤ k ∧ k ≤ 4 ∧ gens.all (validB k) = true := by
  unfold readErr at h
  by_cases h1 : 12 < gens.length
  · rw [if_pos h1] at h; cases h
  · rw [if_neg h1] at h
    by_cases h2 : n < 1 ∨ 4 < n
    · rw [if_pos h2] at h; cases h
    · rw [if_neg h2] at h
      by_cases h3 : gens.all (validB n.toNat) = true
      · exact ⟨by omega, n.toNat, by omega, by omega, by omega, h3⟩
      · rw [if_neg h3] at h; cases h
theorem read_calls (n : Int) (A : Option Addr) (c : Nat) (gens : List (List Int)) (w : World) (hr : Kd.C kL w A gens.length gens) (hll : ∀ l ∈ gens, l.length ≤ 100000) :
    Calls Try.prog 52 #[.int .i64 n, .slice A gens.length c] w fun e w' => ((readErr n gens = 0 → ∃ g v, e = .returned (.tuple #[pt g, .int .i64 0]) ∧ w.heap.size ≤ g ∧ IA w' g n v (gens.map padM)) ∧ (readErr n gens ≠ 0 → e = .returned (.tuple #[.pointer none, .int .i64 (readErr n gens)]))) ∧ Below w.heap.size w w' := by
  unfold readErr
  by_cases h1 : 12 < gens.length
  · refine (read_long n A c gens w h1).mono ?_
    rintro e w' ⟨rfl, hb⟩
    rw [if_pos h1]
    exact ⟨⟨fun h => absurd h (by decide), fun _ => rfl⟩, hb⟩
  · rw [if_neg h1]
    by_cases h2 : n < 1 ∨ 4 < n
    · refine (read_arg n A c gens w (by omega) h2).mono ?_
      rintro e w' ⟨rfl, hb⟩
      rw [if_pos h2]
      exact ⟨⟨fun h => absurd h (by decide), fun _ => rfl⟩, hb⟩
    · rw [if_neg h2]
      obtain ⟨k, rfl⟩ : ∃ k : Nat, n = (k : Int) := ⟨n.toNat, by omega⟩
      rw [Int.toNat_natCast]
      refine (read_gens k A c gens w hr (by omega) (by omega) (by omega) hll).mono ?_
      rintro e w' ⟨⟨ha, hf⟩, hb⟩
      refine ⟨⟨fun h => ?_, fun h => ?_⟩, hb⟩
      · refine ha ?_
        by_cases h3 : gens.all (validB k) = true
        · exact h3
        · rw [if_neg h3] at h; cases h
      · by_cases h3 : gens.all (validB k) = true
        · rw [if_pos h3] at h; exact absurd rfl h
        · rw [if_neg h3]
          exact hf (by simpa using h3)
/-- Minimal. -/
def minimalR (n : Int) (gens : List (List Int)) : List (List Int) := if readErr n gens = 0 then (lstM divM (gens.map padM)).map (cutM n.toNat) else []
theorem S_base {d : Kd (List Int)} {e base base' : Nat} {w : World} {v : Value} {xs : List (List Int)} (h : Kd.S d e w base (fun _ => True) v xs) (hb : base' ≤ base) : Kd.S d e w base' (fun _ => True) v xs := by
  obtain ⟨f, h⟩ := h
  exact ⟨f, Kd.R_lower h hb⟩
set_option maxHeartbeats 4000000 in
set_option maxRecDepth 100000 in
theorem minimal_out (n : Int) (A : Option Addr) (c : Nat) (gens : List (List Int)) (w : World) (hr : Kd.C kL w A gens.length gens) (hll : ∀ l ∈ gens, l.length ≤ 100000) :
    Calls Try.prog 36 #[.int .i64 n, .slice A gens.length c] w fun e w' => ∃ v, e = .returned (.tuple #[v, .int .i64 (readErr n gens)]) ∧ Kd.S kL 25 w' w.heap.size (fun _ => True) v (minimalR n gens) ∧ Below w.heap.size w w' := by
  have HR := Aside0.mk hr
  have HLL := Aside0.mk hll
  have HB0 := Aside0.mk (Below.refl w.heap.size w)
  unfold minimalR
  obtain ⟨E, hE⟩ : ∃ E, E = readErr n gens := ⟨_, rfl⟩
  by_cases h0 : E = 0
  rotate_left
  · have HE : Aside0 (readErr n gens ≠ 0) := ⟨by rw [← hE]; exact h0⟩
    have HEE := Aside0.mk hE.symm
    have d1 : (E != 0) = true := bne_iff_ne.2 h0
    rw [if_neg HE.out, ← hE]
    clear hr hll hE h0
    go_enter Try.func36, Try.ntmps36
    go_wp2_with ((go_at_call 52; refine (read_calls n A c gens w HR.out HLL.out).mono ?_; rintro e w2 ⟨⟨he, ho⟩, hb⟩; have e2 := ho HE.out; rw [HEE.out] at e2; subst e2; clear he ho; have HB2 := Aside0.mk hb; clear hb))
    go_ret2
    exact ⟨_, rfl, Kd.S_nil _ _ _ _ _, HB2.out⟩
  subst h0
  have HE := Aside0.mk hE.symm
  obtain ⟨h12, k, hnk, hk1, hk4, hall⟩ := readErr_ok hE.symm
  subst hnk
  have HL : Aside0 ((gens.map padM).length ≤ 12) := ⟨by rw [List.length_map]; exact h12⟩
  have HK4 := Aside0.mk hk4
  have HK1 := Aside0.mk hk1
  have HALL := Aside0.mk hall
  clear hr hll hE h12 hk1 hk4 hall
  rw [if_pos HE.out, HE.out, Int.toNat_natCast]
  have HLE := Aside0.mk (lstM_le divM (gens.map padM))
  go_enter Try.func36, Try.ntmps36
  go_wp2_with (first | (go_at_call 52; refine (read_calls (k : Int) A c gens w HR.out HLL.out).mono ?_; rintro e w2 ⟨⟨he, ho⟩, hb⟩; obtain ⟨g, v, e2, hg, hi⟩ := he HE.out; subst e2; obtain ⟨Av, cv, ev, -⟩ := hi.row.slice; subst ev; have HI2 := Aside0.mk hi; clear he ho hi hg; have HB2 := Aside0.mk hb; clear hb) | (go_at_call 55; refine (minimal_calls g (k : Int) _ (gens.map padM) _ HI2.out (by have := HL.out; omega)).mono ?_; rintro e w3 ⟨g3, v3, rfl, hg, hm, hb⟩; obtain ⟨A3, c3, e3, -⟩ := hm.row.slice; subst e3; have HM3 := Aside0.mk hm; have HB3 := Aside0.mk hb; have HI3 := Aside0.mk (HI2.out.below hb); have b0 := blk_cell hm.blk 0; have b1 := blk_cell hm.blk 1; clear hg hm hb) | (go_at_call 62; refine (list_calls g k _ _ (gens.map padM) (lstM divM (gens.map padM)) _ HI3.out HM3.out.row HK4.out (by have := HLE.out; have := HL.out; omega)).mono ?_; rintro e w9 ⟨v9, rfl, hs, hb⟩; have HS9 := Aside0.mk hs; have HB9 := Aside0.mk hb; clear hs hb))
  go_ret2
  exact ⟨_, rfl, S_base HS9.out (by have := HB2.out.size; have := HB3.out.size; omega), below_step HB2.out (below_step HB3.out HB9.out)⟩
theorem minT_le {l : List Int} {a : Int} (h : a ∈ l) : minT l l.length ≤ a := by
  unfold minT
  rw [List.take_length]
  have key : ∀ (k : List Int) (x : Int), k.foldl min x ≤ x ∧ ∀ a ∈ k, k.foldl min x ≤ a := fun k => by
    induction k with
    | nil => intro x; exact ⟨Int.le_refl _, fun a ha => by cases ha⟩
    | cons b k ih =>
      intro x
      have h1 := ih (min x b)
      rw [List.foldl_cons]
      refine ⟨by omega, fun a ha => ?_⟩
      rcases List.mem_cons.1 ha with rfl | ha
      · omega
      · exact h1.2 a ha
  exact (key l _).2 a h
theorem le_maxT {l : List Int} {a : Int} (h : a ∈ l) : a ≤ maxT l l.length := by
  unfold maxT
  rw [List.take_length]
  have key : ∀ (k : List Int) (x : Int), x ≤ k.foldl max x ∧ ∀ a ∈ k, a ≤ k.foldl max x := fun k => by
    induction k with
    | nil => intro x; exact ⟨Int.le_refl _, fun a ha => by cases ha⟩
    | cons b k ih =>
      intro x
      have h1 := ih (max x b)
      rw [List.foldl_cons]
      refine ⟨by omega, fun a ha => ?_⟩
      rcases List.mem_cons.1 ha with rfl | ha
      · omega
      · exact h1.2 a ha
  exact (key l _).2 a h
theorem minT_mem {l : List Int} (h : 0 < l.length) : minT l l.length ∈ l ∧ maxT l l.length ∈ l := by
  unfold minT maxT
  rw [List.take_length]
  have h0 : l.getD 0 0 ∈ l := by rw [List.getD_eq_getElem?_getD, List.getElem?_eq_getElem h]; exact List.getElem_mem _
  have key : ∀ (k : List Int), (∀ a ∈ k, a ∈ l) → ∀ x, x ∈ l → k.foldl min x ∈ l ∧ k.foldl max x ∈ l := fun k => by
    induction k with
    | nil => intro _ x hx; exact ⟨hx, hx⟩
    | cons b k ih =>
      intro hk x hx
      have hb := hk b List.mem_cons_self
      have h1 := ih (fun a ha => hk a (List.mem_cons_of_mem _ ha)) (min x b) (by rcases (show min x b = x ∨ min x b = b by omega) with e | e <;> rw [e] <;> assumption)
      have h2 := ih (fun a ha => hk a (List.mem_cons_of_mem _ ha)) (max x b) (by rcases (show max x b = x ∨ max x b = b by omega) with e | e <;> rw [e] <;> assumption)
      exact ⟨h1.1, h2.2⟩
  exact key l (fun a ha => ha) _ h0
theorem valid_iff {n : Nat} {l : List Int} (hn : 1 ≤ n) : validB n l = true ↔ l.length = n ∧ ∀ a ∈ l, 0 ≤ a ∧ a ≤ 6 := by
  unfold validB
  rw [Bool.and_eq_true, Bool.and_eq_true, decide_eq_true_iff, decide_eq_true_iff, decide_eq_true_iff]
  constructor
  · rintro ⟨h1, h2, h3⟩
    exact ⟨h1, fun a ha => ⟨Int.le_trans h2 (minT_le ha), Int.le_trans (le_maxT ha) h3⟩⟩
  · rintro ⟨h1, h2⟩
    have hm := minT_mem (l := l) (by omega)
    exact ⟨h1, (h2 _ hm.1).1, (h2 _ hm.2).2⟩
theorem getD_in {l : List Int} (h : ∀ a ∈ l, 0 ≤ a ∧ a ≤ 6) (i : Nat) : 0 ≤ l.getD i 0 ∧ l.getD i 0 ≤ 6 := by
  rw [List.getD_eq_getElem?_getD]
  rcases Nat.lt_or_ge i l.length with hi | hi
  · rw [List.getElem?_eq_getElem hi]; exact h _ (List.getElem_mem _)
  · rw [List.getElem?_eq_none hi]; exact ⟨Int.le_refl _, by decide⟩
theorem pad_Gd {l : List Int} (h : ∀ a ∈ l, 0 ≤ a ∧ a ≤ 6) : Nn (padM l) ∧ dv (padM l) six := by
  have h0 := getD_in h 0
  have h1 := getD_in h 1
  have h2 := getD_in h 2
  have h3 := getD_in h 3
  exact ⟨⟨h0.1, h1.1, h2.1, h3.1⟩, ⟨h0.2, h1.2, h2.2, h3.2⟩⟩
theorem gens_Gd {n : Nat} {gens : List (List Int)} (hn : 1 ≤ n) (h : gens.all (validB n) = true) : Gd (gens.map padM) := fun g hg => by
  obtain ⟨l, hl, rfl⟩ := List.mem_map.1 hg
  rw [List.all_eq_true] at h
  exact pad_Gd ((valid_iff hn).1 (h l hl)).2
/-- Numerator. -/
def numerR (n : Int) (gens : List (List Int)) : List Int := if readErr n gens = 0 then numS (gens.map padM) else []
set_option maxHeartbeats 4000000 in
set_option maxRecDepth 100000 in
theorem numer_out (n : Int) (A : Option Addr) (c : Nat) (gens : List (List Int)) (w : World) (hr : Kd.C kL w A gens.length gens) (hll : ∀ l ∈ gens, l.length ≤ 100000) :
    Calls Try.prog 30 #[.int .i64 n, .slice A gens.length c] w fun e w' => ∃ v, e = .returned (.tuple #[v, .int .i64 (readErr n gens)]) ∧ RI w' w.heap.size v (numerR n gens) ∧ Below w.heap.size w w' := by
  have HR := Aside0.mk hr
  have HLL := Aside0.mk hll
  have HB0 := Aside0.mk (Below.refl w.heap.size w)
  unfold numerR
  obtain ⟨E, hE⟩ : ∃ E, E = readErr n gens := ⟨_, rfl⟩
  by_cases h0 : E = 0
  rotate_left
  · have HE : Aside0 (readErr n gens ≠ 0) := ⟨by rw [← hE]; exact h0⟩
    have HEE := Aside0.mk hE.symm
    have d1 : (E != 0) = true := bne_iff_ne.2 h0
    rw [if_neg HE.out, ← hE]
    clear hr hll hE h0
    go_enter Try.func30, Try.ntmps30
    go_wp2_with ((go_at_call 52; refine (read_calls n A c gens w HR.out HLL.out).mono ?_; rintro e w2 ⟨⟨he, ho⟩, hb⟩; have e2 := ho HE.out; rw [HEE.out] at e2; subst e2; clear he ho; have HB2 := Aside0.mk hb; clear hb))
    go_ret2
    exact ⟨_, rfl, Kd.R_nil _ _ _ _ _, HB2.out⟩
  subst h0
  have HE := Aside0.mk hE.symm
  obtain ⟨h12, k, hnk, hk1, hk4, hall⟩ := readErr_ok hE.symm
  subst hnk
  have HL : Aside0 ((gens.map padM).length ≤ 12) := ⟨by rw [List.length_map]; exact h12⟩
  have HK4 := Aside0.mk hk4
  have HK1 := Aside0.mk hk1
  have HALL := Aside0.mk hall
  clear hr hll hE h12 hk1 hk4 hall
  rw [if_pos HE.out, HE.out]
  have HGD := Aside0.mk (gens_Gd HK1.out HALL.out)
  go_enter Try.func30, Try.ntmps30
  go_wp2_with (first | (go_at_call 52; refine (read_calls (k : Int) A c gens w HR.out HLL.out).mono ?_; rintro e w2 ⟨⟨he, ho⟩, hb⟩; obtain ⟨g, v, e2, hg, hi⟩ := he HE.out; subst e2; obtain ⟨Av, cv, ev, -⟩ := hi.row.slice; subst ev; have HI2 := Aside0.mk hi; clear he ho hi hg; have HB2 := Aside0.mk hb; clear hb) | (go_at_call 65; refine (num_calls g (k : Int) _ (gens.map padM) _ HI2.out HL.out HGD.out).mono ?_; rintro e w9 ⟨v9, rfl, hs, hb⟩; have HS9 := Aside0.mk hs; have HB9 := Aside0.mk hb; clear hs hb))
  go_ret2
  exact ⟨_, rfl, Kd.R_lower HS9.out HB2.out.size, below_step HB2.out HB9.out⟩
/-- Whether 1 is in the ideal. -/
def wholeB (gens : List (List Int)) : Bool := (gens.map padM).any fun x => divM x oneM
def partsE (n : Int) (gens : List (List Int)) : Int := if readErr n gens = 0 then (if wholeB gens = true then 5 else 0) else readErr n gens
/-- Parts. -/
def partsR (n : Int) (gens : List (List Int)) : List (List Int) := if partsE n gens = 0 then (partS (lstM divM (gens.map padM))).map (cutM n.toNat) else []
set_option maxHeartbeats 4000000 in
set_option maxRecDepth 100000 in
theorem parts_out (n : Int) (A : Option Addr) (c : Nat) (gens : List (List Int)) (w : World) (hr : Kd.C kL w A gens.length gens) (hll : ∀ l ∈ gens, l.length ≤ 100000) :
    Calls Try.prog 37 #[.int .i64 n, .slice A gens.length c] w fun e w' => ∃ v, e = .returned (.tuple #[v, .int .i64 (partsE n gens)]) ∧ Kd.S kL 25 w' w.heap.size (fun _ => True) v (partsR n gens) ∧ Below w.heap.size w w' := by
  have HR := Aside0.mk hr
  have HLL := Aside0.mk hll
  have HB0 := Aside0.mk (Below.refl w.heap.size w)
  unfold partsR partsE
  obtain ⟨E, hE⟩ : ∃ E, E = readErr n gens := ⟨_, rfl⟩
  by_cases h0 : E = 0
  rotate_left
  · have HE : Aside0 (readErr n gens ≠ 0) := ⟨by rw [← hE]; exact h0⟩
    have HEE := Aside0.mk hE.symm
    have d1 : (E != 0) = true := bne_iff_ne.2 h0
    rw [if_neg HE.out, if_neg HE.out, ← hE]
    clear hr hll hE h0
    go_enter Try.func37, Try.ntmps37
    go_wp2_with ((go_at_call 52; refine (read_calls n A c gens w HR.out HLL.out).mono ?_; rintro e w2 ⟨⟨he, ho⟩, hb⟩; have e2 := ho HE.out; rw [HEE.out] at e2; subst e2; clear he ho; have HB2 := Aside0.mk hb; clear hb))
    go_ret2
    exact ⟨_, rfl, Kd.S_nil _ _ _ _ _, HB2.out⟩
  subst h0
  have HE := Aside0.mk hE.symm
  obtain ⟨h12, k, hnk, hk1, hk4, hall⟩ := readErr_ok hE.symm
  subst hnk
  have HL : Aside0 ((gens.map padM).length ≤ 12) := ⟨by rw [List.length_map]; exact h12⟩
  have HK4 := Aside0.mk hk4
  have HK1 := Aside0.mk hk1
  have HALL := Aside0.mk hall
  clear hr hll hE h12 hk1 hk4 hall
  rw [if_pos HE.out, Int.toNat_natCast]
  unfold wholeB
  obtain ⟨b, hb⟩ : ∃ b, b = (gens.map padM).any fun x => divM x oneM := ⟨_, rfl⟩
  have HBB := Aside0.mk hb
  rw [← hb]
  have HLE : Aside0 ((partS (lstM divM (gens.map padM))).length ≤ 16777216) := ⟨by
    have h1 := partT_le (lstM divM (gens.map padM)) _ (Nat.le_refl _)
    have h2 := lstM_le divM (gens.map padM)
    have h3 : 4 ^ (lstM divM (gens.map padM)).length ≤ 4 ^ 12 := Nat.pow_le_pow_right (by omega) (by have := HL.out; omega)
    exact Nat.le_trans h1 (Nat.le_trans h3 (by decide))⟩
  clear hb
  cases b with
  | true =>
    rw [if_pos rfl, if_neg (by decide)]
    go_enter Try.func37, Try.ntmps37
    go_wp2_with (first | (go_at_call 52; refine (read_calls (k : Int) A c gens w HR.out HLL.out).mono ?_; rintro e w2 ⟨⟨he, ho⟩, hb⟩; obtain ⟨g, v, e2, hg, hi⟩ := he HE.out; subst e2; obtain ⟨Av, cv, ev, -⟩ := hi.row.slice; subst ev; have HI2 := Aside0.mk hi; clear he ho hi hg; have HB2 := Aside0.mk hb; clear hb) | (go_at_call 58; refine (whole_calls g (k : Int) _ (gens.map padM) _ HI2.out).mono ?_; rintro e w3 ⟨he, hb⟩; rw [← HBB.out] at he; subst he; have HB3 := Aside0.mk hb; have HI3 := Aside0.mk (HI2.out.below hb); clear hb))
    go_ret2
    exact ⟨_, rfl, Kd.S_nil _ _ _ _ _, below_step HB2.out HB3.out⟩
  | false =>
    rw [if_neg (by decide), if_pos rfl]
    go_enter Try.func37, Try.ntmps37
    go_wp2_with (first | (go_at_call 52; refine (read_calls (k : Int) A c gens w HR.out HLL.out).mono ?_; rintro e w2 ⟨⟨he, ho⟩, hb⟩; obtain ⟨g, v, e2, hg, hi⟩ := he HE.out; subst e2; obtain ⟨Av, cv, ev, -⟩ := hi.row.slice; subst ev; have HI2 := Aside0.mk hi; clear he ho hi hg; have HB2 := Aside0.mk hb; clear hb) | (go_at_call 58; refine (whole_calls g (k : Int) _ (gens.map padM) _ HI2.out).mono ?_; rintro e w3 ⟨he, hb⟩; rw [← HBB.out] at he; subst he; have HB3 := Aside0.mk hb; have HI3 := Aside0.mk (HI2.out.below hb); clear hb) | (go_at_call 59; refine (parts_calls g (k : Int) _ (gens.map padM) _ HI3.out HL.out).mono ?_; rintro e w4 ⟨v4, rfl, hm, hb⟩; have HM4 := Aside0.mk hm; have HB4 := Aside0.mk hb; have HI4 := Aside0.mk (HI3.out.below hb); clear hm hb) | (go_at_call 62; refine (list_calls g k _ _ (gens.map padM) (partS (lstM divM (gens.map padM))) _ HI4.out HM4.out.zero HK4.out (by have := HLE.out; omega)).mono ?_; rintro e w9 ⟨v9, rfl, hs, hb⟩; have HS9 := Aside0.mk hs; have HB9 := Aside0.mk hb; clear hs hb))
    go_ret2
    exact ⟨_, rfl, S_base HS9.out (by have := HB2.out.size; have := HB3.out.size; have := HB4.out.size; omega), below_step HB2.out (below_step HB3.out (below_step HB4.out HB9.out))⟩
end Go.Proofs.Ytjkfjnempofihaa.Fi
