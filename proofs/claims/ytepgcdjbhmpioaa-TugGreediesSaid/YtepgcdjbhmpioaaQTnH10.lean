/- The calls of tug.Bound. -/
import Derived.Test.YtepgcdjbhmpioaaQTnH4b
import Derived.Test.YtepgcdjbhmpioaaQTnSb
namespace Go.Proofs.Ytepgcdjbhmpioaa.Fi
open Go.RowKit Go.Shelf Go.Lib Go.Sort Go.Proofs.YtepgcdjbhmpioaaW.PrintWords Go.Proofs.YtepgcdjbhmpioaaW.PrintLast Go.Proofs.YtepgcdjbhmpioaaW.PrintMore
set_option linter.unusedVariables false
set_option linter.unusedSimpArgs false
/-- A valid pull, or 0. -/
abbrev Bd := Fin (1000000 + 1)
def toB (x : Int) : Bd := ⟨min x.toNat 1000000, by omega⟩
def encB (x : Bd) : Value := .int .i64 ((x.val : Nat) : Int)
def cfB (x y : Bd) : Int := ((y.val : Nat) : Int) - ((x.val : Nat) : Int)
theorem lt_cfB (x y : Bd) : ltOf cfB x y = decide (y.val < x.val) := by
  unfold ltOf cfB
  rw [decide_eq_decide]
  omega
theorem swoB : SWO (ltOf cfB) where
  irrefl x := by rw [lt_cfB]; simp
  trans x y z h1 h2 := by rw [lt_cfB, decide_eq_true_iff] at *; omega
  ntrans x y z h1 h2 := by rw [lt_cfB, decide_eq_false_iff_not] at *; omega
theorem toB_val {x : Int} (h : 1 ≤ x ∧ x ≤ 1000000) : (((toB x).val : Nat) : Int) = x := by
  show ((min x.toNat 1000000 : Nat) : Int) = x
  omega
theorem sortB_map {l : List Int} (h : ∀ x ∈ l, 1 ≤ x ∧ x ≤ 1000000) : (((l.map toB).mergeSort fun x y => !(ltOf cfB) y x).map fun x => ((x.val : Nat) : Int)) = fallS l := by
  have e : (l.map toB).map (fun x => ((x.val : Nat) : Int)) = l := by
    rw [List.map_map]
    exact (List.map_congr_left fun x hx => toB_val (h x hx)).trans (List.map_id l)
  unfold fallS
  rw [List.map_mergeSort (s := fun x y => decide (y ≤ x)) (fun a _ b _ => by
    rw [lt_cfB, ← decide_not, decide_eq_decide]
    omega), e]
set_option maxHeartbeats 1000000 in
set_option maxRecDepth 100000 in
theorem cmpB_calls (x y : Int) (W : World) (hx : 0 ≤ x ∧ x ≤ 1000000) (hy : 0 ≤ y ∧ y ≤ 1000000) :
    Calls Try.prog 65 #[.int .i64 x, .int .i64 y] W fun e w' => e = .returned (.int .i64 (y - x)) ∧ w' = W := by
  have hw : wrap64 (y - x) = y - x := wrapS (by omega)
  clear hx hy
  go_enter Try.func65, Try.ntmps65
  go_wp2
  go_ret
  exact ⟨by show Ending.returned (.int .i64 (wrap64 (y - x))) = _; rw [hw], rfl⟩
theorem row_holds {W : World} {base g cap : Nat} {l : List Int} (hb : ∀ x ∈ l, 1 ≤ x ∧ x ≤ 1000000) (h0 : 0 < l.length) (h : TRow W base (.slice (some ⟨g, 0, none⟩) l.length cap) l) : Holds encB W g 0 (l.map toB).toArray := by
  intro j hj
  obtain ⟨h1, h2⟩ := h
  rcases h2 with ⟨e, _⟩ | ⟨g', cap', cur, e, hb', hg, hn, hm, hc, ht⟩
  · cases e
  · injection e with e1 e2 e3
    injection e1 with e1
    injection e1 with e1 e4
    subst e1
    have hj' : j < l.length := by simpa using hj
    rw [Nat.mul_one] at ht
    refine ⟨?_, blk_frozen hg _⟩
    rw [blk_cell hg, Nat.zero_add]
    have h3 : (cur.toList.take l.length)[j]? = (ints l)[j]? := by rw [ht]
    rw [List.getElem?_take, if_pos hj'] at h3
    rw [← Array.getElem?_toList, h3]
    rw [getElem!_pos _ j hj]
    simp [ints, List.getElem?_map, List.getElem?_eq_getElem hj', encB, toB_val (hb _ (List.getElem_mem hj'))]
theorem row_sorted {W : World} {base g cap m : Nat} {l l' : List Int} {os : Array Obj} (hb : ∀ x ∈ l, 1 ≤ x ∧ x ≤ 1000000) (h0 : 0 < l.length) (hl : l'.length = l.length) (d' : Array Bd) (hd : d'.toList.map (fun x => ((x.val : Nat) : Int)) = l')
    (h : TRow W base (.slice (some ⟨g, 0, none⟩) l.length cap) l) : TRow (sortWorld encB W g 0 m d' os) base (.slice (some ⟨g, 0, none⟩) l.length cap) l' := by
  have hH := row_holds hb h0 h
  obtain ⟨h1, h2⟩ := h
  refine ⟨by simp [ints], ?_⟩
  rcases h2 with ⟨e, _⟩ | ⟨g', cap', cur, e, hb', hg, hn, hm, hc, ht⟩
  · cases e
  · injection e with e1 e2 e3
    injection e1 with e1
    injection e1 with e1 e4
    subst e1
    subst e3
    have hds : d'.size = l.length := by rw [← hl, ← hd]; simp
    have hsz : d'.size = (l.map toB).toArray.size := by rw [hds]; simp
    have hH2 := holds_sortWorld encB W g 0 m (l.map toB).toArray d' os (blk_lt hg) hH hsz
    have hblk : ∃ cur', (sortWorld encB W g 0 m d' os).heap[g]? = some (.cells cur' 3 (0, 0)) ∧ cur'.size = cur.size := by
      refine ⟨putCells encB 0 d' cur, ?_, by simp [putCells]⟩
      show (((Go.Sort.ahead W m).heap.modify g (onCells (putCells encB 0 d'))) ++ os)[g]? = _
      have hh : (Go.Sort.ahead W m).heap[g]? = some (.cells cur 3 (0, 0)) := hg
      have hl2 : g < (Go.Sort.ahead W m).heap.size := blk_lt hh
      rw [Array.getElem?_append_left (by rw [Array.size_modify]; exact hl2), Array.getElem?_modify, if_pos rfl, hh]
      rfl
    obtain ⟨cur', g1, g2⟩ := hblk
    refine .inr ⟨g, cap, cur', by rw [hl], hb', g1, by omega, hm, g2.trans hc, ?_⟩
    rw [Nat.mul_one]
    apply List.ext_getElem?
    intro j
    rw [List.getElem?_take]
    rcases Nat.lt_or_ge j l.length with hj | hj
    · have hjd : j < d'.size := by omega
      rw [if_pos (by omega)]
      have h3 := (hH2 j hjd).1
      rw [blk_cell g1, Nat.zero_add] at h3
      rw [Array.getElem?_toList, h3, getElem!_pos d' j hjd, ← hd]
      simp [ints, encB, List.getElem?_map, Array.getElem?_toList, Array.getElem?_eq_getElem hjd]
    · rw [if_neg (by omega), List.getElem?_eq_none (by simp [ints]; omega)]
set_option maxHeartbeats 1000000 in
/-- The pulls are sorted, the greatest first. -/
theorem sortB_calls (l : List Int) (base g cap : Nat) (w0 W : World) (hb : ∀ x ∈ l, 1 ≤ x ∧ x ≤ 1000000) (h0 : 0 < l.length) (hl : l.length ≤ 1000) (hQ : TRow W base (.slice (some ⟨g, 0, none⟩) l.length cap) l) (hB : Below base w0 W) (hbase : base ≤ W.heap.size) (hg : base ≤ g) (hgl : g < W.heap.size) :
    Calls Try.prog 64 #[.slice (some ⟨g, 0, none⟩) l.length cap, .func (.func 65) #[] #[]] W fun e W' => e = .returned (.tuple #[]) ∧ TRow W' base (.slice (some ⟨g, 0, none⟩) l.length cap) (fallS l) ∧ Below base w0 W' := by
  obtain ⟨d, hd⟩ : ∃ d : Array Bd, d = (l.map toB).toArray := ⟨_, rfl⟩
  have hds : d.size = l.length := by rw [hd]; simp
  have hH := row_holds hb h0 hQ
  rw [← hd] at hH
  have hcmp : CmpLays1 Try.prog 65 #[] encB cfB g 0 d.size W := fun m os dk _ x y => (cmpB_calls ((x.val : Nat) : Int) ((y.val : Nat) : Int) _ (by have := x.isLt; omega) (by have := y.isLt; omega)).mono fun e w' ⟨h1, h2⟩ => ⟨h1, 0, #[], by rw [h2, grow_empty]; rfl⟩
  have := Any.slices_SortFunc_total sortI encB (fun _ => rfl) cfB swoB 65 #[] g 0 cap d W (fun args w => enters_ Try.func65 (by kernel_rfl) rfl args w) hcmp hH hgl (by omega) (fun x y h1 h2 => by
    rw [lt_cfB, decide_eq_false_iff_not] at h1 h2
    exact Fin.ext (by omega))
  change Calls Try.prog 64 _ _ _ at this
  rw [hds] at this
  refine this.mono fun e W' ⟨he, n, os, hw⟩ => ⟨he, ?_, ?_⟩
  · rw [hw]
    refine row_sorted hb h0 (by unfold fallS; simp) _ ?_ hQ
    rw [← sortB_map hb, hd]
  · rw [hw]
    refine hB.trans ⟨rfl, rfl, rfl, ?_, fun q hq => ?_⟩
    · show W.heap.size ≤ (((Go.Sort.ahead W n).heap.modify g _) ++ os).size
      rw [Array.size_append, Array.size_modify]
      exact Nat.le_add_right _ _
    · show (((Go.Sort.ahead W n).heap.modify g _) ++ os)[q]? = _
      have hl2 : q < (Go.Sort.ahead W n).heap.size := by show q < W.heap.size; omega
      rw [Array.getElem?_append_left (by rw [Array.size_modify]; exact hl2), Array.getElem?_modify, if_neg (by omega)]
      rfl
theorem row_slice {W : World} {base : Nat} {v : Value} {l : List Int} (h0 : 0 < l.length) (h : TRow W base v l) : ∃ g cap, v = .slice (some ⟨g, 0, none⟩) l.length cap ∧ base ≤ g ∧ g < W.heap.size ∧ l.length ≤ cap := by
  rcases h.2 with ⟨_, e⟩ | ⟨g, cap, cur, e, hb, hg, hn, hm, hc, ht⟩
  · omega
  · exact ⟨g, cap, e, hb, blk_lt hg, hn⟩
theorem fallS_props (l : List Int) : (fallS l).length = l.length ∧ (∀ x, x ∈ fallS l ↔ x ∈ l) := ⟨by unfold fallS; simp, fun x => by unfold fallS; simp⟩
theorem sum_of_perm {a b : List Int} (h : a.Perm b) : a.sum = b.sum := by
  induction h with
  | nil => rfl
  | cons x _ ih => rw [List.sum_cons, List.sum_cons, ih]
  | swap x y l => simp only [List.sum_cons]; omega
  | trans _ _ h1 h2 => exact h1.trans h2
theorem take_sum_next (l : List Int) (i : Nat) (h : i < l.length) : (l.take (i + 1)).sum = (l.take i).sum + l.getD i 0 := by
  rw [List.take_add_one, List.getElem?_eq_getElem h, List.sum_append, List.getD_eq_getElem?_getD, List.getElem?_eq_getElem h]
  simp
theorem take_sum_le {l : List Int} (hb : ∀ x ∈ l, 1 ≤ x ∧ x ≤ 1000000) : ∀ i, i ≤ l.length → 0 ≤ (l.take i).sum ∧ (l.take i).sum ≤ 1000000 * (i : Int)
  | 0, _ => by simp
  | i + 1, h => by
    have h1 := take_sum_le hb i (by omega)
    have h2 := hb _ (getD_mem (l := l) (i := i) (by omega))
    rw [take_sum_next l i (by omega)]
    omega
set_option maxHeartbeats 4000000 in
set_option maxRecDepth 100000 in
theorem bound_ok (A0 : Option Addr) (c0 : Nat) (l0 : List Int) (k : Nat) (w : World) (hr0 : Kd.C (Kd.int .i64) w A0 l0.length l0) (hc0 : l0.length ≤ c0) (hok : OkL 14 l0) (hk : 1 ≤ k ∧ k ≤ 4) :
    Calls Try.prog 39 #[.slice A0 l0.length c0, .int .i64 (k : Int)] w fun e w' => e = .returned (.tuple #[.int .i64 (boundS k l0), .int .i64 0]) ∧ Below w.heap.size w w' := by
  have HR0 := Aside0.mk hr0
  have HC0 := Aside0.mk hc0
  have HOK := Aside0.mk hok
  have CK : Aside0 (tug_check.f l0 ((14 : Nat) : Int) = some 0) := ⟨by rw [check_is 14 (by omega) l0, chk_ok hok]⟩
  have HB := Aside0.mk (Below.refl w.heap.size w)
  have e1 : decide ((k : Int) < 1) = false := decide_eq_false (by omega)
  have e2 : decide (4 < (k : Int)) = false := decide_eq_false (by omega)
  have HK := Aside0.mk hk
  clear hr0 hc0 hok hk
  go_enter Try.func39, Try.ntmps39
  go_wp2_with (first | (go_at_call 43; refine (tug_check.calls A0 c0 l0 14 0 _ HR0.out HC0.out CK.out).mono ?_; rintro e w8 ⟨rfl, nd, rfl⟩; have HR2 := Aside0.mk (Kd.C_drewN HR0.out nd); have HB2 := Aside0.mk (pw_below_drewN HB.out nd); generalize World.drewN w nd = w9 at HR2 HB2 ⊢) | (go_at_call 53; refine (clone_calls A0 c0 l0 w9 HR2.out (by have := HOK.out.2.1; omega)).mono ?_; rintro e w10 ⟨vc, rfl, hR, hB⟩; obtain ⟨g, cap, rfl, hg1, hg2, hcp⟩ := row_slice HOK.out.1 (TRow.of_R hR); have HSO := Aside0.mk (sortB_calls l0 w9.heap.size g cap w9 w10 HOK.out.2.2 HOK.out.1 (by have := HOK.out.2.1; omega) (TRow.of_R hR) hB (Below.size hB) hg1 hg2); have HCP := Aside0.mk hcp; clear hR hB hg1 hg2 hcp) | (go_at_call 64; refine HSO.out.mono ?_; rintro e w11 ⟨rfl, hT, hB⟩; have HT := Aside0.mk hT; have HB4 := Aside0.mk (below_step HB2.out hB); clear hT hB HSO))
  obtain ⟨f, hf⟩ : ∃ f, f = fallS l0 := ⟨_, rfl⟩
  have hfl : f.length = l0.length := by rw [hf]; exact (fallS_props l0).1
  have hfb : ∀ x ∈ f, 1 ≤ x ∧ x ≤ 1000000 := fun x hx => HOK.out.2.2 x (((fallS_props l0).2 x).1 (by rw [← hf]; exact hx))
  rw [← hf] at HT
  obtain ⟨ad, had, hcell⟩ : ∃ ad, ad = (⟨g, 0, none⟩ : Addr) ∧ ∀ j, j < f.length → w11.cell? (ad.add j) = some (.int .i64 (f.getD j 0)) := by
    obtain ⟨A, c, q1, q2, q3⟩ := TRow.reads HT.out (by have := HOK.out.2.1; omega)
    injection q1 with q1 q4 q5
    subst q1
    obtain ⟨ad, p1, p2⟩ := C_int_cell q3 (by have := HOK.out.1; omega)
    injection p1 with p1
    exact ⟨ad, p1.symm, p2⟩
  have HCELL := Aside0.mk hcell
  have HF := Aside0.mk hf
  have HFL := Aside0.mk hfl
  have HFB := Aside0.mk hfb
  rw [← had]
  clear hcell hf hfl hfb had
  go_loop [8, 29] (fun s i => ∃ j : Nat, j ≤ l0.length ∧ i = .int .i64 (j : Int) ∧ s = .int .i64 (f.take j).sum) (fun _ i => l0.length - (intOf i).toNat)
  case atStart => exact ⟨0, by omega, rfl, by simp⟩
  case round =>
    obtain ⟨j, hj, rfl, rfl⟩ := hrel
    by_cases hlt : j < l0.length
    · have hcj := HCELL.out j (by rw [HFL.out]; exact hlt)
      have hs1 := take_sum_next f j (by rw [HFL.out]; exact hlt)
      have hs2 := take_sum_le HFB.out (j + 1) (by rw [HFL.out]; exact hlt)
      have hl2 := HOK.out.2.1
      have hw1 : wrap64 ((f.take j).sum + f.getD j 0) = (f.take (j + 1)).sum := by rw [← hs1]; exact wrapS (by omega)
      have hd : decide ((j : Int) < (l0.length : Int)) = true := decide_eq_true (by omega)
      obtain ⟨x, hx⟩ : ∃ x, x = f.getD j 0 := ⟨_, rfl⟩
      rw [← hx] at hcj hw1
      have HW := Aside0.mk hw1
      clear hs1 hs2 hw1 hx
      go_wp2
      go_round
      case rel => exact ⟨j + 1, by omega, by go_num, by rw [HW.out]⟩
      case measure => simp [intOf]; omega
    · obtain rfl : j = l0.length := by omega
      have hd : decide ((l0.length : Int) < (l0.length : Int)) = false := by simp
      have hc0 : w11.cell? ad = some (.int .i64 (f.getD 0 0)) := by
        have h := HCELL.out 0 (by rw [HFL.out]; exact HOK.out.1)
        have e : ad.add 0 = ad := by rfl
        rwa [e] at h
      have hs2 := take_sum_le HFB.out l0.length (by rw [HFL.out]; exact Nat.le_refl _)
      obtain ⟨S, hS⟩ : ∃ S, S = (f.take l0.length).sum := ⟨_, rfl⟩
      obtain ⟨f0, hf0⟩ : ∃ x, x = f.getD 0 0 := ⟨_, rfl⟩
      rw [← hS] at hs2 ⊢
      rw [← hf0] at hc0
      have HS := Aside0.mk hS
      have HS2 := Aside0.mk hs2
      have HF0 := Aside0.mk hf0
      have hl2 := HOK.out.2.1
      have hk2 := HK.out
      have hw1 : wrap64 (S + (k : Int)) = S + (k : Int) := wrapS (by omega)
      have hw2 : wrap64 (S + (k : Int) - 1) = S + (k : Int) - 1 := wrapS (by omega)
      have hk0 : ((k : Int) == 0) = false := beq_eq_false_iff_ne.mpr (by omega)
      have hk00 : (k : Int) ≠ 0 := by omega
      have hpos : 0 < l0.length := HOK.out.1
      have hq : 0 ≤ S + (k : Int) - 1 := by omega
      obtain ⟨q, hqq⟩ : ∃ q, q = (S + (k : Int) - 1) / (k : Int) := ⟨_, rfl⟩
      have hql : 0 ≤ q ∧ q ≤ 100000000 := by
        rw [hqq]
        exact ⟨Int.ediv_nonneg hq (by omega), Int.le_trans (Int.ediv_le_self _ hq) (by omega)⟩
      have hw3 : wrap64 ((S + (k : Int) - 1).tdiv (k : Int)) = q := by
        rw [Int.tdiv_eq_ediv_of_nonneg hq, ← hqq]
        exact wrapS (by omega)
      have HW1 := Aside0.mk hw1
      have HW2 := Aside0.mk hw2
      have HW3 := Aside0.mk hw3
      have HQ := Aside0.mk hqq
      have hsum : S = l0.sum := by
        rw [hS, List.take_of_length_le (by rw [HFL.out]; exact Nat.le_refl _), HF.out]
        have hp : (fallS l0).Perm l0 := List.mergeSort_perm _ _
        exact sum_of_perm hp
      have HSUM := Aside0.mk hsum
      clear hS hs2 hf0 hl2 hk2 hq hqq hql hsum
      by_cases hkl : k < l0.length
      · have hdk : decide ((k : Int) < (l0.length : Int)) = true := decide_eq_true (by omega)
        have HKL := Aside0.mk hkl
        obtain ⟨k1, hk1⟩ : ∃ k1, k1 = k - 1 := ⟨_, rfl⟩
        have hk1l : k1 < l0.length := by omega
        have hw4 : wrap64 ((k : Int) - 1) = (k1 : Int) := by have := HK.out; rw [wrapS (by omega)]; omega
        have hx1 := HCELL.out k1 (by rw [HFL.out]; exact hk1l)
        have hx2 := HCELL.out k (by rw [HFL.out]; exact hkl)
        have hxb1 := HFB.out _ (getD_mem (l := f) (i := k1) (by rw [HFL.out]; exact hk1l))
        have hxb2 := HFB.out _ (getD_mem (l := f) (i := k) (by rw [HFL.out]; exact hkl))
        obtain ⟨x1, hx1e⟩ : ∃ x, x = f.getD k1 0 := ⟨_, rfl⟩
        obtain ⟨x2, hx2e⟩ : ∃ x, x = f.getD k 0 := ⟨_, rfl⟩
        rw [← hx1e] at hx1 hxb1
        rw [← hx2e] at hx2 hxb2
        have hw5 : wrap64 (x1 + x2) = x1 + x2 := wrapS (by omega)
        have HX1 := Aside0.mk hx1e
        have HX2 := Aside0.mk hx2e
        have HK1 := Aside0.mk hk1
        clear hxb1 hxb2 hx1e hx2e hk1
        go_wp2
        go_quiet (fail)
        go_wp2
        go_quiet (fail)
        go_wp2
        go_ret2
        refine ⟨?_, pw_below_drewN (pw_below_drewN HB4.out _) _⟩
        show Ending.returned (.tuple #[.int .i64 (max f0 (max q (x1 + x2))), .int .i64 0]) = _
        have e : boundS k l0 = max f0 (max q (x1 + x2)) := by
          unfold boundS
          rw [if_pos HKL.out, ← HF.out, ← HF0.out, ← HSUM.out, ← HQ.out, ← HK1.out, ← HX1.out, ← HX2.out]
          omega
        rw [e]
      · have hdk : decide ((k : Int) < (l0.length : Int)) = false := decide_eq_false (by omega)
        have HKL := Aside0.mk hkl
        go_wp2
        go_quiet (fail)
        go_wp2
        go_ret2
        refine ⟨?_, pw_below_drewN HB4.out _⟩
        show Ending.returned (.tuple #[.int .i64 (max f0 q), .int .i64 0]) = _
        have e : boundS k l0 = max f0 q := by
          unfold boundS
          rw [if_neg HKL.out, ← HF.out, ← HF0.out, ← HSUM.out, ← HQ.out]
        rw [e]
set_option maxHeartbeats 2000000 in
set_option maxRecDepth 100000 in
theorem tug_Bound.calls (A0 : Option Addr) (c0 : Nat) (l0 : List Int) (a1 : Int) (r1 : Int) (r2 : Int) (w : World) (hr0 : Kd.C (Kd.int .i64) w A0 l0.length l0) (hc0 : l0.length ≤ c0) (h : tug_Bound.f l0 a1 = some (r1, r2)) :
    Calls Try.prog 39 #[.slice A0 l0.length c0, .int .i64 a1] w fun e w' => e = .returned (.tuple #[.int .i64 r1, .int .i64 r2]) ∧ Below w.heap.size w w' := by
  have HR0 := Aside0.mk hr0
  have HC0 := Aside0.mk hc0
  have CK := Aside0.mk (check_is 14 (by omega) l0)
  have HB := Aside0.mk (Below.refl w.heap.size w)
  clear hr0 hc0
  unfold tug_Bound.f at h
  by_cases hk : chk 14 l0 = 0
  · rw [if_pos hk] at h
    rw [hk] at CK
    by_cases h1 : a1 < 1
    · rw [if_neg (by omega)] at h
      obtain ⟨rfl, rfl⟩ : (0 : Int) = r1 ∧ (1 : Int) = r2 := by simpa using Option.some.inj h
      have e1 : decide (a1 < 1) = true := decide_eq_true h1
      clear h h1 hk
      go_enter Try.func39, Try.ntmps39
      go_wp2_with (go_at_call 43; refine (tug_check.calls A0 c0 l0 14 0 _ HR0.out HC0.out CK.out).mono ?_; rintro e w9 ⟨rfl, nd, rfl⟩; have HB3 := Aside0.mk (pw_below_drewN HB.out nd))
      go_ret2
      exact ⟨rfl, HB3.out⟩
    · by_cases h2 : a1 > 4
      · rw [if_neg (by omega)] at h
        obtain ⟨rfl, rfl⟩ : (0 : Int) = r1 ∧ (1 : Int) = r2 := by simpa using Option.some.inj h
        have e1 : decide (a1 < 1) = false := decide_eq_false h1
        have e2 : decide (4 < a1) = true := decide_eq_true (by omega)
        clear h h1 h2 hk
        go_enter Try.func39, Try.ntmps39
        go_wp2_with (go_at_call 43; refine (tug_check.calls A0 c0 l0 14 0 _ HR0.out HC0.out CK.out).mono ?_; rintro e w9 ⟨rfl, nd, rfl⟩; have HB3 := Aside0.mk (pw_below_drewN HB.out nd))
        go_ret2
        exact ⟨rfl, HB3.out⟩
      · rw [if_pos (by omega)] at h
        obtain ⟨k, rfl⟩ := Int.eq_ofNat_of_zero_le (show 0 ≤ a1 by omega)
        rw [Int.toNat_natCast] at h
        obtain ⟨rfl, rfl⟩ : boundS k l0 = r1 ∧ (0 : Int) = r2 := by simpa using Option.some.inj h
        exact bound_ok A0 c0 l0 k w HR0.out HC0.out (chk_zero hk) ⟨by omega, by omega⟩
  · rw [if_neg hk] at h
    obtain ⟨z, hz⟩ : ∃ z, z = chk 14 l0 := ⟨_, rfl⟩
    rw [← hz] at h hk CK
    obtain ⟨rfl, rfl⟩ : (0 : Int) = r1 ∧ z = r2 := by simpa using Option.some.inj h
    have hk0 : (z == 0) = false := beq_eq_false_iff_ne.mpr hk
    have hk1 : (z != 0) = true := bne_iff_ne.mpr hk
    clear hz hk h
    go_enter Try.func39, Try.ntmps39
    go_wp2_with (go_at_call 43; refine (tug_check.calls A0 c0 l0 14 z _ HR0.out HC0.out CK.out).mono ?_; rintro e w9 ⟨rfl, nd, rfl⟩; have HB3 := Aside0.mk (pw_below_drewN HB.out nd))
    go_ret2
    exact ⟨rfl, HB3.out⟩
end Go.Proofs.Ytepgcdjbhmpioaa.Fi
