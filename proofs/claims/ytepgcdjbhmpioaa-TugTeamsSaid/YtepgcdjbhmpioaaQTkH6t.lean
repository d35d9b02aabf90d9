/- The calls of woggleref05.Teams. -/
import Derived.Test.YtepgcdjbhmpioaaQTkT21
import Derived.Test.YtepgcdjbhmpioaaQTkT18
import Derived.Test.YtepgcdjbhmpioaaQTkH6a
import Derived.Test.YtepgcdjbhmpioaaQTkH4b
namespace Go.Proofs.Ytepgcdjbhmpioaa.Fi
open Go.RowKit Go.Proofs.YtepgcdjbhmpioaaW.PrintWords Go.Proofs.YtepgcdjbhmpioaaW.PrintLast Go.Proofs.YtepgcdjbhmpioaaW.PrintMore
set_option linter.unusedVariables false
set_option linter.unusedSimpArgs false
attribute [local go_sem] eql22 neq22
/-- The best of some teams. -/
def trdT (k : Nat) (l : List Int) (L : List (List Nat)) : Int × List Nat := tryT k (fun _ => 0) l [] (-1, []) L
theorem trdT_snoc (k : Nat) (l : List Int) (L : List (List Nat)) (a : List Nat) : trdT k l (L ++ [a]) = betT (trdT k l L) (loadT k l a, a) := by
  unfold trdT tryT
  rw [List.foldl_append, List.foldl_cons, List.foldl_nil, loadT_is]
  rfl
theorem trdT_cases {k : Nat} {l : List Int} : ∀ (L : List (List Nat)), trdT k l L = (-1, []) ∨ 0 ≤ (trdT k l L).1 := fun L => by
  rcases tryT_in (k := k) (S := fun _ => 0) (ps := l) (pre := []) L (-1, []) with h | ⟨ts, _, h⟩
  · exact .inl h
  · refine .inr ?_
    unfold trdT
    rw [h]
    exact ldT_nonneg _ _ _ _
/-- The teams while the last ones are set to 0. -/
def wrapT (cur : List Nat) (j : Nat) : List Int := toZ (cur.take j ++ List.replicate (cur.length - j) 0)
theorem wrapT_len {cur : List Nat} {j : Nat} (h : j ≤ cur.length) : (wrapT cur j).length = cur.length := by
  unfold wrapT
  rw [toZ_length, List.length_append, List.length_take, List.length_replicate]
  omega
theorem wrapT_all (cur : List Nat) : wrapT cur cur.length = toZ cur := by
  unfold wrapT
  rw [List.take_length, Nat.sub_self, List.replicate_zero, List.append_nil]
theorem wrapT_get {cur : List Nat} {j : Nat} (h : j + 1 ≤ cur.length) : (wrapT cur (j + 1)).getD j 0 = ((cur.getD j 0 : Nat) : Int) := by
  unfold wrapT
  rw [toZ_getD (by rw [List.length_append, List.length_take]; omega)]
  congr 1
  rw [List.getD_eq_getElem?_getD, List.getElem?_append_left (by rw [List.length_take]; omega), List.getElem?_take, if_pos (by omega), ← List.getD_eq_getElem?_getD]
theorem wrapT_next {cur : List Nat} {j : Nat} (h : j + 1 ≤ cur.length) (x : Nat) : (wrapT cur (j + 1)).set j (x : Int) = toZ (cur.take j ++ x :: List.replicate (cur.length - (j + 1)) 0) := by
  unfold wrapT
  rw [toZ_set]
  congr 1
  rw [List.set_append, if_pos (by rw [List.length_take]; omega)]
  have e : (cur.take (j + 1)).set j x = cur.take j ++ [x] := by
    rw [List.take_add_one, List.getElem?_eq_getElem (by omega), List.set_append, if_neg (by rw [List.length_take]; omega), List.length_take, Nat.min_eq_left (by omega), Nat.sub_self]
    rfl
  rw [e, List.append_assoc]
  rfl
theorem wrapT_zero {cur : List Nat} {j : Nat} (h : j + 1 ≤ cur.length) : (wrapT cur (j + 1)).set j 0 = wrapT cur j := by
  have := wrapT_next h 0
  rw [show ((0 : Nat) : Int) = 0 from rfl] at this
  rw [this]
  unfold wrapT
  rw [show cur.length - j = (cur.length - (j + 1)) + 1 by omega, List.replicate_succ]
theorem cur_split {k : Nat} {cur : List Nat} {j : Nat} (h : j + 1 ≤ cur.length) (hl : ∀ p, j < p → p < cur.length → cur.getD p 0 = k - 1) : cur = cur.take j ++ cur.getD j 0 :: List.replicate (cur.length - (j + 1)) (k - 1) := by
  apply List.ext_getElem
  · rw [List.length_append, List.length_take, List.length_cons, List.length_replicate]; omega
  · intro p h1 h2
    rcases Nat.lt_trichotomy p j with h3 | h3 | h3
    · rw [List.getElem_append_left (by rw [List.length_take]; omega), List.getElem_take]
    · subst h3
      rw [List.getElem_append_right (by rw [List.length_take]; omega)]
      simp only [List.length_take, Nat.min_eq_left (show p ≤ cur.length by omega), Nat.sub_self, List.getElem_cons_zero]
      rw [List.getD_eq_getElem?_getD, List.getElem?_eq_getElem h1]
      rfl
    · have h4 := hl p h3 h1
      rw [List.getD_eq_getElem?_getD, List.getElem?_eq_getElem h1] at h4
      rw [List.getElem_append_right (by rw [List.length_take]; omega), List.getElem_cons, dif_neg (by rw [List.length_take]; omega), List.getElem_replicate]
      exact h4
theorem cur_max {k : Nat} {cur : List Nat} (hl : ∀ p, p < cur.length → cur.getD p 0 = k - 1) : cur = List.replicate cur.length (k - 1) := by
  apply List.ext_getElem
  · simp
  · intro p h1 h2
    have h4 := hl p h1
    rw [List.getD_eq_getElem?_getD, List.getElem?_eq_getElem h1] at h4
    rw [List.getElem_replicate]
    exact h4
theorem set_other (w : World) (a : Addr) (u : Value) (k : Nat) (h : k ≠ a.block) : (w.setCell a u).heap[k]? = w.heap[k]? := by
  show (w.heap.modify a.block _)[k]? = _
  rw [Array.getElem?_modify, if_neg (fun e => h e.symm)]
set_option maxHeartbeats 4000000 in
set_option maxRecDepth 100000 in
theorem refTeams_calls (A0 : Option Addr) (c0 : Nat) (l0 : List Int) (k : Nat) (hok : OkL 10 l0) (hk : 1 ≤ k ∧ k ≤ 4) (w : World) (hr0 : Kd.C (Kd.int .i64) w A0 l0.length l0) (hc0 : l0.length ≤ c0) :
    Calls Try.prog 25 #[.slice A0 l0.length c0, .int .i64 (k : Int)] w fun e w' => ∃ v0_ : Value, e = .returned v0_ ∧ Kd.R (Kd.int .i64) 3 w' w.heap.size (fun _ => True) v0_ (toZ (trdT k l0 (allT k l0.length)).2) ∧ Below w.heap.size w w' := by
  have HR0 := Aside0.mk hr0
  have HC0 := Aside0.mk hc0
  have HOK := Aside0.mk hok
  have HK := Aside0.mk hk
  have HB := Aside0.mk (Below.refl w.heap.size w)
  have HRUNS := Aside0.mk (allT_runs hk.1 l0.length)
  have HN : Aside0 (l0.length ≤ 1000) := ⟨by have := hok.2.1; omega⟩
  have hwk : wrap64 ((k : Int) - 1) = ((k - 1 : Nat) : Int) := by rw [wrapS (by omega)]; omega
  have HWK := Aside0.mk hwk
  clear hr0 hc0 hok hk hwk
  go_enter Try.func25, Try.ntmps25
  go_wp2_with ((with_reducible refine gate_dst (N := 12) rfl ?_); refine make_event ?hg (N := 12) ?hd (.tmp 11) (.tmp 11) rfl l0.length rfl rfl HN.out ?_; (case hd => rfl); (case hg => rfl); intro gt hgt w10 hbox hb; have BT := Aside0.mk hbox; have HB3 := Aside0.mk (below_step HB.out hb); have HGT := Aside0.mk (show w.heap.size ≤ gt from by rw [hgt]; exact Nat.le_refl _); clear hbox hb hgt HB)
  go_loopg [5, 6] (allT k l0.length).length (fun kq v5 v6 wr => ∃ (done : List (List Nat)) (cur : List Nat) (rest : List (List Nat)), Aside0 (allT k l0.length = done ++ cur :: rest) ∧ Aside0 (rest.length + 1 = kq) ∧ v6 = .int .i64 (lstS (trdT k l0 done).1) ∧ Aside0 (BestV (trdT k l0 done).1 v5) ∧ Aside0 (Kd.R (Kd.int .i64) 3 wr w.heap.size (fun k_ => k_ ≠ gt) v5 (toZ (trdT k l0 done).2)) ∧ Aside0 (wr.heap[gt]? = some (.cells (ints (toZ cur)).toArray 3 (0, 0))) ∧ Aside0 (Below w.heap.size w wr))
  case atStart =>
    have h2 := HRUNS.out.2
    cases hA : allT k l0.length with
    | nil => rw [hA] at h2; cases h2
    | cons a r =>
      rw [hA] at h2
      have e : a = List.replicate l0.length 0 := by simpa using h2
      refine ⟨[], a, r, ⟨rfl⟩, ⟨by simp⟩, rfl, ⟨.inl ⟨by show (-1 : Int) < 0; decide, rfl⟩⟩, ⟨Kd.R_nil _ _ _ _ _⟩, ⟨?_⟩, HB3⟩
      have h3 : toZ a = List.replicate l0.length 0 := by rw [e]; unfold toZ; rw [List.map_replicate]; rfl
      rw [h3]
      exact BT.out
  case round =>
    clear BT HB3
    cases gk with
    | zero =>
      obtain ⟨done, cur, rest, HD, HKQ, _⟩ := hrel
      exact absurd HKQ.out (by omega)
    | succ kq =>
    obtain ⟨done, cur, rest, HD, HKQ, rfl, HBV, HO, BT, HB⟩ := hrel
    have HR := Aside0.mk (Kd.C_below HR0.out HB.out)
    have hmem : cur ∈ allT k l0.length := by rw [HD.out]; simp
    obtain ⟨hcl, hck⟩ := allT_mem.1 hmem
    have hnx : nxtT k cur = rest.head? := by
      have h1 := HRUNS.out.1
      rw [HD.out] at h1
      have h2 := (runs_split k done _ _ h1).1
      rwa [Option.or_none] at h2
    have HCL := Aside0.mk hcl
    have HCK := Aside0.mk hck
    have HNX := Aside0.mk hnx
    have HLZ : Aside0 ((toZ cur).length = l0.length) := ⟨by rw [toZ_length]; exact hcl⟩
    obtain ⟨kk, hkk⟩ := (rLoad_ev k l0 cur HK.out (HOK.out.widen (by omega)) hcl hck).rounds
    have HKK := Aside0.mk hkk
    have HACC := Aside0.mk (trdT_snoc k l0 done cur)
    have HD0 : Aside0 (0 ≤ loadT k l0 cur) := ⟨maxF_nonneg _ _⟩
    have HCAS := Aside0.mk (trdT_cases (k := k) (l := l0) done)
    obtain ⟨d0, hd0⟩ : ∃ d, d = loadT k l0 cur := ⟨_, rfl⟩
    rw [← hd0] at HKK HACC HD0
    obtain ⟨b0, hb0⟩ : ∃ b, b = (trdT k l0 done).1 := ⟨_, rfl⟩
    rw [← hb0] at HBV ⊢
    have HB0 := Aside0.mk hb0
    have hC : Kd.C (Kd.int .i64) wr (some ⟨gt, 0, none⟩) (toZ cur).length (toZ cur) := ints_C BT.out (by rw [HLZ.out]; exact HN.out)
    have HLOAD : Aside0 (Calls Try.prog 26 #[.slice A0 l0.length c0, .slice (some ⟨gt, 0, none⟩) l0.length l0.length, .int .i64 (k : Int)] wr fun e w' => e = .returned (.int .i64 d0) ∧ Below wr.heap.size wr w') := ⟨by
      have := woggleref05_Load.calls kk A0 c0 l0 (some ⟨gt, 0, none⟩) (toZ cur).length (toZ cur) (k : Int) d0 wr HR.out HC0.out hC (Nat.le_refl _) HKK.out
      rwa [HLZ.out] at this⟩
    clear hmem hcl hck hnx hkk hd0 hb0 hC HKK
    have hwl : wrap64 ((l0.length : Int) - 1) = (l0.length : Int) - 1 := wrapS (by have := HN.out; omega)
    have HWL := Aside0.mk hwl
    have hls : lstS d0 = d0 := by unfold lstS; rw [if_neg (by have := HD0.out; omega)]
    have HLS := Aside0.mk hls
    have hlz : 0 < (toZ cur).length := by rw [HLZ.out]; exact HOK.out.1
    have HLZ0 := Aside0.mk hlz
    clear hls hlz
    rcases HBV.out with ⟨hneg, rfl⟩ | ⟨hpos, ad2, n2, c2, rfl⟩
    · have HX : Aside0 (trdT k l0 (done ++ [cur]) = (d0, cur)) := ⟨by rw [HACC.out]; unfold betT; rw [if_pos (.inl (by rw [← HB0.out]; exact hneg))]⟩
      clear hneg
      go_wp2_with (first | (go_at_call 26; refine HLOAD.out.mono ?_; rintro e w11 ⟨rfl, hb⟩; have HO1 := Aside0.mk (Kd.R_below HO.out hb); have BT1 := Aside0.mk (blk_below BT.out hb); have HB1 := Aside0.mk (below_step HB.out hb); clear hb HO BT HB HLOAD) | ((with_reducible refine gate_dst (N := 24) rfl ?_); refine Kd.R_lit (Kd.int .i64) (w0 := w) w.heap.size 3 ?hg (N := 24) ?hd (xs := ([] : List Int)) (inner := []) (ok := fun k_ => k_ ≠ gt) (okp := fun _ => False) ?hr ?hp (fun _ hk => hk.elim) (fun e_ => by have := blk_lt BT1.out; omega) HB1.out HB1.out.size (by simp) ?_; (case hd => rfl); (case hg => rfl); (case hr => first | (go_simp; done) | (go_simp; rfl)); (case hp => exact (Reps.none _ _)); intro v24 w12 h1 h2 h3 h4; have HV := Aside0.mk h1; have BT2 := Aside0.mk (blk_grown BT1.out h3 (fun e => by cases e)); have HB2 := Aside0.mk h2; clear h1 h2 h3 h4 BT1 HB1 HO1) | ((with_reducible refine gate_builtin (b := .append) (xs := #[.tmp 24, .tmp 25]) rfl ?_); at_builtin; refine Kd.R_append_rows (Kd.int .i64) (w0 := w) w.heap.size rfl (.tmp 24) (.tmp 25) 22 3 (.int .i64 0) 8 rfl Try.underlying22 info3 rfl (by decide) (by omega) v24 [] (toZ cur) (some ⟨gt, 0, none⟩) l0.length l0.length (fun k_ => k_ ≠ gt) (fun _ => False) rfl rfl HV.out (by have h_ := ints_C BT2.out (by rw [HLZ.out]; exact HN.out); rwa [HLZ.out] at h_) (fun _ _ h => h) (fun _ h => h.elim) (fun k_ hk_ e_ => by have := blk_lt BT2.out; omega) HB2.out HB2.out.size (by have := HN.out; simp; omega) ?_; intro v26 w13 h1 h2 h3 h4; have HO3 := Aside0.mk h1; have BT3 := Aside0.mk (blk_grown BT2.out h3 (fun e => HV.out.1 _ (by first | exact e | exact e.symm) rfl)); have HB3 := Aside0.mk h2; clear h1 h2 h3 h4 HV BT2 HB2))
      have HNXT := Aside0.mk (R_some HO3.out (by simpa using HLZ0.out))
      have HLAST : Aside0 (∀ LB, toZ (trdT k l0 (done ++ [cur])).2 = LB → True) := ⟨fun _ _ => trivial⟩
      clear HLAST
      go_loopg [9] l0.length (fun kj v9 wi => ∃ (j : Nat) (z : Int), v9 = .int .i64 z ∧ Aside0 (z = (j : Int) - 1) ∧ Aside0 (j = kj) ∧ Aside0 (j ≤ l0.length) ∧ Aside0 (∀ p, j ≤ p → p < l0.length → cur.getD p 0 = k - 1) ∧ Aside0 (wi.heap[gt]? = some (.cells (ints (wrapT cur j)).toArray 3 (0, 0))) ∧ Aside0 (Kd.R (Kd.int .i64) 3 wi w.heap.size (fun k_ => k_ ≠ gt) v26 (toZ (trdT k l0 (done ++ [cur])).2)) ∧ Aside0 (Below w.heap.size w wi))
      case atStart => exact ⟨l0.length, (l0.length : Int) - 1, by first | rfl | rw [HWL.out], ⟨rfl⟩, ⟨rfl⟩, ⟨Nat.le_refl _⟩, ⟨fun p h1 h2 => by omega⟩, ⟨by rw [← HCL.out, wrapT_all]; exact BT3.out⟩, ⟨by rw [HX.out]; exact HO3.out⟩, HB3⟩
      case round =>
        clear BT3 HO3 HB3
        obtain ⟨j, z, rfl, HZ, HJ, HJL, HMX, BT, HO, HB⟩ := hrel
        have HCL2 := HCL.out
        by_cases hj0 : j = 0
        · obtain rfl : z = -1 := by have := HZ.out; omega
          have hd0 : decide ((0 : Int) ≤ -1) = false := by decide
          have hd1 : decide ((-1 : Int) < 0) = true := by decide
          go_wp2
          go_ret
          have hrest : rest = [] := by
            have h1 := HNX.out
            have h2 : cur = List.replicate cur.length (k - 1) := cur_max (fun p hp => HMX.out p (by omega) (by omega))
            rw [h2, nxt_max HK.out.1] at h1
            cases hr : rest with
            | nil => rfl
            | cons a r => rw [hr] at h1; cases h1
          have hall : allT k l0.length = done ++ [cur] := by rw [HD.out, hrest]
          rw [hall]
          exact ⟨_, rfl, Kd.R_mono HO.out (fun _ _ => trivial), HB.out⟩
        · obtain ⟨j1, hj1⟩ : ∃ j1, j = j1 + 1 := ⟨j - 1, by omega⟩
          obtain rfl : z = (j1 : Int) := by have := HZ.out; omega
          have hj1l : j1 < l0.length := by have := HJL.out; omega
          have hcg : (wrapT cur j).getD j1 0 = ((cur.getD j1 0 : Nat) : Int) := by rw [hj1]; exact wrapT_get (by omega)
          have hwl : (wrapT cur j).length = l0.length := by rw [wrapT_len (by have := HJL.out; omega)]; exact HCL2
          have sc := ints_cell BT.out (i := j1) (by rw [hwl]; exact hj1l)
          rw [hcg] at sc
          have fz := blk_frozen BT.out j1
          have hck1 := HCK.out _ (getD_mem_nat (l := cur) (i := j1) (by omega))
          obtain ⟨c, hc⟩ : ∃ c, c = cur.getD j1 0 := ⟨_, rfl⟩
          rw [← hc] at sc hck1
          have HC := Aside0.mk hc
          have hd0 : decide ((0 : Int) ≤ (j1 : Int)) = true := decide_eq_true (by omega)
          have HJ1 := Aside0.mk hj1
          have HJ1L := Aside0.mk hj1l
          have hw1 := HWK.out
          have hw1w : IntKind.i64.wrap ((k : Int) - 1) = ((k - 1 : Nat) : Int) := (i64_w _).trans hw1
          obtain ⟨k1, hk1⟩ : ∃ k1, k1 = k - 1 := ⟨_, rfl⟩
          rw [← hk1] at hw1 hw1w
          have HK1 := Aside0.mk hk1
          have hwj : wrap64 ((j1 : Int) - 1) = (j1 : Int) - 1 := wrapS (by have := HN.out; omega)
          have HWJ := Aside0.mk hwj
          have hck2 := HCK.out
          clear hcg hc hj1 hk1 hwl hwj hj0 hck2
          by_cases hce : c = k1
          · have hb1 : ((c : Int) == (k1 : Int)) = true := beq_iff_eq.mpr (by omega)
            clear hck1
            subst hce
            have hb2 : ((c : Int) == (c : Int)) = true := hb1
            go_wp2
            go_roundg j1
            case measure => have h1 := HJ.out; have h2 := HJ1.out; omega
            case rel => exact ⟨j1, (j1 : Int) - 1, by first | rfl | rw [HWJ.out], ⟨rfl⟩, ⟨rfl⟩, ⟨Nat.le_of_lt HJ1L.out⟩, ⟨fun p h1 h2 => by
              rcases Nat.lt_or_ge p j with h | h
              · have h3 := HJ1.out
                have : p = j1 := by omega
                rw [this, ← HC.out]
                exact HK1.out
              · exact HMX.out p h h2⟩, ⟨by have h_ := ints_set BT.out j1 0; rw [HJ1.out, wrapT_zero (by rw [HCL2]; exact HJ1L.out)] at h_; exact h_⟩, ⟨Kd.R_step HO.out (fun k_ hk_ hl_ => set_other _ _ _ _ hk_)⟩, ⟨below_set HB.out HGT.out⟩⟩
          · have hb1 : ((c : Int) == (k1 : Int)) = false := beq_eq_false_iff_ne.mpr (by omega)
            have hd1 : decide ((j1 : Int) < 0) = false := decide_eq_false (by omega)
            have hc1 : c + 1 < k := by have := HK1.out; have := HK.out; omega
            have hwc : wrap64 ((c : Int) + 1) = ((c + 1 : Nat) : Int) := by have := HK.out; rw [wrapS (by omega)]; omega
            have HC1 := Aside0.mk hc1
            have HWC := Aside0.mk hwc
            clear hck1 hce hc1
            go_wp2
            have hsp := cur_split (k := k) (cur := cur) (j := j1) (by rw [HCL2]; exact HJ1L.out) (fun p h1 h2 => HMX.out p (by have := HJ1.out; omega) (by omega))
            rw [← HC.out] at hsp
            have hnx := HNX.out
            rw [hsp, nxt_form HC1.out] at hnx
            cases hr : rest with
            | nil => rw [hr] at hnx; cases hnx
            | cons nx rest' =>
              rw [hr] at hnx
              have hnx2 : cur.take j1 ++ (c + 1) :: List.replicate (cur.length - (j1 + 1)) 0 = nx := by simpa using hnx
              have HNN := Aside0.mk hnx2
              have HRR := Aside0.mk hr
              clear hnx hnx2 hr hsp
              go_roundg kq
              case measure => omega
              case rel => exact ⟨done ++ [cur], nx, rest', ⟨by rw [List.append_assoc]; show _ = done ++ cur :: nx :: rest'; rw [HD.out, HRR.out]⟩, ⟨by have h1 := HKQ.out; rw [HRR.out] at h1; simp only [List.length_cons] at h1; omega⟩, by rw [HX.out]; first | rfl | (show _ = Value.int .i64 (lstS d0); rw [HLS.out]), ⟨by rw [HX.out]; exact .inr ⟨HD0.out, HNXT.out⟩⟩, ⟨Kd.R_step HO.out (fun k_ hk_ hl_ => set_other _ _ _ _ hk_)⟩, ⟨by have h_ := ints_set BT.out j1 ((c + 1 : Nat) : Int); rw [HJ1.out, wrapT_next (by rw [HCL2]; exact HJ1L.out), HNN.out] at h_; first | exact h_ | (rw [hwc]; exact h_)⟩, ⟨below_set HB.out HGT.out⟩⟩
    · have hl0 : lstS b0 = b0 := by unfold lstS; rw [if_neg (by omega)]
      rw [hl0]
      have HPB := Aside0.mk hpos
      have HL0 := Aside0.mk hl0
      by_cases hc : d0 < b0
      · have HX : Aside0 (trdT k l0 (done ++ [cur]) = (d0, cur)) := ⟨by rw [HACC.out]; unfold betT; rw [if_pos (.inr (by rw [← HB0.out]; exact hc))]⟩
        have e2 : decide (d0 < b0) = true := decide_eq_true hc
        clear hc hl0 hpos
        go_wp2_with (first | (go_at_call 26; refine HLOAD.out.mono ?_; rintro e w11 ⟨rfl, hb⟩; have HO1 := Aside0.mk (Kd.R_below HO.out hb); have BT1 := Aside0.mk (blk_below BT.out hb); have HB1 := Aside0.mk (below_step HB.out hb); clear hb HO BT HB HLOAD) | ((with_reducible refine gate_dst (N := 24) rfl ?_); refine Kd.R_lit (Kd.int .i64) (w0 := w) w.heap.size 3 ?hg (N := 24) ?hd (xs := ([] : List Int)) (inner := []) (ok := fun k_ => k_ ≠ gt) (okp := fun _ => False) ?hr ?hp (fun _ hk => hk.elim) (fun e_ => by have := blk_lt BT1.out; omega) HB1.out HB1.out.size (by simp) ?_; (case hd => rfl); (case hg => rfl); (case hr => first | (go_simp; done) | (go_simp; rfl)); (case hp => exact (Reps.none _ _)); intro v24 w12 h1 h2 h3 h4; have HV := Aside0.mk h1; have BT2 := Aside0.mk (blk_grown BT1.out h3 (fun e => by cases e)); have HB2 := Aside0.mk h2; clear h1 h2 h3 h4 BT1 HB1 HO1) | ((with_reducible refine gate_builtin (b := .append) (xs := #[.tmp 24, .tmp 25]) rfl ?_); at_builtin; refine Kd.R_append_rows (Kd.int .i64) (w0 := w) w.heap.size rfl (.tmp 24) (.tmp 25) 22 3 (.int .i64 0) 8 rfl Try.underlying22 info3 rfl (by decide) (by omega) v24 [] (toZ cur) (some ⟨gt, 0, none⟩) l0.length l0.length (fun k_ => k_ ≠ gt) (fun _ => False) rfl rfl HV.out (by have h_ := ints_C BT2.out (by rw [HLZ.out]; exact HN.out); rwa [HLZ.out] at h_) (fun _ _ h => h) (fun _ h => h.elim) (fun k_ hk_ e_ => by have := blk_lt BT2.out; omega) HB2.out HB2.out.size (by have := HN.out; simp; omega) ?_; intro v26 w13 h1 h2 h3 h4; have HO3 := Aside0.mk h1; have BT3 := Aside0.mk (blk_grown BT2.out h3 (fun e => HV.out.1 _ (by first | exact e | exact e.symm) rfl)); have HB3 := Aside0.mk h2; clear h1 h2 h3 h4 HV BT2 HB2))
        have HNXT := Aside0.mk (R_some HO3.out (by simpa using HLZ0.out))
        have HLAST : Aside0 (∀ LB, toZ (trdT k l0 (done ++ [cur])).2 = LB → True) := ⟨fun _ _ => trivial⟩
        clear HLAST
        go_loopg [9] l0.length (fun kj v9 wi => ∃ (j : Nat) (z : Int), v9 = .int .i64 z ∧ Aside0 (z = (j : Int) - 1) ∧ Aside0 (j = kj) ∧ Aside0 (j ≤ l0.length) ∧ Aside0 (∀ p, j ≤ p → p < l0.length → cur.getD p 0 = k - 1) ∧ Aside0 (wi.heap[gt]? = some (.cells (ints (wrapT cur j)).toArray 3 (0, 0))) ∧ Aside0 (Kd.R (Kd.int .i64) 3 wi w.heap.size (fun k_ => k_ ≠ gt) v26 (toZ (trdT k l0 (done ++ [cur])).2)) ∧ Aside0 (Below w.heap.size w wi))
        case atStart => exact ⟨l0.length, (l0.length : Int) - 1, by first | rfl | rw [HWL.out], ⟨rfl⟩, ⟨rfl⟩, ⟨Nat.le_refl _⟩, ⟨fun p h1 h2 => by omega⟩, ⟨by rw [← HCL.out, wrapT_all]; exact BT3.out⟩, ⟨by rw [HX.out]; exact HO3.out⟩, HB3⟩
        case round =>
          clear BT3 HO3 HB3
          obtain ⟨j, z, rfl, HZ, HJ, HJL, HMX, BT, HO, HB⟩ := hrel
          have HCL2 := HCL.out
          by_cases hj0 : j = 0
          · obtain rfl : z = -1 := by have := HZ.out; omega
            have hd0 : decide ((0 : Int) ≤ -1) = false := by decide
            have hd1 : decide ((-1 : Int) < 0) = true := by decide
            go_wp2
            go_ret
            have hrest : rest = [] := by
              have h1 := HNX.out
              have h2 : cur = List.replicate cur.length (k - 1) := cur_max (fun p hp => HMX.out p (by omega) (by omega))
              rw [h2, nxt_max HK.out.1] at h1
              cases hr : rest with
              | nil => rfl
              | cons a r => rw [hr] at h1; cases h1
            have hall : allT k l0.length = done ++ [cur] := by rw [HD.out, hrest]
            rw [hall]
            exact ⟨_, rfl, Kd.R_mono HO.out (fun _ _ => trivial), HB.out⟩
          · obtain ⟨j1, hj1⟩ : ∃ j1, j = j1 + 1 := ⟨j - 1, by omega⟩
            obtain rfl : z = (j1 : Int) := by have := HZ.out; omega
            have hj1l : j1 < l0.length := by have := HJL.out; omega
            have hcg : (wrapT cur j).getD j1 0 = ((cur.getD j1 0 : Nat) : Int) := by rw [hj1]; exact wrapT_get (by omega)
            have hwl : (wrapT cur j).length = l0.length := by rw [wrapT_len (by have := HJL.out; omega)]; exact HCL2
            have sc := ints_cell BT.out (i := j1) (by rw [hwl]; exact hj1l)
            rw [hcg] at sc
            have fz := blk_frozen BT.out j1
            have hck1 := HCK.out _ (getD_mem_nat (l := cur) (i := j1) (by omega))
            obtain ⟨c, hc⟩ : ∃ c, c = cur.getD j1 0 := ⟨_, rfl⟩
            rw [← hc] at sc hck1
            have HC := Aside0.mk hc
            have hd0 : decide ((0 : Int) ≤ (j1 : Int)) = true := decide_eq_true (by omega)
            have HJ1 := Aside0.mk hj1
            have HJ1L := Aside0.mk hj1l
            have hw1 := HWK.out
            have hw1w : IntKind.i64.wrap ((k : Int) - 1) = ((k - 1 : Nat) : Int) := (i64_w _).trans hw1
            obtain ⟨k1, hk1⟩ : ∃ k1, k1 = k - 1 := ⟨_, rfl⟩
            rw [← hk1] at hw1 hw1w
            have HK1 := Aside0.mk hk1
            have hwj : wrap64 ((j1 : Int) - 1) = (j1 : Int) - 1 := wrapS (by have := HN.out; omega)
            have HWJ := Aside0.mk hwj
            have hck2 := HCK.out
            clear hcg hc hj1 hk1 hwl hwj hj0 hck2
            by_cases hce : c = k1
            · have hb1 : ((c : Int) == (k1 : Int)) = true := beq_iff_eq.mpr (by omega)
              clear hck1
              subst hce
              have hb2 : ((c : Int) == (c : Int)) = true := hb1
              go_wp2
              go_roundg j1
              case measure => have h1 := HJ.out; have h2 := HJ1.out; omega
              case rel => exact ⟨j1, (j1 : Int) - 1, by first | rfl | rw [HWJ.out], ⟨rfl⟩, ⟨rfl⟩, ⟨Nat.le_of_lt HJ1L.out⟩, ⟨fun p h1 h2 => by
                rcases Nat.lt_or_ge p j with h | h
                · have h3 := HJ1.out
                  have : p = j1 := by omega
                  rw [this, ← HC.out]
                  exact HK1.out
                · exact HMX.out p h h2⟩, ⟨by have h_ := ints_set BT.out j1 0; rw [HJ1.out, wrapT_zero (by rw [HCL2]; exact HJ1L.out)] at h_; exact h_⟩, ⟨Kd.R_step HO.out (fun k_ hk_ hl_ => set_other _ _ _ _ hk_)⟩, ⟨below_set HB.out HGT.out⟩⟩
            · have hb1 : ((c : Int) == (k1 : Int)) = false := beq_eq_false_iff_ne.mpr (by omega)
              have hd1 : decide ((j1 : Int) < 0) = false := decide_eq_false (by omega)
              have hc1 : c + 1 < k := by have := HK1.out; have := HK.out; omega
              have hwc : wrap64 ((c : Int) + 1) = ((c + 1 : Nat) : Int) := by have := HK.out; rw [wrapS (by omega)]; omega
              have HC1 := Aside0.mk hc1
              have HWC := Aside0.mk hwc
              clear hck1 hce hc1
              go_wp2
              have hsp := cur_split (k := k) (cur := cur) (j := j1) (by rw [HCL2]; exact HJ1L.out) (fun p h1 h2 => HMX.out p (by have := HJ1.out; omega) (by omega))
              rw [← HC.out] at hsp
              have hnx := HNX.out
              rw [hsp, nxt_form HC1.out] at hnx
              cases hr : rest with
              | nil => rw [hr] at hnx; cases hnx
              | cons nx rest' =>
                rw [hr] at hnx
                have hnx2 : cur.take j1 ++ (c + 1) :: List.replicate (cur.length - (j1 + 1)) 0 = nx := by simpa using hnx
                have HNN := Aside0.mk hnx2
                have HRR := Aside0.mk hr
                clear hnx hnx2 hr hsp
                go_roundg kq
                case measure => omega
                case rel => exact ⟨done ++ [cur], nx, rest', ⟨by rw [List.append_assoc]; show _ = done ++ cur :: nx :: rest'; rw [HD.out, HRR.out]⟩, ⟨by have h1 := HKQ.out; rw [HRR.out] at h1; simp only [List.length_cons] at h1; omega⟩, by rw [HX.out]; first | rfl | (show _ = Value.int .i64 (lstS d0); rw [HLS.out]), ⟨by rw [HX.out]; exact .inr ⟨HD0.out, HNXT.out⟩⟩, ⟨Kd.R_step HO.out (fun k_ hk_ hl_ => set_other _ _ _ _ hk_)⟩, ⟨by have h_ := ints_set BT.out j1 ((c + 1 : Nat) : Int); rw [HJ1.out, wrapT_next (by rw [HCL2]; exact HJ1L.out), HNN.out] at h_; first | exact h_ | (rw [hwc]; exact h_)⟩, ⟨below_set HB.out HGT.out⟩⟩
      · have HX : Aside0 (trdT k l0 (done ++ [cur]) = trdT k l0 done) := ⟨by rw [HACC.out]; unfold betT; rw [if_neg (by rw [← HB0.out]; simp only; omega)]⟩
        have e2 : decide (d0 < b0) = false := decide_eq_false hc
        clear hc hl0 hpos
        go_wp2_with (go_at_call 26; refine HLOAD.out.mono ?_; rintro e w11 ⟨rfl, hb⟩; have HO1 := Aside0.mk (Kd.R_below HO.out hb); have BT1 := Aside0.mk (blk_below BT.out hb); have HB1 := Aside0.mk (below_step HB.out hb); clear hb HO BT HB HLOAD)
        have HLAST : Aside0 (∀ LB, toZ (trdT k l0 (done ++ [cur])).2 = LB → True) := ⟨fun _ _ => trivial⟩
        clear HLAST
        go_loopg [9] l0.length (fun kj v9 wi => ∃ (j : Nat) (z : Int), v9 = .int .i64 z ∧ Aside0 (z = (j : Int) - 1) ∧ Aside0 (j = kj) ∧ Aside0 (j ≤ l0.length) ∧ Aside0 (∀ p, j ≤ p → p < l0.length → cur.getD p 0 = k - 1) ∧ Aside0 (wi.heap[gt]? = some (.cells (ints (wrapT cur j)).toArray 3 (0, 0))) ∧ Aside0 (Kd.R (Kd.int .i64) 3 wi w.heap.size (fun k_ => k_ ≠ gt) (.slice (some ad2) n2 c2) (toZ (trdT k l0 (done ++ [cur])).2)) ∧ Aside0 (Below w.heap.size w wi))
        case atStart => exact ⟨l0.length, (l0.length : Int) - 1, by first | rfl | rw [HWL.out], ⟨rfl⟩, ⟨rfl⟩, ⟨Nat.le_refl _⟩, ⟨fun p h1 h2 => by omega⟩, ⟨by rw [← HCL.out, wrapT_all]; exact BT1.out⟩, ⟨by rw [HX.out]; exact HO1.out⟩, HB1⟩
        case round =>
          clear BT1 HO1 HB1
          obtain ⟨j, z, rfl, HZ, HJ, HJL, HMX, BT, HO, HB⟩ := hrel
          have HCL2 := HCL.out
          by_cases hj0 : j = 0
          · obtain rfl : z = -1 := by have := HZ.out; omega
            have hd0 : decide ((0 : Int) ≤ -1) = false := by decide
            have hd1 : decide ((-1 : Int) < 0) = true := by decide
            go_wp2
            go_ret
            have hrest : rest = [] := by
              have h1 := HNX.out
              have h2 : cur = List.replicate cur.length (k - 1) := cur_max (fun p hp => HMX.out p (by omega) (by omega))
              rw [h2, nxt_max HK.out.1] at h1
              cases hr : rest with
              | nil => rfl
              | cons a r => rw [hr] at h1; cases h1
            have hall : allT k l0.length = done ++ [cur] := by rw [HD.out, hrest]
            rw [hall]
            exact ⟨_, rfl, Kd.R_mono HO.out (fun _ _ => trivial), HB.out⟩
          · obtain ⟨j1, hj1⟩ : ∃ j1, j = j1 + 1 := ⟨j - 1, by omega⟩
            obtain rfl : z = (j1 : Int) := by have := HZ.out; omega
            have hj1l : j1 < l0.length := by have := HJL.out; omega
            have hcg : (wrapT cur j).getD j1 0 = ((cur.getD j1 0 : Nat) : Int) := by rw [hj1]; exact wrapT_get (by omega)
            have hwl : (wrapT cur j).length = l0.length := by rw [wrapT_len (by have := HJL.out; omega)]; exact HCL2
            have sc := ints_cell BT.out (i := j1) (by rw [hwl]; exact hj1l)
            rw [hcg] at sc
            have fz := blk_frozen BT.out j1
            have hck1 := HCK.out _ (getD_mem_nat (l := cur) (i := j1) (by omega))
            obtain ⟨c, hc⟩ : ∃ c, c = cur.getD j1 0 := ⟨_, rfl⟩
            rw [← hc] at sc hck1
            have HC := Aside0.mk hc
            have hd0 : decide ((0 : Int) ≤ (j1 : Int)) = true := decide_eq_true (by omega)
            have HJ1 := Aside0.mk hj1
            have HJ1L := Aside0.mk hj1l
            have hw1 := HWK.out
            have hw1w : IntKind.i64.wrap ((k : Int) - 1) = ((k - 1 : Nat) : Int) := (i64_w _).trans hw1
            obtain ⟨k1, hk1⟩ : ∃ k1, k1 = k - 1 := ⟨_, rfl⟩
            rw [← hk1] at hw1 hw1w
            have HK1 := Aside0.mk hk1
            have hwj : wrap64 ((j1 : Int) - 1) = (j1 : Int) - 1 := wrapS (by have := HN.out; omega)
            have HWJ := Aside0.mk hwj
            have hck2 := HCK.out
            clear hcg hc hj1 hk1 hwl hwj hj0 hck2
            by_cases hce : c = k1
            · have hb1 : ((c : Int) == (k1 : Int)) = true := beq_iff_eq.mpr (by omega)
              clear hck1
              subst hce
              have hb2 : ((c : Int) == (c : Int)) = true := hb1
              go_wp2
              go_roundg j1
              case measure => have h1 := HJ.out; have h2 := HJ1.out; omega
              case rel => exact ⟨j1, (j1 : Int) - 1, by first | rfl | rw [HWJ.out], ⟨rfl⟩, ⟨rfl⟩, ⟨Nat.le_of_lt HJ1L.out⟩, ⟨fun p h1 h2 => by
                rcases Nat.lt_or_ge p j with h | h
                · have h3 := HJ1.out
                  have : p = j1 := by omega
                  rw [this, ← HC.out]
                  exact HK1.out
                · exact HMX.out p h h2⟩, ⟨by have h_ := ints_set BT.out j1 0; rw [HJ1.out, wrapT_zero (by rw [HCL2]; exact HJ1L.out)] at h_; exact h_⟩, ⟨Kd.R_step HO.out (fun k_ hk_ hl_ => set_other _ _ _ _ hk_)⟩, ⟨below_set HB.out HGT.out⟩⟩
            · have hb1 : ((c : Int) == (k1 : Int)) = false := beq_eq_false_iff_ne.mpr (by omega)
              have hd1 : decide ((j1 : Int) < 0) = false := decide_eq_false (by omega)
              have hc1 : c + 1 < k := by have := HK1.out; have := HK.out; omega
              have hwc : wrap64 ((c : Int) + 1) = ((c + 1 : Nat) : Int) := by have := HK.out; rw [wrapS (by omega)]; omega
              have HC1 := Aside0.mk hc1
              have HWC := Aside0.mk hwc
              clear hck1 hce hc1
              go_wp2
              have hsp := cur_split (k := k) (cur := cur) (j := j1) (by rw [HCL2]; exact HJ1L.out) (fun p h1 h2 => HMX.out p (by have := HJ1.out; omega) (by omega))
              rw [← HC.out] at hsp
              have hnx := HNX.out
              rw [hsp, nxt_form HC1.out] at hnx
              cases hr : rest with
              | nil => rw [hr] at hnx; cases hnx
              | cons nx rest' =>
                rw [hr] at hnx
                have hnx2 : cur.take j1 ++ (c + 1) :: List.replicate (cur.length - (j1 + 1)) 0 = nx := by simpa using hnx
                have HNN := Aside0.mk hnx2
                have HRR := Aside0.mk hr
                clear hnx hnx2 hr hsp
                go_roundg kq
                case measure => omega
                case rel => exact ⟨done ++ [cur], nx, rest', ⟨by rw [List.append_assoc]; show _ = done ++ cur :: nx :: rest'; rw [HD.out, HRR.out]⟩, ⟨by have h1 := HKQ.out; rw [HRR.out] at h1; simp only [List.length_cons] at h1; omega⟩, by rw [HX.out]; rw [← HB0.out, HL0.out], ⟨by rw [HX.out]; rw [← HB0.out]; exact .inr ⟨HPB.out, _, _, _, rfl⟩⟩, ⟨Kd.R_step HO.out (fun k_ hk_ hl_ => set_other _ _ _ _ hk_)⟩, ⟨by have h_ := ints_set BT.out j1 ((c + 1 : Nat) : Int); rw [HJ1.out, wrapT_next (by rw [HCL2]; exact HJ1L.out), HNN.out] at h_; first | exact h_ | (rw [hwc]; exact h_)⟩, ⟨below_set HB.out HGT.out⟩⟩
theorem woggleref05_Teams.calls (A0 : Option Addr) (c0 : Nat) (l0 : List Int) (a1 : Int) (r : List Int) (w : World) (hr0 : Kd.C (Kd.int .i64) w A0 l0.length l0) (hc0 : l0.length ≤ c0) (h : woggleref05_Teams.f l0 a1 = some r) :
    Calls Try.prog 25 #[.slice A0 l0.length c0, .int .i64 a1] w fun e w' => ∃ v0_ : Value, e = .returned v0_ ∧ Kd.R (Kd.int .i64) 3 w' w.heap.size (fun _ => True) v0_ r ∧ Below w.heap.size w w' := by
  unfold woggleref05_Teams.f at h
  by_cases hc : OkL 10 l0 ∧ 1 ≤ a1 ∧ a1 ≤ 4
  · rw [if_pos hc] at h
    obtain rfl := Option.some.inj h
    obtain ⟨k, rfl⟩ := Int.eq_ofNat_of_zero_le (show 0 ≤ a1 by omega)
    exact refTeams_calls A0 c0 l0 k hc.1 ⟨by omega, by omega⟩ w hr0 hc0
  · rw [if_neg hc] at h
    cases h
end Go.Proofs.Ytepgcdjbhmpioaa.Fi
