/- The calls of woggleref05.take. -/
import Derived.Test.YtepgcdjbhmpioaaQTeFd0
import Derived.Test.YtepgcdjbhmpioaaQTeH4b
namespace Go.Proofs.Ytepgcdjbhmpioaa.Fd
open Go.RowKit Go.Proofs.YtepgcdjbhmpioaaW.PrintWords Go.Proofs.YtepgcdjbhmpioaaW.PrintLast Go.Proofs.YtepgcdjbhmpioaaW.PrintMore
open Go.Proofs.Ytepgcdjbhmpioaa.Fi (wrapS)
set_option linter.unusedVariables false
set_option linter.unusedSimpArgs false
def vlT (l : List S71) (i : Nat) : Int := (l.getD i z71).f0
/-- The place of the greatest value, the first one. -/
def mxAt (l : List S71) : Nat → Nat
  | 0 => 0
  | i + 1 => if vlT l i > vlT l (mxAt l i) then i else mxAt l i
theorem mxAt_lt (l : List S71) : ∀ i, 1 ≤ i → mxAt l i < i
  | 0, h => by omega
  | 1, _ => by unfold mxAt; split <;> (try omega); unfold mxAt; omega
  | i + 2, _ => by
    have := mxAt_lt l (i + 1) (by omega)
    rw [mxAt]
    split <;> omega
theorem mxAt_one (l : List S71) : mxAt l 1 = 0 := by
  have := mxAt_lt l 1 (by omega)
  omega
def woggleref05_take.f (l : List S71) : Option (Int × List Int × List S71) := if 1 ≤ l.length ∧ l.length ≤ 1000 then some ((l.getD (mxAt l l.length) z71).f0, (l.getD (mxAt l l.length) z71).f1, l.take (mxAt l l.length) ++ l.drop (mxAt l l.length + 1)) else none
set_option maxHeartbeats 4000000 in
set_option maxRecDepth 100000 in
theorem take_ok (P0_ : Nat → Prop) (A0 : Option Addr) (c0 : Nat) (l0 : List S71) (r1 : Int) (r2 : List Int) (r3 : List S71) (w : World) (h1 : 1 ≤ l0.length) (h2 : l0.length ≤ 1000) (hs0 : Kd.V k71 71 w w.heap.size (fun k_ => P0_ k_) (.slice A0 l0.length c0) l0)
    (hr1 : r1 = (l0.getD (mxAt l0 l0.length) z71).f0) (hr2 : r2 = (l0.getD (mxAt l0 l0.length) z71).f1) (hr3 : r3 = l0.take (mxAt l0 l0.length) ++ l0.drop (mxAt l0 l0.length + 1)) :
    Calls Try.prog 49 #[.slice A0 l0.length c0] w fun e w' => ∃ v1_ v2_ : Value, e = .returned (.tuple #[.agg #[.int .i64 r1, v1_], v2_]) ∧ Kd.V (Kd.int .i64) 3 w' w.heap.size (fun k_ => (P0_ k_ ∨ w.heap.size ≤ k_) ∧ some k_ ≠ (v2_ : Value).ownBlock) v1_ r2 ∧ Kd.N k71 71 w' w.heap.size (fun k_ => P0_ k_ ∨ w.heap.size ≤ k_) v2_ r3 ∧ Below w.heap.size w w' := by
  have HR1 := Aside0.mk hr1
  have HR2 := Aside0.mk hr2
  have HR3 := Aside0.mk hr3
  clear hr1 hr2 hr3
  obtain ⟨A_, c_, he, hcap, hF⟩ := hs0
  injection he with he1 he2 he3
  subst he1
  subst he3
  have hF2 : Kd.F k71 w (fun k_ => P0_ k_ ∧ k_ < w.heap.size) A0 l0.length l0 := Kd.F_bound hF
  have HF := Aside0.mk hF2
  have HCAP := Aside0.mk hcap
  have hget : ∀ i, i < l0.length → ∃ ad, A0 = some ad ∧ ∃ A1 c1, (l0.getD i z71).f1.length ≤ c1 ∧ Kd.F (Kd.int .i64) w (fun k_ => P0_ k_ ∧ k_ < w.heap.size) A1 (l0.getD i z71).f1.length (l0.getD i z71).f1 ∧ w.cell? (ad.add (i * 2)) = some (.int .i64 (vlT l0 i)) ∧ w.cell? (ad.add (i * 2 + 1)) = some (.slice A1 (l0.getD i z71).f1.length c1) := fun i hi => by
    obtain ⟨ad, c, e1, e2, e3, e4, _⟩ := Kd.F_get hF2 z71 (i : Int) (by omega) (by omega)
    rw [Int.toNat_natCast] at e3 e4
    obtain ⟨A1, c1, q1, q2, q3⟩ := k71_open (Kd.FK_now e3)
    subst q1
    refine ⟨ad, e1, A1, c1, q2, ?_, ?_, ?_⟩
    · refine Foot.imp e3 (fun W' hK => ?_)
      obtain ⟨A1', c1', p1, p2, p3⟩ := k71_open hK
      injection p1 with p1 p4
      injection p4 with p4 p5
      injection p4 with p6 p7 p8
      subst p6
      exact p3
    · exact e4 0 _ rfl
    · exact e4 1 _ rfl
  obtain ⟨ad, hA, _⟩ := hget 0 (by omega)
  subst hA
  have hcell : ∀ i, i < l0.length → w.cell? (ad.add (i * 2)) = some (.int .i64 (vlT l0 i)) := fun i hi => by
    obtain ⟨ad', e1, A1, c1, _, _, e2, _⟩ := hget i hi
    injection e1 with e1
    subst e1
    exact e2
  have HCELL := Aside0.mk hcell
  have HGET := Aside0.mk hget
  have HL := Aside0.mk (show 1 ≤ l0.length ∧ l0.length ≤ 1000 from ⟨h1, h2⟩)
  have HB := Aside0.mk (Below.refl w.heap.size w)
  clear he2 hF hF2 hcap hget hcell h1 h2
  go_enter Try.func49, Try.ntmps49
  go_wp2_with ((with_reducible refine gate_dst (N := 2) rfl ?_); refine box_event ?hg (N := 2) ?hd (cs := #[.int .i64 0, .slice none 0 0]) (t := 71) ?hr ?_; (case hd => rfl); (case hg => rfl); (case hr => first | (go_simp; done) | (go_simp; rfl)); intro gb hg w7 hbox hb; have BK := Aside0.mk hbox; have HB1 := Aside0.mk hb; have HGB := Aside0.mk hg; clear hbox hb hg HB)
  have HCW : Aside0 (∀ i, i < l0.length → w7.cell? (ad.add (i * 2)) = some (.int .i64 (vlT l0 i))) := ⟨fun i hi => by
    rw [HB1.out.cell (World.block_lt_of_cell? _ _ (HCELL.out i hi))]
    exact HCELL.out i hi⟩
  go_loopg [4, 5] (l0.length - 1) (fun kq v4 v5 wi => ∃ i m : Nat, v5 = .int .i64 (i : Int) ∧ v4 = .int .i64 ((mxAt l0 i : Nat) : Int) ∧ Aside0 (1 ≤ i) ∧ Aside0 (i + kq = l0.length) ∧ wi = w7.drewN m)
  case atStart => exact ⟨1, 0, rfl, by rw [mxAt_one]; rfl, ⟨Nat.le_refl _⟩, ⟨by have := HL.out; omega⟩, rfl⟩
  case round =>
    obtain ⟨i, m, rfl, rfl, HI1, HI, rfl⟩ := hrel
    cases gk with
    | zero =>
      obtain rfl : i = l0.length := by have := HI.out; omega
      have hd : decide ((l0.length : Int) < (l0.length : Int)) = false := by simp
      have hmx := mxAt_lt l0 l0.length HL.out.1
      obtain ⟨q, hq⟩ : ∃ q, q = mxAt l0 l0.length := ⟨_, rfl⟩
      rw [← hq] at hmx ⊢
      obtain ⟨ad', e1, A1, c1, g1, g2, g3, g4⟩ := HGET.out q hmx
      injection e1 with e1
      subst e1
      have HF1 := Aside0.mk g2
      have HG1 := Aside0.mk g1
      obtain ⟨x0, hx0⟩ : ∃ x, x = vlT l0 q := ⟨_, rfl⟩
      rw [← hx0] at g3
      obtain ⟨n1, hn1⟩ : ∃ n, n = (l0.getD q z71).f1.length := ⟨_, rfl⟩
      rw [← hn1] at g4
      have HX := Aside0.mk hx0
      have HN1 := Aside0.mk hn1
      have HQ := Aside0.mk hq
      have HBW := Aside0.mk (pw_below_drewN HB1.out m)
      have c1w : (w7.drewN m).cell? (ad.add (q * 2)) = some (.int .i64 x0) := by rw [HBW.out.cell (World.block_lt_of_cell? _ _ g3)]; exact g3
      have c2w : (w7.drewN m).cell? ⟨(ad.add (q * 2)).block, (ad.add (q * 2)).off + 1, none⟩ = some (.slice A1 n1 c1) := by rw [← add_field _ _ 1 (by omega), HBW.out.cell (World.block_lt_of_cell? _ _ g4)]; exact g4
      have BKW := Aside0.mk (blk_drewN BK.out m)
      have HFW := Aside0.mk (Kd.F_below HF.out HBW.out)
      clear g1 g2 g3 g4 hx0 hn1 hq BK HCW
      go_wp2
      generalize w7.drewN m = W at c1w c2w BKW HFW HBW ⊢
      obtain ⟨i0_, hi0_, _, hsz_, _⟩ := info_parts info71
      have hql : q < l0.length := hmx
      have hcut1 := cut_to (P := Try.prog) 69 71 .i64 Try.underlying69 hi0_ (some ad) l0.length c0 (q : Int) (by omega) (by omega) HCAP.out
      obtain ⟨q1, hq1⟩ : ∃ q1, q1 = q + 1 := ⟨_, rfl⟩
      have hwq : wrap64 ((q : Int) + 1) = (q1 : Int) := by rw [wrapS (by have := HL.out; omega)]; omega
      have hwqw : IntKind.i64.wrap ((q : Int) + 1) = (q1 : Int) := (i64_w _).trans hwq
      have hcut2 := cut_from (P := Try.prog) 69 71 .i64 Try.underlying69 hi0_ 2 hsz_ (some ad) l0.length c0 (q1 : Int) (by omega) (by omega)
      rw [Int.toNat_natCast] at hcut1 hcut2
      obtain ⟨A2, hA2⟩ : ∃ A2, A2 = (if c0 = q1 then (some ad) else (some ad : Option Addr).map (·.add (q1 * 2))) := ⟨_, rfl⟩
      rw [← hA2] at hcut2
      have hFT : Kd.F k71 W (fun k_ => P0_ k_ ∧ k_ < w.heap.size) (some ad) q (l0.take q) := Kd.F_imp HFW.out (fun W' hC => by have h_ := Kd.C_take (m := q) hC (by omega); rwa [show (l0.take q).length = q by rw [List.length_take]; omega] at h_)
      have hFD : Kd.F k71 W (fun k_ => P0_ k_ ∧ k_ < w.heap.size) A2 (l0.length - q1) (l0.drop q1) := Kd.F_imp HFW.out (fun W' hC => by rw [hA2]; have h_ := Kd.C_drop (m := q1) (c := c0) hC (by omega) HCAP.out; rwa [show (l0.drop q1).length = l0.length - q1 from List.length_drop] at h_)
      have HQ1 := Aside0.mk hq1
      have HFT := Aside0.mk hFT
      have HFD := Aside0.mk hFD
      clear hi0_ hsz_ hA2 hFT hFD
      have hl1000 := HL.out
      have hqq1 : q1 ≤ l0.length := by omega
      clear hq1
      refine start_ (n := 16) (S := fun w' => w'.cell? (ad.add (q * 2)) = some (.int .i64 x0) ∧ w'.cell? ⟨(ad.add (q * 2)).block, (ad.add (q * 2)).off + 1, none⟩ = some (.slice A1 n1 c1)) (ds := [14]) #[false, false, false, false, false, false, false, false, false, false, false, false, false, false, false, false] (by kernel_rfl) rfl rfl ⟨c1w, c2w⟩ (fun hHeld => ?_)
      have HX0 : Aside0 (W.drew.cell? (ad.add (q * 2)) = some (.int .i64 x0) ∧ W.drew.cell? ⟨(ad.add (q * 2)).block, (ad.add (q * 2)).off + 1, none⟩ = some (.slice A1 n1 c1)) := ⟨⟨c1w, c2w⟩⟩
      have HBZ := Aside0.mk (below_drew1 HBW.out)
      have HFT0 := Aside0.mk (Kd.F_drew HFT.out)
      have HFD0 := Aside0.mk (Kd.F_drew HFD.out)
      have BK0 := Aside0.mk (blk_drew BKW.out)
      clear c1w c2w HBW HFT HFD BKW HFW
      generalize W.drew = W0 at HX0 HBZ HFT0 HFD0 BK0 hHeld ⊢
      have HXL : Aside0 ((ad.add (q * 2)).block < W0.heap.size) := ⟨World.block_lt_of_cell? _ _ HX0.out.1⟩
      have HXL2 : Aside0 ((⟨(ad.add (q * 2)).block, (ad.add (q * 2)).off + 1, none⟩ : Addr).block < W0.heap.size) := ⟨HXL.out⟩
      have HB0 := Aside0.mk (Below.refl W0.heap.size W0)
      have HSZ : Aside0 (w.heap.size ≤ W0.heap.size) := ⟨HBZ.out.size⟩
      refine pure_ (i := 0) (N := some 24) (v := ?_) (a' := ?_) #[true, false, false, false, false, false, false, false, false, false, false, false, false, false, false, false] rfl rfl (by kernel_rfl) (fun _ _ _ h => h) (Or.inl ⟨by rfl, ?_⟩) ?_ ?_
      rotate_left
      · intro w'
        go_simp
        with_reducible rfl
      rotate_left
      · simp only [Act.put, List.setIfInBounds_toArray, List.set_cons_zero, List.set_cons_succ, i64_w, i32_w]
        rfl
      refine pure_ (i := 1) (N := some 25) (v := ?_) (a' := ?_) #[true, true, false, false, false, false, false, false, false, false, false, false, false, false, false, false] rfl rfl (by kernel_rfl) (fun _ _ _ h => h) (Or.inl ⟨by rfl, ?_⟩) ?_ ?_
      rotate_left
      · intro w'
        go_simp
        with_reducible rfl
      rotate_left
      · simp only [Act.put, List.setIfInBounds_toArray, List.set_cons_zero, List.set_cons_succ, i64_w, i32_w]
        rfl
      refine pure_ (i := 2) (N := some 26) (v := ?_) (a' := ?_) #[true, true, true, false, false, false, false, false, false, false, false, false, false, false, false, false] rfl rfl (by kernel_rfl) (fun _ _ _ h => h) (Or.inl ⟨by rfl, ?_⟩) ?_ ?_
      rotate_left
      · intro w'
        go_simp
        with_reducible rfl
      rotate_left
      · simp only [Act.put, List.setIfInBounds_toArray, List.set_cons_zero, List.set_cons_succ, i64_w, i32_w]
        rfl
      refine take_ (i := 3) (N := some 27) (v := ?_) (a' := ?_) #[true, true, true, true, false, false, false, false, false, false, false, false, false, false, false, false] rfl rfl (by kernel_rfl) (fun _ _ _ h => h) (Or.inl ⟨by rfl, ?_⟩) hHeld ?_ ?_
      rotate_left
      · rintro w' ⟨s0, s1⟩
        go_simp
        with_reducible rfl
      rotate_left
      · simp only [Act.put, List.setIfInBounds_toArray, List.set_cons_zero, List.set_cons_succ, i64_w, i32_w]
        rfl
      refine pure_ (i := 5) (N := some 29) (v := ?_) (a' := ?_) #[true, true, true, true, false, true, false, false, false, false, false, false, false, false, false, false] rfl rfl (by kernel_rfl) (fun _ _ _ h => h) (Or.inl ⟨by rfl, ?_⟩) ?_ ?_
      rotate_left
      · intro w'
        go_simp
        with_reducible rfl
      rotate_left
      · simp only [Act.put, List.setIfInBounds_toArray, List.set_cons_zero, List.set_cons_succ, i64_w, i32_w]
        rfl
      refine pure_ (i := 6) (N := some 30) (v := ?_) (a' := ?_) #[true, true, true, true, false, true, true, false, false, false, false, false, false, false, false, false] rfl rfl (by kernel_rfl) (fun _ _ _ h => h) (Or.inl ⟨by rfl, ?_⟩) ?_ ?_
      rotate_left
      · intro w'
        go_simp
        with_reducible rfl
      rotate_left
      · simp only [Act.put, List.setIfInBounds_toArray, List.set_cons_zero, List.set_cons_succ, i64_w, i32_w]
        rfl
      refine pure_ (i := 7) (N := some 31) (v := ?_) (a' := ?_) #[true, true, true, true, false, true, true, true, false, false, false, false, false, false, false, false] rfl rfl (by kernel_rfl) (fun _ _ _ h => h) (Or.inl ⟨by rfl, ?_⟩) ?_ ?_
      rotate_left
      · intro w'
        go_simp
        with_reducible rfl
      rotate_left
      · simp only [Act.put, List.setIfInBounds_toArray, List.set_cons_zero, List.set_cons_succ, i64_w, i32_w]
        rfl
      refine pure_ (i := 9) (N := some 33) (v := ?_) (a' := ?_) #[true, true, true, true, false, true, true, true, false, true, false, false, false, false, false, false] rfl rfl (by kernel_rfl) (fun _ _ _ h => h) (Or.inl ⟨by rfl, ?_⟩) ?_ ?_
      rotate_left
      · intro w'
        go_simp
        with_reducible rfl
      rotate_left
      · simp only [Act.put, List.setIfInBounds_toArray, List.set_cons_zero, List.set_cons_succ, i64_w, i32_w]
        rfl
      refine pure_ (i := 10) (N := some 34) (v := ?_) (a' := ?_) #[true, true, true, true, false, true, true, true, false, true, true, false, false, false, false, false] rfl rfl (by kernel_rfl) (fun _ _ _ h => h) (Or.inl ⟨by rfl, ?_⟩) ?_ ?_
      rotate_left
      · intro w'
        go_simp
        with_reducible rfl
      rotate_left
      · simp only [Act.put, List.setIfInBounds_toArray, List.set_cons_zero, List.set_cons_succ, i64_w, i32_w]
        rfl
      refine pure_ (i := 11) (N := some 35) (v := ?_) (a' := ?_) #[true, true, true, true, false, true, true, true, false, true, true, true, false, false, false, false] rfl rfl (by kernel_rfl) (fun _ _ _ h => h) (Or.inl ⟨by rfl, ?_⟩) ?_ ?_
      rotate_left
      · intro w'
        go_simp
        with_reducible rfl
      rotate_left
      · simp only [Act.put, List.setIfInBounds_toArray, List.set_cons_zero, List.set_cons_succ, i64_w, i32_w]
        rfl
      refine pure_ (i := 12) (N := some 36) (v := ?_) (a' := ?_) #[true, true, true, true, false, true, true, true, false, true, true, true, true, false, false, false] rfl rfl (by kernel_rfl) (fun _ _ _ h => h) (Or.inl ⟨by rfl, ?_⟩) ?_ ?_
      rotate_left
      · intro w'
        go_simp
        with_reducible rfl
      rotate_left
      · simp only [Act.put, List.setIfInBounds_toArray, List.set_cons_zero, List.set_cons_succ, i64_w, i32_w]
        rfl
      refine one_ (i := 4) (N := some 28) #[true, true, true, true, true, true, true, true, false, true, true, true, true, false, false, false] rfl rfl (by kernel_rfl) (by decide) (fun K hK => ?_)
      refine Kd.R_lit_step k71 W0.heap.size 71 (by rfl) (N := 28) rfl (xs := ([] : List S71)) (inner := []) (ok := fun k_ => (P0_ k_ ∧ k_ < w.heap.size) ∨ W0.heap.size ≤ k_) (okp := fun _ => False) ?hr (Reps.none _ _) (fun k_ hk => hk.elim) (.inr (Nat.le_refl _)) HB0.out (below_size HB0.out) (by simp) ?_
      (case hr => first | (go_simp; done) | (go_simp; rfl))
      intro v28 w1q ho hb hg hn
      have HV28 := Aside0.mk (Kd.R_N ho)
      have HB2 := Aside0.mk hb
      clear ho hb hg hn
      refine hK.out _ _ ⟨(Below.cell HB2.out HXL.out).trans HX0.out.1, (Below.cell HB2.out HXL2.out).trans HX0.out.2⟩ (fun hHeld => ?_)
      clear hK K
      refine norm_ (a' := ?_) ?_ ?_
      rotate_left
      · show Act.put _ (some 28) _ = _
        simp only [Act.put, List.setIfInBounds_toArray, List.set_cons_zero, List.set_cons_succ, i64_w, i32_w]
        rfl
      refine one_ (i := 8) (N := some 32) #[true, true, true, true, true, true, true, true, true, true, true, true, true, false, false, false] rfl rfl (by kernel_rfl) (by decide) (fun K hK => ?_)
      refine Kd.N_append_rows_step k71 (w0 := W0) W0.heap.size (by rfl) (.tmp 28) (.tmp 31) 69 71 (.agg #[.int .i64 0, .slice none 0 0]) 32 rfl Try.underlying69 info71 rfl (by decide) (by omega) v28 ([] : List S71) (l0.take q) _ _ _ (fun k_ => (P0_ k_ ∧ k_ < w.heap.size) ∨ W0.heap.size ≤ k_) (fun k_ => P0_ k_ ∧ k_ < w.heap.size) rfl rfl HV28.out (Kd.F_below HFT0.out HB2.out) (fun k_ hk_ => ⟨.inl hk_, fun e_ => by have h_ := Kd.N_base HV28.out k_ e_.symm; have := HSZ.out; omega⟩) (fun k_ hk_ => .inr (Nat.le_trans (below_size HB2.out) hk_)) HB2.out (below_size HB2.out) ?aL ?_
      (case aL => simp only [List.length_append, List.length_take, List.length_drop, List.length_nil]; omega)
      intro v32 w32q ho hb hg hat
      have HV32 := Aside0.mk ho
      have HB3 := Aside0.mk hb
      clear ho hb hg hat
      refine hK.out _ _ ⟨(Below.cell HB3.out HXL.out).trans HX0.out.1, (Below.cell HB3.out HXL2.out).trans HX0.out.2⟩ (fun hHeld => ?_)
      clear hK K
      refine norm_ (a' := ?_) ?_ ?_
      rotate_left
      · show Act.put _ (some 32) _ = _
        simp only [Act.put, List.setIfInBounds_toArray, List.set_cons_zero, List.set_cons_succ, i64_w, i32_w]
        rfl
      refine one_ (i := 13) (N := some 37) #[true, true, true, true, true, true, true, true, true, true, true, true, true, true, false, false] rfl rfl (by kernel_rfl) (by decide) (fun K hK => ?_)
      refine Kd.N_append_rows_step k71 (w0 := W0) W0.heap.size (by rfl) (.tmp 32) (.tmp 36) 69 71 (.agg #[.int .i64 0, .slice none 0 0]) 32 rfl Try.underlying69 info71 rfl (by decide) (by omega) v32 ([] ++ l0.take q) (l0.drop q1) _ _ _ (fun k_ => (P0_ k_ ∧ k_ < w.heap.size) ∨ W0.heap.size ≤ k_) (fun k_ => P0_ k_ ∧ k_ < w.heap.size) rfl rfl HV32.out (Kd.F_below HFD0.out HB3.out) (fun k_ hk_ => ⟨.inl hk_, fun e_ => by have h_ := Kd.N_base HV32.out k_ e_.symm; have := HSZ.out; omega⟩) (fun k_ hk_ => .inr (Nat.le_trans (below_size HB3.out) hk_)) HB3.out (below_size HB3.out) ?aL ?_
      (case aL => simp only [List.length_append, List.length_take, List.length_drop, List.length_nil]; omega)
      intro v37 w37q ho hb hg hat
      have HV37 := Aside0.mk ho
      have HB4 := Aside0.mk hb
      clear ho hb hg hat
      refine hK.out _ _ ⟨(Below.cell HB4.out HXL.out).trans HX0.out.1, (Below.cell HB4.out HXL2.out).trans HX0.out.2⟩ (fun hHeld => ?_)
      clear hK K
      refine norm_ (a' := ?_) ?_ ?_
      rotate_left
      · show Act.put _ (some 37) _ = _
        simp only [Act.put, List.setIfInBounds_toArray, List.set_cons_zero, List.set_cons_succ, i64_w, i32_w]
        rfl
      have BK4 := Aside0.mk (blk_below BK0.out HB4.out)
      have hcz0 : w37q.cell? ⟨gb, 0, none⟩ = some (.int .i64 0) := (blk_cell BK4.out 0).trans rfl
      have hcz1 : w37q.cell? ⟨gb, 1, none⟩ = some (.slice none 0 0) := (blk_cell BK4.out 1).trans rfl
      have hfz0 := blk_frozen BK4.out 0
      have hfz1 := blk_frozen BK4.out 1
      refine last_ (i := 14) (N := none) #[true, true, true, true, true, true, true, true, true, true, true, true, true, true, true, false] rfl rfl (by kernel_rfl) (by decide) (fun K hK => ?_)
      refine skip_ (w1 := ?_) (by rfl) rfl ?_ ?_
      rotate_left
      · go_simp
        rfl
      refine hK.out _ _ ?_
      clear hK K
      refine pure_ (i := 15) (N := some 3) (v := ?_) (a' := ?_) #[true, true, true, true, true, true, true, true, true, true, true, true, true, true, true, true] rfl rfl (by kernel_rfl) (fun _ _ _ h => h) (Or.inl ⟨by rfl, ?_⟩) ?_ ?_
      rotate_left
      · intro w'
        go_simp
        with_reducible rfl
      rotate_left
      · simp only [Act.put, List.setIfInBounds_toArray, List.set_cons_zero, List.set_cons_succ, i64_w, i32_w]
        rfl
      refine done_ (by kernel_rfl) ?_
      go_wp2
      have BK5 := blk_put (blk_put BK4.out 0 (.int .i64 x0) rfl) 1 (.slice A1 n1 c1) rfl
      refine bodyPost_ret (results_ct rfl _ _ gb 71 #[.int .i64 x0, .slice A1 n1 c1] (0, 0) _ rfl BK5 Try.underlying71 rfl (by kernel_rfl)) rfl ?_
      have hge : w.heap.size ≤ gb := by rw [HGB.out]; exact Nat.le_refl _
      have hBF : Below w.heap.size w ((w37q.setCell ⟨gb, 0, none⟩ (.int .i64 x0)).setCell ⟨gb, 1, none⟩ (.slice A1 n1 c1)) := below_set (below_set (below_step HBZ.out HB4.out) hge) hge
      have hvb : ∀ k_, v37.ownBlock = some k_ → W0.heap.size ≤ k_ := Kd.N_base HV37.out
      have hgb0 : gb < W0.heap.size := blk_lt BK0.out
      refine ⟨.slice A1 n1 c1, v37, ?_, ⟨A1, c1, ?_, ?_, ?_⟩, ?_, hBF⟩
      · rw [HR1.out, ← HQ.out]
        show _ = Ending.returned (.tuple #[.agg #[.int .i64 (vlT l0 q), _], _])
        rw [← HX.out]
        rfl
      · rw [HR2.out, ← HQ.out, ← HN1.out]
      · rw [HR2.out, ← HQ.out]
        exact HG1.out
      · rw [HR2.out, ← HQ.out]
        refine Kd.F_mono (Kd.F_below HF1.out hBF) (fun k_ hk_ => ⟨.inl hk_.1, fun e_ => ?_⟩)
        have h_ := hvb k_ e_.symm
        have := HSZ.out
        omega
      · rw [HR3.out, ← HQ.out, ← HQ1.out]
        have hne : ∀ k_, (P0_ k_ ∧ k_ < w.heap.size) ∨ W0.heap.size ≤ k_ → k_ ≠ gb := fun k_ hk_ => by rcases hk_ with h_ | h_ <;> omega
        exact Kd.N_lower (Kd.N_mono (Kd.N_far (p := ⟨gb, 1, none⟩) (Kd.N_far (p := ⟨gb, 0, none⟩) HV37.out hne _) hne _) (fun k_ hk_ => by rcases hk_ with h_ | h_; exact .inl h_.1; exact .inr (Nat.le_trans HSZ.out h_))) HSZ.out
    | succ kq =>
      have hin : i < l0.length := by have := HI.out; omega
      have hd : decide ((i : Int) < (l0.length : Int)) = true := decide_eq_true (by omega)
      have hmx := mxAt_lt l0 i HI1.out
      have hst : mxAt l0 (i + 1) = if vlT l0 i > vlT l0 (mxAt l0 i) then i else mxAt l0 i := rfl
      have HST := Aside0.mk hst
      have hx := HCW.out i hin
      have hy := HCW.out (mxAt l0 i) (by omega)
      have hw1 : wrap64 ((i : Int) + 1) = ((i + 1 : Nat) : Int) := wrapS (by have := HL.out; omega)
      obtain ⟨q, hq⟩ : ∃ q, q = mxAt l0 i := ⟨_, rfl⟩
      rw [← hq] at HST hy hmx ⊢
      obtain ⟨x, hxe⟩ : ∃ x, x = vlT l0 i := ⟨_, rfl⟩
      obtain ⟨y, hye⟩ : ∃ y, y = vlT l0 q := ⟨_, rfl⟩
      rw [← hxe] at hx HST
      rw [← hye] at hy HST
      have hql : q < l0.length := by omega
      have hxm : (w7.drewN m).cell? (ad.add (i * 2)) = some (.int .i64 x) := hx
      have hym : (w7.drewN m).cell? (ad.add (q * 2)) = some (.int .i64 y) := hy
      clear hst hq hxe hye hmx
      by_cases hc : x > y
      · have hd1 : decide (y < x) = true := decide_eq_true hc
        have HX : Aside0 (mxAt l0 (i + 1) = i) := ⟨by rw [HST.out, if_pos hc]⟩
        clear hc
        go_wp2
        go_quiet (fail)
        go_wp2
        go_roundg kq
        case measure => omega
        case rel => exact ⟨i + 1, _, by first | rfl | rw [hw1], by rw [HX.out], ⟨by omega⟩, ⟨by have := HI.out; omega⟩, by first | rfl | exact (World.drewN_drewN _ _ _)⟩
      · have hd1 : decide (y < x) = false := decide_eq_false hc
        have HX : Aside0 (mxAt l0 (i + 1) = q) := ⟨by rw [HST.out, if_neg hc]⟩
        clear hc
        go_wp2
        go_quiet (fail)
        go_wp2
        go_roundg kq
        case measure => omega
        case rel => exact ⟨i + 1, _, by first | rfl | rw [hw1], by rw [HX.out], ⟨by omega⟩, ⟨by have := HI.out; omega⟩, by first | rfl | exact (World.drewN_drewN _ _ _)⟩
theorem woggleref05_take.calls (P0_ : Nat → Prop) (A0 : Option Addr) (c0 : Nat) (l0 : List S71) (r1 : Int) (r2 : List Int) (r3 : List S71) (w : World) (hs0 : Kd.V k71 71 w w.heap.size (fun k_ => P0_ k_) (.slice A0 l0.length c0) l0) (h : woggleref05_take.f l0 = some (r1, r2, r3)) :
    Calls Try.prog 49 #[.slice A0 l0.length c0] w fun e w' => ∃ v1_ v2_ : Value, e = .returned (.tuple #[.agg #[.int .i64 r1, v1_], v2_]) ∧ Kd.V (Kd.int .i64) 3 w' w.heap.size (fun k_ => (P0_ k_ ∨ w.heap.size ≤ k_) ∧ some k_ ≠ (v2_ : Value).ownBlock) v1_ r2 ∧ Kd.N k71 71 w' w.heap.size (fun k_ => P0_ k_ ∨ w.heap.size ≤ k_) v2_ r3 ∧ Below w.heap.size w w' := by
  unfold woggleref05_take.f at h
  by_cases hc : 1 ≤ l0.length ∧ l0.length ≤ 1000
  · rw [if_pos hc] at h
    have h2 := Option.some.inj h
    injection h2 with e1 e2
    injection e2 with e2 e3
    exact take_ok P0_ A0 c0 l0 r1 r2 r3 w hc.1 hc.2 hs0 e1.symm e2.symm e3.symm
  · rw [if_neg hc] at h
    cases h
end Go.Proofs.Ytepgcdjbhmpioaa.Fd
