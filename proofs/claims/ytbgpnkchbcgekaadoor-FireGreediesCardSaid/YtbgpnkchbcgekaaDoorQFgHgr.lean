/- The calls of fire.Greedy. -/
import Derived.Test.YtbgpnkchbcgekaaDoorQFgHtr
import Derived.Test.YtbgpnkchbcgekaaDoorQFgHbu
import Derived.Outline
namespace Go.Proofs.YtbgpnkchbcgekaaDoor.Fi
open Go.RowKit Go.Proofs.YtbgpnkchbcgekaaDoorW.PrintWords Go.Proofs.YtbgpnkchbcgekaaDoorW.PrintLast Go.Proofs.YtbgpnkchbcgekaaDoorW.PrintMore Wog
set_option linter.unusedVariables false
set_option linter.unusedSimpArgs false
/-- One step of the choice: the best so far, and how many are behind it. -/
def gstep (nx : List Nat) (B : Nat) (p : Int × Nat) (v : Int) : Int × Nat := if p.2 < popc 16 (reachS nx B v.toNat) then (v, popc 16 (reachS nx B v.toNat)) else p
def gpick (nx : List Nat) (B D : Nat) : Int × Nat := (mem10 (moreS nx B D)).foldl (gstep nx B) (-1, 0)
def greedyF (nx : List Nat) : Nat → Nat → Nat → Option (Int × List Int)
  | 0, _, _ => none
  | k + 1, B, D => if (gpick nx B D).1 < 0 then some ((nx.length : Int) - ((popc 16 B : Nat) : Int), []) else
      (greedyF nx k (diff (arnd nx B) (D ||| 2 ^ (gpick nx B D).1.toNat)) (D ||| 2 ^ (gpick nx B D).1.toNat)).map fun q => (q.1, (gpick nx B D).1 :: q.2)
def fire_Greedy.f (n : Int) (l : List S42) (f : Int) : Option (Int × List Int × Int) :=
  if PlayOk n l f then (if treeS (nearS n.toNat l) = true then (greedyF (nearS n.toNat l) (n.toNat + 1) (2 ^ f.toNat) 0).map fun q => (q.1, q.2, 0) else some (0, [], 5)) else some (0, [], 1)
theorem mem10_mem {s : Nat} {v : Int} (h : v ∈ mem10 s) : ∃ i : Nat, v = (i : Int) ∧ i < 10 ∧ s.testBit i = true := by
  unfold mem10 at h
  obtain ⟨i, hi, rfl⟩ := List.mem_map.1 h
  obtain ⟨h1, h2⟩ := List.mem_filter.1 hi
  exact ⟨i, rfl, List.mem_range.1 h1, by simpa using h2⟩
theorem foldl_gstep (nx : List Nat) (B : Nat) (l : List Int) : ∀ p, (l.foldl (gstep nx B) p) = p ∨ (l.foldl (gstep nx B) p).1 ∈ l := by
  induction l with
  | nil => intro p; exact .inl rfl
  | cons v l ih =>
    intro p
    rw [List.foldl_cons]
    rcases ih (gstep nx B p v) with h | h
    · rw [h]
      unfold gstep
      split
      · exact .inr (by simp)
      · exact .inl rfl
    · exact .inr (by simp [h])
theorem gpick_mem {nx : List Nat} {B D : Nat} (h : ¬ (gpick nx B D).1 < 0) : ∃ i : Nat, (gpick nx B D).1 = (i : Int) ∧ i < 10 ∧ (moreS nx B D).testBit i = true := by
  rcases foldl_gstep nx B (mem10 (moreS nx B D)) (-1, 0) with h1 | h1
  · unfold gpick at h
    rw [h1] at h
    simp at h
  · exact mem10_mem h1
/-- The state of a greedy walk: the graph, and the steps so far. -/
structure GI (w0 : World) (g : Nat) (nx : List Nat) (v : Value) (l : List Int) (W : World) : Prop where
  st : IsS105 w0 W g nx.length (toI nx)
  bel : Below w0.heap.size w0 W
  row : Kd.R (Kd.int .i64) 3 W w0.heap.size (fun q => q ≠ g) v l
section
variable {w0 W W1 : World} {g : Nat} {nx : List Nat} {v u : Value} {l m : List Int}
theorem GI.after (h : GI w0 g nx v l W) (k1 : IsS105 w0 W1 g nx.length (toI nx)) (k2 : Below w0.heap.size w0 W1) (k3 : KeepBut W W1 g none) : GI w0 g nx v l W1 :=
  ⟨k1, k2, Kd.R_step h.row (fun q hq hl => k3.2 q hl hq (by simp))⟩
theorem GI.below (h : GI w0 g nx v l W) (k : Below W.heap.size W W1) : GI w0 g nx v l W1 :=
  ⟨h.st.below k, below_then h.bel h.bel.size k, Kd.R_below h.row k⟩
theorem GI.drewN (h : GI w0 g nx v l W) (n : Nat) : GI w0 g nx v l (W.drewN n) := h.below (pw_below_drewN (Below.refl _ _) n)
theorem GI.made (h : GI w0 g nx v l W) (k : Below W.heap.size W W1) (r : Kd.R (Kd.int .i64) 3 W1 W.heap.size (fun _ => True) u m) : GI w0 g nx u m W1 := by
  have hlt := h.st.lt
  have hs := h.bel.size
  exact ⟨h.st.below k, below_then h.bel h.bel.size k, Kd.R_lower (Kd.R_mono (Kd.R_bound r) (fun q hq => by have := hq.2.1; omega)) hs⟩
theorem GI.nil (k1 : IsS105 w0 W g nx.length (toI nx)) (k2 : Below w0.heap.size w0 W) : GI w0 g nx (.slice none 0 0) [] W := ⟨k1, k2, Kd.R_nil _ _ _ _ _⟩
theorem GI.grown (h : GI w0 g nx v l W) (hv : Kd.R (Kd.int .i64) 3 W1 w0.heap.size (fun q => q ≠ g) u m) (hg : W.grownBy W1 v.ownBlock) (hb : Below w0.heap.size w0 W1) : GI w0 g nx u m W1 := by
  obtain ⟨A1, c1, h3, h4, h5⟩ := h.st
  exact ⟨⟨A1, c1, blk_grown h3 hg (Kd.R_ne h.row h3 (by decide)), h4, h5⟩, hb, hv⟩
end
theorem list_drop_cons {l : List Int} {j : Nat} (h : j < l.length) : l.drop j = l.getD j 0 :: l.drop (j + 1) := by
  rw [List.drop_eq_getElem_cons h, List.getD_eq_getElem?_getD, List.getElem?_eq_getElem h]
  rfl
set_option maxHeartbeats 4000000 in
set_option maxRecDepth 100000 in
theorem fire_Greedy.calls (n : Int) (A : Option Addr) (c : Nat) (l : List S42) (f : Int) (r1 : Int) (r2 : List Int) (r3 : Int) (w : World) (hr : Kd.C k42 w A l.length l) (hc : l.length ≤ c) (h : fire_Greedy.f n l f = some (r1, r2, r3)) :
    Calls Tryd.prog 38 #[.int .i64 n, .slice A l.length c, .int .i64 f] w fun e w' => ∃ v0_ : Value, e = .returned (.tuple #[.int .i64 r1, v0_, .int .i64 r3]) ∧ Kd.R (Kd.int .i64) 3 w' w.heap.size (fun _ => True) v0_ r2 ∧ Below w.heap.size w w' := by
  have HR := Aside0.mk hr
  clear hr
  unfold fire_Greedy.f at h
  by_cases hg : PlayOk n l f
  · rw [if_pos hg] at h
    have HG := Aside0.mk hg
    obtain ⟨nx, hnx⟩ : ∃ nx, nx = nearS n.toNat l := ⟨_, rfl⟩
    have hnl : nx.length = n.toNat := by rw [hnx, nearS_length]
    have hx : ∀ x ∈ nx, x < 2 ^ nx.length := by rw [hnl, hnx]; exact nearS_lt hg.1.2.2.2
    have hn10 : nx.length ≤ 10 := by rw [hnl]; have := hg.1.2.1; omega
    have hn0 : 0 < nx.length := by rw [hnl]; have := hg.1.1; omega
    have hn1 : n = (nx.length : Int) := by rw [hnl]; have := hg.1.1; omega
    have HLIT := Aside0.mk (lit_yes n A c l f w HR.out hc hg.1 hg.2.1 hg.2.2)
    rw [← hnx] at HLIT h
    rw [← hnl] at h
    have hf0 : 0 ≤ f := hg.2.1
    have hfn : f < n := hg.2.2
    rw [hn1] at HLIT hfn ⊢
    have HX := Aside0.mk hx
    have HTREE := fun g w0 w k1 k2 => tree_calls nx hn10 hx hn0 g w0 w k1 k2
    have HT2 := Aside0.mk HTREE
    clear HG hg hx hnx hn1 HTREE hnl
    by_cases ht : treeS nx = true
    · rw [if_pos ht] at h
      obtain ⟨q, hq, h⟩ := Option.map_eq_some_iff.1 h
      injection h with e1 e2
      injection e2 with e2 e3
      subst e3
      have HE := Aside0.mk (And.intro e1 e2)
      have HQ := Aside0.mk hq
      have HTT := Aside0.mk ht
      have hsh : shl .u16 1 f = ((2 ^ f.toNat : Nat) : Int) := by
        have := shl16 f.toNat (by omega)
        rwa [Int.toNat_of_nonneg hf0] at this
      obtain ⟨B0, hB0⟩ : ∃ B, B = 2 ^ f.toNat := ⟨_, rfl⟩
      have hsh2 : IntKind.u16.wrap (2 ^ f.toNat) = (B0 : Int) := by
        rw [hB0, ← hsh]
        simp [shl, IntKind.bits, Nat.min_eq_left (show f.toNat ≤ 16 by omega)]
      rw [← hB0] at HQ
      have HB0 : Aside0 (B0 < 2 ^ nx.length) := ⟨by rw [hB0]; exact Nat.pow_lt_pow_right (by omega) (by omega)⟩
      clear e1 e2 hq ht hsh hB0
      go_enter Tryd.func38, Tryd.ntmps38
      go_wp2_with (first | (go_at_call 44; refine HLIT.out.mono ?_; rintro e w1 ⟨w0, g, rfl, k1, k2, k3⟩; have K1 := Aside0.mk k1; have K2 := Aside0.mk k2; have K3 := Aside0.mk k3; clear k1 k2 k3) | (go_at_call 58; refine (HT2.out g w0 _ K1.out K2.out).mono ?_; rw [HTT.out]; rintro e w2 ⟨rfl, j1, j2, j3⟩; have J1 := Aside0.mk j1; have J2 := Aside0.mk j2; clear j1 j2 j3))
      go_loopg [11, 12, 13] (nx.length + 1) (fun kq v11 v12 v13 wr => ∃ (B D : Nat) (st : List Int), v12 = .int .u16 (B : Int) ∧ v13 = .int .u16 (D : Int) ∧ Aside0 (B < 2 ^ nx.length) ∧ Aside0 (D < 2 ^ nx.length) ∧ Aside0 (∃ q', greedyF nx kq B D = some q' ∧ q'.1 = q.1 ∧ st ++ q'.2 = q.2) ∧ Aside0 (st.length + kq = nx.length + 1) ∧ Aside0 (GI w0 g nx v11 st wr))
      case atStart => exact ⟨B0, 0, [], rfl, rfl, HB0, ⟨Nat.two_pow_pos _⟩, ⟨q, HQ.out, rfl, rfl⟩, ⟨by simp⟩, ⟨GI.nil J1.out J2.out⟩⟩
      case round =>
        obtain ⟨B, D, st, rfl, rfl, HB, HD, HF, HL, HGI⟩ := hrel
        cases gk with
        | zero =>
          exfalso
          obtain ⟨q', h1, _⟩ := HF.out
          simp [greedyF] at h1
        | succ q1 =>
          obtain ⟨ka, hka⟩ := (around_ev nx (nx.length : Int) B hn10 HX.out HB.out).rounds
          have HKA : Aside0 (fire_graph_around.f ka (nx.length : Int) (toI nx) (B : Int) = some (((arnd nx B : Nat) : Int), (nx.length : Int))) := ⟨hka⟩
          have hArl := arnd_lt HX.out HB.out
          have hMl := moreS_lt HX.out HB.out D
          have hX1l : diff (arnd nx B) B < 2 ^ nx.length := diff_le _ _ _ hArl
          have hA1 := andNot16 (arnd nx B) B (lt16' hn10 hArl) (lt16' hn10 HB.out)
          have hA2 : Go.bits .andNot .u16 ((diff (arnd nx B) B : Nat) : Int) (D : Int) = ((moreS nx B D : Nat) : Int) := andNot16 _ D (lt16' hn10 hX1l) (lt16' hn10 HD.out)
          obtain ⟨X1, hX1⟩ : ∃ X1, X1 = diff (arnd nx B) B := ⟨_, rfl⟩
          obtain ⟨Ar, hAr⟩ : ∃ Ar, Ar = arnd nx B := ⟨_, rfl⟩
          obtain ⟨M, hM⟩ : ∃ M, M = moreS nx B D := ⟨_, rfl⟩
          have HAR := Aside0.mk hAr
          have HM := Aside0.mk hM
          have HARL := Aside0.mk hArl
          rw [← hX1] at hA1 hA2
          rw [← hAr] at hA1 HKA HARL
          rw [← hM] at hA2 hMl
          obtain ⟨kl, hkl⟩ := (list_ev M (lt16' hn10 hMl)).rounds
          have HKL := Aside0.mk hkl
          obtain ⟨L, hL⟩ : ∃ L, L = mem10 M := ⟨_, rfl⟩
          have hLl : L.length ≤ 10 := by
            rw [hL]
            unfold mem10
            have := List.length_filter_le (fun i => M.testBit i) (List.range 10)
            simpa using this
          have HLM := Aside0.mk hL
          rw [← hL] at HKL
          have HPICK : Aside0 (L.foldl (gstep nx B) (-1, 0) = gpick nx B D) := ⟨by rw [hL, hM]; rfl⟩
          have HMEM : Aside0 (∀ v ∈ L, ∃ i : Nat, v = (i : Int) ∧ i < nx.length ∧ B.testBit i = false) := ⟨fun v hv => by
            rw [hL, hM] at hv
            obtain ⟨i, h1, h2, h3⟩ := mem10_mem hv
            have h4 := h3
            rw [moreS_bit] at h4
            simp at h4
            exact ⟨i, h1, lt_of_bit (moreS_lt HX.out HB.out D) h3, h4.1.2⟩⟩
          clear hka hX1 hAr hM hkl hL hX1l hArl
          go_wp2_with (first | (go_at_call 59; refine (fire_graph_around.calls ka g _ _ _ _ _ w0 _ HGI.out.st HGI.out.bel HKA.out).mono ?_; rintro e w5 ⟨rfl, j1, j2, j3⟩; have G1 := Aside0.mk (HGI.out.after j1 j2 j3); clear j1 j2 j3) | (go_at_call 53; refine (fire_set_list.calls kl _ _ _ HKL.out).mono ?_; rintro e w6 ⟨vl, rfl, j1, j2⟩; obtain ⟨A9, c9, rfl⟩ := Kd.R_slice j1; have G2 := Aside0.mk (G1.out.made j2 j1); have G3 := Aside0.mk (G1.out.below j2); clear j1 j2))
          go_loopg [14, 15, 44] L.length (fun kq v14 v15 v44 wr2 => ∃ (bi : Int) (mo j : Nat), v14 = .int .i64 bi ∧ v15 = .int .i64 (mo : Int) ∧ v44 = .int .i64 (j : Int) ∧ Aside0 (j + kq = L.length) ∧ Aside0 ((L.drop j).foldl (gstep nx B) (bi, mo) = gpick nx B D) ∧ Aside0 (GI w0 g nx u11 st wr2) ∧ Aside0 (GI w0 g nx (.slice A9 L.length c9) L wr2))
          case atStart => exact ⟨-1, 0, 0, rfl, rfl, rfl, ⟨by simp⟩, HPICK, G3, G2⟩
          case round =>
            obtain ⟨bi, mo, j, rfl, rfl, rfl, HJ, HP, G4, G5⟩ := hrel
            cases gk with
            | zero =>
              obtain rfl : j = L.length := by have := HJ.out; omega
              have hd9 : decide ((L.length : Int) < (L.length : Int)) = false := by simp
              have HP2 : Aside0 (gpick nx B D = (bi, mo)) := ⟨by have := HP.out; rw [List.drop_length] at this; exact this.symm⟩
              by_cases hbi : bi < 0
              · have hdb : decide (bi < 0) = true := by simp; omega
                obtain ⟨A7, c7, e7⟩ := Kd.R_slice G4.out.row
                subst e7
                obtain ⟨pb, hpb⟩ : ∃ pb, pb = popc 16 B := ⟨_, rfl⟩
                have HSZ := Aside0.mk (size_is B (lt16' hn10 HB.out))
                rw [← hpb] at HSZ
                have hpl : pb ≤ 16 := by rw [hpb]; exact popc_le16 B
                have HEND : Aside0 (r1 = (nx.length : Int) - (pb : Int) ∧ r2 = st) := ⟨by
                  obtain ⟨q', h1, h2, h3⟩ := HF.out
                  rw [greedyF, HP2.out, if_pos hbi, ← hpb] at h1
                  obtain rfl := Option.some.inj h1
                  rw [← HE.out.1, ← HE.out.2, ← h2, ← h3]
                  simp⟩
                have hw : IntKind.i64.wrap ((nx.length : Int) - (pb : Int)) = (nx.length : Int) - (pb : Int) := IntWalk.i64_in _ (by omega)
                have hcg : wr.cell? ⟨g, 0, none⟩ = some (.int .i64 (nx.length : Int)) := inv_cell G4.out.st
                clear hpb hbi
                go_wp2
                go_quiet (first | (go_at_call 56; exact quiet_of_drawn (fire_set_size.calls _ _ _ HSZ.out)))
                go_wp2
                refine bodyPost_ret (v := .tuple #[.int .i64 r1, .slice A7 st.length c7, .int .i64 0]) (by simp [results, Tryd.results38, go_sem, HEND.out.1]) rfl ⟨_, rfl, ?_, below_then K3.out K3.out.size (G4.out.drewN _).bel⟩
                rw [HEND.out.2]
                exact Kd.R_mono (Kd.R_lower (G4.out.drewN _).row K3.out.size) (fun _ _ => trivial)
              · have hdb : decide (bi < 0) = false := by simp; omega
                obtain ⟨i, hi1, _, hi3⟩ := gpick_mem (nx := nx) (B := B) (D := D) (by rw [HP2.out]; exact hbi)
                have hi4 := lt_of_bit (moreS_lt HX.out HB.out D) hi3
                rw [HP2.out] at hi1
                have hi1' : bi = (i : Int) := hi1
                subst hi1'
                have hsh : shl .u16 1 (i : Int) = ((2 ^ i : Nat) : Int) := shl16 i (by omega)
                have hEl : 2 ^ i < 2 ^ nx.length := Nat.pow_lt_pow_right (by omega) hi4
                obtain ⟨E, hE⟩ : ∃ E, E = 2 ^ i := ⟨_, rfl⟩
                have hsh2 : IntKind.u16.wrap (2 ^ i) = (E : Int) := by
                  rw [hE, ← hsh]
                  simp [shl, IntKind.bits, Nat.min_eq_left (show i ≤ 16 by omega)]
                rw [← hE] at hEl
                have hD2 : D ||| E < 2 ^ nx.length := Nat.or_lt_two_pow HD.out hEl
                have hor := or16 D E (lt16' hn10 HD.out) (lt16' hn10 hEl)
                have hB2 : diff Ar (D ||| E) < 2 ^ nx.length := diff_le _ _ _ HARL.out
                have han := andNot16 Ar (D ||| E) (lt16' hn10 HARL.out) (lt16' hn10 hD2)
                have HF2 : Aside0 (∃ q', greedyF nx q1 (diff Ar (D ||| E)) (D ||| E) = some q' ∧ q'.1 = q.1 ∧ (st ++ [(i : Int)]) ++ q'.2 = q.2) := ⟨by
                  obtain ⟨q', h1, h2, h3⟩ := HF.out
                  rw [greedyF, HP2.out, if_neg hbi, ← HAR.out] at h1
                  obtain ⟨q'', h4, h5⟩ := Option.map_eq_some_iff.1 h1
                  rw [Int.toNat_natCast, ← hE] at h4
                  subst h5
                  exact ⟨q'', h4, h2, by rw [← h3]; simp⟩⟩
                obtain ⟨D2, hDD⟩ : ∃ D2, D2 = D ||| E := ⟨_, rfl⟩
                obtain ⟨B2, hBB⟩ : ∃ B2, B2 = diff Ar (D ||| E) := ⟨_, rfl⟩
                rw [← hBB, ← hDD] at HF2
                rw [← hBB] at han hB2
                rw [← hDD] at han hor hD2
                have HB2 := Aside0.mk hB2
                have HD2 := Aside0.mk hD2
                have hsl : st.length ≤ 20 := by have := HL.out; omega
                clear hi1 hi3 hsh hEl hE hDD hBB hB2 hD2 hbi
                go_wp2_with (first | ((with_reducible refine gate_builtin (b := .append) (xs := #[.tmp 69, .tmp 71]) rfl ?_); at_builtin; refine Kd.R_append (Kd.int .i64) (w0 := w0) w0.heap.size rfl (.tmp 69) (.tmp 71) 27 3 (.int .i64 0) 8 rfl Tryd.underlying27 info3 rfl (by decide) (by omega) u11 st (i : Int) [.int .i64 (i : Int)] (fun q => q ≠ g) (fun _ => False) rfl rfl ?aP (fun _ hk => hk.elim) ?aF G4.out.row G4.out.bel G4.out.bel.size (by omega) ?_; (case aP => exact rfl); (case aF => exact (fun k hk => by have := G4.out.st.lt; omega)); intro v7 w7 ho hb hg hat; have G6 := Aside0.mk (G4.out.grown ho hg hb); clear ho hb hg hat) | (go_at_call 59; refine (fire_graph_around.calls ka g _ _ _ _ _ w0 _ G6.out.st G6.out.bel HKA.out).mono ?_; rintro e w8 ⟨rfl, j1, j2, j3⟩; have G8 := Aside0.mk (G6.out.after j1 j2 j3); clear j1 j2 j3))
                go_roundg q1
                · exact ⟨B2, D2, st ++ [(i : Int)], by first | rfl | simp, by first | rfl | simp, HB2, HD2, HF2, ⟨by have := HL.out; simp; omega⟩, G8⟩
                · exact Nat.lt_succ_self _
            | succ q2 =>
              have hj : j < L.length := by have := HJ.out; omega
              have hd9 : decide ((j : Int) < (L.length : Int)) = true := by simp; omega
              have hd8 : decide ((0 : Int) ≤ (j : Int)) = true := by simp
              obtain ⟨g9, cap9, eq9, _, _, _⟩ := Kd.R_form G5.out.row (by omega)
              injection eq9 with ea _ ec
              subst ea ec
              obtain ⟨x, hx⟩ : ∃ x, x = L.getD j 0 := ⟨_, rfl⟩
              have hcell : wr.cell? ⟨g9, j, none⟩ = some (.int .i64 x) := by
                have := (Kd.R_cell 0 G5.out.row (j : Int) (by omega) (by omega)).1
                rw [show rdOf 0 L (j : Int) = x by rw [hx]; unfold rdOf; rw [Int.toNat_natCast]] at this
                simpa using this
              have HP3 := HP.out
              rw [list_drop_cons hj, List.foldl_cons, ← hx] at HP3
              obtain ⟨v, hv1, hv2, hv3⟩ := HMEM.out x (by rw [hx, List.getD_eq_getElem?_getD, List.getElem?_eq_getElem hj]; exact List.getElem_mem hj)
              subst hv1
              obtain ⟨kr, hkr⟩ := (reach_ev nx (nx.length : Int) hn10 HX.out v B hv2 HB.out hv3).rounds
              have HKR := Aside0.mk hkr
              have hRl := (reach_is HX.out hv2 hv3).2
              obtain ⟨R, hR⟩ : ∃ R, R = reachS nx B v := ⟨_, rfl⟩
              rw [← hR] at HKR hRl
              have HSZ := Aside0.mk (size_is R (lt16' hn10 hRl))
              obtain ⟨s, hs⟩ : ∃ s, s = popc 16 R := ⟨_, rfl⟩
              rw [← hs] at HSZ
              have hgs : gstep nx B (bi, mo) (v : Int) = if mo < s then ((v : Int), s) else (bi, mo) := by
                unfold gstep
                rw [Int.toNat_natCast, ← hR, ← hs]
              rw [hgs] at HP3
              have hwj : IntKind.i64.wrap ((j : Int) + 1) = ((j + 1 : Nat) : Int) := by rw [IntWalk.i64_in _ (by omega)]; simp
              clear hx hkr hR hs hgs hRl
              by_cases hq : mo < s
              · have hdq : decide (mo < s) = true := by simpa using hq
                rw [if_pos hq] at HP3
                have HP4 := Aside0.mk HP3
                clear HP3 hq
                go_wp2_with (first | (go_at_call 55; refine (fire_graph_reach.calls kr g _ _ _ _ _ _ w0 _ G4.out.st G4.out.bel HKR.out).mono ?_; rintro e w7 ⟨rfl, j1, j2, j3⟩; have G6 := Aside0.mk (G4.out.after j1 j2 j3); have G7 := Aside0.mk (G5.out.after j1 j2 j3); clear j1 j2 j3) | (go_at_call 56; refine (fire_set_size.calls _ _ _ HSZ.out).mono ?_; rintro e w8 ⟨rfl, ⟨nd8, rfl⟩⟩))
                go_roundg q2
                · exact ⟨(v : Int), s, j + 1, rfl, rfl, by first | rfl | rw [hwj], ⟨by have := HJ.out; omega⟩, HP4, ⟨G6.out.drewN nd8⟩, ⟨G7.out.drewN nd8⟩⟩
                · exact Nat.lt_succ_self _
              · have hdq : decide (mo < s) = false := by simpa using hq
                rw [if_neg hq] at HP3
                have HP4 := Aside0.mk HP3
                clear HP3 hq
                go_wp2_with (first | (go_at_call 55; refine (fire_graph_reach.calls kr g _ _ _ _ _ _ w0 _ G4.out.st G4.out.bel HKR.out).mono ?_; rintro e w7 ⟨rfl, j1, j2, j3⟩; have G6 := Aside0.mk (G4.out.after j1 j2 j3); have G7 := Aside0.mk (G5.out.after j1 j2 j3); clear j1 j2 j3) | (go_at_call 56; refine (fire_set_size.calls _ _ _ HSZ.out).mono ?_; rintro e w8 ⟨rfl, ⟨nd8, rfl⟩⟩))
                go_roundg q2
                · exact ⟨bi, mo, j + 1, rfl, rfl, by first | rfl | rw [hwj], ⟨by have := HJ.out; omega⟩, HP4, ⟨G6.out.drewN nd8⟩, ⟨G7.out.drewN nd8⟩⟩
                · exact Nat.lt_succ_self _
    · rw [if_neg ht] at h
      injection h with h
      injection h with e1 h
      injection h with e2 e3
      subst e1 e2 e3
      have HTT : Aside0 (treeS nx = false) := ⟨by simpa using ht⟩
      clear ht
      go_enter Tryd.func38, Tryd.ntmps38
      go_wp2_with (first | (go_at_call 44; refine HLIT.out.mono ?_; rintro e w1 ⟨w0, g, rfl, k1, k2, k3⟩; have K1 := Aside0.mk k1; have K2 := Aside0.mk k2; have K3 := Aside0.mk k3; clear k1 k2 k3) | (go_at_call 58; refine (HT2.out g w0 _ K1.out K2.out).mono ?_; rw [HTT.out]; rintro e w2 ⟨rfl, j1, j2, j3⟩; have J1 := Aside0.mk j1; have J2 := Aside0.mk j2; clear j1 j2 j3))
      refine bodyPost_ret (v := .tuple #[.int .i64 0, .slice none 0 0, .int .i64 5]) (by simp [results, Tryd.results38, go_sem]) rfl ⟨_, rfl, Kd.R_nil _ _ _ _ _, below_then K3.out K3.out.size J2.out⟩
  · rw [if_neg hg] at h
    injection h with h
    injection h with e1 h
    injection h with e2 e3
    subst e1 e2 e3
    have HG : Aside0 (¬ (GoodG n l ∧ 0 ≤ f ∧ f < n)) := ⟨hg⟩
    clear hg
    go_enter Tryd.func38, Tryd.ntmps38
    go_wp2_with (first | (go_at_call 44; refine (lit_no n A c l f w HR.out hc HG.out).mono ?_; rintro e w1 ⟨p1, rfl, k1⟩; have K1 := Aside0.mk k1; clear k1))
    refine bodyPost_ret (v := .tuple #[.int .i64 0, .slice none 0 0, .int .i64 1]) (by simp [results, Tryd.results38, go_sem]) rfl ⟨_, rfl, Kd.R_nil _ _ _ _ _, K1.out⟩
end Go.Proofs.YtbgpnkchbcgekaaDoor.Fi
