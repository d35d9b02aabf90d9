/- The calls of graph.tree. -/
import Derived.Test.YtbgpnkchbcgekaaDoorQFgHd
import Derived.Deep.RegionHeld3
import Derived.Outline
namespace Go.Proofs.YtbgpnkchbcgekaaDoor.Fi
open Go.RowKit Go.Proofs.YtbgpnkchbcgekaaDoorW.PrintWords Go.Proofs.YtbgpnkchbcgekaaDoorW.PrintLast Go.Proofs.YtbgpnkchbcgekaaDoorW.PrintMore Wog
set_option linter.unusedVariables false
set_option linter.unusedSimpArgs false
/-- The sizes of the first rows, summed. -/
def endsS (nx : List Nat) (k : Nat) : Nat := ((nx.take k).map (popc 16)).sum
theorem endsS_succ (nx : List Nat) (k : Nat) (h : k < nx.length) : endsS nx (k + 1) = endsS nx k + popc 16 (nx.getD k 0) := by
  unfold endsS
  rw [List.take_add_one, List.getElem?_eq_getElem h, List.map_append, List.sum_append]
  simp only [List.getD_eq_getElem?_getD, List.getElem?_eq_getElem h]
  simp
theorem popc_le16 (x : Nat) : popc 16 x ≤ 16 := Nat.le_trans List.countP_le_length (by simp)
theorem endsS_le (nx : List Nat) (k : Nat) : endsS nx k ≤ 16 * k := by
  unfold endsS
  have : ∀ l : List Nat, (l.map (popc 16)).sum ≤ 16 * l.length := by
    intro l
    induction l with
    | nil => simp
    | cons x l ih => have := popc_le16 x; simp; omega
  have h1 := this (nx.take k)
  have h2 : (nx.take k).length ≤ k := List.length_take_le _ _
  omega
def treeS (nx : List Nat) : Bool := decide (endsS nx nx.length = 2 * (nx.length - 1)) && decide (popc 16 (reachS nx 0 0) = nx.length)
theorem cell_u16 {w0 w : World} {nx : List Nat} {A1 : Option Addr} (h : Kd.C (Kd.int .u16) w0 A1 (toI nx).length (toI nx)) (hB : Below w0.heap.size w0 w) (h0 : 0 < nx.length) : ∃ ad, A1 = some ad ∧ ∀ k, k < nx.length → w.cell? (ad.add k) = some (.int .u16 ((nx.getD k 0 : Nat) : Int)) := by
  have hC := Kd.C_below h hB
  have hl : (toI nx).length = nx.length := toI_length nx
  obtain ⟨ad, c, h1, h2, h3, h4⟩ := Kd.C_get hC 0 ((0 : Nat) : Int) (by simp) (by rw [hl]; simpa using h0)
  refine ⟨ad, h1, fun k hk => ?_⟩
  obtain ⟨ad', c', g1, g2, g3, g4⟩ := Kd.C_get hC 0 (k : Int) (by omega) (by rw [hl]; omega)
  rw [h1] at g1
  injection g1 with g1
  subst g1
  have h5 : c' = [Value.int .u16 ((toI nx).getD (k : Int).toNat 0)] := g3
  have h6 := g4 0 _ (by rw [h5]; rfl)
  have e : (k : Int).toNat * (Kd.int .u16).sz + 0 = k := by show (k : Int).toNat * 1 + 0 = k; simp
  rw [e, Int.toNat_natCast] at h6
  rw [h6]
  congr 2
  unfold toI
  rw [List.getD_eq_getElem?_getD, List.getD_eq_getElem?_getD, List.getElem?_map]
  cases nx[k]? <;> rfl
theorem rows16 {nx : List Nat} (hn : nx.length ≤ 10) (hx : ∀ x ∈ nx, x < 2 ^ nx.length) (k : Nat) : nx.getD k 0 < 65536 := by
  rw [List.getD_eq_getElem?_getD]
  rcases Nat.lt_or_ge k nx.length with hv | hv
  · rw [List.getElem?_eq_getElem hv]; exact lt16' hn (hx _ (List.getElem_mem hv))
  · rw [List.getElem?_eq_none hv]; simp
theorem inv_cell {w0 W : World} {g : Nat} {n : Int} {l : List Int} (h : IsS105 w0 W g n l) : W.cell? ⟨g, 0, none⟩ = some (.int .i64 n) := by
  obtain ⟨A1, c1, hb, _⟩ := h
  exact blk_cell hb 0
set_option maxHeartbeats 2000000 in
set_option maxRecDepth 100000 in
theorem tree_calls (nx : List Nat) (hn : nx.length ≤ 10) (hx : ∀ x ∈ nx, x < 2 ^ nx.length) (h0 : 0 < nx.length) (g : Nat) (w0 w : World) (hI : IsS105 w0 w g nx.length (toI nx)) (hB : Below w0.heap.size w0 w) :
    Calls Tryd.prog 58 #[.pointer (some ⟨g, 0, none⟩)] w fun e w' => e = .returned (.bool (treeS nx)) ∧ IsS105 w0 w' g nx.length (toI nx) ∧ Below w0.heap.size w0 w' ∧ KeepBut w w' g none := by
  have HX := Aside0.mk hx
  obtain ⟨A1, c1, hb, hg, hC⟩ := hI
  have hlen : (toI nx).length = nx.length := toI_length nx
  rw [hlen] at hb
  obtain ⟨ad, rfl, hcell⟩ := cell_u16 hC hB h0
  have HCELL := Aside0.mk hcell
  have HB := Aside0.mk hB
  have HG := Aside0.mk hg
  have HC := Aside0.mk hC
  have hc1 : w.cell? ⟨g, 1, none⟩ = some (.slice (some ad) nx.length c1) := blk_cell hb 1
  have HBLK := Aside0.mk hb
  clear hx hcell hB hg hC hb
  go_enter Tryd.func58, Tryd.ntmps58
  go_wp2
  go_loopg [3, 11] nx.length (fun kq v3 v11 wr => ∃ j nd : Nat, v3 = .int .i64 ((endsS nx j : Nat) : Int) ∧ v11 = .int .i64 (j : Int) ∧ Aside0 (j + kq = nx.length) ∧ wr = w.drewN nd)
  case atStart => exact ⟨0, 0, rfl, rfl, ⟨by omega⟩, by first | rfl | simp⟩
  case round =>
    obtain ⟨j, nd, rfl, rfl, HJ, rfl⟩ := hrel
    have hc1' : (w.drewN nd).cell? ⟨g, 1, none⟩ = some (.slice (some ad) nx.length c1) := by simpa using hc1
    cases gk with
    | succ q1 =>
      have hj : j < nx.length := by have := HJ.out; omega
      have hdec : decide ((j : Int) < (nx.length : Int)) = true := by simp; omega
      have hd0 : decide ((0 : Int) ≤ (j : Int)) = true := by simp
      obtain ⟨x, hxe⟩ : ∃ x, x = nx.getD j 0 := ⟨_, rfl⟩
      have hx16 : x < 65536 := by rw [hxe]; exact rows16 hn HX.out j
      have hcell := HCELL.out j hj
      rw [← hxe] at hcell
      have HSZ := Aside0.mk (size_is x hx16)
      obtain ⟨p, hp⟩ : ∃ p, p = popc 16 x := ⟨_, rfl⟩
      rw [← hp] at HSZ
      obtain ⟨e0, he0⟩ : ∃ e0, e0 = endsS nx j := ⟨_, rfl⟩
      have hpl : p ≤ 16 := by rw [hp]; exact popc_le16 x
      have hel : e0 ≤ 160 := by have := endsS_le nx j; omega
      have HS := Aside0.mk (endsS_succ nx j hj)
      rw [← hxe, ← hp, ← he0] at HS
      rw [← he0] at *
      have hw1 : IntKind.i64.wrap ((e0 : Int) + (p : Int)) = ((e0 + p : Nat) : Int) := by rw [IntWalk.i64_in _ (by omega)]; simp
      have hwj : IntKind.i64.wrap ((j : Int) + 1) = ((j + 1 : Nat) : Int) := by rw [IntWalk.i64_in _ (by omega)]; simp
      clear hxe hp he0
      go_wp2_with (first | (go_at_call 56; refine (fire_set_size.calls _ _ _ HSZ.out).mono ?_; rintro e w3 ⟨rfl, ⟨nd3, rfl⟩⟩))
      go_roundg q1
      · exact ⟨j + 1, nd + nd3, by rw [HS.out, Int.natCast_add], by first | rfl | rw [hwj], ⟨by have := HJ.out; omega⟩, rfl⟩
      · exact Nat.lt_succ_self _
    | zero =>
      obtain rfl : j = nx.length := by have := HJ.out; omega
      have hdec : decide ((nx.length : Int) < (nx.length : Int)) = false := by simp
      go_wp2
      obtain ⟨N, hN⟩ : ∃ N, N = nx.length := ⟨_, rfl⟩
      obtain ⟨E, hE⟩ : ∃ E, E = endsS nx N := ⟨_, rfl⟩
      obtain ⟨m, hm⟩ : ∃ m, m = N - 1 := ⟨_, rfl⟩
      have hm1 : N = m + 1 := by omega
      have hcg : w.cell? ⟨g, 0, none⟩ = some (.int .i64 (N : Int)) := by rw [hN]; exact blk_cell HBLK.out 0
      have hw1 : IntKind.i64.wrap ((N : Int) - 1) = (m : Int) := by rw [IntWalk.i64_in _ (by omega)]; omega
      have hw2 : IntKind.i64.wrap (2 * (m : Int)) = 2 * (m : Int) := by rw [IntWalk.i64_in _ (by omega)]
      have HT := Aside0.mk (show treeS nx = (decide (E = 2 * m) && decide (popc 16 (reachS nx 0 0) = N)) by rw [hE, hm, hN]; rfl)
      rw [← hN, ← hE]
      by_cases hq : E = 2 * m
      · have he : ((E : Int) == 2 * (m : Int)) = true := by simp; omega
        have HQ := Aside0.mk hq
        have hR := reach_ev nx (nx.length : Int) hn HX.out 0 0 h0 (Nat.two_pow_pos _) (by simp)
        obtain ⟨kr, hkr⟩ := hR.rounds
        have HKR : Aside0 (fire_graph_reach.f kr (N : Int) (toI nx) 0 0 = some (((reachS nx 0 0 : Nat) : Int), (N : Int))) := ⟨by rw [hN]; simpa using hkr⟩
        have HR2 := Aside0.mk (reach_is HX.out h0 (D := 0) (by simp)).2
        obtain ⟨R, hRR⟩ : ∃ R, R = reachS nx 0 0 := ⟨_, rfl⟩
        rw [← hRR] at HKR HR2 HT
        have HSZ := Aside0.mk (size_is R (lt16' hn HR2.out))
        obtain ⟨p, hp⟩ : ∃ p, p = popc 16 R := ⟨_, rfl⟩
        rw [← hp] at HSZ HT
        have HI1 : Aside0 (IsS105 w0 (w.drewN nd) g N (toI nx)) := ⟨by rw [hN]; exact IsS105.drewN ⟨some ad, c1, by rw [hlen]; exact HBLK.out, HG.out, HC.out⟩ nd⟩
        have HB1 : Aside0 (Below w0.heap.size w0 (w.drewN nd)) := ⟨pw_below_drewN HB.out nd⟩
        have HK1 : Aside0 (KeepBut w (w.drewN nd) g none) := ⟨keep_drewN (KeepBut.refl w g none) nd⟩
        obtain ⟨W, hW⟩ : ∃ W, W = w.drewN nd := ⟨_, rfl⟩
        rw [← hW] at HI1 HB1 HK1 ⊢
        have hcgW : W.cell? ⟨g, 0, none⟩ = some (.int .i64 (N : Int)) := by rw [hW]; simpa using hcg
        have HN := Aside0.mk hN
        clear hq hm hm1 hE hN hkr hR hRR hp hcg hW hc1 hc1' HBLK HCELL
        go_region_held3 (fun W' => W'.cell? ⟨g, 0, none⟩ = some (.int .i64 (N : Int)) ∧ Aside0 (IsS105 w0 W' g N (toI nx)) ∧ Aside0 (Below w0.heap.size w0 W') ∧ Aside0 (KeepBut w W' g none))
          (first
            | (go_split_ands; exact ⟨by simpa using hcgW, ⟨IsS105.drew HI1.out⟩, ⟨below_drew HB1.out⟩, ⟨keep_drew HK1.out⟩⟩)
            | (have M1 := Aside0.mk i1; have M2 := Aside0.mk i2; have M3 := Aside0.mk i3; exact ⟨inv_cell M1.out, M1, M2, ⟨KeepBut.trans (‹Aside0 (KeepBut w _ g none)›).out M3.out (.inl rfl)⟩⟩)
            | (go_split_ands; exact ⟨inv_cell (IsS105.drewN (Aside0.out (by assumption)) nd3), ⟨IsS105.drewN (Aside0.out (by assumption)) nd3⟩, ⟨pw_below_drewN (Aside0.out (by assumption)) nd3⟩, ⟨keep_drewN (Aside0.out (by assumption)) nd3⟩⟩))
          (first
            | (go_at_call 55; go_split_ands; refine (fire_graph_reach.calls kr g _ _ _ _ _ _ w0 _ (‹Aside0 (IsS105 w0 _ g _ _)›).out (‹Aside0 (Below w0.heap.size w0 _)›).out HKR.out).mono ?_; rintro e w3 ⟨rfl, i1, i2, i3⟩)
            | (go_at_call 56; refine (fire_set_size.calls _ _ _ HSZ.out).mono ?_; rintro e w3 ⟨rfl, ⟨nd3, rfl⟩⟩))
        all_goals
          go_split_ands
          go_wp2
          go_ret
          have hT := HT.out
          rw [decide_eq_true HQ.out, Bool.true_and] at hT
          have hp : ((p : Int) == (N : Int)) = decide (p = N) := by rw [Bool.eq_iff_iff]; simp; omega
          exact ⟨by rw [hT, ← hp]; rfl, by rw [← HN.out]; exact Aside0.out (by assumption), Aside0.out (by assumption), Aside0.out (by assumption)⟩
      · have he : ((E : Int) == 2 * (m : Int)) = false := by simp; omega
        have HQ := Aside0.mk hq
        clear hq hm hm1 hE hN
        go_quiet (fail)
        go_wp2
        go_ret
        have hT := HT.out
        rw [decide_eq_false HQ.out, Bool.false_and] at hT
        have hI := IsS105.drewN (IsS105.drewN (m := nd) ⟨some ad, c1, by rw [hlen]; exact HBLK.out, HG.out, HC.out⟩) nq
        exact ⟨by rw [hT]; rfl, hI, pw_below_drewN (pw_below_drewN HB.out nd) nq, keep_drewN (keep_drewN (KeepBut.refl w g none) nd) nq⟩
end Go.Proofs.YtbgpnkchbcgekaaDoor.Fi
