/- The calls of fire.Burning. -/
import Derived.Test.YtbgpnkchbcgekaaDoorQFqHf2
import Derived.Outline
namespace Go.Proofs.YtbgpnkchbcgekaaDoor.Fi
open Go.RowKit Go.Proofs.YtbgpnkchbcgekaaDoorW.PrintWords Go.Proofs.YtbgpnkchbcgekaaDoorW.PrintLast Go.Proofs.YtbgpnkchbcgekaaDoorW.PrintMore Wog
set_option linter.unusedVariables false
set_option linter.unusedSimpArgs false
attribute [local go_sem] eql27 neq27
def fire_Burning.f (n : Int) (l : List S42) : Option (List Int × Int) := if GoodG n l then (burnS (nearS n.toNat l)).map fun q => (toI q, 0) else some ([], 1)
theorem findS_len {nx : List Nat} : ∀ {left b : Nat} {r : List Nat}, findS nx left b = some r → r.length = left := by
  intro left
  induction left with
  | zero =>
    intro b r h
    rw [findS] at h
    split at h
    · obtain rfl := Option.some.inj h; rfl
    · cases h
  | succ left ih =>
    intro b r h
    rw [findS] at h
    split at h
    · obtain rfl := Option.some.inj h; simp
    · split at h
      · cases h
      · obtain ⟨_, v, _, _, h1, _⟩ := List.findSome?_eq_some_iff.1 h
        obtain ⟨q, h2, rfl⟩ := Option.map_eq_some_iff.1 h1
        simp [ih h2]
theorem BI.start {w0 W : World} {g base : Nat} {nx : List Nat} {vb : Value} (h1 : IsS105 w0 W g nx.length (toI nx)) (h2 : Below w0.heap.size w0 W) (h3 : Kd.R (Kd.slice 81 (Kd.int .u16)) 94 W base (fun _ => True) vb ((ballsS nx).map toI)) (hb : g < base) : BI w0 W.heap.size g base nx (W.alloc (.cells #[.pointer (some ⟨g, 0, none⟩), vb] 92)) := by
  obtain ⟨A1, c1, h4, h5, h6⟩ := h1
  have hlt := blk_lt h4
  exact ⟨⟨A1, c1, blk_alloc h4 _, h5, h6⟩, below_alloc h2 _, ⟨vb, blk_new W _, Kd.R_alloc (Kd.R_mono (Kd.R_bound h3) (fun k hk => by have := hk.2.1; omega)) _⟩, by omega⟩
set_option maxHeartbeats 1000000 in
set_option maxRecDepth 100000 in
theorem fire_Burning.calls (n : Int) (A1 : Option Addr) (c1 : Nat) (l : List S42) (r1 : List Int) (r2 : Int) (w : World) (hr1 : Kd.C k42 w A1 l.length l) (hc1 : l.length ≤ c1) (hT : TabIn w) (h : fire_Burning.f n l = some (r1, r2)) :
    Calls Tryd.prog 24 #[.int .i64 n, .slice A1 l.length c1] w fun e w' => ∃ v0_ : Value, e = .returned (.tuple #[v0_, .int .i64 r2]) ∧ Kd.R (Kd.int .i64) 3 w' w.heap.size (fun _ => True) v0_ r1 ∧ Below w.heap.size w w' := by
  have HR1 := Aside0.mk hr1
  have HTAB := Aside0.mk hT
  clear hr1 hT
  unfold fire_Burning.f at h
  by_cases hg : GoodG n l
  · rw [if_pos hg] at h
    obtain ⟨q, hq, h⟩ := Option.map_eq_some_iff.1 h
    injection h with e1 e2
    subst e1 e2
    obtain ⟨nx, hnx⟩ : ∃ nx, nx = nearS n.toNat l := ⟨_, rfl⟩
    have hnl : nx.length = n.toNat := by rw [hnx, nearS_length]
    have hx : ∀ x ∈ nx, x < 2 ^ nx.length := by rw [hnl, hnx]; exact nearS_lt hg.2.2.2
    have hn10 : nx.length ≤ 10 := by rw [hnl]; have := hg.2.1; omega
    have hn1 : n = (nx.length : Int) := by rw [hnl]; have := hg.1; omega
    obtain ⟨kb, hkb⟩ := (balls_ev nx nx.length rfl hn10 hx).rounds
    have HKB := Aside0.mk hkb
    rw [← hnx] at hq
    have HQ := Aside0.mk hq
    have HX := Aside0.mk hx
    have HRD := Aside0.mk (read_yes n A1 c1 l w HR1.out hc1 hg)
    rw [← hnx] at HRD
    rw [hn1] at HRD ⊢
    have hbl : ((ballsS nx).map toI).length = nx.length := by simp [ballsS]
    clear hkb hq hx hg hnx hn1 hnl
    go_enter Tryd.func24, Tryd.ntmps24
    go_wp2_with (first | (go_at_call 49; refine HRD.out.mono ?_; rintro e w1 ⟨w0, g, rfl, k1, k2, k3⟩; have K1 := Aside0.mk k1; have K2 := Aside0.mk k2; have K3 := Aside0.mk k3; clear k1 k2 k3) | (go_at_call 50; refine (fire_graph_balls.calls kb g _ _ _ _ w0 _ K1.out K2.out HKB.out).mono ?_; rintro e w2 ⟨v2, rfl, j1, j2, j3, j4⟩; obtain ⟨A7, c7, hv2⟩ := Kd.R_slice (Kd.S_R j1); rw [hbl] at hv2; subst hv2; have HW := Aside0.mk (show w1.heap.size ≤ w2.heap.size + 1 from Nat.le_succ_of_le j4.1); have HBI := Aside0.mk (BI.start j2 j3 (Kd.S_R j1) K1.out.lt); clear j1 j2 j3 j4))
    go_loopg [9] nx.length (fun kq v9 wr => ∃ j K : Nat, Aside0 (K = j + 1) ∧ v9 = .int .i64 (K : Int) ∧ Aside0 (j + kq = nx.length) ∧ Aside0 (((List.range nx.length).drop j).findSome? (fun j => findS nx (j + 1) 0) = some q) ∧ Aside0 (BI w0 w2.heap.size g w1.heap.size nx wr) ∧ Aside0 (w1.heap.size ≤ wr.heap.size))
    case atStart => exact ⟨0, 1, ⟨rfl⟩, rfl, ⟨by omega⟩, ⟨by simpa [burnS] using HQ.out⟩, HBI, ⟨by simpa using HW.out⟩⟩
    case round =>
      clear HBI HW
      obtain ⟨j, K, hK, rfl, HJ, HF, HBI, HW⟩ := hrel
      cases gk with
      | zero =>
        exfalso
        have := HF.out
        rw [List.drop_eq_nil_of_le (by have := HJ.out; simp; omega)] at this
        simp at this
      | succ q1 =>
        have hjn : j < nx.length := by have := HJ.out; omega
        have hF := HF.out
        rw [drop_range hjn, List.findSome?_cons, ← hK.out] at hF
        have HF' := Aside0.mk hF
        have hKn : K ≤ nx.length := by have := hK.out; omega
        have hwK : IntKind.i64.wrap ((K : Int) + 1) = ((K + 1 : Nat) : Int) := by rw [IntWalk.i64_in _ (by omega)]; simp
        have HFIND : Aside0 (Calls Tryd.prog 51 #[.pointer (some ⟨w2.heap.size, 0, none⟩), .slice none 0 0, .int .u16 0, .int .i64 (K : Int)] wr (FindPost nx w0 w2.heap.size g w1.heap.size K 0 [] (.slice none 0 0) wr)) := ⟨by
          have h := find_any nx hn10 HX.out w0 w2.heap.size g w1.heap.size (HTAB.out.below' K3.out) K2.out.size K hKn 0 [] (.slice none 0 0) wr (Nat.two_pow_pos _) (by simp; omega) HBI.out (Kd.R_nil _ _ _ _ _) HW.out
          rw [Int.natCast_zero] at h
          exact h⟩
        clear hF HF
        have hF2 := HF'.out
        have hK0 : 1 ≤ K := by have := hK.out; omega
        cases hfs : findS nx K 0 with
        | some r =>
          rw [hfs] at hF2
          have hqr : q = r := by simpa using hF2.symm
          have hlr := findS_len hfs
          have HP : Aside0 (∀ e w', FindPost nx w0 w2.heap.size g w1.heap.size K 0 [] (.slice none 0 0) wr e w' → ∃ g9 c9, e = .returned (.slice (some ⟨g9, 0, none⟩) K c9) ∧ Kd.R (Kd.int .i64) 3 w' w1.heap.size (fun _ => True) (.slice (some ⟨g9, 0, none⟩) K c9) (toI q) ∧ BI w0 w2.heap.size g w1.heap.size nx w') := ⟨by
            rintro e w' ⟨v3, rfl, g1, g2, g3⟩
            rw [hfs] at g1
            simp only [List.nil_append] at g1
            obtain ⟨g9, c9, hv, _⟩ := Kd.R_form g1 (by rw [toI_length]; omega)
            rw [toI_length, hlr] at hv
            subst hv
            exact ⟨g9, c9, rfl, by rw [hqr]; exact g1, g2⟩⟩
          clear hF2 hqr hlr hfs
          go_wp2_with (first | (go_at_call 51; refine HFIND.out.mono ?_; intro e w3 hp; obtain ⟨g9, c9, rfl, g1, g2⟩ := HP.out e w3 hp; have G1 := Aside0.mk g1; have G2 := Aside0.mk g2; clear g1 g2 hp))
          go_ret2
          exact ⟨_, rfl, Kd.R_lower G1.out (below_size (below_then K3.out K3.out.size K2.out)), below_then K3.out K3.out.size G2.out.bel⟩
        | none =>
          rw [hfs] at hF2
          have HF3 := Aside0.mk hF2
          have HP : Aside0 (∀ e w', FindPost nx w0 w2.heap.size g w1.heap.size K 0 [] (.slice none 0 0) wr e w' → e = .returned (.slice none 0 0) ∧ BI w0 w2.heap.size g w1.heap.size nx w' ∧ wr.heap.size ≤ w'.heap.size) := ⟨by
            rintro e w' ⟨v3, rfl, g1, g2, g3⟩
            rw [hfs] at g1
            exact ⟨by rw [g1], g2, g3.1⟩⟩
          clear hF2 hfs
          go_wp2_with (first | (go_at_call 51; refine HFIND.out.mono ?_; intro e w3 hp; obtain ⟨rfl, g2, g3⟩ := HP.out e w3 hp; have G2 := Aside0.mk g2; have G3 := Aside0.mk g3; clear g2 g3 hp))
          go_roundg q1
          · exact ⟨j + 1, K + 1, ⟨by rw [hK.out]⟩, by first | rfl | rw [hwK], ⟨by have := HJ.out; omega⟩, ⟨by simpa [hK.out] using HF3.out⟩, G2, ⟨Nat.le_trans HW.out G3.out⟩⟩
          · exact Nat.lt_succ_self _
  · rw [if_neg hg] at h
    injection h with h
    injection h with e1 e2
    subst e1 e2
    have HG := Aside0.mk hg
    clear hg
    go_enter Tryd.func24, Tryd.ntmps24
    go_wp2_with (first | (go_at_call 49; refine (read_no n A1 c1 l w HR1.out hc1 HG.out).mono ?_; rintro e w1 ⟨rfl, k1⟩; have K1 := Aside0.mk k1; clear k1))
    go_ret2
    exact ⟨_, rfl, Kd.R_nil _ _ _ _ _, K1.out⟩
end Go.Proofs.YtbgpnkchbcgekaaDoor.Fi
