/- The calls of fire.Best. -/
import Derived.Test.YtbgpnkchbcgekaaDoorQFqHc
import Derived.Test.YtbgpnkchbcgekaaDoorQFqS6
namespace Go.Proofs.YtbgpnkchbcgekaaDoor.Fi
open Go.RowKit Go.Proofs.YtbgpnkchbcgekaaDoorW.PrintWords Go.Proofs.YtbgpnkchbcgekaaDoorW.PrintLast Go.Proofs.YtbgpnkchbcgekaaDoorW.PrintMore Wog
set_option linter.unusedVariables false
set_option linter.unusedSimpArgs false
instance (n : Nat) (e : S42) : Decidable (okE n e) := by unfold okE; infer_instance
instance (n : Int) (l : List S42) : Decidable (GoodG n l) := by unfold GoodG; infer_instance
/-- The best plan against a fire at f. -/
def bestR (n : Int) (l : List S42) (f : Int) : Int × List Int := (bestF (nearS n.toNat l) 30 (2 ^ f.toNat) 0).getD (0, [])
theorem bestR_is {n : Int} {l : List S42} {f : Int} (h : GoodG n l) (h0 : 0 ≤ f) (hf : f < n) : bestF (nearS n.toNat l) 30 (2 ^ f.toNat) 0 = some (bestR n l f) := by
  obtain ⟨h1, h2, h3, h4⟩ := h
  have hl := nearS_length n.toNat l
  have hx := nearS_lt h4
  rw [← hl] at hx
  obtain ⟨r, hr⟩ := bestF_some (nx := nearS n.toNat l) (by simpa [hl] using hx) n.toNat (2 ^ f.toNat) 0 (by rw [hl]; exact Nat.pow_lt_pow_right (by omega) (by omega)) (Nat.two_pow_pos _) (fun i _ => by simp) (by rw [hl]; exact zer_le _ _)
  have hr' := bestF_le (k' := 30) _ (by rw [hl]; omega) hr
  unfold bestR
  rw [hr']
  rfl
def fire_Best.f (n : Int) (l : List S42) (f : Int) : Option (Int × List Int × Int) := if GoodG n l ∧ 0 ≤ f ∧ f < n then some ((bestR n l f).1, (bestR n l f).2, 0) else some (0, [], 1)
theorem makeMap84 (W : World) : (Instr.makeMap 84 none).run Tryd.prog W = .ok (.map (some W.heap.size)) (W.alloc (.map #[] 0)) := by
  simp [Instr.makeMap, run_underlying Tryd.underlying84]
theorem BS.start {nx : List Nat} {g base : Nat} {w0 W : World} (h1 : IsS105 w0 W g nx.length (toI nx)) (h2 : Below w0.heap.size w0 W) (h3 : base ≤ w0.heap.size) : BS w0 g W.heap.size base nx (W.alloc (.map #[] 0)) := by
  obtain ⟨A1, c1, hb, hg, hr1⟩ := h1
  have hlt := blk_lt hb
  exact ⟨⟨A1, c1, blk_alloc hb _, hg, hr1⟩, below_alloc h2 _, ⟨#[], 0, blk_new W _, by simp⟩, by omega, by omega⟩
set_option maxHeartbeats 2000000 in
set_option maxRecDepth 100000 in
theorem fire_Best.calls (n : Int) (A : Option Addr) (c : Nat) (l : List S42) (f : Int) (r1 : Int) (r2 : List Int) (r3 : Int) (w : World) (hr : Kd.C k42 w A l.length l) (hc : l.length ≤ c) (h : fire_Best.f n l f = some (r1, r2, r3)) :
    Calls Tryd.prog 17 #[.int .i64 n, .slice A l.length c, .int .i64 f] w fun e w' => ∃ v0_ : Value, e = .returned (.tuple #[.int .i64 r1, v0_, .int .i64 r3]) ∧ Kd.R (Kd.int .i64) 3 w' w.heap.size (fun _ => True) v0_ r2 ∧ Below w.heap.size w w' := by
  have HR := Aside0.mk hr
  clear hr
  unfold fire_Best.f at h
  by_cases hg : GoodG n l ∧ 0 ≤ f ∧ f < n
  · rw [if_pos hg] at h
    injection h with h
    injection h with e1 h
    injection h with e2 e3
    subst e1 e2 e3
    obtain ⟨hG, h0, hf⟩ := hg
    have HBF := Aside0.mk (bestR_is hG h0 hf)
    have HG : Hid (GoodG n l) := hG
    have hn10 : n ≤ 10 := hG.2.1
    have hsh : shl .u16 1 f = ((2 ^ f.toNat : Nat) : Int) := by
      have := shl16 f.toNat (by omega)
      rwa [Int.toNat_of_nonneg h0] at this
    have HSH := Aside0.mk hsh
    obtain ⟨s1, l1, hs1⟩ : ∃ s1 l1, bestR n l f = (s1, l1) := ⟨_, _, rfl⟩
    have HLT : Aside0 (2 ^ f.toNat < 2 ^ n.toNat) := ⟨Nat.pow_lt_pow_right (by omega) (by omega)⟩
    obtain ⟨B, hB⟩ : ∃ B, B = 2 ^ f.toNat := ⟨_, rfl⟩
    have hsh2 : IntKind.u16.wrap (2 ^ f.toNat) = (B : Int) := by
      rw [hB, ← hsh]
      simp [shl, IntKind.bits, Nat.min_eq_left (show f.toNat ≤ 16 by omega)]
    rw [← hB] at hsh HBF HLT
    rw [hs1] at HBF ⊢
    have HX := Aside0.mk hG.2.2.2
    have hnn : ((n.toNat : Nat) : Int) = n := Int.toNat_of_nonneg (by have := hG.1; omega)
    have HNN := Aside0.mk hnn
    clear hG hs1 hB HSH hnn
    go_enter Tryd.func17, Tryd.ntmps17
    go_wp2_with (first | (go_at_call 44; refine (lit_yes n A c l f w HR.out hc HG h0 hf).mono ?_; rintro e w1 ⟨w0, g, rfl, k1, k2, k3⟩; have K1 := Aside0.mk k1; have K2 := Aside0.mk k2; have K3 := Aside0.mk k3; clear k1 k2 k3; have hmk := makeMap84 w1; have KS := Aside0.mk (BS.start (base := w.heap.size) (by rw [nearS_length, HNN.out]; exact K1.out) K2.out K3.out.size)) | (go_at_call 45; refine (best_any (nearS n.toNat l) (by rw [nearS_length]; omega) (by rw [nearS_length]; exact nearS_lt HX.out) g w1.heap.size w.heap.size w0 K2.out.size 30 (by omega) B 0 s1 l1 _ (by rw [nearS_length]; exact HLT.out) (Nat.two_pow_pos _) HBF.out KS.out).mono ?_; rintro e w2 ⟨v1, rfl, m1, m2, m3⟩; obtain ⟨A2, c2, rfl, hlc, hC⟩ := Kd.R_reads m1; have M1 := Aside0.mk m1; have M2 := Aside0.mk m2; clear m1 m2 m3 hC))
    go_quiet (fail)
    go_wp2
    refine bodyPost_ret (v := .tuple #[.int .i64 s1, .slice A2 l1.length c2, .int .i64 0]) (by simp [results, Tryd.results17, go_sem]) rfl ⟨_, rfl, Kd.R_mono (Kd.R_drewN (Kd.R_alloc M1.out _) _) (fun _ _ => trivial), pw_below_drewN (below_alloc (below_then K3.out K3.out.size M2.out.bel) _) _⟩
  · rw [if_neg hg] at h
    injection h with h
    injection h with e1 h
    injection h with e2 e3
    subst e1 e2 e3
    have HG := Aside0.mk hg
    clear hg
    go_enter Tryd.func17, Tryd.ntmps17
    go_wp2_with (first | (go_at_call 44; refine (lit_no n A c l f w HR.out hc HG.out).mono ?_; rintro e w1 ⟨p1, rfl, k1⟩; have K1 := Aside0.mk k1; clear k1))
    refine bodyPost_ret (v := .tuple #[.int .i64 0, .slice none 0 0, .int .i64 1]) (by simp [results, Tryd.results17, go_sem]) rfl ⟨_, rfl, Kd.R_nil _ _ _ _ _, K1.out⟩
end Go.Proofs.YtbgpnkchbcgekaaDoor.Fi
