/- The laws TugWays and TugParity in plain words. -/
import Derived.Test.YtepgcdjbhmpioaaQTpT8
import Derived.Test.YtepgcdjbhmpioaaQTpFi17
import Derived.Test.YtepgcdjbhmpioaaQTpFi18
namespace Go.Proofs.Ytepgcdjbhmpioaa.Fi
open Go.RowKit Go.Proofs.YtepgcdjbhmpioaaW.PrintWords Go.Proofs.YtepgcdjbhmpioaaW.PrintLast Go.Proofs.YtepgcdjbhmpioaaW.PrintMore
set_option linter.unusedVariables false
theorem sgn_parity : ∀ (p s : List Int), Bits s → s.length = p.length → (sgn p s - p.sum) % 2 = 0 ∧ ((∀ x ∈ p, 0 ≤ x) → -p.sum ≤ sgn p s ∧ sgn p s ≤ p.sum)
  | [], [], _, _ => by simp [sgn]
  | [], _ :: _, _, h => by simp at h
  | _ :: _, [], _, h => by simp at h
  | a :: p, b :: s, hb, hl => by
    obtain ⟨h1, h2⟩ := sgn_parity p s (fun x hx => hb x (by simp [hx])) (by simpa using hl)
    have h3 := hb b (by simp)
    simp only [sgn, List.sum_cons]
    refine ⟨?_, fun h => ?_⟩
    · rcases h3 with rfl | rfl <;> omega
    · have h4 := h2 (fun x hx => h x (by simp [hx]))
      have h5 := h a (by simp)
      rcases h3 with rfl | rfl <;> omega
theorem diffS_parity {p s : List Int} (hs : Bits s) (hl : s.length = p.length) (hp : ∀ x ∈ p, 0 ≤ x) : (diffS p s - p.sum) % 2 = 0 ∧ diffS p s ≤ p.sum := by
  obtain ⟨h1, h2⟩ := sgn_parity p s hs hl
  have h3 := h2 hp
  unfold diffS
  omega
theorem wayN_odd {p : List Int} (hp : ∀ x ∈ p, 0 ≤ x) {d : Int} (hd : (d - p.sum) % 2 ≠ 0 ∨ p.sum < d) : ∀ m, wayN p d m = 0
  | 0 => rfl
  | m + 1 => by
    have h := diffS_parity (sidesS_bits p.length m) (sidesS_length p.length m) hp
    rw [wayN, wayN_odd hp hd m, if_neg (by intro e; rw [e] at h; omega)]
/-- How many of the first sides have a smaller difference. -/
def lowN (p : List Int) (D : Int) : Nat → Nat
  | 0 => 0
  | m + 1 => lowN p D m + if diffS p (sidesS p.length m) < D then 1 else 0
theorem lowN_zero (p : List Int) : ∀ m, lowN p 0 m = 0
  | 0 => rfl
  | m + 1 => by rw [lowN, lowN_zero p m, if_neg (by have := diffS_nonneg p (sidesS p.length m); omega)]
theorem lowN_next (p : List Int) (D : Int) : ∀ m, lowN p (D + 1) m = lowN p D m + wayN p D m
  | 0 => rfl
  | m + 1 => by
    rw [lowN, lowN, wayN, lowN_next p D m]
    by_cases h1 : diffS p (sidesS p.length m) = D
    · rw [if_pos h1, if_pos (by omega), if_neg (by omega)]; omega
    · rw [if_neg h1]
      by_cases h2 : diffS p (sidesS p.length m) < D
      · rw [if_pos h2, if_pos (by omega)]; omega
      · rw [if_neg h2, if_neg (by omega)]; omega
theorem lowN_all {p : List Int} (hp : ∀ x ∈ p, 0 ≤ x) : ∀ m, lowN p (p.sum + 1) m = m
  | 0 => rfl
  | m + 1 => by
    have h := diffS_parity (sidesS_bits p.length m) (sidesS_length p.length m) hp
    rw [lowN, lowN_all hp m, if_pos (by omega)]
theorem lowN_le (p : List Int) (D : Int) : ∀ m, lowN p D m ≤ m
  | 0 => Nat.le_refl _
  | m + 1 => by
    have := lowN_le p D m
    unfold lowN
    split <;> omega
theorem parity_core (p : List Int) (hok : OkL 14 p) : Ev (fun k => wogglelaw05_TugParity.l1 k p 0 p.sum 0) true := by
  obtain ⟨g1, g2, g3⟩ := hok
  have hp : ∀ x ∈ p, 0 ≤ x := fun x hx => by have := g3 x hx; omega
  have hsb := sum_bound g3 p.length (Nat.le_refl _)
  rw [List.take_length] at hsb
  have hs2 : p.sum ≤ 14000000 := by omega
  have W0 : ∀ D : Nat, (D : Int) ≤ p.sum + 1 → wrap64 (p.sum - (D : Int)) = p.sum - (D : Int) := fun D h1 => wrapS (by omega)
  obtain ⟨M, hM⟩ : ∃ M, M = 2 ^ (p.length - 1) := ⟨_, rfl⟩
  have hM' : M ≤ 8192 := by rw [hM]; exact pow_le13 g2
  have h0 : chk 14 p = 0 := chk_ok ⟨g1, g2, g3⟩
  have e1 : wrap64 ((p.length : Int) - 1) = ((p.length - 1 : Nat) : Int) := by rw [wrapS (by omega)]; omega
  have e2 := shl64 (p.length - 1) (by omega)
  rw [← hM] at e2
  have hw : ∀ d : Int, 0 ≤ d → Ev (fun k => tug_Ways.f k p d) ((wayN p d M : Int), 0) := fun d hd => by
    have := waysT_ev p d
    rw [if_pos h0, if_neg (by omega), ← hM] at this
    exact this
  have key : ∀ dd D : Nat, (D : Int) + dd = p.sum + 1 → Ev (fun k => wogglelaw05_TugParity.l1 k p (lowN p D M : Int) p.sum (D : Int)) true := by
    intro dd
    induction dd with
    | zero =>
      intro D hD
      refine Ev.step (fun k => by
        simp only [wogglelaw05_TugParity.l1]
        rw [if_neg (by omega)]) ?_
      rw [wrapS (by omega)]
      refine Ev.bind (hw (p.sum + 1) (by omega)) ?_
      have e3 : lowN p D M = M := by
        rw [show (D : Int) = p.sum + 1 by omega]
        exact lowN_all hp M
      have e4 : wayN p (p.sum + 1) M = 0 := wayN_odd hp (.inr (by omega)) M
      simp only [e1, e2, e3, e4, if_pos (show (0 : Int) ≤ ((p.length - 1 : Nat) : Int) by omega), if_true, if_pos (show ((0 : Nat) : Int) = 0 from rfl)]
      exact lives_then
    | succ dd ih =>
      intro D hD
      refine Ev.step (fun k => by
        simp only [wogglelaw05_TugParity.l1]
        rw [if_pos (by omega)]) ?_
      refine Ev.bind (hw D (by omega)) ?_
      have hn := lowN_next p D M
      have hle := lowN_le p D M
      have hle' := wayN_le p D M
      have := ih (D + 1) (by omega)
      have e3 : wrap64 ((lowN p (D : Int) M : Int) + (wayN p (D : Int) M : Int)) = (lowN p ((D + 1 : Nat) : Int) M : Int) := by
        rw [wrapS (by omega), show ((D + 1 : Nat) : Int) = (D : Int) + 1 by omega, hn]
        omega
      have e4 : wrap64 ((D : Int) + 1) = ((D + 1 : Nat) : Int) := by rw [wrapS (by omega)]; omega
      have e5 : wrap64 (p.sum - (D : Int)) = p.sum - (D : Int) := W0 D (by omega)
      simp only [e3, e4, e5, if_true, if_neg (show ¬ ((wayN p (D : Int) M : Nat) : Int) < 0 by omega)]
      by_cases h : Int.tmod (p.sum - (D : Int)) 2 = 0
      · simp only [if_pos h]
        exact this
      · have h7 : wayN p (D : Int) M = 0 := wayN_odd hp (.inl (by
          rw [Int.tmod_eq_emod_of_nonneg (by omega)] at h
          omega)) M
        simp only [if_neg h, h7, if_pos (show ((0 : Nat) : Int) = 0 from rfl)]
        exact this
  have := key (p.sum + 1).toNat 0 (by omega)
  rw [show ((0 : Nat) : Int) = 0 from rfl, lowN_zero] at this
  exact this
theorem parity_j1 (p : List Int) (h : p.length = 0 ∨ OkL 14 p) : Ev (fun k => wogglelaw05_TugParity.j1 k p) true := by
  by_cases h0 : p.length = 0
  · refine Ev.step (fun k => ?_) lives_then
    simp only [wogglelaw05_TugParity.j1]
    rw [if_pos (by omega)]
  · have hok := h.resolve_left h0
    refine Ev.step (f := fun k => (woggleref05_Sum.f k p).bind fun t514 => (wogglelaw05_TugParity.l1 k p 0 t514 0)) (fun k => ?_) (Ev.bind (sum_ev p ⟨hok.1, by have := hok.2.1; omega, hok.2.2⟩) (parity_core p hok))
    simp only [wogglelaw05_TugParity.j1]
    rw [if_neg (by omega)]
theorem TugParity_ev (x : List Int) (hx : ∀ v ∈ x, 0 ≤ v ∧ v ≤ 65535) : Ev (fun k => wogglelaw05_TugParity.f k x) true := by
  unfold wogglelaw05_TugParity.f
  have hok : ∀ i : Nat, i ≤ 10 → ((x.take i).map (fun v => v % 12 + 1)).length = 0 ∨ OkL 14 ((x.take i).map (fun v => v % 12 + 1)) := fun i hi => by
    by_cases h : ((x.take i).map (fun v => v % 12 + 1)).length = 0
    · exact .inl h
    · refine .inr ⟨by omega, by simp only [List.length_map, List.length_take]; omega, fun v hv => ?_⟩
      obtain ⟨u, hu, rfl⟩ := List.mem_map.1 hv
      omega
  have key : ∀ d i : Nat, i + d = min x.length 10 → Ev (fun k => wogglelaw05_TugParity.l0 k x ((x.take i).map (fun v => v % 12 + 1)) (i : Int)) true := by
    intro d
    induction d with
    | zero =>
      intro i hi
      refine Ev.step (fun k => ?_) (parity_j1 _ (hok i (by omega)))
      simp only [wogglelaw05_TugParity.l0]
      by_cases h : (i : Int) < (x.length : Int)
      · rw [if_pos h, if_neg (by omega)]
      · rw [if_neg h]
    | succ d ih =>
      intro i hi
      have a := hx _ (getD_mem (l := x) (i := i) (by omega))
      refine Ev.step (fun k => ?_) (ih (i + 1) (by omega))
      simp only [wogglelaw05_TugParity.l0]
      have e4 : wrap64 (x.getD i 0) = x.getD i 0 := wrapS (by omega)
      rw [if_pos (by omega), if_pos (by omega), if_pos (by omega), if_pos (by simp; omega), rdN, e4, Int.tmod_eq_emod_of_nonneg (by omega), wrapS (by omega), wrapS (by omega), ← take_snoc' x i (by omega), List.map_append]
      rfl
  exact key (min x.length 10) 0 (by omega)
theorem u16_wf {x : List Int} (h : ∀ v ∈ x, (Lit.int .u16 v).wf = true) : ∀ v ∈ x, 0 ≤ v ∧ v ≤ 65535 := fun v hv => by
  have := h v hv
  simp [Lit.wf] at this
  have a : IntKind.u16.min = 0 := by decide
  have b : IntKind.u16.max = 65535 := by decide
  omega
theorem TugParity_pure : wogglelaw05_TugParity.Pure := by
  intro l0 h1 h2 h3
  exact (TugParity_ev l0 (u16_wf h3)).rounds
end Go.Proofs.Ytepgcdjbhmpioaa.Fi
