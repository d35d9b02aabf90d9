/- The calls of the closure of Teams: the last call. -/
import Derived.Test.YtepgcdjbhmpioaaQTeH3b
namespace Go.Proofs.Ytepgcdjbhmpioaa.Fi
open Go.RowKit Go.Proofs.YtepgcdjbhmpioaaW.PrintWords Go.Proofs.YtepgcdjbhmpioaaW.PrintLast Go.Proofs.YtepgcdjbhmpioaaW.PrintMore
set_option linter.unusedVariables false
set_option linter.unusedSimpArgs false
def aArgs (K : TK) (v : Value) (k : Nat) (used : Nat) : Array Value := #[v, .slice (some ⟨K.gs, 0, none⟩) k k, .int .i64 (used : Int), .pointer (some ⟨K.gp, 0, none⟩), .pointer (some ⟨K.gb, 0, none⟩), .pointer (some ⟨K.go, 0, none⟩), .pointer (some ⟨K.gk, 0, none⟩), .pointer (some ⟨K.ga, 0, none⟩)]
def APost (w0 W : World) (K : TK) (A0 : Option Addr) (c0 : Nat) (pl : List Int) (k : Nat) (v vo : Value) (sums : List Int) (n : Nat) (acc' : Int × List Nat) : Ending → World → Prop := fun e W' => e = .returned (.tuple #[]) ∧ ∃ vo', TI w0 W' K A0 c0 pl k acc' vo' sums ∧ TStep W W' K v vo vo' n
theorem maxT_is (k : Nat) (sums : List Int) (hl : sums.length = k) (hk : 1 ≤ k) (h0 : ∀ j, 0 ≤ sums.getD j 0) : maxT sums sums.length = maxF k (fun j => sums.getD j 0) := by
  obtain ⟨a1, a2⟩ := maxT_spec (l := sums) (by omega)
  refine Int.le_antisymm ?_ (maxF_le.2 ⟨?_, fun j hj => a1 _ (getD_mem (by omega))⟩)
  · obtain ⟨j, hj, e⟩ := List.getElem_of_mem a2
    have := maxF_ge (fun j => sums.getD j 0) (show j < k by omega)
    simp only [List.getD_eq_getElem?_getD, List.getElem?_eq_getElem hj, Option.getD_some] at this
    rw [← e]
    exact this
  · have := a1 _ (getD_mem (l := sums) (i := 0) (by omega))
    have := h0 0
    omega
/-- A better result is kept. -/
theorem TI.best {w0 W w9 : World} {K : TK} {A0 : Option Addr} {c0 : Nat} {pl : List Int} {k : Nat} {acc : Int × List Nat} {vo v v9 : Value} {sums : List Int} {pre : List Nat} (h : TI w0 W K A0 c0 pl k acc vo sums) (had : K.Ad w0.heap.size) (hva : Apart K v vo) (nd : Nat) (hb : Below (W.drewN nd).heap.size (W.drewN nd) w9) (hq : Kd.R (Kd.int .i64) 3 w9 (W.drewN nd).heap.size (fun _ => True) v9 (toZ pre)) (m : Int) :
    w9.frozen? ⟨K.gb, 0, none⟩ = false ∧ w9.cell? ⟨K.gb, 0, none⟩ = some (.int .i64 acc.1) ∧ (w9.setCell ⟨K.gb, 0, none⟩ (.int .i64 m)).frozen? ⟨K.go, 0, none⟩ = false ∧ (w9.setCell ⟨K.gb, 0, none⟩ (.int .i64 m)).cell? ⟨K.go, 0, none⟩ = some vo ∧
      TI w0 ((w9.setCell ⟨K.gb, 0, none⟩ (.int .i64 m)).setCell ⟨K.go, 0, none⟩ v9) K A0 c0 pl k (m, pre) v9 sums ∧ TStep W ((w9.setCell ⟨K.gb, 0, none⟩ (.int .i64 m)).setCell ⟨K.go, 0, none⟩ v9) K v vo v9 pre.length := by
  have hbe : ∀ q, q < W.heap.size → w9.heap[q]? = W.heap[q]? := fun q hq => hb.block q hq
  have hT := TRow.of_R hq
  have hlt := h.lts
  have hpb : K.gp ≠ K.gb := blk_ne h.hp h.hb (by decide)
  have hbo : K.gb ≠ K.go := blk_ne h.hb h.ho (by decide)
  have hko : K.gk ≠ K.go := blk_ne h.hk h.ho (by decide)
  have hab : K.ga ≠ K.gb := blk_ne h.ha h.hb (by decide)
  have hao : K.ga ≠ K.go := blk_ne h.ha h.ho (by decide)
  have hso : K.gs ≠ K.go := blk_ne h.hs h.ho (by decide)
  have hp := blk_below (blk_drewN h.hp nd) hb
  have hbb := blk_below (blk_drewN h.hb nd) hb
  have ho := blk_below (blk_drewN h.ho nd) hb
  have hk := blk_below (blk_drewN h.hk nd) hb
  have ha := blk_below (blk_drewN h.ha nd) hb
  have hs := blk_below (blk_drewN h.hs nd) hb
  have hnew : ∀ q, v9.ownBlock = some q → W.heap.size ≤ q ∧ q < w9.heap.size := fun q hq => hT.lt hq
  have hW : w0.heap.size ≤ W.heap.size := h.bel.size
  refine ⟨blk_frozen hbb 0, blk_cell hbb 0, blk_frozen (blk_far ho (fun e => hbo e.symm) _) 0, blk_cell (blk_far ho (fun e => hbo e.symm) _) 0, ⟨below_set (below_set (below_step (pw_below_drewN h.bel nd) hb) had.bb) had.bo, blk_far (blk_far hp hpb _) had.po_ _, ?_, ?_, blk_far (blk_far hk (fun e => had.bk_ e.symm) _) hko _, blk_far (blk_far ha hab _) hao _, blk_far (blk_far hs (fun e => had.bs_ e.symm) _) hso _, ?_, ?_⟩, ⟨?_, ?_, ?_, ?_⟩⟩
  · exact blk_far (blk_put hbb 0 _ (by rfl)) hbo _
  · exact blk_put (blk_far ho (fun e => hbo e.symm) _) 0 _ (by rfl)
  · have h1 : TRow w9 w0.heap.size v9 (toZ pre) := own_weaken hT hW
    refine h1.kept (RowKept.of_block fun g hv _ => ?_)
    have := hnew g hv
    rw [Below.heap_setCell _ _ _ g (fun e => by have e' : g = K.go := e; omega), Below.heap_setCell _ _ _ g (fun e => by have e' : g = K.gb := e; omega)]
  · intro q hq'
    have := hnew q hq'
    exact ⟨by omega, by omega, by omega⟩
  · have := hb.size
    simp [World.setCell] at this ⊢
    exact this
  · intro q hlt' h1 h2 h3 h4
    rw [Below.heap_setCell _ _ _ q h2, Below.heap_setCell _ _ _ q h1]
    exact hbe q hlt'
  · intro g cur hv hg
    refine ⟨cur, ?_, rfl, rfl⟩
    rw [Below.heap_setCell _ _ _ g (blk_ne hg h.ho (by decide)), Below.heap_setCell _ _ _ g (hva g hv).1]
    exact (hbe g (blk_lt hg)).trans hg
  · exact .inr fun q hq' => (hnew q hq').1
set_option maxHeartbeats 2000000 in
set_option maxRecDepth 100000 in
theorem assign_end (w0 : World) (K : TK) (A0 : Option Addr) (c0 : Nat) (pl : List Int) (k : Nat) (hok : OkL 10 pl) (hk : 1 ≤ k ∧ k ≤ 4) (had : K.Ad w0.heap.size) (pre : List Nat) (sums : List Int) (used : Nat) (acc : Int × List Nat) (v vo : Value) (W : World)
    (hpre : pre.length = pl.length) (hsl : sums.length = k) (hs0 : ∀ j, 0 ≤ sums.getD j 0) (hT : TI w0 W K A0 c0 pl k acc vo sums) (hv : TRow W w0.heap.size v (toZ pre)) (hva : Apart K v vo) :
    Calls Try.prog 51 (aArgs K v k used) W (APost w0 W K A0 c0 pl k v vo sums pre.length (asgS k [] pre sums used acc)) := by
  subst hsl
  obtain ⟨A, c, rfl, hc, hC⟩ := hv.reads (by rw [toZ_length, hpre]; have := hok.2.1; omega)
  have HT := Aside0.mk hT
  have HV := Aside0.mk hv
  have HC := Aside0.mk hC
  have HVA := Aside0.mk hva
  have HSC : Aside0 (Kd.C (Kd.int .i64) W (some ⟨K.gs, 0, none⟩) sums.length sums) := ⟨by
    have hR : TRow W w0.heap.size (.slice (some ⟨K.gs, 0, none⟩) sums.length sums.length) sums := ⟨by simp [ints], .inr ⟨K.gs, sums.length, _, rfl, had.bs, hT.hs, Nat.le_refl _, by simp only [maxLen]; omega, by simp [ints], by rw [Nat.mul_one]; exact List.take_of_length_le (by simp [ints])⟩⟩
    exact (Kd.R_reads' hR.R).2.2⟩
  have d1 := blk_cell hT.hp 0
  have d2 := blk_cell hT.hb 0
  have hlen : (((toZ pre).length : Int) == (pl.length : Int)) = true := beq_iff_eq.2 (by rw [toZ_length, hpre])
  have hmx : slices_Max_int_int.f sums = some (maxF sums.length (fun j => sums.getD j 0)) := by
    unfold slices_Max_int_int.f
    rw [if_pos ⟨by omega, by omega⟩, maxT_is sums.length sums rfl hk.1 hs0]
  have HMX := Aside0.mk hmx
  have HKS : Aside0 (sums.length ≤ sums.length) := ⟨Nat.le_refl _⟩
  have HPRE := Aside0.mk hpre
  have HLE : Aside0 (pre.length ≤ 100000) := ⟨by rw [hpre]; have := hok.2.1; omega⟩
  obtain ⟨m, hm⟩ : ∃ m, m = maxF sums.length (fun j => sums.getD j 0) := ⟨_, rfl⟩
  have HR : Aside0 (asgS sums.length [] pre sums used acc = betT acc (m, pre)) := ⟨by rw [hm]; rfl⟩
  rw [← hm] at HMX
  unfold betT at HR
  obtain ⟨b0, q0⟩ := acc
  simp only at HR d2
  clear hT hv hC hva hmx hm hpre
  unfold aArgs
  go_enter Try.func51, Try.ntmps51
  by_cases h1 : b0 < 0 ∨ m < b0
  · rw [if_pos h1] at HR
    by_cases h2 : b0 < 0
    · have e1 : decide (b0 < 0) = true := decide_eq_true h2
      clear h1 h2
      go_wp2_with (first | (go_at_call 52; (with_reducible refine (slices_Max_int_int.calls _ _ sums m _ ?side1 ?side2 HMX.out).mono ?_); (case side1 => exact HSC.out); (case side2 => exact HKS.out); rintro e w1 ⟨rfl, nd, rfl⟩) | (go_at_call 53; refine (clone_calls A c (toZ pre) _ (Kd.C_drewN HC.out nd) (by rw [toZ_length]; exact HLE.out)).mono ?_; rintro e w2 ⟨v9, rfl, hq, hb⟩; obtain ⟨A9, c9, e9⟩ := Kd.R_slice hq; subst e9; have H9 := Aside0.mk (HT.out.best had HVA.out nd hb hq m); have d5 := H9.out.1; have d6 := H9.out.2.1; have d7 := H9.out.2.2.1; have d8 := H9.out.2.2.2.1; clear hq hb))
      go_end0
      rw [HR.out]
      exact ⟨rfl, _, H9.out.2.2.2.2.1, H9.out.2.2.2.2.2⟩
    · have e1 : decide (b0 < 0) = false := decide_eq_false h2
      have e2 : decide (m < b0) = true := decide_eq_true (h1.resolve_left h2)
      clear h1 h2
      go_wp2_with (first | (go_at_call 52; (with_reducible refine (slices_Max_int_int.calls _ _ sums m _ ?side1 ?side2 HMX.out).mono ?_); (case side1 => exact HSC.out); (case side2 => exact HKS.out); rintro e w1 ⟨rfl, nd, rfl⟩) | (go_at_call 53; refine (clone_calls A c (toZ pre) _ (Kd.C_drewN HC.out nd) (by rw [toZ_length]; exact HLE.out)).mono ?_; rintro e w2 ⟨v9, rfl, hq, hb⟩; obtain ⟨A9, c9, e9⟩ := Kd.R_slice hq; subst e9; have H9 := Aside0.mk (HT.out.best had HVA.out nd hb hq m); have d5 := H9.out.1; have d6 := H9.out.2.1; have d7 := H9.out.2.2.1; have d8 := H9.out.2.2.2.1; clear hq hb))
      go_end0
      rw [HR.out]
      exact ⟨rfl, _, H9.out.2.2.2.2.1, H9.out.2.2.2.2.2⟩
  · rw [if_neg h1] at HR
    rw [not_or] at h1
    have e1 : decide (b0 < 0) = false := decide_eq_false h1.1
    have e2 : decide (m < b0) = false := decide_eq_false h1.2
    clear h1
    go_wp2_with (go_at_call 52; (with_reducible refine (slices_Max_int_int.calls _ _ sums m _ ?side1 ?side2 HMX.out).mono ?_); (case side1 => exact HSC.out); (case side2 => exact HKS.out); rintro e w1 ⟨rfl, nd, rfl⟩)
    go_end0
    exact ⟨rfl, vo, by rw [HR.out]; exact HT.out.drewN nd, TStep.drewN _ _ _ _ _ _⟩
end Go.Proofs.Ytepgcdjbhmpioaa.Fi
