/- The calls of burner.find. -/
import Derived.Test.YtbgpnkchbcgekaaDoorQFqHd
import Derived.Test.YtbgpnkchbcgekaaDoorQFqHk
import Derived.Outline
namespace Go.Proofs.YtbgpnkchbcgekaaDoor.Fi
open Go.RowKit Go.Proofs.YtbgpnkchbcgekaaDoorW.PrintWords Go.Proofs.YtbgpnkchbcgekaaDoorW.PrintLast Go.Proofs.YtbgpnkchbcgekaaDoorW.PrintMore Wog
set_option linter.unusedVariables false
set_option linter.unusedSimpArgs false
attribute [local go_sem] eql27 neq27
theorem BI.grown {w0 W W1 : World} {bb g base : Nat} {nx : List Nat} {v : Value} {l : List Int} {ok : Nat → Prop} (h : BI w0 bb g base nx W) (hv : Kd.R (Kd.int .i64) 3 W base ok v l) (hg : W.grownBy W1 v.ownBlock) (hb : Below base W W1) (hb0 : w0.heap.size ≤ base) : BI w0 bb g base nx W1 := by
  obtain ⟨vb, h1, h2⟩ := h.blk
  obtain ⟨A1, c1, h3, h4, h5⟩ := h.st
  refine ⟨⟨A1, c1, blk_grown h3 hg (Kd.R_ne hv h3 (by decide)), h4, h5⟩, below_weaken h.bel hb0 hb, ⟨vb, blk_grown h1 hg (Kd.R_ne hv h1 (by decide)), Kd.R_over' h2 (Kd.R_typed hv) (by decide) hg⟩, h.ne⟩
theorem ne_g {W : World} {g m c : Nat} {n x : Int} {A : Option Addr} {a : Addr} (hb : W.heap[g]? = some (.cells #[.int .i64 n, .slice A m c] 105 (0, 0))) (h : W.cell? a = some (.int .u16 x)) : a.block ≠ g := by
  intro e
  unfold World.cell? at h
  rw [e, hb] at h
  simp only at h
  split at h
  · cases h
  · rcases ho : a.off with _ | _ | k
    · rw [ho] at h; simp at h
    · rw [ho] at h; simp at h
    · rw [ho] at h; simp at h
theorem cell_at {W W1 : World} {a : Addr} {v : Value} (h : W.cell? a = some v) (hb : W1.heap[a.block]? = W.heap[a.block]?) : W1.cell? a = some v := by
  unfold World.cell? at h ⊢
  rw [hb]
  exact h
def FindPost (nx : List Nat) (w0 : World) (bb g base left burnt : Nat) (l : List Int) (vl : Value) (w : World) (e : Ending) (w' : World) : Prop :=
  ∃ v, e = .returned v ∧ (match findS nx left burnt with | some q => Kd.R (Kd.int .i64) 3 w' base (fun _ => True) v (l ++ toI q) | none => v = .slice none 0 0) ∧ BI w0 bb g base nx w' ∧ KeepBut w w' g vl.ownBlock
theorem BI.cell0 {w0 W : World} {bb g base : Nat} {nx : List Nat} (h : BI w0 bb g base nx W) : W.cell? ⟨bb, 0, none⟩ = some (.pointer (some ⟨g, 0, none⟩)) := by
  obtain ⟨vb, h1, _⟩ := h.blk
  exact blk_cell h1 0
theorem BI.cellg {w0 W : World} {bb g base : Nat} {nx : List Nat} (h : BI w0 bb g base nx W) : W.cell? ⟨g, 0, none⟩ = some (.int .i64 (nx.length : Int)) := by
  obtain ⟨A1, c1, h1, _⟩ := h.st
  exact blk_cell h1 0
theorem BI.blkg {w0 W : World} {bb g base : Nat} {nx : List Nat} (h : BI w0 bb g base nx W) : ∃ A1 c1, W.heap[g]? = some (.cells #[.int .i64 (nx.length : Int), .slice A1 (toI nx).length c1] 105 (0, 0)) := by
  obtain ⟨A1, c1, h1, _⟩ := h.st
  exact ⟨A1, c1, h1⟩
theorem R_notg {w0 W : World} {bb g base : Nat} {nx : List Nat} {v : Value} {l : List Int} (h : Kd.R (Kd.int .i64) 3 W base (fun _ => True) v l) (hb : BI w0 bb g base nx W) : Kd.R (Kd.int .i64) 3 W base (fun k => k ≠ g) v l := by
  obtain ⟨A1, c1, h1⟩ := hb.blkg
  exact Kd.R_mono (Kd.R_types h h1 (by decide)) (fun k hk => hk.2)
theorem KeepBut.weak {W W1 : World} {g : Nat} {row : Option Nat} (h : KeepBut W W1 g none) : KeepBut W W1 g row := ⟨h.1, fun i hi hg _ => h.2 i hi hg (by simp)⟩
set_option maxHeartbeats 4000000 in
set_option maxRecDepth 100000 in
theorem find_full (nx : List Nat) (hn : nx.length ≤ 10) (hx : ∀ x ∈ nx, x < 2 ^ nx.length) (w0 : World) (bb g base : Nat) (hT : TabIn w0) (hb0 : w0.heap.size ≤ base) (left : Nat) (hleft : left ≤ nx.length) (burnt : Nat) (l : List Int) (vl : Value) (w : World) (hb : burnt < 2 ^ nx.length) (hll : l.length + left ≤ 100) (hBI : BI w0 bb g base nx w) (hvl : Kd.R (Kd.int .i64) 3 w base (fun _ => True) vl l) (hbw : base ≤ w.heap.size) (hfull : popc 16 burnt = nx.length) :
    Calls Tryd.prog 51 #[.pointer (some ⟨bb, 0, none⟩), vl, .int .u16 (burnt : Int), .int .i64 (left : Int)] w (FindPost nx w0 bb g base left burnt l vl w) := by
  have HBI := Aside0.mk hBI
  have HVL := Aside0.mk hvl
  have HTAB := Aside0.mk hT
  obtain ⟨L, hL⟩ : ∃ L : Int, L = ((left : Nat) : Int) := ⟨_, rfl⟩
  have HLQ : Aside0 (L = ((left : Nat) : Int) ∧ True) := ⟨hL, trivial⟩
  have hL0 : 0 ≤ L := by omega
  have hLt : L.toNat = left := by omega
  have hL100 : l.length + L.toNat ≤ 100 := by omega
  rw [← hL]
  clear hL
  obtain ⟨Al, cl, rfl, hlcl, hCL⟩ := Kd.R_reads hvl
  obtain ⟨vb, hblk, hvb⟩ := hBI.blk
  obtain ⟨A1, c1, hgb, _⟩ := hBI.st
  have hcb0 : w.cell? ⟨bb, 0, none⟩ = some (.pointer (some ⟨g, 0, none⟩)) := blk_cell hblk 0
  have hcg0 : w.cell? ⟨g, 0, none⟩ = some (.int .i64 (nx.length : Int)) := blk_cell hgb 0
  have HSZ := Aside0.mk (size_is burnt (lt16' hn hb))
  clear hT hblk hvb hgb hvl hCL hBI
  have HF : Aside0 (findS nx left burnt = some (List.replicate left 0)) := ⟨by cases left with | zero => (rw [findS, if_pos hfull]; rfl) | succ q => rw [findS, if_pos hfull]⟩
  have he : (((popc 16 burnt : Nat) : Int) == (nx.length : Int)) = true := by rw [hfull]; simp
  clear hfull
  go_enter Tryd.func51, Tryd.ntmps51
  go_wp2
  go_quiet (first | (go_at_call 56; exact quiet_of_drawn (fire_set_size.calls _ _ _ HSZ.out)))
  go_wp2_with (first | ((with_reducible refine gate_builtin (b := .append) (xs := #[.tmp 21, .tmp 22]) rfl ?_); at_builtin; refine Kd.R_append_zeros (Kd.int .i64) (w0 := w.drewN nq) base rfl (.tmp 21) (.tmp 22) 27 3 3 (.int .i64 0) 8 rfl Tryd.underlying27 Tryd.underlying3 info3 rfl (by decide) (by omega) (.slice Al l.length cl) l 0 L (fun _ => True) rfl rfl rfl (fun _ _ => trivial) (Kd.R_drewN HVL.out _) hL0 (Below.refl _ _) (by simpa using hbw) (by omega) ?_; intro v1 w1 h1 h2 h3 h4; have H1 := Aside0.mk h1; have H2 := Aside0.mk h2; have H3 := Aside0.mk h3; clear h1 h2 h3 h4))
  go_ret
  have e2 : l ++ List.replicate L.toNat 0 = l ++ toI (List.replicate left 0) := by
    congr 1
    rw [hLt]
    simp [toI]
  refine ⟨_, rfl, ?_, (HBI.out.drewN _).grown (Kd.R_drewN HVL.out _) H3.out H2.out hb0, ?_⟩
  · rw [HF.out]
    have := H1.out
    rw [e2] at this
    exact this
  · exact (keep_drewN (KeepBut.refl w g (Value.slice Al l.length cl).ownBlock) nq).trans (KeepBut.of_grown H3.out g) (.inl rfl)
set_option maxHeartbeats 4000000 in
set_option maxRecDepth 100000 in
theorem find_hop (nx : List Nat) (hn : nx.length ≤ 10) (hx : ∀ x ∈ nx, x < 2 ^ nx.length) (w0 : World) (bb g base : Nat) (hT : TabIn w0) (hb0 : w0.heap.size ≤ base) (left : Nat) (hleft : left ≤ nx.length) (burnt : Nat) (l : List Int) (vl : Value) (w : World) (hb : burnt < 2 ^ nx.length) (hll : l.length + left ≤ 100) (hBI : BI w0 bb g base nx w) (hvl : Kd.R (Kd.int .i64) 3 w base (fun _ => True) vl l) (hbw : base ≤ w.heap.size) (hfull : ¬ popc 16 burnt = nx.length) (hhop : hopS nx burnt left = true) :
    Calls Tryd.prog 51 #[.pointer (some ⟨bb, 0, none⟩), vl, .int .u16 (burnt : Int), .int .i64 (left : Int)] w (FindPost nx w0 bb g base left burnt l vl w) := by
  have HBI := Aside0.mk hBI
  have HVL := Aside0.mk hvl
  have HTAB := Aside0.mk hT
  obtain ⟨L, hL⟩ : ∃ L : Int, L = ((left : Nat) : Int) := ⟨_, rfl⟩
  have HLQ : Aside0 (L = ((left : Nat) : Int) ∧ True) := ⟨hL, trivial⟩
  have hL0 : 0 ≤ L := by omega
  have hLt : L.toNat = left := by omega
  have hL100 : l.length + L.toNat ≤ 100 := by omega
  rw [← hL]
  clear hL
  obtain ⟨Al, cl, rfl, hlcl, hCL⟩ := Kd.R_reads hvl
  obtain ⟨vb, hblk, hvb⟩ := hBI.blk
  obtain ⟨A1, c1, hgb, _⟩ := hBI.st
  have hcb0 : w.cell? ⟨bb, 0, none⟩ = some (.pointer (some ⟨g, 0, none⟩)) := blk_cell hblk 0
  have hcg0 : w.cell? ⟨g, 0, none⟩ = some (.int .i64 (nx.length : Int)) := blk_cell hgb 0
  have HSZ := Aside0.mk (size_is burnt (lt16' hn hb))
  clear hT hblk hvb hgb hvl hCL hBI
  have HF : Aside0 (findS nx left burnt = none) := ⟨by cases left with | zero => rw [findS, if_neg hfull] | succ q => rw [findS, if_neg hfull, if_pos hhop]⟩
  have he : (((popc 16 burnt : Nat) : Int) == (nx.length : Int)) = false := by simp; omega
  have HH := Aside0.mk (hop_any nx hn hx w0 bb g base burnt left hb hleft)
  rw [hhop, ← HLQ.out.1] at HH
  clear hfull hhop
  go_enter Tryd.func51, Tryd.ntmps51
  go_wp2
  go_quiet (first | (go_at_call 56; exact quiet_of_drawn (fire_set_size.calls _ _ _ HSZ.out)))
  go_wp2_with (first | (go_at_call 65; refine (HH.out _ (HBI.out.drewN nq) HTAB.out).mono ?_; rintro e w1 ⟨rfl, h1, h2⟩; have H1 := Aside0.mk h1; have H2 := Aside0.mk h2; clear h1 h2))
  go_ret
  refine ⟨_, rfl, ?_, H1.out, ?_⟩
  · rw [HF.out]; rfl
  · exact (keep_drewN (KeepBut.refl w g (Value.slice Al l.length cl).ownBlock) nq).trans (KeepBut.weak H2.out) (.inl rfl)
set_option maxHeartbeats 4000000 in
set_option maxRecDepth 100000 in
theorem find_any (nx : List Nat) (hn : nx.length ≤ 10) (hx : ∀ x ∈ nx, x < 2 ^ nx.length) (w0 : World) (bb g base : Nat) (hT : TabIn w0) (hb0 : w0.heap.size ≤ base) (left : Nat) (hleft : left ≤ nx.length) :
    ∀ (burnt : Nat) (l : List Int) (vl : Value) (w : World), burnt < 2 ^ nx.length → l.length + left ≤ 100 → BI w0 bb g base nx w → Kd.R (Kd.int .i64) 3 w base (fun _ => True) vl l → base ≤ w.heap.size →
    Calls Tryd.prog 51 #[.pointer (some ⟨bb, 0, none⟩), vl, .int .u16 (burnt : Int), .int .i64 (left : Int)] w (FindPost nx w0 bb g base left burnt l vl w) := by
  induction left with
  | zero =>
    intro burnt l vl w hb hll hBI hvl hbw
    by_cases hfull : popc 16 burnt = nx.length
    · exact find_full nx hn hx w0 bb g base hT hb0 0 hleft burnt l vl w hb hll hBI hvl hbw hfull
    · refine find_hop nx hn hx w0 bb g base hT hb0 0 hleft burnt l vl w hb hll hBI hvl hbw hfull ?_
      unfold hopS
      have h0 : restS nx burnt ≠ 0 := fun h => hfull (full_of_rest (by omega) hb h)
      have h1 : nx.length ≠ 0 := fun h => h0 (by have := restS_lt nx burnt; rw [h] at this; omega)
      obtain ⟨m, hm⟩ := Nat.exists_eq_succ_of_ne_zero h1
      rw [hm]
      have := partsF_pos (nx := nx) (k := m) h0
      simp [this]
  | succ q ih =>
    intro burnt l vl w hb hll hBI hvl hbw
    by_cases hfull : popc 16 burnt = nx.length
    · exact find_full nx hn hx w0 bb g base hT hb0 (q + 1) hleft burnt l vl w hb hll hBI hvl hbw hfull
    by_cases hhop : hopS nx burnt (q + 1) = true
    · exact find_hop nx hn hx w0 bb g base hT hb0 (q + 1) hleft burnt l vl w hb hll hBI hvl hbw hfull hhop
    obtain ⟨L, hL⟩ : ∃ L : Int, L = ((q + 1 : Nat) : Int) := ⟨_, rfl⟩
    obtain ⟨Q, hQ⟩ : ∃ Q : Int, Q = (q : Int) := ⟨_, rfl⟩
    have ih := ih (by omega)
    rw [← hQ] at ih
    rw [← hL]
    have hwL : IntKind.i64.wrap (L - 1) = Q := by rw [IntWalk.i64_in _ (by omega)]; omega
    have hQ0 : 0 ≤ Q := by omega
    have hQn : Q < (nx.length : Int) := by omega
    have hQt : Q.toNat = q := by omega
    have HLQ := Aside0.mk (And.intro hL hQ)
    have hL0 : 0 ≤ L := by omega
    have hLt : L.toNat = q + 1 := by omega
    have IH := Aside0.mk ih
    have HBI := Aside0.mk hBI
    have HVL := Aside0.mk hvl
    have HTAB := Aside0.mk hT
    obtain ⟨Al, cl, rfl, hlcl, hCL⟩ := Kd.R_reads hvl
    have HCL := Aside0.mk hCL
    obtain ⟨vb, hblk, hvb⟩ := hBI.blk
    obtain ⟨A1, c1, hgb, _⟩ := hBI.st
    have hcb0 : w.cell? ⟨bb, 0, none⟩ = some (.pointer (some ⟨g, 0, none⟩)) := blk_cell hblk 0
    have hcg0 : w.cell? ⟨g, 0, none⟩ = some (.int .i64 (nx.length : Int)) := blk_cell hgb 0
    have HSZ := Aside0.mk (size_is burnt (lt16' hn hb))
    clear hL hQ ih hT hblk hvb hgb hvl hCL hBI
    rw [Bool.not_eq_true] at hhop
    have hres : ∃ res, res = findS nx (q + 1) burnt := ⟨_, rfl⟩
    obtain ⟨res, hres⟩ := hres
    have hres2 : (List.range nx.length).findSome? (fun v => (findS nx q (burnt ||| ball nx v q)).map fun l => v :: l) = res := by
      rw [hres, findS, if_neg hfull, if_neg (by simp [hhop])]
    have HRES := Aside0.mk hres
    have HRES2 := Aside0.mk hres2
    have he : (((popc 16 burnt : Nat) : Int) == (nx.length : Int)) = false := by simp; omega
    have HH := Aside0.mk (hop_any nx hn hx w0 bb g base burnt (q + 1) hb hleft)
    rw [hhop, ← HLQ.out.1] at HH
    clear hfull hhop hres hres2
    go_enter Tryd.func51, Tryd.ntmps51
    go_wp2
    go_quiet (first | (go_at_call 56; exact quiet_of_drawn (fire_set_size.calls _ _ _ HSZ.out)))
    go_wp2_with (first | (go_at_call 65; refine (HH.out _ (HBI.out.drewN nq) HTAB.out).mono ?_; rintro e w1 ⟨rfl, h1, h2⟩; have H1 := Aside0.mk h1; have H2 := Aside0.mk h2; have hd0 : w1.cell? ⟨bb, 0, none⟩ = some (.pointer (some ⟨g, 0, none⟩)) := BI.cell0 h1; have hd1 : w1.cell? ⟨g, 0, none⟩ = some (.int .i64 (nx.length : Int)) := BI.cellg h1; clear h1 h2))
    go_loopg [35] nx.length (fun kq v35 wr => ∃ v : Nat, v35 = .int .i64 (v : Int) ∧ Aside0 (v + kq = nx.length) ∧ Aside0 (((List.range nx.length).drop v).findSome? (fun v => (findS nx q (burnt ||| ball nx v q)).map fun l => v :: l) = res) ∧ Aside0 (Kd.R (Kd.int .i64) 3 wr base (fun _ => True) (.slice Al l.length cl) l) ∧ Aside0 (BI w0 bb g base nx wr) ∧ Aside0 (KeepBut w wr g none))
    case atStart => exact ⟨0, rfl, ⟨by omega⟩, ⟨by simpa using HRES2.out⟩, ⟨Kd.R_mono (Kd.R_step (R_notg (Kd.R_drewN HVL.out nq) (HBI.out.drewN nq)) (fun k hk hl => H2.out.2 k hl hk (by simp))) (fun _ _ => trivial)⟩, H1, ⟨(keep_drewN (KeepBut.refl w g none) nq).trans H2.out (.inl rfl)⟩⟩
    case round =>
      clear HVL HBI HCL hcb0 hcg0 HSZ HH H1 H2 hd0 hd1 hlcl
      obtain ⟨v, rfl, HVK, HRV, HVL, HBI, HK⟩ := hrel
      cases gk with
      | zero =>
        obtain rfl : v = nx.length := by have := HVK.out; omega
        have hdec : decide ((nx.length : Int) < (nx.length : Int)) = false := by simp
        have hnone : res = none := by
          have := HRV.out
          rw [List.drop_eq_nil_of_le (by simp)] at this
          simpa using this.symm
        go_wp2
        go_ret
        refine ⟨_, rfl, ?_, HBI.out, KeepBut.weak HK.out⟩
        rw [← HRES.out, hnone]; rfl
      | succ q1 =>
        have hvn : v < nx.length := by have := HVK.out; omega
        have hdec : decide ((v : Int) < (nx.length : Int)) = true := by simp; omega
        obtain ⟨vb, hblk, hvb⟩ := HBI.out.blk
        have hlen : ((ballsS nx).map toI).length = nx.length := by simp [ballsS]
        obtain ⟨gv, cv, rfl, _, _, _⟩ := Kd.R_form hvb (by rw [hlen]; omega)
        rw [hlen] at hblk hvb
        obtain ⟨ad2, c2, hx1, hx2⟩ := balls_row hvb hvn (show q < nx.length by omega)
        obtain ⟨A1, c1, hgb, _⟩ := HBI.out.st
        have hn1 := ne_g hgb hx2
        have hn2 : gv ≠ g := hvb.1 gv rfl
        obtain ⟨bl, hbl⟩ : ∃ bl, bl = ball nx v q := ⟨_, rfl⟩
        rw [← hbl] at hx2
        have hS1 : ∀ W : World, (∀ k, k ≠ g → k < wr.heap.size → W.heap[k]? = wr.heap[k]?) → W.cell? ⟨bb, 1, none⟩ = some (.slice (some ⟨gv, 0, none⟩) nx.length cv) ∧ W.cell? ⟨gv, v, none⟩ = some (.slice (some ad2) nx.length c2) ∧ W.cell? (ad2.add q) = some (.int .u16 (bl : Int)) := fun W h =>
          ⟨cell_at (blk_cell hblk 1) (h bb HBI.out.ne (blk_lt hblk)), cell_at hx1 (h gv hn2 (World.block_lt_of_cell? wr _ hx1)), cell_at hx2 (h _ hn1 (World.block_lt_of_cell? wr _ hx2))⟩
        have hS0 : ∀ W : World, Below wr.heap.size wr W → W.cell? ⟨bb, 1, none⟩ = some (.slice (some ⟨gv, 0, none⟩) nx.length cv) ∧ W.cell? ⟨gv, v, none⟩ = some (.slice (some ad2) nx.length c2) ∧ W.cell? (ad2.add q) = some (.int .u16 (bl : Int)) := fun W h => hS1 W (fun k _ hk => h.block k hk)
        have hbll := ball_lt hx hvn q
        have hb1 : burnt ||| bl < 2 ^ nx.length := Nat.or_lt_two_pow hb (by rw [hbl]; exact hbll)
        have hor : Go.bits .or .u16 (burnt : Int) (bl : Int) = ((burnt ||| bl : Nat) : Int) := or16 _ _ (lt16' hn hb) (lt16' hn (by rw [hbl]; exact hbll))
        obtain ⟨b1, hb1e⟩ : ∃ b1, b1 = burnt ||| bl := ⟨_, rfl⟩
        rw [← hb1e] at hb1 hor
        have hwv : IntKind.i64.wrap ((v : Int) + 1) = ((v + 1 : Nat) : Int) := by rw [IntWalk.i64_in _ (by omega)]; simp
        have HCL := Aside0.mk (Kd.R_reads' HVL.out).2.2
        have hbw' : base ≤ wr.heap.size := Nat.le_trans hbw HK.out.1
        have hRV := HRV.out
        rw [drop_range hvn, List.findSome?_cons, ← hbl, ← hb1e] at hRV
        have HRV' := Aside0.mk hRV
        have HBE := Aside0.mk (And.intro hbl hb1e)
        have HS0 := Aside0.mk hS0
        have HS1 := Aside0.mk hS1
        have HX := Aside0.mk (And.intro hx1 hx2)
        clear hRV HRV hbl hb1e hS0 hS1 hx1 hx2 hblk hvb hgb hbll
        go_wp2
        refine start_ (n := 23) (S := fun w' => w'.cell? ⟨bb, 1, none⟩ = some (.slice (some ⟨gv, 0, none⟩) nx.length cv) ∧ w'.cell? ⟨gv, v, none⟩ = some (.slice (some ad2) nx.length c2) ∧ w'.cell? (ad2.add q) = some (.int .u16 (bl : Int))) (ds := []) #[false, false, false, false, false, false, false, false, false, false, false, false, false, false, false, false, false, false, false, false, false, false, false] (by kernel_rfl) rfl rfl (HS0.out _ (below_drew (Below.refl _ _))) (fun hHeld => ?_)
        refine pure_ (i := 0) (N := some 38) (v := ?_) (a' := ?_) #[true, false, false, false, false, false, false, false, false, false, false, false, false, false, false, false, false, false, false, false, false, false, false] rfl rfl (by kernel_rfl) (fun _ _ _ h => h) (Or.inl ⟨by rfl, ?_⟩) ?_ ?_
        rotate_left
        · intro w'
          go_simp
          with_reducible rfl
        rotate_left
        · simp only [Act.put, List.setIfInBounds_toArray, List.set_cons_zero, List.set_cons_succ, i64_w, i32_w]
          rfl
        refine pure_ (i := 1) (N := some 39) (v := ?_) (a' := ?_) #[true, true, false, false, false, false, false, false, false, false, false, false, false, false, false, false, false, false, false, false, false, false, false] rfl rfl (by kernel_rfl) (fun _ _ _ h => h) (Or.inl ⟨by rfl, ?_⟩) ?_ ?_
        rotate_left
        · intro w'
          go_simp
          with_reducible rfl
        rotate_left
        · simp only [Act.put, List.setIfInBounds_toArray, List.set_cons_zero, List.set_cons_succ, i64_w, i32_w]
          rfl
        refine pure_ (i := 3) (N := some 41) (v := ?_) (a' := ?_) #[true, true, false, true, false, false, false, false, false, false, false, false, false, false, false, false, false, false, false, false, false, false, false] rfl rfl (by kernel_rfl) (fun _ _ _ h => h) (Or.inl ⟨by rfl, ?_⟩) ?_ ?_
        rotate_left
        · intro w'
          go_simp
          with_reducible rfl
        rotate_left
        · simp only [Act.put, List.setIfInBounds_toArray, List.set_cons_zero, List.set_cons_succ, i64_w, i32_w]
          rfl
        refine pure_ (i := 6) (N := some 44) (v := ?_) (a' := ?_) #[true, true, false, true, false, false, true, false, false, false, false, false, false, false, false, false, false, false, false, false, false, false, false] rfl rfl (by kernel_rfl) (fun _ _ _ h => h) (Or.inl ⟨by rfl, ?_⟩) ?_ ?_
        rotate_left
        · intro w'
          go_simp
          with_reducible rfl
        rotate_left
        · simp only [Act.put, List.setIfInBounds_toArray, List.set_cons_zero, List.set_cons_succ, i64_w, i32_w]
          rfl
        refine pure_ (i := 7) (N := some 45) (v := ?_) (a' := ?_) #[true, true, false, true, false, false, true, true, false, false, false, false, false, false, false, false, false, false, false, false, false, false, false] rfl rfl (by kernel_rfl) (fun _ _ _ h => h) (Or.inl ⟨by rfl, ?_⟩) ?_ ?_
        rotate_left
        · intro w'
          go_simp
          with_reducible rfl
        rotate_left
        · simp only [Act.put, List.setIfInBounds_toArray, List.set_cons_zero, List.set_cons_succ, i64_w, i32_w]
          rfl
        refine pure_ (i := 8) (N := some 46) (v := ?_) (a' := ?_) #[true, true, false, true, false, false, true, true, true, false, false, false, false, false, false, false, false, false, false, false, false, false, false] rfl rfl (by kernel_rfl) (fun _ _ _ h => h) (Or.inl ⟨by rfl, ?_⟩) ?_ ?_
        rotate_left
        · intro w'
          go_simp
          with_reducible rfl
        rotate_left
        · simp only [Act.put, List.setIfInBounds_toArray, List.set_cons_zero, List.set_cons_succ, i64_w, i32_w]
          rfl
        refine pure_ (i := 9) (N := some 47) (v := ?_) (a' := ?_) #[true, true, false, true, false, false, true, true, true, true, false, false, false, false, false, false, false, false, false, false, false, false, false] rfl rfl (by kernel_rfl) (fun _ _ _ h => h) (Or.inl ⟨by rfl, ?_⟩) ?_ ?_
        rotate_left
        · intro w'
          go_simp
          with_reducible rfl
        rotate_left
        · simp only [Act.put, List.setIfInBounds_toArray, List.set_cons_zero, List.set_cons_succ, i64_w, i32_w]
          rfl
        refine take_ (i := 10) (N := some 48) (v := ?_) (a' := ?_) #[true, true, false, true, false, false, true, true, true, true, true, false, false, false, false, false, false, false, false, false, false, false, false] rfl rfl (by kernel_rfl) (fun _ _ _ h => h) (Or.inl ⟨by rfl, ?_⟩) hHeld ?_ ?_
        rotate_left
        · rintro w' ⟨s0, s1, s2⟩
          go_simp
          with_reducible rfl
        rotate_left
        · simp only [Act.put, List.setIfInBounds_toArray, List.set_cons_zero, List.set_cons_succ, i64_w, i32_w]
          rfl
        refine pure_ (i := 11) (N := some 49) (v := ?_) (a' := ?_) #[true, true, false, true, false, false, true, true, true, true, true, true, false, false, false, false, false, false, false, false, false, false, false] rfl rfl (by kernel_rfl) (fun _ _ _ h => h) (Or.inl ⟨by rfl, ?_⟩) ?_ ?_
        rotate_left
        · intro w'
          go_simp
          with_reducible rfl
        rotate_left
        · simp only [Act.put, List.setIfInBounds_toArray, List.set_cons_zero, List.set_cons_succ, i64_w, i32_w]
          rfl
        refine pure_ (i := 12) (N := some 50) (v := ?_) (a' := ?_) #[true, true, false, true, false, false, true, true, true, true, true, true, true, false, false, false, false, false, false, false, false, false, false] rfl rfl (by kernel_rfl) (fun _ _ _ h => h) (Or.inl ⟨by rfl, ?_⟩) ?_ ?_
        rotate_left
        · intro w'
          go_simp
          with_reducible rfl
        rotate_left
        · simp only [Act.put, List.setIfInBounds_toArray, List.set_cons_zero, List.set_cons_succ, i64_w, i32_w]
          rfl
        refine take_ (i := 13) (N := some 51) (v := ?_) (a' := ?_) #[true, true, false, true, false, false, true, true, true, true, true, true, true, true, false, false, false, false, false, false, false, false, false] rfl rfl (by kernel_rfl) (fun _ _ _ h => h) (Or.inl ⟨by rfl, ?_⟩) hHeld ?_ ?_
        rotate_left
        · rintro w' ⟨s0, s1, s2⟩
          go_simp
          with_reducible rfl
        rotate_left
        · simp only [Act.put, List.setIfInBounds_toArray, List.set_cons_zero, List.set_cons_succ, i64_w, i32_w]
          rfl
        refine pure_ (i := 14) (N := some 52) (v := ?_) (a' := ?_) #[true, true, false, true, false, false, true, true, true, true, true, true, true, true, true, false, false, false, false, false, false, false, false] rfl rfl (by kernel_rfl) (fun _ _ _ h => h) (Or.inl ⟨by rfl, ?_⟩) ?_ ?_
        rotate_left
        · intro w'
          go_simp
          with_reducible rfl
        rotate_left
        · simp only [Act.put, List.setIfInBounds_toArray, List.set_cons_zero, List.set_cons_succ, i64_w, i32_w]
          rfl
        refine pure_ (i := 15) (N := some 53) (v := ?_) (a' := ?_) #[true, true, false, true, false, false, true, true, true, true, true, true, true, true, true, true, false, false, false, false, false, false, false] rfl rfl (by kernel_rfl) (fun _ _ _ h => h) (Or.inl ⟨by rfl, ?_⟩) ?_ ?_
        rotate_left
        · intro w'
          go_simp
          with_reducible rfl
        rotate_left
        · simp only [Act.put, List.setIfInBounds_toArray, List.set_cons_zero, List.set_cons_succ, i64_w, i32_w]
          rfl
        refine pure_ (i := 16) (N := some 54) (v := ?_) (a' := ?_) #[true, true, false, true, false, false, true, true, true, true, true, true, true, true, true, true, true, false, false, false, false, false, false] rfl rfl (by kernel_rfl) (fun _ _ _ h => h) (Or.inl ⟨by rfl, ?_⟩) ?_ ?_
        rotate_left
        · intro w'
          go_simp
          with_reducible rfl
        rotate_left
        · simp only [Act.put, List.setIfInBounds_toArray, List.set_cons_zero, List.set_cons_succ, i64_w, i32_w]
          rfl
        refine take_ (i := 17) (N := some 55) (v := ?_) (a' := ?_) #[true, true, false, true, false, false, true, true, true, true, true, true, true, true, true, true, true, true, false, false, false, false, false] rfl rfl (by kernel_rfl) (fun _ _ _ h => h) (Or.inl ⟨by rfl, ?_⟩) hHeld ?_ ?_
        rotate_left
        · rintro w' ⟨s0, s1, s2⟩
          go_simp
          with_reducible rfl
        rotate_left
        · simp only [Act.put, List.setIfInBounds_toArray, List.set_cons_zero, List.set_cons_succ, i64_w, i32_w]
          rfl
        refine pure_ (i := 18) (N := some 56) (v := ?_) (a' := ?_) #[true, true, false, true, false, false, true, true, true, true, true, true, true, true, true, true, true, true, true, false, false, false, false] rfl rfl (by kernel_rfl) (fun _ _ _ h => h) (Or.inl ⟨by rfl, ?_⟩) ?_ ?_
        rotate_left
        · intro w'
          go_simp
          with_reducible rfl
        rotate_left
        · simp only [Act.put, List.setIfInBounds_toArray, List.set_cons_zero, List.set_cons_succ, i64_w, i32_w]
          rfl
        refine pure_ (i := 19) (N := some 57) (v := ?_) (a' := ?_) #[true, true, false, true, false, false, true, true, true, true, true, true, true, true, true, true, true, true, true, true, false, false, false] rfl rfl (by kernel_rfl) (fun _ _ _ h => h) (Or.inl ⟨by rfl, ?_⟩) ?_ ?_
        rotate_left
        · intro w'
          go_simp
          with_reducible rfl
        rotate_left
        · simp only [Act.put, List.setIfInBounds_toArray, List.set_cons_zero, List.set_cons_succ, i64_w, i32_w]
          rfl
        refine pure_ (i := 20) (N := some 58) (v := ?_) (a' := ?_) #[true, true, false, true, false, false, true, true, true, true, true, true, true, true, true, true, true, true, true, true, true, false, false] rfl rfl (by kernel_rfl) (fun _ _ _ h => h) (Or.inl ⟨by rfl, ?_⟩) ?_ ?_
        rotate_left
        · intro w'
          go_simp
          with_reducible rfl
        rotate_left
        · simp only [Act.put, List.setIfInBounds_toArray, List.set_cons_zero, List.set_cons_succ, i64_w, i32_w]
          rfl
        refine join_ (σ := Value × Nat) 3 #[true, true, true, true, true, false, true, true, true, true, true, true, true, true, true, true, true, true, true, true, true, false, false] (fun s => [(40, s.1), (42, .slice (some ⟨s.2, 0, none⟩) 1 1)]) (fun s w' => Kd.R (Kd.int .i64) 3 w' base (fun _ => True) s.1 l ∧ Kd.C (Kd.int .i64) w' (some ⟨s.2, 0, none⟩) 1 [(v : Int)] ∧ (∀ k, s.1.ownBlock = some k → wr.heap.size ≤ k) ∧ Below wr.heap.size wr w') ?cont (fun hcont => ?_)
        case' cont =>
          rintro ⟨v1, H1⟩ w1 ⟨e1, e2, e3, e4⟩
          dsimp only at e1 e2 e3 e4
          have hz := e4.size
          obtain ⟨A1, c1, rfl, hlc1, hC1⟩ := Kd.R_reads e1
          refine norm_ (a' := ?_) ?_ ?_
          rotate_left
          · show putAll _ [(40, _), (42, _)] = _
            simp only [putAll, Act.put, List.setIfInBounds_toArray, List.set_cons_zero, List.set_cons_succ, i64_w, i32_w]
            rfl
          refine one_ (i := 5) (N := some 43) #[true, true, true, true, true, true, true, true, true, true, true, true, true, true, true, true, true, true, true, true, true, false, false] rfl rfl (by kernel_rfl) (by decide) (fun K hK => ?_)
          refine Kd.R_append_rows_step (Kd.int .i64) (w0 := w1) base (by rfl) (.tmp 40) (.tmp 42) 27 3 (.int .i64 0) 8 rfl Tryd.underlying27 info3 rfl (by decide) (by omega) (.slice A1 l.length c1) l [(v : Int)] (some ⟨H1, 0, none⟩) 1 1 (fun _ => True) (fun _ => False) rfl rfl e1 e2 (fun _ _ h => h) (fun _ h => h.elim) (fun _ _ => trivial) (Below.refl _ _) (by omega) (by omega) ?_
          intro v2 w2 f1 f2 f3 f4
          obtain ⟨A2, c2', rfl, hlc2, hC2⟩ := Kd.R_reads f1
          have f5 : Below wr.heap.size wr w2 := pw_below_grown e4 _ hz f3 e3
          refine hK.out _ _ (HS0.out _ f5) (fun hHeld => ?_)
          clear hK K
          refine norm_ (a' := ?_) ?_ ?_
          rotate_left
          · show Act.put _ (some 43) _ = _
            simp only [Act.put, List.setIfInBounds_toArray, List.set_cons_zero, List.set_cons_succ, i64_w, i32_w]
            rfl
          refine one_ (i := 21) (N := some 59) #[true, true, true, true, true, true, true, true, true, true, true, true, true, true, true, true, true, true, true, true, true, true, false] rfl rfl (by kernel_rfl) (by decide) (fun K hK => ?_)
          refine goes_ Tryd.func51 (by kernel_rfl) rfl #[.pointer (some ⟨bb, 0, none⟩), .slice A2 (l ++ [(v : Int)]).length c2', .int .u16 (b1 : Int), .int .i64 Q] (by rfl) rfl rfl (by (try simp only [List.map_toArray, List.map_cons, List.map_nil]); first | done | rfl | (simp; done) | (simp; rfl)) ?_
          refine (IH.out b1 (l ++ [(v : Int)]) _ w2 hb1 (by simp; omega) (HBI.out.below f5) f1 (Nat.le_trans hbw' f5.size)).mono ?_
          rintro e w3 ⟨v3, rfl, g1, g2, g3⟩
          refine ⟨_, rfl, ?_⟩
          have g4 : ∀ k, k ≠ g → k < wr.heap.size → w3.heap[k]? = wr.heap[k]? := fun k hk hl => (g3.2 k (Nat.lt_of_lt_of_le hl f5.size) hk (fun e => by rcases f4 with h | ⟨z, h, hz2⟩; (have := e3 k (h ▸ e.symm); omega); (rw [h] at e; injection e with e; omega))).trans (f5.block k hl)
          refine hK.out _ _ (HS1.out _ g4) (fun hHeld => ?_)
          clear hK K
          refine norm_ (a' := ?_) ?_ ?_
          rotate_left
          · show Act.put _ (some 59) _ = _
            simp only [Act.put, List.setIfInBounds_toArray, List.set_cons_zero, List.set_cons_succ, i64_w, i32_w]
            rfl
          refine pure_ (i := 22) (N := some 10) (v := ?_) (a' := ?_) #[true, true, true, true, true, true, true, true, true, true, true, true, true, true, true, true, true, true, true, true, true, true, true] rfl rfl (by kernel_rfl) (fun _ _ _ h => h) (Or.inl ⟨by rfl, ?_⟩) ?_ ?_
          rotate_left
          · intro w'
            go_simp
            with_reducible rfl
          rotate_left
          · simp only [Act.put, List.setIfInBounds_toArray, List.set_cons_zero, List.set_cons_succ, i64_w, i32_w]
            rfl
          refine done_ (by kernel_rfl) ?_
          have hk3 : KeepBut wr w3 g none := ⟨Nat.le_trans f5.size g3.1, fun i hi hg _ => g4 i hg hi⟩
          have HK3 := Aside0.mk hk3
          have G2 := Aside0.mk g2
          have HVL3 := Aside0.mk (Kd.R_mono (Kd.R_step (R_notg HVL.out HBI.out) (fun k hk hl => g4 k hk hl)) (fun _ _ => trivial))
          clear hk3 g4 g3 g2 hHeld f1 f2 f3 f4 f5 e1 e2 e3 e4 hC1 hC2 hlc1 hlc2 hz
          have hRV3 := HRV'.out
          cases hfs : findS nx q b1 with
          | some r =>
            rw [hfs] at g1 hRV3
            obtain ⟨g9, c9, hv3, _⟩ := Kd.R_form g1 (by simp; omega)
            obtain ⟨len, hlen9⟩ : ∃ len, len = (l ++ [(v : Int)] ++ toI r).length := ⟨_, rfl⟩
            rw [← hlen9] at hv3
            subst hv3
            clear hlen9
            have HRES3 : Aside0 (res = some (v :: r)) := ⟨by simpa using hRV3.symm⟩
            have G1 := Aside0.mk g1
            clear g1 hRV3 hfs
            go_wp2
            go_ret
            refine ⟨_, rfl, ?_, G2.out, KeepBut.weak (HK.out.trans HK3.out (.inl rfl))⟩
            rw [← HRES.out, HRES3.out]
            have := G1.out
            rw [show l ++ [(v : Int)] ++ toI r = l ++ toI (v :: r) by simp [toI]] at this
            exact this
          | none =>
            rw [hfs] at g1 hRV3
            subst g1
            have HRV3 := Aside0.mk hRV3
            clear hRV3 hfs
            go_wp2
            go_roundg q1
            · exact ⟨v + 1, by first | rfl | rw [hwv], ⟨by have := HVK.out; omega⟩, ⟨by simpa using HRV3.out⟩, HVL3, G2, ⟨HK.out.trans HK3.out (.inl rfl)⟩⟩
            · exact Nat.lt_succ_self _
        refine two_ (i := 2) (j := 4) (Ni := some 40) (Nj := some 42) #[true, true, true, true, false, false, true, true, true, true, true, true, true, true, true, true, true, true, true, true, true, false, false] #[true, true, false, true, true, false, true, true, true, true, true, true, true, true, true, true, true, true, true, true, true, false, false] rfl rfl rfl rfl (by kernel_rfl) (by decide) (by decide) (fun K hK => ?_) (fun K hK => ?_)
        · refine goes_ Tryd.func66 (by kernel_rfl) rfl #[.slice Al l.length cl] (by rfl) rfl rfl (by (try simp only [List.map_toArray, List.map_cons, List.map_nil]); first | done | rfl) ?_
          refine (clone_calls Al cl l _ (Kd.C_drew HCL.out) (by omega)).mono ?_
          rintro e w1 ⟨v1, rfl, h1, h2⟩
          refine ⟨_, rfl, ?_⟩
          refine hK.out _ _ (HS0.out _ (below_then (below_drew (Below.refl _ _)) (by simp) h2)) (fun hHeld => ?_)
          clear hK K
          refine one_ (i := 4) (N := some 42) #[true, true, true, true, true, false, true, true, true, true, true, true, true, true, true, true, true, true, true, true, true, false, false] rfl rfl (by kernel_rfl) (by decide) (fun K hK => ?_)
          refine value_ (w1 := ?_) (v := ?_) (by rfl) rfl ?_ ?_
          rotate_left 2
          · go_simp
            constructor
            · rfl
            · rfl
          refine hK.out _ _ (HS0.out _ (below_alloc (below_then (below_drew (Below.refl _ _)) (by simp) h2) _)) (fun hHeld => ?_)
          clear hK K
          refine norm_ (a' := putAll _ [(40, v1), (42, .slice (some ⟨w1.heap.size, 0, none⟩) 1 1)]) ?_ (hcont (v1, w1.heap.size) _ ⟨Kd.R_lower (Kd.R_alloc h1 _) ?_, (Kd.R_reads' (R_one w1 w1.heap.size (fun _ => True) (v : Int) trivial (Nat.le_refl _))).2.2, fun k hk => by have := Kd.R_base h1 k hk; simpa using this, below_alloc (below_then (below_drew (Below.refl _ _)) (by simp) h2) _⟩)
          · simp only [putAll, Act.put, List.setIfInBounds_toArray, List.set_cons_zero, List.set_cons_succ]; done
          · have := h2.size; simp at this ⊢; omega
        · refine value_ (w1 := ?_) (v := ?_) (by rfl) rfl ?_ ?_
          rotate_left 2
          · go_simp
            constructor
            · rfl
            · rfl
          refine hK.out _ _ (HS0.out _ (below_alloc (below_drew (Below.refl _ _)) _)) (fun hHeld => ?_)
          clear hK K
          refine one_ (i := 2) (N := some 40) #[true, true, true, true, true, false, true, true, true, true, true, true, true, true, true, true, true, true, true, true, true, false, false] rfl rfl (by kernel_rfl) (by decide) (fun K hK => ?_)
          refine goes_ Tryd.func66 (by kernel_rfl) rfl #[.slice Al l.length cl] (by rfl) rfl rfl (by (try simp only [List.map_toArray, List.map_cons, List.map_nil]); first | done | rfl) ?_
          refine (clone_calls Al cl l _ (Kd.C_alloc (Kd.C_drew HCL.out) _) (by omega)).mono ?_
          rintro e w1 ⟨v1, rfl, h1, h2⟩
          refine ⟨_, rfl, ?_⟩
          have h3 : Below wr.heap.size wr w1 := below_then (below_alloc (below_drew (Below.refl _ _)) _) (by simp) h2
          refine hK.out _ _ (HS0.out _ h3) (fun hHeld => ?_)
          clear hK K
          refine norm_ (a' := putAll _ [(40, v1), (42, .slice (some ⟨wr.heap.size, 0, none⟩) 1 1)]) ?_ (hcont (v1, wr.heap.size) _ ⟨Kd.R_lower h1 ?_, Kd.C_below (Kd.R_reads' (R_one wr.drew wr.drew.heap.size (fun _ => True) (v : Int) trivial (Nat.le_refl _))).2.2 h2, fun k hk => by have := Kd.R_base h1 k hk; simp at this; omega, h3⟩)
          · simp only [putAll, Act.put, List.setIfInBounds_toArray, List.set_cons_zero, List.set_cons_succ]; done
          · simp; omega
end Go.Proofs.YtbgpnkchbcgekaaDoor.Fi
