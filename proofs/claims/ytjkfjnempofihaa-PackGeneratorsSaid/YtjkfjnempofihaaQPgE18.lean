/- The calls of numerator. -/
import Derived.Test.YtjkfjnempofihaaQPgE13
import Derived.Test.YtjkfjnempofihaaQPgE14
import Derived.Test.YtjkfjnempofihaaQPgQB
import Derived.Test.YtjkfjnempofihaaQPgE16
namespace Go.Proofs.Ytjkfjnempofihaa.Fi
open Go.RowKit Go.Shelf Go.Lib Go.Proofs.YtjkfjnempofihaaW.PrintWords Go.Proofs.YtjkfjnempofihaaW.PrintLast Go.Proofs.YtjkfjnempofihaaW.PrintMore
set_option linter.unusedVariables false
set_option linter.unusedSimpArgs false
/-- A row of numbers of the call's own. -/
abbrev RI (w : World) (base : Nat) (v : Value) (l : List Int) : Prop := Kd.R (Kd.int .i64) 3 w base (fun _ => True) v l
theorem RI.below {w w1 : World} {base : Nat} {v : Value} {l : List Int} (h : RI w base v l) (hb : Below w.heap.size w w1) : RI w1 base v l := Kd.R_below h hb
theorem RI.drew {w : World} {base : Nat} {v : Value} {l : List Int} (h : RI w base v l) : RI w.drew base v l := Kd.R_drew h
theorem RI.typed {w : World} {base : Nat} {v : Value} {l : List Int} (h : RI w base v l) {k : Nat} (hk : v.ownBlock = some k) : ∃ cells, w.heap[k]? = some (.cells cells 3 (0, 0)) := by
  obtain ⟨inner, ho⟩ := Kd.R_own h
  exact own_typed ho k hk
theorem RI.far {w w1 : World} {base : Nat} {v : Value} {l : List Int} (h : RI w base v l) (hm : ∀ k, v.ownBlock = some k → w1.heap[k]? = w.heap[k]?) : RI w1 base v l :=
  Kd.R_mono (Kd.R_step (Kd.R_tight rfl h) (fun k hk _ => hm k hk.symm)) (fun _ _ => trivial)
theorem RI.set4 {w : World} {base g : Nat} {v : Value} {l : List Int} (h : RI w base v l) (hg : ∀ k, v.ownBlock = some k → k ≠ g) (m : M4) : RI (set4 w g m) base v l := h.far (fun k hk => set4_far (hg k hk) m)
theorem blk_ne {w : World} {j k t s : Nat} {c d : Array Value} (h : w.heap[j]? = some (.cells c t (0, 0))) (h2 : w.heap[k]? = some (.cells d s (0, 0))) (hts : t ≠ s) : j ≠ k := fun e => by
  subst e
  rw [h] at h2
  injection h2 with h2
  injection h2 with _ h2
  exact hts h2
theorem RI.grown {w w1 : World} {base b2 : Nat} {v u : Value} {l : List Int} {m : List M4} (h : RI w base v l) (hg : w.grownBy w1 u.ownBlock) (hm : MR w b2 u m) : RI w1 base v l := h.far (fun k hk => by
  obtain ⟨c, hc⟩ := h.typed hk
  refine hg.block k (blk_lt hc) (fun e => ?_)
  obtain ⟨d, hd⟩ := own_typed hm k e.symm
  exact blk_ne hc hd (by decide) rfl)
theorem RI.setO {w : World} {base g t : Nat} {c : Array Value} {v : Value} {l : List Int} (h : RI w base v l) (hb : w.heap[g]? = some (.cells c t (0, 0))) (ht : 3 ≠ t) (j : Nat) (u : Value) : RI (w.setCell ⟨g, j, none⟩ u) base v l := h.far (fun k hk => by
  obtain ⟨d, hd⟩ := h.typed hk
  exact Below.heap_setCell _ _ _ k (blk_ne hd hb ht))
theorem MR.grown2 {w w1 : World} {base b2 : Nat} {v u : Value} {l m : List M4} (h : MR w base v l) (hg : w.grownBy w1 u.ownBlock) (hm : MR w b2 u m) (hne : ∀ k, v.ownBlock = some k → u.ownBlock ≠ some k) : MR w1 base v l := own_move h (fun k hk => hg.block k (own_lt h k hk) (fun e => hne k hk e.symm))
theorem blk_keptR {w w1 : World} {base g t : Nat} {u : Value} {o : List Int} {c : Array Value} (hk : Kept w w1 (fun k => some k = u.ownBlock)) (ho : RI w base u o) (hb : w.heap[g]? = some (.cells c t (0, 0))) (ht : 3 ≠ t) : w1.heap[g]? = some (.cells c t (0, 0)) := by
  rw [hk.2 g (blk_lt hb) (fun e => ?_)]
  · exact hb
  · obtain ⟨d, hd⟩ := ho.typed e.symm
    exact blk_ne hd hb ht rfl
theorem mr_keptR {w w1 : World} {base b2 : Nat} {u v : Value} {o : List Int} {l : List M4} (hk : Kept w w1 (fun k => some k = u.ownBlock)) (ho : RI w base u o) (h : MR w b2 v l) : MR w1 b2 v l := own_move h (fun k hkk => by
  obtain ⟨c, hc⟩ := own_typed h k hkk
  refine hk.2 k (blk_lt hc) (fun e => ?_)
  obtain ⟨d, hd⟩ := ho.typed e.symm
  exact blk_ne hd hc (by decide) rfl)
theorem setCell_size (w : World) (p : Addr) (u : Value) : (w.setCell p u).heap.size = w.heap.size := by simp [World.setCell]
theorem cf_one (j : Nat) : -1000000 ≤ cf [1] j ∧ cf [1] j ≤ 1000000 := by
  cases j with
  | zero => decide
  | succ j => show -1000000 ≤ (0 : Int) ∧ (0 : Int) ≤ 1000000; decide
theorem add_calls (u : Value) (o b : List Int) (y : Nat) (t : Int) (w0 w : World) (A : Option Addr) (c : Nat) (ht : t = 1 ∨ t = -1) (hol : o.length ≤ 1000) (hbl : b.length ≤ 1000) (hy : y ≤ 1000) (hoo : ∀ j, -1000000 ≤ cf o j ∧ cf o j ≤ 1000000) (hbb : ∀ j, -1000000 ≤ cf b j ∧ cf b j ≤ 1000000)
    (hB : Below w0.heap.size w0 w) (ho : RI w w0.heap.size u o) {base : Nat} (hlt : ∀ k, u.ownBlock = some k → k < base) (hb : RI w base (.slice A b.length c) b) :
    Calls Try.prog 83 #[u, .slice A b.length c, .int .i64 (y : Int), .int .i64 t] w fun e w' => ∃ v r, e = .returned v ∧ r.length ≤ max o.length (b.length + y) ∧ (∀ j, cf r j = cf o j + if y ≤ j then t * cf b (j - y) else 0) ∧ RI w' w0.heap.size v r ∧ Below w0.heap.size w0 w' ∧ Kept w w' (fun k => some k = u.ownBlock) := by
  obtain ⟨k, r, hr, hl, hc⟩ := add_some o b y t ht hol hbl hy hoo hbb
  have hb2 := (Kd.R_reads' hb).2.1
  refine (pack_add.calls k (fun k => some k = u.ownBlock) u o A c b (y : Int) t r w0 w hB (Kd.R_tight rfl ho) (fun W hW => ?_) hb2 hr).mono ?_
  · exact (Kd.R_reads' (Kd.R_kept (Kd.R_bound hb) hW (fun k hk e => by have := hlt k e.symm; have := hk.2.1; omega))).2.2
  · rintro e w' ⟨v, rfl, h1, h2, h3⟩
    exact ⟨v, r, rfl, hl, hc, Kd.R_mono h1 (fun _ _ => trivial), h2, h3⟩
theorem ge_append {v v1 : Value} {m n : Nat} (hat : v1.ownBlock = v.ownBlock ∨ ∃ b, v1.ownBlock = some b ∧ n ≤ b) (h : ∀ k, v.ownBlock = some k → m ≤ k) (hmn : m ≤ n) : ∀ k, v1.ownBlock = some k → m ≤ k := fun k hk => by
  rcases hat with h1 | ⟨b, h1, h2⟩
  · rw [h1] at hk; exact h k hk
  · rw [h1] at hk; injection hk with hk; omega
theorem cut25 (A : Option Addr) (c : Nat) (l : List Int) (m : Nat) (hm : m ≤ l.length) (hc : l.length ≤ c) (W : World) : (Instr.slice 25 (.slice A l.length c) none (some (.int .i64 (m : Int))) none).run Try.prog W = .ok (.slice A m c) W := by
  obtain ⟨i0, hi0, hz⟩ := Option.map_eq_some_iff.1 info3
  simp only [Prod.mk.injEq] at hz
  have h := (print_take_int (k := .i64) 25 3 Try.underlying25 hi0 hz.2.1 A c l (m : Int) (by omega) (by omega) hc).1 W
  rw [Int.toNat_natCast, List.length_take, Nat.min_eq_left hm] at h
  exact h
theorem eg84 (args : Array Value) (w : World) : (callFunc 84 args).run Try.prog w = .ok (.enter 84 args) w := enters_ Try.func84 (by kernel_rfl) rfl args w
theorem cN_small {G : List M4} (hG : Gd G) (hl : G.length ≤ 12) (j : Int) : -1000000 ≤ cN G j ∧ cN G j ≤ 1000000 := by
  have h1 := cN_bound G j
  have h2 : (2 : Int) ^ G.length ≤ 2 ^ 12 := by
    have : 2 ^ G.length ≤ 2 ^ 12 := Nat.pow_le_pow_right (by omega) hl
    exact_mod_cast this
  have h3 : (2 : Int) ^ 12 = 4096 := rfl
  omega
theorem num_zero (j : Nat) : (cf [] j + if 0 ≤ j then 1 * cf [1] (j - 0) else 0) = cN (List.take 0 ([] : List M4)) (j : Int) := by
  rw [List.take_nil, cN_nil, if_pos (Nat.zero_le _)]
  cases j with
  | zero => rfl
  | succ j => rw [if_neg (by omega)]; rfl
def degT (m : M4) : Nat → Int
  | 0 => 0
  | 1 => m.1
  | 2 => m.1 + m.2.1
  | 3 => m.1 + m.2.1 + m.2.2.1
  | _ => degM m
theorem degT_step {m : M4} (h : Nn m ∧ dv m six) : wrap64 (degT m 0 + m.1) = degT m 1 ∧ wrap64 (degT m 1 + m.2.1) = degT m 2 ∧ wrap64 (degT m 2 + m.2.2.1) = degT m 3 ∧ wrap64 (degT m 3 + m.2.2.2) = degT m 4 := by
  have h6 := Gd.six h
  simp only [degT, degM]
  refine ⟨?_, ?_, ?_, ?_⟩ <;> (rw [wrapS (by omega)]; try omega)
def NumC (N : Nat) : Prop := ∀ (g : Nat) (n : Int) (v : Value) (l : List M4) (w : World), IA w g n v l → l.length = N → N ≤ 12 → Gd l →
  Calls Try.prog 65 #[pt g] w fun e w' => ∃ v', e = .returned v' ∧ RI w' w.heap.size v' (numS l) ∧ Below w.heap.size w w'
set_option maxHeartbeats 4000000 in
set_option maxRecDepth 100000 in
theorem num_round (N : Nat) (ih : ∀ M, M < N → NumC M) : NumC N := by
  intro g n v l w h hN h12 hgd
  have HI := Aside0.mk h
  have HIH := Aside0.mk ih
  have HL := Aside0.mk (show l.length ≤ 12 by omega)
  have HNL := Aside0.mk hN
  have HB0 := Aside0.mk (Below.refl w.heap.size w)
  obtain ⟨G, hG⟩ : ∃ G, G = lstM divM l := ⟨_, rfl⟩
  have HGG := Aside0.mk hG
  have HGL : Aside0 (G.length ≤ l.length) := ⟨by rw [hG]; exact lstM_le divM l⟩
  have HGD : Aside0 (Gd G) := ⟨by rw [hG]; exact hgd.least⟩
  have HFIN : Aside0 (∀ o : List Int, (∀ j : Nat, cf o j = cN G (j : Int)) → (o ≠ [] → cf o (o.length - 1) ≠ 0) → o = numS l) := ⟨fun o h1 h2 => num_uniq hgd (fun j => by rw [h1, hG, cN_least]) h2⟩
  clear h hN h12 hgd hG ih
  show Calls Try.prog 65 #[.pointer (some ⟨g, 0, none⟩)] w _
  go_enter Try.func65, Try.ntmps65
  go_wp2_with (first | ((with_reducible refine gate_dst (N := 12) rfl ?_); refine Kd.R_lit (Kd.int .i64) (w0 := w) w.heap.size 3 ?hg (N := 12) ?hd (xs := [1]) (inner := [.int .i64 1]) (ok := fun _ => True) (okp := fun _ => True) ?hr ?hp (fun _ hk => hk) trivial (Below.refl _ _) (Nat.le_refl _) (by simp) ?_; (case hd => rfl); (case hg => rfl); (case hr => first | (go_simp; done) | (go_simp; rfl)); (case hp => exact (Reps.one rfl (Reps.none _ _))); intro v1 w1 h1 h2 h3 h4; clear h3 h4; obtain ⟨A1, c1, e1⟩ := Kd.R_slice h1; subst e1; have H1 := Aside0.mk h1; have H2 := Aside0.mk h2; clear h1 h2) | (go_at_call 83; refine (add_calls (.slice none 0 0) [] [1] 0 1 w _ A1 c1 (.inl rfl) (by simp) (by simp) (by omega) (fun j => by simp [cf]) cf_one H2.out (Kd.R_nil _ _ _ _ _) (fun k hk => by simp [Value.ownBlock] at hk) H1.out).mono ?_; rintro e w2 ⟨v2, o2, rfl, hl, hc, hr, hb, hk⟩; have HO2 := Aside0.mk hr; have HC2 := Aside0.mk hc; have HL2 := Aside0.mk hl; have HB2 := Aside0.mk hb; have HI2 := Aside0.mk (HI.out.below hb); have c0 := blk_cell HI2.out.blk 0; clear hr hc hl hb hk) | ((with_reducible refine gate_dst (N := 19) rfl ?_); refine box_event ?hg (N := 19) ?hd (cs := #[.int .i64 n, .slice none 0 0]) (t := 81) ?hr ?_; (case hd => rfl); (case hg => rfl); (case hr => first | (go_simp; done) | (go_simp; rfl)); intro gy hgy w3 hbox hb; have BY3 := Aside0.mk hbox; have HGY := Aside0.mk (show w.heap.size ≤ gy from by rw [hgy]; exact HB2.out.size); have HO3 := Aside0.mk (RI.below HO2.out hb); have HI3 := Aside0.mk (HI2.out.below hb); have HB3 := Aside0.mk (below_step HB2.out hb); clear hbox hgy hb) | (go_at_call 55; refine (minimal_calls g n _ l _ HI3.out (by have := HL.out; omega)).mono ?_; rintro e w4 ⟨g4, v4, rfl, hg, hm, hb⟩; obtain ⟨A4, c4, e4, -⟩ := hm.row.slice; subst e4; have HM4 := Aside0.mk hm.row; have BY4 := Aside0.mk (blk_below BY3.out hb); have HO4 := Aside0.mk (RI.below HO3.out hb); have HB4 := Aside0.mk (below_step HB3.out hb); have b0 := blk_cell hm.blk 0; have b1 := blk_cell hm.blk 1; clear hg hm hb))
  clear H1 H2 HO2 HB2 HI2 c0 BY3 HO3 HI3 HB3 b0 b1
  have HG0 : Aside0 (MR w4 w.heap.size (.slice none 0 0) (G.take 0)) := ⟨World.ownsRow_nil _ _ _ _⟩
  rw [← HGG.out] at HM4
  have HGE := Aside0.mk (show G.length = (lstM divM l).length from by rw [HGG.out])
  rw [← HGE.out]
  have HG4 := Aside0.mk (own_lt HM4.out)
  go_loopg [3, 6, 7, 8, 10, 26] G.length (fun kq v3 v6 v7 v8 v10 v26 wr => ∃ (i : Nat) (o : List Int) (vy : Value), v26 = .int .i64 (i : Int) ∧ Aside0 (i + kq = G.length) ∧ Aside0 (∀ j : Nat, cf o j = cN (G.take i) (j : Int)) ∧ Aside0 (o.length ≤ 49) ∧ Aside0 (RI wr w.heap.size v3 o) ∧ Aside0 (MR wr w.heap.size vy (G.take i)) ∧ Aside0 (wr.heap[gy]? = some (.cells #[.int .i64 n, vy] 81 (0, 0))) ∧ Aside0 (MR wr 0 (.slice A4 G.length c4) G) ∧ Aside0 (Below w.heap.size w wr) ∧ Aside0 (∀ k, vy.ownBlock = some k → w4.heap.size ≤ k) ∧ Aside0 (w4.heap.size ≤ wr.heap.size))
  case atStart => exact ⟨0, o2, _, rfl, ⟨by omega⟩, ⟨fun j => by rw [HC2.out]; rw [List.take_zero]; exact num_zero j⟩, ⟨by have := HL2.out; simp at this; omega⟩, HO4, HG0, BY4, HM4, HB4, ⟨fun k hk => by simp [Value.ownBlock] at hk⟩, ⟨Nat.le_refl _⟩⟩
  case round =>
    clear HC2 HL2 HO4 HG0 BY4 HM4 HB4 HB0
    obtain ⟨i, o, vy, rfl, HI2, HOC, HOL, HO, HVY, BY, HRG, HB, HVK, HSZ⟩ := hrel
    cases gk with
    | zero =>
      obtain rfl : i = G.length := by have := HI2.out; omega
      have hd : decide ((G.length : Int) < (G.length : Int)) = false := by simp
      have HFC : Aside0 (∀ j : Nat, cf o j = cN G (j : Int)) := ⟨fun j => by rw [HOC.out, List.take_length]⟩
      obtain ⟨A3, c3, e3⟩ := Kd.R_slice HO.out
      subst e3
      clear HOC HVY BY HRG HVK HSZ
      go_wp2
      go_loopg [3] o.length (fun kq v3 wr2 => ∃ (p : List Int) (A : Option Addr) (c : Nat), v3 = .slice A p.length c ∧ Aside0 (p.length ≤ kq) ∧ Aside0 (∀ j : Nat, cf p j = cN G (j : Int)) ∧ Aside0 (RI wr2 w.heap.size (.slice A p.length c) p) ∧ Aside0 (p.length ≤ 49) ∧ Aside0 (Below w.heap.size w wr2))
      case atStart => exact ⟨o, A3, c3, rfl, ⟨Nat.le_refl _⟩, HFC, HO, HOL, HB⟩
      case round =>
        clear HFC HO HOL HB
        obtain ⟨p, A, c, hv3, HPK, HPC, HP, HPL, HB⟩ := hrel
        rcases list_snoc p with rfl | ⟨q, x, rfl⟩
        · change _ = Value.slice A 0 c at hv3
          subst hv3
          have HFE : Aside0 (([] : List Int) = numS l) := ⟨HFIN.out [] HPC.out (fun h => absurd rfl h)⟩
          have HP2 : Aside0 (RI wr w.heap.size (.slice A 0 c) []) := HP
          clear HP
          go_wp2
          go_ret
          exact ⟨_, rfl, by rw [← HFE.out]; exact HP2.out, HB.out⟩
        · have hqc := (Kd.R_reads' HP.out).2.1
          obtain ⟨ad, hA, hcell⟩ := C_int_cell (Kd.R_reads' HP.out).2.2 (by simp)
          subst hA
          have hcm := hcell q.length (by simp)
          have hcut := fun W => cut25 (some ad) c (q ++ [x]) q.length (by simp) hqc W
          have HT := Aside0.mk (Kd.R_take HP.out (m := q.length) (by simp))
          have HX : Aside0 (cf (q ++ [x]) ((q ++ [x]).length - 1) = x) := ⟨by unfold cf; simp [List.getD_eq_getElem?_getD]⟩
          have hgx : (q ++ [x]).getD q.length 0 = x := by simp [List.getD_eq_getElem?_getD]
          rw [hgx] at hcm
          have htk : (q ++ [x]).take q.length = q := by simp
          rw [htk] at HT
          obtain ⟨L, hL⟩ : ∃ L, L = (q ++ [x]).length := ⟨_, rfl⟩
          have hLm : L = q.length + 1 := by rw [hL]; simp
          rw [← hL] at hv3 hcut hqc HP HPK HPL
          subst hv3
          have HFX := Aside0.mk (fun h => HFIN.out (q ++ [x]) HPC.out h)
          have HPC2 : x = 0 → Aside0 (∀ j : Nat, cf q j = cN G (j : Int)) := fun h => ⟨fun j => by rw [← HPC.out, h, cf_zero]⟩
          obtain ⟨m, hm⟩ : ∃ m, m = q.length := ⟨_, rfl⟩
          rw [← hm] at hcut hcm HT hLm
          have HMQ := Aside0.mk hm
          have d1 : (0 < L) = True := eq_true (by omega)
          have hw2 : wrap64 ((L : Int) - 1) = (m : Int) := by rw [wrapS (by have := HPL.out; omega)]; omega
          have p1 : (0 ≤ (m : Int)) = True := eq_true (by omega)
          have p2 : ((m : Int) < (L : Int)) = True := eq_true (by omega)
          have HLM := Aside0.mk hLm
          clear hcell hgx htk hL hm hqc hLm
          by_cases hx0 : x = 0
          · have d2 : (x == 0) = true := beq_iff_eq.2 hx0
            have HPC3 := HPC2 hx0
            clear hx0 HPC2 HFX HX
            cases gk with
            | zero => exact absurd HPK.out (by have := HLM.out; omega)
            | succ kq =>
              go_wp2
              go_roundg kq
              case measure => have := HPK.out; omega
              case rel => exact ⟨q, some ad, c, by rw [HMQ.out], ⟨by have := HPK.out; have := HLM.out; have := HMQ.out; omega⟩, HPC3, ⟨by rw [← HMQ.out]; exact HT.out⟩, ⟨by have := HPL.out; have := HLM.out; have := HMQ.out; omega⟩, HB⟩
          · have d2 : (x == 0) = false := beq_eq_false_iff_ne.2 hx0
            have HFE : Aside0 (q ++ [x] = numS l) := ⟨HFX.out (fun _ => by rw [HX.out]; exact hx0)⟩
            clear hx0 HPC2 HFX HX
            go_wp2
            go_ret
            exact ⟨_, rfl, by rw [← HFE.out]; exact HP.out, HB.out⟩
    | succ kq =>
      have hi : i < G.length := by have := HI2.out; omega
      have hq4 : ((i : Int) < (G.length : Int)) = True := eq_true (by omega)
      have hw1 : wrap64 ((i : Int) + 1) = ((i + 1 : Nat) : Int) := wrapS (by have := HGL.out; have := HL.out; omega)
      rcases HRG.out.cases with ⟨h1, h2⟩ | ⟨g2, c', hv, _, hlt, hc, hbig, hcells⟩
      · rw [h2] at hi; exact absurd hi (by simp)
      injection hv with hv1 hv2 hv3
      subst hv1
      subst hv3
      obtain ⟨⟨x0, x1, x2, x3⟩, hx⟩ : ∃ x, x = G[i]! := ⟨_, rfl⟩
      obtain ⟨s0, s1, s2, s3⟩ := mr_four hcells hi hx
      have HTK : Aside0 (G.take (i + 1) = G.take i ++ [(x0, x1, x2, x3)]) := ⟨by rw [List.take_add_one, List.getElem?_eq_getElem hi, hx, getElem!_pos G i hi]; rfl⟩
      have HXX : Aside0 (Nn (x0, x1, x2, x3) ∧ dv (x0, x1, x2, x3) six) := ⟨by rw [hx, getElem!_pos G i hi]; exact HGD.out _ (List.getElem_mem _)⟩
      have HTG : Aside0 (Gd (G.take i)) := ⟨HGD.out.take i⟩
      obtain ⟨OV, hOV⟩ : ∃ OV, lstM divM ((G.take i).map (subM (x0, x1, x2, x3))) = OV := ⟨_, rfl⟩
      have HOVE := Aside0.mk hOV
      have HOG : Aside0 (Gd OV) := ⟨by rw [← hOV, map_subM HXX.out HTG.out]; exact (Gd.over HXX.out.1 HTG.out).least⟩
      have HOL2 : Aside0 (OV.length < N ∧ OV.length ≤ 12) := ⟨by have h1 := lstM_le divM ((G.take i).map (subM (x0, x1, x2, x3))); rw [hOV, List.length_map, List.length_take] at h1; have := HGL.out; have := HL.out; have := HNL.out; omega⟩
      obtain ⟨B, hB⟩ : ∃ B, numS OV = B := ⟨_, rfl⟩
      have HBE := Aside0.mk hB
      have HBB : Aside0 (B.length ≤ 25 ∧ ∀ j, -1000000 ≤ cf B j ∧ cf B j ≤ 1000000) := ⟨by rw [← hB]; exact ⟨numS_len OV, numS_bound HOG.out HOL2.out.2⟩⟩
      obtain ⟨d, hdd⟩ : ∃ d : Nat, (d : Int) = degM (x0, x1, x2, x3) := ⟨(degM (x0, x1, x2, x3)).toNat, by have := degM_six HXX.out; omega⟩
      have HST : Aside0 (∀ o2 : List Int, (∀ j, cf o2 j = cf o j + if d ≤ j then (-1) * cf B (j - d) else 0) → ∀ j : Nat, cf o2 j = cN (G.take (i + 1)) (j : Int)) := ⟨fun o2 h => by
        rw [HTK.out]
        exact num_step HTG.out HXX.out HOC.out hdd (by rw [hOV, hB]; exact h)⟩
      clear hOV hB
      have HD : Aside0 (d ≤ 24) := ⟨by have := degM_six HXX.out; omega⟩
      have HOB : Aside0 ((∀ j, -1000000 ≤ cf o j ∧ cf o j ≤ 1000000) ∧ o.length ≤ 49) := ⟨fun j => by rw [HOC.out]; exact cN_small HTG.out (by rw [List.length_take]; have := HGL.out; have := HL.out; omega) _, HOL.out⟩
      obtain ⟨u0, u1, u2, u3⟩ := degT_step HXX.out
      have t0 : degT (x0, x1, x2, x3) 0 = 0 := rfl
      have t4 : degT (x0, x1, x2, x3) 4 = (d : Int) := hdd.symm
      obtain ⟨dT, hdT⟩ : ∃ dT, dT = degT (x0, x1, x2, x3) := ⟨_, rfl⟩
      rw [← hdT] at u0 u1 u2 u3 t0 t4
      dsimp only at u0 u1 u2 u3
      have HT0 := Aside0.mk t0
      have HT4 := Aside0.mk t4
      clear hcells hx hdd hdT t0 t4
      obtain ⟨A3, c3, hv3, -⟩ := HVY.out.slice
      obtain ⟨L3, hL3⟩ : ∃ L, L = (G.take i).length := ⟨_, rfl⟩
      rw [← hL3] at hv3
      subst hv3
      clear hL3
      go_wp2_with (first | ((with_reducible refine gate_dst (N := 6) rfl ?_); refine box_event ?hg (N := 6) ?hd (cs := #[.int .i64 0, .int .i64 0, .int .i64 0, .int .i64 0]) (t := 75) ?hr ?_; (case hd => rfl); (case hg => rfl); (case hr => first | (go_simp; done) | (go_simp; rfl)); intro gm hgm w5 hbox hb; have o0 := blk_cell hbox 0; have o1 := blk_cell hbox 1; have o2 := blk_cell hbox 2; have o3 := blk_cell hbox 3; have z0 := blk_frozen hbox 0; have z1 := blk_frozen hbox 1; have z2 := blk_frozen hbox 2; have z3 := blk_frozen hbox 3; have BM5 := Aside0.mk hbox; have HGM := Aside0.mk (show gm = wr.heap.size from hgm); have HBW := Aside0.mk hb; clear hbox hb hgm) | (go_at_call 60; have bm := set4_blk BM5.out (x0, x1, x2, x3); have by5 := (set4_far (W := w5) (g := gm) (k := gy) (by rw [HGM.out]; exact Nat.ne_of_lt (blk_lt BY.out)) (x0, x1, x2, x3)).trans (blk_below BY.out HBW.out); have hvy := (HVY.out.below HBW.out).set4 (g := gm) (fun k hk e => by rw [e, HGM.out] at hk; exact absurd (own_lt HVY.out _ hk) (Nat.lt_irrefl _)) (x0, x1, x2, x3); have hrg := (HRG.out.below HBW.out).set4 (g := gm) (fun k hk e => by rw [e, HGM.out] at hk; exact absurd (own_lt HRG.out _ hk) (Nat.lt_irrefl _)) (x0, x1, x2, x3); have hbb := set4_below (g := gm) (below_step HB.out HBW.out) (by rw [HGM.out]; exact HB.out.size) (x0, x1, x2, x3); have hsz := Nat.le_trans HSZ.out (set4_below (g := gm) HBW.out (by rw [HGM.out]; exact Nat.le_refl _) (x0, x1, x2, x3)).size; have ho5 := RI.set4 (RI.below HO.out HBW.out) (g := gm) (fun k hk e => by rw [e, HGM.out] at hk; exact absurd (Kd.R_lt HO.out _ hk) (Nat.lt_irrefl _)) (x0, x1, x2, x3); refine (changed_calls (subM (x0, x1, x2, x3)) 84 #[pt gm] gy n _ (G.take i) _ ⟨by5, hvy.zero⟩ (by rw [List.length_take]; have := HGL.out; have := HL.out; omega) eg84 (fun W m hW => sub84_calls m (x0, x1, x2, x3) gm W (blk_below bm hW))).mono ?_; rintro e w6 ⟨g6, v6, rfl, hg, hm, hb⟩; rw [HOVE.out] at hm; have HOV := Aside0.mk hm; have BM6 : Aside0 (w6.heap[gm]? = some (.cells #[.int .i64 x0, .int .i64 x1, .int .i64 x2, .int .i64 x3] 75 (0, 0))) := ⟨blk_below bm hb⟩; have BY6 := Aside0.mk (blk_below by5 hb); have HVY6 := Aside0.mk (hvy.below hb); have HRG6 := Aside0.mk (hrg.below hb); have HO6 := Aside0.mk (RI.below ho5 hb); have HB6 := Aside0.mk (below_step hbb hb); have HSZ6 := Aside0.mk (Nat.le_trans hsz hb.size); have q0 := blk_cell BM6.out 0; have q1 := blk_cell BM6.out 1; have q2 := blk_cell BM6.out 2; have q3 := blk_cell BM6.out 3; clear hg hm hb bm by5 hvy hrg hbb ho5 hsz))
      clear HBW BM5 HGM HVY HRG HB BY HO
      go_loopg [8, 10, 34] 4 (fun kq2 v8 v10 v34 wr2 => ∃ (a : Nat), v34 = .int .i64 (a : Int) ∧ v8 = .int .i64 (dT a) ∧ Aside0 (a + kq2 = 4) ∧ wr2 = w6)
      case atStart => exact ⟨0, rfl, by rw [HT0.out], ⟨rfl⟩, rfl⟩
      case round =>
        obtain ⟨a, hv34, hv8, HA, rfl⟩ := hrel
        cases gk with
        | zero =>
          obtain rfl : a = 4 := by have := HA.out; omega
          change _ = Value.int .i64 4 at hv34
          subst hv34
          rw [HT4.out] at hv8
          subst hv8
          go_wp2_with (first | (go_at_call 65; refine (HIH.out OV.length HOL2.out.1 g6 n _ OV _ HOV.out rfl HOL2.out.2 HOG.out).mono ?_; rintro e w7 ⟨v7, rfl, hr, hb⟩; rw [HBE.out] at hr; obtain ⟨A7, c7, e7⟩ := Kd.R_slice hr; subst e7; have HR7 := Aside0.mk hr; have HB7 := Aside0.mk hb; clear hr hb) | (go_at_call 83; refine (add_calls _ o B d (-1) w _ A7 c7 (.inr rfl) (by have := HOB.out.2; omega) (by have := HBB.out.1; omega) (by have := HD.out; omega) HOB.out.1 HBB.out.2 (below_step HB6.out HB7.out) (RI.below HO6.out HB7.out) (fun k hk => Kd.R_lt HO6.out k hk) HR7.out).mono ?_; rintro e w8 ⟨v8, o8, rfl, hl, hc, hr, hb, hk⟩; have HC8 := Aside0.mk (HST.out o8 hc); have HL8 := Aside0.mk (show o8.length ≤ 49 from by have h1 := HBB.out.1; have h2 := HOB.out.2; have h3 := HD.out; omega); have ho7 := RI.below HO6.out HB7.out; have BY8 := Aside0.mk (blk_keptR hk ho7 (blk_below BY6.out HB7.out) (by decide)); have BM8 := Aside0.mk (blk_keptR hk ho7 (blk_below BM6.out HB7.out) (by decide)); have HVY8 := Aside0.mk (mr_keptR hk ho7 (HVY6.out.below HB7.out)); have HRG8 := Aside0.mk (mr_keptR hk ho7 (HRG6.out.below HB7.out)); have HSZ8 := Aside0.mk (Nat.le_trans HSZ6.out (Nat.le_trans HB7.out.size hk.1)); have HO8 := Aside0.mk hr; have HB8 := Aside0.mk hb; clear hl hc hr hb hk ho7))
          have fz := blk_frozen BY8.out 1
          clear HO6 HVY6 HRG6 HB6 BM6 BY6 HR7 HB7 q0 q1 q2 q3
          refine start_ (n := 11) (S := fun w' => w'.cell? ⟨gy, 1, none⟩ = some (.slice A3 L3 c3) ∧ w'.cell? ⟨gm, 0, none⟩ = some (.int .i64 x0) ∧ w'.cell? ⟨gm, 1, none⟩ = some (.int .i64 x1) ∧ w'.cell? ⟨gm, 2, none⟩ = some (.int .i64 x2) ∧ w'.cell? ⟨gm, 3, none⟩ = some (.int .i64 x3)) (ds := [7, 10]) #[false, false, false, false, false, false, false, false, false, false, false] (by kernel_rfl) rfl rfl ⟨blk_cell (blk_drew BY8.out) 1, blk_cell (blk_drew BM8.out) 0, blk_cell (blk_drew BM8.out) 1, blk_cell (blk_drew BM8.out) 2, blk_cell (blk_drew BM8.out) 3⟩ (fun hHeld => ?_)
          refine pure_ (i := 0) (N := some 46) (v := ?_) (a' := ?_) #[true, false, false, false, false, false, false, false, false, false, false] rfl rfl (by kernel_rfl) (fun _ _ _ h => h) (Or.inl ⟨by rfl, ?_⟩) ?_ ?_
          rotate_left
          · intro w'
            go_simp
            with_reducible rfl
          rotate_left
          · simp only [Act.put, List.setIfInBounds_toArray, List.set_cons_zero, List.set_cons_succ, i64_w, i32_w]
            rfl
          refine pure_ (i := 1) (N := some 47) (v := ?_) (a' := ?_) #[true, true, false, false, false, false, false, false, false, false, false] rfl rfl (by kernel_rfl) (fun _ _ _ h => h) (Or.inl ⟨by rfl, ?_⟩) ?_ ?_
          rotate_left
          · intro w'
            go_simp
            with_reducible rfl
          rotate_left
          · simp only [Act.put, List.setIfInBounds_toArray, List.set_cons_zero, List.set_cons_succ, i64_w, i32_w]
            rfl
          refine pure_ (i := 2) (N := some 48) (v := ?_) (a' := ?_) #[true, true, true, false, false, false, false, false, false, false, false] rfl rfl (by kernel_rfl) (fun _ _ _ h => h) (Or.inl ⟨by rfl, ?_⟩) ?_ ?_
          rotate_left
          · intro w'
            go_simp
            with_reducible rfl
          rotate_left
          · simp only [Act.put, List.setIfInBounds_toArray, List.set_cons_zero, List.set_cons_succ, i64_w, i32_w]
            rfl
          refine pure_ (i := 3) (N := some 49) (v := ?_) (a' := ?_) #[true, true, true, true, false, false, false, false, false, false, false] rfl rfl (by kernel_rfl) (fun _ _ _ h => h) (Or.inl ⟨by rfl, ?_⟩) ?_ ?_
          rotate_left
          · intro w'
            go_simp
            with_reducible rfl
          rotate_left
          · simp only [Act.put, List.setIfInBounds_toArray, List.set_cons_zero, List.set_cons_succ, i64_w, i32_w]
            rfl
          refine take_ (i := 4) (N := some 50) (v := ?_) (a' := ?_) #[true, true, true, true, true, false, false, false, false, false, false] rfl rfl (by kernel_rfl) (fun _ _ _ h => h) (Or.inl ⟨by rfl, ?_⟩) hHeld ?_ ?_
          rotate_left
          · rintro w' ⟨s0, s1, s2, s3, s4⟩
            go_simp
            with_reducible rfl
          rotate_left
          · simp only [Act.put, List.setIfInBounds_toArray, List.set_cons_zero, List.set_cons_succ, i64_w, i32_w]
            rfl
          refine take_ (i := 5) (N := some 51) (v := ?_) (a' := ?_) #[true, true, true, true, true, true, false, false, false, false, false] rfl rfl (by kernel_rfl) (fun _ _ _ h => h) (Or.inl ⟨by rfl, ?_⟩) hHeld ?_ ?_
          rotate_left
          · rintro w' ⟨s0, s1, s2, s3, s4⟩
            go_simp
            with_reducible rfl
          rotate_left
          · simp only [Act.put, List.setIfInBounds_toArray, List.set_cons_zero, List.set_cons_succ, i64_w, i32_w]
            rfl
          refine one_ (i := 6) (N := some 52) #[true, true, true, true, true, true, true, false, false, false, false] rfl rfl (by kernel_rfl) (by decide) (fun K hK => ?_)
          refine value_ (w1 := ?_) (v := ?_) (by rfl) rfl ?_ ?_
          rotate_left 2
          · go_simp
            constructor
            · rfl
            · rfl
          refine hK.out _ _ ⟨blk_cell (blk_alloc (blk_drew BY8.out) _) 1, blk_cell (blk_alloc (blk_drew BM8.out) _) 0, blk_cell (blk_alloc (blk_drew BM8.out) _) 1, blk_cell (blk_alloc (blk_drew BM8.out) _) 2, blk_cell (blk_alloc (blk_drew BM8.out) _) 3⟩ (fun hHeld => ?_)
          clear hK K
          refine norm_ (a' := ?_) ?_ ?_
          rotate_left
          · show Act.put _ (some 52) _ = _
            simp only [Act.put, List.setIfInBounds_toArray, List.set_cons_zero, List.set_cons_succ, i64_w, i32_w]
            rfl
          refine last_ (i := 7) (N := some 53) #[true, true, true, true, true, true, true, true, false, false, false] rfl rfl (by kernel_rfl) (by decide) (fun K hK => ?_)
          refine MR_append_step (w0 := w) (W := w8.drew) w.heap.size (by rfl) (.tmp 50) (.tmp 52) rfl (.slice A3 L3 c3) (G.take i) (x0, x1, x2, x3) rfl rfl HVY8.out.drew (below_drew1 HB8.out) (below_drew1 HB8.out).size (by rw [List.length_take]; have := HGL.out; have := HL.out; omega) ?_
          intro v9 w9 ho hb hg hat
          have HV9 := Aside0.mk ho
          have HB9 := Aside0.mk hb
          have BY9 := Aside0.mk (blk_grownMR hg HVY8.out.drew (blk_drew BY8.out) (by decide))
          have HO9 := Aside0.mk (RI.grown (RI.drew HO8.out) hg HVY8.out.drew)
          have HRG9 := Aside0.mk (MR.grown2 HRG8.out.drew hg HVY8.out.drew (fun k hk e => absurd (HVK.out k e) (Nat.not_le_of_lt (HG4.out k hk))))
          have HVK9 := Aside0.mk (ge_append hat HVK.out HSZ8.out)
          have HSZ9 := Aside0.mk (Nat.le_trans HSZ8.out (show w8.heap.size ≤ w9.heap.size from hg.size))
          obtain ⟨A9, c9, e9, -⟩ := ho.slice
          obtain ⟨L9, hL9⟩ : ∃ L, L = (G.take i ++ [(x0, x1, x2, x3)]).length := ⟨_, rfl⟩
          rw [← hL9] at e9
          subst e9
          clear ho hb hg hat hL9 fz
          have cx := blk_cell BY9.out 1
          have fx := blk_frozen BY9.out 1
          refine hK.out _ _ ?_
          clear hK K
          refine norm_ (a' := ?_) ?_ ?_
          rotate_left
          · show Act.put _ (some 53) _ = _
            simp only [Act.put, List.setIfInBounds_toArray, List.set_cons_zero, List.set_cons_succ, i64_w, i32_w]
            rfl
          refine pure_ (i := 8) (N := some 54) (v := ?_) (a' := ?_) #[true, true, true, true, true, true, true, true, true, false, false] rfl rfl (by kernel_rfl) (fun _ _ _ h => h) (Or.inl ⟨by rfl, ?_⟩) ?_ ?_
          rotate_left
          · intro w'
            go_simp
            with_reducible rfl
          rotate_left
          · simp only [Act.put, List.setIfInBounds_toArray, List.set_cons_zero, List.set_cons_succ, i64_w, i32_w]
            rfl
          refine pure_ (i := 9) (N := some 55) (v := ?_) (a' := ?_) #[true, true, true, true, true, true, true, true, true, true, false] rfl rfl (by kernel_rfl) (fun _ _ _ h => h) (Or.inl ⟨by rfl, ?_⟩) ?_ ?_
          rotate_left
          · intro w'
            go_simp
            with_reducible rfl
          rotate_left
          · simp only [Act.put, List.setIfInBounds_toArray, List.set_cons_zero, List.set_cons_succ, i64_w, i32_w]
            rfl
          refine last_ (i := 10) (N := none) #[true, true, true, true, true, true, true, true, true, true, true] rfl rfl (by kernel_rfl) (by decide) (fun K hK => ?_)
          refine skip_ (w1 := ?_) (by rfl) rfl ?_ ?_
          rotate_left
          · go_simp
            rfl
          refine hK.out _ _ ?_
          clear hK K
          refine done_ (by kernel_rfl) ?_
          go_wp2
          go_roundg kq
          case measure => have := HI2.out; omega
          case rel => exact ⟨i + 1, o8, .slice A9 L9 c9, by first | rfl | rw [hw1], ⟨by have := HI2.out; omega⟩, HC8, HL8, ⟨RI.setO HO9.out BY9.out (by decide) 1 _⟩, ⟨by rw [HTK.out]; exact mr_setOther HV9.out BY9.out (by decide) 1 _⟩, ⟨blk_put BY9.out 1 _ rfl⟩, ⟨mr_setOther HRG9.out BY9.out (by decide) 1 _⟩, ⟨below_set HB9.out HGY.out⟩, HVK9, ⟨by rw [setCell_size]; exact HSZ9.out⟩⟩
        | succ kq2 =>
          rcases (show a = 0 ∨ a = 1 ∨ a = 2 ∨ a = 3 by have := HA.out; omega) with rfl | rfl | rfl | rfl
          · change _ = Value.int .i64 0 at hv34
            subst hv34
            subst hv8
            have ix : ∀ W, (Instr.index 75 (.agg #[.int .i64 x0, .int .i64 x1, .int .i64 x2, .int .i64 x3]) (.int .i64 0)).run Try.prog W = .ok (.int .i64 x0) W := fun W => idx75 x0 x1 x2 x3 0 (by omega) _ rfl W
            go_wp2
            go_roundg kq2
            case measure => have := HA.out; omega
            case rel => exact ⟨0 + 1, rfl, by first | rfl | (rw [u0]), ⟨by have := HA.out; omega⟩, rfl⟩
          · change _ = Value.int .i64 1 at hv34
            subst hv34
            subst hv8
            have ix : ∀ W, (Instr.index 75 (.agg #[.int .i64 x0, .int .i64 x1, .int .i64 x2, .int .i64 x3]) (.int .i64 1)).run Try.prog W = .ok (.int .i64 x1) W := fun W => idx75 x0 x1 x2 x3 1 (by omega) _ rfl W
            go_wp2
            go_roundg kq2
            case measure => have := HA.out; omega
            case rel => exact ⟨1 + 1, rfl, by first | rfl | (rw [u1]), ⟨by have := HA.out; omega⟩, rfl⟩
          · change _ = Value.int .i64 2 at hv34
            subst hv34
            subst hv8
            have ix : ∀ W, (Instr.index 75 (.agg #[.int .i64 x0, .int .i64 x1, .int .i64 x2, .int .i64 x3]) (.int .i64 2)).run Try.prog W = .ok (.int .i64 x2) W := fun W => idx75 x0 x1 x2 x3 2 (by omega) _ rfl W
            go_wp2
            go_roundg kq2
            case measure => have := HA.out; omega
            case rel => exact ⟨2 + 1, rfl, by first | rfl | (rw [u2]), ⟨by have := HA.out; omega⟩, rfl⟩
          · change _ = Value.int .i64 3 at hv34
            subst hv34
            subst hv8
            have ix : ∀ W, (Instr.index 75 (.agg #[.int .i64 x0, .int .i64 x1, .int .i64 x2, .int .i64 x3]) (.int .i64 3)).run Try.prog W = .ok (.int .i64 x3) W := fun W => idx75 x0 x1 x2 x3 3 (by omega) _ rfl W
            go_wp2
            go_roundg kq2
            case measure => have := HA.out; omega
            case rel => exact ⟨3 + 1, rfl, by first | rfl | (rw [u3]), ⟨by have := HA.out; omega⟩, rfl⟩
theorem numC : ∀ N, NumC N := fun N => Nat.strongRecOn N (fun N ih => num_round N ih)
theorem num_calls (g : Nat) (n : Int) (v : Value) (l : List M4) (w : World) (h : IA w g n v l) (hl : l.length ≤ 12) (hG : Gd l) :
    Calls Try.prog 65 #[pt g] w fun e w' => ∃ v', e = .returned v' ∧ RI w' w.heap.size v' (numS l) ∧ Below w.heap.size w w' := numC l.length g n v l w h rfl hl hG
end Go.Proofs.Ytjkfjnempofihaa.Fi
