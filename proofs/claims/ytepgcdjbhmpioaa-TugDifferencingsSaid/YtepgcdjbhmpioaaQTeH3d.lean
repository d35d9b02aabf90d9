/- The calls of the closure of Teams. -/
import Derived.Test.YtepgcdjbhmpioaaQTeH3c
namespace Go.Proofs.Ytepgcdjbhmpioaa.Fi
open Go.RowKit Go.Proofs.YtepgcdjbhmpioaaW.PrintWords Go.Proofs.YtepgcdjbhmpioaaW.PrintLast Go.Proofs.YtepgcdjbhmpioaaW.PrintMore
set_option linter.unusedVariables false
set_option linter.unusedSimpArgs false
/-- What the rounds hold after some teams were tried. -/
def accT (k : Nat) (p : Int) (ps : List Int) (pre : List Nat) (sums : List Int) (used : Nat) (acc : Int × List Nat) (t : Nat) : Int × List Nat := (List.range t).foldl (fun acc t => if acc.1 < 0 ∨ sums.getD t 0 + p < acc.1 then asgS k ps (pre ++ [t]) (sums.set t (sums.getD t 0 + p)) (max used (t + 1)) acc else acc) acc
theorem accT_succ (k : Nat) (p : Int) (ps : List Int) (pre : List Nat) (sums : List Int) (used : Nat) (acc : Int × List Nat) (t : Nat) : accT k p ps pre sums used acc (t + 1) = if (accT k p ps pre sums used acc t).1 < 0 ∨ sums.getD t 0 + p < (accT k p ps pre sums used acc t).1 then asgS k ps (pre ++ [t]) (sums.set t (sums.getD t 0 + p)) (max used (t + 1)) (accT k p ps pre sums used acc t) else accT k p ps pre sums used acc t := by
  unfold accT
  rw [List.range_succ, List.foldl_append]
  rfl
theorem sum_cell {w0 W : World} {K : TK} {A0 : Option Addr} {c0 : Nat} {pl : List Int} {k : Nat} {acc : Int × List Nat} {vo : Value} {sums : List Int} (h : TI w0 W K A0 c0 pl k acc vo sums) {t : Nat} (ht : t < sums.length) : W.cell? ⟨K.gs, t, none⟩ = some (.int .i64 (sums.getD t 0)) := by
  rw [blk_cell h.hs t]
  simp [ints, List.getD_eq_getElem?_getD, List.getElem?_eq_getElem ht]
theorem goesC_ {P : Go.Program} {ops : Array Oper} {Q : Exit → Act → World → Prop} {oi : Oper} {N : Option Tmp} {a : Act} {w : World} {K : Act → World → Prop} {f : FuncId} {fn : Func} {o : Operand} {os : Array Operand} {ts : Array TypeId} {caps : Array Value} (hf : P.funcs[f]? = some fn) (hname : (fn.name == "runtime.NumGoroutine") = false) (hb : fn.body.isSome = true) (args : Array Value)
    (hw : Region.wanted oi (yielded ops a.tmps) = true) (hN : oi.dst = N) (hop : oi.op = .call { callee := .value o, args := os, argTypes := ts }) (ho : a.eval o = .func (.func f) #[] caps) (hargs : os.map a.eval ++ caps = args)
    (h : Calls P f args w fun e w' => ∃ v, e = .returned v ∧ K (a.put N v) w') : if Region.wanted oi (yielded ops a.tmps) = true then Oper.wp P oi a w K Q else K (a.put N undef) w := by
  refine call_ f args hw hN ?_ h
  have he := enters_ hf hname hb args w
  unfold execOp
  simp [hop, resolve, Deferred.ofValue, invoke, ho, hargs, he]
theorem toZ_snoc (q : List Nat) (i : Nat) : toZ (q ++ [i]) = toZ q ++ [(i : Int)] := by simp [toZ]
section
variable {P : Program} {ops : Array Oper} {o : Oper} {a : Act} {Q : Exit → Act → World → Prop} {Kc : Act → World → Prop}
theorem team_step {W : World} (hw : Region.wanted o (yielded ops a.tmps) = true) (hty : o.type = 22) (base : Nat) (s x : Operand) (ho : o.op = .call { callee := .builtin .append, args := #[s, x], argTypes := #[22, 22] }) (v : Value) (l : List Int) (y : Int) (hs : a.eval s = v) (hx : a.eval x = .slice (some ⟨W.heap.size, 0, none⟩) 1 1) (HO : TRow W base v l) (hbase : base ≤ W.heap.size) (hl : l.length ≤ 1000)
    (h : ∀ v1 w1, TRow w1 base v1 (l ++ [y]) → W.grownBy w1 v.ownBlock → (v1.ownBlock = v.ownBlock ∨ ∃ b, v1.ownBlock = some b ∧ W.heap.size ≤ b) → RowKept W w1 v l.length → Kc (a.put o.dst v1) w1) :
    if Region.wanted o (yielded ops a.tmps) = true then Oper.wp Try.prog o a (W.alloc (.cells #[.int .i64 y] 3)) Kc Q else Kc (a.put o.dst undef) (W.alloc (.cells #[.int .i64 y] 3)) := by
  rw [if_pos hw]
  obtain ⟨v1, w1, hr, h1, h2, h3, h4⟩ := team_append W base v l y HO hbase hl
  unfold Oper.wp execOp
  simp only [ho, hty, resolve, invoke, builtin, Sem.run_bind, Sem.run_pure, Result.andThen_ok, List.map_toArray, List.map_cons, List.map_nil, hs, hx, hr]
  exact h v1 w1 h1 h2 h3 h4
end
section
variable {w0 W W4 W5 : World} {Z : TK} {A0 : Option Addr} {c0 : Nat} {pl : List Int} {k n : Nat} {acc : Int × List Nat} {v v4 vo vi : Value} {sums l : List Int} {x : Int}
theorem team_next (hT : TI w0 W Z A0 c0 pl k acc vo sums) (hv : TRow W w0.heap.size v l) (hva : Apart Z v vo) (hg : W.grownBy W4 v.ownBlock) (hat : v4.ownBlock = v.ownBlock ∨ ∃ b, v4.ownBlock = some b ∧ W.heap.size ≤ b) (hk : RowKept W W4 v l.length) : TI w0 W4 Z A0 c0 pl k acc vo sums ∧ Apart Z v4 vo ∧ TStep W W4 Z v vo vo l.length := by
  have hlt := hT.lts
  refine ⟨hT.move hg (hT.bel.grown hg hT.bel.size (fun q hq => (hv.lt hq).1)) (fun q hq => ?_), fun q hq => ?_, ⟨hg.size, fun q hq _ _ _ hr => hg.block q hq hr, hk, .inl rfl⟩⟩
  · obtain ⟨cur, hc⟩ := hv.cells hq
    obtain ⟨b1, b2, b3, b4⟩ := hva q hq
    exact ⟨blk_ne hc hT.hp (by decide), b1, blk_ne hc hT.ho (by decide), b2, blk_ne hc hT.ha (by decide), b3, b4⟩
  · rcases hat with e | ⟨b, e, hb⟩
    · exact hva q (by rw [← e]; exact hq)
    · rw [e] at hq
      obtain rfl : b = q := by simpa using hq
      refine ⟨by omega, by omega, by omega, fun e' => ?_⟩
      have := (hT.out.lt e'.symm).2
      omega
theorem team_back (h1 : TStep W W4 Z v vo vo n) (h2 : TStep W4 W5 Z v4 vo vi (n + 1)) (hat : v4.ownBlock = v.ownBlock ∨ ∃ b, v4.ownBlock = some b ∧ W.heap.size ≤ b) (hT : TI w0 W4 Z A0 c0 pl k acc vo sums) (hva : Apart Z v vo) (hv : TRow W w0.heap.size v l) : TStep W W5 Z v vo vi n := by
  refine ⟨Nat.le_trans h1.size h2.size, fun q a b c d e => (h2.keep q (Nat.lt_of_lt_of_le a h1.size) b c d ?_).trans (h1.keep q a b c d e), h1.row.trans ?_, ?_⟩
  · rcases hat with e' | ⟨g, e', hg⟩
    · rw [e']; exact e
    · rw [e']; intro e2; injection e2 with e2; omega
  · rcases hat with e' | ⟨g, e', hg⟩
    · exact (h2.row.less (by omega)).congr e'.symm
    · intro q cur hq hcur
      have hlt := (hv.lt hq).2
      obtain ⟨b1, b2, b3, b4⟩ := hva q hq
      refine ⟨cur, (h2.keep q (Nat.lt_of_lt_of_le hlt h1.size) b1 (blk_ne hcur hT.ho (by decide)) b3 ?_).trans hcur, rfl, rfl⟩
      rw [e']; intro e2; injection e2 with e2; omega
  · rcases h2.new with h | h
    · exact .inl h
    · exact .inr fun q hq => Nat.le_trans h1.size (h q hq)
theorem Apart.next (h : Apart Z v vo) (hv : TRow W w0.heap.size v l) (hn : vi = vo ∨ ∀ q, vi.ownBlock = some q → W.heap.size ≤ q) : Apart Z v vi := by
  rcases hn with rfl | hn
  · exact h
  · intro q hq
    obtain ⟨b1, b2, b3, _⟩ := h q hq
    refine ⟨b1, b2, b3, fun e => ?_⟩
    have := hn q e.symm
    have := (hv.lt hq).2
    omega
end
set_option maxHeartbeats 2000000 in
set_option maxRecDepth 100000 in
theorem assign_step (w0 : World) (Z : TK) (A0 : Option Addr) (c0 : Nat) (pl : List Int) (k : Nat) (hok : OkL 10 pl) (hk : 1 ≤ k ∧ k ≤ 4) (hr0 : Kd.C (Kd.int .i64) w0 A0 pl.length pl) (had : Z.Ad w0.heap.size) (n : Nat) (hn : n < pl.length)
    (ih : ∀ (pre : List Nat) (sums : List Int) (used : Nat) (acc : Int × List Nat) (v vo : Value) (W : World), pre.length = n + 1 → sums.length = k → (∀ j, 0 ≤ sums.getD j 0 ∧ sums.getD j 0 ≤ 1000000 * ((n + 1 : Nat) : Int)) → used ≤ k → TI w0 W Z A0 c0 pl k acc vo sums → TRow W w0.heap.size v (toZ pre) → Apart Z v vo →
      Calls Try.prog 51 (aArgs Z v k used) W (APost w0 W Z A0 c0 pl k v vo sums (n + 1) (asgS k (pl.drop (n + 1)) pre sums used acc)))
    (pre : List Nat) (sums : List Int) (used : Nat) (acc : Int × List Nat) (v vo : Value) (W : World)
    (hpre : pre.length = n) (hsl : sums.length = k) (hs0 : ∀ j, 0 ≤ sums.getD j 0 ∧ sums.getD j 0 ≤ 1000000 * (n : Int)) (hused : used ≤ k) (hT : TI w0 W Z A0 c0 pl k acc vo sums) (hv : TRow W w0.heap.size v (toZ pre)) (hva : Apart Z v vo) :
    Calls Try.prog 51 (aArgs Z v k used) W (APost w0 W Z A0 c0 pl k v vo sums n (asgS k (pl.drop n) pre sums used acc)) := by
  obtain ⟨A, c, rfl, hc, hC⟩ := hv.reads (by rw [toZ_length, hpre]; have := hok.2.1; omega)
  obtain ⟨p, hp⟩ : ∃ p, p = pl.getD n 0 := ⟨_, rfl⟩
  have hdrop : pl.drop n = p :: pl.drop (n + 1) := by rw [hp, List.getD_eq_getElem?_getD, List.getElem?_eq_getElem hn]; exact List.drop_eq_getElem_cons hn
  have hpb : 1 ≤ p ∧ p ≤ 1000000 := by rw [hp]; exact hok.2.2 _ (getD_mem hn)
  obtain ⟨ad, rfl, hcell⟩ := C_int_cell hr0 (by omega)
  have hcp := hcell n hn
  rw [← hp] at hcp
  have HCP := Aside0.mk hcp
  have HDR := Aside0.mk hdrop
  have HPB := Aside0.mk hpb
  have HPRE := Aside0.mk hpre
  have HN := Aside0.mk hn
  have HN10 : Aside0 (n < 10) := ⟨by have := hok.2.1; omega⟩
  have HSL := Aside0.mk hsl
  have HK := Aside0.mk hk
  have HS0 := Aside0.mk hs0
  have HUS := Aside0.mk hused
  have HIH := Aside0.mk ih
  have HT := Aside0.mk hT
  have HV := Aside0.mk hv
  have HVA := Aside0.mk hva
  have HAD := Aside0.mk had
  have d1 := blk_cell hT.hp 0
  have d3 := blk_cell hT.hk 0
  obtain ⟨L, hL⟩ : ∃ L, L = (toZ pre).length := ⟨_, rfl⟩
  have HL : Aside0 (L = n) := ⟨by rw [hL, toZ_length, hpre]⟩
  have hlen : ((L : Int) == (pl.length : Int)) = false := beq_eq_false_iff_ne.2 (by rw [HL.out]; omega)
  rw [← hL] at HV HVA ⊢
  obtain ⟨M, hM⟩ : ∃ M, M = min (used + 1) k := ⟨_, rfl⟩
  have HM := Aside0.mk hM
  have hw1 : wrap64 ((used : Int) + 1) = ((used + 1 : Nat) : Int) := wrapS (by omega)
  clear hr0 hcell hcp hdrop hpb hpre hn hsl hk hs0 ih hT hv hva had hL hp hc hC hok hM hused
  unfold aArgs
  go_enter Try.func51, Try.ntmps51
  go_wp2
  · obtain ⟨X, hX⟩ : ∃ X : Int, X = (k : Int) := ⟨_, rfl⟩
    have HX : Aside0 (X = (M : Int)) := ⟨by rw [hX, HM.out]; omega⟩
    rw [← hX]
    clear hX h hw1 hlen d1 d3
    go_loopg [36] M (fun kq v36 wr => ∃ (i : Nat) (vi : Value), v36 = .int .i64 (i : Int) ∧ Aside0 (i + kq = M) ∧ Aside0 (TI w0 wr Z (some ad) c0 pl k (accT k p (pl.drop (n + 1)) pre sums used acc i) vi sums) ∧ Aside0 (TStep W wr Z (.slice A L c) vo vi n))
    case atStart => exact ⟨0, vo, rfl, ⟨by omega⟩, HT, ⟨TStep.refl _ _ _ _ _⟩⟩
    case round =>
      obtain ⟨i, vi, rfl, HI, HTI, HST⟩ := hrel
      cases gk with
      | zero =>
        have hd : decide ((i : Int) < X) = false := by rw [HX.out]; exact decide_eq_false (by have := HI.out; omega)
        go_wp2
        refine ⟨rfl, .tuple #[], results_none rfl _ _ _, ?_⟩
        refine ⟨rfl, vi, ?_, HST.out⟩
        obtain rfl : i = M := by have := HI.out; omega
        have e : asgS k (pl.drop n) pre sums used acc = accT k p (pl.drop (n + 1)) pre sums used acc i := by rw [HDR.out, HM.out]; rfl
        rw [e]
        exact HTI.out
      | succ kq =>
        have hd : decide ((i : Int) < X) = true := by rw [HX.out]; exact decide_eq_true (by have := HI.out; omega)
        have HIK : Aside0 (i < k) := ⟨by have := HI.out; have := HM.out; omega⟩
        obtain ⟨s, hs⟩ : ∃ s, s = sums.getD i 0 := ⟨_, rfl⟩
        have HS := Aside0.mk hs
        have sc := sum_cell HTI.out (t := i) (by rw [HSL.out]; exact HIK.out)
        rw [← hs] at sc
        have d1 := blk_cell HTI.out.hp 0
        have hik := HIK.out
        have hLp : L < pl.length := by rw [HL.out]; exact HN.out
        have d4 : wr.cell? (ad.add L) = some (.int .i64 p) := by
          rw [HL.out]
          exact (HTI.out.bel.cell (World.block_lt_of_cell? _ _ HCP.out)).trans HCP.out
        clear hs
        have fz := blk_frozen HTI.out.hs i
        have hsp : wrap64 (s + p) = s + p := wrapS (by have h1 := HS0.out i; have h2 := HPB.out; have h3 := HN10.out; rw [← HS.out] at h1; omega)
        go_wp2
        refine start_ (n := 11) (S := fun w' => w'.cell? ⟨Z.gs, i, none⟩ = some (.int .i64 s) ∧ w'.cell? ⟨Z.gp, 0, none⟩ = some (.slice (some ad) pl.length c0) ∧ w'.cell? (ad.add L) = some (.int .i64 p)) (ds := [10]) #[false, false, false, false, false, false, false, false, false, false, false] (by kernel_rfl) rfl rfl ⟨sc, d1, d4⟩ (fun hHeld => ?_)
        refine pure_ (i := 0) (N := some 39) (v := ?_) (a' := ?_) #[true, false, false, false, false, false, false, false, false, false, false] rfl rfl (by kernel_rfl) (fun _ _ _ h => h) (Or.inl ⟨by rfl, ?_⟩) ?_ ?_
        rotate_left
        · intro w'
          go_simp
          with_reducible rfl
        rotate_left
        · simp only [Act.put, List.setIfInBounds_toArray, List.set_cons_zero, List.set_cons_succ, i64_w, i32_w]
          rfl
        refine pure_ (i := 1) (N := some 40) (v := ?_) (a' := ?_) #[true, true, false, false, false, false, false, false, false, false, false] rfl rfl (by kernel_rfl) (fun _ _ _ h => h) (Or.inl ⟨by rfl, ?_⟩) ?_ ?_
        rotate_left
        · intro w'
          go_simp
          with_reducible rfl
        rotate_left
        · simp only [Act.put, List.setIfInBounds_toArray, List.set_cons_zero, List.set_cons_succ, i64_w, i32_w]
          rfl
        refine pure_ (i := 2) (N := some 41) (v := ?_) (a' := ?_) #[true, true, true, false, false, false, false, false, false, false, false] rfl rfl (by kernel_rfl) (fun _ _ _ h => h) (Or.inl ⟨by rfl, ?_⟩) ?_ ?_
        rotate_left
        · intro w'
          go_simp
          with_reducible rfl
        rotate_left
        · simp only [Act.put, List.setIfInBounds_toArray, List.set_cons_zero, List.set_cons_succ, i64_w, i32_w]
          rfl
        refine pure_ (i := 5) (N := some 44) (v := ?_) (a' := ?_) #[true, true, true, false, false, true, false, false, false, false, false] rfl rfl (by kernel_rfl) (fun _ _ _ h => h) (Or.inl ⟨by rfl, ?_⟩) ?_ ?_
        rotate_left
        · intro w'
          go_simp
          with_reducible rfl
        rotate_left
        · simp only [Act.put, List.setIfInBounds_toArray, List.set_cons_zero, List.set_cons_succ, i64_w, i32_w]
          rfl
        refine take_ (i := 3) (N := some 42) (v := ?_) (a' := ?_) #[true, true, true, true, false, true, false, false, false, false, false] rfl rfl (by kernel_rfl) (fun _ _ _ h => h) (Or.inl ⟨by rfl, ?_⟩) hHeld ?_ ?_
        rotate_left
        · rintro w' ⟨s0, s1, s2⟩
          go_simp
          with_reducible rfl
        rotate_left
        · simp only [Act.put, List.setIfInBounds_toArray, List.set_cons_zero, List.set_cons_succ, i64_w, i32_w]
          rfl
        refine take_ (i := 4) (N := some 43) (v := ?_) (a' := ?_) #[true, true, true, true, true, true, false, false, false, false, false] rfl rfl (by kernel_rfl) (fun _ _ _ h => h) (Or.inl ⟨by rfl, ?_⟩) hHeld ?_ ?_
        rotate_left
        · rintro w' ⟨s0, s1, s2⟩
          go_simp
          with_reducible rfl
        rotate_left
        · simp only [Act.put, List.setIfInBounds_toArray, List.set_cons_zero, List.set_cons_succ, i64_w, i32_w]
          rfl
        refine pure_ (i := 6) (N := some 45) (v := ?_) (a' := ?_) #[true, true, true, true, true, true, true, false, false, false, false] rfl rfl (by kernel_rfl) (fun _ _ _ h => h) (Or.inl ⟨by rfl, ?_⟩) ?_ ?_
        rotate_left
        · intro w'
          go_simp
          with_reducible rfl
        rotate_left
        · simp only [Act.put, List.setIfInBounds_toArray, List.set_cons_zero, List.set_cons_succ, i64_w, i32_w]
          rfl
        refine take_ (i := 7) (N := some 46) (v := ?_) (a' := ?_) #[true, true, true, true, true, true, true, true, false, false, false] rfl rfl (by kernel_rfl) (fun _ _ _ h => h) (Or.inl ⟨by rfl, ?_⟩) hHeld ?_ ?_
        rotate_left
        · rintro w' ⟨s0, s1, s2⟩
          go_simp
          with_reducible rfl
        rotate_left
        · simp only [Act.put, List.setIfInBounds_toArray, List.set_cons_zero, List.set_cons_succ, i64_w, i32_w]
          rfl
        refine pure_ (i := 8) (N := some 47) (v := ?_) (a' := ?_) #[true, true, true, true, true, true, true, true, true, false, false] rfl rfl (by kernel_rfl) (fun _ _ _ h => h) (Or.inl ⟨by rfl, ?_⟩) ?_ ?_
        rotate_left
        · intro w'
          go_simp
          with_reducible rfl
        rotate_left
        · simp only [Act.put, List.setIfInBounds_toArray, List.set_cons_zero, List.set_cons_succ, i64_w, i32_w]
          rfl
        refine pure_ (i := 9) (N := some 48) (v := ?_) (a' := ?_) #[true, true, true, true, true, true, true, true, true, true, false] rfl rfl (by kernel_rfl) (fun _ _ _ h => h) (Or.inl ⟨by rfl, ?_⟩) ?_ ?_
        rotate_left
        · intro w'
          go_simp
          with_reducible rfl
        rotate_left
        · simp only [Act.put, List.setIfInBounds_toArray, List.set_cons_zero, List.set_cons_succ, i64_w, i32_w]
          rfl
        refine last_ (i := 10) (N := none) #[true, true, true, true, true, true, true, true, true, true, true] rfl rfl (by kernel_rfl) (by decide) (fun K hK => ?_)
        refine skip_ (w1 := ?_) (by rfl) rfl ?_ ?_
        rotate_left
        · go_simp
          rfl
        refine hK.out _ _ ?_
        clear hK K
        refine done_ (by kernel_rfl) ?_
        have HT8 : Aside0 (TI w0 (wr.setCell ⟨Z.gs, i, none⟩ (.int .i64 (s + p))).drew Z (some ad) c0 pl k (accT k p (pl.drop (n + 1)) pre sums used acc i) vi (sums.set i (s + p))) := ⟨(HTI.out.put HAD.out i (s + p)).drewN 1⟩
        have HS8 : Aside0 (TStep W (wr.setCell ⟨Z.gs, i, none⟩ (.int .i64 (s + p))).drew Z (.slice A L c) vo vi n) := ⟨HST.out.trans ((TStep.put HAD.out _ _ (fun q hq => (HVA.out q hq).2.2.1) i _).trans (TStep.drewN _ _ _ _ _ 1))⟩
        clear hHeld fz sc d1 d4 HTI HST hsp
        generalize (wr.setCell ⟨Z.gs, i, none⟩ (.int .i64 (s + p))).drew = w8 at HT8 HS8 ⊢
        obtain ⟨a1, ha1⟩ : ∃ a, a = accT k p (pl.drop (n + 1)) pre sums used acc i := ⟨_, rfl⟩
        rw [← ha1] at HT8
        have HA1 := Aside0.mk ha1
        obtain ⟨b1, hb1⟩ : ∃ b, b = a1.1 := ⟨_, rfl⟩
        have d2 := blk_cell HT8.out.hb 0
        rw [← hb1] at d2
        have HB1 := Aside0.mk hb1
        have sc := sum_cell HT8.out (t := i) (by rw [List.length_set, HSL.out]; exact HIK.out)
        have hse : (sums.set i (s + p)).getD i 0 = s + p := by rw [List.getD_eq_getElem?_getD, List.getElem?_set_self (by rw [HSL.out]; exact HIK.out)]; rfl
        rw [hse] at sc
        clear ha1 hb1 hse
        have hw2 : wrap64 ((i : Int) + 1) = ((i + 1 : Nat) : Int) := wrapS (by have h1 := HIK.out; have h2 := HK.out; omega)
        by_cases hc : b1 < 0 ∨ s + p < b1
        · have HACC : Aside0 (accT k p (pl.drop (n + 1)) pre sums used acc (i + 1) = asgS k (pl.drop (n + 1)) (pre ++ [i]) (sums.set i (s + p)) (max used (i + 1)) a1) := ⟨by rw [accT_succ, ← HA1.out, ← HB1.out, ← HS.out, if_pos hc]⟩
          have HV8 : Aside0 (TRow w8 w0.heap.size (.slice A L c) (toZ pre)) := ⟨HV.out.kept (by rw [toZ_length, HPRE.out]; exact HS8.out.row)⟩
          have HVA8 : Aside0 (Apart Z (.slice A L c) vi) := ⟨HVA.out.next HV.out HS8.out.new⟩
          have HSB : Aside0 (∀ j, 0 ≤ (sums.set i (s + p)).getD j 0 ∧ (sums.set i (s + p)).getD j 0 ≤ 1000000 * ((n + 1 : Nat) : Int)) := ⟨fun j => by
            have h1 := HS0.out j
            have h2 := HPB.out
            have h3 := HS0.out i
            rw [← HS.out] at h3
            rw [List.getD_eq_getElem?_getD, List.getElem?_set]
            by_cases e : i = j
            · rw [if_pos e, if_pos (by rw [HSL.out]; exact HIK.out)]
              simp only [Option.getD_some]
              omega
            · rw [if_neg e, ← List.getD_eq_getElem?_getD]
              omega⟩
          obtain ⟨u2, hu2⟩ : ∃ u2, u2 = max used (i + 1) := ⟨_, rfl⟩
          have HU2 := Aside0.mk hu2
          have HIF : Aside0 ((if (used : Int) < (i : Int) + 1 then (i : Int) + 1 else (used : Int)) = (u2 : Int)) := ⟨by rw [hu2]; split <;> omega⟩
          rw [← hu2] at HACC
          clear hu2
          by_cases h1 : b1 < 0
          · have e1 : decide (b1 < 0) = true := decide_eq_true h1
            clear hc h1
            go_wp2
            go_quiet (fail)
            go_wp2
            generalize hqq : World.drewN w8 _ = w7 at ⊢
            have HT7 : Aside0 (TI w0 w7 Z (some ad) c0 pl k a1 vi (sums.set i (s + p))) := ⟨by rw [← hqq]; exact HT8.out.drewN _⟩
            have HV3 : Aside0 (TRow w7.drew w0.heap.size (.slice A L c) (toZ pre)) := ⟨by rw [← hqq]; exact HV8.out⟩
            have HS3 : Aside0 (TStep W w7.drew Z (.slice A L c) vo vi n) := ⟨by rw [← hqq]; exact HS8.out.trans ((TStep.drewN _ _ _ _ _ _).trans (TStep.drewN _ _ _ _ _ 1))⟩
            have HT3 : Aside0 (TI w0 w7.drew Z (some ad) c0 pl k a1 vi (sums.set i (s + p))) := ⟨HT7.out.drewN 1⟩
            have d5 := blk_cell HT7.out.ha 0
            clear HT8 HV8 HS8 d2 sc hqq
            refine start_ (n := 11) (S := fun w' => w'.cell? ⟨Z.ga, 0, none⟩ = some (.func (.func 51) #[] #[.pointer (some ⟨Z.gp, 0, none⟩), .pointer (some ⟨Z.gb, 0, none⟩), .pointer (some ⟨Z.go, 0, none⟩), .pointer (some ⟨Z.gk, 0, none⟩), .pointer (some ⟨Z.ga, 0, none⟩)])) (ds := [10]) #[false, false, false, false, false, false, false, false, false, false, false] (by kernel_rfl) rfl rfl d5 (fun hHeld => ?_)
            refine pure_ (i := 1) (N := some 60) (v := ?_) (a' := ?_) #[false, true, false, false, false, false, false, false, false, false, false] rfl rfl (by kernel_rfl) (fun _ _ _ h => h) (Or.inl ⟨by rfl, ?_⟩) ?_ ?_
            rotate_left
            · intro w'
              go_simp
              with_reducible rfl
            rotate_left
            · simp only [Act.put, List.setIfInBounds_toArray, List.set_cons_zero, List.set_cons_succ, i64_w, i32_w]
              rfl
            refine pure_ (i := 2) (N := some 61) (v := ?_) (a' := ?_) #[false, true, true, false, false, false, false, false, false, false, false] rfl rfl (by kernel_rfl) (fun _ _ _ h => h) (Or.inl ⟨by rfl, ?_⟩) ?_ ?_
            rotate_left
            · intro w'
              go_simp
              with_reducible rfl
            rotate_left
            · simp only [Act.put, List.setIfInBounds_toArray, List.set_cons_zero, List.set_cons_succ, i64_w, i32_w]
              rfl
            refine pure_ (i := 5) (N := some 64) (v := ?_) (a' := ?_) #[false, true, true, false, false, true, false, false, false, false, false] rfl rfl (by kernel_rfl) (fun _ _ _ h => h) (Or.inl ⟨by rfl, ?_⟩) ?_ ?_
            rotate_left
            · intro w'
              go_simp
              with_reducible rfl
            rotate_left
            · simp only [Act.put, List.setIfInBounds_toArray, List.set_cons_zero, List.set_cons_succ, i64_w, i32_w]
              rfl
            refine pure_ (i := 6) (N := some 65) (v := ?_) (a' := ?_) #[false, true, true, false, false, true, true, false, false, false, false] rfl rfl (by kernel_rfl) (fun _ _ _ h => h) (Or.inl ⟨by rfl, ?_⟩) ?_ ?_
            rotate_left
            · intro w'
              go_simp
              with_reducible rfl
            rotate_left
            · simp only [Act.put, List.setIfInBounds_toArray, List.set_cons_zero, List.set_cons_succ, i64_w, i32_w]
              rfl
            refine pure_ (i := 7) (N := some 66) (v := ?_) (a' := ?_) #[false, true, true, false, false, true, true, true, false, false, false] rfl rfl (by kernel_rfl) (fun _ _ _ h => h) (Or.inl ⟨by rfl, ?_⟩) ?_ ?_
            rotate_left
            · intro w'
              go_simp
              with_reducible rfl
            rotate_left
            · simp only [Act.put, List.setIfInBounds_toArray, List.set_cons_zero, List.set_cons_succ, i64_w, i32_w]
              rfl
            refine pure_ (i := 8) (N := some 67) (v := ?_) (a' := ?_) #[false, true, true, false, false, true, true, true, true, false, false] rfl rfl (by kernel_rfl) (fun _ _ _ h => h) (Or.inl ⟨by rfl, ?_⟩) ?_ ?_
            rotate_left
            · intro w'
              go_simp
              with_reducible rfl
            rotate_left
            · simp only [Act.put, List.setIfInBounds_toArray, List.set_cons_zero, List.set_cons_succ, i64_w, i32_w]
              rfl
            refine pure_ (i := 9) (N := some 68) (v := ?_) (a' := ?_) #[false, true, true, false, false, true, true, true, true, true, false] rfl rfl (by kernel_rfl) (fun _ _ _ h => h) (Or.inl ⟨by rfl, ?_⟩) ?_ ?_
            rotate_left
            · intro w'
              go_simp
              with_reducible rfl
            rotate_left
            · simp only [Act.put, List.setIfInBounds_toArray, List.set_cons_zero, List.set_cons_succ, i64_w, i32_w]
              rfl
            rw [HIF.out]
            refine take_ (i := 0) (N := some 59) (v := ?_) (a' := ?_) #[true, true, true, false, false, true, true, true, true, true, false] rfl rfl (by kernel_rfl) (fun _ _ _ h => h) (Or.inl ⟨by rfl, ?_⟩) hHeld ?_ ?_
            rotate_left
            · rintro w' s0
              go_simp
              with_reducible rfl
            rotate_left
            · simp only [Act.put, List.setIfInBounds_toArray, List.set_cons_zero, List.set_cons_succ, i64_w, i32_w]
              rfl
            refine one_ (i := 3) (N := some 62) #[true, true, true, true, false, true, true, true, true, true, false] rfl rfl (by kernel_rfl) (by decide) (fun K hK => ?_)
            refine value_ (w1 := ?_) (v := ?_) (by rfl) rfl ?_ ?_
            rotate_left 2
            · go_simp
              constructor
              · rfl
              · rfl
            refine hK.out _ _ (blk_cell (blk_alloc HT3.out.ha _) 0) (fun hHeld => ?_)
            clear hK K
            refine norm_ (a' := ?_) ?_ ?_
            rotate_left
            · show Act.put _ (some 62) _ = _
              simp only [Act.put, List.setIfInBounds_toArray, List.set_cons_zero, List.set_cons_succ, i64_w, i32_w]
              rfl
            refine one_ (i := 4) (N := some 63) #[true, true, true, true, true, true, true, true, true, true, false] rfl rfl (by kernel_rfl) (by decide) (fun K hK => ?_)
            refine team_step (W := w7.drew) (by rfl) rfl w0.heap.size (.tmp 60) (.tmp 62) rfl (.slice A L c) (toZ pre) (i : Int) rfl rfl HV3.out (below_size HT3.out.bel) (by rw [toZ_length, HPRE.out]; have := HN10.out; omega) ?_
            intro v4 w4 hv4 hg4 hat4 hk4
            have H4 := Aside0.mk (team_next HT3.out HV3.out HVA8.out hg4 hat4 hk4)
            have HAT4 := Aside0.mk hat4
            obtain ⟨A4, c4, e4, -, -⟩ := hv4.reads (by rw [List.length_append, toZ_length, HPRE.out]; have := HN10.out; simp; omega)
            have HV4 := Aside0.mk hv4
            clear hv4 hg4 hat4 hk4
            subst e4
            refine hK.out _ _ (blk_cell H4.out.1.ha 0) (fun hHeld => ?_)
            clear hK K
            refine norm_ (a' := ?_) ?_ ?_
            rotate_left
            · show Act.put _ (some 63) _ = _
              simp only [Act.put, List.setIfInBounds_toArray, List.set_cons_zero, List.set_cons_succ, i64_w, i32_w]
              rfl
            refine last_ (i := 10) (N := some 69) #[true, true, true, true, true, true, true, true, true, true, true] rfl rfl (by kernel_rfl) (by decide) (fun K hK => ?_)
            refine goesC_ Try.func51 (by kernel_rfl) rfl #[.slice A4 (toZ pre ++ [(i : Int)]).length c4, .slice (some ⟨Z.gs, 0, none⟩) k k, .int .i64 (u2 : Int), .pointer (some ⟨Z.gp, 0, none⟩), .pointer (some ⟨Z.gb, 0, none⟩), .pointer (some ⟨Z.go, 0, none⟩), .pointer (some ⟨Z.gk, 0, none⟩), .pointer (some ⟨Z.ga, 0, none⟩)] (by rfl) rfl rfl rfl (by first | rfl | (simp only [List.map_toArray, List.map_cons, List.map_nil]; rfl)) ?_
            show Calls Try.prog 51 (aArgs Z _ k u2) _ _
            refine (HIH.out (pre ++ [i]) (sums.set i (s + p)) u2 a1 _ vi _ (by simp [HPRE.out]) (by rw [List.length_set]; exact HSL.out) HSB.out (by rw [HU2.out]; have := HUS.out; have := HIK.out; omega) H4.out.1 (by rw [toZ_snoc]; exact HV4.out) H4.out.2.1).mono ?_
            rintro e w5 ⟨rfl, vo5, hT5, hs5⟩
            have HTE := Aside0.mk (hT5)
            have HS5 := Aside0.mk hs5
            clear hT5 hs5
            refine ⟨_, rfl, ?_⟩
            refine hK.out _ _ ?_
            clear hK K
            refine norm_ (a' := ?_) ?_ ?_
            rotate_left
            · show Act.put _ (some 69) _ = _
              simp only [Act.put, List.setIfInBounds_toArray, List.set_cons_zero, List.set_cons_succ, i64_w, i32_w]
              rfl
            refine done_ (by kernel_rfl) ?_
            have HSE : Aside0 (TStep W w5 Z (.slice A L c) vo vo5 n) := ⟨HS3.out.trans (team_back (by have := H4.out.2.2; rwa [toZ_length, HPRE.out] at this) HS5.out HAT4.out H4.out.1 HVA8.out HV3.out)⟩
            go_wp2
            clear HT7 HT3 HV3 HS3 H4 HAT4 HV4 HS5 d5
            generalize w5 = w9 at HTE HSE ⊢
            have fz := blk_frozen HTE.out.hs i
            have sc := sum_cell HTE.out (t := i) (by rw [List.length_set, HSL.out]; exact HIK.out)
            have hse : (sums.set i (s + p)).getD i 0 = s + p := by rw [List.getD_eq_getElem?_getD, List.getElem?_set_self (by rw [HSL.out]; exact HIK.out)]; rfl
            rw [hse] at sc
            have d1 := blk_cell HTE.out.hp 0
            have d4 : w9.cell? (ad.add L) = some (.int .i64 p) := by
              rw [HL.out]
              exact (HTE.out.bel.cell (World.block_lt_of_cell? _ _ HCP.out)).trans HCP.out
            have hsp : wrap64 s = s := by
              exact wrapS (by have h1 := HS0.out i; have h3 := HN10.out; rw [← HS.out] at h1; omega)
            refine start_ (n := 11) (S := fun w' => w'.cell? ⟨Z.gs, i, none⟩ = some (.int .i64 (s + p)) ∧ w'.cell? ⟨Z.gp, 0, none⟩ = some (.slice (some ad) pl.length c0) ∧ w'.cell? (ad.add L) = some (.int .i64 p)) (ds := [10]) #[false, false, false, false, false, false, false, false, false, false, false] (by kernel_rfl) rfl rfl ⟨sc, d1, d4⟩ (fun hHeld => ?_)
            refine pure_ (i := 0) (N := some 70) (v := ?_) (a' := ?_) #[true, false, false, false, false, false, false, false, false, false, false] rfl rfl (by kernel_rfl) (fun _ _ _ h => h) (Or.inl ⟨by rfl, ?_⟩) ?_ ?_
            rotate_left
            · intro w'
              go_simp
              with_reducible rfl
            rotate_left
            · simp only [Act.put, List.setIfInBounds_toArray, List.set_cons_zero, List.set_cons_succ, i64_w, i32_w]
              rfl
            refine pure_ (i := 1) (N := some 71) (v := ?_) (a' := ?_) #[true, true, false, false, false, false, false, false, false, false, false] rfl rfl (by kernel_rfl) (fun _ _ _ h => h) (Or.inl ⟨by rfl, ?_⟩) ?_ ?_
            rotate_left
            · intro w'
              go_simp
              with_reducible rfl
            rotate_left
            · simp only [Act.put, List.setIfInBounds_toArray, List.set_cons_zero, List.set_cons_succ, i64_w, i32_w]
              rfl
            refine pure_ (i := 2) (N := some 72) (v := ?_) (a' := ?_) #[true, true, true, false, false, false, false, false, false, false, false] rfl rfl (by kernel_rfl) (fun _ _ _ h => h) (Or.inl ⟨by rfl, ?_⟩) ?_ ?_
            rotate_left
            · intro w'
              go_simp
              with_reducible rfl
            rotate_left
            · simp only [Act.put, List.setIfInBounds_toArray, List.set_cons_zero, List.set_cons_succ, i64_w, i32_w]
              rfl
            refine pure_ (i := 5) (N := some 75) (v := ?_) (a' := ?_) #[true, true, true, false, false, true, false, false, false, false, false] rfl rfl (by kernel_rfl) (fun _ _ _ h => h) (Or.inl ⟨by rfl, ?_⟩) ?_ ?_
            rotate_left
            · intro w'
              go_simp
              with_reducible rfl
            rotate_left
            · simp only [Act.put, List.setIfInBounds_toArray, List.set_cons_zero, List.set_cons_succ, i64_w, i32_w]
              rfl
            refine take_ (i := 3) (N := some 73) (v := ?_) (a' := ?_) #[true, true, true, true, false, true, false, false, false, false, false] rfl rfl (by kernel_rfl) (fun _ _ _ h => h) (Or.inl ⟨by rfl, ?_⟩) hHeld ?_ ?_
            rotate_left
            · rintro w' ⟨s0, s1, s2⟩
              go_simp
              with_reducible rfl
            rotate_left
            · simp only [Act.put, List.setIfInBounds_toArray, List.set_cons_zero, List.set_cons_succ, i64_w, i32_w]
              rfl
            refine take_ (i := 4) (N := some 74) (v := ?_) (a' := ?_) #[true, true, true, true, true, true, false, false, false, false, false] rfl rfl (by kernel_rfl) (fun _ _ _ h => h) (Or.inl ⟨by rfl, ?_⟩) hHeld ?_ ?_
            rotate_left
            · rintro w' ⟨s0, s1, s2⟩
              go_simp
              with_reducible rfl
            rotate_left
            · simp only [Act.put, List.setIfInBounds_toArray, List.set_cons_zero, List.set_cons_succ, i64_w, i32_w]
              rfl
            refine pure_ (i := 6) (N := some 76) (v := ?_) (a' := ?_) #[true, true, true, true, true, true, true, false, false, false, false] rfl rfl (by kernel_rfl) (fun _ _ _ h => h) (Or.inl ⟨by rfl, ?_⟩) ?_ ?_
            rotate_left
            · intro w'
              go_simp
              with_reducible rfl
            rotate_left
            · simp only [Act.put, List.setIfInBounds_toArray, List.set_cons_zero, List.set_cons_succ, i64_w, i32_w]
              rfl
            refine take_ (i := 7) (N := some 77) (v := ?_) (a' := ?_) #[true, true, true, true, true, true, true, true, false, false, false] rfl rfl (by kernel_rfl) (fun _ _ _ h => h) (Or.inl ⟨by rfl, ?_⟩) hHeld ?_ ?_
            rotate_left
            · rintro w' ⟨s0, s1, s2⟩
              go_simp
              with_reducible rfl
            rotate_left
            · simp only [Act.put, List.setIfInBounds_toArray, List.set_cons_zero, List.set_cons_succ, i64_w, i32_w]
              rfl
            refine pure_ (i := 8) (N := some 78) (v := ?_) (a' := ?_) #[true, true, true, true, true, true, true, true, true, false, false] rfl rfl (by kernel_rfl) (fun _ _ _ h => h) (Or.inl ⟨by rfl, ?_⟩) ?_ ?_
            rotate_left
            · intro w'
              go_simp
              with_reducible rfl
            rotate_left
            · simp only [Act.put, List.setIfInBounds_toArray, List.set_cons_zero, List.set_cons_succ, i64_w, i32_w]
              rfl
            refine pure_ (i := 9) (N := some 79) (v := ?_) (a' := ?_) #[true, true, true, true, true, true, true, true, true, true, false] rfl rfl (by kernel_rfl) (fun _ _ _ h => h) (Or.inl ⟨by rfl, ?_⟩) ?_ ?_
            rotate_left
            · intro w'
              go_simp
              with_reducible rfl
            rotate_left
            · simp only [Act.put, List.setIfInBounds_toArray, List.set_cons_zero, List.set_cons_succ, i64_w, i32_w]
              rfl
            refine last_ (i := 10) (N := none) #[true, true, true, true, true, true, true, true, true, true, true] rfl rfl (by kernel_rfl) (by decide) (fun K hK => ?_)
            refine skip_ (w1 := ?_) (by rfl) rfl ?_ ?_
            rotate_left
            · go_simp
              rfl
            refine hK.out _ _ ?_
            clear hK K
            refine done_ (by kernel_rfl) ?_
            have hback : (sums.set i (s + p)).set i s = sums := by
              rw [List.set_set]
              refine List.ext_getElem? fun j => ?_
              rw [List.getElem?_set]
              by_cases e : i = j
              · subst e
                rw [if_pos rfl, if_pos (by rw [HSL.out]; exact HIK.out), HS.out, List.getD_eq_getElem?_getD, List.getElem?_eq_getElem (by rw [HSL.out]; exact HIK.out)]
                rfl
              · rw [if_neg e]
            have HTN := Aside0.mk ((HTE.out.put HAD.out i s).drewN 1)
            rw [hback] at HTN
            have HSN := Aside0.mk (HSE.out.trans ((TStep.put HAD.out _ _ (fun q hq => (HVA.out q hq).2.2.1) i (.int .i64 s)).trans (TStep.drewN _ _ _ _ _ 1)))
            clear hback hHeld
            go_wp2
            go_roundg kq
            case measure => have := HI.out; omega
            case rel => exact ⟨i + 1, _, by first | rfl | rw [hw2], ⟨by have := HI.out; omega⟩, ⟨by rw [HACC.out]; exact HTN.out⟩, HSN⟩
          · have e1 : decide (b1 < 0) = false := decide_eq_false h1
            have e2 : decide (s + p < b1) = true := decide_eq_true (hc.resolve_left h1)
            clear hc h1
            go_wp2
            go_quiet (fail)
            go_wp2
            generalize hqq : World.drewN w8 _ = w7 at ⊢
            have HT7 : Aside0 (TI w0 w7 Z (some ad) c0 pl k a1 vi (sums.set i (s + p))) := ⟨by rw [← hqq]; exact HT8.out.drewN _⟩
            have HV3 : Aside0 (TRow w7.drew w0.heap.size (.slice A L c) (toZ pre)) := ⟨by rw [← hqq]; exact HV8.out⟩
            have HS3 : Aside0 (TStep W w7.drew Z (.slice A L c) vo vi n) := ⟨by rw [← hqq]; exact HS8.out.trans ((TStep.drewN _ _ _ _ _ _).trans (TStep.drewN _ _ _ _ _ 1))⟩
            have HT3 : Aside0 (TI w0 w7.drew Z (some ad) c0 pl k a1 vi (sums.set i (s + p))) := ⟨HT7.out.drewN 1⟩
            have d5 := blk_cell HT7.out.ha 0
            clear HT8 HV8 HS8 d2 sc hqq
            refine start_ (n := 11) (S := fun w' => w'.cell? ⟨Z.ga, 0, none⟩ = some (.func (.func 51) #[] #[.pointer (some ⟨Z.gp, 0, none⟩), .pointer (some ⟨Z.gb, 0, none⟩), .pointer (some ⟨Z.go, 0, none⟩), .pointer (some ⟨Z.gk, 0, none⟩), .pointer (some ⟨Z.ga, 0, none⟩)])) (ds := [10]) #[false, false, false, false, false, false, false, false, false, false, false] (by kernel_rfl) rfl rfl d5 (fun hHeld => ?_)
            refine pure_ (i := 1) (N := some 60) (v := ?_) (a' := ?_) #[false, true, false, false, false, false, false, false, false, false, false] rfl rfl (by kernel_rfl) (fun _ _ _ h => h) (Or.inl ⟨by rfl, ?_⟩) ?_ ?_
            rotate_left
            · intro w'
              go_simp
              with_reducible rfl
            rotate_left
            · simp only [Act.put, List.setIfInBounds_toArray, List.set_cons_zero, List.set_cons_succ, i64_w, i32_w]
              rfl
            refine pure_ (i := 2) (N := some 61) (v := ?_) (a' := ?_) #[false, true, true, false, false, false, false, false, false, false, false] rfl rfl (by kernel_rfl) (fun _ _ _ h => h) (Or.inl ⟨by rfl, ?_⟩) ?_ ?_
            rotate_left
            · intro w'
              go_simp
              with_reducible rfl
            rotate_left
            · simp only [Act.put, List.setIfInBounds_toArray, List.set_cons_zero, List.set_cons_succ, i64_w, i32_w]
              rfl
            refine pure_ (i := 5) (N := some 64) (v := ?_) (a' := ?_) #[false, true, true, false, false, true, false, false, false, false, false] rfl rfl (by kernel_rfl) (fun _ _ _ h => h) (Or.inl ⟨by rfl, ?_⟩) ?_ ?_
            rotate_left
            · intro w'
              go_simp
              with_reducible rfl
            rotate_left
            · simp only [Act.put, List.setIfInBounds_toArray, List.set_cons_zero, List.set_cons_succ, i64_w, i32_w]
              rfl
            refine pure_ (i := 6) (N := some 65) (v := ?_) (a' := ?_) #[false, true, true, false, false, true, true, false, false, false, false] rfl rfl (by kernel_rfl) (fun _ _ _ h => h) (Or.inl ⟨by rfl, ?_⟩) ?_ ?_
            rotate_left
            · intro w'
              go_simp
              with_reducible rfl
            rotate_left
            · simp only [Act.put, List.setIfInBounds_toArray, List.set_cons_zero, List.set_cons_succ, i64_w, i32_w]
              rfl
            refine pure_ (i := 7) (N := some 66) (v := ?_) (a' := ?_) #[false, true, true, false, false, true, true, true, false, false, false] rfl rfl (by kernel_rfl) (fun _ _ _ h => h) (Or.inl ⟨by rfl, ?_⟩) ?_ ?_
            rotate_left
            · intro w'
              go_simp
              with_reducible rfl
            rotate_left
            · simp only [Act.put, List.setIfInBounds_toArray, List.set_cons_zero, List.set_cons_succ, i64_w, i32_w]
              rfl
            refine pure_ (i := 8) (N := some 67) (v := ?_) (a' := ?_) #[false, true, true, false, false, true, true, true, true, false, false] rfl rfl (by kernel_rfl) (fun _ _ _ h => h) (Or.inl ⟨by rfl, ?_⟩) ?_ ?_
            rotate_left
            · intro w'
              go_simp
              with_reducible rfl
            rotate_left
            · simp only [Act.put, List.setIfInBounds_toArray, List.set_cons_zero, List.set_cons_succ, i64_w, i32_w]
              rfl
            refine pure_ (i := 9) (N := some 68) (v := ?_) (a' := ?_) #[false, true, true, false, false, true, true, true, true, true, false] rfl rfl (by kernel_rfl) (fun _ _ _ h => h) (Or.inl ⟨by rfl, ?_⟩) ?_ ?_
            rotate_left
            · intro w'
              go_simp
              with_reducible rfl
            rotate_left
            · simp only [Act.put, List.setIfInBounds_toArray, List.set_cons_zero, List.set_cons_succ, i64_w, i32_w]
              rfl
            rw [HIF.out]
            refine take_ (i := 0) (N := some 59) (v := ?_) (a' := ?_) #[true, true, true, false, false, true, true, true, true, true, false] rfl rfl (by kernel_rfl) (fun _ _ _ h => h) (Or.inl ⟨by rfl, ?_⟩) hHeld ?_ ?_
            rotate_left
            · rintro w' s0
              go_simp
              with_reducible rfl
            rotate_left
            · simp only [Act.put, List.setIfInBounds_toArray, List.set_cons_zero, List.set_cons_succ, i64_w, i32_w]
              rfl
            refine one_ (i := 3) (N := some 62) #[true, true, true, true, false, true, true, true, true, true, false] rfl rfl (by kernel_rfl) (by decide) (fun K hK => ?_)
            refine value_ (w1 := ?_) (v := ?_) (by rfl) rfl ?_ ?_
            rotate_left 2
            · go_simp
              constructor
              · rfl
              · rfl
            refine hK.out _ _ (blk_cell (blk_alloc HT3.out.ha _) 0) (fun hHeld => ?_)
            clear hK K
            refine norm_ (a' := ?_) ?_ ?_
            rotate_left
            · show Act.put _ (some 62) _ = _
              simp only [Act.put, List.setIfInBounds_toArray, List.set_cons_zero, List.set_cons_succ, i64_w, i32_w]
              rfl
            refine one_ (i := 4) (N := some 63) #[true, true, true, true, true, true, true, true, true, true, false] rfl rfl (by kernel_rfl) (by decide) (fun K hK => ?_)
            refine team_step (W := w7.drew) (by rfl) rfl w0.heap.size (.tmp 60) (.tmp 62) rfl (.slice A L c) (toZ pre) (i : Int) rfl rfl HV3.out (below_size HT3.out.bel) (by rw [toZ_length, HPRE.out]; have := HN10.out; omega) ?_
            intro v4 w4 hv4 hg4 hat4 hk4
            have H4 := Aside0.mk (team_next HT3.out HV3.out HVA8.out hg4 hat4 hk4)
            have HAT4 := Aside0.mk hat4
            obtain ⟨A4, c4, e4, -, -⟩ := hv4.reads (by rw [List.length_append, toZ_length, HPRE.out]; have := HN10.out; simp; omega)
            have HV4 := Aside0.mk hv4
            clear hv4 hg4 hat4 hk4
            subst e4
            refine hK.out _ _ (blk_cell H4.out.1.ha 0) (fun hHeld => ?_)
            clear hK K
            refine norm_ (a' := ?_) ?_ ?_
            rotate_left
            · show Act.put _ (some 63) _ = _
              simp only [Act.put, List.setIfInBounds_toArray, List.set_cons_zero, List.set_cons_succ, i64_w, i32_w]
              rfl
            refine last_ (i := 10) (N := some 69) #[true, true, true, true, true, true, true, true, true, true, true] rfl rfl (by kernel_rfl) (by decide) (fun K hK => ?_)
            refine goesC_ Try.func51 (by kernel_rfl) rfl #[.slice A4 (toZ pre ++ [(i : Int)]).length c4, .slice (some ⟨Z.gs, 0, none⟩) k k, .int .i64 (u2 : Int), .pointer (some ⟨Z.gp, 0, none⟩), .pointer (some ⟨Z.gb, 0, none⟩), .pointer (some ⟨Z.go, 0, none⟩), .pointer (some ⟨Z.gk, 0, none⟩), .pointer (some ⟨Z.ga, 0, none⟩)] (by rfl) rfl rfl rfl (by first | rfl | (simp only [List.map_toArray, List.map_cons, List.map_nil]; rfl)) ?_
            show Calls Try.prog 51 (aArgs Z _ k u2) _ _
            refine (HIH.out (pre ++ [i]) (sums.set i (s + p)) u2 a1 _ vi _ (by simp [HPRE.out]) (by rw [List.length_set]; exact HSL.out) HSB.out (by rw [HU2.out]; have := HUS.out; have := HIK.out; omega) H4.out.1 (by rw [toZ_snoc]; exact HV4.out) H4.out.2.1).mono ?_
            rintro e w5 ⟨rfl, vo5, hT5, hs5⟩
            have HTE := Aside0.mk (hT5)
            have HS5 := Aside0.mk hs5
            clear hT5 hs5
            refine ⟨_, rfl, ?_⟩
            refine hK.out _ _ ?_
            clear hK K
            refine norm_ (a' := ?_) ?_ ?_
            rotate_left
            · show Act.put _ (some 69) _ = _
              simp only [Act.put, List.setIfInBounds_toArray, List.set_cons_zero, List.set_cons_succ, i64_w, i32_w]
              rfl
            refine done_ (by kernel_rfl) ?_
            have HSE : Aside0 (TStep W w5 Z (.slice A L c) vo vo5 n) := ⟨HS3.out.trans (team_back (by have := H4.out.2.2; rwa [toZ_length, HPRE.out] at this) HS5.out HAT4.out H4.out.1 HVA8.out HV3.out)⟩
            go_wp2
            clear HT7 HT3 HV3 HS3 H4 HAT4 HV4 HS5 d5
            generalize w5 = w9 at HTE HSE ⊢
            have fz := blk_frozen HTE.out.hs i
            have sc := sum_cell HTE.out (t := i) (by rw [List.length_set, HSL.out]; exact HIK.out)
            have hse : (sums.set i (s + p)).getD i 0 = s + p := by rw [List.getD_eq_getElem?_getD, List.getElem?_set_self (by rw [HSL.out]; exact HIK.out)]; rfl
            rw [hse] at sc
            have d1 := blk_cell HTE.out.hp 0
            have d4 : w9.cell? (ad.add L) = some (.int .i64 p) := by
              rw [HL.out]
              exact (HTE.out.bel.cell (World.block_lt_of_cell? _ _ HCP.out)).trans HCP.out
            have hsp : wrap64 s = s := by
              exact wrapS (by have h1 := HS0.out i; have h3 := HN10.out; rw [← HS.out] at h1; omega)
            refine start_ (n := 11) (S := fun w' => w'.cell? ⟨Z.gs, i, none⟩ = some (.int .i64 (s + p)) ∧ w'.cell? ⟨Z.gp, 0, none⟩ = some (.slice (some ad) pl.length c0) ∧ w'.cell? (ad.add L) = some (.int .i64 p)) (ds := [10]) #[false, false, false, false, false, false, false, false, false, false, false] (by kernel_rfl) rfl rfl ⟨sc, d1, d4⟩ (fun hHeld => ?_)
            refine pure_ (i := 0) (N := some 70) (v := ?_) (a' := ?_) #[true, false, false, false, false, false, false, false, false, false, false] rfl rfl (by kernel_rfl) (fun _ _ _ h => h) (Or.inl ⟨by rfl, ?_⟩) ?_ ?_
            rotate_left
            · intro w'
              go_simp
              with_reducible rfl
            rotate_left
            · simp only [Act.put, List.setIfInBounds_toArray, List.set_cons_zero, List.set_cons_succ, i64_w, i32_w]
              rfl
            refine pure_ (i := 1) (N := some 71) (v := ?_) (a' := ?_) #[true, true, false, false, false, false, false, false, false, false, false] rfl rfl (by kernel_rfl) (fun _ _ _ h => h) (Or.inl ⟨by rfl, ?_⟩) ?_ ?_
            rotate_left
            · intro w'
              go_simp
              with_reducible rfl
            rotate_left
            · simp only [Act.put, List.setIfInBounds_toArray, List.set_cons_zero, List.set_cons_succ, i64_w, i32_w]
              rfl
            refine pure_ (i := 2) (N := some 72) (v := ?_) (a' := ?_) #[true, true, true, false, false, false, false, false, false, false, false] rfl rfl (by kernel_rfl) (fun _ _ _ h => h) (Or.inl ⟨by rfl, ?_⟩) ?_ ?_
            rotate_left
            · intro w'
              go_simp
              with_reducible rfl
            rotate_left
            · simp only [Act.put, List.setIfInBounds_toArray, List.set_cons_zero, List.set_cons_succ, i64_w, i32_w]
              rfl
            refine pure_ (i := 5) (N := some 75) (v := ?_) (a' := ?_) #[true, true, true, false, false, true, false, false, false, false, false] rfl rfl (by kernel_rfl) (fun _ _ _ h => h) (Or.inl ⟨by rfl, ?_⟩) ?_ ?_
            rotate_left
            · intro w'
              go_simp
              with_reducible rfl
            rotate_left
            · simp only [Act.put, List.setIfInBounds_toArray, List.set_cons_zero, List.set_cons_succ, i64_w, i32_w]
              rfl
            refine take_ (i := 3) (N := some 73) (v := ?_) (a' := ?_) #[true, true, true, true, false, true, false, false, false, false, false] rfl rfl (by kernel_rfl) (fun _ _ _ h => h) (Or.inl ⟨by rfl, ?_⟩) hHeld ?_ ?_
            rotate_left
            · rintro w' ⟨s0, s1, s2⟩
              go_simp
              with_reducible rfl
            rotate_left
            · simp only [Act.put, List.setIfInBounds_toArray, List.set_cons_zero, List.set_cons_succ, i64_w, i32_w]
              rfl
            refine take_ (i := 4) (N := some 74) (v := ?_) (a' := ?_) #[true, true, true, true, true, true, false, false, false, false, false] rfl rfl (by kernel_rfl) (fun _ _ _ h => h) (Or.inl ⟨by rfl, ?_⟩) hHeld ?_ ?_
            rotate_left
            · rintro w' ⟨s0, s1, s2⟩
              go_simp
              with_reducible rfl
            rotate_left
            · simp only [Act.put, List.setIfInBounds_toArray, List.set_cons_zero, List.set_cons_succ, i64_w, i32_w]
              rfl
            refine pure_ (i := 6) (N := some 76) (v := ?_) (a' := ?_) #[true, true, true, true, true, true, true, false, false, false, false] rfl rfl (by kernel_rfl) (fun _ _ _ h => h) (Or.inl ⟨by rfl, ?_⟩) ?_ ?_
            rotate_left
            · intro w'
              go_simp
              with_reducible rfl
            rotate_left
            · simp only [Act.put, List.setIfInBounds_toArray, List.set_cons_zero, List.set_cons_succ, i64_w, i32_w]
              rfl
            refine take_ (i := 7) (N := some 77) (v := ?_) (a' := ?_) #[true, true, true, true, true, true, true, true, false, false, false] rfl rfl (by kernel_rfl) (fun _ _ _ h => h) (Or.inl ⟨by rfl, ?_⟩) hHeld ?_ ?_
            rotate_left
            · rintro w' ⟨s0, s1, s2⟩
              go_simp
              with_reducible rfl
            rotate_left
            · simp only [Act.put, List.setIfInBounds_toArray, List.set_cons_zero, List.set_cons_succ, i64_w, i32_w]
              rfl
            refine pure_ (i := 8) (N := some 78) (v := ?_) (a' := ?_) #[true, true, true, true, true, true, true, true, true, false, false] rfl rfl (by kernel_rfl) (fun _ _ _ h => h) (Or.inl ⟨by rfl, ?_⟩) ?_ ?_
            rotate_left
            · intro w'
              go_simp
              with_reducible rfl
            rotate_left
            · simp only [Act.put, List.setIfInBounds_toArray, List.set_cons_zero, List.set_cons_succ, i64_w, i32_w]
              rfl
            refine pure_ (i := 9) (N := some 79) (v := ?_) (a' := ?_) #[true, true, true, true, true, true, true, true, true, true, false] rfl rfl (by kernel_rfl) (fun _ _ _ h => h) (Or.inl ⟨by rfl, ?_⟩) ?_ ?_
            rotate_left
            · intro w'
              go_simp
              with_reducible rfl
            rotate_left
            · simp only [Act.put, List.setIfInBounds_toArray, List.set_cons_zero, List.set_cons_succ, i64_w, i32_w]
              rfl
            refine last_ (i := 10) (N := none) #[true, true, true, true, true, true, true, true, true, true, true] rfl rfl (by kernel_rfl) (by decide) (fun K hK => ?_)
            refine skip_ (w1 := ?_) (by rfl) rfl ?_ ?_
            rotate_left
            · go_simp
              rfl
            refine hK.out _ _ ?_
            clear hK K
            refine done_ (by kernel_rfl) ?_
            have hback : (sums.set i (s + p)).set i s = sums := by
              rw [List.set_set]
              refine List.ext_getElem? fun j => ?_
              rw [List.getElem?_set]
              by_cases e : i = j
              · subst e
                rw [if_pos rfl, if_pos (by rw [HSL.out]; exact HIK.out), HS.out, List.getD_eq_getElem?_getD, List.getElem?_eq_getElem (by rw [HSL.out]; exact HIK.out)]
                rfl
              · rw [if_neg e]
            have HTN := Aside0.mk ((HTE.out.put HAD.out i s).drewN 1)
            rw [hback] at HTN
            have HSN := Aside0.mk (HSE.out.trans ((TStep.put HAD.out _ _ (fun q hq => (HVA.out q hq).2.2.1) i (.int .i64 s)).trans (TStep.drewN _ _ _ _ _ 1)))
            clear hback hHeld
            go_wp2
            go_roundg kq
            case measure => have := HI.out; omega
            case rel => exact ⟨i + 1, _, by first | rfl | rw [hw2], ⟨by have := HI.out; omega⟩, ⟨by rw [HACC.out]; exact HTN.out⟩, HSN⟩
        · have HACC : Aside0 (accT k p (pl.drop (n + 1)) pre sums used acc (i + 1) = a1) := ⟨by rw [accT_succ, ← HA1.out, ← HB1.out, ← HS.out, if_neg hc]⟩
          rw [not_or] at hc
          have e1 : decide (b1 < 0) = false := decide_eq_false hc.1
          have e2 : decide (s + p < b1) = false := decide_eq_false hc.2
          clear hc
          go_wp2
          go_quiet (fail)
          go_wp2
          generalize hqq : World.drewN w8 _ = w9 at ⊢
          have HTE : Aside0 (TI w0 w9 Z (some ad) c0 pl k a1 vi (sums.set i (s + p))) := ⟨by rw [← hqq]; exact HT8.out.drewN _⟩
          have HSE : Aside0 (TStep W w9 Z (.slice A L c) vo vi n) := ⟨by rw [← hqq]; exact HS8.out.trans (TStep.drewN _ _ _ _ _ _)⟩
          clear HT8 HS8 d2 sc hqq
          have fz := blk_frozen HTE.out.hs i
          have sc := sum_cell HTE.out (t := i) (by rw [List.length_set, HSL.out]; exact HIK.out)
          have hse : (sums.set i (s + p)).getD i 0 = s + p := by rw [List.getD_eq_getElem?_getD, List.getElem?_set_self (by rw [HSL.out]; exact HIK.out)]; rfl
          rw [hse] at sc
          have d1 := blk_cell HTE.out.hp 0
          have d4 : w9.cell? (ad.add L) = some (.int .i64 p) := by
            rw [HL.out]
            exact (HTE.out.bel.cell (World.block_lt_of_cell? _ _ HCP.out)).trans HCP.out
          have hsp : wrap64 s = s := by
            exact wrapS (by have h1 := HS0.out i; have h3 := HN10.out; rw [← HS.out] at h1; omega)
          refine start_ (n := 11) (S := fun w' => w'.cell? ⟨Z.gs, i, none⟩ = some (.int .i64 (s + p)) ∧ w'.cell? ⟨Z.gp, 0, none⟩ = some (.slice (some ad) pl.length c0) ∧ w'.cell? (ad.add L) = some (.int .i64 p)) (ds := [10]) #[false, false, false, false, false, false, false, false, false, false, false] (by kernel_rfl) rfl rfl ⟨sc, d1, d4⟩ (fun hHeld => ?_)
          refine pure_ (i := 0) (N := some 70) (v := ?_) (a' := ?_) #[true, false, false, false, false, false, false, false, false, false, false] rfl rfl (by kernel_rfl) (fun _ _ _ h => h) (Or.inl ⟨by rfl, ?_⟩) ?_ ?_
          rotate_left
          · intro w'
            go_simp
            with_reducible rfl
          rotate_left
          · simp only [Act.put, List.setIfInBounds_toArray, List.set_cons_zero, List.set_cons_succ, i64_w, i32_w]
            rfl
          refine pure_ (i := 1) (N := some 71) (v := ?_) (a' := ?_) #[true, true, false, false, false, false, false, false, false, false, false] rfl rfl (by kernel_rfl) (fun _ _ _ h => h) (Or.inl ⟨by rfl, ?_⟩) ?_ ?_
          rotate_left
          · intro w'
            go_simp
            with_reducible rfl
          rotate_left
          · simp only [Act.put, List.setIfInBounds_toArray, List.set_cons_zero, List.set_cons_succ, i64_w, i32_w]
            rfl
          refine pure_ (i := 2) (N := some 72) (v := ?_) (a' := ?_) #[true, true, true, false, false, false, false, false, false, false, false] rfl rfl (by kernel_rfl) (fun _ _ _ h => h) (Or.inl ⟨by rfl, ?_⟩) ?_ ?_
          rotate_left
          · intro w'
            go_simp
            with_reducible rfl
          rotate_left
          · simp only [Act.put, List.setIfInBounds_toArray, List.set_cons_zero, List.set_cons_succ, i64_w, i32_w]
            rfl
          refine pure_ (i := 5) (N := some 75) (v := ?_) (a' := ?_) #[true, true, true, false, false, true, false, false, false, false, false] rfl rfl (by kernel_rfl) (fun _ _ _ h => h) (Or.inl ⟨by rfl, ?_⟩) ?_ ?_
          rotate_left
          · intro w'
            go_simp
            with_reducible rfl
          rotate_left
          · simp only [Act.put, List.setIfInBounds_toArray, List.set_cons_zero, List.set_cons_succ, i64_w, i32_w]
            rfl
          refine take_ (i := 3) (N := some 73) (v := ?_) (a' := ?_) #[true, true, true, true, false, true, false, false, false, false, false] rfl rfl (by kernel_rfl) (fun _ _ _ h => h) (Or.inl ⟨by rfl, ?_⟩) hHeld ?_ ?_
          rotate_left
          · rintro w' ⟨s0, s1, s2⟩
            go_simp
            with_reducible rfl
          rotate_left
          · simp only [Act.put, List.setIfInBounds_toArray, List.set_cons_zero, List.set_cons_succ, i64_w, i32_w]
            rfl
          refine take_ (i := 4) (N := some 74) (v := ?_) (a' := ?_) #[true, true, true, true, true, true, false, false, false, false, false] rfl rfl (by kernel_rfl) (fun _ _ _ h => h) (Or.inl ⟨by rfl, ?_⟩) hHeld ?_ ?_
          rotate_left
          · rintro w' ⟨s0, s1, s2⟩
            go_simp
            with_reducible rfl
          rotate_left
          · simp only [Act.put, List.setIfInBounds_toArray, List.set_cons_zero, List.set_cons_succ, i64_w, i32_w]
            rfl
          refine pure_ (i := 6) (N := some 76) (v := ?_) (a' := ?_) #[true, true, true, true, true, true, true, false, false, false, false] rfl rfl (by kernel_rfl) (fun _ _ _ h => h) (Or.inl ⟨by rfl, ?_⟩) ?_ ?_
          rotate_left
          · intro w'
            go_simp
            with_reducible rfl
          rotate_left
          · simp only [Act.put, List.setIfInBounds_toArray, List.set_cons_zero, List.set_cons_succ, i64_w, i32_w]
            rfl
          refine take_ (i := 7) (N := some 77) (v := ?_) (a' := ?_) #[true, true, true, true, true, true, true, true, false, false, false] rfl rfl (by kernel_rfl) (fun _ _ _ h => h) (Or.inl ⟨by rfl, ?_⟩) hHeld ?_ ?_
          rotate_left
          · rintro w' ⟨s0, s1, s2⟩
            go_simp
            with_reducible rfl
          rotate_left
          · simp only [Act.put, List.setIfInBounds_toArray, List.set_cons_zero, List.set_cons_succ, i64_w, i32_w]
            rfl
          refine pure_ (i := 8) (N := some 78) (v := ?_) (a' := ?_) #[true, true, true, true, true, true, true, true, true, false, false] rfl rfl (by kernel_rfl) (fun _ _ _ h => h) (Or.inl ⟨by rfl, ?_⟩) ?_ ?_
          rotate_left
          · intro w'
            go_simp
            with_reducible rfl
          rotate_left
          · simp only [Act.put, List.setIfInBounds_toArray, List.set_cons_zero, List.set_cons_succ, i64_w, i32_w]
            rfl
          refine pure_ (i := 9) (N := some 79) (v := ?_) (a' := ?_) #[true, true, true, true, true, true, true, true, true, true, false] rfl rfl (by kernel_rfl) (fun _ _ _ h => h) (Or.inl ⟨by rfl, ?_⟩) ?_ ?_
          rotate_left
          · intro w'
            go_simp
            with_reducible rfl
          rotate_left
          · simp only [Act.put, List.setIfInBounds_toArray, List.set_cons_zero, List.set_cons_succ, i64_w, i32_w]
            rfl
          refine last_ (i := 10) (N := none) #[true, true, true, true, true, true, true, true, true, true, true] rfl rfl (by kernel_rfl) (by decide) (fun K hK => ?_)
          refine skip_ (w1 := ?_) (by rfl) rfl ?_ ?_
          rotate_left
          · go_simp
            rfl
          refine hK.out _ _ ?_
          clear hK K
          refine done_ (by kernel_rfl) ?_
          have hback : (sums.set i (s + p)).set i s = sums := by
            rw [List.set_set]
            refine List.ext_getElem? fun j => ?_
            rw [List.getElem?_set]
            by_cases e : i = j
            · subst e
              rw [if_pos rfl, if_pos (by rw [HSL.out]; exact HIK.out), HS.out, List.getD_eq_getElem?_getD, List.getElem?_eq_getElem (by rw [HSL.out]; exact HIK.out)]
              rfl
            · rw [if_neg e]
          have HTN := Aside0.mk ((HTE.out.put HAD.out i s).drewN 1)
          rw [hback] at HTN
          have HSN := Aside0.mk (HSE.out.trans ((TStep.put HAD.out _ _ (fun q hq => (HVA.out q hq).2.2.1) i (.int .i64 s)).trans (TStep.drewN _ _ _ _ _ 1)))
          clear hback hHeld
          go_wp2
          go_roundg kq
          case measure => have := HI.out; omega
          case rel => exact ⟨i + 1, _, by first | rfl | rw [hw2], ⟨by have := HI.out; omega⟩, ⟨by rw [HACC.out]; exact HTN.out⟩, HSN⟩
  · obtain ⟨X, hX⟩ : ∃ X : Int, X = (used : Int) + 1 := ⟨_, rfl⟩
    have HX : Aside0 (X = (M : Int)) := ⟨by rw [hX, HM.out]; omega⟩
    rw [← hX]
    clear hX h hw1 hlen d1 d3
    go_loopg [36] M (fun kq v36 wr => ∃ (i : Nat) (vi : Value), v36 = .int .i64 (i : Int) ∧ Aside0 (i + kq = M) ∧ Aside0 (TI w0 wr Z (some ad) c0 pl k (accT k p (pl.drop (n + 1)) pre sums used acc i) vi sums) ∧ Aside0 (TStep W wr Z (.slice A L c) vo vi n))
    case atStart => exact ⟨0, vo, rfl, ⟨by omega⟩, HT, ⟨TStep.refl _ _ _ _ _⟩⟩
    case round =>
      obtain ⟨i, vi, rfl, HI, HTI, HST⟩ := hrel
      cases gk with
      | zero =>
        have hd : decide ((i : Int) < X) = false := by rw [HX.out]; exact decide_eq_false (by have := HI.out; omega)
        go_wp2
        refine ⟨rfl, .tuple #[], results_none rfl _ _ _, ?_⟩
        refine ⟨rfl, vi, ?_, HST.out⟩
        obtain rfl : i = M := by have := HI.out; omega
        have e : asgS k (pl.drop n) pre sums used acc = accT k p (pl.drop (n + 1)) pre sums used acc i := by rw [HDR.out, HM.out]; rfl
        rw [e]
        exact HTI.out
      | succ kq =>
        have hd : decide ((i : Int) < X) = true := by rw [HX.out]; exact decide_eq_true (by have := HI.out; omega)
        have HIK : Aside0 (i < k) := ⟨by have := HI.out; have := HM.out; omega⟩
        obtain ⟨s, hs⟩ : ∃ s, s = sums.getD i 0 := ⟨_, rfl⟩
        have HS := Aside0.mk hs
        have sc := sum_cell HTI.out (t := i) (by rw [HSL.out]; exact HIK.out)
        rw [← hs] at sc
        have d1 := blk_cell HTI.out.hp 0
        have hik := HIK.out
        have hLp : L < pl.length := by rw [HL.out]; exact HN.out
        have d4 : wr.cell? (ad.add L) = some (.int .i64 p) := by
          rw [HL.out]
          exact (HTI.out.bel.cell (World.block_lt_of_cell? _ _ HCP.out)).trans HCP.out
        clear hs
        have fz := blk_frozen HTI.out.hs i
        have hsp : wrap64 (s + p) = s + p := wrapS (by have h1 := HS0.out i; have h2 := HPB.out; have h3 := HN10.out; rw [← HS.out] at h1; omega)
        go_wp2
        refine start_ (n := 11) (S := fun w' => w'.cell? ⟨Z.gs, i, none⟩ = some (.int .i64 s) ∧ w'.cell? ⟨Z.gp, 0, none⟩ = some (.slice (some ad) pl.length c0) ∧ w'.cell? (ad.add L) = some (.int .i64 p)) (ds := [10]) #[false, false, false, false, false, false, false, false, false, false, false] (by kernel_rfl) rfl rfl ⟨sc, d1, d4⟩ (fun hHeld => ?_)
        refine pure_ (i := 0) (N := some 39) (v := ?_) (a' := ?_) #[true, false, false, false, false, false, false, false, false, false, false] rfl rfl (by kernel_rfl) (fun _ _ _ h => h) (Or.inl ⟨by rfl, ?_⟩) ?_ ?_
        rotate_left
        · intro w'
          go_simp
          with_reducible rfl
        rotate_left
        · simp only [Act.put, List.setIfInBounds_toArray, List.set_cons_zero, List.set_cons_succ, i64_w, i32_w]
          rfl
        refine pure_ (i := 1) (N := some 40) (v := ?_) (a' := ?_) #[true, true, false, false, false, false, false, false, false, false, false] rfl rfl (by kernel_rfl) (fun _ _ _ h => h) (Or.inl ⟨by rfl, ?_⟩) ?_ ?_
        rotate_left
        · intro w'
          go_simp
          with_reducible rfl
        rotate_left
        · simp only [Act.put, List.setIfInBounds_toArray, List.set_cons_zero, List.set_cons_succ, i64_w, i32_w]
          rfl
        refine pure_ (i := 2) (N := some 41) (v := ?_) (a' := ?_) #[true, true, true, false, false, false, false, false, false, false, false] rfl rfl (by kernel_rfl) (fun _ _ _ h => h) (Or.inl ⟨by rfl, ?_⟩) ?_ ?_
        rotate_left
        · intro w'
          go_simp
          with_reducible rfl
        rotate_left
        · simp only [Act.put, List.setIfInBounds_toArray, List.set_cons_zero, List.set_cons_succ, i64_w, i32_w]
          rfl
        refine pure_ (i := 5) (N := some 44) (v := ?_) (a' := ?_) #[true, true, true, false, false, true, false, false, false, false, false] rfl rfl (by kernel_rfl) (fun _ _ _ h => h) (Or.inl ⟨by rfl, ?_⟩) ?_ ?_
        rotate_left
        · intro w'
          go_simp
          with_reducible rfl
        rotate_left
        · simp only [Act.put, List.setIfInBounds_toArray, List.set_cons_zero, List.set_cons_succ, i64_w, i32_w]
          rfl
        refine take_ (i := 3) (N := some 42) (v := ?_) (a' := ?_) #[true, true, true, true, false, true, false, false, false, false, false] rfl rfl (by kernel_rfl) (fun _ _ _ h => h) (Or.inl ⟨by rfl, ?_⟩) hHeld ?_ ?_
        rotate_left
        · rintro w' ⟨s0, s1, s2⟩
          go_simp
          with_reducible rfl
        rotate_left
        · simp only [Act.put, List.setIfInBounds_toArray, List.set_cons_zero, List.set_cons_succ, i64_w, i32_w]
          rfl
        refine take_ (i := 4) (N := some 43) (v := ?_) (a' := ?_) #[true, true, true, true, true, true, false, false, false, false, false] rfl rfl (by kernel_rfl) (fun _ _ _ h => h) (Or.inl ⟨by rfl, ?_⟩) hHeld ?_ ?_
        rotate_left
        · rintro w' ⟨s0, s1, s2⟩
          go_simp
          with_reducible rfl
        rotate_left
        · simp only [Act.put, List.setIfInBounds_toArray, List.set_cons_zero, List.set_cons_succ, i64_w, i32_w]
          rfl
        refine pure_ (i := 6) (N := some 45) (v := ?_) (a' := ?_) #[true, true, true, true, true, true, true, false, false, false, false] rfl rfl (by kernel_rfl) (fun _ _ _ h => h) (Or.inl ⟨by rfl, ?_⟩) ?_ ?_
        rotate_left
        · intro w'
          go_simp
          with_reducible rfl
        rotate_left
        · simp only [Act.put, List.setIfInBounds_toArray, List.set_cons_zero, List.set_cons_succ, i64_w, i32_w]
          rfl
        refine take_ (i := 7) (N := some 46) (v := ?_) (a' := ?_) #[true, true, true, true, true, true, true, true, false, false, false] rfl rfl (by kernel_rfl) (fun _ _ _ h => h) (Or.inl ⟨by rfl, ?_⟩) hHeld ?_ ?_
        rotate_left
        · rintro w' ⟨s0, s1, s2⟩
          go_simp
          with_reducible rfl
        rotate_left
        · simp only [Act.put, List.setIfInBounds_toArray, List.set_cons_zero, List.set_cons_succ, i64_w, i32_w]
          rfl
        refine pure_ (i := 8) (N := some 47) (v := ?_) (a' := ?_) #[true, true, true, true, true, true, true, true, true, false, false] rfl rfl (by kernel_rfl) (fun _ _ _ h => h) (Or.inl ⟨by rfl, ?_⟩) ?_ ?_
        rotate_left
        · intro w'
          go_simp
          with_reducible rfl
        rotate_left
        · simp only [Act.put, List.setIfInBounds_toArray, List.set_cons_zero, List.set_cons_succ, i64_w, i32_w]
          rfl
        refine pure_ (i := 9) (N := some 48) (v := ?_) (a' := ?_) #[true, true, true, true, true, true, true, true, true, true, false] rfl rfl (by kernel_rfl) (fun _ _ _ h => h) (Or.inl ⟨by rfl, ?_⟩) ?_ ?_
        rotate_left
        · intro w'
          go_simp
          with_reducible rfl
        rotate_left
        · simp only [Act.put, List.setIfInBounds_toArray, List.set_cons_zero, List.set_cons_succ, i64_w, i32_w]
          rfl
        refine last_ (i := 10) (N := none) #[true, true, true, true, true, true, true, true, true, true, true] rfl rfl (by kernel_rfl) (by decide) (fun K hK => ?_)
        refine skip_ (w1 := ?_) (by rfl) rfl ?_ ?_
        rotate_left
        · go_simp
          rfl
        refine hK.out _ _ ?_
        clear hK K
        refine done_ (by kernel_rfl) ?_
        have HT8 : Aside0 (TI w0 (wr.setCell ⟨Z.gs, i, none⟩ (.int .i64 (s + p))).drew Z (some ad) c0 pl k (accT k p (pl.drop (n + 1)) pre sums used acc i) vi (sums.set i (s + p))) := ⟨(HTI.out.put HAD.out i (s + p)).drewN 1⟩
        have HS8 : Aside0 (TStep W (wr.setCell ⟨Z.gs, i, none⟩ (.int .i64 (s + p))).drew Z (.slice A L c) vo vi n) := ⟨HST.out.trans ((TStep.put HAD.out _ _ (fun q hq => (HVA.out q hq).2.2.1) i _).trans (TStep.drewN _ _ _ _ _ 1))⟩
        clear hHeld fz sc d1 d4 HTI HST hsp
        generalize (wr.setCell ⟨Z.gs, i, none⟩ (.int .i64 (s + p))).drew = w8 at HT8 HS8 ⊢
        obtain ⟨a1, ha1⟩ : ∃ a, a = accT k p (pl.drop (n + 1)) pre sums used acc i := ⟨_, rfl⟩
        rw [← ha1] at HT8
        have HA1 := Aside0.mk ha1
        obtain ⟨b1, hb1⟩ : ∃ b, b = a1.1 := ⟨_, rfl⟩
        have d2 := blk_cell HT8.out.hb 0
        rw [← hb1] at d2
        have HB1 := Aside0.mk hb1
        have sc := sum_cell HT8.out (t := i) (by rw [List.length_set, HSL.out]; exact HIK.out)
        have hse : (sums.set i (s + p)).getD i 0 = s + p := by rw [List.getD_eq_getElem?_getD, List.getElem?_set_self (by rw [HSL.out]; exact HIK.out)]; rfl
        rw [hse] at sc
        clear ha1 hb1 hse
        have hw2 : wrap64 ((i : Int) + 1) = ((i + 1 : Nat) : Int) := wrapS (by have h1 := HIK.out; have h2 := HK.out; omega)
        by_cases hc : b1 < 0 ∨ s + p < b1
        · have HACC : Aside0 (accT k p (pl.drop (n + 1)) pre sums used acc (i + 1) = asgS k (pl.drop (n + 1)) (pre ++ [i]) (sums.set i (s + p)) (max used (i + 1)) a1) := ⟨by rw [accT_succ, ← HA1.out, ← HB1.out, ← HS.out, if_pos hc]⟩
          have HV8 : Aside0 (TRow w8 w0.heap.size (.slice A L c) (toZ pre)) := ⟨HV.out.kept (by rw [toZ_length, HPRE.out]; exact HS8.out.row)⟩
          have HVA8 : Aside0 (Apart Z (.slice A L c) vi) := ⟨HVA.out.next HV.out HS8.out.new⟩
          have HSB : Aside0 (∀ j, 0 ≤ (sums.set i (s + p)).getD j 0 ∧ (sums.set i (s + p)).getD j 0 ≤ 1000000 * ((n + 1 : Nat) : Int)) := ⟨fun j => by
            have h1 := HS0.out j
            have h2 := HPB.out
            have h3 := HS0.out i
            rw [← HS.out] at h3
            rw [List.getD_eq_getElem?_getD, List.getElem?_set]
            by_cases e : i = j
            · rw [if_pos e, if_pos (by rw [HSL.out]; exact HIK.out)]
              simp only [Option.getD_some]
              omega
            · rw [if_neg e, ← List.getD_eq_getElem?_getD]
              omega⟩
          obtain ⟨u2, hu2⟩ : ∃ u2, u2 = max used (i + 1) := ⟨_, rfl⟩
          have HU2 := Aside0.mk hu2
          have HIF : Aside0 ((if (used : Int) < (i : Int) + 1 then (i : Int) + 1 else (used : Int)) = (u2 : Int)) := ⟨by rw [hu2]; split <;> omega⟩
          rw [← hu2] at HACC
          clear hu2
          by_cases h1 : b1 < 0
          · have e1 : decide (b1 < 0) = true := decide_eq_true h1
            clear hc h1
            go_wp2
            go_quiet (fail)
            go_wp2
            generalize hqq : World.drewN w8 _ = w7 at ⊢
            have HT7 : Aside0 (TI w0 w7 Z (some ad) c0 pl k a1 vi (sums.set i (s + p))) := ⟨by rw [← hqq]; exact HT8.out.drewN _⟩
            have HV3 : Aside0 (TRow w7.drew w0.heap.size (.slice A L c) (toZ pre)) := ⟨by rw [← hqq]; exact HV8.out⟩
            have HS3 : Aside0 (TStep W w7.drew Z (.slice A L c) vo vi n) := ⟨by rw [← hqq]; exact HS8.out.trans ((TStep.drewN _ _ _ _ _ _).trans (TStep.drewN _ _ _ _ _ 1))⟩
            have HT3 : Aside0 (TI w0 w7.drew Z (some ad) c0 pl k a1 vi (sums.set i (s + p))) := ⟨HT7.out.drewN 1⟩
            have d5 := blk_cell HT7.out.ha 0
            clear HT8 HV8 HS8 d2 sc hqq
            refine start_ (n := 11) (S := fun w' => w'.cell? ⟨Z.ga, 0, none⟩ = some (.func (.func 51) #[] #[.pointer (some ⟨Z.gp, 0, none⟩), .pointer (some ⟨Z.gb, 0, none⟩), .pointer (some ⟨Z.go, 0, none⟩), .pointer (some ⟨Z.gk, 0, none⟩), .pointer (some ⟨Z.ga, 0, none⟩)])) (ds := [10]) #[false, false, false, false, false, false, false, false, false, false, false] (by kernel_rfl) rfl rfl d5 (fun hHeld => ?_)
            refine pure_ (i := 1) (N := some 60) (v := ?_) (a' := ?_) #[false, true, false, false, false, false, false, false, false, false, false] rfl rfl (by kernel_rfl) (fun _ _ _ h => h) (Or.inl ⟨by rfl, ?_⟩) ?_ ?_
            rotate_left
            · intro w'
              go_simp
              with_reducible rfl
            rotate_left
            · simp only [Act.put, List.setIfInBounds_toArray, List.set_cons_zero, List.set_cons_succ, i64_w, i32_w]
              rfl
            refine pure_ (i := 2) (N := some 61) (v := ?_) (a' := ?_) #[false, true, true, false, false, false, false, false, false, false, false] rfl rfl (by kernel_rfl) (fun _ _ _ h => h) (Or.inl ⟨by rfl, ?_⟩) ?_ ?_
            rotate_left
            · intro w'
              go_simp
              with_reducible rfl
            rotate_left
            · simp only [Act.put, List.setIfInBounds_toArray, List.set_cons_zero, List.set_cons_succ, i64_w, i32_w]
              rfl
            refine pure_ (i := 5) (N := some 64) (v := ?_) (a' := ?_) #[false, true, true, false, false, true, false, false, false, false, false] rfl rfl (by kernel_rfl) (fun _ _ _ h => h) (Or.inl ⟨by rfl, ?_⟩) ?_ ?_
            rotate_left
            · intro w'
              go_simp
              with_reducible rfl
            rotate_left
            · simp only [Act.put, List.setIfInBounds_toArray, List.set_cons_zero, List.set_cons_succ, i64_w, i32_w]
              rfl
            refine pure_ (i := 6) (N := some 65) (v := ?_) (a' := ?_) #[false, true, true, false, false, true, true, false, false, false, false] rfl rfl (by kernel_rfl) (fun _ _ _ h => h) (Or.inl ⟨by rfl, ?_⟩) ?_ ?_
            rotate_left
            · intro w'
              go_simp
              with_reducible rfl
            rotate_left
            · simp only [Act.put, List.setIfInBounds_toArray, List.set_cons_zero, List.set_cons_succ, i64_w, i32_w]
              rfl
            refine pure_ (i := 7) (N := some 66) (v := ?_) (a' := ?_) #[false, true, true, false, false, true, true, true, false, false, false] rfl rfl (by kernel_rfl) (fun _ _ _ h => h) (Or.inl ⟨by rfl, ?_⟩) ?_ ?_
            rotate_left
            · intro w'
              go_simp
              with_reducible rfl
            rotate_left
            · simp only [Act.put, List.setIfInBounds_toArray, List.set_cons_zero, List.set_cons_succ, i64_w, i32_w]
              rfl
            refine pure_ (i := 8) (N := some 67) (v := ?_) (a' := ?_) #[false, true, true, false, false, true, true, true, true, false, false] rfl rfl (by kernel_rfl) (fun _ _ _ h => h) (Or.inl ⟨by rfl, ?_⟩) ?_ ?_
            rotate_left
            · intro w'
              go_simp
              with_reducible rfl
            rotate_left
            · simp only [Act.put, List.setIfInBounds_toArray, List.set_cons_zero, List.set_cons_succ, i64_w, i32_w]
              rfl
            refine pure_ (i := 9) (N := some 68) (v := ?_) (a' := ?_) #[false, true, true, false, false, true, true, true, true, true, false] rfl rfl (by kernel_rfl) (fun _ _ _ h => h) (Or.inl ⟨by rfl, ?_⟩) ?_ ?_
            rotate_left
            · intro w'
              go_simp
              with_reducible rfl
            rotate_left
            · simp only [Act.put, List.setIfInBounds_toArray, List.set_cons_zero, List.set_cons_succ, i64_w, i32_w]
              rfl
            rw [HIF.out]
            refine take_ (i := 0) (N := some 59) (v := ?_) (a' := ?_) #[true, true, true, false, false, true, true, true, true, true, false] rfl rfl (by kernel_rfl) (fun _ _ _ h => h) (Or.inl ⟨by rfl, ?_⟩) hHeld ?_ ?_
            rotate_left
            · rintro w' s0
              go_simp
              with_reducible rfl
            rotate_left
            · simp only [Act.put, List.setIfInBounds_toArray, List.set_cons_zero, List.set_cons_succ, i64_w, i32_w]
              rfl
            refine one_ (i := 3) (N := some 62) #[true, true, true, true, false, true, true, true, true, true, false] rfl rfl (by kernel_rfl) (by decide) (fun K hK => ?_)
            refine value_ (w1 := ?_) (v := ?_) (by rfl) rfl ?_ ?_
            rotate_left 2
            · go_simp
              constructor
              · rfl
              · rfl
            refine hK.out _ _ (blk_cell (blk_alloc HT3.out.ha _) 0) (fun hHeld => ?_)
            clear hK K
            refine norm_ (a' := ?_) ?_ ?_
            rotate_left
            · show Act.put _ (some 62) _ = _
              simp only [Act.put, List.setIfInBounds_toArray, List.set_cons_zero, List.set_cons_succ, i64_w, i32_w]
              rfl
            refine one_ (i := 4) (N := some 63) #[true, true, true, true, true, true, true, true, true, true, false] rfl rfl (by kernel_rfl) (by decide) (fun K hK => ?_)
            refine team_step (W := w7.drew) (by rfl) rfl w0.heap.size (.tmp 60) (.tmp 62) rfl (.slice A L c) (toZ pre) (i : Int) rfl rfl HV3.out (below_size HT3.out.bel) (by rw [toZ_length, HPRE.out]; have := HN10.out; omega) ?_
            intro v4 w4 hv4 hg4 hat4 hk4
            have H4 := Aside0.mk (team_next HT3.out HV3.out HVA8.out hg4 hat4 hk4)
            have HAT4 := Aside0.mk hat4
            obtain ⟨A4, c4, e4, -, -⟩ := hv4.reads (by rw [List.length_append, toZ_length, HPRE.out]; have := HN10.out; simp; omega)
            have HV4 := Aside0.mk hv4
            clear hv4 hg4 hat4 hk4
            subst e4
            refine hK.out _ _ (blk_cell H4.out.1.ha 0) (fun hHeld => ?_)
            clear hK K
            refine norm_ (a' := ?_) ?_ ?_
            rotate_left
            · show Act.put _ (some 63) _ = _
              simp only [Act.put, List.setIfInBounds_toArray, List.set_cons_zero, List.set_cons_succ, i64_w, i32_w]
              rfl
            refine last_ (i := 10) (N := some 69) #[true, true, true, true, true, true, true, true, true, true, true] rfl rfl (by kernel_rfl) (by decide) (fun K hK => ?_)
            refine goesC_ Try.func51 (by kernel_rfl) rfl #[.slice A4 (toZ pre ++ [(i : Int)]).length c4, .slice (some ⟨Z.gs, 0, none⟩) k k, .int .i64 (u2 : Int), .pointer (some ⟨Z.gp, 0, none⟩), .pointer (some ⟨Z.gb, 0, none⟩), .pointer (some ⟨Z.go, 0, none⟩), .pointer (some ⟨Z.gk, 0, none⟩), .pointer (some ⟨Z.ga, 0, none⟩)] (by rfl) rfl rfl rfl (by first | rfl | (simp only [List.map_toArray, List.map_cons, List.map_nil]; rfl)) ?_
            show Calls Try.prog 51 (aArgs Z _ k u2) _ _
            refine (HIH.out (pre ++ [i]) (sums.set i (s + p)) u2 a1 _ vi _ (by simp [HPRE.out]) (by rw [List.length_set]; exact HSL.out) HSB.out (by rw [HU2.out]; have := HUS.out; have := HIK.out; omega) H4.out.1 (by rw [toZ_snoc]; exact HV4.out) H4.out.2.1).mono ?_
            rintro e w5 ⟨rfl, vo5, hT5, hs5⟩
            have HTE := Aside0.mk (hT5)
            have HS5 := Aside0.mk hs5
            clear hT5 hs5
            refine ⟨_, rfl, ?_⟩
            refine hK.out _ _ ?_
            clear hK K
            refine norm_ (a' := ?_) ?_ ?_
            rotate_left
            · show Act.put _ (some 69) _ = _
              simp only [Act.put, List.setIfInBounds_toArray, List.set_cons_zero, List.set_cons_succ, i64_w, i32_w]
              rfl
            refine done_ (by kernel_rfl) ?_
            have HSE : Aside0 (TStep W w5 Z (.slice A L c) vo vo5 n) := ⟨HS3.out.trans (team_back (by have := H4.out.2.2; rwa [toZ_length, HPRE.out] at this) HS5.out HAT4.out H4.out.1 HVA8.out HV3.out)⟩
            go_wp2
            clear HT7 HT3 HV3 HS3 H4 HAT4 HV4 HS5 d5
            generalize w5 = w9 at HTE HSE ⊢
            have fz := blk_frozen HTE.out.hs i
            have sc := sum_cell HTE.out (t := i) (by rw [List.length_set, HSL.out]; exact HIK.out)
            have hse : (sums.set i (s + p)).getD i 0 = s + p := by rw [List.getD_eq_getElem?_getD, List.getElem?_set_self (by rw [HSL.out]; exact HIK.out)]; rfl
            rw [hse] at sc
            have d1 := blk_cell HTE.out.hp 0
            have d4 : w9.cell? (ad.add L) = some (.int .i64 p) := by
              rw [HL.out]
              exact (HTE.out.bel.cell (World.block_lt_of_cell? _ _ HCP.out)).trans HCP.out
            have hsp : wrap64 s = s := by
              exact wrapS (by have h1 := HS0.out i; have h3 := HN10.out; rw [← HS.out] at h1; omega)
            refine start_ (n := 11) (S := fun w' => w'.cell? ⟨Z.gs, i, none⟩ = some (.int .i64 (s + p)) ∧ w'.cell? ⟨Z.gp, 0, none⟩ = some (.slice (some ad) pl.length c0) ∧ w'.cell? (ad.add L) = some (.int .i64 p)) (ds := [10]) #[false, false, false, false, false, false, false, false, false, false, false] (by kernel_rfl) rfl rfl ⟨sc, d1, d4⟩ (fun hHeld => ?_)
            refine pure_ (i := 0) (N := some 70) (v := ?_) (a' := ?_) #[true, false, false, false, false, false, false, false, false, false, false] rfl rfl (by kernel_rfl) (fun _ _ _ h => h) (Or.inl ⟨by rfl, ?_⟩) ?_ ?_
            rotate_left
            · intro w'
              go_simp
              with_reducible rfl
            rotate_left
            · simp only [Act.put, List.setIfInBounds_toArray, List.set_cons_zero, List.set_cons_succ, i64_w, i32_w]
              rfl
            refine pure_ (i := 1) (N := some 71) (v := ?_) (a' := ?_) #[true, true, false, false, false, false, false, false, false, false, false] rfl rfl (by kernel_rfl) (fun _ _ _ h => h) (Or.inl ⟨by rfl, ?_⟩) ?_ ?_
            rotate_left
            · intro w'
              go_simp
              with_reducible rfl
            rotate_left
            · simp only [Act.put, List.setIfInBounds_toArray, List.set_cons_zero, List.set_cons_succ, i64_w, i32_w]
              rfl
            refine pure_ (i := 2) (N := some 72) (v := ?_) (a' := ?_) #[true, true, true, false, false, false, false, false, false, false, false] rfl rfl (by kernel_rfl) (fun _ _ _ h => h) (Or.inl ⟨by rfl, ?_⟩) ?_ ?_
            rotate_left
            · intro w'
              go_simp
              with_reducible rfl
            rotate_left
            · simp only [Act.put, List.setIfInBounds_toArray, List.set_cons_zero, List.set_cons_succ, i64_w, i32_w]
              rfl
            refine pure_ (i := 5) (N := some 75) (v := ?_) (a' := ?_) #[true, true, true, false, false, true, false, false, false, false, false] rfl rfl (by kernel_rfl) (fun _ _ _ h => h) (Or.inl ⟨by rfl, ?_⟩) ?_ ?_
            rotate_left
            · intro w'
              go_simp
              with_reducible rfl
            rotate_left
            · simp only [Act.put, List.setIfInBounds_toArray, List.set_cons_zero, List.set_cons_succ, i64_w, i32_w]
              rfl
            refine take_ (i := 3) (N := some 73) (v := ?_) (a' := ?_) #[true, true, true, true, false, true, false, false, false, false, false] rfl rfl (by kernel_rfl) (fun _ _ _ h => h) (Or.inl ⟨by rfl, ?_⟩) hHeld ?_ ?_
            rotate_left
            · rintro w' ⟨s0, s1, s2⟩
              go_simp
              with_reducible rfl
            rotate_left
            · simp only [Act.put, List.setIfInBounds_toArray, List.set_cons_zero, List.set_cons_succ, i64_w, i32_w]
              rfl
            refine take_ (i := 4) (N := some 74) (v := ?_) (a' := ?_) #[true, true, true, true, true, true, false, false, false, false, false] rfl rfl (by kernel_rfl) (fun _ _ _ h => h) (Or.inl ⟨by rfl, ?_⟩) hHeld ?_ ?_
            rotate_left
            · rintro w' ⟨s0, s1, s2⟩
              go_simp
              with_reducible rfl
            rotate_left
            · simp only [Act.put, List.setIfInBounds_toArray, List.set_cons_zero, List.set_cons_succ, i64_w, i32_w]
              rfl
            refine pure_ (i := 6) (N := some 76) (v := ?_) (a' := ?_) #[true, true, true, true, true, true, true, false, false, false, false] rfl rfl (by kernel_rfl) (fun _ _ _ h => h) (Or.inl ⟨by rfl, ?_⟩) ?_ ?_
            rotate_left
            · intro w'
              go_simp
              with_reducible rfl
            rotate_left
            · simp only [Act.put, List.setIfInBounds_toArray, List.set_cons_zero, List.set_cons_succ, i64_w, i32_w]
              rfl
            refine take_ (i := 7) (N := some 77) (v := ?_) (a' := ?_) #[true, true, true, true, true, true, true, true, false, false, false] rfl rfl (by kernel_rfl) (fun _ _ _ h => h) (Or.inl ⟨by rfl, ?_⟩) hHeld ?_ ?_
            rotate_left
            · rintro w' ⟨s0, s1, s2⟩
              go_simp
              with_reducible rfl
            rotate_left
            · simp only [Act.put, List.setIfInBounds_toArray, List.set_cons_zero, List.set_cons_succ, i64_w, i32_w]
              rfl
            refine pure_ (i := 8) (N := some 78) (v := ?_) (a' := ?_) #[true, true, true, true, true, true, true, true, true, false, false] rfl rfl (by kernel_rfl) (fun _ _ _ h => h) (Or.inl ⟨by rfl, ?_⟩) ?_ ?_
            rotate_left
            · intro w'
              go_simp
              with_reducible rfl
            rotate_left
            · simp only [Act.put, List.setIfInBounds_toArray, List.set_cons_zero, List.set_cons_succ, i64_w, i32_w]
              rfl
            refine pure_ (i := 9) (N := some 79) (v := ?_) (a' := ?_) #[true, true, true, true, true, true, true, true, true, true, false] rfl rfl (by kernel_rfl) (fun _ _ _ h => h) (Or.inl ⟨by rfl, ?_⟩) ?_ ?_
            rotate_left
            · intro w'
              go_simp
              with_reducible rfl
            rotate_left
            · simp only [Act.put, List.setIfInBounds_toArray, List.set_cons_zero, List.set_cons_succ, i64_w, i32_w]
              rfl
            refine last_ (i := 10) (N := none) #[true, true, true, true, true, true, true, true, true, true, true] rfl rfl (by kernel_rfl) (by decide) (fun K hK => ?_)
            refine skip_ (w1 := ?_) (by rfl) rfl ?_ ?_
            rotate_left
            · go_simp
              rfl
            refine hK.out _ _ ?_
            clear hK K
            refine done_ (by kernel_rfl) ?_
            have hback : (sums.set i (s + p)).set i s = sums := by
              rw [List.set_set]
              refine List.ext_getElem? fun j => ?_
              rw [List.getElem?_set]
              by_cases e : i = j
              · subst e
                rw [if_pos rfl, if_pos (by rw [HSL.out]; exact HIK.out), HS.out, List.getD_eq_getElem?_getD, List.getElem?_eq_getElem (by rw [HSL.out]; exact HIK.out)]
                rfl
              · rw [if_neg e]
            have HTN := Aside0.mk ((HTE.out.put HAD.out i s).drewN 1)
            rw [hback] at HTN
            have HSN := Aside0.mk (HSE.out.trans ((TStep.put HAD.out _ _ (fun q hq => (HVA.out q hq).2.2.1) i (.int .i64 s)).trans (TStep.drewN _ _ _ _ _ 1)))
            clear hback hHeld
            go_wp2
            go_roundg kq
            case measure => have := HI.out; omega
            case rel => exact ⟨i + 1, _, by first | rfl | rw [hw2], ⟨by have := HI.out; omega⟩, ⟨by rw [HACC.out]; exact HTN.out⟩, HSN⟩
          · have e1 : decide (b1 < 0) = false := decide_eq_false h1
            have e2 : decide (s + p < b1) = true := decide_eq_true (hc.resolve_left h1)
            clear hc h1
            go_wp2
            go_quiet (fail)
            go_wp2
            generalize hqq : World.drewN w8 _ = w7 at ⊢
            have HT7 : Aside0 (TI w0 w7 Z (some ad) c0 pl k a1 vi (sums.set i (s + p))) := ⟨by rw [← hqq]; exact HT8.out.drewN _⟩
            have HV3 : Aside0 (TRow w7.drew w0.heap.size (.slice A L c) (toZ pre)) := ⟨by rw [← hqq]; exact HV8.out⟩
            have HS3 : Aside0 (TStep W w7.drew Z (.slice A L c) vo vi n) := ⟨by rw [← hqq]; exact HS8.out.trans ((TStep.drewN _ _ _ _ _ _).trans (TStep.drewN _ _ _ _ _ 1))⟩
            have HT3 : Aside0 (TI w0 w7.drew Z (some ad) c0 pl k a1 vi (sums.set i (s + p))) := ⟨HT7.out.drewN 1⟩
            have d5 := blk_cell HT7.out.ha 0
            clear HT8 HV8 HS8 d2 sc hqq
            refine start_ (n := 11) (S := fun w' => w'.cell? ⟨Z.ga, 0, none⟩ = some (.func (.func 51) #[] #[.pointer (some ⟨Z.gp, 0, none⟩), .pointer (some ⟨Z.gb, 0, none⟩), .pointer (some ⟨Z.go, 0, none⟩), .pointer (some ⟨Z.gk, 0, none⟩), .pointer (some ⟨Z.ga, 0, none⟩)])) (ds := [10]) #[false, false, false, false, false, false, false, false, false, false, false] (by kernel_rfl) rfl rfl d5 (fun hHeld => ?_)
            refine pure_ (i := 1) (N := some 60) (v := ?_) (a' := ?_) #[false, true, false, false, false, false, false, false, false, false, false] rfl rfl (by kernel_rfl) (fun _ _ _ h => h) (Or.inl ⟨by rfl, ?_⟩) ?_ ?_
            rotate_left
            · intro w'
              go_simp
              with_reducible rfl
            rotate_left
            · simp only [Act.put, List.setIfInBounds_toArray, List.set_cons_zero, List.set_cons_succ, i64_w, i32_w]
              rfl
            refine pure_ (i := 2) (N := some 61) (v := ?_) (a' := ?_) #[false, true, true, false, false, false, false, false, false, false, false] rfl rfl (by kernel_rfl) (fun _ _ _ h => h) (Or.inl ⟨by rfl, ?_⟩) ?_ ?_
            rotate_left
            · intro w'
              go_simp
              with_reducible rfl
            rotate_left
            · simp only [Act.put, List.setIfInBounds_toArray, List.set_cons_zero, List.set_cons_succ, i64_w, i32_w]
              rfl
            refine pure_ (i := 5) (N := some 64) (v := ?_) (a' := ?_) #[false, true, true, false, false, true, false, false, false, false, false] rfl rfl (by kernel_rfl) (fun _ _ _ h => h) (Or.inl ⟨by rfl, ?_⟩) ?_ ?_
            rotate_left
            · intro w'
              go_simp
              with_reducible rfl
            rotate_left
            · simp only [Act.put, List.setIfInBounds_toArray, List.set_cons_zero, List.set_cons_succ, i64_w, i32_w]
              rfl
            refine pure_ (i := 6) (N := some 65) (v := ?_) (a' := ?_) #[false, true, true, false, false, true, true, false, false, false, false] rfl rfl (by kernel_rfl) (fun _ _ _ h => h) (Or.inl ⟨by rfl, ?_⟩) ?_ ?_
            rotate_left
            · intro w'
              go_simp
              with_reducible rfl
            rotate_left
            · simp only [Act.put, List.setIfInBounds_toArray, List.set_cons_zero, List.set_cons_succ, i64_w, i32_w]
              rfl
            refine pure_ (i := 7) (N := some 66) (v := ?_) (a' := ?_) #[false, true, true, false, false, true, true, true, false, false, false] rfl rfl (by kernel_rfl) (fun _ _ _ h => h) (Or.inl ⟨by rfl, ?_⟩) ?_ ?_
            rotate_left
            · intro w'
              go_simp
              with_reducible rfl
            rotate_left
            · simp only [Act.put, List.setIfInBounds_toArray, List.set_cons_zero, List.set_cons_succ, i64_w, i32_w]
              rfl
            refine pure_ (i := 8) (N := some 67) (v := ?_) (a' := ?_) #[false, true, true, false, false, true, true, true, true, false, false] rfl rfl (by kernel_rfl) (fun _ _ _ h => h) (Or.inl ⟨by rfl, ?_⟩) ?_ ?_
            rotate_left
            · intro w'
              go_simp
              with_reducible rfl
            rotate_left
            · simp only [Act.put, List.setIfInBounds_toArray, List.set_cons_zero, List.set_cons_succ, i64_w, i32_w]
              rfl
            refine pure_ (i := 9) (N := some 68) (v := ?_) (a' := ?_) #[false, true, true, false, false, true, true, true, true, true, false] rfl rfl (by kernel_rfl) (fun _ _ _ h => h) (Or.inl ⟨by rfl, ?_⟩) ?_ ?_
            rotate_left
            · intro w'
              go_simp
              with_reducible rfl
            rotate_left
            · simp only [Act.put, List.setIfInBounds_toArray, List.set_cons_zero, List.set_cons_succ, i64_w, i32_w]
              rfl
            rw [HIF.out]
            refine take_ (i := 0) (N := some 59) (v := ?_) (a' := ?_) #[true, true, true, false, false, true, true, true, true, true, false] rfl rfl (by kernel_rfl) (fun _ _ _ h => h) (Or.inl ⟨by rfl, ?_⟩) hHeld ?_ ?_
            rotate_left
            · rintro w' s0
              go_simp
              with_reducible rfl
            rotate_left
            · simp only [Act.put, List.setIfInBounds_toArray, List.set_cons_zero, List.set_cons_succ, i64_w, i32_w]
              rfl
            refine one_ (i := 3) (N := some 62) #[true, true, true, true, false, true, true, true, true, true, false] rfl rfl (by kernel_rfl) (by decide) (fun K hK => ?_)
            refine value_ (w1 := ?_) (v := ?_) (by rfl) rfl ?_ ?_
            rotate_left 2
            · go_simp
              constructor
              · rfl
              · rfl
            refine hK.out _ _ (blk_cell (blk_alloc HT3.out.ha _) 0) (fun hHeld => ?_)
            clear hK K
            refine norm_ (a' := ?_) ?_ ?_
            rotate_left
            · show Act.put _ (some 62) _ = _
              simp only [Act.put, List.setIfInBounds_toArray, List.set_cons_zero, List.set_cons_succ, i64_w, i32_w]
              rfl
            refine one_ (i := 4) (N := some 63) #[true, true, true, true, true, true, true, true, true, true, false] rfl rfl (by kernel_rfl) (by decide) (fun K hK => ?_)
            refine team_step (W := w7.drew) (by rfl) rfl w0.heap.size (.tmp 60) (.tmp 62) rfl (.slice A L c) (toZ pre) (i : Int) rfl rfl HV3.out (below_size HT3.out.bel) (by rw [toZ_length, HPRE.out]; have := HN10.out; omega) ?_
            intro v4 w4 hv4 hg4 hat4 hk4
            have H4 := Aside0.mk (team_next HT3.out HV3.out HVA8.out hg4 hat4 hk4)
            have HAT4 := Aside0.mk hat4
            obtain ⟨A4, c4, e4, -, -⟩ := hv4.reads (by rw [List.length_append, toZ_length, HPRE.out]; have := HN10.out; simp; omega)
            have HV4 := Aside0.mk hv4
            clear hv4 hg4 hat4 hk4
            subst e4
            refine hK.out _ _ (blk_cell H4.out.1.ha 0) (fun hHeld => ?_)
            clear hK K
            refine norm_ (a' := ?_) ?_ ?_
            rotate_left
            · show Act.put _ (some 63) _ = _
              simp only [Act.put, List.setIfInBounds_toArray, List.set_cons_zero, List.set_cons_succ, i64_w, i32_w]
              rfl
            refine last_ (i := 10) (N := some 69) #[true, true, true, true, true, true, true, true, true, true, true] rfl rfl (by kernel_rfl) (by decide) (fun K hK => ?_)
            refine goesC_ Try.func51 (by kernel_rfl) rfl #[.slice A4 (toZ pre ++ [(i : Int)]).length c4, .slice (some ⟨Z.gs, 0, none⟩) k k, .int .i64 (u2 : Int), .pointer (some ⟨Z.gp, 0, none⟩), .pointer (some ⟨Z.gb, 0, none⟩), .pointer (some ⟨Z.go, 0, none⟩), .pointer (some ⟨Z.gk, 0, none⟩), .pointer (some ⟨Z.ga, 0, none⟩)] (by rfl) rfl rfl rfl (by first | rfl | (simp only [List.map_toArray, List.map_cons, List.map_nil]; rfl)) ?_
            show Calls Try.prog 51 (aArgs Z _ k u2) _ _
            refine (HIH.out (pre ++ [i]) (sums.set i (s + p)) u2 a1 _ vi _ (by simp [HPRE.out]) (by rw [List.length_set]; exact HSL.out) HSB.out (by rw [HU2.out]; have := HUS.out; have := HIK.out; omega) H4.out.1 (by rw [toZ_snoc]; exact HV4.out) H4.out.2.1).mono ?_
            rintro e w5 ⟨rfl, vo5, hT5, hs5⟩
            have HTE := Aside0.mk (hT5)
            have HS5 := Aside0.mk hs5
            clear hT5 hs5
            refine ⟨_, rfl, ?_⟩
            refine hK.out _ _ ?_
            clear hK K
            refine norm_ (a' := ?_) ?_ ?_
            rotate_left
            · show Act.put _ (some 69) _ = _
              simp only [Act.put, List.setIfInBounds_toArray, List.set_cons_zero, List.set_cons_succ, i64_w, i32_w]
              rfl
            refine done_ (by kernel_rfl) ?_
            have HSE : Aside0 (TStep W w5 Z (.slice A L c) vo vo5 n) := ⟨HS3.out.trans (team_back (by have := H4.out.2.2; rwa [toZ_length, HPRE.out] at this) HS5.out HAT4.out H4.out.1 HVA8.out HV3.out)⟩
            go_wp2
            clear HT7 HT3 HV3 HS3 H4 HAT4 HV4 HS5 d5
            generalize w5 = w9 at HTE HSE ⊢
            have fz := blk_frozen HTE.out.hs i
            have sc := sum_cell HTE.out (t := i) (by rw [List.length_set, HSL.out]; exact HIK.out)
            have hse : (sums.set i (s + p)).getD i 0 = s + p := by rw [List.getD_eq_getElem?_getD, List.getElem?_set_self (by rw [HSL.out]; exact HIK.out)]; rfl
            rw [hse] at sc
            have d1 := blk_cell HTE.out.hp 0
            have d4 : w9.cell? (ad.add L) = some (.int .i64 p) := by
              rw [HL.out]
              exact (HTE.out.bel.cell (World.block_lt_of_cell? _ _ HCP.out)).trans HCP.out
            have hsp : wrap64 s = s := by
              exact wrapS (by have h1 := HS0.out i; have h3 := HN10.out; rw [← HS.out] at h1; omega)
            refine start_ (n := 11) (S := fun w' => w'.cell? ⟨Z.gs, i, none⟩ = some (.int .i64 (s + p)) ∧ w'.cell? ⟨Z.gp, 0, none⟩ = some (.slice (some ad) pl.length c0) ∧ w'.cell? (ad.add L) = some (.int .i64 p)) (ds := [10]) #[false, false, false, false, false, false, false, false, false, false, false] (by kernel_rfl) rfl rfl ⟨sc, d1, d4⟩ (fun hHeld => ?_)
            refine pure_ (i := 0) (N := some 70) (v := ?_) (a' := ?_) #[true, false, false, false, false, false, false, false, false, false, false] rfl rfl (by kernel_rfl) (fun _ _ _ h => h) (Or.inl ⟨by rfl, ?_⟩) ?_ ?_
            rotate_left
            · intro w'
              go_simp
              with_reducible rfl
            rotate_left
            · simp only [Act.put, List.setIfInBounds_toArray, List.set_cons_zero, List.set_cons_succ, i64_w, i32_w]
              rfl
            refine pure_ (i := 1) (N := some 71) (v := ?_) (a' := ?_) #[true, true, false, false, false, false, false, false, false, false, false] rfl rfl (by kernel_rfl) (fun _ _ _ h => h) (Or.inl ⟨by rfl, ?_⟩) ?_ ?_
            rotate_left
            · intro w'
              go_simp
              with_reducible rfl
            rotate_left
            · simp only [Act.put, List.setIfInBounds_toArray, List.set_cons_zero, List.set_cons_succ, i64_w, i32_w]
              rfl
            refine pure_ (i := 2) (N := some 72) (v := ?_) (a' := ?_) #[true, true, true, false, false, false, false, false, false, false, false] rfl rfl (by kernel_rfl) (fun _ _ _ h => h) (Or.inl ⟨by rfl, ?_⟩) ?_ ?_
            rotate_left
            · intro w'
              go_simp
              with_reducible rfl
            rotate_left
            · simp only [Act.put, List.setIfInBounds_toArray, List.set_cons_zero, List.set_cons_succ, i64_w, i32_w]
              rfl
            refine pure_ (i := 5) (N := some 75) (v := ?_) (a' := ?_) #[true, true, true, false, false, true, false, false, false, false, false] rfl rfl (by kernel_rfl) (fun _ _ _ h => h) (Or.inl ⟨by rfl, ?_⟩) ?_ ?_
            rotate_left
            · intro w'
              go_simp
              with_reducible rfl
            rotate_left
            · simp only [Act.put, List.setIfInBounds_toArray, List.set_cons_zero, List.set_cons_succ, i64_w, i32_w]
              rfl
            refine take_ (i := 3) (N := some 73) (v := ?_) (a' := ?_) #[true, true, true, true, false, true, false, false, false, false, false] rfl rfl (by kernel_rfl) (fun _ _ _ h => h) (Or.inl ⟨by rfl, ?_⟩) hHeld ?_ ?_
            rotate_left
            · rintro w' ⟨s0, s1, s2⟩
              go_simp
              with_reducible rfl
            rotate_left
            · simp only [Act.put, List.setIfInBounds_toArray, List.set_cons_zero, List.set_cons_succ, i64_w, i32_w]
              rfl
            refine take_ (i := 4) (N := some 74) (v := ?_) (a' := ?_) #[true, true, true, true, true, true, false, false, false, false, false] rfl rfl (by kernel_rfl) (fun _ _ _ h => h) (Or.inl ⟨by rfl, ?_⟩) hHeld ?_ ?_
            rotate_left
            · rintro w' ⟨s0, s1, s2⟩
              go_simp
              with_reducible rfl
            rotate_left
            · simp only [Act.put, List.setIfInBounds_toArray, List.set_cons_zero, List.set_cons_succ, i64_w, i32_w]
              rfl
            refine pure_ (i := 6) (N := some 76) (v := ?_) (a' := ?_) #[true, true, true, true, true, true, true, false, false, false, false] rfl rfl (by kernel_rfl) (fun _ _ _ h => h) (Or.inl ⟨by rfl, ?_⟩) ?_ ?_
            rotate_left
            · intro w'
              go_simp
              with_reducible rfl
            rotate_left
            · simp only [Act.put, List.setIfInBounds_toArray, List.set_cons_zero, List.set_cons_succ, i64_w, i32_w]
              rfl
            refine take_ (i := 7) (N := some 77) (v := ?_) (a' := ?_) #[true, true, true, true, true, true, true, true, false, false, false] rfl rfl (by kernel_rfl) (fun _ _ _ h => h) (Or.inl ⟨by rfl, ?_⟩) hHeld ?_ ?_
            rotate_left
            · rintro w' ⟨s0, s1, s2⟩
              go_simp
              with_reducible rfl
            rotate_left
            · simp only [Act.put, List.setIfInBounds_toArray, List.set_cons_zero, List.set_cons_succ, i64_w, i32_w]
              rfl
            refine pure_ (i := 8) (N := some 78) (v := ?_) (a' := ?_) #[true, true, true, true, true, true, true, true, true, false, false] rfl rfl (by kernel_rfl) (fun _ _ _ h => h) (Or.inl ⟨by rfl, ?_⟩) ?_ ?_
            rotate_left
            · intro w'
              go_simp
              with_reducible rfl
            rotate_left
            · simp only [Act.put, List.setIfInBounds_toArray, List.set_cons_zero, List.set_cons_succ, i64_w, i32_w]
              rfl
            refine pure_ (i := 9) (N := some 79) (v := ?_) (a' := ?_) #[true, true, true, true, true, true, true, true, true, true, false] rfl rfl (by kernel_rfl) (fun _ _ _ h => h) (Or.inl ⟨by rfl, ?_⟩) ?_ ?_
            rotate_left
            · intro w'
              go_simp
              with_reducible rfl
            rotate_left
            · simp only [Act.put, List.setIfInBounds_toArray, List.set_cons_zero, List.set_cons_succ, i64_w, i32_w]
              rfl
            refine last_ (i := 10) (N := none) #[true, true, true, true, true, true, true, true, true, true, true] rfl rfl (by kernel_rfl) (by decide) (fun K hK => ?_)
            refine skip_ (w1 := ?_) (by rfl) rfl ?_ ?_
            rotate_left
            · go_simp
              rfl
            refine hK.out _ _ ?_
            clear hK K
            refine done_ (by kernel_rfl) ?_
            have hback : (sums.set i (s + p)).set i s = sums := by
              rw [List.set_set]
              refine List.ext_getElem? fun j => ?_
              rw [List.getElem?_set]
              by_cases e : i = j
              · subst e
                rw [if_pos rfl, if_pos (by rw [HSL.out]; exact HIK.out), HS.out, List.getD_eq_getElem?_getD, List.getElem?_eq_getElem (by rw [HSL.out]; exact HIK.out)]
                rfl
              · rw [if_neg e]
            have HTN := Aside0.mk ((HTE.out.put HAD.out i s).drewN 1)
            rw [hback] at HTN
            have HSN := Aside0.mk (HSE.out.trans ((TStep.put HAD.out _ _ (fun q hq => (HVA.out q hq).2.2.1) i (.int .i64 s)).trans (TStep.drewN _ _ _ _ _ 1)))
            clear hback hHeld
            go_wp2
            go_roundg kq
            case measure => have := HI.out; omega
            case rel => exact ⟨i + 1, _, by first | rfl | rw [hw2], ⟨by have := HI.out; omega⟩, ⟨by rw [HACC.out]; exact HTN.out⟩, HSN⟩
        · have HACC : Aside0 (accT k p (pl.drop (n + 1)) pre sums used acc (i + 1) = a1) := ⟨by rw [accT_succ, ← HA1.out, ← HB1.out, ← HS.out, if_neg hc]⟩
          rw [not_or] at hc
          have e1 : decide (b1 < 0) = false := decide_eq_false hc.1
          have e2 : decide (s + p < b1) = false := decide_eq_false hc.2
          clear hc
          go_wp2
          go_quiet (fail)
          go_wp2
          generalize hqq : World.drewN w8 _ = w9 at ⊢
          have HTE : Aside0 (TI w0 w9 Z (some ad) c0 pl k a1 vi (sums.set i (s + p))) := ⟨by rw [← hqq]; exact HT8.out.drewN _⟩
          have HSE : Aside0 (TStep W w9 Z (.slice A L c) vo vi n) := ⟨by rw [← hqq]; exact HS8.out.trans (TStep.drewN _ _ _ _ _ _)⟩
          clear HT8 HS8 d2 sc hqq
          have fz := blk_frozen HTE.out.hs i
          have sc := sum_cell HTE.out (t := i) (by rw [List.length_set, HSL.out]; exact HIK.out)
          have hse : (sums.set i (s + p)).getD i 0 = s + p := by rw [List.getD_eq_getElem?_getD, List.getElem?_set_self (by rw [HSL.out]; exact HIK.out)]; rfl
          rw [hse] at sc
          have d1 := blk_cell HTE.out.hp 0
          have d4 : w9.cell? (ad.add L) = some (.int .i64 p) := by
            rw [HL.out]
            exact (HTE.out.bel.cell (World.block_lt_of_cell? _ _ HCP.out)).trans HCP.out
          have hsp : wrap64 s = s := by
            exact wrapS (by have h1 := HS0.out i; have h3 := HN10.out; rw [← HS.out] at h1; omega)
          refine start_ (n := 11) (S := fun w' => w'.cell? ⟨Z.gs, i, none⟩ = some (.int .i64 (s + p)) ∧ w'.cell? ⟨Z.gp, 0, none⟩ = some (.slice (some ad) pl.length c0) ∧ w'.cell? (ad.add L) = some (.int .i64 p)) (ds := [10]) #[false, false, false, false, false, false, false, false, false, false, false] (by kernel_rfl) rfl rfl ⟨sc, d1, d4⟩ (fun hHeld => ?_)
          refine pure_ (i := 0) (N := some 70) (v := ?_) (a' := ?_) #[true, false, false, false, false, false, false, false, false, false, false] rfl rfl (by kernel_rfl) (fun _ _ _ h => h) (Or.inl ⟨by rfl, ?_⟩) ?_ ?_
          rotate_left
          · intro w'
            go_simp
            with_reducible rfl
          rotate_left
          · simp only [Act.put, List.setIfInBounds_toArray, List.set_cons_zero, List.set_cons_succ, i64_w, i32_w]
            rfl
          refine pure_ (i := 1) (N := some 71) (v := ?_) (a' := ?_) #[true, true, false, false, false, false, false, false, false, false, false] rfl rfl (by kernel_rfl) (fun _ _ _ h => h) (Or.inl ⟨by rfl, ?_⟩) ?_ ?_
          rotate_left
          · intro w'
            go_simp
            with_reducible rfl
          rotate_left
          · simp only [Act.put, List.setIfInBounds_toArray, List.set_cons_zero, List.set_cons_succ, i64_w, i32_w]
            rfl
          refine pure_ (i := 2) (N := some 72) (v := ?_) (a' := ?_) #[true, true, true, false, false, false, false, false, false, false, false] rfl rfl (by kernel_rfl) (fun _ _ _ h => h) (Or.inl ⟨by rfl, ?_⟩) ?_ ?_
          rotate_left
          · intro w'
            go_simp
            with_reducible rfl
          rotate_left
          · simp only [Act.put, List.setIfInBounds_toArray, List.set_cons_zero, List.set_cons_succ, i64_w, i32_w]
            rfl
          refine pure_ (i := 5) (N := some 75) (v := ?_) (a' := ?_) #[true, true, true, false, false, true, false, false, false, false, false] rfl rfl (by kernel_rfl) (fun _ _ _ h => h) (Or.inl ⟨by rfl, ?_⟩) ?_ ?_
          rotate_left
          · intro w'
            go_simp
            with_reducible rfl
          rotate_left
          · simp only [Act.put, List.setIfInBounds_toArray, List.set_cons_zero, List.set_cons_succ, i64_w, i32_w]
            rfl
          refine take_ (i := 3) (N := some 73) (v := ?_) (a' := ?_) #[true, true, true, true, false, true, false, false, false, false, false] rfl rfl (by kernel_rfl) (fun _ _ _ h => h) (Or.inl ⟨by rfl, ?_⟩) hHeld ?_ ?_
          rotate_left
          · rintro w' ⟨s0, s1, s2⟩
            go_simp
            with_reducible rfl
          rotate_left
          · simp only [Act.put, List.setIfInBounds_toArray, List.set_cons_zero, List.set_cons_succ, i64_w, i32_w]
            rfl
          refine take_ (i := 4) (N := some 74) (v := ?_) (a' := ?_) #[true, true, true, true, true, true, false, false, false, false, false] rfl rfl (by kernel_rfl) (fun _ _ _ h => h) (Or.inl ⟨by rfl, ?_⟩) hHeld ?_ ?_
          rotate_left
          · rintro w' ⟨s0, s1, s2⟩
            go_simp
            with_reducible rfl
          rotate_left
          · simp only [Act.put, List.setIfInBounds_toArray, List.set_cons_zero, List.set_cons_succ, i64_w, i32_w]
            rfl
          refine pure_ (i := 6) (N := some 76) (v := ?_) (a' := ?_) #[true, true, true, true, true, true, true, false, false, false, false] rfl rfl (by kernel_rfl) (fun _ _ _ h => h) (Or.inl ⟨by rfl, ?_⟩) ?_ ?_
          rotate_left
          · intro w'
            go_simp
            with_reducible rfl
          rotate_left
          · simp only [Act.put, List.setIfInBounds_toArray, List.set_cons_zero, List.set_cons_succ, i64_w, i32_w]
            rfl
          refine take_ (i := 7) (N := some 77) (v := ?_) (a' := ?_) #[true, true, true, true, true, true, true, true, false, false, false] rfl rfl (by kernel_rfl) (fun _ _ _ h => h) (Or.inl ⟨by rfl, ?_⟩) hHeld ?_ ?_
          rotate_left
          · rintro w' ⟨s0, s1, s2⟩
            go_simp
            with_reducible rfl
          rotate_left
          · simp only [Act.put, List.setIfInBounds_toArray, List.set_cons_zero, List.set_cons_succ, i64_w, i32_w]
            rfl
          refine pure_ (i := 8) (N := some 78) (v := ?_) (a' := ?_) #[true, true, true, true, true, true, true, true, true, false, false] rfl rfl (by kernel_rfl) (fun _ _ _ h => h) (Or.inl ⟨by rfl, ?_⟩) ?_ ?_
          rotate_left
          · intro w'
            go_simp
            with_reducible rfl
          rotate_left
          · simp only [Act.put, List.setIfInBounds_toArray, List.set_cons_zero, List.set_cons_succ, i64_w, i32_w]
            rfl
          refine pure_ (i := 9) (N := some 79) (v := ?_) (a' := ?_) #[true, true, true, true, true, true, true, true, true, true, false] rfl rfl (by kernel_rfl) (fun _ _ _ h => h) (Or.inl ⟨by rfl, ?_⟩) ?_ ?_
          rotate_left
          · intro w'
            go_simp
            with_reducible rfl
          rotate_left
          · simp only [Act.put, List.setIfInBounds_toArray, List.set_cons_zero, List.set_cons_succ, i64_w, i32_w]
            rfl
          refine last_ (i := 10) (N := none) #[true, true, true, true, true, true, true, true, true, true, true] rfl rfl (by kernel_rfl) (by decide) (fun K hK => ?_)
          refine skip_ (w1 := ?_) (by rfl) rfl ?_ ?_
          rotate_left
          · go_simp
            rfl
          refine hK.out _ _ ?_
          clear hK K
          refine done_ (by kernel_rfl) ?_
          have hback : (sums.set i (s + p)).set i s = sums := by
            rw [List.set_set]
            refine List.ext_getElem? fun j => ?_
            rw [List.getElem?_set]
            by_cases e : i = j
            · subst e
              rw [if_pos rfl, if_pos (by rw [HSL.out]; exact HIK.out), HS.out, List.getD_eq_getElem?_getD, List.getElem?_eq_getElem (by rw [HSL.out]; exact HIK.out)]
              rfl
            · rw [if_neg e]
          have HTN := Aside0.mk ((HTE.out.put HAD.out i s).drewN 1)
          rw [hback] at HTN
          have HSN := Aside0.mk (HSE.out.trans ((TStep.put HAD.out _ _ (fun q hq => (HVA.out q hq).2.2.1) i (.int .i64 s)).trans (TStep.drewN _ _ _ _ _ 1)))
          clear hback hHeld
          go_wp2
          go_roundg kq
          case measure => have := HI.out; omega
          case rel => exact ⟨i + 1, _, by first | rfl | rw [hw2], ⟨by have := HI.out; omega⟩, ⟨by rw [HACC.out]; exact HTN.out⟩, HSN⟩
theorem assign_any (w0 : World) (K : TK) (A0 : Option Addr) (c0 : Nat) (pl : List Int) (k : Nat) (hok : OkL 10 pl) (hk : 1 ≤ k ∧ k ≤ 4) (hr0 : Kd.C (Kd.int .i64) w0 A0 pl.length pl) (had : K.Ad w0.heap.size) :
    ∀ (d n : Nat), n + d = pl.length → ∀ (pre : List Nat) (sums : List Int) (used : Nat) (acc : Int × List Nat) (v vo : Value) (W : World), pre.length = n → sums.length = k → (∀ j, 0 ≤ sums.getD j 0 ∧ sums.getD j 0 ≤ 1000000 * (n : Int)) → used ≤ k → TI w0 W K A0 c0 pl k acc vo sums → TRow W w0.heap.size v (toZ pre) → Apart K v vo →
      Calls Try.prog 51 (aArgs K v k used) W (APost w0 W K A0 c0 pl k v vo sums n (asgS k (pl.drop n) pre sums used acc)) := by
  intro d
  induction d with
  | zero =>
    intro n hn pre sums used acc v vo W hpre hsl hs0 hus hT hv hva
    have e : pl.drop n = [] := List.drop_eq_nil_of_le (by omega)
    rw [e]
    have := assign_end w0 K A0 c0 pl k hok hk had pre sums used acc v vo W (by omega) hsl (fun j => (hs0 j).1) hT hv hva
    rwa [hpre] at this
  | succ d ih =>
    intro n hn pre sums used acc v vo W hpre hsl hs0 hus hT hv hva
    exact assign_step w0 K A0 c0 pl k hok hk hr0 had n (by omega) (ih (n + 1) (by omega)) pre sums used acc v vo W hpre hsl hs0 hus hT hv hva
end Go.Proofs.Ytepgcdjbhmpioaa.Fi
