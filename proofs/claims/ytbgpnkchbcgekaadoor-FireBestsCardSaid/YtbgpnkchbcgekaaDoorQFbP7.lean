/- The reference's neighbours of a graph, and its best plan: the program's. -/
import Derived.Test.YtbgpnkchbcgekaaDoorQFbP6
namespace Go.Proofs.YtbgpnkchbcgekaaDoor.Fi
open Go.RowKit Go.Proofs.YtbgpnkchbcgekaaDoorW.PrintWords Go.Proofs.YtbgpnkchbcgekaaDoorW.PrintLast Go.Proofs.YtbgpnkchbcgekaaDoorW.PrintMore Wog
set_option linter.unusedVariables false
theorem toI_setI (xs : List Nat) (i v : Nat) : (toI xs).set i (v : Int) = toI (xs.set i v) := by simp [toI, List.map_set]
theorem near_ev (n : Int) (l : List S42) (h : GoodG n l) : Ev (fun k => woggleref06_Near.f k n l) (toI (nearS n.toNat l)) := by
  obtain ⟨h1, h2, h3, h4⟩ := h
  have hpow : (2 : Nat) ^ n.toNat ≤ 2 ^ 10 := Nat.pow_le_pow_right (by omega) (by omega)
  have key : ∀ (d j : Nat), j + d = l.length → Ev (fun k => woggleref06_Near.l0 k l (toI (nearS n.toNat (l.take j))) (j : Int)) (toI (nearS n.toNat l)) := by
    intro d
    induction d with
    | zero =>
      intro j hj
      refine Ev.step (f := fun _ => some (toI (nearS n.toNat l))) (fun k => ?_) (Ev.now _)
      simp only [woggleref06_Near.l0]
      rw [if_neg (by omega), List.take_of_length_le (by omega)]
    | succ d ih =>
      intro j hj
      have hjl : j < l.length := by omega
      have ih' := ih (j + 1) (by omega)
      have he := h4 _ (List.getElem_mem hjl)
      rw [near_snoc n.toNat l j hjl] at ih'
      rw [← rd_mem hjl] at he
      obtain ⟨e, hee⟩ : ∃ e, e = rd_T42 l (j : Int) := ⟨_, rfl⟩
      rw [← hee] at he ih'
      obtain ⟨a0, a1, a2, a3, a4⟩ := he
      obtain ⟨x, hx⟩ := Int.eq_ofNat_of_zero_le a0
      obtain ⟨y, hy⟩ := Int.eq_ofNat_of_zero_le a1
      obtain ⟨xs, hxs⟩ : ∃ xs, xs = nearS n.toNat (l.take j) := ⟨_, rfl⟩
      have hxl : xs.length = n.toNat := by rw [hxs, nearS_length]
      have hxb : ∀ z ∈ xs, z < 2 ^ n.toNat := by rw [hxs]; exact nearS_lt (fun z hz => h4 z (List.mem_of_mem_take hz))
      rw [← hxs] at ih' ⊢
      have hg0 : xs.getD x 0 < 2 ^ n.toNat := getD_lt hxb x
      have hp0 : 2 ^ y < 2 ^ n.toNat := Nat.pow_lt_pow_right (by omega) (by omega)
      have hp1 : 2 ^ x < 2 ^ n.toNat := Nat.pow_lt_pow_right (by omega) (by omega)
      obtain ⟨ys, hys⟩ : ∃ ys, ys = xs.set x (xs.getD x 0 ||| 2 ^ y) := ⟨_, rfl⟩
      have hyl : ys.length = n.toNat := by rw [hys, List.length_set, hxl]
      have hyb : ∀ z ∈ ys, z < 2 ^ n.toNat := by
        intro z hz
        rw [hys] at hz
        rcases List.mem_or_eq_of_mem_set hz with hz | rfl
        · exact hxb z hz
        · exact Nat.or_lt_two_pow hg0 hp0
      have hg1 : ys.getD y 0 < 2 ^ n.toNat := getD_lt hyb y
      have hadd : addS xs e = ys.set y (ys.getD y 0 ||| 2 ^ x) := by
        unfold addS
        rw [hx, hy]
        simp only [Int.toNat_natCast]
        rw [← hys]
      refine Ev.step (fun k => ?_) ih'
      simp only [woggleref06_Near.l0]
      rw [← hee, hx, hy]
      simp only [Int.toNat_natCast]
      rw [if_pos (by omega), if_pos (by omega), if_pos (by omega), if_pos (by rw [toI_length, hxl]; omega), if_pos (by omega), Option.bind_some,
        show rd (toI xs) (x : Int) = ((xs.getD x 0 : Nat) : Int) from rd_nat xs x, shl64 y (by omega), or64 _ _ (by omega) (by omega), toI_setI, ← hys,
        if_pos (by rw [toI_length, hxl]; omega), show rd (toI ys) (y : Int) = ((ys.getD y 0 : Nat) : Int) from rd_nat ys y, shl64 x (by omega), or64 _ _ (by omega) (by omega), toI_setI, wrapS (by omega), hadd]
  have k := key l.length 0 (by omega)
  refine Ev.congr (fun k => ?_) k
  unfold woggleref06_Near.f
  rw [if_pos (by omega), if_pos (by omega)]
  congr 1
  simp [nearS, toI]
theorem lenN {x : Nat} (h : x ≤ 1001) : x < 17592186044416 := by omega
/-- What a fire threatens. -/
def threat (nx : List Nat) (B D : Nat) : Nat := diff (nb nx B) (B ||| D)
theorem threat_bit (nx : List Nat) (B D i : Nat) : (threat nx B D).testBit i = ((nb nx B).testBit i && !(B.testBit i || D.testBit i)) := by
  unfold threat
  rw [testBit_diff, Nat.testBit_or]
theorem threat_lt {nx : List Nat} (hx : ∀ x ∈ nx, x < 2 ^ nx.length) (B D : Nat) : threat nx B D < 2 ^ nx.length := diff_le _ _ _ (nb_lt hx B)
theorem or_threat {nx : List Nat} {B D : Nat} (hd : disj B D) : B ||| threat nx B D = diff (arnd nx B) D := by
  apply Nat.eq_of_testBit_eq
  intro i
  rw [Nat.testBit_or, threat_bit, testBit_diff]
  unfold arnd
  rw [Nat.testBit_or]
  have := hd i
  cases h1 : B.testBit i <;> cases h2 : D.testBit i <;> cases h3 : (nb nx B).testBit i <;> simp_all
theorem threat_zero {nx : List Nat} {B D : Nat} (hd : disj B D) : threat nx B D = 0 ↔ diff (arnd nx B) D = B := by
  rw [← or_threat hd]
  constructor
  · intro h; rw [h]; simp
  · intro h
    refine zero_of_bits (fun i => ?_)
    cases hi : (threat nx B D).testBit i with
    | false => rfl
    | true =>
      have h1 : (B ||| threat nx B D).testBit i = true := by rw [Nat.testBit_or, hi]; simp
      rw [h] at h1
      rw [threat_bit, h1] at hi
      simp at hi
theorem or_threat_but {nx : List Nat} {B D v : Nat} (hd : disj B D) (hv : (B ||| D).testBit v = false) : B ||| diff (threat nx B D) (2 ^ v) = diff (arnd nx B) (D ||| 2 ^ v) := by
  rw [Nat.testBit_or, Bool.or_eq_false_iff] at hv
  apply Nat.eq_of_testBit_eq
  intro i
  rw [Nat.testBit_or, testBit_diff, threat_bit, testBit_diff, testBit_two_pow, Nat.testBit_or, testBit_two_pow]
  unfold arnd
  rw [Nat.testBit_or]
  have := hd i
  by_cases hi : v = i
  · subst hi; simp [hv.1, hv.2]
  · cases h1 : B.testBit i <;> cases h2 : D.testBit i <;> cases h3 : (nb nx B).testBit i <;> simp_all
theorem cloF_fix {nx : List Nat} {B D k : Nat} (hd : disj B D) (hB : B < 2 ^ nx.length) (hx : ∀ x ∈ nx, x < 2 ^ nx.length) (h : cloF nx D k B = some B) : diff (arnd nx B) D = B := by
  cases k with
  | zero => simp [cloF] at h
  | succ k =>
    rw [cloF] at h
    by_cases e : diff (arnd nx B) D = B
    · exact e
    · rw [if_neg e] at h
      refine ext_lt (diff_le _ _ _ (arnd_lt hx hB)) hB (fun i _ => ?_)
      cases h1 : B.testBit i with
      | true => exact step_sup hd i h1
      | false =>
        cases h2 : (diff (arnd nx B) D).testBit i with
        | false => rfl
        | true => rw [cloF_sup _ _ _ (disj_diff _ _) h i h2] at h1; cases h1
theorem cloF_lt {nx : List Nat} {D : Nat} (hx : ∀ x ∈ nx, x < 2 ^ nx.length) : ∀ (k s R : Nat), s < 2 ^ nx.length → cloF nx D k s = some R → R < 2 ^ nx.length := by
  intro k
  induction k with
  | zero => intro s R _ h; simp [cloF] at h
  | succ k ih =>
    intro s R hs h
    rw [cloF] at h
    split at h
    · obtain rfl := Option.some.inj h; exact hs
    · exact ih _ _ (diff_le _ _ _ (arnd_lt hx hs)) h
theorem pow10 {nx : List Nat} (hn : nx.length ≤ 10) {x : Nat} (h : x < 2 ^ nx.length) : x < 2 ^ 10 := Nat.lt_of_lt_of_le h (Nat.pow_le_pow_right (by omega) hn)
/-- The first vertex of the best plan so far is an earlier one. -/
def headLt (l : List Int) (v : Nat) : Prop := ∀ x, l.head? = some x → x < (v : Int)
theorem pick_ref {s1 s : Int} {l1 l : List Int} {v : Nat} (h : headLt l v) : pick (s1, (v : Int) :: l1) (s, l) = if s1 > s then (s1, (v : Int) :: l1) else if s1 = s then (if l1.length + 1 < l.length then (s1, (v : Int) :: l1) else (s, l)) else (s, l) := by
  unfold pick betterP
  by_cases e : s1 = s
  · subst e
    rw [if_neg (show ¬ s1 > s1 by omega), if_pos rfl]
    simp only [if_true, List.length_cons]
    by_cases e2 : l1.length + 1 = l.length
    · rw [if_pos e2, if_neg (show ¬ l1.length + 1 < l.length by omega)]
      cases l with
      | nil => simp at e2
      | cons x l =>
        have hx := h x rfl
        have hl : lexLt ((v : Int) :: l1) (x :: l) = false := by
          rw [lexLt, if_neg (show ¬ (v : Int) = x by omega)]
          simp; omega
        rw [hl]
        rfl
    · rw [if_neg e2]
      by_cases e3 : l1.length + 1 < l.length
      · simp [e3]
      · simp [e3]
  · simp only [if_neg e]
    by_cases e2 : s1 > s
    · rw [if_pos (by simpa using e2), if_pos e2]
    · rw [if_neg (by simpa using e2), if_neg e2]
theorem rbest_ev (nx : List Nat) (hn : nx.length ≤ 10) (hx : ∀ x ∈ nx, x < 2 ^ nx.length) : ∀ (k B D : Nat) (r : Int × List Int), k ≤ 1000 → B < 2 ^ nx.length → D < 2 ^ nx.length → disj B D → bestF nx k B D = some r → Ev (fun j => woggleref06_Best.f j (toI nx) (B : Int) (D : Int)) r := by
  intro k
  induction k with
  | zero => intro B D r _ _ _ _ h; simp [bestF] at h
  | succ k ih =>
    intro B D r hk hB hD hd h
    have hB' := pow10 hn hB
    have hD' := pow10 hn hD
    rw [bestF] at h
    obtain ⟨R, hR, h⟩ := Option.bind_eq_some_iff.1 h
    have hRl := cloF_lt hx _ _ _ hB hR
    have hT := threat_lt hx B D
    have hT' := pow10 hn hT
    have hRR : ((B : Nat) = R) ↔ threat nx B D = 0 := by
      rw [threat_zero hd]
      constructor
      · intro e; rw [← e] at hR; exact cloF_fix hd hB hx hR
      · intro e; rw [cloF, if_pos e] at hR; exact Option.some.inj hR
    have hpl : popc 16 R ≤ 16 := Nat.le_trans List.countP_le_length (by simp)
    have hw0 : wrap64 ((nx.length : Int) - (popc 16 R : Nat)) = (nx.length : Int) - (popc 16 R : Nat) := by unfold wrap64; omega
    have hor : Go.bits .or .i64 (B : Int) (D : Int) = ((B ||| D : Nat) : Int) := or64 _ _ (by omega) (by omega)
    have hBD := Nat.or_lt_two_pow hB hD
    have hBD' := pow10 hn hBD
    -- the tries
    have tries : ∀ (d v : Nat) (s : Int) (l : List Int), v + d = nx.length → headLt l v → l.length ≤ 1000 → ((List.range nx.length).drop v).foldl (stepO (bestF nx k) nx B D) (some (s, l)) = some r →
        Ev (fun j => woggleref06_Best.l1 j (toI nx) (B : Int) (D : Int) (nx.length : Int) ((threat nx B D : Nat) : Int) s l (v : Int)) r := by
      intro d
      induction d with
      | zero =>
        intro v s l hv _ _ hf
        rw [List.drop_eq_nil_of_le (by simp; omega)] at hf
        obtain rfl := Option.some.inj hf
        refine Ev.step (f := fun _ => some (s, l)) (fun j => ?_) (Ev.now _)
        simp only [woggleref06_Best.l1]
        rw [if_neg (by omega)]
      | succ d ihd =>
        intro v s l hv hh hl hf
        have hvn : v < nx.length := by omega
        rw [drop_range hvn, List.foldl_cons] at hf
        by_cases hb : (B ||| D).testBit v = true
        · rw [show stepO (bestF nx k) nx B D (some (s, l)) v = some (s, l) by simp [stepO, hb]] at hf
          refine Ev.step (fun j => ?_) (ihd (v + 1) s l (by omega) (fun x hx => by have := hh x hx; omega) hl hf)
          simp only [woggleref06_Best.l1]
          rw [if_pos (by omega), if_pos (by omega), hor, has64 _ _ (by omega), if_pos (by rw [hb]; rfl), wrapS (by omega)]
        · rw [Bool.not_eq_true] at hb
          cases hq : bestF nx k (diff (arnd nx B) (D ||| 2 ^ v)) (D ||| 2 ^ v) with
          | none =>
            rw [show stepO (bestF nx k) nx B D (some (s, l)) v = none by simp [stepO, hb, hq], foldl_stepO_none] at hf
            cases hf
          | some p =>
            obtain ⟨s1, l1⟩ := p
            rw [show stepO (bestF nx k) nx B D (some (s, l)) v = some (pick (s1, (v : Int) :: l1) (s, l)) by simp [stepO, hb, hq], pick_ref hh] at hf
            have hp2 : 2 ^ v < 2 ^ nx.length := Nat.pow_lt_pow_right (by omega) hvn
            have hp2' := pow10 hn hp2
            have hD1 := Nat.or_lt_two_pow hD hp2
            have hrec := ih (diff (arnd nx B) (D ||| 2 ^ v)) (D ||| 2 ^ v) (s1, l1) (by omega) (diff_le _ _ _ (arnd_lt hx hB)) hD1 (disj_diff _ _) hq
            have hl1 := bestF_len hq
            have e1 : Go.bits .andNot .i64 ((threat nx B D : Nat) : Int) ((2 ^ v : Nat) : Int) = ((diff (threat nx B D) (2 ^ v) : Nat) : Int) := andNot64 _ _ (by omega) (by omega)
            have hdl := pow10 hn (diff_le (threat nx B D) (2 ^ v) _ hT)
            have e2 : Go.bits .or .i64 (B : Int) ((diff (threat nx B D) (2 ^ v) : Nat) : Int) = ((diff (arnd nx B) (D ||| 2 ^ v) : Nat) : Int) := by
              rw [or64 _ _ (by omega) (by omega), or_threat_but hd hb]
            have e3 : Go.bits .or .i64 (D : Int) ((2 ^ v : Nat) : Int) = ((D ||| 2 ^ v : Nat) : Int) := or64 _ _ (by omega) (by omega)
            have hw1 : wrap64 ((l1.length : Int) + 1) = (l1.length : Int) + 1 := by unfold wrap64; omega
            refine Ev.step (f := fun j => (woggleref06_Best.f j (toI nx) ((diff (arnd nx B) (D ||| 2 ^ v) : Nat) : Int) ((D ||| 2 ^ v : Nat) : Int)).bind fun bt => if bt.1 > s then (if 1 + bt.2.length < 17592186044416 then woggleref06_Best.l1 j (toI nx) (B : Int) (D : Int) (nx.length : Int) ((threat nx B D : Nat) : Int) bt.1 ((v : Int) :: bt.2) ((v + 1 : Nat) : Int) else none) else if bt.1 = s then (if wrap64 ((bt.2.length : Int) + 1) < (l.length : Int) then (if 1 + bt.2.length < 17592186044416 then woggleref06_Best.l1 j (toI nx) (B : Int) (D : Int) (nx.length : Int) ((threat nx B D : Nat) : Int) bt.1 ((v : Int) :: bt.2) ((v + 1 : Nat) : Int) else none) else woggleref06_Best.l1 j (toI nx) (B : Int) (D : Int) (nx.length : Int) ((threat nx B D : Nat) : Int) s l ((v + 1 : Nat) : Int)) else woggleref06_Best.l1 j (toI nx) (B : Int) (D : Int) (nx.length : Int) ((threat nx B D : Nat) : Int) s l ((v + 1 : Nat) : Int)) (fun j => ?_) ?_
            · simp only [woggleref06_Best.l1]
              rw [if_pos (by omega), if_pos (by omega), hor, has64 _ _ (by omega), if_neg (by rw [hb]; simp), shl64 v (by omega), e1, e2, e3, wrapS (by omega)]
              simp only [Option.bind_some, List.length_cons, List.length_nil, List.cons_append, List.nil_append, Nat.zero_add]
            · refine Ev.bind hrec ?_
              have hnew : headLt ((v : Int) :: l1) (v + 1) := fun x hx => by simp at hx; omega
              have hold : headLt l (v + 1) := fun x hx => by have := hh x hx; omega
              have hN0 : 1 + l1.length ≤ 1001 := Nat.le_trans (Nat.add_le_add_left hl1 1) (by rw [Nat.add_comm]; exact Nat.le_succ_of_le hk)
              by_cases c1 : s1 > s
              · rw [if_pos c1] at hf
                refine Ev.congr (fun j => ?_) (ihd (v + 1) _ _ (by omega) hnew (Nat.le_trans (Nat.succ_le_succ hl1) hk) hf)
                rw [if_pos c1, if_pos (lenN hN0)]
              · rw [if_neg c1] at hf
                by_cases c2 : s1 = s
                · rw [if_pos c2] at hf
                  by_cases c3 : l1.length + 1 < l.length
                  · rw [if_pos c3] at hf
                    refine Ev.congr (fun j => ?_) (ihd (v + 1) _ _ (by omega) hnew (Nat.le_trans (Nat.succ_le_succ hl1) hk) hf)
                    rw [if_neg c1, if_pos c2, hw1, if_pos (show (l1.length : Int) + 1 < (l.length : Int) from Int.ofNat_lt.2 c3), if_pos (lenN hN0)]
                  · rw [if_neg c3] at hf
                    refine Ev.congr (fun j => ?_) (ihd (v + 1) _ _ (by omega) hold hl hf)
                    rw [if_neg c1, if_pos c2, hw1, if_neg (show ¬ (l1.length : Int) + 1 < (l.length : Int) from fun h => c3 (Int.ofNat_lt.1 h))]
                · rw [if_neg c2] at hf
                  refine Ev.congr (fun j => ?_) (ihd (v + 1) _ _ (by omega) hold hl hf)
                  rw [if_neg c1, if_neg c2]
    -- what burns without a further defence
    have spread : ∀ (m s : Nat), s < 2 ^ nx.length → disj s D → cloF nx D m s = some R → Ev (fun j => woggleref06_Best.l0 j (toI nx) (B : Int) (D : Int) (nx.length : Int) ((threat nx B D : Nat) : Int) (s : Int) ((threat nx s D : Nat) : Int)) r := by
      intro m
      induction m with
      | zero => intro s _ _ h; simp [cloF] at h
      | succ m ihm =>
        intro s hs hds hc
        rw [cloF] at hc
        by_cases e : diff (arnd nx s) D = s
        · rw [if_pos e] at hc
          obtain rfl := Option.some.inj hc
          have h0 := (threat_zero hds).2 e
          refine Ev.step (f := fun j => (woggleref06_Size.f j (s : Int)).bind fun t => if ((threat nx B D : Nat) : Int) = 0 then some (wrap64 ((nx.length : Int) - t), []) else woggleref06_Best.l1 j (toI nx) (B : Int) (D : Int) (nx.length : Int) ((threat nx B D : Nat) : Int) (wrap64 ((nx.length : Int) - t)) [] 0) (fun j => ?_) ?_
          · simp only [woggleref06_Best.l0]
            rw [if_pos (by rw [h0]; rfl)]
            rfl
          · refine Ev.bind (rsize_ev s (pow10 hn hs)) ?_
            rw [hw0]
            by_cases ht : threat nx B D = 0
            · rw [if_pos ((hRR.2 ht).symm)] at h
              obtain rfl := Option.some.inj h
              simp only [if_pos (show ((threat nx B D : Nat) : Int) = 0 by rw [ht]; rfl)]
              exact Ev.now _
            · rw [if_neg (fun e => ht (hRR.1 e.symm))] at h
              simp only [if_neg (show ¬ ((threat nx B D : Nat) : Int) = 0 by omega)]
              exact tries nx.length 0 _ _ (by omega) (fun x hx => by simp at hx) (by simp) (by simpa using h)
        · rw [if_neg e] at hc
          have hne : threat nx s D ≠ 0 := fun h0 => e ((threat_zero hds).1 h0)
          have hs' := diff_le _ D _ (arnd_lt hx hs)
          have hts := pow10 hn (threat_lt hx s D)
          have hs10 := pow10 hn hs
          have hs10' := pow10 hn hs'
          have e1 : Go.bits .or .i64 (s : Int) ((threat nx s D : Nat) : Int) = ((diff (arnd nx s) D : Nat) : Int) := by
            rw [or64 _ _ (by omega) (by omega), or_threat hds]
          have hnb := pow10 hn (nb_lt hx (diff (arnd nx s) D))
          have ho := pow10 hn (Nat.or_lt_two_pow hs' hD)
          have e2 : Go.bits .andNot .i64 ((nb nx (diff (arnd nx s) D) : Nat) : Int) (Go.bits .or .i64 ((diff (arnd nx s) D : Nat) : Int) (D : Int)) = ((threat nx (diff (arnd nx s) D) D : Nat) : Int) := by
            rw [or64 _ _ (by omega) (by omega), andNot64 _ _ (by omega) (by omega)]; rfl
          refine Ev.step (f := fun j => (woggleref06_around.f j (toI nx) ((diff (arnd nx s) D : Nat) : Int)).bind fun t => woggleref06_Best.l0 j (toI nx) (B : Int) (D : Int) (nx.length : Int) ((threat nx B D : Nat) : Int) ((diff (arnd nx s) D : Nat) : Int) (Go.bits .andNot .i64 t (Go.bits .or .i64 ((diff (arnd nx s) D : Nat) : Int) (D : Int)))) (fun j => ?_) ?_
          · simp only [woggleref06_Best.l0]
            rw [if_neg (by omega), e1]
          · refine Ev.bind (raround_ev nx _ hn hx hs') ?_
            rw [e2]
            exact ihm _ hs' (disj_diff _ _) hc
    refine Ev.step (f := fun j => (woggleref06_around.f j (toI nx) (B : Int)).bind fun t => woggleref06_Best.l0 j (toI nx) (B : Int) (D : Int) (nx.length : Int) (Go.bits .andNot .i64 t ((B ||| D : Nat) : Int)) (B : Int) (Go.bits .andNot .i64 t ((B ||| D : Nat) : Int))) (fun j => ?_) ?_
    · simp only [woggleref06_Best.f]
      rw [hor, toI_length]
    · refine Ev.bind (raround_ev nx B hn hx hB) ?_
      have hnb := pow10 hn (nb_lt hx B)
      rw [andNot64 _ _ (by omega) (by omega)]
      exact spread _ B hB hd hR
end Go.Proofs.YtbgpnkchbcgekaaDoor.Fi
