/- Plain: the Hilbert function counts the monomials that are not in the ideal. -/
import Derived.Test.YtjkfjnempofihaaQPkQH
import Derived.Test.YtjkfjnempofihaaQPkQC
import Derived.Test.YtjkfjnempofihaaQPkE22
import Derived.Test.YtjkfjnempofihaaQPkFi3
namespace Go.Proofs.Ytjkfjnempofihaa.Fi
open Go.RowKit Go.Shelf Go.Lib Go.Proofs.YtjkfjnempofihaaW.PrintWords Go.Proofs.YtjkfjnempofihaaW.PrintLast Go.Proofs.YtjkfjnempofihaaW.PrintMore
set_option linter.unusedVariables false
set_option linter.unusedSimpArgs false
theorem comps_mem : ∀ (n d : Nat) (x : List Int), x ∈ comps n d → x.length = n + 1 ∧ ∀ a ∈ x, 0 ≤ a
  | 0, d, x, h => by
    rw [comps, List.mem_singleton] at h
    subst h
    exact ⟨rfl, fun a ha => by rw [List.mem_singleton] at ha; omega⟩
  | n + 1, d, x, h => by
    rw [comps, List.mem_flatMap] at h
    obtain ⟨v, _, hx⟩ := h
    obtain ⟨z, hz, rfl⟩ := List.mem_map.1 hx
    have ih := comps_mem n _ z hz
    exact ⟨by rw [List.length_cons, ih.1], fun a ha => by
      rcases List.mem_cons.1 ha with rfl | ha
      · omega
      · exact ih.2 a ha⟩
theorem dvL_iff : ∀ (n : Nat), n < 4 → ∀ (m : M4) (x : List Int), x.length = n + 1 → (∀ i, n < i → (tl m).getD i 0 = 0) → (dvL (cutM (n + 1) m) x = true ↔ dv m (padM x)) := by
  intro n hn m x hx hz
  obtain ⟨a, b, c, d⟩ := m
  unfold dv padM cutM
  rcases (show n = 0 ∨ n = 1 ∨ n = 2 ∨ n = 3 by omega) with rfl | rfl | rfl | rfl
  · have h1 : b = 0 := hz 1 (by omega)
    have h2 : c = 0 := hz 2 (by omega)
    have h3 : d = 0 := hz 3 (by omega)
    match x, hx with
    | [x0], _ => simp [tl, dvL, h1, h2, h3]
  · have h2 : c = 0 := hz 2 (by omega)
    have h3 : d = 0 := hz 3 (by omega)
    match x, hx with
    | [x0, x1], _ => simp [tl, dvL, h2, h3]
  · have h3 : d = 0 := hz 3 (by omega)
    match x, hx with
    | [x0, x1, x2], _ => simp [tl, dvL, h3]
  · match x, hx with
    | [x0, x1, x2, x3], _ => simp [tl, dvL]
/-- The greatest monomial in n + 1 variables. -/
def topN (n : Nat) : M4 := (6, if 1 ≤ n then 6 else 0, if 2 ≤ n then 6 else 0, if 3 ≤ n then 6 else 0)
theorem topN_six (n : Nat) : dv (topN n) six := by unfold dv topN six; dsimp only; refine ⟨?_, ?_, ?_, ?_⟩ <;> (try split) <;> omega
theorem topN_zero {n : Nat} {m : M4} (hm : Nn m) (h : dv m (topN n)) : ∀ i, n < i → (tl m).getD i 0 = 0 := by
  intro i hi
  unfold Nn at hm
  unfold dv topN at h
  dsimp only at h
  match i, hi with
  | 1, hi => rw [if_neg (show ¬ 1 ≤ n by omega)] at h; show m.2.1 = 0; omega
  | 2, hi => rw [if_neg (show ¬ 2 ≤ n by omega)] at h; show m.2.2.1 = 0; omega
  | 3, hi => rw [if_neg (show ¬ 3 ≤ n by omega)] at h; show m.2.2.2 = 0; omega
  | k + 4, hi => rfl
theorem cut_deg : ∀ (n : Nat), n < 4 → ∀ m : M4, (∀ i, n < i → (tl m).getD i 0 = 0) → (cutM (n + 1) m).foldr (· + ·) 0 = degM m := by
  intro n hn m hz
  obtain ⟨a, b, c, d⟩ := m
  unfold cutM degM
  rcases (show n = 0 ∨ n = 1 ∨ n = 2 ∨ n = 3 by omega) with rfl | rfl | rfl | rfl
  · have h1 : b = 0 := hz 1 (by omega)
    have h2 : c = 0 := hz 2 (by omega)
    have h3 : d = 0 := hz 3 (by omega)
    simp [tl, h1, h2, h3]
  · have h2 : c = 0 := hz 2 (by omega)
    have h3 : d = 0 := hz 3 (by omega)
    simp [tl, h2, h3]
  · have h3 : d = 0 := hz 3 (by omega)
    simp [tl, h3]
    omega
  · simp [tl]
    omega
theorem cut_nn (n : Nat) {m : M4} (hm : Nn m) : ∀ a ∈ cutM (n + 1) m, 0 ≤ a := fun a ha => by
  have h := List.mem_of_mem_take ha
  unfold tl at h
  unfold Nn at hm
  simp only [List.mem_cons, List.not_mem_nil, or_false] at h
  rcases h with rfl | rfl | rfl | rfl <;> omega
theorem pad_nn {x : List Int} (h : ∀ a ∈ x, 0 ≤ a) : Nn (padM x) := by
  have key : ∀ i, 0 ≤ x.getD i 0 := fun i => by
    rw [List.getD_eq_getElem?_getD]
    cases hi : x[i]? with
    | none => exact Int.le_refl _
    | some a => exact h a (List.mem_of_getElem? hi)
  exact ⟨key 0, key 1, key 2, key 3⟩
/-- The monomials of a degree that are not in the ideal. -/
def cntI (G : List M4) (n d : Nat) : Int := sumL (fun x => if ∃ g ∈ G, dv g (padM x) then 0 else 1) (comps n d)
theorem cntI_inc {G : List M4} {n : Nat} (hn : n < 4) (hG : ∀ g ∈ G, Nn g ∧ dv g (topN n)) (d : Nat) : inc (fun m => cF n ((d : Int) - degM m)) oneM G = cntI G n d := by
  have hone : dv oneM (topN n) := by unfold dv topN oneM; dsimp only; refine ⟨?_, ?_, ?_, ?_⟩ <;> (try split) <;> omega
  have h1 : inc (fun m => cF n ((d : Int) - degM m) + (-1) * sumL (fun x => if dv m (padM x) then (1 : Int) else 0) (comps n d)) oneM G = 0 := by
    refine inc_supp (b := topN n) G oneM oneM_Nn hone hG (fun m hm hb => ?_)
    have hz := topN_zero hm hb
    have h := comps_dv n (cutM (n + 1) m) d (cutM_len (by omega) m) (cut_nn n hm)
    rw [cut_deg n hn m hz] at h
    rw [← h]
    have e : sumL (fun x => if dvL (cutM (n + 1) m) x = true then (1 : Int) else 0) (comps n d) = sumL (fun x => if dv m (padM x) then (1 : Int) else 0) (comps n d) := sumL_congr _ (fun x hx => by
      have h2 := dvL_iff n hn m x (comps_mem n d x hx).1 hz
      by_cases h3 : dv m (padM x)
      · rw [if_pos h3, if_pos (h2.2 h3)]
      · rw [if_neg h3, if_neg (fun h => h3 (h2.1 h))])
    rw [e]
    omega
  rw [inc_sub, inc_mul, inc_sumL] at h1
  have h2 : sumL (fun x => inc (fun m => if dv m (padM x) then (1 : Int) else 0) oneM G) (comps n d) = cntI G n d := by
    unfold cntI
    refine sumL_congr _ (fun x hx => ?_)
    rw [inc_ind (padM x) G oneM]
    have h3 : dv oneM (padM x) := pad_nn (comps_mem n d x hx).2
    by_cases h4 : ∃ g ∈ G, dv g (padM x)
    · rw [if_pos h4, if_neg (fun h => h.2 h4)]
    · rw [if_neg h4, if_pos ⟨h3, h4⟩]
  rw [h2] at h1
  omega
theorem topN_Gd {G : List M4} {n : Nat} (hG : ∀ g ∈ G, Nn g ∧ dv g (topN n)) : Gd G := fun g hg => ⟨(hG g hg).1, dv_tr (hG g hg).2 (topN_six n)⟩
/-- The program's Hilbert function is that number. -/
theorem hil_count {G : List M4} {n : Nat} (hn : n < 4) (hG : ∀ g ∈ G, Nn g ∧ dv g (topN n)) (d : Nat) : hilT (numS G) n d (numS G).length = cntI G n d := by
  have hgd := topN_Gd hG
  rw [← cntI_inc hn hG, inc_deg hgd (fun e => cF n ((d : Int) - e)), hilT_sum]
  obtain ⟨e, he⟩ : ∃ e, 25 = (numS G).length + e := ⟨25 - (numS G).length, by have := numS_len G; omega⟩
  rw [he, sumL_range_add, sumL_zeros (fun u : Nat => cN G (((numS G).length + u : Nat) : Int) * cF n ((d : Int) - (((numS G).length + u : Nat) : Int))) _ (fun u _ => by rw [← numS_cf hgd, cf_out (by omega), Int.zero_mul])]
  rw [Int.add_zero]
  exact sumL_congr _ (fun j _ => by rw [numS_cf hgd])
theorem gens_topN {k : Nat} (hk1 : 1 ≤ k) (hk4 : k ≤ 4) {gens : List (List Int)} (h : gens.all (validB k) = true) : ∀ g ∈ gens.map padM, Nn g ∧ dv g (topN (k - 1)) := fun g hg => by
  obtain ⟨l, hl, rfl⟩ := List.mem_map.1 hg
  rw [List.all_eq_true] at h
  have hv := (valid_iff hk1).1 (h l hl)
  have h0 := getD_in hv.2
  refine ⟨⟨(h0 0).1, (h0 1).1, (h0 2).1, (h0 3).1⟩, ?_⟩
  have hz : ∀ i, k ≤ i → l.getD i 0 = 0 := fun i hi => by rw [List.getD_eq_getElem?_getD, List.getElem?_eq_none (by omega)]; rfl
  unfold dv topN padM
  dsimp only
  refine ⟨(h0 0).2, ?_, ?_, ?_⟩
  · split
    · exact (h0 1).2
    · rw [hz 1 (by omega)]; exact Int.le_refl _
  · split
    · exact (h0 2).2
    · rw [hz 2 (by omega)]; exact Int.le_refl _
  · split
    · exact (h0 3).2
    · rw [hz 3 (by omega)]; exact Int.le_refl _
/-- Counted from a prefix on. -/
def cntL (L : List (List Int)) (m : List Int) (n d : Nat) : Int := sumL (fun x => if hasL L (m ++ x) = true then 0 else 1) (comps n d)
theorem cntL_bound (L : List (List Int)) : ∀ (n : Nat) (m : List Int) (d : Nat), d ≤ 16 → 0 ≤ cntL L m n d ∧ cntL L m n d ≤ (17 ^ n : Nat)
  | 0, m, d, _ => by
    unfold cntL
    rw [comps]
    show 0 ≤ (if hasL L (m ++ [(d : Int)]) = true then (0 : Int) else 1) + 0 ∧ _ ≤ (1 : Int)
    show 0 ≤ (if hasL L (m ++ [(d : Int)]) = true then (0 : Int) else 1) + 0 ∧ (if hasL L (m ++ [(d : Int)]) = true then (0 : Int) else 1) + 0 ≤ (1 : Int)
    split <;> omega
  | n + 1, m, d, hd => by
    have e : cntL L m (n + 1) d = sumL (fun v : Nat => cntL L (m ++ [(v : Int)]) n (d - v)) (List.range (d + 1)) := by
      unfold cntL
      rw [comps, sumL_flatMap]
      refine sumL_congr _ (fun v _ => ?_)
      rw [sumL_map]
      refine sumL_congr _ (fun x _ => ?_)
      rw [List.append_assoc]
      rfl
    rw [e]
    have h := sumL_bound (f := fun v : Nat => cntL L (m ++ [(v : Int)]) n (d - v)) (B := ((17 ^ n : Nat) : Int)) (List.range (d + 1)) (fun v _ => cntL_bound L n _ _ (by omega))
    rw [List.length_range] at h
    refine ⟨h.1, Int.le_trans h.2 ?_⟩
    have h2 : (d + 1) * 17 ^ n ≤ 17 ^ (n + 1) := by rw [Nat.pow_succ, Nat.mul_comm (17 ^ n) 17]; exact Nat.mul_le_mul_right _ (by omega)
    calc ((d + 1 : Nat) : Int) * ((17 ^ n : Nat) : Int) = (((d + 1) * 17 ^ n : Nat) : Int) := (Int.natCast_mul _ _).symm
      _ ≤ _ := Int.ofNat_le.2 h2
theorem cntL_succ (L : List (List Int)) (m : List Int) (n d : Nat) : cntL L m (n + 1) d = sumL (fun v : Nat => cntL L (m ++ [(v : Int)]) n (d - v)) (List.range (d + 1)) := by
  unfold cntL
  rw [comps, sumL_flatMap]
  refine sumL_congr _ (fun v _ => ?_)
  rw [sumL_map]
  refine sumL_congr _ (fun x _ => ?_)
  rw [List.append_assoc]
  rfl
theorem hilbert_ev (k : Nat) (hk4 : k ≤ 4) (L : List (List Int)) (hL : L.length ≤ 13) (hl : ∀ l ∈ L, l.length = k) : ∀ (r : Nat) (m : List Int) (d : Nat), m.length + r + 1 = k → d ≤ 16 → Ev (fun K => woggleref04_Hilbert.f K (k : Int) L m (d : Int)) (cntL L m r d)
  | 0, m, d, hm, hd => by
    refine Ev.step (f := fun K => (woggleref04_Has.f K L (m ++ [(d : Int)])).bind fun t => if t = true then some 0 else some 1) (fun K => ?_) ?_
    · simp only [woggleref04_Hilbert.f]
      rw [if_pos (by rw [wrapS (by omega)]; omega), Option.bind_some, if_pos (by simp; omega), Option.bind_some, if_pos (by simp; omega)]
      rfl
    · refine Ev.bind (has_ev L (m ++ [(d : Int)]) (by omega) (by simp; omega) (fun g hg => by rw [hl g hg]; simp; omega)) ?_
      unfold cntL
      rw [comps]
      show Ev _ ((if hasL L (m ++ [(d : Int)]) = true then (0 : Int) else 1) + 0)
      split
      · exact Ev.now _
      · exact Ev.now _
  | r + 1, m, d, hm, hd => by
    have hr3 : r + 1 ≤ 3 := by omega
    have h17 : (17 ^ (r + 1) : Nat) ≤ 4913 := by
      rcases (show r = 0 ∨ r = 1 ∨ r = 2 by omega) with rfl | rfl | rfl <;> decide
    have hpart : ∀ v, v ≤ d + 1 → 0 ≤ sumL (fun v : Nat => cntL L (m ++ [(v : Int)]) r (d - v)) (List.range v) ∧ sumL (fun v : Nat => cntL L (m ++ [(v : Int)]) r (d - v)) (List.range v) ≤ 4913 * 17 := fun v hv => by
      have h := sumL_bound (f := fun v : Nat => cntL L (m ++ [(v : Int)]) r (d - v)) (B := 4913) (List.range v) (fun u _ => by
        have h1 := cntL_bound L r (m ++ [(u : Int)]) (d - u) (by omega)
        have h2 : (17 ^ r : Nat) ≤ 4913 := Nat.le_trans (Nat.pow_le_pow_right (by omega) (Nat.le_succ r)) h17
        exact ⟨h1.1, Int.le_trans h1.2 (Int.ofNat_le.2 h2)⟩)
      rw [List.length_range] at h
      refine ⟨h.1, Int.le_trans h.2 ?_⟩
      omega
    have key : ∀ (e v : Nat), v + e = d + 1 → Ev (fun K => woggleref04_Hilbert.l0 K (k : Int) L m (d : Int) (sumL (fun v : Nat => cntL L (m ++ [(v : Int)]) r (d - v)) (List.range v)) (v : Int)) (cntL L m (r + 1) d) := by
      intro e
      induction e with
      | zero =>
        intro v hv
        rw [show v = d + 1 by omega, ← cntL_succ]
        refine Ev.step (f := fun _ => some (cntL L m (r + 1) d)) (fun K => ?_) (Ev.now _)
        simp only [woggleref04_Hilbert.l0]
        rw [if_neg (by omega)]
      | succ e ih =>
        intro v hv
        have h1 := hpart v (by omega)
        have h2 := hpart (v + 1) (by omega)
        have hs : sumL (fun v : Nat => cntL L (m ++ [(v : Int)]) r (d - v)) (List.range (v + 1)) = sumL (fun v : Nat => cntL L (m ++ [(v : Int)]) r (d - v)) (List.range v) + cntL L (m ++ [(v : Int)]) r (d - v) := by
          rw [List.range_succ, sumL_app]
          show _ + (_ + 0) = _
          rw [Int.add_zero]
        refine Ev.step (f := fun K => (woggleref04_Hilbert.f K (k : Int) L (m ++ [(v : Int)]) ((d - v : Nat) : Int)).bind fun t => woggleref04_Hilbert.l0 K (k : Int) L m (d : Int) (wrap64 (sumL (fun v : Nat => cntL L (m ++ [(v : Int)]) r (d - v)) (List.range v) + t)) ((v + 1 : Nat) : Int)) (fun K => ?_) ?_
        · simp only [woggleref04_Hilbert.l0]
          rw [if_pos (by omega), Option.bind_some, if_pos (by simp; omega), Option.bind_some, if_pos (by simp; omega), wrapS (x := (v : Int) + 1) (by omega), wrapS (x := (d : Int) - (v : Int)) (by omega), show (d : Int) - (v : Int) = ((d - v : Nat) : Int) by omega]
          rfl
        · refine Ev.bind (hilbert_ev k hk4 L hL hl r (m ++ [(v : Int)]) (d - v) (by simp; omega) (by omega)) ?_
          have hw : wrap64 (sumL (fun v : Nat => cntL L (m ++ [(v : Int)]) r (d - v)) (List.range v) + cntL L (m ++ [(v : Int)]) r (d - v)) = sumL (fun v : Nat => cntL L (m ++ [(v : Int)]) r (d - v)) (List.range (v + 1)) := by
            rw [← hs, wrapS (by omega)]
          simp only [hw]
          exact ih (v + 1) (by omega)
    refine Ev.step (fun K => ?_) (key (d + 1) 0 (by omega))
    simp only [woggleref04_Hilbert.f]
    rw [if_neg (by rw [wrapS (by omega)]; omega)]
    rfl
theorem cntL_eq {k : Nat} (hk1 : 1 ≤ k) (hk4 : k ≤ 4) {L : List (List Int)} (hl : ∀ l ∈ L, l.length = k) (d : Nat) : cntL L [] (k - 1) d = cntI (L.map padM) (k - 1) d := by
  unfold cntL cntI
  refine sumL_congr _ (fun x hx => ?_)
  rw [List.nil_append]
  have hx1 : x.length = k := by rw [(comps_mem _ _ x hx).1]; omega
  have h := hasL_pad hk4 hl hx1
  by_cases hc : ∃ g ∈ L.map padM, dv g (padM x)
  · rw [if_pos hc, if_pos]
    rw [← h, List.any_eq_true]
    obtain ⟨g, hg, h2⟩ := hc
    exact ⟨g, hg, (divM_iff _ _).2 h2⟩
  · rw [if_neg hc, if_neg]
    rw [← h, List.any_eq_true]
    rintro ⟨g, hg, h2⟩
    exact hc ⟨g, hg, (divM_iff _ _).1 h2⟩
end Go.Proofs.Ytjkfjnempofihaa.Fi
