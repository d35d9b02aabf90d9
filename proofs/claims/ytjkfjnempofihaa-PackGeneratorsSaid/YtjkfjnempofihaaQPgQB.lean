/- Plain: lists of coefficients: adding a multiple, cutting the last zeros; the numerator. -/
import Derived.Test.YtjkfjnempofihaaQPgQA
import Derived.Test.YtjkfjnempofihaaQPgFi2
namespace Go.Proofs.Ytjkfjnempofihaa.Fi
open Go.RowKit Go.Shelf Go.Lib Go.Proofs.YtjkfjnempofihaaW.PrintWords
set_option linter.unusedVariables false
set_option linter.unusedSimpArgs false
def cf (l : List Int) (j : Nat) : Int := l.getD j 0
theorem cf_out {l : List Int} {j : Nat} (h : l.length ≤ j) : cf l j = 0 := by
  unfold cf
  rw [List.getD_eq_getElem?_getD, List.getElem?_eq_none h]
  rfl
theorem rd_cf (l : List Int) (j : Nat) : rd l (j : Int) = cf l j := by unfold rd cf; rw [Int.toNat_natCast]
theorem cf_set (l : List Int) (i j : Nat) (v : Int) (h : i < l.length) : cf (l.set i v) j = if j = i then v else cf l j := by
  unfold cf
  rw [List.getD_eq_getElem?_getD, List.getD_eq_getElem?_getD, List.getElem?_set]
  by_cases e : j = i
  · subst e
    rw [if_pos rfl, if_pos rfl, if_pos h]
    rfl
  · rw [if_neg (fun h => e h.symm), if_neg e]
theorem add_l1 (b : List Int) (y : Nat) (t : Int) (ht : t = 1 ∨ t = -1) (hb : b.length ≤ 1000) (hy : y ≤ 1000) (hbb : ∀ j, -1000000 ≤ cf b j ∧ cf b j ≤ 1000000) : ∀ (m i : Nat) (x : List Int), i + m = b.length → y + b.length ≤ x.length → (∀ j, y + i ≤ j → -1000000 ≤ cf x j ∧ cf x j ≤ 1000000) →
    ∃ r, pack_add.l1 (m + 1) x (y : Int) t b (b.length : Int) (i : Int) = some r ∧ r.length = x.length ∧ ∀ j, cf r j = cf x j + if y + i ≤ j ∧ j < y + b.length then t * cf b (j - y) else 0
  | 0, i, x, hi, hx, hxx => by
    refine ⟨x, ?_, rfl, fun j => ?_⟩
    · rw [pack_add.l1, if_neg (by omega)]
    · rw [if_neg (by omega)]; omega
  | m + 1, i, x, hi, hx, hxx => by
    have hw : wrap64 ((i : Int) + (y : Int)) = ((i + y : Nat) : Int) := by rw [wrapS (by omega)]; omega
    have hw1 : wrap64 ((i : Int) + 1) = ((i + 1 : Nat) : Int) := by rw [wrapS (by omega)]; omega
    have h1 := hbb i
    have h2 := hxx (i + y) (by omega)
    have ht2 : t * cf b i = cf b i ∨ t * cf b i = -cf b i := by rcases ht with rfl | rfl <;> omega
    have hw2 : wrap64 (rd x ((i + y : Nat) : Int) + wrap64 (t * rd b (i : Int))) = cf x (i + y) + t * cf b i := by
      rw [rd_cf, rd_cf, wrapS (x := t * cf b i) (by omega), wrapS (by omega)]
    have hs : ((i + y : Nat) : Int).toNat = i + y := Int.toNat_natCast _
    obtain ⟨r, hr, hl, hc⟩ := add_l1 b y t ht hb hy hbb m (i + 1) (x.set (i + y) (cf x (i + y) + t * cf b i)) (by omega) (by rw [List.length_set]; exact hx) (fun j hj => by
      rw [cf_set _ _ _ _ (by omega), if_neg (by omega)]
      exact hxx j (by omega))
    refine ⟨r, ?_, by rw [hl, List.length_set], fun j => ?_⟩
    · rw [pack_add.l1, if_pos (by omega), if_pos (by omega), if_pos (by omega), hw, if_pos (by omega), if_pos (by omega), hs, hw2, hw1]
      exact hr
    · rw [hc j, cf_set _ _ _ _ (by omega)]
      by_cases e : j = i + y
      · subst e
        rw [if_pos rfl, if_neg (by omega), if_pos (by omega), Nat.add_sub_cancel]
        omega
      · rw [if_neg e]
        by_cases h3 : y + (i + 1) ≤ j ∧ j < y + b.length
        · rw [if_pos h3, if_pos (by omega)]
        · rw [if_neg h3, if_neg (by omega)]
theorem cf_zero (x : List Int) (j : Nat) : cf (x ++ [0]) j = cf x j := by
  unfold cf
  rw [List.getD_eq_getElem?_getD, List.getD_eq_getElem?_getD]
  rcases Nat.lt_or_ge j x.length with h | h
  · rw [List.getElem?_append_left h]
  · rw [List.getElem?_append_right h, List.getElem?_eq_none h]
    rcases Nat.lt_or_ge (j - x.length) 1 with h2 | h2
    · rw [show j - x.length = 0 by omega]; rfl
    · rw [List.getElem?_eq_none (by simpa using h2)]
theorem add_l0 (b : List Int) (y : Nat) (t : Int) (ht : t = 1 ∨ t = -1) (hb : b.length ≤ 1000) (hy : y ≤ 1000) (hbb : ∀ j, -1000000 ≤ cf b j ∧ cf b j ≤ 1000000) : ∀ (m : Nat) (x : List Int), x.length ≤ 3000 → b.length + y ≤ x.length + m → (∀ j, -1000000 ≤ cf x j ∧ cf x j ≤ 1000000) →
    ∃ k r, pack_add.l0 k x b (y : Int) t = some r ∧ r.length ≤ max x.length (b.length + y) ∧ ∀ j, cf r j = cf x j + if y ≤ j ∧ j < y + b.length then t * cf b (j - y) else 0
  | 0, x, hx, hm, hxx => by
    have hw : wrap64 ((b.length : Int) + (y : Int)) = ((b.length + y : Nat) : Int) := by rw [wrapS (by omega)]; omega
    obtain ⟨r, hr, hl, hc⟩ := add_l1 b y t ht hb hy hbb b.length 0 x (by omega) (by omega) (fun j _ => hxx j)
    refine ⟨b.length + 2, r, ?_, by omega, fun j => by rw [hc j, Nat.add_zero]⟩
    rw [pack_add.l0, hw, if_neg (by omega)]
    exact hr
  | m + 1, x, hx, hm, hxx => by
    by_cases h : b.length + y ≤ x.length
    · exact add_l0 b y t ht hb hy hbb 0 x hx (by omega) hxx |>.elim fun k h => ⟨k, h⟩
    · have hw : wrap64 ((b.length : Int) + (y : Int)) = ((b.length + y : Nat) : Int) := by rw [wrapS (by omega)]; omega
      obtain ⟨k, r, hr, hl, hc⟩ := add_l0 b y t ht hb hy hbb m (x ++ [0]) (by rw [List.length_append, List.length_singleton]; omega) (by rw [List.length_append, List.length_singleton]; omega) (fun j => by rw [cf_zero]; exact hxx j)
      refine ⟨k + 1, r, ?_, ?_, fun j => ?_⟩
      · rw [pack_add.l0, hw, if_pos (by omega), if_pos (by omega)]
        exact hr
      · rw [List.length_append, List.length_singleton] at hl; omega
      · rw [hc j, cf_zero]
theorem add_some (o b : List Int) (y : Nat) (t : Int) (ht : t = 1 ∨ t = -1) (ho : o.length ≤ 1000) (hb : b.length ≤ 1000) (hy : y ≤ 1000) (hoo : ∀ j, -1000000 ≤ cf o j ∧ cf o j ≤ 1000000) (hbb : ∀ j, -1000000 ≤ cf b j ∧ cf b j ≤ 1000000) :
    ∃ k r, pack_add.f k o b (y : Int) t = some r ∧ r.length ≤ max o.length (b.length + y) ∧ ∀ j, cf r j = cf o j + if y ≤ j then t * cf b (j - y) else 0 := by
  obtain ⟨k, r, hr, hl, hc⟩ := add_l0 b y t ht hb hy hbb 2000 o (by omega) (by omega) hoo
  refine ⟨k, r, hr, hl, fun j => ?_⟩
  rw [hc j]
  by_cases h : y ≤ j
  · rw [if_pos h]
    by_cases h2 : j < y + b.length
    · rw [if_pos ⟨h, h2⟩]
    · rw [if_neg (by omega), cf_out (l := b) (by omega), Int.mul_zero]
  · rw [if_neg (by omega), if_neg h]
/-- Without its last zeros. -/
def trimZ (l : List Int) : List Int := (l.reverse.dropWhile (· == 0)).reverse
theorem trimZ_snoc0 (l : List Int) : trimZ (l ++ [0]) = trimZ l := by
  unfold trimZ
  rw [List.reverse_append, List.reverse_singleton, List.singleton_append, List.dropWhile_cons_of_pos (by rfl)]
theorem trimZ_snoc {l : List Int} {a : Int} (h : a ≠ 0) : trimZ (l ++ [a]) = l ++ [a] := by
  unfold trimZ
  rw [List.reverse_append, List.reverse_singleton, List.singleton_append, List.dropWhile_cons_of_neg (by simpa using h), List.reverse_cons, List.reverse_reverse]
theorem list_snoc (l : List Int) : l = [] ∨ ∃ k a, l = k ++ [a] := by
  rcases l.eq_nil_or_concat with h | ⟨k, a, h⟩
  · exact .inl h
  · exact .inr ⟨k, a, by rw [h, List.concat_eq_append]⟩
theorem trimZ_cf : ∀ (n : Nat) (l : List Int), l.length ≤ n → ∀ j, cf (trimZ l) j = cf l j
  | 0, l, h, j => by
    obtain rfl : l = [] := List.length_eq_zero_iff.1 (by omega)
    rfl
  | n + 1, l, h, j => by
    rcases list_snoc l with rfl | ⟨k, a, rfl⟩
    · rfl
    · by_cases e : a = 0
      · subst e
        rw [trimZ_snoc0, cf_zero]
        exact trimZ_cf n k (by simpa using h) j
      · rw [trimZ_snoc e]
theorem trimZ_last : ∀ (n : Nat) (l : List Int), l.length ≤ n → trimZ l ≠ [] → cf (trimZ l) ((trimZ l).length - 1) ≠ 0
  | 0, l, h, hn => by
    obtain rfl : l = [] := List.length_eq_zero_iff.1 (by omega)
    exact absurd rfl hn
  | n + 1, l, h, hn => by
    rcases list_snoc l with rfl | ⟨k, a, rfl⟩
    · exact absurd rfl hn
    · by_cases e : a = 0
      · subst e
        rw [trimZ_snoc0] at hn ⊢
        exact trimZ_last n k (by simpa using h) hn
      · rw [trimZ_snoc e]
        unfold cf
        rw [List.length_append, List.length_singleton, Nat.add_sub_cancel, List.getD_eq_getElem?_getD, List.getElem?_append_right (Nat.le_refl _), Nat.sub_self]
        exact e
theorem cf_uniq {l k : List Int} (h : ∀ j, cf l j = cf k j) (hl : l ≠ [] → cf l (l.length - 1) ≠ 0) (hk : k ≠ [] → cf k (k.length - 1) ≠ 0) : l = k := by
  have key : ∀ a b : List Int, (∀ j, cf a j = cf b j) → (a ≠ [] → cf a (a.length - 1) ≠ 0) → a.length ≤ b.length := fun a b h ha => by
    rw [← Nat.not_lt]
    intro hlt
    have hne : a ≠ [] := by rintro rfl; simp at hlt
    exact ha hne (by rw [h, cf_out (by omega)])
  have hlen : l.length = k.length := Nat.le_antisymm (key l k h hl) (key k l (fun j => (h j).symm) hk)
  apply List.ext_getElem hlen
  intro i h1 h2
  have := h i
  unfold cf at this
  rw [List.getD_eq_getElem?_getD, List.getD_eq_getElem?_getD, List.getElem?_eq_getElem h1, List.getElem?_eq_getElem h2] at this
  exact this
/-- The numerator. -/
def numS (G : List M4) : List Int := trimZ ((List.range 25).map fun j : Nat => cN G (j : Int))
/-- Generators as they are read: numbers from 0 to 6. -/
def Gd (G : List M4) : Prop := ∀ g ∈ G, Nn g ∧ dv g six
theorem numS_cf {G : List M4} (hG : Gd G) (j : Nat) : cf (numS G) j = cN G (j : Int) := by
  unfold numS
  rw [trimZ_cf _ _ (Nat.le_refl _)]
  unfold cf
  rw [List.getD_eq_getElem?_getD, List.getElem?_map]
  rcases Nat.lt_or_ge j 25 with h | h
  · rw [List.getElem?_range h]; rfl
  · rw [List.getElem?_eq_none (by simpa using h), cN_out hG (by omega)]; rfl
theorem numS_last (G : List M4) (h : numS G ≠ []) : cf (numS G) ((numS G).length - 1) ≠ 0 := trimZ_last _ _ (Nat.le_refl _) h
theorem numS_len (G : List M4) : (numS G).length ≤ 25 := by
  unfold numS trimZ
  rw [List.length_reverse]
  refine Nat.le_trans (List.dropWhile_sublist _).length_le ?_
  simp
theorem num_uniq {G : List M4} (hG : Gd G) {l : List Int} (h : ∀ j : Nat, cf l j = cN G (j : Int)) (hl : l ≠ [] → cf l (l.length - 1) ≠ 0) : l = numS G :=
  cf_uniq (fun j => by rw [h, numS_cf hG]) hl (numS_last G)
theorem numS_bound {G : List M4} (hG : Gd G) (hl : G.length ≤ 12) (j : Nat) : -1000000 ≤ cf (numS G) j ∧ cf (numS G) j ≤ 1000000 := by
  rw [numS_cf hG]
  have h1 := cN_bound G (j : Int)
  have h2 : (2 : Int) ^ G.length ≤ 2 ^ 12 := by
    have : 2 ^ G.length ≤ 2 ^ 12 := Nat.pow_le_pow_right (by omega) hl
    exact_mod_cast this
  have h3 : (2 : Int) ^ 12 = 4096 := rfl
  omega
theorem Gd.least {G : List M4} (h : Gd G) : Gd (lstM divM G) := fun g hg => h g ((mem_lstM _ _ _).1 hg).1
theorem Gd.take {G : List M4} (h : Gd G) (i : Nat) : Gd (G.take i) := fun g hg => h g (List.mem_of_mem_take hg)
theorem sub0_sb {x y : Int} (hx : 0 ≤ x ∧ x ≤ 6) (hy : 0 ≤ y ∧ y ≤ 6) : sub0 x y = sb1 x y := by
  unfold sub0 sb1
  rw [wrapS (by omega)]
theorem Gd.six {m : M4} (h : Nn m ∧ dv m six) : (0 ≤ m.1 ∧ m.1 ≤ 6) ∧ (0 ≤ m.2.1 ∧ m.2.1 ≤ 6) ∧ (0 ≤ m.2.2.1 ∧ m.2.2.1 ≤ 6) ∧ (0 ≤ m.2.2.2 ∧ m.2.2.2 ≤ 6) :=
  ⟨⟨h.1.1, h.2.1⟩, ⟨h.1.2.1, h.2.2.1⟩, ⟨h.1.2.2.1, h.2.2.2.1⟩, ⟨h.1.2.2.2, h.2.2.2.2⟩⟩
theorem subM_ovr {k m : M4} (hk : Nn k ∧ dv k six) (hm : Nn m ∧ dv m six) : subM k m = ovr k m := by
  have h1 := Gd.six hk
  have h2 := Gd.six hm
  exact m4_ext (sub0_sb h2.1 h1.1) (sub0_sb h2.2.1 h1.2.1) (sub0_sb h2.2.2.1 h1.2.2.1) (sub0_sb h2.2.2.2 h1.2.2.2)
theorem map_subM {k : M4} {G : List M4} (hk : Nn k ∧ dv k six) (hG : Gd G) : G.map (subM k) = G.map (ovr k) := List.map_congr_left (fun m hm => subM_ovr hk (hG m hm))
theorem Gd.over {k : M4} {G : List M4} (hk : Nn k) (hG : Gd G) : Gd (G.map (ovr k)) := fun g hg => by
  obtain ⟨m, hm, rfl⟩ := List.mem_map.1 hg
  exact ⟨ovr_Nn k m, ovr_dv hk (by unfold Nn; decide) (hG m hm).2⟩
/-- One more generator. -/
theorem num_step {G : List M4} {g : M4} (hG : Gd G) (hg : Nn g ∧ dv g six) {o o2 : List Int} (ho : ∀ j : Nat, cf o j = cN G (j : Int)) {d : Nat} (hd : (d : Int) = degM g)
    (h2 : ∀ j, cf o2 j = cf o j + if d ≤ j then (-1) * cf (numS (lstM divM (G.map (subM g)))) (j - d) else 0) : ∀ j : Nat, cf o2 j = cN (G ++ [g]) (j : Int) := fun j => by
  rw [h2, ho, cN_snoc G g hg.1, map_subM hg hG]
  have hov := Gd.over hg.1 hG
  by_cases h : d ≤ j
  · rw [if_pos h, numS_cf hov.least, cN_least, ← hd, show ((j - d : Nat) : Int) = (j : Int) - (d : Int) by omega]
    omega
  · rw [if_neg h, cN_out hov (j := (j : Int) - degM g) (by omega)]
    omega
theorem degM_six {g : M4} (h : Nn g ∧ dv g six) : 0 ≤ degM g ∧ degM g ≤ 24 := by
  have h1 := Gd.six h
  unfold degM
  omega
end Go.Proofs.Ytjkfjnempofihaa.Fi
