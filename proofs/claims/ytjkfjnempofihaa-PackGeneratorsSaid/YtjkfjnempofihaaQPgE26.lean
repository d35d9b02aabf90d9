/- The calls of the laws' made. -/
import Derived.Test.YtjkfjnempofihaaQPgE25
import Derived.Test.YtjkfjnempofihaaQPgE10
namespace Go.Proofs.Ytjkfjnempofihaa.Fi
open Go.RowKit Go.Shelf Go.Lib Go.Proofs.YtjkfjnempofihaaW.PrintWords Go.Proofs.YtjkfjnempofihaaW.PrintLast Go.Proofs.YtjkfjnempofihaaW.PrintMore
set_option linter.unusedVariables false
set_option linter.unusedSimpArgs false
def encU (m : M4) : List Value := [.int .u8 m.1, .int .u8 m.2.1, .int .u8 m.2.2.1, .int .u8 m.2.2.2]
/-- The kind of four bytes. -/
def kU : Kd M4 where
  sz := 4
  E := []
  K := fun _ x cs => cs = encU x
  M := fun _ _ _ x cs => cs = encU x
  K_len := fun h => by rw [h]; rfl
  K_one := fun {_ x cs} h u hu => by
    rw [h] at hu
    simp only [encU, List.mem_cons, List.not_mem_nil, or_false] at hu
    rcases hu with rfl | rfl | rfl | rfl <;> rfl
  K_below := fun _ h => h
  K_of_M := fun h => h
  M_mono := fun _ h => h
  M_bound := fun h => h
  M_move := fun _ h => h
  M_lower := fun _ h => h
theorem take_snoc1 {α : Type} (l : List α) (j : Nat) (h : j < l.length) : l.take (j + 1) = l.take j ++ [l[j]] := by
  rw [List.take_add_one, List.getElem?_eq_getElem h]
  rfl
theorem add_off (ad : Addr) (n j : Nat) : (⟨(ad.add n).block, (ad.add n).off + (j + 1), none⟩ : Addr) = ad.add (n + (j + 1)) := by
  have h : n + (j + 1) ≠ 0 := by omega
  unfold Addr.add
  rw [if_neg h]
  split
  · rename_i h0
    subst h0
    simp
  · simp [Nat.add_assoc]
def madK (n : Int) : Nat := (n % 4).toNat + 1
def madV (n : Int) (xs : List M4) (most : Nat) : List (List Int) := (xs.take most).map fun x => monV (tl x) (madK n)
set_option maxHeartbeats 4000000 in
set_option maxRecDepth 100000 in
theorem made_calls (n : Int) (A : Option Addr) (c : Nat) (xs : List M4) (most : Nat) (w : World) (hn : 0 ≤ n ∧ n ≤ 255) (hx : Kd.C kU w A xs.length xs) (hx2 : ∀ x ∈ xs, (0 ≤ x.1 ∧ x.1 ≤ 255) ∧ (0 ≤ x.2.1 ∧ x.2.1 ≤ 255) ∧ (0 ≤ x.2.2.1 ∧ x.2.2.1 ≤ 255) ∧ (0 ≤ x.2.2.2 ∧ x.2.2.2 ≤ 255)) (hm : most ≤ 12) :
    Calls Try.prog 33 #[.int .u8 n, .slice A xs.length c, .int .i64 (most : Int)] w fun e w' => ∃ v, e = .returned (.tuple #[.int .i64 (madK n : Int), v]) ∧ Kd.S kL 25 w' w.heap.size (fun _ => True) v (madV n xs most) ∧ Below w.heap.size w w' := by
  have HX := Aside0.mk hx
  have HX2 := Aside0.mk hx2
  have HM := Aside0.mk hm
  have hk : wrap64 ((wrap64 n).tmod 4 + 1) = ((madK n : Nat) : Int) := by
    rw [wrapS (x := n) (by omega), Int.tmod_eq_emod_of_nonneg hn.1, wrapS (by omega)]
    unfold madK
    omega
  have HK4 : Aside0 (madK n ≤ 4) := ⟨by unfold madK; omega⟩
  obtain ⟨k, hkk⟩ : ∃ k, k = madK n := ⟨_, rfl⟩
  rw [← hkk] at hk HK4 ⊢
  have HKK := Aside0.mk hkk
  clear hx hx2 hm hn hkk
  go_enter Try.func33, Try.ntmps33
  go_wp2_with (first | ((with_reducible refine gate_dst (N := 15) rfl ?_); refine Kd.S_lit (Kd.slice 3 (Kd.int .i64)) w.heap.size 25 ?hg (N := 15) ?hd (xs := ([] : List (List Int))) (inner := []) (ok := fun _ => True) (okp := fun _ => True) ?hr ?hp (fun _ hk => hk) trivial (Below.refl _ _) (Nat.le_refl _) (by simp) ?_; (case hd => rfl); (case hg => rfl); (case hr => first | (go_simp; done) | (go_simp; rfl)); (case hp => exact (Reps.none _ _)); intro v1 w1 ho hb hg_ hnew_; have H1 := Aside0.mk ho; have H2 := Aside0.mk hb; clear ho hb hg_ hnew_))
  try rw [hk]
  clear hk
  go_loopg [9, 10] most (fun kq v9 v10 wr => ∃ i : Nat, v10 = .int .i64 (i : Int) ∧ Aside0 (i + kq = most) ∧ Aside0 (i ≤ xs.length) ∧ Aside0 (Kd.S kL 25 wr w.heap.size (fun _ => True) v9 (madV n xs i)) ∧ Aside0 (Below w.heap.size w wr))
  case atStart => exact ⟨0, rfl, ⟨by omega⟩, ⟨Nat.zero_le _⟩, H1, H2⟩
  case round =>
    clear H1 H2
    obtain ⟨i, rfl, HI, HIL, HO, HB⟩ := hrel
    by_cases hin : i < xs.length ∧ i < most
    · have p1 : ((i : Int) < (xs.length : Int)) = True := eq_true (by omega)
      have p2 : ((i : Int) < (most : Int)) = True := eq_true (by omega)
      have hw1 : wrap64 ((i : Int) + 1) = ((i + 1 : Nat) : Int) := wrapS (by have := HM.out; omega)
      obtain ⟨ad, cc, rfl, _, hcc, hcell⟩ := Kd.C_get HX.out (0, 0, 0, 0) (i : Int) (by omega) (by omega)
      rw [Int.toNat_natCast] at hcc hcell
      obtain ⟨⟨x0, x1, x2, x3⟩, hxi⟩ : ∃ x, x = xs.getD i (0, 0, 0, 0) := ⟨_, rfl⟩
      rw [← hxi] at hcc
      have hce : cc = encU (x0, x1, x2, x3) := hcc
      have hget : xs.getD i (0, 0, 0, 0) = xs[i] := by rw [List.getD_eq_getElem?_getD, List.getElem?_eq_getElem hin.1]; rfl
      have HXX := Aside0.mk (HX2.out (x0, x1, x2, x3) (by rw [hxi, hget]; exact List.getElem_mem _))
      have HST : Aside0 (madV n xs i ++ [monV [x0, x1, x2, x3] k] = madV n xs (i + 1)) := ⟨by
        unfold madV
        rw [take_snoc1 xs i hin.1, List.map_append, ← hget, ← hxi, HKK.out]
        rfl⟩
      have HLN : Aside0 ((madV n xs i).length ≤ 30000000) := ⟨by unfold madV; rw [List.length_map, List.length_take]; have := HM.out; omega⟩
      have s0 : wr.cell? (ad.add (i * 4)) = some (.int .u8 x0) := pw_cell_below HB.out (by have h := hcell 0 _ (by rw [hce]; rfl); exact h)
      have s1 : wr.cell? ⟨(ad.add (i * 4)).block, (ad.add (i * 4)).off + 1, none⟩ = some (.int .u8 x1) := by
        rw [add_off ad (i * 4) 0]
        exact pw_cell_below HB.out (by have h := hcell 1 _ (by rw [hce]; rfl); exact h)
      have s2 : wr.cell? ⟨(ad.add (i * 4)).block, (ad.add (i * 4)).off + 2, none⟩ = some (.int .u8 x2) := by
        rw [add_off ad (i * 4) 1]
        exact pw_cell_below HB.out (by have h := hcell 2 _ (by rw [hce]; rfl); exact h)
      have s3 : wr.cell? ⟨(ad.add (i * 4)).block, (ad.add (i * 4)).off + 3, none⟩ = some (.int .u8 x3) := by
        rw [add_off ad (i * 4) 2]
        exact pw_cell_below HB.out (by have h := hcell 3 _ (by rw [hce]; rfl); exact h)
      clear hcc hcell hce hget hxi
      go_wp2_with (first | (go_at_call 34; refine (monomial_calls k x0 x1 x2 x3 _ HK4.out HXX.out.1 HXX.out.2.1 HXX.out.2.2.1 HXX.out.2.2.2).mono ?_; rintro e w4 ⟨v20, rfl, hr, hb⟩; have HO4 := Aside0.mk (Kd.S_elder' HO.out (Kd.R_base hr) hb); have HR4 := Aside0.mk (Kd.R_lower hr HB.out.size); have HB4 := Aside0.mk (below_step HB.out hb); obtain ⟨A20, c20, e20⟩ := Kd.R_slice HR4.out; subst e20; clear hr hb) | ((with_reducible refine gate_builtin (b := .append) (xs := #[.tmp 27, .tmp 34]) rfl ?_); at_builtin; refine row_append (w0 := w) rfl (.tmp 27) (.tmp 34) rfl _ (madV n xs i) (monV [x0, x1, x2, x3] k) A20 c20 rfl rfl HO4.out HR4.out HB4.out HLN.out ?_; intro v6 w6 ho hb hg; rw [HST.out] at ho; have HO6 := Aside0.mk ho; have HB6 := Aside0.mk hb; clear ho hb hg))
      cases gk with
      | zero => exact absurd HI.out (by omega)
      | succ kq =>
        go_roundg kq
        case measure => have := HI.out; omega
        case rel => exact ⟨i + 1, by first | rfl | rw [hw1], ⟨by have := HI.out; omega⟩, ⟨hin.1⟩, HO6, HB6⟩
    · have HEQ : Aside0 (madV n xs i = madV n xs most) := ⟨by
        unfold madV
        congr 1
        rw [List.take_eq_take_iff]
        have := HI.out
        have := HIL.out
        omega⟩
      by_cases h1 : i < xs.length
      · have p1 : ((i : Int) < (xs.length : Int)) = True := eq_true (by omega)
        have p2 : ((i : Int) < (most : Int)) = False := eq_false (by omega)
        clear hin h1
        go_wp2
        go_ret2
        exact ⟨_, rfl, by rw [← HEQ.out]; exact HO.out, HB.out⟩
      · have p1 : ((i : Int) < (xs.length : Int)) = False := eq_false (by omega)
        clear hin h1
        go_wp2
        go_ret2
        exact ⟨_, rfl, by rw [← HEQ.out]; exact HO.out, HB.out⟩
end Go.Proofs.Ytjkfjnempofihaa.Fi
