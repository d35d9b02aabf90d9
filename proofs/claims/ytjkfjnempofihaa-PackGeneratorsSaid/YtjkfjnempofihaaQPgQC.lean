/- Plain: the numbers of monomials of a degree, as the program computes them. -/
import Derived.Test.YtjkfjnempofihaaQPgQB
namespace Go.Proofs.Ytjkfjnempofihaa.Fi
open Go.RowKit Go.Shelf Go.Lib Go.Proofs.YtjkfjnempofihaaW.PrintWords
set_option linter.unusedVariables false
set_option linter.unusedSimpArgs false
theorem sumL_bound {α : Type} {f : α → Int} {B : Int} : ∀ l : List α, (∀ a ∈ l, 0 ≤ f a ∧ f a ≤ B) → 0 ≤ sumL f l ∧ sumL f l ≤ (l.length : Int) * B
  | [], _ => by simp [sumL]
  | a :: l, h => by
    have h1 := h a List.mem_cons_self
    have h2 := sumL_bound l (fun b hb => h b (List.mem_cons_of_mem _ hb))
    rw [sumL, List.length_cons]
    have h3 : ((l.length + 1 : Nat) : Int) * B = (l.length : Int) * B + B := by
      rw [show ((l.length + 1 : Nat) : Int) = (l.length : Int) + 1 from rfl, Int.add_mul]; omega
    rw [h3]
    omega
theorem cF_step (n : Nat) (B : Int) (hB : 0 ≤ B) (h : ∀ e : Int, e ≤ 60 → 0 ≤ cF n e ∧ cF n e ≤ B) (e : Int) (he : e ≤ 60) : 0 ≤ cF (n + 1) e ∧ cF (n + 1) e ≤ 61 * B := by
  rw [cF]
  have h1 := sumL_bound (f := fun u : Nat => cF n (e - (u : Int))) (B := B) (List.range (e.toNat + 1)) (fun u _ => h _ (by omega))
  rw [List.length_range] at h1
  refine ⟨h1.1, Int.le_trans h1.2 ?_⟩
  exact Int.mul_le_mul_of_nonneg_right (by omega) hB
theorem cF_small (n : Nat) (hn : n ≤ 3) (e : Int) (he : e ≤ 60) : 0 ≤ cF n e ∧ cF n e ≤ 226981 := by
  have b0 : ∀ e : Int, e ≤ 60 → 0 ≤ cF 0 e ∧ cF 0 e ≤ 1 := fun e _ => by rw [cF]; split <;> omega
  have b1 := cF_step 0 1 (by omega) b0
  have b2 := cF_step 1 61 (by omega) b1
  have b3 := cF_step 2 3721 (by omega) b2
  rcases (show n = 0 ∨ n = 1 ∨ n = 2 ∨ n = 3 by omega) with rfl | rfl | rfl | rfl
  · have := b0 e he; omega
  · have := b1 e he; exact ⟨this.1, Int.le_trans this.2 (by decide)⟩
  · have := b2 e he; exact ⟨this.1, Int.le_trans this.2 (by decide)⟩
  · exact b3 e he
theorem mono_some (n : Nat) (hn : n ≤ 3) (e : Nat) (he : e ≤ 60) : ∃ k, pack_monomials.f k ((n : Int) + 1) (e : Int) = some (cF n (e : Int)) := by
  have s1 : wrap64 (Int.tdiv (wrap64 (1 * wrap64 ((e : Int) + 1))) 1) = cF 1 (e : Int) := by
    rw [cF_1, wrapS (x := (e : Int) + 1) (by omega), Int.one_mul, wrapS (x := (e : Int) + 1) (by omega), Int.tdiv_one, wrapS (x := (e : Int) + 1) (by omega)]
  have h1 := cF_small 1 (by omega) (e : Int) (by omega)
  have h2 := cF_small 2 (by omega) (e : Int) (by omega)
  have h3 := cF_small 3 (by omega) (e : Int) (by omega)
  have s2 : wrap64 (Int.tdiv (wrap64 (cF 1 (e : Int) * wrap64 ((e : Int) + 2))) 2) = cF 2 (e : Int) := by
    have hc := cF_2 e
    rw [cF_1, wrapS (x := (e : Int) + 2) (by omega), ← hc, wrapS (x := 2 * cF 2 (e : Int)) (by omega), Int.mul_tdiv_cancel_left _ (by decide), wrapS (by omega)]
  have s3 : wrap64 (Int.tdiv (wrap64 (cF 2 (e : Int) * wrap64 ((e : Int) + 3))) 3) = cF 3 (e : Int) := by
    have hc := cF_3 e
    rw [wrapS (x := (e : Int) + 3) (by omega), ← hc, wrapS (x := 3 * cF 3 (e : Int)) (by omega), Int.mul_tdiv_cancel_left _ (by decide), wrapS (by omega)]
  have w1 : wrap64 ((1 : Int) + 1) = 2 := wrapS (by omega)
  have w2 : wrap64 ((2 : Int) + 1) = 3 := wrapS (by omega)
  have w3 : wrap64 ((3 : Int) + 1) = 4 := wrapS (by omega)
  refine ⟨5, ?_⟩
  unfold pack_monomials.f
  rcases (show n = 0 ∨ n = 1 ∨ n = 2 ∨ n = 3 by omega) with rfl | rfl | rfl | rfl
  · rw [pack_monomials.l0, if_neg (by omega), cF_0]
  · rw [pack_monomials.l0, if_pos (by omega), if_neg (by omega), s1, w1, pack_monomials.l0, if_neg (by omega)]
  · rw [pack_monomials.l0, if_pos (by omega), if_neg (by omega), s1, w1, pack_monomials.l0, if_pos (by omega), if_neg (by omega), s2, w2, pack_monomials.l0, if_neg (by omega)]
  · rw [pack_monomials.l0, if_pos (by omega), if_neg (by omega), s1, w1, pack_monomials.l0, if_pos (by omega), if_neg (by omega), s2, w2, pack_monomials.l0, if_pos (by omega), if_neg (by omega), s3, w3, pack_monomials.l0, if_neg (by omega)]
/-- The Hilbert function, by the first numbers of the numerator. -/
def hilT (c : List Int) (n d : Nat) : Nat → Int
  | 0 => 0
  | i + 1 => if i ≤ d then hilT c n d i + cf c i * cF n ((d : Int) - (i : Int)) else hilT c n d i
theorem hilT_bound (c : List Int) (n d : Nat) (hn : n ≤ 3) (hd : d ≤ 60) (hc : ∀ j, -1000000 ≤ cf c j ∧ cf c j ≤ 1000000) : ∀ i : Nat, -(226981000000 * (i : Int)) ≤ hilT c n d i ∧ hilT c n d i ≤ 226981000000 * (i : Int)
  | 0 => by simp [hilT]
  | i + 1 => by
    have ih := hilT_bound c n d hn hd hc i
    rw [hilT]
    split
    · have h1 := hc i
      have h2 := cF_small n hn ((d : Int) - (i : Int)) (by omega)
      have h3 : cf c i * cF n ((d : Int) - (i : Int)) ≤ 1000000 * 226981 := Int.le_trans (Int.mul_le_mul_of_nonneg_right h1.2 h2.1) (Int.mul_le_mul_of_nonneg_left h2.2 (by omega))
      have h4 : (-1000000) * 226981 ≤ cf c i * cF n ((d : Int) - (i : Int)) := by
        have h5 : (-1000000) * cF n ((d : Int) - (i : Int)) ≤ cf c i * cF n ((d : Int) - (i : Int)) := Int.mul_le_mul_of_nonneg_right h1.1 h2.1
        omega
      omega
    · omega
theorem hil_step (c : List Int) (n d : Nat) (hn : n ≤ 3) (hd : d ≤ 60) (hc : ∀ j, -1000000 ≤ cf c j ∧ cf c j ≤ 1000000) (i : Nat) (hi : i ≤ 1000) (h : i ≤ d) : wrap64 (hilT c n d i + wrap64 (cf c i * cF n ((d : Int) - (i : Int)))) = hilT c n d (i + 1) := by
  have h0 := hilT_bound c n d hn hd hc i
  have h1 := hc i
  have h2 := cF_small n hn ((d : Int) - (i : Int)) (by omega)
  have h3 : cf c i * cF n ((d : Int) - (i : Int)) ≤ 1000000 * 226981 := Int.le_trans (Int.mul_le_mul_of_nonneg_right h1.2 h2.1) (Int.mul_le_mul_of_nonneg_left h2.2 (by omega))
  have h4 : (-1000000) * 226981 ≤ cf c i * cF n ((d : Int) - (i : Int)) := by
    have h5 : (-1000000) * cF n ((d : Int) - (i : Int)) ≤ cf c i * cF n ((d : Int) - (i : Int)) := Int.mul_le_mul_of_nonneg_right h1.1 h2.1
    omega
  rw [hilT, if_pos h, wrapS (x := cf c i * cF n ((d : Int) - (i : Int))) (by omega), wrapS (by omega)]
end Go.Proofs.Ytjkfjnempofihaa.Fi
