/- The calls of the reference's Minimal: its rows are those that came in. -/
import Derived.Test.YtjkfjnempofihaaQPgQD
import Derived.Test.YtjkfjnempofihaaQPgWRepsOne
import Derived.Test.YtjkfjnempofihaaQPgE10
import Derived.BigQuiet
import Derived.Deep.QuietTactic
namespace Go.Proofs.Ytjkfjnempofihaa.Fi
open Go.RowKit Go.Shelf Go.Lib Go.Proofs.YtjkfjnempofihaaW.PrintWords Go.Proofs.YtjkfjnempofihaaW.PrintLast Go.Proofs.YtjkfjnempofihaaW.PrintMore
set_option linter.unusedVariables false
set_option linter.unusedSimpArgs false
/-- A row's header: where, how long, with what room. -/
abbrev Hdr := Option Addr × Nat × Nat
def hv (h : Hdr) : Value := .slice h.1 h.2.1 h.2.2
/-- Elements that are headers: nothing is said of their rows. -/
def kH : Kd Hdr where
  sz := 1
  E := []
  K := fun _ x cs => cs = [hv x]
  M := fun _ _ _ x cs => cs = [hv x]
  K_len := fun h => by rw [h]; rfl
  K_one := fun {_ x cs} h u hu => by
    rw [h] at hu
    rw [List.mem_singleton.1 hu]
    rfl
  K_below := fun _ h => h
  K_of_M := fun h => h
  M_mono := fun _ h => h
  M_bound := fun h => h
  M_move := fun _ h => h
  M_lower := fun _ h => h
/-- A header's row reads as numbers. -/
def HR (w : World) (h : Hdr) (l : List Int) : Prop := h.2.1 = l.length ∧ l.length ≤ h.2.2 ∧ Kd.C (Kd.int .i64) w h.1 l.length l
theorem HR.below {w w1 : World} {h : Hdr} {l : List Int} (hh : HR w h l) (hb : Below w.heap.size w w1) : HR w1 h l := ⟨hh.1, hh.2.1, Kd.C_below hh.2.2 hb⟩
theorem HR.drewN {w : World} {h : Hdr} {l : List Int} (hh : HR w h l) (m : Nat) : HR (w.drewN m) h l := ⟨hh.1, hh.2.1, Kd.C_drewN hh.2.2 m⟩
/-- A row of headers whose rows read as numbers is a list of lists. -/
theorem rows_out {w : World} {A : Option Addr} {hs : List Hdr} {xs : List (List Int)} (h : Kd.C kH w A hs.length hs) (hl : hs.length = xs.length) (hr : ∀ i, i < xs.length → HR w (hs.getD i (none, 0, 0)) xs[i]!) : Kd.C kL w A xs.length xs := by
  refine ⟨rfl, by rw [← hl]; exact h.2.1, fun hn => ?_⟩
  obtain ⟨ad, e, hc⟩ := h.2.2 (by omega)
  refine ⟨ad, e, fun j p hj => ?_⟩
  obtain ⟨hjl, hjp⟩ := List.getElem?_eq_some_iff.1 hj
  obtain ⟨c, c1, c2, c3⟩ := hc j (hs.getD j (none, 0, 0)) (by rw [List.getD_eq_getElem?_getD, List.getElem?_eq_getElem (by omega)]; rfl)
  have h2 := hr j hjl
  rw [getElem!_pos xs j hjl, hjp] at h2
  refine ⟨c, c1, ⟨(hs.getD j (none, 0, 0)).1, (hs.getD j (none, 0, 0)).2.2, ?_, h2.2.1, h2.2.2⟩, c3⟩
  have c2' : c = [hv (hs.getD j (none, 0, 0))] := c2
  rw [c2']
  unfold hv
  rw [h2.1]
/-- Whether a generator is minimal, by the first k others. -/
def condI (gens : List (List Int)) (i k : Nat) : Bool := decide (k ≠ i) && divL gens[k]! gens[i]! && (!decide (gens[k]! = gens[i]!) || decide (k < i))
def okI (gens : List (List Int)) (i : Nat) : Nat → Bool
  | 0 => true
  | k + 1 => okI gens i k && !condI gens i k
def posI (gens : List (List Int)) (o : List Nat) (i : Nat) : Nat := (o.takeWhile fun q => lexLt gens[q]! gens[i]!).length
/-- The minimal ones of the first i, in their order. -/
def oT (gens : List (List Int)) : Nat → List Nat
  | 0 => []
  | i + 1 => if okI gens i gens.length = true then (oT gens i).take (posI gens (oT gens i) i) ++ [i] ++ (oT gens i).drop (posI gens (oT gens i) i) else oT gens i
/-- The reference's Minimal. -/
def minL (gens : List (List Int)) : List (List Int) := (oT gens gens.length).map fun q => gens[q]!
theorem oT_lt (gens : List (List Int)) : ∀ i, (∀ q ∈ oT gens i, q < i) ∧ (oT gens i).length ≤ i
  | 0 => ⟨fun q hq => by simp [oT] at hq, Nat.le_refl _⟩
  | i + 1 => by
    have ih := oT_lt gens i
    rw [oT]
    split
    · refine ⟨fun q hq => ?_, ?_⟩
      · rw [List.mem_append, List.mem_append, List.mem_singleton] at hq
        rcases hq with (hq | hq) | hq
        · exact Nat.lt_succ_of_lt (ih.1 q (List.mem_of_mem_take hq))
        · omega
        · exact Nat.lt_succ_of_lt (ih.1 q (List.mem_of_mem_drop hq))
      · rw [List.length_append, List.length_append, List.length_take, List.length_drop, List.length_singleton]
        have := ih.2
        omega
    · exact ⟨fun q hq => Nat.lt_succ_of_lt (ih.1 q hq), Nat.le_succ_of_le ih.2⟩
end Go.Proofs.Ytjkfjnempofihaa.Fi
