/- The reference's Minimal as the printed texts call it. -/
import Derived.Test.YtjkfjnempofihaaQPhE24
namespace Go.Proofs.Ytjkfjnempofihaa.Fi
open Go.RowKit Go.Shelf Go.Lib Go.Proofs.YtjkfjnempofihaaW.PrintWords Go.Proofs.YtjkfjnempofihaaW.PrintLast Go.Proofs.YtjkfjnempofihaaW.PrintMore
set_option linter.unusedVariables false
/-- A value that reads as a list of lists. -/
def CV (w : World) (v : Value) (xs : List (List Int)) : Prop := ∃ A c, v = .slice A xs.length c ∧ xs.length ≤ c ∧ Kd.C kL w A xs.length xs
theorem CV.below {w w1 : World} {v : Value} {xs : List (List Int)} (h : CV w v xs) (hb : Below w.heap.size w w1) : CV w1 v xs := by
  obtain ⟨A, c, h1, h2, h3⟩ := h
  exact ⟨A, c, h1, h2, Kd.C_below h3 hb⟩
theorem CV.of_S {w : World} {base : Nat} {ok : Nat → Prop} {v : Value} {xs : List (List Int)} (h : Kd.S kL 25 w base ok v xs) : CV w v xs := by
  obtain ⟨A, c, rfl⟩ := Kd.S_slice h
  have h2 := Kd.S_reads' h
  exact ⟨A, c, rfl, h2.2.1, h2.2.2⟩
/-- Of lists of one length. -/
def woggleref04_Minimal.f (l : List (List Int)) : Option (List (List Int)) := if l.length ≤ 67108864 ∧ (l.headD []).length ≤ 100000 ∧ l.all (fun x => decide (x.length = (l.headD []).length)) = true then some (minL l) else none
theorem rmin_f {l : List (List Int)} {n : Nat} (h1 : l.length ≤ 67108864) (hn : n ≤ 100000) (h2 : ∀ x ∈ l, x.length = n) : woggleref04_Minimal.f l = some (minL l) := by
  unfold woggleref04_Minimal.f
  cases l with
  | nil => rfl
  | cons a l =>
    have ha := h2 a List.mem_cons_self
    rw [if_pos ⟨h1, by rw [List.headD_cons, ha]; exact hn, by rw [List.all_eq_true]; intro x hx; rw [List.headD_cons, ha, h2 x hx]; simp⟩]
theorem woggleref04_Minimal.calls (A : Option Addr) (c : Nat) (l r : List (List Int)) (w : World) (hr : Kd.C (Kd.slice 3 (Kd.int .i64)) w A l.length l) (hc : l.length ≤ c) (h : woggleref04_Minimal.f l = some r) :
    Calls Try.prog 23 #[.slice A l.length c] w fun e w' => ∃ v, e = .returned v ∧ CV w' v r ∧ Below w.heap.size w w' := by
  unfold woggleref04_Minimal.f at h
  split at h
  · rename_i hc
    obtain ⟨h1, hn, h2⟩ := hc
    rw [List.all_eq_true] at h2
    obtain rfl := Option.some.inj h
    refine (rmin_calls A c (l.headD []).length l w hr h1 hn (fun x hx => of_decide_eq_true (h2 x hx))).mono ?_
    rintro e w' ⟨v, A', c', rfl, hv, hl, hcc, hb⟩
    exact ⟨v, rfl, ⟨A', c', hv, hl, hcc⟩, hb⟩
  · cases h
end Go.Proofs.Ytjkfjnempofihaa.Fi
