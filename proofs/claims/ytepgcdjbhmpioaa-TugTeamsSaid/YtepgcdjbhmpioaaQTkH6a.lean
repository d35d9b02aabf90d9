/- The calls of woggleref05.Best. -/
import Derived.Test.YtepgcdjbhmpioaaQTkT6
import Derived.Test.YtepgcdjbhmpioaaQTkFi5
import Derived.Test.YtepgcdjbhmpioaaQTkH2
namespace Go.Proofs.Ytepgcdjbhmpioaa.Fi
open Go.RowKit Go.Proofs.YtepgcdjbhmpioaaW.PrintWords Go.Proofs.YtepgcdjbhmpioaaW.PrintLast Go.Proofs.YtepgcdjbhmpioaaW.PrintMore
set_option linter.unusedVariables false
set_option linter.unusedSimpArgs false
attribute [local go_sem] eql22 neq22
/-- The least number so far; 0 if there is none. -/
def lstS (a : Int) : Int := if a < 0 then 0 else a
/-- The best is nil if and only if there is none. -/
def BestV (a : Int) (v : Value) : Prop := (a < 0 ∧ v = .slice none 0 0) ∨ (0 ≤ a ∧ ∃ ad n c, v = .slice (some ad) n c)
theorem R_some {w : World} {base : Nat} {ok : Nat → Prop} {v : Value} {l : List Int} (h : Kd.R (Kd.int .i64) 3 w base ok v l) (h0 : 0 < l.length) : ∃ ad n c, v = .slice (some ad) n c := by
  obtain ⟨A, c, rfl⟩ := Kd.R_slice h
  obtain ⟨ad, h1, _⟩ := C_int_cell (Kd.R_reads' h).2.2 h0
  exact ⟨ad, _, _, by rw [h1]⟩
end Go.Proofs.Ytepgcdjbhmpioaa.Fi
