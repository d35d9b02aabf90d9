/- The calls of fire.Radius. -/
import Derived.Test.YtbgpnkchbcgekaaDoorQFhHbu
import Derived.Test.YtbgpnkchbcgekaaDoorQFhHtr
import Derived.Deep.LoopGhost
import Derived.Outline
namespace Go.Proofs.YtbgpnkchbcgekaaDoor.Fi
open Go.RowKit Go.Proofs.YtbgpnkchbcgekaaDoorW.PrintWords Go.Proofs.YtbgpnkchbcgekaaDoorW.PrintLast Go.Proofs.YtbgpnkchbcgekaaDoorW.PrintMore Wog
set_option linter.unusedVariables false
set_option linter.unusedSimpArgs false
theorem balls_rows {w : World} {base gv cv : Nat} {ok : Nat → Prop} {nx : List Nat} (h : Kd.R (Kd.slice 81 (Kd.int .u16)) 94 w base ok (.slice (some ⟨gv, 0, none⟩) nx.length cv) ((ballsS nx).map toI)) {i : Nat} (hi : i < nx.length) :
    ∃ ad2 c2, w.cell? ⟨gv, i, none⟩ = some (.slice (some ad2) nx.length c2) ∧ ∀ r, r < nx.length → w.cell? (ad2.add r) = some (.int .u16 ((ball nx i r : Nat) : Int)) := by
  obtain ⟨ad2, c2, h1, _⟩ := balls_row h hi (r := 0) (by omega)
  refine ⟨ad2, c2, h1, fun r hr => ?_⟩
  obtain ⟨ad3, c3, h3, h4⟩ := balls_row h hi hr
  rw [h1] at h3
  injection h3 with h3
  injection h3 with h3
  injection h3 with h3
  subst h3
  exact h4
theorem balls_form {nx : List Nat} (h0 : 0 < nx.length) {w : World} {base : Nat} {ok : Nat → Prop} {v : Value} (h : Kd.S (Kd.slice 81 (Kd.int .u16)) 94 w base ok v ((ballsS nx).map toI)) : ∃ g c, v = .slice (some ⟨g, 0, none⟩) nx.length c := by
  have hbl : ((ballsS nx).map toI).length = nx.length := by simp [ballsS]
  obtain ⟨g, c, hv, _⟩ := Kd.R_form (Kd.S_R h) (by rw [hbl]; exact h0)
  rw [hbl] at hv
  exact ⟨g, c, hv⟩
end Go.Proofs.YtbgpnkchbcgekaaDoor.Fi
