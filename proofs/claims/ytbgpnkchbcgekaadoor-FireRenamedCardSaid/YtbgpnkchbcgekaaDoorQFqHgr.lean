/- The calls of fire.Greedy. -/
import Derived.Test.YtbgpnkchbcgekaaDoorQFqHtr
import Derived.Test.YtbgpnkchbcgekaaDoorQFqHbu
import Derived.Outline
namespace Go.Proofs.YtbgpnkchbcgekaaDoor.Fi
open Go.RowKit Go.Proofs.YtbgpnkchbcgekaaDoorW.PrintWords Go.Proofs.YtbgpnkchbcgekaaDoorW.PrintLast Go.Proofs.YtbgpnkchbcgekaaDoorW.PrintMore Wog
set_option linter.unusedVariables false
set_option linter.unusedSimpArgs false
/-- The state of a greedy walk: the graph, and the steps so far. -/
structure GI (w0 : World) (g : Nat) (nx : List Nat) (v : Value) (l : List Int) (W : World) : Prop where
  st : IsS105 w0 W g nx.length (toI nx)
  bel : Below w0.heap.size w0 W
  row : Kd.R (Kd.int .i64) 3 W w0.heap.size (fun q => q ≠ g) v l
section
variable {w0 W W1 : World} {g : Nat} {nx : List Nat} {v u : Value} {l m : List Int}
theorem GI.after (h : GI w0 g nx v l W) (k1 : IsS105 w0 W1 g nx.length (toI nx)) (k2 : Below w0.heap.size w0 W1) (k3 : KeepBut W W1 g none) : GI w0 g nx v l W1 :=
  ⟨k1, k2, Kd.R_step h.row (fun q hq hl => k3.2 q hl hq (by simp))⟩
theorem GI.below (h : GI w0 g nx v l W) (k : Below W.heap.size W W1) : GI w0 g nx v l W1 :=
  ⟨h.st.below k, below_then h.bel h.bel.size k, Kd.R_below h.row k⟩
theorem GI.drewN (h : GI w0 g nx v l W) (n : Nat) : GI w0 g nx v l (W.drewN n) := h.below (pw_below_drewN (Below.refl _ _) n)
theorem GI.nil (k1 : IsS105 w0 W g nx.length (toI nx)) (k2 : Below w0.heap.size w0 W) : GI w0 g nx (.slice none 0 0) [] W := ⟨k1, k2, Kd.R_nil _ _ _ _ _⟩
theorem GI.grown (h : GI w0 g nx v l W) (hv : Kd.R (Kd.int .i64) 3 W1 w0.heap.size (fun q => q ≠ g) u m) (hg : W.grownBy W1 v.ownBlock) (hb : Below w0.heap.size w0 W1) : GI w0 g nx u m W1 := by
  obtain ⟨A1, c1, h3, h4, h5⟩ := h.st
  exact ⟨⟨A1, c1, blk_grown h3 hg (Kd.R_ne h.row h3 (by decide)), h4, h5⟩, hb, hv⟩
end
end Go.Proofs.YtbgpnkchbcgekaaDoor.Fi
