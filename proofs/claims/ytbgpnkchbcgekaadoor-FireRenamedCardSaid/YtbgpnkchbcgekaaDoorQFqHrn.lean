/- The calls of FireRenamed's inner function: the new name of a vertex. -/
import Derived.Test.YtbgpnkchbcgekaaDoorQFqHk
import Derived.Outline
namespace Go.Proofs.YtbgpnkchbcgekaaDoor.Fi
open Go.RowKit Go.Proofs.YtbgpnkchbcgekaaDoorW.PrintWords Go.Proofs.YtbgpnkchbcgekaaDoorW.PrintLast Go.Proofs.YtbgpnkchbcgekaaDoorW.PrintMore Wog
set_option linter.unusedVariables false
set_option linter.unusedSimpArgs false
/-- The new name of a vertex. -/
def nameR (k x0 x2 : Nat) (v : Nat) : Nat := ((if x2 % 2 = 1 then k - 1 - v else v) + x0) % k
set_option maxHeartbeats 1000000 in
set_option maxRecDepth 100000 in
theorem name_calls (gb gk : Nat) (x0 x1 x2 k v : Nat) (h0 : x0 ≤ 255) (h2 : x2 ≤ 255) (hk : 1 ≤ k) (hk10 : k ≤ 10) (hv : v < k) (w : World) (hb : w.heap[gb]? = some (.cells #[.int .u8 (x0 : Int), .int .u8 (x1 : Int), .int .u8 (x2 : Int)] 39 (0, 0))) (hg : w.heap[gk]? = some (.cells #[.int .i64 (k : Int)] 3 (0, 0))) :
    Calls Tryd.prog 25 #[.int .i64 (v : Int), .pointer (some ⟨gb, 0, none⟩), .pointer (some ⟨gk, 0, none⟩)] w fun e w' => e = .returned (.int .i64 ((nameR k x0 x2 v : Nat) : Int)) ∧ ∃ m, w' = w.drewN m := by
  have c0 : w.cell? ⟨gb, 0, none⟩ = some (.int .u8 (x0 : Int)) := blk_cell hb 0
  have c2 : w.cell? ⟨gb, 2, none⟩ = some (.int .u8 (x2 : Int)) := blk_cell hb 2
  have ck : w.cell? ⟨gk, 0, none⟩ = some (.int .i64 (k : Int)) := blk_cell hg 0
  clear hb hg
  by_cases hq : x2 % 2 = 1
  · go_enter Tryd.func25, Tryd.ntmps25
    go_wp2
    go_ret
    exact ⟨congrArg (fun z => Ending.returned (Value.int .i64 z)) (by simp only [nameR, if_pos hq]; show ((k : Int) - 1 - (v : Int) + (x0 : Int)) % (k : Int) = _; push_cast [show v ≤ k - 1 by omega, show 1 ≤ k by omega]; rfl), 0, rfl⟩
  · go_enter Tryd.func25, Tryd.ntmps25
    go_wp2
    go_ret
    exact ⟨congrArg (fun z => Ending.returned (Value.int .i64 z)) (by simp only [nameR, if_neg hq]; show ((v : Int) + (x0 : Int)) % (k : Int) = _; push_cast; rfl), 0, rfl⟩
end Go.Proofs.YtbgpnkchbcgekaaDoor.Fi
