/- The stable sort of the pulls' places: at most 19 of them, by insertion. -/
import Derived.Shelf.SlSortCmp.Insertion
import Derived.Test.YtepgcdjbhmpioaaQTeT4
namespace Go.Proofs.Ytepgcdjbhmpioaa.Fi
open Go.RowKit Go.Shelf Go.Proofs.YtepgcdjbhmpioaaW.PrintWords Go.Proofs.YtepgcdjbhmpioaaW.PrintLast Go.Proofs.YtepgcdjbhmpioaaW.PrintMore
set_option linter.unusedVariables false
set_option linter.unusedSimpArgs false
def insI_ren : Go.Shelf.Ren := ⟨fun | 20 => 81 | n => n, fun | 24 => 3 | 22 => 22 | 3 => 3 | 25 => 81 | 4 => 4 | 0 => 0 | n => n, fun | n => n⟩
theorem insI : Go.Proofs.SlLaysF.n20 Try.prog insI_ren := {
  mixed := by kernel_rfl
  f20 := ⟨Try.f81.name, by decide, Try.func81.trans (congrArg some (by kernel_rfl))⟩
  t0 := Try.underlying0
  a0 := Try.isAgg0
  z0 := Try.sizeOf0
  v0 := Try.zeroValue0
  t3 := Try.underlying3
  a3 := Try.isAgg3
  z3 := Try.sizeOf3
  v3 := Try.zeroValue3
  t4 := Try.underlying4
  a4 := Try.isAgg4
  z4 := Try.sizeOf4
  v4 := Try.zeroValue4
  t22 := Try.underlying22
  a22 := Try.isAgg22
  z22 := Try.sizeOf22
  v22 := Try.zeroValue22
  a24 := Try.isAgg3
  z24 := Try.sizeOf3
  t25 := Try.underlying81
  a25 := Try.isAgg81
  z25 := Try.sizeOf81
  v25 := Try.zeroValue81 }
set_option maxHeartbeats 2000000 in
set_option maxRecDepth 100000 in
theorem stable_calls {α : Type} [Inhabited α] (enc : α → Value) (hO : OneCell enc) (cf : α → α → Int) (g : Nat) (cb : Array Value) (blk cap : Nat) (d : Array α) (w : World)
    (eg : ∀ args w, (callFunc g args).run Try.prog w = .ok (.enter g args) w) (hcmp : CmpReads Try.prog g cb enc cf blk 0 d.size w) (hH : Go.Sort.Holds enc w blk 0 d) (hsz : d.size ≤ 19) :
    Calls Try.prog 61 #[.slice (some ⟨blk, 0, none⟩) d.size cap, .func (.func g) #[] cb] w fun e w' => e = .returned (.tuple #[]) ∧ ∃ n, w' = (Go.Sort.putRow enc w blk 0 (Go.Sort.insertionSort (ltOf cf) d 0 d.size)).drewN n := by
  have hins := Any.insertionSortCmpFunc_one insI enc hO cf g cb blk 0 cap 0 d.size d w eg hcmp hH (Nat.zero_le _) (Nat.le_refl _) (by omega)
  change Calls Try.prog 81 _ _ _ at hins
  have HI := Aside0.mk hins
  clear hins hcmp hH eg
  have e1 : decide ((20 : Int) ≤ (d.size : Int)) = false := decide_eq_false (by omega)
  have e2 : decide ((20 : Int) < (d.size : Int)) = false := decide_eq_false (by omega)
  go_enter Try.func61, Try.ntmps61
  go_wp2_with (first | (go_at_call 81; refine HI.out.mono ?_; rintro e w1 ⟨rfl, n, rfl⟩) | go_in)
  refine wp_loop_rounds 1 ?_
  rw [rounds_succ]
  go_wp2_with (first | (go_at_call 81; refine HI.out.mono ?_; rintro e w1 ⟨rfl, n, rfl⟩) | go_in)
  refine wp_loop_rounds 1 ?_
  rw [rounds_succ]
  go_wp2
  go_end0
  dsimp only
  go_wp2
  go_end0
  exact ⟨rfl, n, rfl⟩
end Go.Proofs.Ytepgcdjbhmpioaa.Fi
