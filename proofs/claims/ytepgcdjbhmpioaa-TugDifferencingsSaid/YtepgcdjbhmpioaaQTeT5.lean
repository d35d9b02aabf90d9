/- The examples of the document, in plain words. -/
import Derived.Test.YtepgcdjbhmpioaaQTeH5
import Derived.Test.YtepgcdjbhmpioaaQTeH3
import Derived.Test.YtepgcdjbhmpioaaQTeH2
import Derived.Test.YtepgcdjbhmpioaaQTeH4c
namespace Go.Proofs.Ytepgcdjbhmpioaa.Fi
open Go.RowKit Go.Proofs.YtepgcdjbhmpioaaW.PrintWords Go.Proofs.YtepgcdjbhmpioaaW.PrintLast Go.Proofs.YtepgcdjbhmpioaaW.PrintMore
set_option linter.unusedVariables false
theorem lives_split : tug_Split.f [4, 5, 6, 7, 8] = some (0, [0, 0, 0, 1, 1], 0) := by decide +kernel
theorem lives_teams : tug_Teams.f [5, 4, 3, 3, 3] 2 = some (9, [0, 0, 1, 1, 1], 0) := by decide +kernel
theorem lives_greedy : tug_Greedy.f [5, 4, 3, 3, 3] 2 = some (10, [0, 1, 1, 0, 1], 0) := by decide +kernel
/-- There is one order of the items. -/
theorem srtN_is {nd : List Nd} {its l : List Nat} (hp : l.Perm its) (hs : l.Pairwise fun x y => befN nd y x = false) : srtN nd its = l := by
  have h1 : (srtN nd its).Pairwise fun x y => befN nd y x = false := by
    have := List.pairwise_mergeSort (le := fun x y => !befN nd y x) (fun a b c h1 h2 => by
      simp only [Bool.not_eq_true', befN_not] at *
      omega) (fun a b => by
      simp only [Bool.or_eq_true, Bool.not_eq_true', befN_not]
      omega) its
    exact this.imp (fun h => by simpa using h)
  refine List.Perm.eq_of_pairwise (fun a b _ _ h1 h2 => ?_) h1 hs ((srtN_perm nd its).trans hp.symm)
  rw [befN_not] at h1 h2
  omega
theorem stepN_is {nd : List Nd} {its l : List Nat} (hp : l.Perm its) (hs : l.Pairwise fun x y => befN nd y x = false) : stepN (nd, its) = (nd ++ [⟨wth nd (l.getD 0 0) - wth nd (l.getD 1 0), some (l.getD 0 0, l.getD 1 0)⟩], l.drop 2 ++ [nd.length]) := by
  unfold stepN
  rw [srtN_is hp hs]
theorem lives_kk : kkEnd [4, 5, 6, 7, 8] = ([⟨4, none⟩, ⟨5, none⟩, ⟨6, none⟩, ⟨7, none⟩, ⟨8, none⟩, ⟨1, some (4, 3)⟩, ⟨1, some (2, 1)⟩, ⟨3, some (0, 5)⟩, ⟨2, some (7, 6)⟩], [8]) := by
  rw [kkEnd_is]
  have h0 : stepN ([⟨4, none⟩, ⟨5, none⟩, ⟨6, none⟩, ⟨7, none⟩, ⟨8, none⟩], [0, 1, 2, 3, 4]) = ([⟨4, none⟩, ⟨5, none⟩, ⟨6, none⟩, ⟨7, none⟩, ⟨8, none⟩, ⟨1, some (4, 3)⟩], [2, 1, 0, 5]) := (stepN_is (l := [4, 3, 2, 1, 0]) (by decide) (by decide)).trans rfl
  have h1 : stepN ([⟨4, none⟩, ⟨5, none⟩, ⟨6, none⟩, ⟨7, none⟩, ⟨8, none⟩, ⟨1, some (4, 3)⟩], [2, 1, 0, 5]) = ([⟨4, none⟩, ⟨5, none⟩, ⟨6, none⟩, ⟨7, none⟩, ⟨8, none⟩, ⟨1, some (4, 3)⟩, ⟨1, some (2, 1)⟩], [0, 5, 6]) := (stepN_is (l := [2, 1, 0, 5]) (by decide) (by decide)).trans rfl
  have h2 : stepN ([⟨4, none⟩, ⟨5, none⟩, ⟨6, none⟩, ⟨7, none⟩, ⟨8, none⟩, ⟨1, some (4, 3)⟩, ⟨1, some (2, 1)⟩], [0, 5, 6]) = ([⟨4, none⟩, ⟨5, none⟩, ⟨6, none⟩, ⟨7, none⟩, ⟨8, none⟩, ⟨1, some (4, 3)⟩, ⟨1, some (2, 1)⟩, ⟨3, some (0, 5)⟩], [6, 7]) := (stepN_is (l := [0, 5, 6]) (by decide) (by decide)).trans rfl
  have h3 : stepN ([⟨4, none⟩, ⟨5, none⟩, ⟨6, none⟩, ⟨7, none⟩, ⟨8, none⟩, ⟨1, some (4, 3)⟩, ⟨1, some (2, 1)⟩, ⟨3, some (0, 5)⟩], [6, 7]) = ([⟨4, none⟩, ⟨5, none⟩, ⟨6, none⟩, ⟨7, none⟩, ⟨8, none⟩, ⟨1, some (4, 3)⟩, ⟨1, some (2, 1)⟩, ⟨3, some (0, 5)⟩, ⟨2, some (7, 6)⟩], [8]) := (stepN_is (l := [7, 6]) (by decide) (by decide)).trans rfl
  show stepN (stepN (stepN (stepN ([⟨4, none⟩, ⟨5, none⟩, ⟨6, none⟩, ⟨7, none⟩, ⟨8, none⟩], [0, 1, 2, 3, 4])))) = _
  rw [h0, h1, h2, h3]
theorem lives_diff : ∃ s, tug_Differencing.f [4, 5, 6, 7, 8] = some (2, s, 0) := by
  refine ⟨(kkS [4, 5, 6, 7, 8]).2, ?_⟩
  unfold tug_Differencing.f
  rw [if_pos (by decide)]
  have : (kkS [4, 5, 6, 7, 8]).1 = 2 := by unfold kkS; simp only [lives_kk]; rfl
  rw [this]
end Go.Proofs.Ytepgcdjbhmpioaa.Fi
