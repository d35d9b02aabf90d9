/-
  No cell of these rows narrows 'for every input' (looked for: loops, veiled, ifaces, maps, wideKeys, modest, calm, conditions, laid).
  DERIVED. THE GIVEN ROWS OF THIS SEAT. 14 by the template 'for every input the law returns true; each argument reads behind the call as it read before'; 0 by the template 'total and deterministic' (their statements: YtepgcdjbhmpioaaTotals.lean).
  GIVEN WITH THE SEED: the statements are not yours to turn. If you find one false, say at which input.
  Laid BY PROGRAM, IN A SANDBOX (cutbox-rows.mjs): the forced cells as the released guide's own fill.sh prints them over the translation 27b01911fe422332… (all of the seat's roots in one cut). By AI agents, Wed Nov 11 2026. No macro, syntax, notation, axiom, sorry.
-/
import Derived.Test.YtepgcdjbhmpioaaChecked
import GoSem.Claim
import GoSem.ClaimJoined
import GoSem.ClaimMapViews
import Derived.JoinedTies
import Derived.KernelRfl
namespace Go.Proofs.Ytepgcdjbhmpioaa
/- THE CELL 'sum', in the pinned program and in every row, IS THE sha256 OF THE DUMP (.gsa) THAT YtepgcdjbhmpioaaProg.lean LOADS. Nothing in Lean hashes anything: it is a label: what it is worth is what the hold of that sum in a sandbox is worth. -/
noncomputable def Try.pinned : Pinned := { name := "ytepgcdjbhmpioaa", sum := "27b01911fe422332f56d384c2baa2e6b48dbde0fa641c682dd9050310011c71a", checked := Try.checked }
namespace Rows
def none {H : Type} : Left H := { results := [], args := [] }

/-- 'wogglelaw05.TugDifferencings': WHATEVER THE INPUT: true; the input reads as it did. -/
def tugDifferencingsSpec : ChangeSpec := { name := "tugDifferencings", fn := fun _ => fun
  | [d] => { results := [.lit (.bool true)], args := [d] }
  | _ => none }
def tugDifferencingsRow : OpenClaim := { program := "ytepgcdjbhmpioaa", sum := "27b01911fe422332f56d384c2baa2e6b48dbde0fa641c682dd9050310011c71a", func := "woggle/wogglelaw05.TugDifferencings", spec := "tugDifferencings", unfollowed := true, recurses := true, apart := false }
def TugDifferencingsSaid : Prop := tugDifferencingsRow.holds Try.pinned (OpenSpec.ofChange tugDifferencingsSpec)

/-- ITS FALSE NEIGHBOUR: 'it returns false'. Refute it at one input. -/
def tugDifferencingsWrong : ChangeSpec := { name := "tugDifferencings", fn := fun _ => fun
  | [d] => { results := [.lit (.bool false)], args := [d] }
  | _ => none }
def TugDifferencingsWrongFalsely : Prop := tugDifferencingsRow.holds Try.pinned (OpenSpec.ofChange tugDifferencingsWrong)

/-- 'wogglelaw05.TugTeams': WHATEVER THE INPUT: true; the input reads as it did. -/
def tugTeamsSpec : ChangeSpec := { name := "tugTeams", fn := fun _ => fun
  | [d1, d2] => { results := [.lit (.bool true)], args := [d1, d2] }
  | _ => none }
def tugTeamsRow : OpenClaim := { program := "ytepgcdjbhmpioaa", sum := "27b01911fe422332f56d384c2baa2e6b48dbde0fa641c682dd9050310011c71a", func := "woggle/wogglelaw05.TugTeams", spec := "tugTeams", unfollowed := true, recurses := true, apart := false }
def TugTeamsSaid : Prop := tugTeamsRow.holds Try.pinned (OpenSpec.ofChange tugTeamsSpec)

/-- ITS FALSE NEIGHBOUR: 'it returns false'. Refute it at one input. -/
def tugTeamsWrong : ChangeSpec := { name := "tugTeams", fn := fun _ => fun
  | [d1, d2] => { results := [.lit (.bool false)], args := [d1, d2] }
  | _ => none }
def TugTeamsWrongFalsely : Prop := tugTeamsRow.holds Try.pinned (OpenSpec.ofChange tugTeamsWrong)

/-- 'wogglelaw05.TugSides': WHATEVER THE INPUT: true; the input reads as it did. -/
def tugSidesSpec : ChangeSpec := { name := "tugSides", fn := fun _ => fun
  | [d] => { results := [.lit (.bool true)], args := [d] }
  | _ => none }
def tugSidesRow : OpenClaim := { program := "ytepgcdjbhmpioaa", sum := "27b01911fe422332f56d384c2baa2e6b48dbde0fa641c682dd9050310011c71a", func := "woggle/wogglelaw05.TugSides", spec := "tugSides", unfollowed := true, recurses := true, apart := false }
def TugSidesSaid : Prop := tugSidesRow.holds Try.pinned (OpenSpec.ofChange tugSidesSpec)

/-- ITS FALSE NEIGHBOUR: 'it returns false'. Refute it at one input. -/
def tugSidesWrong : ChangeSpec := { name := "tugSides", fn := fun _ => fun
  | [d] => { results := [.lit (.bool false)], args := [d] }
  | _ => none }
def TugSidesWrongFalsely : Prop := tugSidesRow.holds Try.pinned (OpenSpec.ofChange tugSidesWrong)

/-- 'wogglelaw05.TugTwo': WHATEVER THE INPUT: true; the input reads as it did. -/
def tugTwoSpec : ChangeSpec := { name := "tugTwo", fn := fun _ => fun
  | [d] => { results := [.lit (.bool true)], args := [d] }
  | _ => none }
def tugTwoRow : OpenClaim := { program := "ytepgcdjbhmpioaa", sum := "27b01911fe422332f56d384c2baa2e6b48dbde0fa641c682dd9050310011c71a", func := "woggle/wogglelaw05.TugTwo", spec := "tugTwo", unfollowed := true, recurses := true, apart := false }
def TugTwoSaid : Prop := tugTwoRow.holds Try.pinned (OpenSpec.ofChange tugTwoSpec)

/-- ITS FALSE NEIGHBOUR: 'it returns false'. Refute it at one input. -/
def tugTwoWrong : ChangeSpec := { name := "tugTwo", fn := fun _ => fun
  | [d] => { results := [.lit (.bool false)], args := [d] }
  | _ => none }
def TugTwoWrongFalsely : Prop := tugTwoRow.holds Try.pinned (OpenSpec.ofChange tugTwoWrong)

/-- 'wogglelaw05.TugMore': WHATEVER THE INPUT: true; the input reads as it did. -/
def tugMoreSpec : ChangeSpec := { name := "tugMore", fn := fun _ => fun
  | [d1, d2, d3] => { results := [.lit (.bool true)], args := [d1, d2, d3] }
  | _ => none }
def tugMoreRow : OpenClaim := { program := "ytepgcdjbhmpioaa", sum := "27b01911fe422332f56d384c2baa2e6b48dbde0fa641c682dd9050310011c71a", func := "woggle/wogglelaw05.TugMore", spec := "tugMore", unfollowed := true, recurses := true, apart := false }
def TugMoreSaid : Prop := tugMoreRow.holds Try.pinned (OpenSpec.ofChange tugMoreSpec)

/-- ITS FALSE NEIGHBOUR: 'it returns false'. Refute it at one input. -/
def tugMoreWrong : ChangeSpec := { name := "tugMore", fn := fun _ => fun
  | [d1, d2, d3] => { results := [.lit (.bool false)], args := [d1, d2, d3] }
  | _ => none }
def TugMoreWrongFalsely : Prop := tugMoreRow.holds Try.pinned (OpenSpec.ofChange tugMoreWrong)

/-- 'wogglelaw05.TugDifferences': WHATEVER THE INPUT: true; the input reads as it did. -/
def tugDifferencesSpec : ChangeSpec := { name := "tugDifferences", fn := fun _ => fun
  | [d1, d2] => { results := [.lit (.bool true)], args := [d1, d2] }
  | _ => none }
def tugDifferencesRow : OpenClaim := { program := "ytepgcdjbhmpioaa", sum := "27b01911fe422332f56d384c2baa2e6b48dbde0fa641c682dd9050310011c71a", func := "woggle/wogglelaw05.TugDifferences", spec := "tugDifferences", unfollowed := true, recurses := true, apart := false }
def TugDifferencesSaid : Prop := tugDifferencesRow.holds Try.pinned (OpenSpec.ofChange tugDifferencesSpec)

/-- ITS FALSE NEIGHBOUR: 'it returns false'. Refute it at one input. -/
def tugDifferencesWrong : ChangeSpec := { name := "tugDifferences", fn := fun _ => fun
  | [d1, d2] => { results := [.lit (.bool false)], args := [d1, d2] }
  | _ => none }
def TugDifferencesWrongFalsely : Prop := tugDifferencesRow.holds Try.pinned (OpenSpec.ofChange tugDifferencesWrong)

/-- 'wogglelaw05.TugSplits': WHATEVER THE INPUT: true; the input reads as it did. -/
def tugSplitsSpec : ChangeSpec := { name := "tugSplits", fn := fun _ => fun
  | [d] => { results := [.lit (.bool true)], args := [d] }
  | _ => none }
def tugSplitsRow : OpenClaim := { program := "ytepgcdjbhmpioaa", sum := "27b01911fe422332f56d384c2baa2e6b48dbde0fa641c682dd9050310011c71a", func := "woggle/wogglelaw05.TugSplits", spec := "tugSplits", unfollowed := true, recurses := true, apart := false }
def TugSplitsSaid : Prop := tugSplitsRow.holds Try.pinned (OpenSpec.ofChange tugSplitsSpec)

/-- ITS FALSE NEIGHBOUR: 'it returns false'. Refute it at one input. -/
def tugSplitsWrong : ChangeSpec := { name := "tugSplits", fn := fun _ => fun
  | [d] => { results := [.lit (.bool false)], args := [d] }
  | _ => none }
def TugSplitsWrongFalsely : Prop := tugSplitsRow.holds Try.pinned (OpenSpec.ofChange tugSplitsWrong)

/-- 'wogglelaw05.TugLeast': WHATEVER THE INPUT: true; the input reads as it did. -/
def tugLeastSpec : ChangeSpec := { name := "tugLeast", fn := fun _ => fun
  | [d1, d2] => { results := [.lit (.bool true)], args := [d1, d2] }
  | _ => none }
def tugLeastRow : OpenClaim := { program := "ytepgcdjbhmpioaa", sum := "27b01911fe422332f56d384c2baa2e6b48dbde0fa641c682dd9050310011c71a", func := "woggle/wogglelaw05.TugLeast", spec := "tugLeast", unfollowed := true, recurses := true, apart := false }
def TugLeastSaid : Prop := tugLeastRow.holds Try.pinned (OpenSpec.ofChange tugLeastSpec)

/-- ITS FALSE NEIGHBOUR: 'it returns false'. Refute it at one input. -/
def tugLeastWrong : ChangeSpec := { name := "tugLeast", fn := fun _ => fun
  | [d1, d2] => { results := [.lit (.bool false)], args := [d1, d2] }
  | _ => none }
def TugLeastWrongFalsely : Prop := tugLeastRow.holds Try.pinned (OpenSpec.ofChange tugLeastWrong)

/-- 'wogglelaw05.TugSized': WHATEVER THE INPUT: true; the input reads as it did. -/
def tugSizedSpec : ChangeSpec := { name := "tugSized", fn := fun _ => fun
  | [d1, d2, d3] => { results := [.lit (.bool true)], args := [d1, d2, d3] }
  | _ => none }
def tugSizedRow : OpenClaim := { program := "ytepgcdjbhmpioaa", sum := "27b01911fe422332f56d384c2baa2e6b48dbde0fa641c682dd9050310011c71a", func := "woggle/wogglelaw05.TugSized", spec := "tugSized", unfollowed := true, recurses := true, apart := false }
def TugSizedSaid : Prop := tugSizedRow.holds Try.pinned (OpenSpec.ofChange tugSizedSpec)

/-- ITS FALSE NEIGHBOUR: 'it returns false'. Refute it at one input. -/
def tugSizedWrong : ChangeSpec := { name := "tugSized", fn := fun _ => fun
  | [d1, d2, d3] => { results := [.lit (.bool false)], args := [d1, d2, d3] }
  | _ => none }
def TugSizedWrongFalsely : Prop := tugSizedRow.holds Try.pinned (OpenSpec.ofChange tugSizedWrong)

/-- 'wogglelaw05.TugOrder': WHATEVER THE INPUT: true; the input reads as it did. -/
def tugOrderSpec : ChangeSpec := { name := "tugOrder", fn := fun _ => fun
  | [d1, d2, d3] => { results := [.lit (.bool true)], args := [d1, d2, d3] }
  | _ => none }
def tugOrderRow : OpenClaim := { program := "ytepgcdjbhmpioaa", sum := "27b01911fe422332f56d384c2baa2e6b48dbde0fa641c682dd9050310011c71a", func := "woggle/wogglelaw05.TugOrder", spec := "tugOrder", unfollowed := true, recurses := true, apart := false }
def TugOrderSaid : Prop := tugOrderRow.holds Try.pinned (OpenSpec.ofChange tugOrderSpec)

/-- ITS FALSE NEIGHBOUR: 'it returns false'. Refute it at one input. -/
def tugOrderWrong : ChangeSpec := { name := "tugOrder", fn := fun _ => fun
  | [d1, d2, d3] => { results := [.lit (.bool false)], args := [d1, d2, d3] }
  | _ => none }
def TugOrderWrongFalsely : Prop := tugOrderRow.holds Try.pinned (OpenSpec.ofChange tugOrderWrong)

/-- 'wogglelaw05.TugWays': WHATEVER THE INPUT: true; the input reads as it did. -/
def tugWaysSpec : ChangeSpec := { name := "tugWays", fn := fun _ => fun
  | [d1, d2] => { results := [.lit (.bool true)], args := [d1, d2] }
  | _ => none }
def tugWaysRow : OpenClaim := { program := "ytepgcdjbhmpioaa", sum := "27b01911fe422332f56d384c2baa2e6b48dbde0fa641c682dd9050310011c71a", func := "woggle/wogglelaw05.TugWays", spec := "tugWays", unfollowed := true, recurses := true, apart := false }
def TugWaysSaid : Prop := tugWaysRow.holds Try.pinned (OpenSpec.ofChange tugWaysSpec)

/-- ITS FALSE NEIGHBOUR: 'it returns false'. Refute it at one input. -/
def tugWaysWrong : ChangeSpec := { name := "tugWays", fn := fun _ => fun
  | [d1, d2] => { results := [.lit (.bool false)], args := [d1, d2] }
  | _ => none }
def TugWaysWrongFalsely : Prop := tugWaysRow.holds Try.pinned (OpenSpec.ofChange tugWaysWrong)

/-- 'wogglelaw05.TugParity': WHATEVER THE INPUT: true; the input reads as it did. -/
def tugParitySpec : ChangeSpec := { name := "tugParity", fn := fun _ => fun
  | [d] => { results := [.lit (.bool true)], args := [d] }
  | _ => none }
def tugParityRow : OpenClaim := { program := "ytepgcdjbhmpioaa", sum := "27b01911fe422332f56d384c2baa2e6b48dbde0fa641c682dd9050310011c71a", func := "woggle/wogglelaw05.TugParity", spec := "tugParity", unfollowed := true, recurses := true, apart := false }
def TugParitySaid : Prop := tugParityRow.holds Try.pinned (OpenSpec.ofChange tugParitySpec)

/-- ITS FALSE NEIGHBOUR: 'it returns false'. Refute it at one input. -/
def tugParityWrong : ChangeSpec := { name := "tugParity", fn := fun _ => fun
  | [d] => { results := [.lit (.bool false)], args := [d] }
  | _ => none }
def TugParityWrongFalsely : Prop := tugParityRow.holds Try.pinned (OpenSpec.ofChange tugParityWrong)

/-- 'wogglelaw05.TugGreedies': WHATEVER THE INPUT: true; the input reads as it did. -/
def tugGreediesSpec : ChangeSpec := { name := "tugGreedies", fn := fun _ => fun
  | [d1, d2] => { results := [.lit (.bool true)], args := [d1, d2] }
  | _ => none }
def tugGreediesRow : OpenClaim := { program := "ytepgcdjbhmpioaa", sum := "27b01911fe422332f56d384c2baa2e6b48dbde0fa641c682dd9050310011c71a", func := "woggle/wogglelaw05.TugGreedies", spec := "tugGreedies", unfollowed := true, recurses := true, apart := false }
def TugGreediesSaid : Prop := tugGreediesRow.holds Try.pinned (OpenSpec.ofChange tugGreediesSpec)

/-- ITS FALSE NEIGHBOUR: 'it returns false'. Refute it at one input. -/
def tugGreediesWrong : ChangeSpec := { name := "tugGreedies", fn := fun _ => fun
  | [d1, d2] => { results := [.lit (.bool false)], args := [d1, d2] }
  | _ => none }
def TugGreediesWrongFalsely : Prop := tugGreediesRow.holds Try.pinned (OpenSpec.ofChange tugGreediesWrong)

/-- 'wogglelaw05.TugGraham': WHATEVER THE INPUT: true; the input reads as it did. -/
def tugGrahamSpec : ChangeSpec := { name := "tugGraham", fn := fun _ => fun
  | [d1, d2] => { results := [.lit (.bool true)], args := [d1, d2] }
  | _ => none }
def tugGrahamRow : OpenClaim := { program := "ytepgcdjbhmpioaa", sum := "27b01911fe422332f56d384c2baa2e6b48dbde0fa641c682dd9050310011c71a", func := "woggle/wogglelaw05.TugGraham", spec := "tugGraham", unfollowed := true, recurses := true, apart := false }
def TugGrahamSaid : Prop := tugGrahamRow.holds Try.pinned (OpenSpec.ofChange tugGrahamSpec)

/-- ITS FALSE NEIGHBOUR: 'it returns false'. Refute it at one input. -/
def tugGrahamWrong : ChangeSpec := { name := "tugGraham", fn := fun _ => fun
  | [d1, d2] => { results := [.lit (.bool false)], args := [d1, d2] }
  | _ => none }
def TugGrahamWrongFalsely : Prop := tugGrahamRow.holds Try.pinned (OpenSpec.ofChange tugGrahamWrong)

/- THE SECOND FORM. 'bulk': how many values and letters a reading holds, each counted each time it is reached (what is shared counts as often as it is met; a slice's spare places count too). A statement '..UptoSaid' is the law's where the arguments, and the package variables that the reading takes, are together of bulk at most 1048576: NARROWER than '..Said'. Prove '..Said' where nothing that the law and all that it calls make is longer than what came in: it says more and counts as full. Else prove '..UptoSaid'. A law counts once. -/
mutual
def uptoBulk {H : Type} : DataW H → Nat
  | .lit (.string bytes) => bytes.length + 1
  | .lit _ => 1
  | .nil => 1
  | .ptr d => uptoBulk d + 1
  | .slice elems spare => uptoBulkAll elems + uptoBulkAll spare + 1
  | .agg parts => uptoBulkAll parts + 1
  | .iface _ d => uptoBulk d + 1
  | .map entries => uptoBulkEntries entries + 1
  | .held _ => 1
def uptoBulkAll {H : Type} : List (DataW H) → Nat
  | [] => 0
  | d :: r => uptoBulk d + uptoBulkAll r
def uptoBulkEntries {H : Type} : List (Lit × DataW H) → Nat
  | [] => 0
  | x :: r => uptoBulkEntry x + uptoBulkEntries r
def uptoBulkEntry {H : Type} : Lit × DataW H → Nat
  | (.string bytes, d) => bytes.length + uptoBulk d + 1
  | (_, d) => uptoBulk d + 1
 end
def uptoSmall : (H : Type) → List (DataW H) → Bool := fun _ ds => decide (uptoBulkAll ds ≤ 1048576)
def OpenSpec.upto (s : _root_.Go.ChangeSpec) : _root_.Go.OpenSpec := { _root_.Go.OpenSpec.ofChange s with cond := some uptoSmall }

/-- 'wogglelaw05.TugDifferencings', WHERE WHAT IT READS IS OF BULK AT MOST 1048576: true; the input reads as it did. -/
def tugDifferencingsUptoRow : OpenClaim := { program := "ytepgcdjbhmpioaa", sum := "27b01911fe422332f56d384c2baa2e6b48dbde0fa641c682dd9050310011c71a", func := "woggle/wogglelaw05.TugDifferencings", spec := "tugDifferencings", unfollowed := true, recurses := true, apart := false, narrowed := true }
def TugDifferencingsUptoSaid : Prop := tugDifferencingsUptoRow.holds Try.pinned (OpenSpec.upto tugDifferencingsSpec)

/-- 'wogglelaw05.TugTeams', WHERE WHAT IT READS IS OF BULK AT MOST 1048576: true; the input reads as it did. -/
def tugTeamsUptoRow : OpenClaim := { program := "ytepgcdjbhmpioaa", sum := "27b01911fe422332f56d384c2baa2e6b48dbde0fa641c682dd9050310011c71a", func := "woggle/wogglelaw05.TugTeams", spec := "tugTeams", unfollowed := true, recurses := true, apart := false, narrowed := true }
def TugTeamsUptoSaid : Prop := tugTeamsUptoRow.holds Try.pinned (OpenSpec.upto tugTeamsSpec)

/-- 'wogglelaw05.TugSides', WHERE WHAT IT READS IS OF BULK AT MOST 1048576: true; the input reads as it did. -/
def tugSidesUptoRow : OpenClaim := { program := "ytepgcdjbhmpioaa", sum := "27b01911fe422332f56d384c2baa2e6b48dbde0fa641c682dd9050310011c71a", func := "woggle/wogglelaw05.TugSides", spec := "tugSides", unfollowed := true, recurses := true, apart := false, narrowed := true }
def TugSidesUptoSaid : Prop := tugSidesUptoRow.holds Try.pinned (OpenSpec.upto tugSidesSpec)

/-- 'wogglelaw05.TugTwo', WHERE WHAT IT READS IS OF BULK AT MOST 1048576: true; the input reads as it did. -/
def tugTwoUptoRow : OpenClaim := { program := "ytepgcdjbhmpioaa", sum := "27b01911fe422332f56d384c2baa2e6b48dbde0fa641c682dd9050310011c71a", func := "woggle/wogglelaw05.TugTwo", spec := "tugTwo", unfollowed := true, recurses := true, apart := false, narrowed := true }
def TugTwoUptoSaid : Prop := tugTwoUptoRow.holds Try.pinned (OpenSpec.upto tugTwoSpec)

/-- 'wogglelaw05.TugMore', WHERE WHAT IT READS IS OF BULK AT MOST 1048576: true; the input reads as it did. -/
def tugMoreUptoRow : OpenClaim := { program := "ytepgcdjbhmpioaa", sum := "27b01911fe422332f56d384c2baa2e6b48dbde0fa641c682dd9050310011c71a", func := "woggle/wogglelaw05.TugMore", spec := "tugMore", unfollowed := true, recurses := true, apart := false, narrowed := true }
def TugMoreUptoSaid : Prop := tugMoreUptoRow.holds Try.pinned (OpenSpec.upto tugMoreSpec)

/-- 'wogglelaw05.TugDifferences', WHERE WHAT IT READS IS OF BULK AT MOST 1048576: true; the input reads as it did. -/
def tugDifferencesUptoRow : OpenClaim := { program := "ytepgcdjbhmpioaa", sum := "27b01911fe422332f56d384c2baa2e6b48dbde0fa641c682dd9050310011c71a", func := "woggle/wogglelaw05.TugDifferences", spec := "tugDifferences", unfollowed := true, recurses := true, apart := false, narrowed := true }
def TugDifferencesUptoSaid : Prop := tugDifferencesUptoRow.holds Try.pinned (OpenSpec.upto tugDifferencesSpec)

/-- 'wogglelaw05.TugSplits', WHERE WHAT IT READS IS OF BULK AT MOST 1048576: true; the input reads as it did. -/
def tugSplitsUptoRow : OpenClaim := { program := "ytepgcdjbhmpioaa", sum := "27b01911fe422332f56d384c2baa2e6b48dbde0fa641c682dd9050310011c71a", func := "woggle/wogglelaw05.TugSplits", spec := "tugSplits", unfollowed := true, recurses := true, apart := false, narrowed := true }
def TugSplitsUptoSaid : Prop := tugSplitsUptoRow.holds Try.pinned (OpenSpec.upto tugSplitsSpec)

/-- 'wogglelaw05.TugLeast', WHERE WHAT IT READS IS OF BULK AT MOST 1048576: true; the input reads as it did. -/
def tugLeastUptoRow : OpenClaim := { program := "ytepgcdjbhmpioaa", sum := "27b01911fe422332f56d384c2baa2e6b48dbde0fa641c682dd9050310011c71a", func := "woggle/wogglelaw05.TugLeast", spec := "tugLeast", unfollowed := true, recurses := true, apart := false, narrowed := true }
def TugLeastUptoSaid : Prop := tugLeastUptoRow.holds Try.pinned (OpenSpec.upto tugLeastSpec)

/-- 'wogglelaw05.TugSized', WHERE WHAT IT READS IS OF BULK AT MOST 1048576: true; the input reads as it did. -/
def tugSizedUptoRow : OpenClaim := { program := "ytepgcdjbhmpioaa", sum := "27b01911fe422332f56d384c2baa2e6b48dbde0fa641c682dd9050310011c71a", func := "woggle/wogglelaw05.TugSized", spec := "tugSized", unfollowed := true, recurses := true, apart := false, narrowed := true }
def TugSizedUptoSaid : Prop := tugSizedUptoRow.holds Try.pinned (OpenSpec.upto tugSizedSpec)

/-- 'wogglelaw05.TugOrder', WHERE WHAT IT READS IS OF BULK AT MOST 1048576: true; the input reads as it did. -/
def tugOrderUptoRow : OpenClaim := { program := "ytepgcdjbhmpioaa", sum := "27b01911fe422332f56d384c2baa2e6b48dbde0fa641c682dd9050310011c71a", func := "woggle/wogglelaw05.TugOrder", spec := "tugOrder", unfollowed := true, recurses := true, apart := false, narrowed := true }
def TugOrderUptoSaid : Prop := tugOrderUptoRow.holds Try.pinned (OpenSpec.upto tugOrderSpec)

/-- 'wogglelaw05.TugWays', WHERE WHAT IT READS IS OF BULK AT MOST 1048576: true; the input reads as it did. -/
def tugWaysUptoRow : OpenClaim := { program := "ytepgcdjbhmpioaa", sum := "27b01911fe422332f56d384c2baa2e6b48dbde0fa641c682dd9050310011c71a", func := "woggle/wogglelaw05.TugWays", spec := "tugWays", unfollowed := true, recurses := true, apart := false, narrowed := true }
def TugWaysUptoSaid : Prop := tugWaysUptoRow.holds Try.pinned (OpenSpec.upto tugWaysSpec)

/-- 'wogglelaw05.TugParity', WHERE WHAT IT READS IS OF BULK AT MOST 1048576: true; the input reads as it did. -/
def tugParityUptoRow : OpenClaim := { program := "ytepgcdjbhmpioaa", sum := "27b01911fe422332f56d384c2baa2e6b48dbde0fa641c682dd9050310011c71a", func := "woggle/wogglelaw05.TugParity", spec := "tugParity", unfollowed := true, recurses := true, apart := false, narrowed := true }
def TugParityUptoSaid : Prop := tugParityUptoRow.holds Try.pinned (OpenSpec.upto tugParitySpec)

/-- 'wogglelaw05.TugGreedies', WHERE WHAT IT READS IS OF BULK AT MOST 1048576: true; the input reads as it did. -/
def tugGreediesUptoRow : OpenClaim := { program := "ytepgcdjbhmpioaa", sum := "27b01911fe422332f56d384c2baa2e6b48dbde0fa641c682dd9050310011c71a", func := "woggle/wogglelaw05.TugGreedies", spec := "tugGreedies", unfollowed := true, recurses := true, apart := false, narrowed := true }
def TugGreediesUptoSaid : Prop := tugGreediesUptoRow.holds Try.pinned (OpenSpec.upto tugGreediesSpec)

/-- 'wogglelaw05.TugGraham', WHERE WHAT IT READS IS OF BULK AT MOST 1048576: true; the input reads as it did. -/
def tugGrahamUptoRow : OpenClaim := { program := "ytepgcdjbhmpioaa", sum := "27b01911fe422332f56d384c2baa2e6b48dbde0fa641c682dd9050310011c71a", func := "woggle/wogglelaw05.TugGraham", spec := "tugGraham", unfollowed := true, recurses := true, apart := false, narrowed := true }
def TugGrahamUptoSaid : Prop := tugGrahamUptoRow.holds Try.pinned (OpenSpec.upto tugGrahamSpec)

end Rows
end Go.Proofs.Ytepgcdjbhmpioaa
