/-
  No cell of these rows narrows 'for every input' (looked for: loops, veiled, ifaces, maps, wideKeys, modest, calm, conditions, laid).
  DERIVED. THE GIVEN ROWS OF THIS SEAT. 15 by the template 'for every input the law returns true; each argument reads behind the call as it read before'; 0 by the template 'total and deterministic' (their statements: YtjkfjnempofihaaTotals.lean).
  GIVEN WITH THE SEED: the statements are not yours to turn. If you find one false, say at which input.
  Laid BY PROGRAM, IN A SANDBOX (cutbox-rows.mjs): the forced cells as the released guide's own fill.sh prints them over the translation 5e8fb631da5d703b… (all of the seat's roots in one cut). By AI agents, Wed Nov 11 2026. No macro, syntax, notation, axiom, sorry.
-/
import Derived.Test.YtjkfjnempofihaaChecked
import GoSem.Claim
import GoSem.ClaimJoined
import GoSem.ClaimMapViews
import Derived.JoinedTies
import Derived.KernelRfl
namespace Go.Proofs.Ytjkfjnempofihaa
/- THE CELL 'sum', in the pinned program and in every row, IS THE sha256 OF THE DUMP (.gsa) THAT YtjkfjnempofihaaProg.lean LOADS. Nothing in Lean hashes anything: it is a label: what it is worth is what the hold of that sum in a sandbox is worth. -/
noncomputable def Try.pinned : Pinned := { name := "ytjkfjnempofihaa", sum := "5e8fb631da5d703b05d604914bf5439e7b507e0b5c7f3e841d0dbec4c24a5c09", checked := Try.checked }
namespace Rows
def none {H : Type} : Left H := { results := [], args := [] }

/-- 'wogglelaw04.PackDuals': WHATEVER THE INPUT: true; the input reads as it did. -/
def packDualsSpec : ChangeSpec := { name := "packDuals", fn := fun _ => fun
  | [d1, d2] => { results := [.lit (.bool true)], args := [d1, d2] }
  | _ => none }
def packDualsRow : OpenClaim := { program := "ytjkfjnempofihaa", sum := "5e8fb631da5d703b05d604914bf5439e7b507e0b5c7f3e841d0dbec4c24a5c09", func := "woggle/wogglelaw04.PackDuals", spec := "packDuals", unfollowed := true, recurses := true, apart := false }
def PackDualsSaid : Prop := packDualsRow.holds Try.pinned (OpenSpec.ofChange packDualsSpec)

/-- ITS FALSE NEIGHBOUR: 'it returns false'. Refute it at one input. -/
def packDualsWrong : ChangeSpec := { name := "packDuals", fn := fun _ => fun
  | [d1, d2] => { results := [.lit (.bool false)], args := [d1, d2] }
  | _ => none }
def PackDualsWrongFalsely : Prop := packDualsRow.holds Try.pinned (OpenSpec.ofChange packDualsWrong)

/-- 'wogglelaw04.PackHilberts': WHATEVER THE INPUT: true; the input reads as it did. -/
def packHilbertsSpec : ChangeSpec := { name := "packHilberts", fn := fun _ => fun
  | [d1, d2] => { results := [.lit (.bool true)], args := [d1, d2] }
  | _ => none }
def packHilbertsRow : OpenClaim := { program := "ytjkfjnempofihaa", sum := "5e8fb631da5d703b05d604914bf5439e7b507e0b5c7f3e841d0dbec4c24a5c09", func := "woggle/wogglelaw04.PackHilberts", spec := "packHilberts", unfollowed := true, recurses := true, apart := false }
def PackHilbertsSaid : Prop := packHilbertsRow.holds Try.pinned (OpenSpec.ofChange packHilbertsSpec)

/-- ITS FALSE NEIGHBOUR: 'it returns false'. Refute it at one input. -/
def packHilbertsWrong : ChangeSpec := { name := "packHilberts", fn := fun _ => fun
  | [d1, d2] => { results := [.lit (.bool false)], args := [d1, d2] }
  | _ => none }
def PackHilbertsWrongFalsely : Prop := packHilbertsRow.holds Try.pinned (OpenSpec.ofChange packHilbertsWrong)

/-- 'wogglelaw04.PackNumerators': WHATEVER THE INPUT: true; the input reads as it did. -/
def packNumeratorsSpec : ChangeSpec := { name := "packNumerators", fn := fun _ => fun
  | [d] => { results := [.lit (.bool true)], args := [d] }
  | _ => none }
def packNumeratorsRow : OpenClaim := { program := "ytjkfjnempofihaa", sum := "5e8fb631da5d703b05d604914bf5439e7b507e0b5c7f3e841d0dbec4c24a5c09", func := "woggle/wogglelaw04.PackNumerators", spec := "packNumerators", unfollowed := true, recurses := true, apart := false }
def PackNumeratorsSaid : Prop := packNumeratorsRow.holds Try.pinned (OpenSpec.ofChange packNumeratorsSpec)

/-- ITS FALSE NEIGHBOUR: 'it returns false'. Refute it at one input. -/
def packNumeratorsWrong : ChangeSpec := { name := "packNumerators", fn := fun _ => fun
  | [d] => { results := [.lit (.bool false)], args := [d] }
  | _ => none }
def PackNumeratorsWrongFalsely : Prop := packNumeratorsRow.holds Try.pinned (OpenSpec.ofChange packNumeratorsWrong)

/-- 'wogglelaw04.PackSeries': WHATEVER THE INPUT: true; the input reads as it did. -/
def packSeriesSpec : ChangeSpec := { name := "packSeries", fn := fun _ => fun
  | [d1, d2, d3] => { results := [.lit (.bool true)], args := [d1, d2, d3] }
  | _ => none }
def packSeriesRow : OpenClaim := { program := "ytjkfjnempofihaa", sum := "5e8fb631da5d703b05d604914bf5439e7b507e0b5c7f3e841d0dbec4c24a5c09", func := "woggle/wogglelaw04.PackSeries", spec := "packSeries", unfollowed := true, recurses := true, apart := false }
def PackSeriesSaid : Prop := packSeriesRow.holds Try.pinned (OpenSpec.ofChange packSeriesSpec)

/-- ITS FALSE NEIGHBOUR: 'it returns false'. Refute it at one input. -/
def packSeriesWrong : ChangeSpec := { name := "packSeries", fn := fun _ => fun
  | [d1, d2, d3] => { results := [.lit (.bool false)], args := [d1, d2, d3] }
  | _ => none }
def PackSeriesWrongFalsely : Prop := packSeriesRow.holds Try.pinned (OpenSpec.ofChange packSeriesWrong)

/-- 'wogglelaw04.PackAlexander': WHATEVER THE INPUT: true; the input reads as it did. -/
def packAlexanderSpec : ChangeSpec := { name := "packAlexander", fn := fun _ => fun
  | [d1, d2, d3] => { results := [.lit (.bool true)], args := [d1, d2, d3] }
  | _ => none }
def packAlexanderRow : OpenClaim := { program := "ytjkfjnempofihaa", sum := "5e8fb631da5d703b05d604914bf5439e7b507e0b5c7f3e841d0dbec4c24a5c09", func := "woggle/wogglelaw04.PackAlexander", spec := "packAlexander", unfollowed := true, recurses := true, apart := false }
def PackAlexanderSaid : Prop := packAlexanderRow.holds Try.pinned (OpenSpec.ofChange packAlexanderSpec)

/-- ITS FALSE NEIGHBOUR: 'it returns false'. Refute it at one input. -/
def packAlexanderWrong : ChangeSpec := { name := "packAlexander", fn := fun _ => fun
  | [d1, d2, d3] => { results := [.lit (.bool false)], args := [d1, d2, d3] }
  | _ => none }
def PackAlexanderWrongFalsely : Prop := packAlexanderRow.holds Try.pinned (OpenSpec.ofChange packAlexanderWrong)

/-- 'wogglelaw04.PackIrreducible': WHATEVER THE INPUT: true; the input reads as it did. -/
def packIrreducibleSpec : ChangeSpec := { name := "packIrreducible", fn := fun _ => fun
  | [d1, d2, d3] => { results := [.lit (.bool true)], args := [d1, d2, d3] }
  | _ => none }
def packIrreducibleRow : OpenClaim := { program := "ytjkfjnempofihaa", sum := "5e8fb631da5d703b05d604914bf5439e7b507e0b5c7f3e841d0dbec4c24a5c09", func := "woggle/wogglelaw04.PackIrreducible", spec := "packIrreducible", unfollowed := true, recurses := true, apart := false }
def PackIrreducibleSaid : Prop := packIrreducibleRow.holds Try.pinned (OpenSpec.ofChange packIrreducibleSpec)

/-- ITS FALSE NEIGHBOUR: 'it returns false'. Refute it at one input. -/
def packIrreducibleWrong : ChangeSpec := { name := "packIrreducible", fn := fun _ => fun
  | [d1, d2, d3] => { results := [.lit (.bool false)], args := [d1, d2, d3] }
  | _ => none }
def PackIrreducibleWrongFalsely : Prop := packIrreducibleRow.holds Try.pinned (OpenSpec.ofChange packIrreducibleWrong)

/-- 'wogglelaw04.PackGenerators': WHATEVER THE INPUT: true; the input reads as it did. -/
def packGeneratorsSpec : ChangeSpec := { name := "packGenerators", fn := fun _ => fun
  | [d1, d2, d3] => { results := [.lit (.bool true)], args := [d1, d2, d3] }
  | _ => none }
def packGeneratorsRow : OpenClaim := { program := "ytjkfjnempofihaa", sum := "5e8fb631da5d703b05d604914bf5439e7b507e0b5c7f3e841d0dbec4c24a5c09", func := "woggle/wogglelaw04.PackGenerators", spec := "packGenerators", unfollowed := true, recurses := true, apart := false }
def PackGeneratorsSaid : Prop := packGeneratorsRow.holds Try.pinned (OpenSpec.ofChange packGeneratorsSpec)

/-- ITS FALSE NEIGHBOUR: 'it returns false'. Refute it at one input. -/
def packGeneratorsWrong : ChangeSpec := { name := "packGenerators", fn := fun _ => fun
  | [d1, d2, d3] => { results := [.lit (.bool false)], args := [d1, d2, d3] }
  | _ => none }
def PackGeneratorsWrongFalsely : Prop := packGeneratorsRow.holds Try.pinned (OpenSpec.ofChange packGeneratorsWrong)

/-- 'wogglelaw04.PackMinimals': WHATEVER THE INPUT: true; the input reads as it did. -/
def packMinimalsSpec : ChangeSpec := { name := "packMinimals", fn := fun _ => fun
  | [d] => { results := [.lit (.bool true)], args := [d] }
  | _ => none }
def packMinimalsRow : OpenClaim := { program := "ytjkfjnempofihaa", sum := "5e8fb631da5d703b05d604914bf5439e7b507e0b5c7f3e841d0dbec4c24a5c09", func := "woggle/wogglelaw04.PackMinimals", spec := "packMinimals", unfollowed := true, recurses := true, apart := false }
def PackMinimalsSaid : Prop := packMinimalsRow.holds Try.pinned (OpenSpec.ofChange packMinimalsSpec)

/-- ITS FALSE NEIGHBOUR: 'it returns false'. Refute it at one input. -/
def packMinimalsWrong : ChangeSpec := { name := "packMinimals", fn := fun _ => fun
  | [d] => { results := [.lit (.bool false)], args := [d] }
  | _ => none }
def PackMinimalsWrongFalsely : Prop := packMinimalsRow.holds Try.pinned (OpenSpec.ofChange packMinimalsWrong)

/-- 'wogglelaw04.PackRadical': WHATEVER THE INPUT: true; the input reads as it did. -/
def packRadicalSpec : ChangeSpec := { name := "packRadical", fn := fun _ => fun
  | [d1, d2, d3] => { results := [.lit (.bool true)], args := [d1, d2, d3] }
  | _ => none }
def packRadicalRow : OpenClaim := { program := "ytjkfjnempofihaa", sum := "5e8fb631da5d703b05d604914bf5439e7b507e0b5c7f3e841d0dbec4c24a5c09", func := "woggle/wogglelaw04.PackRadical", spec := "packRadical", unfollowed := true, recurses := true, apart := false }
def PackRadicalSaid : Prop := packRadicalRow.holds Try.pinned (OpenSpec.ofChange packRadicalSpec)

/-- ITS FALSE NEIGHBOUR: 'it returns false'. Refute it at one input. -/
def packRadicalWrong : ChangeSpec := { name := "packRadical", fn := fun _ => fun
  | [d1, d2, d3] => { results := [.lit (.bool false)], args := [d1, d2, d3] }
  | _ => none }
def PackRadicalWrongFalsely : Prop := packRadicalRow.holds Try.pinned (OpenSpec.ofChange packRadicalWrong)

/-- 'wogglelaw04.PackParts': WHATEVER THE INPUT: true; the input reads as it did. -/
def packPartsSpec : ChangeSpec := { name := "packParts", fn := fun _ => fun
  | [d] => { results := [.lit (.bool true)], args := [d] }
  | _ => none }
def packPartsRow : OpenClaim := { program := "ytjkfjnempofihaa", sum := "5e8fb631da5d703b05d604914bf5439e7b507e0b5c7f3e841d0dbec4c24a5c09", func := "woggle/wogglelaw04.PackParts", spec := "packParts", unfollowed := true, recurses := true, apart := false }
def PackPartsSaid : Prop := packPartsRow.holds Try.pinned (OpenSpec.ofChange packPartsSpec)

/-- ITS FALSE NEIGHBOUR: 'it returns false'. Refute it at one input. -/
def packPartsWrong : ChangeSpec := { name := "packParts", fn := fun _ => fun
  | [d] => { results := [.lit (.bool false)], args := [d] }
  | _ => none }
def PackPartsWrongFalsely : Prop := packPartsRow.holds Try.pinned (OpenSpec.ofChange packPartsWrong)

/-- 'wogglelaw04.PackDimension': WHATEVER THE INPUT: true; the input reads as it did. -/
def packDimensionSpec : ChangeSpec := { name := "packDimension", fn := fun _ => fun
  | [d1, d2] => { results := [.lit (.bool true)], args := [d1, d2] }
  | _ => none }
def packDimensionRow : OpenClaim := { program := "ytjkfjnempofihaa", sum := "5e8fb631da5d703b05d604914bf5439e7b507e0b5c7f3e841d0dbec4c24a5c09", func := "woggle/wogglelaw04.PackDimension", spec := "packDimension", unfollowed := true, recurses := true, apart := false }
def PackDimensionSaid : Prop := packDimensionRow.holds Try.pinned (OpenSpec.ofChange packDimensionSpec)

/-- ITS FALSE NEIGHBOUR: 'it returns false'. Refute it at one input. -/
def packDimensionWrong : ChangeSpec := { name := "packDimension", fn := fun _ => fun
  | [d1, d2] => { results := [.lit (.bool false)], args := [d1, d2] }
  | _ => none }
def PackDimensionWrongFalsely : Prop := packDimensionRow.holds Try.pinned (OpenSpec.ofChange packDimensionWrong)

/-- 'wogglelaw04.PackHas': WHATEVER THE INPUT: true; the input reads as it did. -/
def packHasSpec : ChangeSpec := { name := "packHas", fn := fun _ => fun
  | [d1, d2] => { results := [.lit (.bool true)], args := [d1, d2] }
  | _ => none }
def packHasRow : OpenClaim := { program := "ytjkfjnempofihaa", sum := "5e8fb631da5d703b05d604914bf5439e7b507e0b5c7f3e841d0dbec4c24a5c09", func := "woggle/wogglelaw04.PackHas", spec := "packHas", unfollowed := true, recurses := true, apart := false }
def PackHasSaid : Prop := packHasRow.holds Try.pinned (OpenSpec.ofChange packHasSpec)

/-- ITS FALSE NEIGHBOUR: 'it returns false'. Refute it at one input. -/
def packHasWrong : ChangeSpec := { name := "packHas", fn := fun _ => fun
  | [d1, d2] => { results := [.lit (.bool false)], args := [d1, d2] }
  | _ => none }
def PackHasWrongFalsely : Prop := packHasRow.holds Try.pinned (OpenSpec.ofChange packHasWrong)

/-- 'wogglelaw04.PackQuotient': WHATEVER THE INPUT: true; the input reads as it did. -/
def packQuotientSpec : ChangeSpec := { name := "packQuotient", fn := fun _ => fun
  | [d1, d2, d3] => { results := [.lit (.bool true)], args := [d1, d2, d3] }
  | _ => none }
def packQuotientRow : OpenClaim := { program := "ytjkfjnempofihaa", sum := "5e8fb631da5d703b05d604914bf5439e7b507e0b5c7f3e841d0dbec4c24a5c09", func := "woggle/wogglelaw04.PackQuotient", spec := "packQuotient", unfollowed := true, recurses := true, apart := false }
def PackQuotientSaid : Prop := packQuotientRow.holds Try.pinned (OpenSpec.ofChange packQuotientSpec)

/-- ITS FALSE NEIGHBOUR: 'it returns false'. Refute it at one input. -/
def packQuotientWrong : ChangeSpec := { name := "packQuotient", fn := fun _ => fun
  | [d1, d2, d3] => { results := [.lit (.bool false)], args := [d1, d2, d3] }
  | _ => none }
def PackQuotientWrongFalsely : Prop := packQuotientRow.holds Try.pinned (OpenSpec.ofChange packQuotientWrong)

/-- 'wogglelaw04.PackSets': WHATEVER THE INPUT: true; the input reads as it did. -/
def packSetsSpec : ChangeSpec := { name := "packSets", fn := fun _ => fun
  | [d1, d2] => { results := [.lit (.bool true)], args := [d1, d2] }
  | _ => none }
def packSetsRow : OpenClaim := { program := "ytjkfjnempofihaa", sum := "5e8fb631da5d703b05d604914bf5439e7b507e0b5c7f3e841d0dbec4c24a5c09", func := "woggle/wogglelaw04.PackSets", spec := "packSets", unfollowed := true, recurses := true, apart := false }
def PackSetsSaid : Prop := packSetsRow.holds Try.pinned (OpenSpec.ofChange packSetsSpec)

/-- ITS FALSE NEIGHBOUR: 'it returns false'. Refute it at one input. -/
def packSetsWrong : ChangeSpec := { name := "packSets", fn := fun _ => fun
  | [d1, d2] => { results := [.lit (.bool false)], args := [d1, d2] }
  | _ => none }
def PackSetsWrongFalsely : Prop := packSetsRow.holds Try.pinned (OpenSpec.ofChange packSetsWrong)

/-- 'wogglelaw04.PackUnion': WHATEVER THE INPUT: true; the input reads as it did. -/
def packUnionSpec : ChangeSpec := { name := "packUnion", fn := fun _ => fun
  | [d1, d2, d3] => { results := [.lit (.bool true)], args := [d1, d2, d3] }
  | _ => none }
def packUnionRow : OpenClaim := { program := "ytjkfjnempofihaa", sum := "5e8fb631da5d703b05d604914bf5439e7b507e0b5c7f3e841d0dbec4c24a5c09", func := "woggle/wogglelaw04.PackUnion", spec := "packUnion", unfollowed := true, recurses := true, apart := false }
def PackUnionSaid : Prop := packUnionRow.holds Try.pinned (OpenSpec.ofChange packUnionSpec)

/-- ITS FALSE NEIGHBOUR: 'it returns false'. Refute it at one input. -/
def packUnionWrong : ChangeSpec := { name := "packUnion", fn := fun _ => fun
  | [d1, d2, d3] => { results := [.lit (.bool false)], args := [d1, d2, d3] }
  | _ => none }
def PackUnionWrongFalsely : Prop := packUnionRow.holds Try.pinned (OpenSpec.ofChange packUnionWrong)

/- THE SECOND FORM. 'bulk': how many values and letters a reading holds, each counted each time it is reached (what is shared counts as often as it is met; a slice's spare places count too). A statement '..UptoSaid' is the law's where the arguments, and the package variables that the reading takes, are together of bulk at most 1048576: NARROWER than '..Said'. Prove '..Said' where nothing that the law and all that it calls make is longer than what came in: it says more and counts as full. Else prove '..UptoSaid'. A law counts once. -/
mutual
def uptoBulk {H : Type} : DataW H → Nat
  | .lit (.string bytes) => bytes.length + 1
  | .lit _ => 1
  | .nil => 1
  | .ptr d => uptoBulk d + 1
  | .slice elems spare => uptoBulkAll elems + uptoBulkAll spare + 1
  | .agg parts => uptoBulkAll parts + 1
  | .iface _ d => uptoBulk d + 1
  | .map entries => uptoBulkEntries entries + 1
  | .held _ => 1
def uptoBulkAll {H : Type} : List (DataW H) → Nat
  | [] => 0
  | d :: r => uptoBulk d + uptoBulkAll r
def uptoBulkEntries {H : Type} : List (Lit × DataW H) → Nat
  | [] => 0
  | x :: r => uptoBulkEntry x + uptoBulkEntries r
def uptoBulkEntry {H : Type} : Lit × DataW H → Nat
  | (.string bytes, d) => bytes.length + uptoBulk d + 1
  | (_, d) => uptoBulk d + 1
 end
def uptoSmall : (H : Type) → List (DataW H) → Bool := fun _ ds => decide (uptoBulkAll ds ≤ 1048576)
def OpenSpec.upto (s : _root_.Go.ChangeSpec) : _root_.Go.OpenSpec := { _root_.Go.OpenSpec.ofChange s with cond := some uptoSmall }

/-- 'wogglelaw04.PackDuals', WHERE WHAT IT READS IS OF BULK AT MOST 1048576: true; the input reads as it did. -/
def packDualsUptoRow : OpenClaim := { program := "ytjkfjnempofihaa", sum := "5e8fb631da5d703b05d604914bf5439e7b507e0b5c7f3e841d0dbec4c24a5c09", func := "woggle/wogglelaw04.PackDuals", spec := "packDuals", unfollowed := true, recurses := true, apart := false, narrowed := true }
def PackDualsUptoSaid : Prop := packDualsUptoRow.holds Try.pinned (OpenSpec.upto packDualsSpec)

/-- 'wogglelaw04.PackHilberts', WHERE WHAT IT READS IS OF BULK AT MOST 1048576: true; the input reads as it did. -/
def packHilbertsUptoRow : OpenClaim := { program := "ytjkfjnempofihaa", sum := "5e8fb631da5d703b05d604914bf5439e7b507e0b5c7f3e841d0dbec4c24a5c09", func := "woggle/wogglelaw04.PackHilberts", spec := "packHilberts", unfollowed := true, recurses := true, apart := false, narrowed := true }
def PackHilbertsUptoSaid : Prop := packHilbertsUptoRow.holds Try.pinned (OpenSpec.upto packHilbertsSpec)

/-- 'wogglelaw04.PackNumerators', WHERE WHAT IT READS IS OF BULK AT MOST 1048576: true; the input reads as it did. -/
def packNumeratorsUptoRow : OpenClaim := { program := "ytjkfjnempofihaa", sum := "5e8fb631da5d703b05d604914bf5439e7b507e0b5c7f3e841d0dbec4c24a5c09", func := "woggle/wogglelaw04.PackNumerators", spec := "packNumerators", unfollowed := true, recurses := true, apart := false, narrowed := true }
def PackNumeratorsUptoSaid : Prop := packNumeratorsUptoRow.holds Try.pinned (OpenSpec.upto packNumeratorsSpec)

/-- 'wogglelaw04.PackSeries', WHERE WHAT IT READS IS OF BULK AT MOST 1048576: true; the input reads as it did. -/
def packSeriesUptoRow : OpenClaim := { program := "ytjkfjnempofihaa", sum := "5e8fb631da5d703b05d604914bf5439e7b507e0b5c7f3e841d0dbec4c24a5c09", func := "woggle/wogglelaw04.PackSeries", spec := "packSeries", unfollowed := true, recurses := true, apart := false, narrowed := true }
def PackSeriesUptoSaid : Prop := packSeriesUptoRow.holds Try.pinned (OpenSpec.upto packSeriesSpec)

/-- 'wogglelaw04.PackAlexander', WHERE WHAT IT READS IS OF BULK AT MOST 1048576: true; the input reads as it did. -/
def packAlexanderUptoRow : OpenClaim := { program := "ytjkfjnempofihaa", sum := "5e8fb631da5d703b05d604914bf5439e7b507e0b5c7f3e841d0dbec4c24a5c09", func := "woggle/wogglelaw04.PackAlexander", spec := "packAlexander", unfollowed := true, recurses := true, apart := false, narrowed := true }
def PackAlexanderUptoSaid : Prop := packAlexanderUptoRow.holds Try.pinned (OpenSpec.upto packAlexanderSpec)

/-- 'wogglelaw04.PackIrreducible', WHERE WHAT IT READS IS OF BULK AT MOST 1048576: true; the input reads as it did. -/
def packIrreducibleUptoRow : OpenClaim := { program := "ytjkfjnempofihaa", sum := "5e8fb631da5d703b05d604914bf5439e7b507e0b5c7f3e841d0dbec4c24a5c09", func := "woggle/wogglelaw04.PackIrreducible", spec := "packIrreducible", unfollowed := true, recurses := true, apart := false, narrowed := true }
def PackIrreducibleUptoSaid : Prop := packIrreducibleUptoRow.holds Try.pinned (OpenSpec.upto packIrreducibleSpec)

/-- 'wogglelaw04.PackGenerators', WHERE WHAT IT READS IS OF BULK AT MOST 1048576: true; the input reads as it did. -/
def packGeneratorsUptoRow : OpenClaim := { program := "ytjkfjnempofihaa", sum := "5e8fb631da5d703b05d604914bf5439e7b507e0b5c7f3e841d0dbec4c24a5c09", func := "woggle/wogglelaw04.PackGenerators", spec := "packGenerators", unfollowed := true, recurses := true, apart := false, narrowed := true }
def PackGeneratorsUptoSaid : Prop := packGeneratorsUptoRow.holds Try.pinned (OpenSpec.upto packGeneratorsSpec)

/-- 'wogglelaw04.PackMinimals', WHERE WHAT IT READS IS OF BULK AT MOST 1048576: true; the input reads as it did. -/
def packMinimalsUptoRow : OpenClaim := { program := "ytjkfjnempofihaa", sum := "5e8fb631da5d703b05d604914bf5439e7b507e0b5c7f3e841d0dbec4c24a5c09", func := "woggle/wogglelaw04.PackMinimals", spec := "packMinimals", unfollowed := true, recurses := true, apart := false, narrowed := true }
def PackMinimalsUptoSaid : Prop := packMinimalsUptoRow.holds Try.pinned (OpenSpec.upto packMinimalsSpec)

/-- 'wogglelaw04.PackRadical', WHERE WHAT IT READS IS OF BULK AT MOST 1048576: true; the input reads as it did. -/
def packRadicalUptoRow : OpenClaim := { program := "ytjkfjnempofihaa", sum := "5e8fb631da5d703b05d604914bf5439e7b507e0b5c7f3e841d0dbec4c24a5c09", func := "woggle/wogglelaw04.PackRadical", spec := "packRadical", unfollowed := true, recurses := true, apart := false, narrowed := true }
def PackRadicalUptoSaid : Prop := packRadicalUptoRow.holds Try.pinned (OpenSpec.upto packRadicalSpec)

/-- 'wogglelaw04.PackParts', WHERE WHAT IT READS IS OF BULK AT MOST 1048576: true; the input reads as it did. -/
def packPartsUptoRow : OpenClaim := { program := "ytjkfjnempofihaa", sum := "5e8fb631da5d703b05d604914bf5439e7b507e0b5c7f3e841d0dbec4c24a5c09", func := "woggle/wogglelaw04.PackParts", spec := "packParts", unfollowed := true, recurses := true, apart := false, narrowed := true }
def PackPartsUptoSaid : Prop := packPartsUptoRow.holds Try.pinned (OpenSpec.upto packPartsSpec)

/-- 'wogglelaw04.PackDimension', WHERE WHAT IT READS IS OF BULK AT MOST 1048576: true; the input reads as it did. -/
def packDimensionUptoRow : OpenClaim := { program := "ytjkfjnempofihaa", sum := "5e8fb631da5d703b05d604914bf5439e7b507e0b5c7f3e841d0dbec4c24a5c09", func := "woggle/wogglelaw04.PackDimension", spec := "packDimension", unfollowed := true, recurses := true, apart := false, narrowed := true }
def PackDimensionUptoSaid : Prop := packDimensionUptoRow.holds Try.pinned (OpenSpec.upto packDimensionSpec)

/-- 'wogglelaw04.PackHas', WHERE WHAT IT READS IS OF BULK AT MOST 1048576: true; the input reads as it did. -/
def packHasUptoRow : OpenClaim := { program := "ytjkfjnempofihaa", sum := "5e8fb631da5d703b05d604914bf5439e7b507e0b5c7f3e841d0dbec4c24a5c09", func := "woggle/wogglelaw04.PackHas", spec := "packHas", unfollowed := true, recurses := true, apart := false, narrowed := true }
def PackHasUptoSaid : Prop := packHasUptoRow.holds Try.pinned (OpenSpec.upto packHasSpec)

/-- 'wogglelaw04.PackQuotient', WHERE WHAT IT READS IS OF BULK AT MOST 1048576: true; the input reads as it did. -/
def packQuotientUptoRow : OpenClaim := { program := "ytjkfjnempofihaa", sum := "5e8fb631da5d703b05d604914bf5439e7b507e0b5c7f3e841d0dbec4c24a5c09", func := "woggle/wogglelaw04.PackQuotient", spec := "packQuotient", unfollowed := true, recurses := true, apart := false, narrowed := true }
def PackQuotientUptoSaid : Prop := packQuotientUptoRow.holds Try.pinned (OpenSpec.upto packQuotientSpec)

/-- 'wogglelaw04.PackSets', WHERE WHAT IT READS IS OF BULK AT MOST 1048576: true; the input reads as it did. -/
def packSetsUptoRow : OpenClaim := { program := "ytjkfjnempofihaa", sum := "5e8fb631da5d703b05d604914bf5439e7b507e0b5c7f3e841d0dbec4c24a5c09", func := "woggle/wogglelaw04.PackSets", spec := "packSets", unfollowed := true, recurses := true, apart := false, narrowed := true }
def PackSetsUptoSaid : Prop := packSetsUptoRow.holds Try.pinned (OpenSpec.upto packSetsSpec)

/-- 'wogglelaw04.PackUnion', WHERE WHAT IT READS IS OF BULK AT MOST 1048576: true; the input reads as it did. -/
def packUnionUptoRow : OpenClaim := { program := "ytjkfjnempofihaa", sum := "5e8fb631da5d703b05d604914bf5439e7b507e0b5c7f3e841d0dbec4c24a5c09", func := "woggle/wogglelaw04.PackUnion", spec := "packUnion", unfollowed := true, recurses := true, apart := false, narrowed := true }
def PackUnionUptoSaid : Prop := packUnionUptoRow.holds Try.pinned (OpenSpec.upto packUnionSpec)

end Rows
end Go.Proofs.Ytjkfjnempofihaa
