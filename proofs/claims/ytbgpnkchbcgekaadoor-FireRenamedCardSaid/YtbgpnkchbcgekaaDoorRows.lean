/-
  NARROWER THAN 'FOR EVERY INPUT', by the rows' own cells (each row's printed sentence says how): FireBests: laid · FireEdges: laid · FireRenamed: laid · FireComponents: laid · FirePlays: laid · FireSaves: laid · FireBurnings: laid · FireRadius: laid · FirePaths: laid · FireGreedies: laid · FireBurns: laid · FireShortest: laid · FireHalf: laid.
  DERIVED. THE GIVEN ROWS OF THIS SEAT. 13 by the template 'for every input the law returns true; each argument reads behind the call as it read before'; 0 by the template 'total and deterministic' (their statements: YtbgpnkchbcgekaaDoorTotals.lean).
  GIVEN WITH THE SEED: the statements are not yours to turn. If you find one false, say at which input.
  Laid BY PROGRAM, IN A SANDBOX (cutbox-rows.mjs): the forced cells as the released guide's own fill.sh prints them over the translation 5d7e3b4cc658b07a… (all of the seat's roots in one cut). By AI agents, Wed Nov 11 2026. No macro, syntax, notation, axiom, sorry.
-/
import Derived.Test.YtbgpnkchbcgekaaDoorChecked
import GoSem.Claim
import GoSem.ClaimJoined
import GoSem.ClaimMapViews
import Derived.JoinedTies
import Derived.KernelRfl
namespace Go.Proofs.YtbgpnkchbcgekaaDoor
/- THE CELL 'sum', in the pinned program and in every row, IS THE sha256 OF THE DUMP (.gsa) THAT YtbgpnkchbcgekaaDoorProg.lean LOADS. Nothing in Lean hashes anything: it is a label: what it is worth is what the hold of that sum in a sandbox is worth. -/
noncomputable def Tryd.pinned : Pinned := { name := "ytbgpnkchbcgekaadoor", sum := "5d7e3b4cc658b07a0607a9f2edf94382e90cbda5c3100bffb7f79e475cada6c6", checked := Tryd.checked }
namespace Rows
def none {H : Type} : Left H := { results := [], args := [] }

/- WHAT THE LISTED PACKAGE-LEVEL VARIABLES READ AS WHEN THE CALL BEGINS. Each datum BY PROGRAM (the guide's laid-datum.mjs) off the statement by which the dump's own 'gosem.cut.vars' lays the variable. In a bare row this is a premise. The card (YtbgpnkchbcgekaaDoorCards.lean) ties it to the program's text. -/
def laid_math_bits_deBruijn32tab {H : Type} : DataW H := .agg [.lit (.int .u8 0), .lit (.int .u8 1), .lit (.int .u8 28), .lit (.int .u8 2), .lit (.int .u8 29), .lit (.int .u8 14), .lit (.int .u8 24), .lit (.int .u8 3), .lit (.int .u8 30), .lit (.int .u8 22), .lit (.int .u8 20), .lit (.int .u8 15), .lit (.int .u8 25), .lit (.int .u8 17), .lit (.int .u8 4), .lit (.int .u8 8), .lit (.int .u8 31), .lit (.int .u8 27), .lit (.int .u8 13), .lit (.int .u8 23), .lit (.int .u8 21), .lit (.int .u8 19), .lit (.int .u8 16), .lit (.int .u8 7), .lit (.int .u8 26), .lit (.int .u8 12), .lit (.int .u8 18), .lit (.int .u8 6), .lit (.int .u8 11), .lit (.int .u8 5), .lit (.int .u8 10), .lit (.int .u8 9)]

/-- 'wogglelaw06.FireBests': WHATEVER THE INPUT: true; the input reads as it did. -/
def fireBestsSpec : ChangeSpec := { name := "fireBests", fn := fun _ => fun
  | [d1, d2] => { results := [.lit (.bool true)], args := [d1, d2] }
  | _ => none }
def fireBestsRow : OpenClaim := { program := "ytbgpnkchbcgekaadoor", sum := "5d7e3b4cc658b07a0607a9f2edf94382e90cbda5c3100bffb7f79e475cada6c6", func := "woggle/wogglelaw06.FireBests", spec := "fireBests", recurses := true, named := ["math/bits.deBruijn32tab"], plainKeys := false, apart := false, laid := [("math/bits.deBruijn32tab", laid_math_bits_deBruijn32tab)] }
def FireBestsSaid : Prop := fireBestsRow.holds Tryd.pinned (OpenSpec.ofChange fireBestsSpec)

/-- ITS FALSE NEIGHBOUR: 'it returns false'. Refute it at one input. -/
def fireBestsWrong : ChangeSpec := { name := "fireBests", fn := fun _ => fun
  | [d1, d2] => { results := [.lit (.bool false)], args := [d1, d2] }
  | _ => none }
def FireBestsWrongFalsely : Prop := fireBestsRow.holds Tryd.pinned (OpenSpec.ofChange fireBestsWrong)

/-- 'wogglelaw06.FireEdges': WHATEVER THE INPUT: true; the input reads as it did. -/
def fireEdgesSpec : ChangeSpec := { name := "fireEdges", fn := fun _ => fun
  | [d1, d2, d3] => { results := [.lit (.bool true)], args := [d1, d2, d3] }
  | _ => none }
def fireEdgesRow : OpenClaim := { program := "ytbgpnkchbcgekaadoor", sum := "5d7e3b4cc658b07a0607a9f2edf94382e90cbda5c3100bffb7f79e475cada6c6", func := "woggle/wogglelaw06.FireEdges", spec := "fireEdges", recurses := true, named := ["math/bits.deBruijn32tab"], plainKeys := false, apart := false, laid := [("math/bits.deBruijn32tab", laid_math_bits_deBruijn32tab)] }
def FireEdgesSaid : Prop := fireEdgesRow.holds Tryd.pinned (OpenSpec.ofChange fireEdgesSpec)

/-- ITS FALSE NEIGHBOUR: 'it returns false'. Refute it at one input. -/
def fireEdgesWrong : ChangeSpec := { name := "fireEdges", fn := fun _ => fun
  | [d1, d2, d3] => { results := [.lit (.bool false)], args := [d1, d2, d3] }
  | _ => none }
def FireEdgesWrongFalsely : Prop := fireEdgesRow.holds Tryd.pinned (OpenSpec.ofChange fireEdgesWrong)

/-- 'wogglelaw06.FireRenamed': WHATEVER THE INPUT: true; the input reads as it did. -/
def fireRenamedSpec : ChangeSpec := { name := "fireRenamed", fn := fun _ => fun
  | [d1, d2, d3] => { results := [.lit (.bool true)], args := [d1, d2, d3] }
  | _ => none }
def fireRenamedRow : OpenClaim := { program := "ytbgpnkchbcgekaadoor", sum := "5d7e3b4cc658b07a0607a9f2edf94382e90cbda5c3100bffb7f79e475cada6c6", func := "woggle/wogglelaw06.FireRenamed", spec := "fireRenamed", unfollowed := true, recurses := true, named := ["math/bits.deBruijn32tab"], plainKeys := false, apart := false, laid := [("math/bits.deBruijn32tab", laid_math_bits_deBruijn32tab)] }
def FireRenamedSaid : Prop := fireRenamedRow.holds Tryd.pinned (OpenSpec.ofChange fireRenamedSpec)

/-- ITS FALSE NEIGHBOUR: 'it returns false'. Refute it at one input. -/
def fireRenamedWrong : ChangeSpec := { name := "fireRenamed", fn := fun _ => fun
  | [d1, d2, d3] => { results := [.lit (.bool false)], args := [d1, d2, d3] }
  | _ => none }
def FireRenamedWrongFalsely : Prop := fireRenamedRow.holds Tryd.pinned (OpenSpec.ofChange fireRenamedWrong)

/-- 'wogglelaw06.FireComponents': WHATEVER THE INPUT: true; the input reads as it did. -/
def fireComponentsSpec : ChangeSpec := { name := "fireComponents", fn := fun _ => fun
  | [d1, d2, d3] => { results := [.lit (.bool true)], args := [d1, d2, d3] }
  | _ => none }
def fireComponentsRow : OpenClaim := { program := "ytbgpnkchbcgekaadoor", sum := "5d7e3b4cc658b07a0607a9f2edf94382e90cbda5c3100bffb7f79e475cada6c6", func := "woggle/wogglelaw06.FireComponents", spec := "fireComponents", recurses := true, named := ["math/bits.deBruijn32tab"], plainKeys := false, apart := false, laid := [("math/bits.deBruijn32tab", laid_math_bits_deBruijn32tab)] }
def FireComponentsSaid : Prop := fireComponentsRow.holds Tryd.pinned (OpenSpec.ofChange fireComponentsSpec)

/-- ITS FALSE NEIGHBOUR: 'it returns false'. Refute it at one input. -/
def fireComponentsWrong : ChangeSpec := { name := "fireComponents", fn := fun _ => fun
  | [d1, d2, d3] => { results := [.lit (.bool false)], args := [d1, d2, d3] }
  | _ => none }
def FireComponentsWrongFalsely : Prop := fireComponentsRow.holds Tryd.pinned (OpenSpec.ofChange fireComponentsWrong)

/-- 'wogglelaw06.FirePlays': WHATEVER THE INPUT: true; the input reads as it did. -/
def firePlaysSpec : ChangeSpec := { name := "firePlays", fn := fun _ => fun
  | [d1, d2, d3] => { results := [.lit (.bool true)], args := [d1, d2, d3] }
  | _ => none }
def firePlaysRow : OpenClaim := { program := "ytbgpnkchbcgekaadoor", sum := "5d7e3b4cc658b07a0607a9f2edf94382e90cbda5c3100bffb7f79e475cada6c6", func := "woggle/wogglelaw06.FirePlays", spec := "firePlays", recurses := true, named := ["math/bits.deBruijn32tab"], plainKeys := false, apart := false, laid := [("math/bits.deBruijn32tab", laid_math_bits_deBruijn32tab)] }
def FirePlaysSaid : Prop := firePlaysRow.holds Tryd.pinned (OpenSpec.ofChange firePlaysSpec)

/-- ITS FALSE NEIGHBOUR: 'it returns false'. Refute it at one input. -/
def firePlaysWrong : ChangeSpec := { name := "firePlays", fn := fun _ => fun
  | [d1, d2, d3] => { results := [.lit (.bool false)], args := [d1, d2, d3] }
  | _ => none }
def FirePlaysWrongFalsely : Prop := firePlaysRow.holds Tryd.pinned (OpenSpec.ofChange firePlaysWrong)

/-- 'wogglelaw06.FireSaves': WHATEVER THE INPUT: true; the input reads as it did. -/
def fireSavesSpec : ChangeSpec := { name := "fireSaves", fn := fun _ => fun
  | [d1, d2, d3] => { results := [.lit (.bool true)], args := [d1, d2, d3] }
  | _ => none }
def fireSavesRow : OpenClaim := { program := "ytbgpnkchbcgekaadoor", sum := "5d7e3b4cc658b07a0607a9f2edf94382e90cbda5c3100bffb7f79e475cada6c6", func := "woggle/wogglelaw06.FireSaves", spec := "fireSaves", recurses := true, named := ["math/bits.deBruijn32tab"], plainKeys := false, apart := false, laid := [("math/bits.deBruijn32tab", laid_math_bits_deBruijn32tab)] }
def FireSavesSaid : Prop := fireSavesRow.holds Tryd.pinned (OpenSpec.ofChange fireSavesSpec)

/-- ITS FALSE NEIGHBOUR: 'it returns false'. Refute it at one input. -/
def fireSavesWrong : ChangeSpec := { name := "fireSaves", fn := fun _ => fun
  | [d1, d2, d3] => { results := [.lit (.bool false)], args := [d1, d2, d3] }
  | _ => none }
def FireSavesWrongFalsely : Prop := fireSavesRow.holds Tryd.pinned (OpenSpec.ofChange fireSavesWrong)

/-- 'wogglelaw06.FireBurnings': WHATEVER THE INPUT: true; the input reads as it did. -/
def fireBurningsSpec : ChangeSpec := { name := "fireBurnings", fn := fun _ => fun
  | [d] => { results := [.lit (.bool true)], args := [d] }
  | _ => none }
def fireBurningsRow : OpenClaim := { program := "ytbgpnkchbcgekaadoor", sum := "5d7e3b4cc658b07a0607a9f2edf94382e90cbda5c3100bffb7f79e475cada6c6", func := "woggle/wogglelaw06.FireBurnings", spec := "fireBurnings", recurses := true, named := ["math/bits.deBruijn32tab"], plainKeys := false, apart := false, laid := [("math/bits.deBruijn32tab", laid_math_bits_deBruijn32tab)] }
def FireBurningsSaid : Prop := fireBurningsRow.holds Tryd.pinned (OpenSpec.ofChange fireBurningsSpec)

/-- ITS FALSE NEIGHBOUR: 'it returns false'. Refute it at one input. -/
def fireBurningsWrong : ChangeSpec := { name := "fireBurnings", fn := fun _ => fun
  | [d] => { results := [.lit (.bool false)], args := [d] }
  | _ => none }
def FireBurningsWrongFalsely : Prop := fireBurningsRow.holds Tryd.pinned (OpenSpec.ofChange fireBurningsWrong)

/-- 'wogglelaw06.FireRadius': WHATEVER THE INPUT: true; the input reads as it did. -/
def fireRadiusSpec : ChangeSpec := { name := "fireRadius", fn := fun _ => fun
  | [d1, d2] => { results := [.lit (.bool true)], args := [d1, d2] }
  | _ => none }
def fireRadiusRow : OpenClaim := { program := "ytbgpnkchbcgekaadoor", sum := "5d7e3b4cc658b07a0607a9f2edf94382e90cbda5c3100bffb7f79e475cada6c6", func := "woggle/wogglelaw06.FireRadius", spec := "fireRadius", recurses := true, named := ["math/bits.deBruijn32tab"], plainKeys := false, apart := false, laid := [("math/bits.deBruijn32tab", laid_math_bits_deBruijn32tab)] }
def FireRadiusSaid : Prop := fireRadiusRow.holds Tryd.pinned (OpenSpec.ofChange fireRadiusSpec)

/-- ITS FALSE NEIGHBOUR: 'it returns false'. Refute it at one input. -/
def fireRadiusWrong : ChangeSpec := { name := "fireRadius", fn := fun _ => fun
  | [d1, d2] => { results := [.lit (.bool false)], args := [d1, d2] }
  | _ => none }
def FireRadiusWrongFalsely : Prop := fireRadiusRow.holds Tryd.pinned (OpenSpec.ofChange fireRadiusWrong)

/-- 'wogglelaw06.FirePaths': WHATEVER THE INPUT: true; the input reads as it did. -/
def firePathsSpec : ChangeSpec := { name := "firePaths", fn := fun _ => fun
  | [d] => { results := [.lit (.bool true)], args := [d] }
  | _ => none }
def firePathsRow : OpenClaim := { program := "ytbgpnkchbcgekaadoor", sum := "5d7e3b4cc658b07a0607a9f2edf94382e90cbda5c3100bffb7f79e475cada6c6", func := "woggle/wogglelaw06.FirePaths", spec := "firePaths", recurses := true, named := ["math/bits.deBruijn32tab"], plainKeys := false, apart := false, laid := [("math/bits.deBruijn32tab", laid_math_bits_deBruijn32tab)] }
def FirePathsSaid : Prop := firePathsRow.holds Tryd.pinned (OpenSpec.ofChange firePathsSpec)

/-- ITS FALSE NEIGHBOUR: 'it returns false'. Refute it at one input. -/
def firePathsWrong : ChangeSpec := { name := "firePaths", fn := fun _ => fun
  | [d] => { results := [.lit (.bool false)], args := [d] }
  | _ => none }
def FirePathsWrongFalsely : Prop := firePathsRow.holds Tryd.pinned (OpenSpec.ofChange firePathsWrong)

/-- 'wogglelaw06.FireGreedies': WHATEVER THE INPUT: true; the input reads as it did. -/
def fireGreediesSpec : ChangeSpec := { name := "fireGreedies", fn := fun _ => fun
  | [d1, d2] => { results := [.lit (.bool true)], args := [d1, d2] }
  | _ => none }
def fireGreediesRow : OpenClaim := { program := "ytbgpnkchbcgekaadoor", sum := "5d7e3b4cc658b07a0607a9f2edf94382e90cbda5c3100bffb7f79e475cada6c6", func := "woggle/wogglelaw06.FireGreedies", spec := "fireGreedies", recurses := true, named := ["math/bits.deBruijn32tab"], plainKeys := false, apart := false, laid := [("math/bits.deBruijn32tab", laid_math_bits_deBruijn32tab)] }
def FireGreediesSaid : Prop := fireGreediesRow.holds Tryd.pinned (OpenSpec.ofChange fireGreediesSpec)

/-- ITS FALSE NEIGHBOUR: 'it returns false'. Refute it at one input. -/
def fireGreediesWrong : ChangeSpec := { name := "fireGreedies", fn := fun _ => fun
  | [d1, d2] => { results := [.lit (.bool false)], args := [d1, d2] }
  | _ => none }
def FireGreediesWrongFalsely : Prop := fireGreediesRow.holds Tryd.pinned (OpenSpec.ofChange fireGreediesWrong)

/-- 'wogglelaw06.FireBurns': WHATEVER THE INPUT: true; the input reads as it did. -/
def fireBurnsSpec : ChangeSpec := { name := "fireBurns", fn := fun _ => fun
  | [d1, d2] => { results := [.lit (.bool true)], args := [d1, d2] }
  | _ => none }
def fireBurnsRow : OpenClaim := { program := "ytbgpnkchbcgekaadoor", sum := "5d7e3b4cc658b07a0607a9f2edf94382e90cbda5c3100bffb7f79e475cada6c6", func := "woggle/wogglelaw06.FireBurns", spec := "fireBurns", recurses := true, named := ["math/bits.deBruijn32tab"], plainKeys := false, apart := false, laid := [("math/bits.deBruijn32tab", laid_math_bits_deBruijn32tab)] }
def FireBurnsSaid : Prop := fireBurnsRow.holds Tryd.pinned (OpenSpec.ofChange fireBurnsSpec)

/-- ITS FALSE NEIGHBOUR: 'it returns false'. Refute it at one input. -/
def fireBurnsWrong : ChangeSpec := { name := "fireBurns", fn := fun _ => fun
  | [d1, d2] => { results := [.lit (.bool false)], args := [d1, d2] }
  | _ => none }
def FireBurnsWrongFalsely : Prop := fireBurnsRow.holds Tryd.pinned (OpenSpec.ofChange fireBurnsWrong)

/-- 'wogglelaw06.FireShortest': WHATEVER THE INPUT: true; the input reads as it did. -/
def fireShortestSpec : ChangeSpec := { name := "fireShortest", fn := fun _ => fun
  | [d1, d2, d3] => { results := [.lit (.bool true)], args := [d1, d2, d3] }
  | _ => none }
def fireShortestRow : OpenClaim := { program := "ytbgpnkchbcgekaadoor", sum := "5d7e3b4cc658b07a0607a9f2edf94382e90cbda5c3100bffb7f79e475cada6c6", func := "woggle/wogglelaw06.FireShortest", spec := "fireShortest", recurses := true, named := ["math/bits.deBruijn32tab"], plainKeys := false, apart := false, laid := [("math/bits.deBruijn32tab", laid_math_bits_deBruijn32tab)] }
def FireShortestSaid : Prop := fireShortestRow.holds Tryd.pinned (OpenSpec.ofChange fireShortestSpec)

/-- ITS FALSE NEIGHBOUR: 'it returns false'. Refute it at one input. -/
def fireShortestWrong : ChangeSpec := { name := "fireShortest", fn := fun _ => fun
  | [d1, d2, d3] => { results := [.lit (.bool false)], args := [d1, d2, d3] }
  | _ => none }
def FireShortestWrongFalsely : Prop := fireShortestRow.holds Tryd.pinned (OpenSpec.ofChange fireShortestWrong)

/-- 'wogglelaw06.FireHalf': WHATEVER THE INPUT: true; the input reads as it did. -/
def fireHalfSpec : ChangeSpec := { name := "fireHalf", fn := fun _ => fun
  | [d1, d2] => { results := [.lit (.bool true)], args := [d1, d2] }
  | _ => none }
def fireHalfRow : OpenClaim := { program := "ytbgpnkchbcgekaadoor", sum := "5d7e3b4cc658b07a0607a9f2edf94382e90cbda5c3100bffb7f79e475cada6c6", func := "woggle/wogglelaw06.FireHalf", spec := "fireHalf", recurses := true, named := ["math/bits.deBruijn32tab"], plainKeys := false, apart := false, laid := [("math/bits.deBruijn32tab", laid_math_bits_deBruijn32tab)] }
def FireHalfSaid : Prop := fireHalfRow.holds Tryd.pinned (OpenSpec.ofChange fireHalfSpec)

/-- ITS FALSE NEIGHBOUR: 'it returns false'. Refute it at one input. -/
def fireHalfWrong : ChangeSpec := { name := "fireHalf", fn := fun _ => fun
  | [d1, d2] => { results := [.lit (.bool false)], args := [d1, d2] }
  | _ => none }
def FireHalfWrongFalsely : Prop := fireHalfRow.holds Tryd.pinned (OpenSpec.ofChange fireHalfWrong)

/- THE SECOND FORM. 'bulk': how many values and letters a reading holds, each counted each time it is reached (what is shared counts as often as it is met; a slice's spare places count too). A statement '..UptoSaid' is the law's where the arguments, and the package variables that the reading takes, are together of bulk at most 1048576: NARROWER than '..Said'. Prove '..Said' where nothing that the law and all that it calls make is longer than what came in: it says more and counts as full. Else prove '..UptoSaid'. A law counts once. -/
mutual
def uptoBulk {H : Type} : DataW H → Nat
  | .lit (.string bytes) => bytes.length + 1
  | .lit _ => 1
  | .nil => 1
  | .ptr d => uptoBulk d + 1
  | .slice elems spare => uptoBulkAll elems + uptoBulkAll spare + 1
  | .agg parts => uptoBulkAll parts + 1
  | .iface _ d => uptoBulk d + 1
  | .map entries => uptoBulkEntries entries + 1
  | .held _ => 1
def uptoBulkAll {H : Type} : List (DataW H) → Nat
  | [] => 0
  | d :: r => uptoBulk d + uptoBulkAll r
def uptoBulkEntries {H : Type} : List (Lit × DataW H) → Nat
  | [] => 0
  | x :: r => uptoBulkEntry x + uptoBulkEntries r
def uptoBulkEntry {H : Type} : Lit × DataW H → Nat
  | (.string bytes, d) => bytes.length + uptoBulk d + 1
  | (_, d) => uptoBulk d + 1
 end
def uptoSmall : (H : Type) → List (DataW H) → Bool := fun _ ds => decide (uptoBulkAll ds ≤ 1048576)
def OpenSpec.upto (s : _root_.Go.ChangeSpec) : _root_.Go.OpenSpec := { _root_.Go.OpenSpec.ofChange s with cond := some uptoSmall }

/-- 'wogglelaw06.FireBests', WHERE WHAT IT READS IS OF BULK AT MOST 1048576: true; the input reads as it did. -/
def fireBestsUptoRow : OpenClaim := { program := "ytbgpnkchbcgekaadoor", sum := "5d7e3b4cc658b07a0607a9f2edf94382e90cbda5c3100bffb7f79e475cada6c6", func := "woggle/wogglelaw06.FireBests", spec := "fireBests", recurses := true, named := ["math/bits.deBruijn32tab"], plainKeys := false, apart := false, laid := [("math/bits.deBruijn32tab", laid_math_bits_deBruijn32tab)], narrowed := true }
def FireBestsUptoSaid : Prop := fireBestsUptoRow.holds Tryd.pinned (OpenSpec.upto fireBestsSpec)

/-- 'wogglelaw06.FireEdges', WHERE WHAT IT READS IS OF BULK AT MOST 1048576: true; the input reads as it did. -/
def fireEdgesUptoRow : OpenClaim := { program := "ytbgpnkchbcgekaadoor", sum := "5d7e3b4cc658b07a0607a9f2edf94382e90cbda5c3100bffb7f79e475cada6c6", func := "woggle/wogglelaw06.FireEdges", spec := "fireEdges", recurses := true, named := ["math/bits.deBruijn32tab"], plainKeys := false, apart := false, laid := [("math/bits.deBruijn32tab", laid_math_bits_deBruijn32tab)], narrowed := true }
def FireEdgesUptoSaid : Prop := fireEdgesUptoRow.holds Tryd.pinned (OpenSpec.upto fireEdgesSpec)

/-- 'wogglelaw06.FireRenamed', WHERE WHAT IT READS IS OF BULK AT MOST 1048576: true; the input reads as it did. -/
def fireRenamedUptoRow : OpenClaim := { program := "ytbgpnkchbcgekaadoor", sum := "5d7e3b4cc658b07a0607a9f2edf94382e90cbda5c3100bffb7f79e475cada6c6", func := "woggle/wogglelaw06.FireRenamed", spec := "fireRenamed", unfollowed := true, recurses := true, named := ["math/bits.deBruijn32tab"], plainKeys := false, apart := false, laid := [("math/bits.deBruijn32tab", laid_math_bits_deBruijn32tab)], narrowed := true }
def FireRenamedUptoSaid : Prop := fireRenamedUptoRow.holds Tryd.pinned (OpenSpec.upto fireRenamedSpec)

/-- 'wogglelaw06.FireComponents', WHERE WHAT IT READS IS OF BULK AT MOST 1048576: true; the input reads as it did. -/
def fireComponentsUptoRow : OpenClaim := { program := "ytbgpnkchbcgekaadoor", sum := "5d7e3b4cc658b07a0607a9f2edf94382e90cbda5c3100bffb7f79e475cada6c6", func := "woggle/wogglelaw06.FireComponents", spec := "fireComponents", recurses := true, named := ["math/bits.deBruijn32tab"], plainKeys := false, apart := false, laid := [("math/bits.deBruijn32tab", laid_math_bits_deBruijn32tab)], narrowed := true }
def FireComponentsUptoSaid : Prop := fireComponentsUptoRow.holds Tryd.pinned (OpenSpec.upto fireComponentsSpec)

/-- 'wogglelaw06.FirePlays', WHERE WHAT IT READS IS OF BULK AT MOST 1048576: true; the input reads as it did. -/
def firePlaysUptoRow : OpenClaim := { program := "ytbgpnkchbcgekaadoor", sum := "5d7e3b4cc658b07a0607a9f2edf94382e90cbda5c3100bffb7f79e475cada6c6", func := "woggle/wogglelaw06.FirePlays", spec := "firePlays", recurses := true, named := ["math/bits.deBruijn32tab"], plainKeys := false, apart := false, laid := [("math/bits.deBruijn32tab", laid_math_bits_deBruijn32tab)], narrowed := true }
def FirePlaysUptoSaid : Prop := firePlaysUptoRow.holds Tryd.pinned (OpenSpec.upto firePlaysSpec)

/-- 'wogglelaw06.FireSaves', WHERE WHAT IT READS IS OF BULK AT MOST 1048576: true; the input reads as it did. -/
def fireSavesUptoRow : OpenClaim := { program := "ytbgpnkchbcgekaadoor", sum := "5d7e3b4cc658b07a0607a9f2edf94382e90cbda5c3100bffb7f79e475cada6c6", func := "woggle/wogglelaw06.FireSaves", spec := "fireSaves", recurses := true, named := ["math/bits.deBruijn32tab"], plainKeys := false, apart := false, laid := [("math/bits.deBruijn32tab", laid_math_bits_deBruijn32tab)], narrowed := true }
def FireSavesUptoSaid : Prop := fireSavesUptoRow.holds Tryd.pinned (OpenSpec.upto fireSavesSpec)

/-- 'wogglelaw06.FireBurnings', WHERE WHAT IT READS IS OF BULK AT MOST 1048576: true; the input reads as it did. -/
def fireBurningsUptoRow : OpenClaim := { program := "ytbgpnkchbcgekaadoor", sum := "5d7e3b4cc658b07a0607a9f2edf94382e90cbda5c3100bffb7f79e475cada6c6", func := "woggle/wogglelaw06.FireBurnings", spec := "fireBurnings", recurses := true, named := ["math/bits.deBruijn32tab"], plainKeys := false, apart := false, laid := [("math/bits.deBruijn32tab", laid_math_bits_deBruijn32tab)], narrowed := true }
def FireBurningsUptoSaid : Prop := fireBurningsUptoRow.holds Tryd.pinned (OpenSpec.upto fireBurningsSpec)

/-- 'wogglelaw06.FireRadius', WHERE WHAT IT READS IS OF BULK AT MOST 1048576: true; the input reads as it did. -/
def fireRadiusUptoRow : OpenClaim := { program := "ytbgpnkchbcgekaadoor", sum := "5d7e3b4cc658b07a0607a9f2edf94382e90cbda5c3100bffb7f79e475cada6c6", func := "woggle/wogglelaw06.FireRadius", spec := "fireRadius", recurses := true, named := ["math/bits.deBruijn32tab"], plainKeys := false, apart := false, laid := [("math/bits.deBruijn32tab", laid_math_bits_deBruijn32tab)], narrowed := true }
def FireRadiusUptoSaid : Prop := fireRadiusUptoRow.holds Tryd.pinned (OpenSpec.upto fireRadiusSpec)

/-- 'wogglelaw06.FirePaths', WHERE WHAT IT READS IS OF BULK AT MOST 1048576: true; the input reads as it did. -/
def firePathsUptoRow : OpenClaim := { program := "ytbgpnkchbcgekaadoor", sum := "5d7e3b4cc658b07a0607a9f2edf94382e90cbda5c3100bffb7f79e475cada6c6", func := "woggle/wogglelaw06.FirePaths", spec := "firePaths", recurses := true, named := ["math/bits.deBruijn32tab"], plainKeys := false, apart := false, laid := [("math/bits.deBruijn32tab", laid_math_bits_deBruijn32tab)], narrowed := true }
def FirePathsUptoSaid : Prop := firePathsUptoRow.holds Tryd.pinned (OpenSpec.upto firePathsSpec)

/-- 'wogglelaw06.FireGreedies', WHERE WHAT IT READS IS OF BULK AT MOST 1048576: true; the input reads as it did. -/
def fireGreediesUptoRow : OpenClaim := { program := "ytbgpnkchbcgekaadoor", sum := "5d7e3b4cc658b07a0607a9f2edf94382e90cbda5c3100bffb7f79e475cada6c6", func := "woggle/wogglelaw06.FireGreedies", spec := "fireGreedies", recurses := true, named := ["math/bits.deBruijn32tab"], plainKeys := false, apart := false, laid := [("math/bits.deBruijn32tab", laid_math_bits_deBruijn32tab)], narrowed := true }
def FireGreediesUptoSaid : Prop := fireGreediesUptoRow.holds Tryd.pinned (OpenSpec.upto fireGreediesSpec)

/-- 'wogglelaw06.FireBurns', WHERE WHAT IT READS IS OF BULK AT MOST 1048576: true; the input reads as it did. -/
def fireBurnsUptoRow : OpenClaim := { program := "ytbgpnkchbcgekaadoor", sum := "5d7e3b4cc658b07a0607a9f2edf94382e90cbda5c3100bffb7f79e475cada6c6", func := "woggle/wogglelaw06.FireBurns", spec := "fireBurns", recurses := true, named := ["math/bits.deBruijn32tab"], plainKeys := false, apart := false, laid := [("math/bits.deBruijn32tab", laid_math_bits_deBruijn32tab)], narrowed := true }
def FireBurnsUptoSaid : Prop := fireBurnsUptoRow.holds Tryd.pinned (OpenSpec.upto fireBurnsSpec)

/-- 'wogglelaw06.FireShortest', WHERE WHAT IT READS IS OF BULK AT MOST 1048576: true; the input reads as it did. -/
def fireShortestUptoRow : OpenClaim := { program := "ytbgpnkchbcgekaadoor", sum := "5d7e3b4cc658b07a0607a9f2edf94382e90cbda5c3100bffb7f79e475cada6c6", func := "woggle/wogglelaw06.FireShortest", spec := "fireShortest", recurses := true, named := ["math/bits.deBruijn32tab"], plainKeys := false, apart := false, laid := [("math/bits.deBruijn32tab", laid_math_bits_deBruijn32tab)], narrowed := true }
def FireShortestUptoSaid : Prop := fireShortestUptoRow.holds Tryd.pinned (OpenSpec.upto fireShortestSpec)

/-- 'wogglelaw06.FireHalf', WHERE WHAT IT READS IS OF BULK AT MOST 1048576: true; the input reads as it did. -/
def fireHalfUptoRow : OpenClaim := { program := "ytbgpnkchbcgekaadoor", sum := "5d7e3b4cc658b07a0607a9f2edf94382e90cbda5c3100bffb7f79e475cada6c6", func := "woggle/wogglelaw06.FireHalf", spec := "fireHalf", recurses := true, named := ["math/bits.deBruijn32tab"], plainKeys := false, apart := false, laid := [("math/bits.deBruijn32tab", laid_math_bits_deBruijn32tab)], narrowed := true }
def FireHalfUptoSaid : Prop := fireHalfUptoRow.holds Tryd.pinned (OpenSpec.upto fireHalfSpec)

end Rows
end Go.Proofs.YtbgpnkchbcgekaaDoor
