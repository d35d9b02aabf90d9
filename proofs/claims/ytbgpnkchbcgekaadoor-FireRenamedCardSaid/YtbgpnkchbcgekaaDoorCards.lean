/-
  DERIVED. GIVEN WITH THE SEED: THE CARDS: each row of YtbgpnkchbcgekaaDoorRows.lean that lists a variable, with what it lists TIED to the program's text (the seventh form; the later family's looks); each row that meets fmt, with fmt's text TOLD by the authors' own Lean function (tested against real Go, not proved from fmt's source: count such statements apart). THE CARD IS WHAT COUNTS. Prove the row's statement (the work); the ties are given (YtbgpnkchbcgekaaDoorTie.lean); close each card by the builder's one call (the guide's Derived/Test/ToyasCard.lean, 'card_holds'). Laid BY PROGRAM, IN A SANDBOX (cutbox-door.mjs). By AI agents, Wed Nov 11 2026. No macro, syntax, notation, axiom, sorry.
-/
import Derived.Test.YtbgpnkchbcgekaaDoorRows
import GoSem.ClaimSeven
namespace Go.Proofs.YtbgpnkchbcgekaaDoor
namespace Rows

/-- THE TIED CARD OF 'wogglelaw06.FireBests'. -/
def fireBestsCard : Claim7 := { stood := { row := fireBestsRow, standIns := [], harness := (true, "aebe6e1f1af070001eccdfd093ca81becb3d4a9f183ae79211073797131fb0fb"), looks := false }, kinds := [], alts := [], laidByText := true, laidKinds := [.data], laidTests := true, laidLooks := .later }
def FireBestsCardSaid : Prop := Claim7.holds Tryd.pinned (.plain (OpenSpec.ofChange fireBestsSpec)) fireBestsCard

/-- THE TIED CARD OF 'wogglelaw06.FireEdges'. -/
def fireEdgesCard : Claim7 := { stood := { row := fireEdgesRow, standIns := [], harness := (true, "aebe6e1f1af070001eccdfd093ca81becb3d4a9f183ae79211073797131fb0fb"), looks := false }, kinds := [], alts := [], laidByText := true, laidKinds := [.data], laidTests := true, laidLooks := .later }
def FireEdgesCardSaid : Prop := Claim7.holds Tryd.pinned (.plain (OpenSpec.ofChange fireEdgesSpec)) fireEdgesCard

/-- THE TIED CARD OF 'wogglelaw06.FireRenamed'. -/
def fireRenamedCard : Claim7 := { stood := { row := fireRenamedRow, standIns := [], harness := (true, "aebe6e1f1af070001eccdfd093ca81becb3d4a9f183ae79211073797131fb0fb"), looks := false }, kinds := [], alts := [], laidByText := true, laidKinds := [.data], laidTests := true, laidLooks := .later }
def FireRenamedCardSaid : Prop := Claim7.holds Tryd.pinned (.plain (OpenSpec.ofChange fireRenamedSpec)) fireRenamedCard

/-- THE TIED CARD OF 'wogglelaw06.FireComponents'. -/
def fireComponentsCard : Claim7 := { stood := { row := fireComponentsRow, standIns := [], harness := (true, "aebe6e1f1af070001eccdfd093ca81becb3d4a9f183ae79211073797131fb0fb"), looks := false }, kinds := [], alts := [], laidByText := true, laidKinds := [.data], laidTests := true, laidLooks := .later }
def FireComponentsCardSaid : Prop := Claim7.holds Tryd.pinned (.plain (OpenSpec.ofChange fireComponentsSpec)) fireComponentsCard

/-- THE TIED CARD OF 'wogglelaw06.FirePlays'. -/
def firePlaysCard : Claim7 := { stood := { row := firePlaysRow, standIns := [], harness := (true, "aebe6e1f1af070001eccdfd093ca81becb3d4a9f183ae79211073797131fb0fb"), looks := false }, kinds := [], alts := [], laidByText := true, laidKinds := [.data], laidTests := true, laidLooks := .later }
def FirePlaysCardSaid : Prop := Claim7.holds Tryd.pinned (.plain (OpenSpec.ofChange firePlaysSpec)) firePlaysCard

/-- THE TIED CARD OF 'wogglelaw06.FireSaves'. -/
def fireSavesCard : Claim7 := { stood := { row := fireSavesRow, standIns := [], harness := (true, "aebe6e1f1af070001eccdfd093ca81becb3d4a9f183ae79211073797131fb0fb"), looks := false }, kinds := [], alts := [], laidByText := true, laidKinds := [.data], laidTests := true, laidLooks := .later }
def FireSavesCardSaid : Prop := Claim7.holds Tryd.pinned (.plain (OpenSpec.ofChange fireSavesSpec)) fireSavesCard

/-- THE TIED CARD OF 'wogglelaw06.FireBurnings'. -/
def fireBurningsCard : Claim7 := { stood := { row := fireBurningsRow, standIns := [], harness := (true, "aebe6e1f1af070001eccdfd093ca81becb3d4a9f183ae79211073797131fb0fb"), looks := false }, kinds := [], alts := [], laidByText := true, laidKinds := [.data], laidTests := true, laidLooks := .later }
def FireBurningsCardSaid : Prop := Claim7.holds Tryd.pinned (.plain (OpenSpec.ofChange fireBurningsSpec)) fireBurningsCard

/-- THE TIED CARD OF 'wogglelaw06.FireRadius'. -/
def fireRadiusCard : Claim7 := { stood := { row := fireRadiusRow, standIns := [], harness := (true, "aebe6e1f1af070001eccdfd093ca81becb3d4a9f183ae79211073797131fb0fb"), looks := false }, kinds := [], alts := [], laidByText := true, laidKinds := [.data], laidTests := true, laidLooks := .later }
def FireRadiusCardSaid : Prop := Claim7.holds Tryd.pinned (.plain (OpenSpec.ofChange fireRadiusSpec)) fireRadiusCard

/-- THE TIED CARD OF 'wogglelaw06.FirePaths'. -/
def firePathsCard : Claim7 := { stood := { row := firePathsRow, standIns := [], harness := (true, "aebe6e1f1af070001eccdfd093ca81becb3d4a9f183ae79211073797131fb0fb"), looks := false }, kinds := [], alts := [], laidByText := true, laidKinds := [.data], laidTests := true, laidLooks := .later }
def FirePathsCardSaid : Prop := Claim7.holds Tryd.pinned (.plain (OpenSpec.ofChange firePathsSpec)) firePathsCard

/-- THE TIED CARD OF 'wogglelaw06.FireGreedies'. -/
def fireGreediesCard : Claim7 := { stood := { row := fireGreediesRow, standIns := [], harness := (true, "aebe6e1f1af070001eccdfd093ca81becb3d4a9f183ae79211073797131fb0fb"), looks := false }, kinds := [], alts := [], laidByText := true, laidKinds := [.data], laidTests := true, laidLooks := .later }
def FireGreediesCardSaid : Prop := Claim7.holds Tryd.pinned (.plain (OpenSpec.ofChange fireGreediesSpec)) fireGreediesCard

/-- THE TIED CARD OF 'wogglelaw06.FireBurns'. -/
def fireBurnsCard : Claim7 := { stood := { row := fireBurnsRow, standIns := [], harness := (true, "aebe6e1f1af070001eccdfd093ca81becb3d4a9f183ae79211073797131fb0fb"), looks := false }, kinds := [], alts := [], laidByText := true, laidKinds := [.data], laidTests := true, laidLooks := .later }
def FireBurnsCardSaid : Prop := Claim7.holds Tryd.pinned (.plain (OpenSpec.ofChange fireBurnsSpec)) fireBurnsCard

/-- THE TIED CARD OF 'wogglelaw06.FireShortest'. -/
def fireShortestCard : Claim7 := { stood := { row := fireShortestRow, standIns := [], harness := (true, "aebe6e1f1af070001eccdfd093ca81becb3d4a9f183ae79211073797131fb0fb"), looks := false }, kinds := [], alts := [], laidByText := true, laidKinds := [.data], laidTests := true, laidLooks := .later }
def FireShortestCardSaid : Prop := Claim7.holds Tryd.pinned (.plain (OpenSpec.ofChange fireShortestSpec)) fireShortestCard

/-- THE TIED CARD OF 'wogglelaw06.FireHalf'. -/
def fireHalfCard : Claim7 := { stood := { row := fireHalfRow, standIns := [], harness := (true, "aebe6e1f1af070001eccdfd093ca81becb3d4a9f183ae79211073797131fb0fb"), looks := false }, kinds := [], alts := [], laidByText := true, laidKinds := [.data], laidTests := true, laidLooks := .later }
def FireHalfCardSaid : Prop := Claim7.holds Tryd.pinned (.plain (OpenSpec.ofChange fireHalfSpec)) fireHalfCard

/-- THE SECOND FORM's CARD OF 'wogglelaw06.FireBests'. -/
def fireBestsUptoCard : Claim7 := { stood := { row := fireBestsUptoRow, standIns := [], harness := (true, "aebe6e1f1af070001eccdfd093ca81becb3d4a9f183ae79211073797131fb0fb"), looks := false }, kinds := [], alts := [], laidByText := true, laidKinds := [.data], laidTests := true, laidLooks := .later }
def FireBestsUptoCardSaid : Prop := Claim7.holds Tryd.pinned (.plain (OpenSpec.upto fireBestsSpec)) fireBestsUptoCard

/-- THE SECOND FORM's CARD OF 'wogglelaw06.FireEdges'. -/
def fireEdgesUptoCard : Claim7 := { stood := { row := fireEdgesUptoRow, standIns := [], harness := (true, "aebe6e1f1af070001eccdfd093ca81becb3d4a9f183ae79211073797131fb0fb"), looks := false }, kinds := [], alts := [], laidByText := true, laidKinds := [.data], laidTests := true, laidLooks := .later }
def FireEdgesUptoCardSaid : Prop := Claim7.holds Tryd.pinned (.plain (OpenSpec.upto fireEdgesSpec)) fireEdgesUptoCard

/-- THE SECOND FORM's CARD OF 'wogglelaw06.FireRenamed'. -/
def fireRenamedUptoCard : Claim7 := { stood := { row := fireRenamedUptoRow, standIns := [], harness := (true, "aebe6e1f1af070001eccdfd093ca81becb3d4a9f183ae79211073797131fb0fb"), looks := false }, kinds := [], alts := [], laidByText := true, laidKinds := [.data], laidTests := true, laidLooks := .later }
def FireRenamedUptoCardSaid : Prop := Claim7.holds Tryd.pinned (.plain (OpenSpec.upto fireRenamedSpec)) fireRenamedUptoCard

/-- THE SECOND FORM's CARD OF 'wogglelaw06.FireComponents'. -/
def fireComponentsUptoCard : Claim7 := { stood := { row := fireComponentsUptoRow, standIns := [], harness := (true, "aebe6e1f1af070001eccdfd093ca81becb3d4a9f183ae79211073797131fb0fb"), looks := false }, kinds := [], alts := [], laidByText := true, laidKinds := [.data], laidTests := true, laidLooks := .later }
def FireComponentsUptoCardSaid : Prop := Claim7.holds Tryd.pinned (.plain (OpenSpec.upto fireComponentsSpec)) fireComponentsUptoCard

/-- THE SECOND FORM's CARD OF 'wogglelaw06.FirePlays'. -/
def firePlaysUptoCard : Claim7 := { stood := { row := firePlaysUptoRow, standIns := [], harness := (true, "aebe6e1f1af070001eccdfd093ca81becb3d4a9f183ae79211073797131fb0fb"), looks := false }, kinds := [], alts := [], laidByText := true, laidKinds := [.data], laidTests := true, laidLooks := .later }
def FirePlaysUptoCardSaid : Prop := Claim7.holds Tryd.pinned (.plain (OpenSpec.upto firePlaysSpec)) firePlaysUptoCard

/-- THE SECOND FORM's CARD OF 'wogglelaw06.FireSaves'. -/
def fireSavesUptoCard : Claim7 := { stood := { row := fireSavesUptoRow, standIns := [], harness := (true, "aebe6e1f1af070001eccdfd093ca81becb3d4a9f183ae79211073797131fb0fb"), looks := false }, kinds := [], alts := [], laidByText := true, laidKinds := [.data], laidTests := true, laidLooks := .later }
def FireSavesUptoCardSaid : Prop := Claim7.holds Tryd.pinned (.plain (OpenSpec.upto fireSavesSpec)) fireSavesUptoCard

/-- THE SECOND FORM's CARD OF 'wogglelaw06.FireBurnings'. -/
def fireBurningsUptoCard : Claim7 := { stood := { row := fireBurningsUptoRow, standIns := [], harness := (true, "aebe6e1f1af070001eccdfd093ca81becb3d4a9f183ae79211073797131fb0fb"), looks := false }, kinds := [], alts := [], laidByText := true, laidKinds := [.data], laidTests := true, laidLooks := .later }
def FireBurningsUptoCardSaid : Prop := Claim7.holds Tryd.pinned (.plain (OpenSpec.upto fireBurningsSpec)) fireBurningsUptoCard

/-- THE SECOND FORM's CARD OF 'wogglelaw06.FireRadius'. -/
def fireRadiusUptoCard : Claim7 := { stood := { row := fireRadiusUptoRow, standIns := [], harness := (true, "aebe6e1f1af070001eccdfd093ca81becb3d4a9f183ae79211073797131fb0fb"), looks := false }, kinds := [], alts := [], laidByText := true, laidKinds := [.data], laidTests := true, laidLooks := .later }
def FireRadiusUptoCardSaid : Prop := Claim7.holds Tryd.pinned (.plain (OpenSpec.upto fireRadiusSpec)) fireRadiusUptoCard

/-- THE SECOND FORM's CARD OF 'wogglelaw06.FirePaths'. -/
def firePathsUptoCard : Claim7 := { stood := { row := firePathsUptoRow, standIns := [], harness := (true, "aebe6e1f1af070001eccdfd093ca81becb3d4a9f183ae79211073797131fb0fb"), looks := false }, kinds := [], alts := [], laidByText := true, laidKinds := [.data], laidTests := true, laidLooks := .later }
def FirePathsUptoCardSaid : Prop := Claim7.holds Tryd.pinned (.plain (OpenSpec.upto firePathsSpec)) firePathsUptoCard

/-- THE SECOND FORM's CARD OF 'wogglelaw06.FireGreedies'. -/
def fireGreediesUptoCard : Claim7 := { stood := { row := fireGreediesUptoRow, standIns := [], harness := (true, "aebe6e1f1af070001eccdfd093ca81becb3d4a9f183ae79211073797131fb0fb"), looks := false }, kinds := [], alts := [], laidByText := true, laidKinds := [.data], laidTests := true, laidLooks := .later }
def FireGreediesUptoCardSaid : Prop := Claim7.holds Tryd.pinned (.plain (OpenSpec.upto fireGreediesSpec)) fireGreediesUptoCard

/-- THE SECOND FORM's CARD OF 'wogglelaw06.FireBurns'. -/
def fireBurnsUptoCard : Claim7 := { stood := { row := fireBurnsUptoRow, standIns := [], harness := (true, "aebe6e1f1af070001eccdfd093ca81becb3d4a9f183ae79211073797131fb0fb"), looks := false }, kinds := [], alts := [], laidByText := true, laidKinds := [.data], laidTests := true, laidLooks := .later }
def FireBurnsUptoCardSaid : Prop := Claim7.holds Tryd.pinned (.plain (OpenSpec.upto fireBurnsSpec)) fireBurnsUptoCard

/-- THE SECOND FORM's CARD OF 'wogglelaw06.FireShortest'. -/
def fireShortestUptoCard : Claim7 := { stood := { row := fireShortestUptoRow, standIns := [], harness := (true, "aebe6e1f1af070001eccdfd093ca81becb3d4a9f183ae79211073797131fb0fb"), looks := false }, kinds := [], alts := [], laidByText := true, laidKinds := [.data], laidTests := true, laidLooks := .later }
def FireShortestUptoCardSaid : Prop := Claim7.holds Tryd.pinned (.plain (OpenSpec.upto fireShortestSpec)) fireShortestUptoCard

/-- THE SECOND FORM's CARD OF 'wogglelaw06.FireHalf'. -/
def fireHalfUptoCard : Claim7 := { stood := { row := fireHalfUptoRow, standIns := [], harness := (true, "aebe6e1f1af070001eccdfd093ca81becb3d4a9f183ae79211073797131fb0fb"), looks := false }, kinds := [], alts := [], laidByText := true, laidKinds := [.data], laidTests := true, laidLooks := .later }
def FireHalfUptoCardSaid : Prop := Claim7.holds Tryd.pinned (.plain (OpenSpec.upto fireHalfSpec)) fireHalfUptoCard
end Rows
end Go.Proofs.YtbgpnkchbcgekaaDoor
