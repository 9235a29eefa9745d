/-
  DERIVED. GIVEN WITH THE SEED: THE CARDS: each row of YteemifeclhenbaaDoorRows.lean that lists a variable, with what it lists TIED to the program's text (the seventh form; the later family's looks); each row that meets fmt, with fmt's text TOLD by the authors' own Lean function (tested against real Go, not proved from fmt's source: count such statements apart). THE CARD IS WHAT COUNTS. Prove the row's statement (the work); the ties are given (YteemifeclhenbaaDoorTie.lean); close each card by the builder's one call (the guide's Derived/Test/ToyasCard.lean, 'card_holds'). Laid BY PROGRAM, IN A SANDBOX (cutbox-door.mjs). By AI agents, Wed Nov 11 2026. No macro, syntax, notation, axiom, sorry.
-/
import Derived.Test.YteemifeclhenbaaDoorRows
import GoSem.ClaimSeven
namespace Go.Proofs.YteemifeclhenbaaDoor
namespace Rows

/-- THE TIED CARD OF 'laws.FnExactCountBoards'. -/
def fnExactCountBoardsCard : Claim7 := { stood := { row := fnExactCountBoardsRow, standIns := [], harness := (true, "e64b37a08ad75774d4fb753e7951a683799e2c5319f73f5b1e0e03336482a9ec"), looks := false }, kinds := [], alts := [], laidByText := true, laidKinds := [.data, .pinned], laidTests := true, laidLooks := .later }
def FnExactCountBoardsCardSaid : Prop := Claim7.holds Tryd.pinned (.plain (OpenSpec.ofChange fnExactCountBoardsSpec)) fnExactCountBoardsCard

/-- THE TIED CARD OF 'laws.FnExactIsClue'. -/
def fnExactIsClueCard : Claim7 := { stood := { row := fnExactIsClueRow, standIns := [], harness := (true, "e64b37a08ad75774d4fb753e7951a683799e2c5319f73f5b1e0e03336482a9ec"), looks := false }, kinds := [], alts := [], laidByText := true, laidKinds := [.data, .pinned], laidTests := true, laidLooks := .later }
def FnExactIsClueCardSaid : Prop := Claim7.holds Tryd.pinned (.plain (OpenSpec.ofChange fnExactIsClueSpec)) fnExactIsClueCard

/-- THE TIED CARD OF 'laws.FnExactIsPuzzle'. -/
def fnExactIsPuzzleCard : Claim7 := { stood := { row := fnExactIsPuzzleRow, standIns := [], harness := (true, "e64b37a08ad75774d4fb753e7951a683799e2c5319f73f5b1e0e03336482a9ec"), looks := false }, kinds := [], alts := [], laidByText := true, laidKinds := [.data, .pinned], laidTests := true, laidLooks := .later }
def FnExactIsPuzzleCardSaid : Prop := Claim7.holds Tryd.pinned (.plain (OpenSpec.ofChange fnExactIsPuzzleSpec)) fnExactIsPuzzleCard

/-- THE TIED CARD OF 'laws.FnExactAddClue'. -/
def fnExactAddClueCard : Claim7 := { stood := { row := fnExactAddClueRow, standIns := [], harness := (true, "e64b37a08ad75774d4fb753e7951a683799e2c5319f73f5b1e0e03336482a9ec"), looks := false }, kinds := [], alts := [], laidByText := true, laidKinds := [.data, .pinned], laidTests := true, laidLooks := .later }
def FnExactAddClueCardSaid : Prop := Claim7.holds Tryd.pinned (.plain (OpenSpec.ofChange fnExactAddClueSpec)) fnExactAddClueCard

/-- THE TIED CARD OF 'laws.FnExactDropClue'. -/
def fnExactDropClueCard : Claim7 := { stood := { row := fnExactDropClueRow, standIns := [], harness := (true, "e64b37a08ad75774d4fb753e7951a683799e2c5319f73f5b1e0e03336482a9ec"), looks := false }, kinds := [], alts := [], laidByText := true, laidKinds := [.data, .pinned], laidTests := true, laidLooks := .later }
def FnExactDropClueCardSaid : Prop := Claim7.holds Tryd.pinned (.plain (OpenSpec.ofChange fnExactDropClueSpec)) fnExactDropClueCard

/-- THE TIED CARD OF 'laws.FnExactDoesFit'. -/
def fnExactDoesFitCard : Claim7 := { stood := { row := fnExactDoesFitRow, standIns := [], harness := (true, "e64b37a08ad75774d4fb753e7951a683799e2c5319f73f5b1e0e03336482a9ec"), looks := false }, kinds := [], alts := [], laidByText := true, laidKinds := [.data, .pinned], laidTests := true, laidLooks := .later }
def FnExactDoesFitCardSaid : Prop := Claim7.holds Tryd.pinned (.plain (OpenSpec.ofChange fnExactDoesFitSpec)) fnExactDoesFitCard

/-- THE TIED CARD OF 'laws.FnExactMakePuzzle'. -/
def fnExactMakePuzzleCard : Claim7 := { stood := { row := fnExactMakePuzzleRow, standIns := [], harness := (true, "e64b37a08ad75774d4fb753e7951a683799e2c5319f73f5b1e0e03336482a9ec"), looks := false }, kinds := [], alts := [], laidByText := true, laidKinds := [.data, .pinned], laidTests := true, laidLooks := .later }
def FnExactMakePuzzleCardSaid : Prop := Claim7.holds Tryd.pinned (.plain (OpenSpec.ofChange fnExactMakePuzzleSpec)) fnExactMakePuzzleCard

/-- THE TIED CARD OF 'laws.FnExactPuzzleText'. -/
def fnExactPuzzleTextCard : Claim7 := { stood := { row := fnExactPuzzleTextRow, standIns := [], harness := (true, "e64b37a08ad75774d4fb753e7951a683799e2c5319f73f5b1e0e03336482a9ec"), looks := false }, kinds := [], alts := [], laidByText := true, laidKinds := [.data, .data, .data, .data, .pinned], laidTests := true, laidLooks := .later }
def FnExactPuzzleTextCardSaid : Prop := Claim7.holds Tryd.pinned (.plain (OpenSpec.ofChange fnExactPuzzleTextSpec)) fnExactPuzzleTextCard

/-- THE TIED CARD OF 'laws.FnExactCountSolutions'. -/
def fnExactCountSolutionsCard : Claim7 := { stood := { row := fnExactCountSolutionsRow, standIns := [], harness := (true, "e64b37a08ad75774d4fb753e7951a683799e2c5319f73f5b1e0e03336482a9ec"), looks := false }, kinds := [], alts := [], laidByText := true, laidKinds := [.data, .pinned], laidTests := true, laidLooks := .later }
def FnExactCountSolutionsCardSaid : Prop := Claim7.holds Tryd.pinned (.plain (OpenSpec.ofChange fnExactCountSolutionsSpec)) fnExactCountSolutionsCard

/-- THE TIED CARD OF 'laws.FnExactFirstSolution'. -/
def fnExactFirstSolutionCard : Claim7 := { stood := { row := fnExactFirstSolutionRow, standIns := [], harness := (true, "e64b37a08ad75774d4fb753e7951a683799e2c5319f73f5b1e0e03336482a9ec"), looks := false }, kinds := [], alts := [], laidByText := true, laidKinds := [.data, .pinned], laidTests := true, laidLooks := .later }
def FnExactFirstSolutionCardSaid : Prop := Claim7.holds Tryd.pinned (.plain (OpenSpec.ofChange fnExactFirstSolutionSpec)) fnExactFirstSolutionCard

/-- THE TIED CARD OF 'laws.FnExactIsSolved'. -/
def fnExactIsSolvedCard : Claim7 := { stood := { row := fnExactIsSolvedRow, standIns := [], harness := (true, "e64b37a08ad75774d4fb753e7951a683799e2c5319f73f5b1e0e03336482a9ec"), looks := false }, kinds := [], alts := [], laidByText := true, laidKinds := [.data, .pinned], laidTests := true, laidLooks := .later }
def FnExactIsSolvedCardSaid : Prop := Claim7.holds Tryd.pinned (.plain (OpenSpec.ofChange fnExactIsSolvedSpec)) fnExactIsSolvedCard

/-- THE TIED CARD OF 'laws.FnExactBestClue'. -/
def fnExactBestClueCard : Claim7 := { stood := { row := fnExactBestClueRow, standIns := [], harness := (true, "e64b37a08ad75774d4fb753e7951a683799e2c5319f73f5b1e0e03336482a9ec"), looks := false }, kinds := [], alts := [], laidByText := true, laidKinds := [.data, .pinned], laidTests := true, laidLooks := .later }
def FnExactBestClueCardSaid : Prop := Claim7.holds Tryd.pinned (.plain (OpenSpec.ofChange fnExactBestClueSpec)) fnExactBestClueCard

/-- THE TIED CARD OF 'laws.FnExactSureCells'. -/
def fnExactSureCellsCard : Claim7 := { stood := { row := fnExactSureCellsRow, standIns := [], harness := (true, "e64b37a08ad75774d4fb753e7951a683799e2c5319f73f5b1e0e03336482a9ec"), looks := false }, kinds := [], alts := [], laidByText := true, laidKinds := [.data, .pinned], laidTests := true, laidLooks := .later }
def FnExactSureCellsCardSaid : Prop := Claim7.holds Tryd.pinned (.plain (OpenSpec.ofChange fnExactSureCellsSpec)) fnExactSureCellsCard

/-- THE TIED CARD OF 'laws.FnExactLeftByClues'. -/
def fnExactLeftByCluesCard : Claim7 := { stood := { row := fnExactLeftByCluesRow, standIns := [], harness := (true, "e64b37a08ad75774d4fb753e7951a683799e2c5319f73f5b1e0e03336482a9ec"), looks := false }, kinds := [], alts := [], laidByText := true, laidKinds := [.data, .pinned], laidTests := true, laidLooks := .later }
def FnExactLeftByCluesCardSaid : Prop := Claim7.holds Tryd.pinned (.plain (OpenSpec.ofChange fnExactLeftByCluesSpec)) fnExactLeftByCluesCard

/-- THE TIED CARD OF 'laws.FnExactSolutions'. -/
def fnExactSolutionsCard : Claim7 := { stood := { row := fnExactSolutionsRow, standIns := [], harness := (true, "e64b37a08ad75774d4fb753e7951a683799e2c5319f73f5b1e0e03336482a9ec"), looks := false }, kinds := [], alts := [], laidByText := true, laidKinds := [.data, .pinned], laidTests := true, laidLooks := .later }
def FnExactSolutionsCardSaid : Prop := Claim7.holds Tryd.pinned (.plain (OpenSpec.ofChange fnExactSolutionsSpec)) fnExactSolutionsCard

/-- THE TIED CARD OF 'laws.FnExactNeedlessClues'. -/
def fnExactNeedlessCluesCard : Claim7 := { stood := { row := fnExactNeedlessCluesRow, standIns := [], harness := (true, "e64b37a08ad75774d4fb753e7951a683799e2c5319f73f5b1e0e03336482a9ec"), looks := false }, kinds := [], alts := [], laidByText := true, laidKinds := [.data, .pinned], laidTests := true, laidLooks := .later }
def FnExactNeedlessCluesCardSaid : Prop := Claim7.holds Tryd.pinned (.plain (OpenSpec.ofChange fnExactNeedlessCluesSpec)) fnExactNeedlessCluesCard

/-- THE TIED CARD OF 'laws.FnExactHarderPuzzle'. -/
def fnExactHarderPuzzleCard : Claim7 := { stood := { row := fnExactHarderPuzzleRow, standIns := [], harness := (true, "e64b37a08ad75774d4fb753e7951a683799e2c5319f73f5b1e0e03336482a9ec"), looks := false }, kinds := [], alts := [], laidByText := true, laidKinds := [.data, .pinned], laidTests := true, laidLooks := .later }
def FnExactHarderPuzzleCardSaid : Prop := Claim7.holds Tryd.pinned (.plain (OpenSpec.ofChange fnExactHarderPuzzleSpec)) fnExactHarderPuzzleCard

/-- THE SECOND FORM's CARD OF 'laws.FnExactCountBoards'. -/
def fnExactCountBoardsUptoCard : Claim7 := { stood := { row := fnExactCountBoardsUptoRow, standIns := [], harness := (true, "e64b37a08ad75774d4fb753e7951a683799e2c5319f73f5b1e0e03336482a9ec"), looks := false }, kinds := [], alts := [], laidByText := true, laidKinds := [.data, .pinned], laidTests := true, laidLooks := .later }
def FnExactCountBoardsUptoCardSaid : Prop := Claim7.holds Tryd.pinned (.plain (OpenSpec.upto fnExactCountBoardsSpec)) fnExactCountBoardsUptoCard

/-- THE SECOND FORM's CARD OF 'laws.FnExactIsClue'. -/
def fnExactIsClueUptoCard : Claim7 := { stood := { row := fnExactIsClueUptoRow, standIns := [], harness := (true, "e64b37a08ad75774d4fb753e7951a683799e2c5319f73f5b1e0e03336482a9ec"), looks := false }, kinds := [], alts := [], laidByText := true, laidKinds := [.data, .pinned], laidTests := true, laidLooks := .later }
def FnExactIsClueUptoCardSaid : Prop := Claim7.holds Tryd.pinned (.plain (OpenSpec.upto fnExactIsClueSpec)) fnExactIsClueUptoCard

/-- THE SECOND FORM's CARD OF 'laws.FnExactIsPuzzle'. -/
def fnExactIsPuzzleUptoCard : Claim7 := { stood := { row := fnExactIsPuzzleUptoRow, standIns := [], harness := (true, "e64b37a08ad75774d4fb753e7951a683799e2c5319f73f5b1e0e03336482a9ec"), looks := false }, kinds := [], alts := [], laidByText := true, laidKinds := [.data, .pinned], laidTests := true, laidLooks := .later }
def FnExactIsPuzzleUptoCardSaid : Prop := Claim7.holds Tryd.pinned (.plain (OpenSpec.upto fnExactIsPuzzleSpec)) fnExactIsPuzzleUptoCard

/-- THE SECOND FORM's CARD OF 'laws.FnExactAddClue'. -/
def fnExactAddClueUptoCard : Claim7 := { stood := { row := fnExactAddClueUptoRow, standIns := [], harness := (true, "e64b37a08ad75774d4fb753e7951a683799e2c5319f73f5b1e0e03336482a9ec"), looks := false }, kinds := [], alts := [], laidByText := true, laidKinds := [.data, .pinned], laidTests := true, laidLooks := .later }
def FnExactAddClueUptoCardSaid : Prop := Claim7.holds Tryd.pinned (.plain (OpenSpec.upto fnExactAddClueSpec)) fnExactAddClueUptoCard

/-- THE SECOND FORM's CARD OF 'laws.FnExactDropClue'. -/
def fnExactDropClueUptoCard : Claim7 := { stood := { row := fnExactDropClueUptoRow, standIns := [], harness := (true, "e64b37a08ad75774d4fb753e7951a683799e2c5319f73f5b1e0e03336482a9ec"), looks := false }, kinds := [], alts := [], laidByText := true, laidKinds := [.data, .pinned], laidTests := true, laidLooks := .later }
def FnExactDropClueUptoCardSaid : Prop := Claim7.holds Tryd.pinned (.plain (OpenSpec.upto fnExactDropClueSpec)) fnExactDropClueUptoCard

/-- THE SECOND FORM's CARD OF 'laws.FnExactDoesFit'. -/
def fnExactDoesFitUptoCard : Claim7 := { stood := { row := fnExactDoesFitUptoRow, standIns := [], harness := (true, "e64b37a08ad75774d4fb753e7951a683799e2c5319f73f5b1e0e03336482a9ec"), looks := false }, kinds := [], alts := [], laidByText := true, laidKinds := [.data, .pinned], laidTests := true, laidLooks := .later }
def FnExactDoesFitUptoCardSaid : Prop := Claim7.holds Tryd.pinned (.plain (OpenSpec.upto fnExactDoesFitSpec)) fnExactDoesFitUptoCard

/-- THE SECOND FORM's CARD OF 'laws.FnExactMakePuzzle'. -/
def fnExactMakePuzzleUptoCard : Claim7 := { stood := { row := fnExactMakePuzzleUptoRow, standIns := [], harness := (true, "e64b37a08ad75774d4fb753e7951a683799e2c5319f73f5b1e0e03336482a9ec"), looks := false }, kinds := [], alts := [], laidByText := true, laidKinds := [.data, .pinned], laidTests := true, laidLooks := .later }
def FnExactMakePuzzleUptoCardSaid : Prop := Claim7.holds Tryd.pinned (.plain (OpenSpec.upto fnExactMakePuzzleSpec)) fnExactMakePuzzleUptoCard

/-- THE SECOND FORM's CARD OF 'laws.FnExactPuzzleText'. -/
def fnExactPuzzleTextUptoCard : Claim7 := { stood := { row := fnExactPuzzleTextUptoRow, standIns := [], harness := (true, "e64b37a08ad75774d4fb753e7951a683799e2c5319f73f5b1e0e03336482a9ec"), looks := false }, kinds := [], alts := [], laidByText := true, laidKinds := [.data, .data, .data, .data, .pinned], laidTests := true, laidLooks := .later }
def FnExactPuzzleTextUptoCardSaid : Prop := Claim7.holds Tryd.pinned (.plain (OpenSpec.upto fnExactPuzzleTextSpec)) fnExactPuzzleTextUptoCard

/-- THE SECOND FORM's CARD OF 'laws.FnExactCountSolutions'. -/
def fnExactCountSolutionsUptoCard : Claim7 := { stood := { row := fnExactCountSolutionsUptoRow, standIns := [], harness := (true, "e64b37a08ad75774d4fb753e7951a683799e2c5319f73f5b1e0e03336482a9ec"), looks := false }, kinds := [], alts := [], laidByText := true, laidKinds := [.data, .pinned], laidTests := true, laidLooks := .later }
def FnExactCountSolutionsUptoCardSaid : Prop := Claim7.holds Tryd.pinned (.plain (OpenSpec.upto fnExactCountSolutionsSpec)) fnExactCountSolutionsUptoCard

/-- THE SECOND FORM's CARD OF 'laws.FnExactFirstSolution'. -/
def fnExactFirstSolutionUptoCard : Claim7 := { stood := { row := fnExactFirstSolutionUptoRow, standIns := [], harness := (true, "e64b37a08ad75774d4fb753e7951a683799e2c5319f73f5b1e0e03336482a9ec"), looks := false }, kinds := [], alts := [], laidByText := true, laidKinds := [.data, .pinned], laidTests := true, laidLooks := .later }
def FnExactFirstSolutionUptoCardSaid : Prop := Claim7.holds Tryd.pinned (.plain (OpenSpec.upto fnExactFirstSolutionSpec)) fnExactFirstSolutionUptoCard

/-- THE SECOND FORM's CARD OF 'laws.FnExactIsSolved'. -/
def fnExactIsSolvedUptoCard : Claim7 := { stood := { row := fnExactIsSolvedUptoRow, standIns := [], harness := (true, "e64b37a08ad75774d4fb753e7951a683799e2c5319f73f5b1e0e03336482a9ec"), looks := false }, kinds := [], alts := [], laidByText := true, laidKinds := [.data, .pinned], laidTests := true, laidLooks := .later }
def FnExactIsSolvedUptoCardSaid : Prop := Claim7.holds Tryd.pinned (.plain (OpenSpec.upto fnExactIsSolvedSpec)) fnExactIsSolvedUptoCard

/-- THE SECOND FORM's CARD OF 'laws.FnExactBestClue'. -/
def fnExactBestClueUptoCard : Claim7 := { stood := { row := fnExactBestClueUptoRow, standIns := [], harness := (true, "e64b37a08ad75774d4fb753e7951a683799e2c5319f73f5b1e0e03336482a9ec"), looks := false }, kinds := [], alts := [], laidByText := true, laidKinds := [.data, .pinned], laidTests := true, laidLooks := .later }
def FnExactBestClueUptoCardSaid : Prop := Claim7.holds Tryd.pinned (.plain (OpenSpec.upto fnExactBestClueSpec)) fnExactBestClueUptoCard

/-- THE SECOND FORM's CARD OF 'laws.FnExactSureCells'. -/
def fnExactSureCellsUptoCard : Claim7 := { stood := { row := fnExactSureCellsUptoRow, standIns := [], harness := (true, "e64b37a08ad75774d4fb753e7951a683799e2c5319f73f5b1e0e03336482a9ec"), looks := false }, kinds := [], alts := [], laidByText := true, laidKinds := [.data, .pinned], laidTests := true, laidLooks := .later }
def FnExactSureCellsUptoCardSaid : Prop := Claim7.holds Tryd.pinned (.plain (OpenSpec.upto fnExactSureCellsSpec)) fnExactSureCellsUptoCard

/-- THE SECOND FORM's CARD OF 'laws.FnExactLeftByClues'. -/
def fnExactLeftByCluesUptoCard : Claim7 := { stood := { row := fnExactLeftByCluesUptoRow, standIns := [], harness := (true, "e64b37a08ad75774d4fb753e7951a683799e2c5319f73f5b1e0e03336482a9ec"), looks := false }, kinds := [], alts := [], laidByText := true, laidKinds := [.data, .pinned], laidTests := true, laidLooks := .later }
def FnExactLeftByCluesUptoCardSaid : Prop := Claim7.holds Tryd.pinned (.plain (OpenSpec.upto fnExactLeftByCluesSpec)) fnExactLeftByCluesUptoCard

/-- THE SECOND FORM's CARD OF 'laws.FnExactSolutions'. -/
def fnExactSolutionsUptoCard : Claim7 := { stood := { row := fnExactSolutionsUptoRow, standIns := [], harness := (true, "e64b37a08ad75774d4fb753e7951a683799e2c5319f73f5b1e0e03336482a9ec"), looks := false }, kinds := [], alts := [], laidByText := true, laidKinds := [.data, .pinned], laidTests := true, laidLooks := .later }
def FnExactSolutionsUptoCardSaid : Prop := Claim7.holds Tryd.pinned (.plain (OpenSpec.upto fnExactSolutionsSpec)) fnExactSolutionsUptoCard

/-- THE SECOND FORM's CARD OF 'laws.FnExactNeedlessClues'. -/
def fnExactNeedlessCluesUptoCard : Claim7 := { stood := { row := fnExactNeedlessCluesUptoRow, standIns := [], harness := (true, "e64b37a08ad75774d4fb753e7951a683799e2c5319f73f5b1e0e03336482a9ec"), looks := false }, kinds := [], alts := [], laidByText := true, laidKinds := [.data, .pinned], laidTests := true, laidLooks := .later }
def FnExactNeedlessCluesUptoCardSaid : Prop := Claim7.holds Tryd.pinned (.plain (OpenSpec.upto fnExactNeedlessCluesSpec)) fnExactNeedlessCluesUptoCard

/-- THE SECOND FORM's CARD OF 'laws.FnExactHarderPuzzle'. -/
def fnExactHarderPuzzleUptoCard : Claim7 := { stood := { row := fnExactHarderPuzzleUptoRow, standIns := [], harness := (true, "e64b37a08ad75774d4fb753e7951a683799e2c5319f73f5b1e0e03336482a9ec"), looks := false }, kinds := [], alts := [], laidByText := true, laidKinds := [.data, .pinned], laidTests := true, laidLooks := .later }
def FnExactHarderPuzzleUptoCardSaid : Prop := Claim7.holds Tryd.pinned (.plain (OpenSpec.upto fnExactHarderPuzzleSpec)) fnExactHarderPuzzleUptoCard
end Rows
end Go.Proofs.YteemifeclhenbaaDoor
