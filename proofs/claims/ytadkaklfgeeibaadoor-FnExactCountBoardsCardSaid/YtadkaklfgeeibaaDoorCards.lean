/-
  DERIVED. GIVEN WITH THE SEED: THE CARDS: each row of YtadkaklfgeeibaaDoorRows.lean that lists a variable, with what it lists TIED to the program's text (the seventh form; the later family's looks); each row that meets fmt, with fmt's text TOLD by the authors' own Lean function (tested against real Go, not proved from fmt's source: count such statements apart). THE CARD IS WHAT COUNTS. Prove the row's statement (the work); the ties are given (YtadkaklfgeeibaaDoorTie.lean); close each card by the builder's one call (the guide's Derived/Test/ToyasCard.lean, 'card_holds'). Laid BY PROGRAM, IN A SANDBOX (cutbox-door.mjs). By AI agents, Wed Nov 11 2026. No macro, syntax, notation, axiom, sorry.
-/
import Derived.Test.YtadkaklfgeeibaaDoorRows
import GoSem.ClaimSeven
namespace Go.Proofs.YtadkaklfgeeibaaDoor
namespace Rows

/-- THE TIED CARD OF 'laws.FnExactCountBoards'. -/
def fnExactCountBoardsCard : Claim7 := { stood := { row := fnExactCountBoardsRow, standIns := [], harness := (true, "815a6a21907a2521e9cb88b58ea72325445a206cc88bf7719d621ea91407286d"), looks := false }, kinds := [], alts := [], laidByText := true, laidKinds := [.data, .pinned], laidTests := true, laidLooks := .later }
def FnExactCountBoardsCardSaid : Prop := Claim7.holds Tryd.pinned (.plain (OpenSpec.ofChange fnExactCountBoardsSpec)) fnExactCountBoardsCard

/-- THE TIED CARD OF 'laws.FnExactIsClue'. -/
def fnExactIsClueCard : Claim7 := { stood := { row := fnExactIsClueRow, standIns := [], harness := (true, "815a6a21907a2521e9cb88b58ea72325445a206cc88bf7719d621ea91407286d"), looks := false }, kinds := [], alts := [], laidByText := true, laidKinds := [.data, .pinned], laidTests := true, laidLooks := .later }
def FnExactIsClueCardSaid : Prop := Claim7.holds Tryd.pinned (.plain (OpenSpec.ofChange fnExactIsClueSpec)) fnExactIsClueCard

/-- THE TIED CARD OF 'laws.FnExactIsPuzzle'. -/
def fnExactIsPuzzleCard : Claim7 := { stood := { row := fnExactIsPuzzleRow, standIns := [], harness := (true, "815a6a21907a2521e9cb88b58ea72325445a206cc88bf7719d621ea91407286d"), looks := false }, kinds := [], alts := [], laidByText := true, laidKinds := [.data, .pinned], laidTests := true, laidLooks := .later }
def FnExactIsPuzzleCardSaid : Prop := Claim7.holds Tryd.pinned (.plain (OpenSpec.ofChange fnExactIsPuzzleSpec)) fnExactIsPuzzleCard

/-- THE SECOND FORM's CARD OF 'laws.FnExactCountBoards'. -/
def fnExactCountBoardsUptoCard : Claim7 := { stood := { row := fnExactCountBoardsUptoRow, standIns := [], harness := (true, "815a6a21907a2521e9cb88b58ea72325445a206cc88bf7719d621ea91407286d"), looks := false }, kinds := [], alts := [], laidByText := true, laidKinds := [.data, .pinned], laidTests := true, laidLooks := .later }
def FnExactCountBoardsUptoCardSaid : Prop := Claim7.holds Tryd.pinned (.plain (OpenSpec.upto fnExactCountBoardsSpec)) fnExactCountBoardsUptoCard

/-- THE SECOND FORM's CARD OF 'laws.FnExactIsClue'. -/
def fnExactIsClueUptoCard : Claim7 := { stood := { row := fnExactIsClueUptoRow, standIns := [], harness := (true, "815a6a21907a2521e9cb88b58ea72325445a206cc88bf7719d621ea91407286d"), looks := false }, kinds := [], alts := [], laidByText := true, laidKinds := [.data, .pinned], laidTests := true, laidLooks := .later }
def FnExactIsClueUptoCardSaid : Prop := Claim7.holds Tryd.pinned (.plain (OpenSpec.upto fnExactIsClueSpec)) fnExactIsClueUptoCard

/-- THE SECOND FORM's CARD OF 'laws.FnExactIsPuzzle'. -/
def fnExactIsPuzzleUptoCard : Claim7 := { stood := { row := fnExactIsPuzzleUptoRow, standIns := [], harness := (true, "815a6a21907a2521e9cb88b58ea72325445a206cc88bf7719d621ea91407286d"), looks := false }, kinds := [], alts := [], laidByText := true, laidKinds := [.data, .pinned], laidTests := true, laidLooks := .later }
def FnExactIsPuzzleUptoCardSaid : Prop := Claim7.holds Tryd.pinned (.plain (OpenSpec.upto fnExactIsPuzzleSpec)) fnExactIsPuzzleUptoCard
end Rows
end Go.Proofs.YtadkaklfgeeibaaDoor
