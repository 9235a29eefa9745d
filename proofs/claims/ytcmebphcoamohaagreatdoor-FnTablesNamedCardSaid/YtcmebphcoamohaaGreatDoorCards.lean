/-
  DERIVED. GIVEN WITH THE SEED: THE CARDS: each row of YtcmebphcoamohaaGreatDoorRows.lean that lists a variable, with what it lists TIED to the program's text (the seventh form; the later family's looks); each row that meets fmt, with fmt's text TOLD by the authors' own Lean function (tested against real Go, not proved from fmt's source: count such statements apart). THE CARD IS WHAT COUNTS. Prove the row's statement (the work); the ties are given (YtcmebphcoamohaaGreatDoorTie.lean); close each card by the builder's one call (the guide's Derived/Test/ToyasCard.lean, 'card_holds'). Laid BY PROGRAM, IN A SANDBOX (cutbox-door.mjs). By AI agents, Wed Nov 11 2026. No macro, syntax, notation, axiom, sorry.
-/
import Derived.Test.YtcmebphcoamohaaGreatDoorRows
import GoSem.ClaimSeven
namespace Go.Proofs.YtcmebphcoamohaaGreatDoor
namespace Rows

/-- THE TIED CARD OF 'laws.FnMazesTurn'. -/
def fnMazesTurnCard : Claim7 := { stood := { row := fnMazesTurnRow, standIns := [], harness := (true, "8f1f7d410e243628136a186031abe589ad1968686ada2520f6bfcf9bacdbcd14"), looks := true }, kinds := [], alts := [], laidByText := true, laidKinds := [.data, .data, .data, .data, .sentinel, .sentinel, .pinned], laidTests := true, laidLooks := .later }
def FnMazesTurnCardSaid : Prop := Claim7.holds Tryz.pinned (.plain (OpenSpec.ofChange fnMazesTurnSpec)) fnMazesTurnCard

/-- THE TIED CARD OF 'laws.FnTablesNamed'. -/
def fnTablesNamedCard : Claim7 := { stood := { row := fnTablesNamedRow, standIns := [], harness := (true, "8f1f7d410e243628136a186031abe589ad1968686ada2520f6bfcf9bacdbcd14"), looks := true }, kinds := [], alts := [], laidByText := true, laidKinds := [.data, .data, .data, .data, .sentinel, .sentinel, .pinned], laidTests := true, laidLooks := .later }
def FnTablesNamedCardSaid : Prop := Claim7.holds Tryz.pinned (.plain (OpenSpec.ofChange fnTablesNamedSpec)) fnTablesNamedCard

/-- THE SECOND FORM's CARD OF 'laws.FnMazesTurn'. -/
def fnMazesTurnUptoCard : Claim7 := { stood := { row := fnMazesTurnUptoRow, standIns := [], harness := (true, "8f1f7d410e243628136a186031abe589ad1968686ada2520f6bfcf9bacdbcd14"), looks := true }, kinds := [], alts := [], laidByText := true, laidKinds := [.data, .data, .data, .data, .sentinel, .sentinel, .pinned], laidTests := true, laidLooks := .later }
def FnMazesTurnUptoCardSaid : Prop := Claim7.holds Tryz.pinned (.plain (OpenSpec.upto fnMazesTurnSpec)) fnMazesTurnUptoCard

/-- THE SECOND FORM's CARD OF 'laws.FnTablesNamed'. -/
def fnTablesNamedUptoCard : Claim7 := { stood := { row := fnTablesNamedUptoRow, standIns := [], harness := (true, "8f1f7d410e243628136a186031abe589ad1968686ada2520f6bfcf9bacdbcd14"), looks := true }, kinds := [], alts := [], laidByText := true, laidKinds := [.data, .data, .data, .data, .sentinel, .sentinel, .pinned], laidTests := true, laidLooks := .later }
def FnTablesNamedUptoCardSaid : Prop := Claim7.holds Tryz.pinned (.plain (OpenSpec.upto fnTablesNamedSpec)) fnTablesNamedUptoCard
end Rows
end Go.Proofs.YtcmebphcoamohaaGreatDoor
