/-
  DERIVED. GIVEN WITH THE SEED: THE CARDS: each row of YtplamonjnlgomaaGreatDoorRows.lean that lists a variable, with what it lists TIED to the program's text (the seventh form; the later family's looks); each row that meets fmt, with fmt's text TOLD by the authors' own Lean function (tested against real Go, not proved from fmt's source: count such statements apart). THE CARD IS WHAT COUNTS. Prove the row's statement (the work); the ties are given (YtplamonjnlgomaaGreatDoorTie.lean); close each card by the builder's one call (the guide's Derived/Test/ToyasCard.lean, 'card_holds'). Laid BY PROGRAM, IN A SANDBOX (cutbox-door.mjs). By AI agents, Wed Nov 11 2026. No macro, syntax, notation, axiom, sorry.
-/
import Derived.Test.YtplamonjnlgomaaGreatDoorRows
import GoSem.ClaimSeven
namespace Go.Proofs.YtplamonjnlgomaaGreatDoor
namespace Rows

/-- THE TIED CARD OF 'laws.FnPlainsGo'. -/
def fnPlainsGoCard : Claim7 := { stood := { row := fnPlainsGoRow, standIns := [], harness := (true, "6c35dc0646a1251b19581f23b993e01975a7b90a76fcae541882315e3f0f1123"), looks := true }, kinds := [], alts := [], laidByText := true, laidKinds := [.data, .pinned], laidTests := true, laidLooks := .later }
def FnPlainsGoCardSaid : Prop := Claim7.holds Tryz.pinned (.plain (OpenSpec.ofChange fnPlainsGoSpec)) fnPlainsGoCard

/-- THE TIED CARD OF 'laws.FnBoardsGuessed'. -/
def fnBoardsGuessedCard : Claim7 := { stood := { row := fnBoardsGuessedRow, standIns := [], harness := (true, "6c35dc0646a1251b19581f23b993e01975a7b90a76fcae541882315e3f0f1123"), looks := true }, kinds := [], alts := [], laidByText := true, laidKinds := [.data, .data, .data, .data, .sentinel, .sentinel, .pinned], laidTests := true, laidLooks := .later }
def FnBoardsGuessedCardSaid : Prop := Claim7.holds Tryz.pinned (.plain (OpenSpec.ofChange fnBoardsGuessedSpec)) fnBoardsGuessedCard

/-- THE TIED CARD OF 'laws.FnWormsLeave'. -/
def fnWormsLeaveCard : Claim7 := { stood := { row := fnWormsLeaveRow, standIns := [], harness := (true, "6c35dc0646a1251b19581f23b993e01975a7b90a76fcae541882315e3f0f1123"), looks := true }, kinds := [], alts := [], laidByText := true, laidKinds := [.data, .data, .data, .data, .sentinel, .sentinel, .pinned], laidTests := true, laidLooks := .later }
def FnWormsLeaveCardSaid : Prop := Claim7.holds Tryz.pinned (.plain (OpenSpec.ofChange fnWormsLeaveSpec)) fnWormsLeaveCard

/-- THE TIED CARD OF 'laws.FnLoopsClose'. -/
def fnLoopsCloseCard : Claim7 := { stood := { row := fnLoopsCloseRow, standIns := [], harness := (true, "6c35dc0646a1251b19581f23b993e01975a7b90a76fcae541882315e3f0f1123"), looks := true }, kinds := [], alts := [], laidByText := true, laidKinds := [.data, .pinned], laidTests := true, laidLooks := .later }
def FnLoopsCloseCardSaid : Prop := Claim7.holds Tryz.pinned (.plain (OpenSpec.ofChange fnLoopsCloseSpec)) fnLoopsCloseCard

/-- THE SECOND FORM's CARD OF 'laws.FnPlainsGo'. -/
def fnPlainsGoUptoCard : Claim7 := { stood := { row := fnPlainsGoUptoRow, standIns := [], harness := (true, "6c35dc0646a1251b19581f23b993e01975a7b90a76fcae541882315e3f0f1123"), looks := true }, kinds := [], alts := [], laidByText := true, laidKinds := [.data, .pinned], laidTests := true, laidLooks := .later }
def FnPlainsGoUptoCardSaid : Prop := Claim7.holds Tryz.pinned (.plain (OpenSpec.upto fnPlainsGoSpec)) fnPlainsGoUptoCard

/-- THE SECOND FORM's CARD OF 'laws.FnBoardsGuessed'. -/
def fnBoardsGuessedUptoCard : Claim7 := { stood := { row := fnBoardsGuessedUptoRow, standIns := [], harness := (true, "6c35dc0646a1251b19581f23b993e01975a7b90a76fcae541882315e3f0f1123"), looks := true }, kinds := [], alts := [], laidByText := true, laidKinds := [.data, .data, .data, .data, .sentinel, .sentinel, .pinned], laidTests := true, laidLooks := .later }
def FnBoardsGuessedUptoCardSaid : Prop := Claim7.holds Tryz.pinned (.plain (OpenSpec.upto fnBoardsGuessedSpec)) fnBoardsGuessedUptoCard

/-- THE SECOND FORM's CARD OF 'laws.FnWormsLeave'. -/
def fnWormsLeaveUptoCard : Claim7 := { stood := { row := fnWormsLeaveUptoRow, standIns := [], harness := (true, "6c35dc0646a1251b19581f23b993e01975a7b90a76fcae541882315e3f0f1123"), looks := true }, kinds := [], alts := [], laidByText := true, laidKinds := [.data, .data, .data, .data, .sentinel, .sentinel, .pinned], laidTests := true, laidLooks := .later }
def FnWormsLeaveUptoCardSaid : Prop := Claim7.holds Tryz.pinned (.plain (OpenSpec.upto fnWormsLeaveSpec)) fnWormsLeaveUptoCard

/-- THE SECOND FORM's CARD OF 'laws.FnLoopsClose'. -/
def fnLoopsCloseUptoCard : Claim7 := { stood := { row := fnLoopsCloseUptoRow, standIns := [], harness := (true, "6c35dc0646a1251b19581f23b993e01975a7b90a76fcae541882315e3f0f1123"), looks := true }, kinds := [], alts := [], laidByText := true, laidKinds := [.data, .pinned], laidTests := true, laidLooks := .later }
def FnLoopsCloseUptoCardSaid : Prop := Claim7.holds Tryz.pinned (.plain (OpenSpec.upto fnLoopsCloseSpec)) fnLoopsCloseUptoCard
end Rows
end Go.Proofs.YtplamonjnlgomaaGreatDoor
