/-
  DERIVED. GIVEN WITH THE SEED: THE CARDS: each row of YtkaiidmnigpicaaGreatDoorRows.lean that lists a variable, with what it lists TIED to the program's text (the seventh form; the later family's looks); each row that meets fmt, with fmt's text TOLD by the authors' own Lean function (tested against real Go, not proved from fmt's source: count such statements apart). THE CARD IS WHAT COUNTS. Prove the row's statement (the work); the ties are given (YtkaiidmnigpicaaGreatDoorTie.lean); close each card by the builder's one call (the guide's Derived/Test/ToyasCard.lean, 'card_holds'). Laid BY PROGRAM, IN A SANDBOX (cutbox-door.mjs). By AI agents, Wed Nov 11 2026. No macro, syntax, notation, axiom, sorry.
-/
import Derived.Test.YtkaiidmnigpicaaGreatDoorRows
import GoSem.ClaimSeven
namespace Go.Proofs.YtkaiidmnigpicaaGreatDoor
namespace Rows

/-- THE TIED CARD OF 'laws.FnWorldsTurned'. -/
def fnWorldsTurnedCard : Claim7 := { stood := { row := fnWorldsTurnedRow, standIns := [], harness := (true, "6a2825c452ae54e7281aafbaa7467f642c502e592fb78906434f48216c93880f"), looks := true }, kinds := [], alts := [], laidByText := true, laidKinds := [.data, .data, .data, .data, .sentinel, .sentinel, .pinned], laidTests := true, laidLooks := .later }
def FnWorldsTurnedCardSaid : Prop := Claim7.holds Tryz.pinned (.plain (OpenSpec.ofChange fnWorldsTurnedSpec)) fnWorldsTurnedCard

/-- THE SECOND FORM's CARD OF 'laws.FnWorldsTurned'. -/
def fnWorldsTurnedUptoCard : Claim7 := { stood := { row := fnWorldsTurnedUptoRow, standIns := [], harness := (true, "6a2825c452ae54e7281aafbaa7467f642c502e592fb78906434f48216c93880f"), looks := true }, kinds := [], alts := [], laidByText := true, laidKinds := [.data, .data, .data, .data, .sentinel, .sentinel, .pinned], laidTests := true, laidLooks := .later }
def FnWorldsTurnedUptoCardSaid : Prop := Claim7.holds Tryz.pinned (.plain (OpenSpec.upto fnWorldsTurnedSpec)) fnWorldsTurnedUptoCard
end Rows
end Go.Proofs.YtkaiidmnigpicaaGreatDoor
