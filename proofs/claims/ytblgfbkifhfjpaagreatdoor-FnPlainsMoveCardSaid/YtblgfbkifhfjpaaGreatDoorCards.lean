/-
  DERIVED. GIVEN WITH THE SEED: THE CARDS: each row of YtblgfbkifhfjpaaGreatDoorRows.lean that lists a variable, with what it lists TIED to the program's text (the seventh form; the later family's looks); each row that meets fmt, with fmt's text TOLD by the authors' own Lean function (tested against real Go, not proved from fmt's source: count such statements apart). THE CARD IS WHAT COUNTS. Prove the row's statement (the work); the ties are given (YtblgfbkifhfjpaaGreatDoorTie.lean); close each card by the builder's one call (the guide's Derived/Test/ToyasCard.lean, 'card_holds'). Laid BY PROGRAM, IN A SANDBOX (cutbox-door.mjs). By AI agents, Wed Nov 11 2026. No macro, syntax, notation, axiom, sorry.
-/
import Derived.Test.YtblgfbkifhfjpaaGreatDoorRows
import GoSem.ClaimSeven
namespace Go.Proofs.YtblgfbkifhfjpaaGreatDoor
namespace Rows

/-- THE TIED CARD OF 'laws.FnPlainsMove'. -/
def fnPlainsMoveCard : Claim7 := { stood := { row := fnPlainsMoveRow, standIns := [], harness := (true, "d9fe792095a468434f63dc7d1477765ac860cafcbb26ea68b6c7fc44be3593b1"), looks := true }, kinds := [], alts := [], laidByText := true, laidKinds := [.data, .pinned], laidTests := true, laidLooks := .later }
def FnPlainsMoveCardSaid : Prop := Claim7.holds Tryz.pinned (.plain (OpenSpec.ofChange fnPlainsMoveSpec)) fnPlainsMoveCard

/-- THE SECOND FORM's CARD OF 'laws.FnPlainsMove'. -/
def fnPlainsMoveUptoCard : Claim7 := { stood := { row := fnPlainsMoveUptoRow, standIns := [], harness := (true, "d9fe792095a468434f63dc7d1477765ac860cafcbb26ea68b6c7fc44be3593b1"), looks := true }, kinds := [], alts := [], laidByText := true, laidKinds := [.data, .pinned], laidTests := true, laidLooks := .later }
def FnPlainsMoveUptoCardSaid : Prop := Claim7.holds Tryz.pinned (.plain (OpenSpec.upto fnPlainsMoveSpec)) fnPlainsMoveUptoCard
end Rows
end Go.Proofs.YtblgfbkifhfjpaaGreatDoor
