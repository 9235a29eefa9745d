/-
  DERIVED. GIVEN WITH THE SEED: THE CARDS: each row of YtodmlhpobebdgaaDoorRows.lean that lists a variable, with what it lists TIED to the program's text (the seventh form; the later family's looks); each row that meets fmt, with fmt's text TOLD by the authors' own Lean function (tested against real Go, not proved from fmt's source: count such statements apart). THE CARD IS WHAT COUNTS. Prove the row's statement (the work); the ties are given (YtodmlhpobebdgaaDoorTie.lean); close each card by the builder's one call (the guide's Derived/Test/ToyasCard.lean, 'card_holds'). Laid BY PROGRAM, IN A SANDBOX (cutbox-door.mjs). By AI agents, Wed Nov 11 2026. No macro, syntax, notation, axiom, sorry.
-/
import Derived.Test.YtodmlhpobebdgaaDoorRows
import GoSem.ClaimSeven
namespace Go.Proofs.YtodmlhpobebdgaaDoor
namespace Rows

/-- THE TIED CARD OF 'laws.FnExactIsDesk'. -/
def fnExactIsDeskCard : Claim7 := { stood := { row := fnExactIsDeskRow, standIns := [], harness := (true, "54785b714256368f670a64c0d0e70304c50f9b84b9cc3b09f68c5d3257a12034"), looks := false }, kinds := [], alts := [], laidByText := true, laidKinds := [.data, .pinned], laidTests := true, laidLooks := .later }
def FnExactIsDeskCardSaid : Prop := Claim7.holds Tryd.pinned (.plain (OpenSpec.ofChange fnExactIsDeskSpec)) fnExactIsDeskCard

/-- THE TIED CARD OF 'laws.FnExactMakePuzzle'. -/
def fnExactMakePuzzleCard : Claim7 := { stood := { row := fnExactMakePuzzleRow, standIns := [], harness := (true, "54785b714256368f670a64c0d0e70304c50f9b84b9cc3b09f68c5d3257a12034"), looks := false }, kinds := [], alts := [], laidByText := true, laidKinds := [.data, .pinned], laidTests := true, laidLooks := .later }
def FnExactMakePuzzleCardSaid : Prop := Claim7.holds Tryd.pinned (.plain (OpenSpec.ofChange fnExactMakePuzzleSpec)) fnExactMakePuzzleCard

/-- THE SECOND FORM's CARD OF 'laws.FnExactIsDesk'. -/
def fnExactIsDeskUptoCard : Claim7 := { stood := { row := fnExactIsDeskUptoRow, standIns := [], harness := (true, "54785b714256368f670a64c0d0e70304c50f9b84b9cc3b09f68c5d3257a12034"), looks := false }, kinds := [], alts := [], laidByText := true, laidKinds := [.data, .pinned], laidTests := true, laidLooks := .later }
def FnExactIsDeskUptoCardSaid : Prop := Claim7.holds Tryd.pinned (.plain (OpenSpec.upto fnExactIsDeskSpec)) fnExactIsDeskUptoCard

/-- THE SECOND FORM's CARD OF 'laws.FnExactMakePuzzle'. -/
def fnExactMakePuzzleUptoCard : Claim7 := { stood := { row := fnExactMakePuzzleUptoRow, standIns := [], harness := (true, "54785b714256368f670a64c0d0e70304c50f9b84b9cc3b09f68c5d3257a12034"), looks := false }, kinds := [], alts := [], laidByText := true, laidKinds := [.data, .pinned], laidTests := true, laidLooks := .later }
def FnExactMakePuzzleUptoCardSaid : Prop := Claim7.holds Tryd.pinned (.plain (OpenSpec.upto fnExactMakePuzzleSpec)) fnExactMakePuzzleUptoCard
end Rows
end Go.Proofs.YtodmlhpobebdgaaDoor
