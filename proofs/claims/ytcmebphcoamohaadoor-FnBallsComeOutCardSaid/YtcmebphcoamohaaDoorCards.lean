/-
  DERIVED. GIVEN WITH THE SEED: THE CARDS: each row of YtcmebphcoamohaaDoorRows.lean that lists a variable, with what it lists TIED to the program's text (the seventh form; the later family's looks); each row that meets fmt, with fmt's text TOLD by the authors' own Lean function (tested against real Go, not proved from fmt's source: count such statements apart). THE CARD IS WHAT COUNTS. Prove the row's statement (the work); the ties are given (YtcmebphcoamohaaDoorTie.lean); close each card by the builder's one call (the guide's Derived/Test/ToyasCard.lean, 'card_holds'). Laid BY PROGRAM, IN A SANDBOX (cutbox-door.mjs). By AI agents, Wed Nov 11 2026. No macro, syntax, notation, axiom, sorry.
-/
import Derived.Test.YtcmebphcoamohaaDoorRows
import GoSem.ClaimSeven
namespace Go.Proofs.YtcmebphcoamohaaDoor
namespace Rows

/-- THE TIED CARD OF 'laws.FnBallsComeOut'. -/
def fnBallsComeOutCard : Claim7 := { stood := { row := fnBallsComeOutRow, standIns := [], harness := (true, "56f8a33ebb593051470670ef56a1e4d5dbe933f00e5a44df1c05cde9988efa09"), looks := false }, kinds := [], alts := [], laidByText := true, laidKinds := [.data, .pinned], laidTests := true, laidLooks := .later }
def FnBallsComeOutCardSaid : Prop := Claim7.holds Tryd.pinned (.plain (OpenSpec.ofChange fnBallsComeOutSpec)) fnBallsComeOutCard

/-- THE SECOND FORM's CARD OF 'laws.FnBallsComeOut'. -/
def fnBallsComeOutUptoCard : Claim7 := { stood := { row := fnBallsComeOutUptoRow, standIns := [], harness := (true, "56f8a33ebb593051470670ef56a1e4d5dbe933f00e5a44df1c05cde9988efa09"), looks := false }, kinds := [], alts := [], laidByText := true, laidKinds := [.data, .pinned], laidTests := true, laidLooks := .later }
def FnBallsComeOutUptoCardSaid : Prop := Claim7.holds Tryd.pinned (.plain (OpenSpec.upto fnBallsComeOutSpec)) fnBallsComeOutUptoCard
end Rows
end Go.Proofs.YtcmebphcoamohaaDoor
