/-
  DERIVED. GIVEN WITH THE SEED: THE CARDS: each row of YtiaagflfiphioaaDoorRows.lean that lists a variable, with what it lists TIED to the program's text (the seventh form; the later family's looks); each row that meets fmt, with fmt's text TOLD by the authors' own Lean function (tested against real Go, not proved from fmt's source: count such statements apart). THE CARD IS WHAT COUNTS. Prove the row's statement (the work); the ties are given (YtiaagflfiphioaaDoorTie.lean); close each card by the builder's one call (the guide's Derived/Test/ToyasCard.lean, 'card_holds'). Laid BY PROGRAM, IN A SANDBOX (cutbox-door.mjs). By AI agents, Wed Nov 11 2026. No macro, syntax, notation, axiom, sorry.
-/
import Derived.Test.YtiaagflfiphioaaDoorRows
import GoSem.ClaimSeven
namespace Go.Proofs.YtiaagflfiphioaaDoor
namespace Rows

/-- THE TIED CARD OF 'laws.FnRotorsShare'. -/
def fnRotorsShareCard : Claim7 := { stood := { row := fnRotorsShareRow, standIns := [], harness := (true, "c401cf9d70d7048d471cd6b8cfc65dc96410fee6c3b265c6675cfbc3f3f51ba4"), looks := false }, kinds := [], alts := [], laidByText := true, laidKinds := [.data, .data, .data], laidTests := true, laidLooks := .later }
def FnRotorsShareCardSaid : Prop := Claim7.holds Tryd.pinned (.plain (OpenSpec.ofChange fnRotorsShareSpec)) fnRotorsShareCard

/-- THE TIED CARD OF 'laws.FnExactLoopOfScene'. -/
def fnExactLoopOfSceneCard : Claim7 := { stood := { row := fnExactLoopOfSceneRow, standIns := [], harness := (true, "c401cf9d70d7048d471cd6b8cfc65dc96410fee6c3b265c6675cfbc3f3f51ba4"), looks := false }, kinds := [], alts := [], laidByText := true, laidKinds := [.data, .data, .data], laidTests := true, laidLooks := .later }
def FnExactLoopOfSceneCardSaid : Prop := Claim7.holds Tryd.pinned (.plain (OpenSpec.ofChange fnExactLoopOfSceneSpec)) fnExactLoopOfSceneCard

/-- THE TIED CARD OF 'laws.FnWalkersSent'. -/
def fnWalkersSentCard : Claim7 := { stood := { row := fnWalkersSentRow, standIns := [], harness := (true, "c401cf9d70d7048d471cd6b8cfc65dc96410fee6c3b265c6675cfbc3f3f51ba4"), looks := false }, kinds := [], alts := [], laidByText := true, laidKinds := [.data, .data, .data], laidTests := true, laidLooks := .later }
def FnWalkersSentCardSaid : Prop := Claim7.holds Tryd.pinned (.plain (OpenSpec.ofChange fnWalkersSentSpec)) fnWalkersSentCard

/-- THE SECOND FORM's CARD OF 'laws.FnRotorsShare'. -/
def fnRotorsShareUptoCard : Claim7 := { stood := { row := fnRotorsShareUptoRow, standIns := [], harness := (true, "c401cf9d70d7048d471cd6b8cfc65dc96410fee6c3b265c6675cfbc3f3f51ba4"), looks := false }, kinds := [], alts := [], laidByText := true, laidKinds := [.data, .data, .data], laidTests := true, laidLooks := .later }
def FnRotorsShareUptoCardSaid : Prop := Claim7.holds Tryd.pinned (.plain (OpenSpec.upto fnRotorsShareSpec)) fnRotorsShareUptoCard

/-- THE SECOND FORM's CARD OF 'laws.FnExactLoopOfScene'. -/
def fnExactLoopOfSceneUptoCard : Claim7 := { stood := { row := fnExactLoopOfSceneUptoRow, standIns := [], harness := (true, "c401cf9d70d7048d471cd6b8cfc65dc96410fee6c3b265c6675cfbc3f3f51ba4"), looks := false }, kinds := [], alts := [], laidByText := true, laidKinds := [.data, .data, .data], laidTests := true, laidLooks := .later }
def FnExactLoopOfSceneUptoCardSaid : Prop := Claim7.holds Tryd.pinned (.plain (OpenSpec.upto fnExactLoopOfSceneSpec)) fnExactLoopOfSceneUptoCard

/-- THE SECOND FORM's CARD OF 'laws.FnWalkersSent'. -/
def fnWalkersSentUptoCard : Claim7 := { stood := { row := fnWalkersSentUptoRow, standIns := [], harness := (true, "c401cf9d70d7048d471cd6b8cfc65dc96410fee6c3b265c6675cfbc3f3f51ba4"), looks := false }, kinds := [], alts := [], laidByText := true, laidKinds := [.data, .data, .data], laidTests := true, laidLooks := .later }
def FnWalkersSentUptoCardSaid : Prop := Claim7.holds Tryd.pinned (.plain (OpenSpec.upto fnWalkersSentSpec)) fnWalkersSentUptoCard
end Rows
end Go.Proofs.YtiaagflfiphioaaDoor
