/-
  DERIVED. GIVEN WITH THE SEED: THE CARDS: each row of YtglncfpijlimmaaDoorRows.lean that lists a variable, with what it lists TIED to the program's text (the seventh form; the later family's looks); each row that meets fmt, with fmt's text TOLD by the authors' own Lean function (tested against real Go, not proved from fmt's source: count such statements apart). THE CARD IS WHAT COUNTS. Prove the row's statement (the work); the ties are given (YtglncfpijlimmaaDoorTie.lean); close each card by the builder's one call (the guide's Derived/Test/ToyasCard.lean, 'card_holds'). Laid BY PROGRAM, IN A SANDBOX (cutbox-door.mjs). By AI agents, Wed Nov 11 2026. No macro, syntax, notation, axiom, sorry.
-/
import Derived.Test.YtglncfpijlimmaaDoorRows
import GoSem.ClaimSeven
namespace Go.Proofs.YtglncfpijlimmaaDoor
namespace Rows

/-- THE TIED CARD OF 'laws.FnExactDriftOf'. -/
def fnExactDriftOfCard : Claim7 := { stood := { row := fnExactDriftOfRow, standIns := [], harness := (true, "a61b89b2c1639648ab1290f648f2d98746050b8a56e7f17c72ef97dec96402ee"), looks := false }, kinds := [], alts := [], laidByText := true, laidKinds := [.data, .pinned], laidTests := true, laidLooks := .later }
def FnExactDriftOfCardSaid : Prop := Claim7.holds Tryd.pinned (.plain (OpenSpec.ofChange fnExactDriftOfSpec)) fnExactDriftOfCard

/-- THE TIED CARD OF 'laws.FnExactIsHighway'. -/
def fnExactIsHighwayCard : Claim7 := { stood := { row := fnExactIsHighwayRow, standIns := [], harness := (true, "a61b89b2c1639648ab1290f648f2d98746050b8a56e7f17c72ef97dec96402ee"), looks := false }, kinds := [], alts := [], laidByText := true, laidKinds := [.data, .pinned], laidTests := true, laidLooks := .later }
def FnExactIsHighwayCardSaid : Prop := Claim7.holds Tryd.pinned (.plain (OpenSpec.ofChange fnExactIsHighwaySpec)) fnExactIsHighwayCard

/-- THE TIED CARD OF 'laws.FnExactLoopOfScene'. -/
def fnExactLoopOfSceneCard : Claim7 := { stood := { row := fnExactLoopOfSceneRow, standIns := [], harness := (true, "a61b89b2c1639648ab1290f648f2d98746050b8a56e7f17c72ef97dec96402ee"), looks := false }, kinds := [], alts := [], laidByText := true, laidKinds := [.data, .data, .data], laidTests := true, laidLooks := .later }
def FnExactLoopOfSceneCardSaid : Prop := Claim7.holds Tryd.pinned (.plain (OpenSpec.ofChange fnExactLoopOfSceneSpec)) fnExactLoopOfSceneCard

/-- THE TIED CARD OF 'laws.FnExactTurnsOfPlain'. -/
def fnExactTurnsOfPlainCard : Claim7 := { stood := { row := fnExactTurnsOfPlainRow, standIns := [], harness := (true, "a61b89b2c1639648ab1290f648f2d98746050b8a56e7f17c72ef97dec96402ee"), looks := false }, kinds := [], alts := [], laidByText := true, laidKinds := [.data, .pinned], laidTests := true, laidLooks := .later }
def FnExactTurnsOfPlainCardSaid : Prop := Claim7.holds Tryd.pinned (.plain (OpenSpec.ofChange fnExactTurnsOfPlainSpec)) fnExactTurnsOfPlainCard

/-- THE SECOND FORM's CARD OF 'laws.FnExactDriftOf'. -/
def fnExactDriftOfUptoCard : Claim7 := { stood := { row := fnExactDriftOfUptoRow, standIns := [], harness := (true, "a61b89b2c1639648ab1290f648f2d98746050b8a56e7f17c72ef97dec96402ee"), looks := false }, kinds := [], alts := [], laidByText := true, laidKinds := [.data, .pinned], laidTests := true, laidLooks := .later }
def FnExactDriftOfUptoCardSaid : Prop := Claim7.holds Tryd.pinned (.plain (OpenSpec.upto fnExactDriftOfSpec)) fnExactDriftOfUptoCard

/-- THE SECOND FORM's CARD OF 'laws.FnExactIsHighway'. -/
def fnExactIsHighwayUptoCard : Claim7 := { stood := { row := fnExactIsHighwayUptoRow, standIns := [], harness := (true, "a61b89b2c1639648ab1290f648f2d98746050b8a56e7f17c72ef97dec96402ee"), looks := false }, kinds := [], alts := [], laidByText := true, laidKinds := [.data, .pinned], laidTests := true, laidLooks := .later }
def FnExactIsHighwayUptoCardSaid : Prop := Claim7.holds Tryd.pinned (.plain (OpenSpec.upto fnExactIsHighwaySpec)) fnExactIsHighwayUptoCard

/-- THE SECOND FORM's CARD OF 'laws.FnExactLoopOfScene'. -/
def fnExactLoopOfSceneUptoCard : Claim7 := { stood := { row := fnExactLoopOfSceneUptoRow, standIns := [], harness := (true, "a61b89b2c1639648ab1290f648f2d98746050b8a56e7f17c72ef97dec96402ee"), looks := false }, kinds := [], alts := [], laidByText := true, laidKinds := [.data, .data, .data], laidTests := true, laidLooks := .later }
def FnExactLoopOfSceneUptoCardSaid : Prop := Claim7.holds Tryd.pinned (.plain (OpenSpec.upto fnExactLoopOfSceneSpec)) fnExactLoopOfSceneUptoCard

/-- THE SECOND FORM's CARD OF 'laws.FnExactTurnsOfPlain'. -/
def fnExactTurnsOfPlainUptoCard : Claim7 := { stood := { row := fnExactTurnsOfPlainUptoRow, standIns := [], harness := (true, "a61b89b2c1639648ab1290f648f2d98746050b8a56e7f17c72ef97dec96402ee"), looks := false }, kinds := [], alts := [], laidByText := true, laidKinds := [.data, .pinned], laidTests := true, laidLooks := .later }
def FnExactTurnsOfPlainUptoCardSaid : Prop := Claim7.holds Tryd.pinned (.plain (OpenSpec.upto fnExactTurnsOfPlainSpec)) fnExactTurnsOfPlainUptoCard
end Rows
end Go.Proofs.YtglncfpijlimmaaDoor
