/-
  DERIVED. GIVEN WITH THE SEED: THE CARDS: each row of YtmdgodjcfhimbaaGreatDoorRows.lean that lists a variable, with what it lists TIED to the program's text (the seventh form; the later family's looks); each row that meets fmt, with fmt's text TOLD by the authors' own Lean function (tested against real Go, not proved from fmt's source: count such statements apart). THE CARD IS WHAT COUNTS. Prove the row's statement (the work); the ties are given (YtmdgodjcfhimbaaGreatDoorTie.lean); close each card by the builder's one call (the guide's Derived/Test/ToyasCard.lean, 'card_holds'). Laid BY PROGRAM, IN A SANDBOX (cutbox-door.mjs). By AI agents, Wed Nov 11 2026. No macro, syntax, notation, axiom, sorry.
-/
import Derived.Test.YtmdgodjcfhimbaaGreatDoorRows
import GoSem.ClaimSeven
namespace Go.Proofs.YtmdgodjcfhimbaaGreatDoor
namespace Rows

/-- THE TIED CARD OF 'laws.FnStepsUndone'. -/
def fnStepsUndoneCard : Claim7 := { stood := { row := fnStepsUndoneRow, standIns := [], harness := (true, "bcef41b5707d8f11a786e7207723fad90d74e326c4b001f90413e2970f6653d6"), looks := true }, kinds := [], alts := [], laidByText := true, laidKinds := [.data, .pinned], laidTests := true, laidLooks := .later }
def FnStepsUndoneCardSaid : Prop := Claim7.holds Tryz.pinned (.plain (OpenSpec.ofChange fnStepsUndoneSpec)) fnStepsUndoneCard

/-- THE TIED CARD OF 'laws.FnBoardsHidden'. -/
def fnBoardsHiddenCard : Claim7 := { stood := { row := fnBoardsHiddenRow, standIns := [], harness := (true, "bcef41b5707d8f11a786e7207723fad90d74e326c4b001f90413e2970f6653d6"), looks := true }, kinds := [], alts := [], laidByText := true, laidKinds := [.data, .pinned], laidTests := true, laidLooks := .later }
def FnBoardsHiddenCardSaid : Prop := Claim7.holds Tryz.pinned (.plain (OpenSpec.ofChange fnBoardsHiddenSpec)) fnBoardsHiddenCard

/-- THE TIED CARD OF 'laws.FnExactMirrorPlain'. -/
def fnExactMirrorPlainCard : Claim7 := { stood := { row := fnExactMirrorPlainRow, standIns := [], harness := (true, "bcef41b5707d8f11a786e7207723fad90d74e326c4b001f90413e2970f6653d6"), looks := true }, kinds := [], alts := [], laidByText := true, laidKinds := [.data, .pinned], laidTests := true, laidLooks := .later }
def FnExactMirrorPlainCardSaid : Prop := Claim7.holds Tryz.pinned (.plain (OpenSpec.ofChange fnExactMirrorPlainSpec)) fnExactMirrorPlainCard

/-- THE SECOND FORM's CARD OF 'laws.FnStepsUndone'. -/
def fnStepsUndoneUptoCard : Claim7 := { stood := { row := fnStepsUndoneUptoRow, standIns := [], harness := (true, "bcef41b5707d8f11a786e7207723fad90d74e326c4b001f90413e2970f6653d6"), looks := true }, kinds := [], alts := [], laidByText := true, laidKinds := [.data, .pinned], laidTests := true, laidLooks := .later }
def FnStepsUndoneUptoCardSaid : Prop := Claim7.holds Tryz.pinned (.plain (OpenSpec.upto fnStepsUndoneSpec)) fnStepsUndoneUptoCard

/-- THE SECOND FORM's CARD OF 'laws.FnBoardsHidden'. -/
def fnBoardsHiddenUptoCard : Claim7 := { stood := { row := fnBoardsHiddenUptoRow, standIns := [], harness := (true, "bcef41b5707d8f11a786e7207723fad90d74e326c4b001f90413e2970f6653d6"), looks := true }, kinds := [], alts := [], laidByText := true, laidKinds := [.data, .pinned], laidTests := true, laidLooks := .later }
def FnBoardsHiddenUptoCardSaid : Prop := Claim7.holds Tryz.pinned (.plain (OpenSpec.upto fnBoardsHiddenSpec)) fnBoardsHiddenUptoCard

/-- THE SECOND FORM's CARD OF 'laws.FnExactMirrorPlain'. -/
def fnExactMirrorPlainUptoCard : Claim7 := { stood := { row := fnExactMirrorPlainUptoRow, standIns := [], harness := (true, "bcef41b5707d8f11a786e7207723fad90d74e326c4b001f90413e2970f6653d6"), looks := true }, kinds := [], alts := [], laidByText := true, laidKinds := [.data, .pinned], laidTests := true, laidLooks := .later }
def FnExactMirrorPlainUptoCardSaid : Prop := Claim7.holds Tryz.pinned (.plain (OpenSpec.upto fnExactMirrorPlainSpec)) fnExactMirrorPlainUptoCard
end Rows
end Go.Proofs.YtmdgodjcfhimbaaGreatDoor
