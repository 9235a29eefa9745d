/-
  DERIVED. GIVEN WITH THE SEED: THE CARDS: each row of YthobhonnicadaaaDoorRows.lean that lists a variable, with what it lists TIED to the program's text (the seventh form; the later family's looks); each row that meets fmt, with fmt's text TOLD by the authors' own Lean function (tested against real Go, not proved from fmt's source: count such statements apart). THE CARD IS WHAT COUNTS. Prove the row's statement (the work); the ties are given (YthobhonnicadaaaDoorTie.lean); close each card by the builder's one call (the guide's Derived/Test/ToyasCard.lean, 'card_holds'). Laid BY PROGRAM, IN A SANDBOX (cutbox-door.mjs). By AI agents, Wed Nov 11 2026. No macro, syntax, notation, axiom, sorry.
-/
import Derived.Test.YthobhonnicadaaaDoorRows
import GoSem.ClaimSeven
namespace Go.Proofs.YthobhonnicadaaaDoor
namespace Rows

/-- THE TIED CARD OF 'laws.FnExactDropClue'. -/
def fnExactDropClueCard : Claim7 := { stood := { row := fnExactDropClueRow, standIns := [], harness := (true, "1420272631acef0f589f9a71fac856a3c47f4c8795852339bdb1c1f79715efcd"), looks := false }, kinds := [], alts := [], laidByText := true, laidKinds := [.data, .pinned], laidTests := true, laidLooks := .later }
def FnExactDropClueCardSaid : Prop := Claim7.holds Tryd.pinned (.plain (OpenSpec.ofChange fnExactDropClueSpec)) fnExactDropClueCard

/-- THE TIED CARD OF 'laws.FnExactHarderPuzzle'. -/
def fnExactHarderPuzzleCard : Claim7 := { stood := { row := fnExactHarderPuzzleRow, standIns := [], harness := (true, "1420272631acef0f589f9a71fac856a3c47f4c8795852339bdb1c1f79715efcd"), looks := false }, kinds := [], alts := [], laidByText := true, laidKinds := [.data, .pinned], laidTests := true, laidLooks := .later }
def FnExactHarderPuzzleCardSaid : Prop := Claim7.holds Tryd.pinned (.plain (OpenSpec.ofChange fnExactHarderPuzzleSpec)) fnExactHarderPuzzleCard

/-- THE TIED CARD OF 'laws.FnExactMovePlain'. -/
def fnExactMovePlainCard : Claim7 := { stood := { row := fnExactMovePlainRow, standIns := [], harness := (true, "1420272631acef0f589f9a71fac856a3c47f4c8795852339bdb1c1f79715efcd"), looks := false }, kinds := [], alts := [], laidByText := true, laidKinds := [.data, .pinned], laidTests := true, laidLooks := .later }
def FnExactMovePlainCardSaid : Prop := Claim7.holds Tryd.pinned (.plain (OpenSpec.ofChange fnExactMovePlainSpec)) fnExactMovePlainCard

/-- THE TIED CARD OF 'laws.FnExactNeedlessClues'. -/
def fnExactNeedlessCluesCard : Claim7 := { stood := { row := fnExactNeedlessCluesRow, standIns := [], harness := (true, "1420272631acef0f589f9a71fac856a3c47f4c8795852339bdb1c1f79715efcd"), looks := false }, kinds := [], alts := [], laidByText := true, laidKinds := [.data, .pinned], laidTests := true, laidLooks := .later }
def FnExactNeedlessCluesCardSaid : Prop := Claim7.holds Tryd.pinned (.plain (OpenSpec.ofChange fnExactNeedlessCluesSpec)) fnExactNeedlessCluesCard

/-- THE TIED CARD OF 'laws.FnExactPlainAfter'. -/
def fnExactPlainAfterCard : Claim7 := { stood := { row := fnExactPlainAfterRow, standIns := [], harness := (true, "1420272631acef0f589f9a71fac856a3c47f4c8795852339bdb1c1f79715efcd"), looks := false }, kinds := [], alts := [], laidByText := true, laidKinds := [.data, .pinned], laidTests := true, laidLooks := .later }
def FnExactPlainAfterCardSaid : Prop := Claim7.holds Tryd.pinned (.plain (OpenSpec.ofChange fnExactPlainAfterSpec)) fnExactPlainAfterCard

/-- THE TIED CARD OF 'laws.FnExactStepPlain'. -/
def fnExactStepPlainCard : Claim7 := { stood := { row := fnExactStepPlainRow, standIns := [], harness := (true, "1420272631acef0f589f9a71fac856a3c47f4c8795852339bdb1c1f79715efcd"), looks := false }, kinds := [], alts := [], laidByText := true, laidKinds := [.data, .pinned], laidTests := true, laidLooks := .later }
def FnExactStepPlainCardSaid : Prop := Claim7.holds Tryd.pinned (.plain (OpenSpec.ofChange fnExactStepPlainSpec)) fnExactStepPlainCard

/-- THE TIED CARD OF 'laws.FnExactTurnPlain'. -/
def fnExactTurnPlainCard : Claim7 := { stood := { row := fnExactTurnPlainRow, standIns := [], harness := (true, "1420272631acef0f589f9a71fac856a3c47f4c8795852339bdb1c1f79715efcd"), looks := false }, kinds := [], alts := [], laidByText := true, laidKinds := [.data, .pinned], laidTests := true, laidLooks := .later }
def FnExactTurnPlainCardSaid : Prop := Claim7.holds Tryd.pinned (.plain (OpenSpec.ofChange fnExactTurnPlainSpec)) fnExactTurnPlainCard

/-- THE SECOND FORM's CARD OF 'laws.FnExactDropClue'. -/
def fnExactDropClueUptoCard : Claim7 := { stood := { row := fnExactDropClueUptoRow, standIns := [], harness := (true, "1420272631acef0f589f9a71fac856a3c47f4c8795852339bdb1c1f79715efcd"), looks := false }, kinds := [], alts := [], laidByText := true, laidKinds := [.data, .pinned], laidTests := true, laidLooks := .later }
def FnExactDropClueUptoCardSaid : Prop := Claim7.holds Tryd.pinned (.plain (OpenSpec.upto fnExactDropClueSpec)) fnExactDropClueUptoCard

/-- THE SECOND FORM's CARD OF 'laws.FnExactHarderPuzzle'. -/
def fnExactHarderPuzzleUptoCard : Claim7 := { stood := { row := fnExactHarderPuzzleUptoRow, standIns := [], harness := (true, "1420272631acef0f589f9a71fac856a3c47f4c8795852339bdb1c1f79715efcd"), looks := false }, kinds := [], alts := [], laidByText := true, laidKinds := [.data, .pinned], laidTests := true, laidLooks := .later }
def FnExactHarderPuzzleUptoCardSaid : Prop := Claim7.holds Tryd.pinned (.plain (OpenSpec.upto fnExactHarderPuzzleSpec)) fnExactHarderPuzzleUptoCard

/-- THE SECOND FORM's CARD OF 'laws.FnExactMovePlain'. -/
def fnExactMovePlainUptoCard : Claim7 := { stood := { row := fnExactMovePlainUptoRow, standIns := [], harness := (true, "1420272631acef0f589f9a71fac856a3c47f4c8795852339bdb1c1f79715efcd"), looks := false }, kinds := [], alts := [], laidByText := true, laidKinds := [.data, .pinned], laidTests := true, laidLooks := .later }
def FnExactMovePlainUptoCardSaid : Prop := Claim7.holds Tryd.pinned (.plain (OpenSpec.upto fnExactMovePlainSpec)) fnExactMovePlainUptoCard

/-- THE SECOND FORM's CARD OF 'laws.FnExactNeedlessClues'. -/
def fnExactNeedlessCluesUptoCard : Claim7 := { stood := { row := fnExactNeedlessCluesUptoRow, standIns := [], harness := (true, "1420272631acef0f589f9a71fac856a3c47f4c8795852339bdb1c1f79715efcd"), looks := false }, kinds := [], alts := [], laidByText := true, laidKinds := [.data, .pinned], laidTests := true, laidLooks := .later }
def FnExactNeedlessCluesUptoCardSaid : Prop := Claim7.holds Tryd.pinned (.plain (OpenSpec.upto fnExactNeedlessCluesSpec)) fnExactNeedlessCluesUptoCard

/-- THE SECOND FORM's CARD OF 'laws.FnExactPlainAfter'. -/
def fnExactPlainAfterUptoCard : Claim7 := { stood := { row := fnExactPlainAfterUptoRow, standIns := [], harness := (true, "1420272631acef0f589f9a71fac856a3c47f4c8795852339bdb1c1f79715efcd"), looks := false }, kinds := [], alts := [], laidByText := true, laidKinds := [.data, .pinned], laidTests := true, laidLooks := .later }
def FnExactPlainAfterUptoCardSaid : Prop := Claim7.holds Tryd.pinned (.plain (OpenSpec.upto fnExactPlainAfterSpec)) fnExactPlainAfterUptoCard

/-- THE SECOND FORM's CARD OF 'laws.FnExactStepPlain'. -/
def fnExactStepPlainUptoCard : Claim7 := { stood := { row := fnExactStepPlainUptoRow, standIns := [], harness := (true, "1420272631acef0f589f9a71fac856a3c47f4c8795852339bdb1c1f79715efcd"), looks := false }, kinds := [], alts := [], laidByText := true, laidKinds := [.data, .pinned], laidTests := true, laidLooks := .later }
def FnExactStepPlainUptoCardSaid : Prop := Claim7.holds Tryd.pinned (.plain (OpenSpec.upto fnExactStepPlainSpec)) fnExactStepPlainUptoCard

/-- THE SECOND FORM's CARD OF 'laws.FnExactTurnPlain'. -/
def fnExactTurnPlainUptoCard : Claim7 := { stood := { row := fnExactTurnPlainUptoRow, standIns := [], harness := (true, "1420272631acef0f589f9a71fac856a3c47f4c8795852339bdb1c1f79715efcd"), looks := false }, kinds := [], alts := [], laidByText := true, laidKinds := [.data, .pinned], laidTests := true, laidLooks := .later }
def FnExactTurnPlainUptoCardSaid : Prop := Claim7.holds Tryd.pinned (.plain (OpenSpec.upto fnExactTurnPlainSpec)) fnExactTurnPlainUptoCard
end Rows
end Go.Proofs.YthobhonnicadaaaDoor
