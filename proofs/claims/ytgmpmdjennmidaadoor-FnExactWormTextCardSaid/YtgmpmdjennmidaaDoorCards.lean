/-
  DERIVED. GIVEN WITH THE SEED: THE CARDS: each row of YtgmpmdjennmidaaDoorRows.lean that lists a variable, with what it lists TIED to the program's text (the seventh form; the later family's looks); each row that meets fmt, with fmt's text TOLD by the authors' own Lean function (tested against real Go, not proved from fmt's source: count such statements apart). THE CARD IS WHAT COUNTS. Prove the row's statement (the work); the ties are given (YtgmpmdjennmidaaDoorTie.lean); close each card by the builder's one call (the guide's Derived/Test/ToyasCard.lean, 'card_holds'). Laid BY PROGRAM, IN A SANDBOX (cutbox-door.mjs). By AI agents, Wed Nov 11 2026. No macro, syntax, notation, axiom, sorry.
-/
import Derived.Test.YtgmpmdjennmidaaDoorRows
import GoSem.ClaimSeven
namespace Go.Proofs.YtgmpmdjennmidaaDoor
namespace Rows

/-- THE TIED CARD OF 'laws.FnExactWormText'. -/
def fnExactWormTextCard : Claim7 := { stood := { row := fnExactWormTextRow, standIns := [], harness := (true, "5a506084974016771fc7225d5cedc0464ee6133a53b02e9dce3b1cba350d9003"), looks := true }, kinds := [], alts := [], laidByText := true, laidKinds := [.data, .data, .data], laidTests := true, laidLooks := .later }
def FnExactWormTextCardSaid : Prop := Claim7.holds Tryd.pinned (.plain (OpenSpec.ofChange fnExactWormTextSpec)) fnExactWormTextCard

/-- THE TIED CARD OF 'laws.FnExactParseWorm'. -/
def fnExactParseWormCard : Claim7 := { stood := { row := fnExactParseWormRow, standIns := [], harness := (true, "5a506084974016771fc7225d5cedc0464ee6133a53b02e9dce3b1cba350d9003"), looks := true }, kinds := [], alts := [], laidByText := true, laidKinds := [.data, .data, .data, .data, .sentinel, .sentinel, .pinned], laidTests := true, laidLooks := .later }
def FnExactParseWormCardSaid : Prop := Claim7.holds Tryd.pinned (.plain (OpenSpec.ofChange fnExactParseWormSpec)) fnExactParseWormCard

/-- THE SECOND FORM's CARD OF 'laws.FnExactWormText'. -/
def fnExactWormTextUptoCard : Claim7 := { stood := { row := fnExactWormTextUptoRow, standIns := [], harness := (true, "5a506084974016771fc7225d5cedc0464ee6133a53b02e9dce3b1cba350d9003"), looks := true }, kinds := [], alts := [], laidByText := true, laidKinds := [.data, .data, .data], laidTests := true, laidLooks := .later }
def FnExactWormTextUptoCardSaid : Prop := Claim7.holds Tryd.pinned (.plain (OpenSpec.upto fnExactWormTextSpec)) fnExactWormTextUptoCard

/-- THE SECOND FORM's CARD OF 'laws.FnExactParseWorm'. -/
def fnExactParseWormUptoCard : Claim7 := { stood := { row := fnExactParseWormUptoRow, standIns := [], harness := (true, "5a506084974016771fc7225d5cedc0464ee6133a53b02e9dce3b1cba350d9003"), looks := true }, kinds := [], alts := [], laidByText := true, laidKinds := [.data, .data, .data, .data, .sentinel, .sentinel, .pinned], laidTests := true, laidLooks := .later }
def FnExactParseWormUptoCardSaid : Prop := Claim7.holds Tryd.pinned (.plain (OpenSpec.upto fnExactParseWormSpec)) fnExactParseWormUptoCard
end Rows
end Go.Proofs.YtgmpmdjennmidaaDoor
