/-
  NARROWER THAN 'FOR EVERY INPUT', by the rows' own cells (each row's printed sentence says how): FnExactDropClue: laid · FnExactHarderPuzzle: laid · FnExactMovePlain: laid · FnExactNeedlessClues: laid · FnExactPlainAfter: laid · FnExactStepPlain: laid · FnExactTurnPlain: laid.
  DERIVED. THE GIVEN ROWS OF THIS SEAT. 7 by the template 'for every input the law returns true; each argument reads behind the call as it read before'; 0 by the template 'total and deterministic' (their statements: YthobhonnicadaaaDoorTotals.lean).
  GIVEN WITH THE SEED: the statements are not yours to turn. If you find one false, say at which input.
  Laid BY PROGRAM, IN A SANDBOX (cutbox-rows.mjs): the forced cells as the released guide's own fill.sh prints them over the translation ed701ff3ae159f40… (all of the seat's roots in one cut). By AI agents, Wed Nov 11 2026. No macro, syntax, notation, axiom, sorry.
-/
import Derived.Test.YthobhonnicadaaaDoorChecked
import GoSem.PinnedTables
import GoSem.Claim
import GoSem.ClaimJoined
import GoSem.ClaimMapViews
import Derived.JoinedTies
import Derived.KernelRfl
namespace Go.Proofs.YthobhonnicadaaaDoor
/- THE CELL 'sum', in the pinned program and in every row, IS THE sha256 OF THE DUMP (.gsa) THAT YthobhonnicadaaaDoorProg.lean LOADS. Nothing in Lean hashes anything: it is a label: what it is worth is what the hold of that sum in a sandbox is worth. -/
noncomputable def Tryd.pinned : Pinned := { name := "ythobhonnicadaaadoor", sum := "ed701ff3ae159f4086857ed8bd036452f15f7652dbd5bbe23ff7693ddacb9a54", checked := Tryd.checked }
namespace Rows
def none {H : Type} : Left H := { results := [], args := [] }

/- WHAT THE LISTED PACKAGE-LEVEL VARIABLES READ AS WHEN THE CALL BEGINS. Each datum BY PROGRAM (the guide's laid-datum.mjs) off the statement by which the dump's own 'gosem.cut.vars' lays the variable. In a bare row this is a premise. The card (YthobhonnicadaaaDoorCards.lean) ties it to the program's text. -/
def laid_unicode_utf8_acceptRanges {H : Type} : DataW H := .agg [.agg [.lit (.int .u8 128), .lit (.int .u8 191)], .agg [.lit (.int .u8 160), .lit (.int .u8 191)], .agg [.lit (.int .u8 128), .lit (.int .u8 159)], .agg [.lit (.int .u8 144), .lit (.int .u8 191)], .agg [.lit (.int .u8 128), .lit (.int .u8 143)], .agg [.lit (.int .u8 0), .lit (.int .u8 0)], .agg [.lit (.int .u8 0), .lit (.int .u8 0)], .agg [.lit (.int .u8 0), .lit (.int .u8 0)], .agg [.lit (.int .u8 0), .lit (.int .u8 0)], .agg [.lit (.int .u8 0), .lit (.int .u8 0)], .agg [.lit (.int .u8 0), .lit (.int .u8 0)], .agg [.lit (.int .u8 0), .lit (.int .u8 0)], .agg [.lit (.int .u8 0), .lit (.int .u8 0)], .agg [.lit (.int .u8 0), .lit (.int .u8 0)], .agg [.lit (.int .u8 0), .lit (.int .u8 0)], .agg [.lit (.int .u8 0), .lit (.int .u8 0)]]
/-- One of Go's own tables, pinned by name: the form's constant. -/
def laid_unicode_utf8_first : DataW Unit := Go.Pinned.utf8First

/-- 'laws.FnExactDropClue': WHATEVER THE INPUT: true; the input reads as it did. -/
def fnExactDropClueSpec : ChangeSpec := { name := "fnExactDropClue", fn := fun _ => fun
  | [d1, d2] => { results := [.lit (.bool true)], args := [d1, d2] }
  | _ => none }
def fnExactDropClueRow : OpenClaim := { program := "ythobhonnicadaaadoor", sum := "ed701ff3ae159f4086857ed8bd036452f15f7652dbd5bbe23ff7693ddacb9a54", func := "loop.example/g01276/laws.FnExactDropClue", spec := "fnExactDropClue", inPlace := ["internal/bytealg.IndexByteString", "internal/bytealg.IndexString"], unfollowed := true, recurses := true, named := ["unicode/utf8.first", "unicode/utf8.acceptRanges", "internal/bytealg.MaxLen"], plainKeys := false, apart := false, laid := [("unicode/utf8.acceptRanges", laid_unicode_utf8_acceptRanges), ("unicode/utf8.first", laid_unicode_utf8_first)] }
def FnExactDropClueSaid : Prop := fnExactDropClueRow.holds Tryd.pinned (OpenSpec.ofChange fnExactDropClueSpec)

/-- ITS FALSE NEIGHBOUR: 'it returns false'. Refute it at one input. -/
def fnExactDropClueWrong : ChangeSpec := { name := "fnExactDropClue", fn := fun _ => fun
  | [d1, d2] => { results := [.lit (.bool false)], args := [d1, d2] }
  | _ => none }
def FnExactDropClueWrongFalsely : Prop := fnExactDropClueRow.holds Tryd.pinned (OpenSpec.ofChange fnExactDropClueWrong)

/-- 'laws.FnExactHarderPuzzle': WHATEVER THE INPUT: true; the input reads as it did. -/
def fnExactHarderPuzzleSpec : ChangeSpec := { name := "fnExactHarderPuzzle", fn := fun _ => fun
  | [d] => { results := [.lit (.bool true)], args := [d] }
  | _ => none }
def fnExactHarderPuzzleRow : OpenClaim := { program := "ythobhonnicadaaadoor", sum := "ed701ff3ae159f4086857ed8bd036452f15f7652dbd5bbe23ff7693ddacb9a54", func := "loop.example/g01276/laws.FnExactHarderPuzzle", spec := "fnExactHarderPuzzle", inPlace := ["internal/bytealg.IndexByteString", "internal/bytealg.IndexString", "internal/bytealg.CountString"], unfollowed := true, recurses := true, named := ["unicode/utf8.first", "unicode/utf8.acceptRanges", "internal/bytealg.MaxLen"], plainKeys := false, apart := false, laid := [("unicode/utf8.acceptRanges", laid_unicode_utf8_acceptRanges), ("unicode/utf8.first", laid_unicode_utf8_first)] }
def FnExactHarderPuzzleSaid : Prop := fnExactHarderPuzzleRow.holds Tryd.pinned (OpenSpec.ofChange fnExactHarderPuzzleSpec)

/-- ITS FALSE NEIGHBOUR: 'it returns false'. Refute it at one input. -/
def fnExactHarderPuzzleWrong : ChangeSpec := { name := "fnExactHarderPuzzle", fn := fun _ => fun
  | [d] => { results := [.lit (.bool false)], args := [d] }
  | _ => none }
def FnExactHarderPuzzleWrongFalsely : Prop := fnExactHarderPuzzleRow.holds Tryd.pinned (OpenSpec.ofChange fnExactHarderPuzzleWrong)

/-- 'laws.FnExactMovePlain': WHATEVER THE INPUT: true; the input reads as it did. -/
def fnExactMovePlainSpec : ChangeSpec := { name := "fnExactMovePlain", fn := fun _ => fun
  | [d1, d2, d3] => { results := [.lit (.bool true)], args := [d1, d2, d3] }
  | _ => none }
def fnExactMovePlainRow : OpenClaim := { program := "ythobhonnicadaaadoor", sum := "ed701ff3ae159f4086857ed8bd036452f15f7652dbd5bbe23ff7693ddacb9a54", func := "loop.example/g01276/laws.FnExactMovePlain", spec := "fnExactMovePlain", inPlace := ["internal/bytealg.IndexByteString", "internal/bytealg.IndexString"], unfollowed := true, recurses := true, named := ["unicode/utf8.first", "unicode/utf8.acceptRanges", "internal/bytealg.MaxLen"], plainKeys := false, apart := false, laid := [("unicode/utf8.acceptRanges", laid_unicode_utf8_acceptRanges), ("unicode/utf8.first", laid_unicode_utf8_first)] }
def FnExactMovePlainSaid : Prop := fnExactMovePlainRow.holds Tryd.pinned (OpenSpec.ofChange fnExactMovePlainSpec)

/-- ITS FALSE NEIGHBOUR: 'it returns false'. Refute it at one input. -/
def fnExactMovePlainWrong : ChangeSpec := { name := "fnExactMovePlain", fn := fun _ => fun
  | [d1, d2, d3] => { results := [.lit (.bool false)], args := [d1, d2, d3] }
  | _ => none }
def FnExactMovePlainWrongFalsely : Prop := fnExactMovePlainRow.holds Tryd.pinned (OpenSpec.ofChange fnExactMovePlainWrong)

/-- 'laws.FnExactNeedlessClues': WHATEVER THE INPUT: true; the input reads as it did. -/
def fnExactNeedlessCluesSpec : ChangeSpec := { name := "fnExactNeedlessClues", fn := fun _ => fun
  | [d] => { results := [.lit (.bool true)], args := [d] }
  | _ => none }
def fnExactNeedlessCluesRow : OpenClaim := { program := "ythobhonnicadaaadoor", sum := "ed701ff3ae159f4086857ed8bd036452f15f7652dbd5bbe23ff7693ddacb9a54", func := "loop.example/g01276/laws.FnExactNeedlessClues", spec := "fnExactNeedlessClues", inPlace := ["internal/bytealg.IndexByteString", "internal/bytealg.IndexString", "internal/bytealg.CountString"], unfollowed := true, recurses := true, named := ["unicode/utf8.first", "unicode/utf8.acceptRanges", "internal/bytealg.MaxLen"], plainKeys := false, apart := false, laid := [("unicode/utf8.acceptRanges", laid_unicode_utf8_acceptRanges), ("unicode/utf8.first", laid_unicode_utf8_first)] }
def FnExactNeedlessCluesSaid : Prop := fnExactNeedlessCluesRow.holds Tryd.pinned (OpenSpec.ofChange fnExactNeedlessCluesSpec)

/-- ITS FALSE NEIGHBOUR: 'it returns false'. Refute it at one input. -/
def fnExactNeedlessCluesWrong : ChangeSpec := { name := "fnExactNeedlessClues", fn := fun _ => fun
  | [d] => { results := [.lit (.bool false)], args := [d] }
  | _ => none }
def FnExactNeedlessCluesWrongFalsely : Prop := fnExactNeedlessCluesRow.holds Tryd.pinned (OpenSpec.ofChange fnExactNeedlessCluesWrong)

/-- 'laws.FnExactPlainAfter': WHATEVER THE INPUT: true; the input reads as it did. -/
def fnExactPlainAfterSpec : ChangeSpec := { name := "fnExactPlainAfter", fn := fun _ => fun
  | [d1, d2] => { results := [.lit (.bool true)], args := [d1, d2] }
  | _ => none }
def fnExactPlainAfterRow : OpenClaim := { program := "ythobhonnicadaaadoor", sum := "ed701ff3ae159f4086857ed8bd036452f15f7652dbd5bbe23ff7693ddacb9a54", func := "loop.example/g01276/laws.FnExactPlainAfter", spec := "fnExactPlainAfter", inPlace := ["internal/bytealg.IndexByteString", "internal/bytealg.IndexString"], unfollowed := true, recurses := true, named := ["unicode/utf8.first", "unicode/utf8.acceptRanges", "internal/bytealg.MaxLen"], plainKeys := false, apart := false, laid := [("unicode/utf8.acceptRanges", laid_unicode_utf8_acceptRanges), ("unicode/utf8.first", laid_unicode_utf8_first)] }
def FnExactPlainAfterSaid : Prop := fnExactPlainAfterRow.holds Tryd.pinned (OpenSpec.ofChange fnExactPlainAfterSpec)

/-- ITS FALSE NEIGHBOUR: 'it returns false'. Refute it at one input. -/
def fnExactPlainAfterWrong : ChangeSpec := { name := "fnExactPlainAfter", fn := fun _ => fun
  | [d1, d2] => { results := [.lit (.bool false)], args := [d1, d2] }
  | _ => none }
def FnExactPlainAfterWrongFalsely : Prop := fnExactPlainAfterRow.holds Tryd.pinned (OpenSpec.ofChange fnExactPlainAfterWrong)

/-- 'laws.FnExactStepPlain': WHATEVER THE INPUT: true; the input reads as it did. -/
def fnExactStepPlainSpec : ChangeSpec := { name := "fnExactStepPlain", fn := fun _ => fun
  | [d] => { results := [.lit (.bool true)], args := [d] }
  | _ => none }
def fnExactStepPlainRow : OpenClaim := { program := "ythobhonnicadaaadoor", sum := "ed701ff3ae159f4086857ed8bd036452f15f7652dbd5bbe23ff7693ddacb9a54", func := "loop.example/g01276/laws.FnExactStepPlain", spec := "fnExactStepPlain", inPlace := ["internal/bytealg.IndexByteString", "internal/bytealg.IndexString"], unfollowed := true, recurses := true, named := ["unicode/utf8.first", "unicode/utf8.acceptRanges", "internal/bytealg.MaxLen"], plainKeys := false, apart := false, laid := [("unicode/utf8.acceptRanges", laid_unicode_utf8_acceptRanges), ("unicode/utf8.first", laid_unicode_utf8_first)] }
def FnExactStepPlainSaid : Prop := fnExactStepPlainRow.holds Tryd.pinned (OpenSpec.ofChange fnExactStepPlainSpec)

/-- ITS FALSE NEIGHBOUR: 'it returns false'. Refute it at one input. -/
def fnExactStepPlainWrong : ChangeSpec := { name := "fnExactStepPlain", fn := fun _ => fun
  | [d] => { results := [.lit (.bool false)], args := [d] }
  | _ => none }
def FnExactStepPlainWrongFalsely : Prop := fnExactStepPlainRow.holds Tryd.pinned (OpenSpec.ofChange fnExactStepPlainWrong)

/-- 'laws.FnExactTurnPlain': WHATEVER THE INPUT: true; the input reads as it did. -/
def fnExactTurnPlainSpec : ChangeSpec := { name := "fnExactTurnPlain", fn := fun _ => fun
  | [d] => { results := [.lit (.bool true)], args := [d] }
  | _ => none }
def fnExactTurnPlainRow : OpenClaim := { program := "ythobhonnicadaaadoor", sum := "ed701ff3ae159f4086857ed8bd036452f15f7652dbd5bbe23ff7693ddacb9a54", func := "loop.example/g01276/laws.FnExactTurnPlain", spec := "fnExactTurnPlain", inPlace := ["internal/bytealg.IndexByteString", "internal/bytealg.IndexString"], unfollowed := true, recurses := true, named := ["unicode/utf8.first", "unicode/utf8.acceptRanges", "internal/bytealg.MaxLen"], plainKeys := false, apart := false, laid := [("unicode/utf8.acceptRanges", laid_unicode_utf8_acceptRanges), ("unicode/utf8.first", laid_unicode_utf8_first)] }
def FnExactTurnPlainSaid : Prop := fnExactTurnPlainRow.holds Tryd.pinned (OpenSpec.ofChange fnExactTurnPlainSpec)

/-- ITS FALSE NEIGHBOUR: 'it returns false'. Refute it at one input. -/
def fnExactTurnPlainWrong : ChangeSpec := { name := "fnExactTurnPlain", fn := fun _ => fun
  | [d] => { results := [.lit (.bool false)], args := [d] }
  | _ => none }
def FnExactTurnPlainWrongFalsely : Prop := fnExactTurnPlainRow.holds Tryd.pinned (OpenSpec.ofChange fnExactTurnPlainWrong)

/- THE SECOND FORM. 'bulk': how many values and letters a reading holds, each counted each time it is reached (what is shared counts as often as it is met; a slice's spare places count too). A statement '..UptoSaid' is the law's where the arguments, and the package variables that the reading takes, are together of bulk at most 1048576: NARROWER than '..Said'. Prove '..Said' where nothing that the law and all that it calls make is longer than what came in: it says more and counts as full. Else prove '..UptoSaid'. A law counts once. -/
mutual
def uptoBulk {H : Type} : DataW H → Nat
  | .lit (.string bytes) => bytes.length + 1
  | .lit _ => 1
  | .nil => 1
  | .ptr d => uptoBulk d + 1
  | .slice elems spare => uptoBulkAll elems + uptoBulkAll spare + 1
  | .agg parts => uptoBulkAll parts + 1
  | .iface _ d => uptoBulk d + 1
  | .map entries => uptoBulkEntries entries + 1
  | .held _ => 1
def uptoBulkAll {H : Type} : List (DataW H) → Nat
  | [] => 0
  | d :: r => uptoBulk d + uptoBulkAll r
def uptoBulkEntries {H : Type} : List (Lit × DataW H) → Nat
  | [] => 0
  | x :: r => uptoBulkEntry x + uptoBulkEntries r
def uptoBulkEntry {H : Type} : Lit × DataW H → Nat
  | (.string bytes, d) => bytes.length + uptoBulk d + 1
  | (_, d) => uptoBulk d + 1
 end
def uptoSmall : (H : Type) → List (DataW H) → Bool := fun _ ds => decide (uptoBulkAll ds ≤ 1048576)
def OpenSpec.upto (s : _root_.Go.ChangeSpec) : _root_.Go.OpenSpec := { _root_.Go.OpenSpec.ofChange s with cond := some uptoSmall }

/-- 'laws.FnExactDropClue', WHERE WHAT IT READS IS OF BULK AT MOST 1048576: true; the input reads as it did. -/
def fnExactDropClueUptoRow : OpenClaim := { program := "ythobhonnicadaaadoor", sum := "ed701ff3ae159f4086857ed8bd036452f15f7652dbd5bbe23ff7693ddacb9a54", func := "loop.example/g01276/laws.FnExactDropClue", spec := "fnExactDropClue", inPlace := ["internal/bytealg.IndexByteString", "internal/bytealg.IndexString"], unfollowed := true, recurses := true, named := ["unicode/utf8.first", "unicode/utf8.acceptRanges", "internal/bytealg.MaxLen"], plainKeys := false, apart := false, laid := [("unicode/utf8.acceptRanges", laid_unicode_utf8_acceptRanges), ("unicode/utf8.first", laid_unicode_utf8_first)], narrowed := true }
def FnExactDropClueUptoSaid : Prop := fnExactDropClueUptoRow.holds Tryd.pinned (OpenSpec.upto fnExactDropClueSpec)

/-- 'laws.FnExactHarderPuzzle', WHERE WHAT IT READS IS OF BULK AT MOST 1048576: true; the input reads as it did. -/
def fnExactHarderPuzzleUptoRow : OpenClaim := { program := "ythobhonnicadaaadoor", sum := "ed701ff3ae159f4086857ed8bd036452f15f7652dbd5bbe23ff7693ddacb9a54", func := "loop.example/g01276/laws.FnExactHarderPuzzle", spec := "fnExactHarderPuzzle", inPlace := ["internal/bytealg.IndexByteString", "internal/bytealg.IndexString", "internal/bytealg.CountString"], unfollowed := true, recurses := true, named := ["unicode/utf8.first", "unicode/utf8.acceptRanges", "internal/bytealg.MaxLen"], plainKeys := false, apart := false, laid := [("unicode/utf8.acceptRanges", laid_unicode_utf8_acceptRanges), ("unicode/utf8.first", laid_unicode_utf8_first)], narrowed := true }
def FnExactHarderPuzzleUptoSaid : Prop := fnExactHarderPuzzleUptoRow.holds Tryd.pinned (OpenSpec.upto fnExactHarderPuzzleSpec)

/-- 'laws.FnExactMovePlain', WHERE WHAT IT READS IS OF BULK AT MOST 1048576: true; the input reads as it did. -/
def fnExactMovePlainUptoRow : OpenClaim := { program := "ythobhonnicadaaadoor", sum := "ed701ff3ae159f4086857ed8bd036452f15f7652dbd5bbe23ff7693ddacb9a54", func := "loop.example/g01276/laws.FnExactMovePlain", spec := "fnExactMovePlain", inPlace := ["internal/bytealg.IndexByteString", "internal/bytealg.IndexString"], unfollowed := true, recurses := true, named := ["unicode/utf8.first", "unicode/utf8.acceptRanges", "internal/bytealg.MaxLen"], plainKeys := false, apart := false, laid := [("unicode/utf8.acceptRanges", laid_unicode_utf8_acceptRanges), ("unicode/utf8.first", laid_unicode_utf8_first)], narrowed := true }
def FnExactMovePlainUptoSaid : Prop := fnExactMovePlainUptoRow.holds Tryd.pinned (OpenSpec.upto fnExactMovePlainSpec)

/-- 'laws.FnExactNeedlessClues', WHERE WHAT IT READS IS OF BULK AT MOST 1048576: true; the input reads as it did. -/
def fnExactNeedlessCluesUptoRow : OpenClaim := { program := "ythobhonnicadaaadoor", sum := "ed701ff3ae159f4086857ed8bd036452f15f7652dbd5bbe23ff7693ddacb9a54", func := "loop.example/g01276/laws.FnExactNeedlessClues", spec := "fnExactNeedlessClues", inPlace := ["internal/bytealg.IndexByteString", "internal/bytealg.IndexString", "internal/bytealg.CountString"], unfollowed := true, recurses := true, named := ["unicode/utf8.first", "unicode/utf8.acceptRanges", "internal/bytealg.MaxLen"], plainKeys := false, apart := false, laid := [("unicode/utf8.acceptRanges", laid_unicode_utf8_acceptRanges), ("unicode/utf8.first", laid_unicode_utf8_first)], narrowed := true }
def FnExactNeedlessCluesUptoSaid : Prop := fnExactNeedlessCluesUptoRow.holds Tryd.pinned (OpenSpec.upto fnExactNeedlessCluesSpec)

/-- 'laws.FnExactPlainAfter', WHERE WHAT IT READS IS OF BULK AT MOST 1048576: true; the input reads as it did. -/
def fnExactPlainAfterUptoRow : OpenClaim := { program := "ythobhonnicadaaadoor", sum := "ed701ff3ae159f4086857ed8bd036452f15f7652dbd5bbe23ff7693ddacb9a54", func := "loop.example/g01276/laws.FnExactPlainAfter", spec := "fnExactPlainAfter", inPlace := ["internal/bytealg.IndexByteString", "internal/bytealg.IndexString"], unfollowed := true, recurses := true, named := ["unicode/utf8.first", "unicode/utf8.acceptRanges", "internal/bytealg.MaxLen"], plainKeys := false, apart := false, laid := [("unicode/utf8.acceptRanges", laid_unicode_utf8_acceptRanges), ("unicode/utf8.first", laid_unicode_utf8_first)], narrowed := true }
def FnExactPlainAfterUptoSaid : Prop := fnExactPlainAfterUptoRow.holds Tryd.pinned (OpenSpec.upto fnExactPlainAfterSpec)

/-- 'laws.FnExactStepPlain', WHERE WHAT IT READS IS OF BULK AT MOST 1048576: true; the input reads as it did. -/
def fnExactStepPlainUptoRow : OpenClaim := { program := "ythobhonnicadaaadoor", sum := "ed701ff3ae159f4086857ed8bd036452f15f7652dbd5bbe23ff7693ddacb9a54", func := "loop.example/g01276/laws.FnExactStepPlain", spec := "fnExactStepPlain", inPlace := ["internal/bytealg.IndexByteString", "internal/bytealg.IndexString"], unfollowed := true, recurses := true, named := ["unicode/utf8.first", "unicode/utf8.acceptRanges", "internal/bytealg.MaxLen"], plainKeys := false, apart := false, laid := [("unicode/utf8.acceptRanges", laid_unicode_utf8_acceptRanges), ("unicode/utf8.first", laid_unicode_utf8_first)], narrowed := true }
def FnExactStepPlainUptoSaid : Prop := fnExactStepPlainUptoRow.holds Tryd.pinned (OpenSpec.upto fnExactStepPlainSpec)

/-- 'laws.FnExactTurnPlain', WHERE WHAT IT READS IS OF BULK AT MOST 1048576: true; the input reads as it did. -/
def fnExactTurnPlainUptoRow : OpenClaim := { program := "ythobhonnicadaaadoor", sum := "ed701ff3ae159f4086857ed8bd036452f15f7652dbd5bbe23ff7693ddacb9a54", func := "loop.example/g01276/laws.FnExactTurnPlain", spec := "fnExactTurnPlain", inPlace := ["internal/bytealg.IndexByteString", "internal/bytealg.IndexString"], unfollowed := true, recurses := true, named := ["unicode/utf8.first", "unicode/utf8.acceptRanges", "internal/bytealg.MaxLen"], plainKeys := false, apart := false, laid := [("unicode/utf8.acceptRanges", laid_unicode_utf8_acceptRanges), ("unicode/utf8.first", laid_unicode_utf8_first)], narrowed := true }
def FnExactTurnPlainUptoSaid : Prop := fnExactTurnPlainUptoRow.holds Tryd.pinned (OpenSpec.upto fnExactTurnPlainSpec)

end Rows
end Go.Proofs.YthobhonnicadaaaDoor
