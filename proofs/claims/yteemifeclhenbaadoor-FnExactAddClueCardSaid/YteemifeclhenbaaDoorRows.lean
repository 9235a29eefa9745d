/-
  NARROWER THAN 'FOR EVERY INPUT', by the rows' own cells (each row's printed sentence says how): FnExactCountBoards: laid · FnExactIsClue: laid · FnExactIsPuzzle: laid · FnExactAddClue: laid · FnExactDropClue: laid · FnExactDoesFit: laid · FnExactMakePuzzle: laid · FnExactPuzzleText: laid · FnExactCountSolutions: laid · FnExactFirstSolution: laid · FnExactIsSolved: laid · FnExactBestClue: laid · FnExactSureCells: laid · FnExactLeftByClues: laid · FnExactSolutions: laid · FnExactNeedlessClues: laid · FnExactHarderPuzzle: laid.
  DERIVED. THE GIVEN ROWS OF THIS SEAT. 17 by the template 'for every input the law returns true; each argument reads behind the call as it read before'; 0 by the template 'total and deterministic' (their statements: YteemifeclhenbaaDoorTotals.lean).
  GIVEN WITH THE SEED: the statements are not yours to turn. If you find one false, say at which input.
  Laid BY PROGRAM, IN A SANDBOX (cutbox-rows.mjs): the forced cells as the released guide's own fill.sh prints them over the translation 75a2ec2fc0f41acf… (all of the seat's roots in one cut). By AI agents, Wed Nov 11 2026. No macro, syntax, notation, axiom, sorry.
-/
import Derived.Test.YteemifeclhenbaaDoorChecked
import GoSem.PinnedTables
import GoSem.Claim
import GoSem.ClaimJoined
import GoSem.ClaimMapViews
import Derived.JoinedTies
import Derived.KernelRfl
namespace Go.Proofs.YteemifeclhenbaaDoor
/- THE CELL 'sum', in the pinned program and in every row, IS THE sha256 OF THE DUMP (.gsa) THAT YteemifeclhenbaaDoorProg.lean LOADS. Nothing in Lean hashes anything: it is a label: what it is worth is what the hold of that sum in a sandbox is worth. -/
noncomputable def Tryd.pinned : Pinned := { name := "yteemifeclhenbaadoor", sum := "75a2ec2fc0f41acfb5f8c16055a1f8e74e79817f8045710f77c267ba964f7517", checked := Tryd.checked }
namespace Rows
def none {H : Type} : Left H := { results := [], args := [] }

/- WHAT THE LISTED PACKAGE-LEVEL VARIABLES READ AS WHEN THE CALL BEGINS. Each datum BY PROGRAM (the guide's laid-datum.mjs) off the statement by which the dump's own 'gosem.cut.vars' lays the variable. In a bare row this is a premise. The card (YteemifeclhenbaaDoorCards.lean) ties it to the program's text. -/
def laid_unicode_utf8_acceptRanges {H : Type} : DataW H := .agg [.agg [.lit (.int .u8 128), .lit (.int .u8 191)], .agg [.lit (.int .u8 160), .lit (.int .u8 191)], .agg [.lit (.int .u8 128), .lit (.int .u8 159)], .agg [.lit (.int .u8 144), .lit (.int .u8 191)], .agg [.lit (.int .u8 128), .lit (.int .u8 143)], .agg [.lit (.int .u8 0), .lit (.int .u8 0)], .agg [.lit (.int .u8 0), .lit (.int .u8 0)], .agg [.lit (.int .u8 0), .lit (.int .u8 0)], .agg [.lit (.int .u8 0), .lit (.int .u8 0)], .agg [.lit (.int .u8 0), .lit (.int .u8 0)], .agg [.lit (.int .u8 0), .lit (.int .u8 0)], .agg [.lit (.int .u8 0), .lit (.int .u8 0)], .agg [.lit (.int .u8 0), .lit (.int .u8 0)], .agg [.lit (.int .u8 0), .lit (.int .u8 0)], .agg [.lit (.int .u8 0), .lit (.int .u8 0)], .agg [.lit (.int .u8 0), .lit (.int .u8 0)]]
/-- One of Go's own tables, pinned by name: the form's constant. -/
def laid_unicode_utf8_first : DataW Unit := Go.Pinned.utf8First
def laid_math_bits_deBruijn32tab {H : Type} : DataW H := .agg [.lit (.int .u8 0), .lit (.int .u8 1), .lit (.int .u8 28), .lit (.int .u8 2), .lit (.int .u8 29), .lit (.int .u8 14), .lit (.int .u8 24), .lit (.int .u8 3), .lit (.int .u8 30), .lit (.int .u8 22), .lit (.int .u8 20), .lit (.int .u8 15), .lit (.int .u8 25), .lit (.int .u8 17), .lit (.int .u8 4), .lit (.int .u8 8), .lit (.int .u8 31), .lit (.int .u8 27), .lit (.int .u8 13), .lit (.int .u8 23), .lit (.int .u8 21), .lit (.int .u8 19), .lit (.int .u8 16), .lit (.int .u8 7), .lit (.int .u8 26), .lit (.int .u8 12), .lit (.int .u8 18), .lit (.int .u8 6), .lit (.int .u8 11), .lit (.int .u8 5), .lit (.int .u8 10), .lit (.int .u8 9)]
def laid_math_bits_deBruijn64tab {H : Type} : DataW H := .agg [.lit (.int .u8 0), .lit (.int .u8 1), .lit (.int .u8 56), .lit (.int .u8 2), .lit (.int .u8 57), .lit (.int .u8 49), .lit (.int .u8 28), .lit (.int .u8 3), .lit (.int .u8 61), .lit (.int .u8 58), .lit (.int .u8 42), .lit (.int .u8 50), .lit (.int .u8 38), .lit (.int .u8 29), .lit (.int .u8 17), .lit (.int .u8 4), .lit (.int .u8 62), .lit (.int .u8 47), .lit (.int .u8 59), .lit (.int .u8 36), .lit (.int .u8 45), .lit (.int .u8 43), .lit (.int .u8 51), .lit (.int .u8 22), .lit (.int .u8 53), .lit (.int .u8 39), .lit (.int .u8 33), .lit (.int .u8 30), .lit (.int .u8 24), .lit (.int .u8 18), .lit (.int .u8 12), .lit (.int .u8 5), .lit (.int .u8 63), .lit (.int .u8 55), .lit (.int .u8 48), .lit (.int .u8 27), .lit (.int .u8 60), .lit (.int .u8 41), .lit (.int .u8 37), .lit (.int .u8 16), .lit (.int .u8 46), .lit (.int .u8 35), .lit (.int .u8 44), .lit (.int .u8 21), .lit (.int .u8 52), .lit (.int .u8 32), .lit (.int .u8 23), .lit (.int .u8 11), .lit (.int .u8 54), .lit (.int .u8 26), .lit (.int .u8 40), .lit (.int .u8 15), .lit (.int .u8 34), .lit (.int .u8 20), .lit (.int .u8 31), .lit (.int .u8 10), .lit (.int .u8 25), .lit (.int .u8 14), .lit (.int .u8 19), .lit (.int .u8 9), .lit (.int .u8 13), .lit (.int .u8 8), .lit (.int .u8 7), .lit (.int .u8 6)]
def laid_internal_strconv_uint64pow10 {H : Type} : DataW H := .agg [.lit (.int .u64 1), .lit (.int .u64 10), .lit (.int .u64 100), .lit (.int .u64 1000), .lit (.int .u64 10000), .lit (.int .u64 100000), .lit (.int .u64 1000000), .lit (.int .u64 10000000), .lit (.int .u64 100000000), .lit (.int .u64 1000000000), .lit (.int .u64 10000000000), .lit (.int .u64 100000000000), .lit (.int .u64 1000000000000), .lit (.int .u64 10000000000000), .lit (.int .u64 100000000000000), .lit (.int .u64 1000000000000000), .lit (.int .u64 10000000000000000), .lit (.int .u64 100000000000000000), .lit (.int .u64 1000000000000000000), .lit (.int .u64 10000000000000000000)]

/-- 'laws.FnExactCountBoards': WHATEVER THE INPUT: true; the input reads as it did. -/
def fnExactCountBoardsSpec : ChangeSpec := { name := "fnExactCountBoards", fn := fun _ => fun
  | [d1, d2, d3] => { results := [.lit (.bool true)], args := [d1, d2, d3] }
  | _ => none }
def fnExactCountBoardsRow : OpenClaim := { program := "yteemifeclhenbaadoor", sum := "75a2ec2fc0f41acfb5f8c16055a1f8e74e79817f8045710f77c267ba964f7517", func := "loop.example/g01276/laws.FnExactCountBoards", spec := "fnExactCountBoards", inPlace := ["internal/bytealg.IndexByteString", "internal/bytealg.IndexString"], named := ["unicode/utf8.first", "unicode/utf8.acceptRanges", "internal/bytealg.MaxLen"], apart := false, laid := [("unicode/utf8.acceptRanges", laid_unicode_utf8_acceptRanges), ("unicode/utf8.first", laid_unicode_utf8_first)] }
def FnExactCountBoardsSaid : Prop := fnExactCountBoardsRow.holds Tryd.pinned (OpenSpec.ofChange fnExactCountBoardsSpec)

/-- ITS FALSE NEIGHBOUR: 'it returns false'. Refute it at one input. -/
def fnExactCountBoardsWrong : ChangeSpec := { name := "fnExactCountBoards", fn := fun _ => fun
  | [d1, d2, d3] => { results := [.lit (.bool false)], args := [d1, d2, d3] }
  | _ => none }
def FnExactCountBoardsWrongFalsely : Prop := fnExactCountBoardsRow.holds Tryd.pinned (OpenSpec.ofChange fnExactCountBoardsWrong)

/-- 'laws.FnExactIsClue': WHATEVER THE INPUT: true; the input reads as it did. -/
def fnExactIsClueSpec : ChangeSpec := { name := "fnExactIsClue", fn := fun _ => fun
  | [d1, d2, d3] => { results := [.lit (.bool true)], args := [d1, d2, d3] }
  | _ => none }
def fnExactIsClueRow : OpenClaim := { program := "yteemifeclhenbaadoor", sum := "75a2ec2fc0f41acfb5f8c16055a1f8e74e79817f8045710f77c267ba964f7517", func := "loop.example/g01276/laws.FnExactIsClue", spec := "fnExactIsClue", inPlace := ["internal/bytealg.IndexByteString", "internal/bytealg.IndexString"], named := ["unicode/utf8.first", "unicode/utf8.acceptRanges", "internal/bytealg.MaxLen"], apart := false, laid := [("unicode/utf8.acceptRanges", laid_unicode_utf8_acceptRanges), ("unicode/utf8.first", laid_unicode_utf8_first)] }
def FnExactIsClueSaid : Prop := fnExactIsClueRow.holds Tryd.pinned (OpenSpec.ofChange fnExactIsClueSpec)

/-- ITS FALSE NEIGHBOUR: 'it returns false'. Refute it at one input. -/
def fnExactIsClueWrong : ChangeSpec := { name := "fnExactIsClue", fn := fun _ => fun
  | [d1, d2, d3] => { results := [.lit (.bool false)], args := [d1, d2, d3] }
  | _ => none }
def FnExactIsClueWrongFalsely : Prop := fnExactIsClueRow.holds Tryd.pinned (OpenSpec.ofChange fnExactIsClueWrong)

/-- 'laws.FnExactIsPuzzle': WHATEVER THE INPUT: true; the input reads as it did. -/
def fnExactIsPuzzleSpec : ChangeSpec := { name := "fnExactIsPuzzle", fn := fun _ => fun
  | [d] => { results := [.lit (.bool true)], args := [d] }
  | _ => none }
def fnExactIsPuzzleRow : OpenClaim := { program := "yteemifeclhenbaadoor", sum := "75a2ec2fc0f41acfb5f8c16055a1f8e74e79817f8045710f77c267ba964f7517", func := "loop.example/g01276/laws.FnExactIsPuzzle", spec := "fnExactIsPuzzle", inPlace := ["internal/bytealg.IndexByteString", "internal/bytealg.IndexString"], unfollowed := true, recurses := true, named := ["unicode/utf8.first", "unicode/utf8.acceptRanges", "internal/bytealg.MaxLen"], apart := false, laid := [("unicode/utf8.acceptRanges", laid_unicode_utf8_acceptRanges), ("unicode/utf8.first", laid_unicode_utf8_first)] }
def FnExactIsPuzzleSaid : Prop := fnExactIsPuzzleRow.holds Tryd.pinned (OpenSpec.ofChange fnExactIsPuzzleSpec)

/-- ITS FALSE NEIGHBOUR: 'it returns false'. Refute it at one input. -/
def fnExactIsPuzzleWrong : ChangeSpec := { name := "fnExactIsPuzzle", fn := fun _ => fun
  | [d] => { results := [.lit (.bool false)], args := [d] }
  | _ => none }
def FnExactIsPuzzleWrongFalsely : Prop := fnExactIsPuzzleRow.holds Tryd.pinned (OpenSpec.ofChange fnExactIsPuzzleWrong)

/-- 'laws.FnExactAddClue': WHATEVER THE INPUT: true; the input reads as it did. -/
def fnExactAddClueSpec : ChangeSpec := { name := "fnExactAddClue", fn := fun _ => fun
  | [d1, d2] => { results := [.lit (.bool true)], args := [d1, d2] }
  | _ => none }
def fnExactAddClueRow : OpenClaim := { program := "yteemifeclhenbaadoor", sum := "75a2ec2fc0f41acfb5f8c16055a1f8e74e79817f8045710f77c267ba964f7517", func := "loop.example/g01276/laws.FnExactAddClue", spec := "fnExactAddClue", inPlace := ["internal/bytealg.IndexByteString", "internal/bytealg.IndexString"], unfollowed := true, recurses := true, named := ["unicode/utf8.first", "unicode/utf8.acceptRanges", "internal/bytealg.MaxLen"], apart := false, laid := [("unicode/utf8.acceptRanges", laid_unicode_utf8_acceptRanges), ("unicode/utf8.first", laid_unicode_utf8_first)] }
def FnExactAddClueSaid : Prop := fnExactAddClueRow.holds Tryd.pinned (OpenSpec.ofChange fnExactAddClueSpec)

/-- ITS FALSE NEIGHBOUR: 'it returns false'. Refute it at one input. -/
def fnExactAddClueWrong : ChangeSpec := { name := "fnExactAddClue", fn := fun _ => fun
  | [d1, d2] => { results := [.lit (.bool false)], args := [d1, d2] }
  | _ => none }
def FnExactAddClueWrongFalsely : Prop := fnExactAddClueRow.holds Tryd.pinned (OpenSpec.ofChange fnExactAddClueWrong)

/-- 'laws.FnExactDropClue': WHATEVER THE INPUT: true; the input reads as it did. -/
def fnExactDropClueSpec : ChangeSpec := { name := "fnExactDropClue", fn := fun _ => fun
  | [d1, d2] => { results := [.lit (.bool true)], args := [d1, d2] }
  | _ => none }
def fnExactDropClueRow : OpenClaim := { program := "yteemifeclhenbaadoor", sum := "75a2ec2fc0f41acfb5f8c16055a1f8e74e79817f8045710f77c267ba964f7517", func := "loop.example/g01276/laws.FnExactDropClue", spec := "fnExactDropClue", inPlace := ["internal/bytealg.IndexByteString", "internal/bytealg.IndexString"], unfollowed := true, recurses := true, named := ["unicode/utf8.first", "unicode/utf8.acceptRanges", "internal/bytealg.MaxLen"], apart := false, laid := [("unicode/utf8.acceptRanges", laid_unicode_utf8_acceptRanges), ("unicode/utf8.first", laid_unicode_utf8_first)] }
def FnExactDropClueSaid : Prop := fnExactDropClueRow.holds Tryd.pinned (OpenSpec.ofChange fnExactDropClueSpec)

/-- ITS FALSE NEIGHBOUR: 'it returns false'. Refute it at one input. -/
def fnExactDropClueWrong : ChangeSpec := { name := "fnExactDropClue", fn := fun _ => fun
  | [d1, d2] => { results := [.lit (.bool false)], args := [d1, d2] }
  | _ => none }
def FnExactDropClueWrongFalsely : Prop := fnExactDropClueRow.holds Tryd.pinned (OpenSpec.ofChange fnExactDropClueWrong)

/-- 'laws.FnExactDoesFit': WHATEVER THE INPUT: true; the input reads as it did. -/
def fnExactDoesFitSpec : ChangeSpec := { name := "fnExactDoesFit", fn := fun _ => fun
  | [d1, d2] => { results := [.lit (.bool true)], args := [d1, d2] }
  | _ => none }
def fnExactDoesFitRow : OpenClaim := { program := "yteemifeclhenbaadoor", sum := "75a2ec2fc0f41acfb5f8c16055a1f8e74e79817f8045710f77c267ba964f7517", func := "loop.example/g01276/laws.FnExactDoesFit", spec := "fnExactDoesFit", inPlace := ["internal/bytealg.IndexByteString", "internal/bytealg.IndexString", "internal/bytealg.CountString"], recurses := true, named := ["unicode/utf8.first", "unicode/utf8.acceptRanges", "internal/bytealg.MaxLen"], apart := false, laid := [("unicode/utf8.acceptRanges", laid_unicode_utf8_acceptRanges), ("unicode/utf8.first", laid_unicode_utf8_first)] }
def FnExactDoesFitSaid : Prop := fnExactDoesFitRow.holds Tryd.pinned (OpenSpec.ofChange fnExactDoesFitSpec)

/-- ITS FALSE NEIGHBOUR: 'it returns false'. Refute it at one input. -/
def fnExactDoesFitWrong : ChangeSpec := { name := "fnExactDoesFit", fn := fun _ => fun
  | [d1, d2] => { results := [.lit (.bool false)], args := [d1, d2] }
  | _ => none }
def FnExactDoesFitWrongFalsely : Prop := fnExactDoesFitRow.holds Tryd.pinned (OpenSpec.ofChange fnExactDoesFitWrong)

/-- 'laws.FnExactMakePuzzle': WHATEVER THE INPUT: true; the input reads as it did. -/
def fnExactMakePuzzleSpec : ChangeSpec := { name := "fnExactMakePuzzle", fn := fun _ => fun
  | [d1, d2, d3] => { results := [.lit (.bool true)], args := [d1, d2, d3] }
  | _ => none }
def fnExactMakePuzzleRow : OpenClaim := { program := "yteemifeclhenbaadoor", sum := "75a2ec2fc0f41acfb5f8c16055a1f8e74e79817f8045710f77c267ba964f7517", func := "loop.example/g01276/laws.FnExactMakePuzzle", spec := "fnExactMakePuzzle", inPlace := ["internal/bytealg.IndexByteString", "internal/bytealg.IndexString", "internal/bytealg.CountString"], unfollowed := true, recurses := true, named := ["unicode/utf8.first", "unicode/utf8.acceptRanges", "internal/bytealg.MaxLen"], apart := false, laid := [("unicode/utf8.acceptRanges", laid_unicode_utf8_acceptRanges), ("unicode/utf8.first", laid_unicode_utf8_first)] }
def FnExactMakePuzzleSaid : Prop := fnExactMakePuzzleRow.holds Tryd.pinned (OpenSpec.ofChange fnExactMakePuzzleSpec)

/-- ITS FALSE NEIGHBOUR: 'it returns false'. Refute it at one input. -/
def fnExactMakePuzzleWrong : ChangeSpec := { name := "fnExactMakePuzzle", fn := fun _ => fun
  | [d1, d2, d3] => { results := [.lit (.bool false)], args := [d1, d2, d3] }
  | _ => none }
def FnExactMakePuzzleWrongFalsely : Prop := fnExactMakePuzzleRow.holds Tryd.pinned (OpenSpec.ofChange fnExactMakePuzzleWrong)

/-- 'laws.FnExactPuzzleText': WHATEVER THE INPUT: true; the input reads as it did. -/
def fnExactPuzzleTextSpec : ChangeSpec := { name := "fnExactPuzzleText", fn := fun _ => fun
  | [d] => { results := [.lit (.bool true)], args := [d] }
  | _ => none }
def fnExactPuzzleTextRow : OpenClaim := { program := "yteemifeclhenbaadoor", sum := "75a2ec2fc0f41acfb5f8c16055a1f8e74e79817f8045710f77c267ba964f7517", func := "loop.example/g01276/laws.FnExactPuzzleText", spec := "fnExactPuzzleText", inPlace := ["internal/bytealg.IndexByteString", "internal/bytealg.IndexString", "internal/abi.NoEscape", "internal/bytealg.MakeNoZero"], unfollowed := true, recurses := true, named := ["unicode/utf8.first", "unicode/utf8.acceptRanges", "internal/strconv.uint64pow10", "math/bits.deBruijn32tab", "math/bits.deBruijn64tab", "internal/bytealg.MaxLen"], apart := false, laid := [("math/bits.deBruijn32tab", laid_math_bits_deBruijn32tab), ("math/bits.deBruijn64tab", laid_math_bits_deBruijn64tab), ("internal/strconv.uint64pow10", laid_internal_strconv_uint64pow10), ("unicode/utf8.acceptRanges", laid_unicode_utf8_acceptRanges), ("unicode/utf8.first", laid_unicode_utf8_first)] }
def FnExactPuzzleTextSaid : Prop := fnExactPuzzleTextRow.holds Tryd.pinned (OpenSpec.ofChange fnExactPuzzleTextSpec)

/-- ITS FALSE NEIGHBOUR: 'it returns false'. Refute it at one input. -/
def fnExactPuzzleTextWrong : ChangeSpec := { name := "fnExactPuzzleText", fn := fun _ => fun
  | [d] => { results := [.lit (.bool false)], args := [d] }
  | _ => none }
def FnExactPuzzleTextWrongFalsely : Prop := fnExactPuzzleTextRow.holds Tryd.pinned (OpenSpec.ofChange fnExactPuzzleTextWrong)

/-- 'laws.FnExactCountSolutions': WHATEVER THE INPUT: true; the input reads as it did. -/
def fnExactCountSolutionsSpec : ChangeSpec := { name := "fnExactCountSolutions", fn := fun _ => fun
  | [d] => { results := [.lit (.bool true)], args := [d] }
  | _ => none }
def fnExactCountSolutionsRow : OpenClaim := { program := "yteemifeclhenbaadoor", sum := "75a2ec2fc0f41acfb5f8c16055a1f8e74e79817f8045710f77c267ba964f7517", func := "loop.example/g01276/laws.FnExactCountSolutions", spec := "fnExactCountSolutions", inPlace := ["internal/bytealg.IndexByteString", "internal/bytealg.IndexString", "internal/bytealg.CountString"], unfollowed := true, recurses := true, named := ["unicode/utf8.first", "unicode/utf8.acceptRanges", "internal/bytealg.MaxLen"], apart := false, laid := [("unicode/utf8.acceptRanges", laid_unicode_utf8_acceptRanges), ("unicode/utf8.first", laid_unicode_utf8_first)] }
def FnExactCountSolutionsSaid : Prop := fnExactCountSolutionsRow.holds Tryd.pinned (OpenSpec.ofChange fnExactCountSolutionsSpec)

/-- ITS FALSE NEIGHBOUR: 'it returns false'. Refute it at one input. -/
def fnExactCountSolutionsWrong : ChangeSpec := { name := "fnExactCountSolutions", fn := fun _ => fun
  | [d] => { results := [.lit (.bool false)], args := [d] }
  | _ => none }
def FnExactCountSolutionsWrongFalsely : Prop := fnExactCountSolutionsRow.holds Tryd.pinned (OpenSpec.ofChange fnExactCountSolutionsWrong)

/-- 'laws.FnExactFirstSolution': WHATEVER THE INPUT: true; the input reads as it did. -/
def fnExactFirstSolutionSpec : ChangeSpec := { name := "fnExactFirstSolution", fn := fun _ => fun
  | [d] => { results := [.lit (.bool true)], args := [d] }
  | _ => none }
def fnExactFirstSolutionRow : OpenClaim := { program := "yteemifeclhenbaadoor", sum := "75a2ec2fc0f41acfb5f8c16055a1f8e74e79817f8045710f77c267ba964f7517", func := "loop.example/g01276/laws.FnExactFirstSolution", spec := "fnExactFirstSolution", inPlace := ["internal/bytealg.IndexByteString", "internal/bytealg.IndexString", "internal/bytealg.CountString"], unfollowed := true, recurses := true, named := ["unicode/utf8.first", "unicode/utf8.acceptRanges", "internal/bytealg.MaxLen"], apart := false, laid := [("unicode/utf8.acceptRanges", laid_unicode_utf8_acceptRanges), ("unicode/utf8.first", laid_unicode_utf8_first)] }
def FnExactFirstSolutionSaid : Prop := fnExactFirstSolutionRow.holds Tryd.pinned (OpenSpec.ofChange fnExactFirstSolutionSpec)

/-- ITS FALSE NEIGHBOUR: 'it returns false'. Refute it at one input. -/
def fnExactFirstSolutionWrong : ChangeSpec := { name := "fnExactFirstSolution", fn := fun _ => fun
  | [d] => { results := [.lit (.bool false)], args := [d] }
  | _ => none }
def FnExactFirstSolutionWrongFalsely : Prop := fnExactFirstSolutionRow.holds Tryd.pinned (OpenSpec.ofChange fnExactFirstSolutionWrong)

/-- 'laws.FnExactIsSolved': WHATEVER THE INPUT: true; the input reads as it did. -/
def fnExactIsSolvedSpec : ChangeSpec := { name := "fnExactIsSolved", fn := fun _ => fun
  | [d] => { results := [.lit (.bool true)], args := [d] }
  | _ => none }
def fnExactIsSolvedRow : OpenClaim := { program := "yteemifeclhenbaadoor", sum := "75a2ec2fc0f41acfb5f8c16055a1f8e74e79817f8045710f77c267ba964f7517", func := "loop.example/g01276/laws.FnExactIsSolved", spec := "fnExactIsSolved", inPlace := ["internal/bytealg.IndexByteString", "internal/bytealg.IndexString", "internal/bytealg.CountString"], unfollowed := true, recurses := true, named := ["unicode/utf8.first", "unicode/utf8.acceptRanges", "internal/bytealg.MaxLen"], apart := false, laid := [("unicode/utf8.acceptRanges", laid_unicode_utf8_acceptRanges), ("unicode/utf8.first", laid_unicode_utf8_first)] }
def FnExactIsSolvedSaid : Prop := fnExactIsSolvedRow.holds Tryd.pinned (OpenSpec.ofChange fnExactIsSolvedSpec)

/-- ITS FALSE NEIGHBOUR: 'it returns false'. Refute it at one input. -/
def fnExactIsSolvedWrong : ChangeSpec := { name := "fnExactIsSolved", fn := fun _ => fun
  | [d] => { results := [.lit (.bool false)], args := [d] }
  | _ => none }
def FnExactIsSolvedWrongFalsely : Prop := fnExactIsSolvedRow.holds Tryd.pinned (OpenSpec.ofChange fnExactIsSolvedWrong)

/-- 'laws.FnExactBestClue': WHATEVER THE INPUT: true; the input reads as it did. -/
def fnExactBestClueSpec : ChangeSpec := { name := "fnExactBestClue", fn := fun _ => fun
  | [d] => { results := [.lit (.bool true)], args := [d] }
  | _ => none }
def fnExactBestClueRow : OpenClaim := { program := "yteemifeclhenbaadoor", sum := "75a2ec2fc0f41acfb5f8c16055a1f8e74e79817f8045710f77c267ba964f7517", func := "loop.example/g01276/laws.FnExactBestClue", spec := "fnExactBestClue", inPlace := ["internal/bytealg.IndexByteString", "internal/bytealg.IndexString", "internal/bytealg.CountString"], unfollowed := true, recurses := true, named := ["unicode/utf8.first", "unicode/utf8.acceptRanges", "internal/bytealg.MaxLen"], apart := false, laid := [("unicode/utf8.acceptRanges", laid_unicode_utf8_acceptRanges), ("unicode/utf8.first", laid_unicode_utf8_first)] }
def FnExactBestClueSaid : Prop := fnExactBestClueRow.holds Tryd.pinned (OpenSpec.ofChange fnExactBestClueSpec)

/-- ITS FALSE NEIGHBOUR: 'it returns false'. Refute it at one input. -/
def fnExactBestClueWrong : ChangeSpec := { name := "fnExactBestClue", fn := fun _ => fun
  | [d] => { results := [.lit (.bool false)], args := [d] }
  | _ => none }
def FnExactBestClueWrongFalsely : Prop := fnExactBestClueRow.holds Tryd.pinned (OpenSpec.ofChange fnExactBestClueWrong)

/-- 'laws.FnExactSureCells': WHATEVER THE INPUT: true; the input reads as it did. -/
def fnExactSureCellsSpec : ChangeSpec := { name := "fnExactSureCells", fn := fun _ => fun
  | [d] => { results := [.lit (.bool true)], args := [d] }
  | _ => none }
def fnExactSureCellsRow : OpenClaim := { program := "yteemifeclhenbaadoor", sum := "75a2ec2fc0f41acfb5f8c16055a1f8e74e79817f8045710f77c267ba964f7517", func := "loop.example/g01276/laws.FnExactSureCells", spec := "fnExactSureCells", inPlace := ["internal/bytealg.IndexByteString", "internal/bytealg.IndexString", "internal/bytealg.CountString"], unfollowed := true, recurses := true, named := ["unicode/utf8.first", "unicode/utf8.acceptRanges", "internal/bytealg.MaxLen"], apart := false, laid := [("unicode/utf8.acceptRanges", laid_unicode_utf8_acceptRanges), ("unicode/utf8.first", laid_unicode_utf8_first)] }
def FnExactSureCellsSaid : Prop := fnExactSureCellsRow.holds Tryd.pinned (OpenSpec.ofChange fnExactSureCellsSpec)

/-- ITS FALSE NEIGHBOUR: 'it returns false'. Refute it at one input. -/
def fnExactSureCellsWrong : ChangeSpec := { name := "fnExactSureCells", fn := fun _ => fun
  | [d] => { results := [.lit (.bool false)], args := [d] }
  | _ => none }
def FnExactSureCellsWrongFalsely : Prop := fnExactSureCellsRow.holds Tryd.pinned (OpenSpec.ofChange fnExactSureCellsWrong)

/-- 'laws.FnExactLeftByClues': WHATEVER THE INPUT: true; the input reads as it did. -/
def fnExactLeftByCluesSpec : ChangeSpec := { name := "fnExactLeftByClues", fn := fun _ => fun
  | [d] => { results := [.lit (.bool true)], args := [d] }
  | _ => none }
def fnExactLeftByCluesRow : OpenClaim := { program := "yteemifeclhenbaadoor", sum := "75a2ec2fc0f41acfb5f8c16055a1f8e74e79817f8045710f77c267ba964f7517", func := "loop.example/g01276/laws.FnExactLeftByClues", spec := "fnExactLeftByClues", inPlace := ["internal/bytealg.IndexByteString", "internal/bytealg.IndexString", "internal/bytealg.CountString"], unfollowed := true, recurses := true, named := ["unicode/utf8.first", "unicode/utf8.acceptRanges", "internal/bytealg.MaxLen"], apart := false, laid := [("unicode/utf8.acceptRanges", laid_unicode_utf8_acceptRanges), ("unicode/utf8.first", laid_unicode_utf8_first)] }
def FnExactLeftByCluesSaid : Prop := fnExactLeftByCluesRow.holds Tryd.pinned (OpenSpec.ofChange fnExactLeftByCluesSpec)

/-- ITS FALSE NEIGHBOUR: 'it returns false'. Refute it at one input. -/
def fnExactLeftByCluesWrong : ChangeSpec := { name := "fnExactLeftByClues", fn := fun _ => fun
  | [d] => { results := [.lit (.bool false)], args := [d] }
  | _ => none }
def FnExactLeftByCluesWrongFalsely : Prop := fnExactLeftByCluesRow.holds Tryd.pinned (OpenSpec.ofChange fnExactLeftByCluesWrong)

/-- 'laws.FnExactSolutions': WHATEVER THE INPUT: true; the input reads as it did. -/
def fnExactSolutionsSpec : ChangeSpec := { name := "fnExactSolutions", fn := fun _ => fun
  | [d] => { results := [.lit (.bool true)], args := [d] }
  | _ => none }
def fnExactSolutionsRow : OpenClaim := { program := "yteemifeclhenbaadoor", sum := "75a2ec2fc0f41acfb5f8c16055a1f8e74e79817f8045710f77c267ba964f7517", func := "loop.example/g01276/laws.FnExactSolutions", spec := "fnExactSolutions", inPlace := ["internal/bytealg.IndexByteString", "internal/bytealg.IndexString", "internal/bytealg.CountString"], unfollowed := true, recurses := true, named := ["unicode/utf8.first", "unicode/utf8.acceptRanges", "internal/bytealg.MaxLen"], apart := false, laid := [("unicode/utf8.acceptRanges", laid_unicode_utf8_acceptRanges), ("unicode/utf8.first", laid_unicode_utf8_first)] }
def FnExactSolutionsSaid : Prop := fnExactSolutionsRow.holds Tryd.pinned (OpenSpec.ofChange fnExactSolutionsSpec)

/-- ITS FALSE NEIGHBOUR: 'it returns false'. Refute it at one input. -/
def fnExactSolutionsWrong : ChangeSpec := { name := "fnExactSolutions", fn := fun _ => fun
  | [d] => { results := [.lit (.bool false)], args := [d] }
  | _ => none }
def FnExactSolutionsWrongFalsely : Prop := fnExactSolutionsRow.holds Tryd.pinned (OpenSpec.ofChange fnExactSolutionsWrong)

/-- 'laws.FnExactNeedlessClues': WHATEVER THE INPUT: true; the input reads as it did. -/
def fnExactNeedlessCluesSpec : ChangeSpec := { name := "fnExactNeedlessClues", fn := fun _ => fun
  | [d] => { results := [.lit (.bool true)], args := [d] }
  | _ => none }
def fnExactNeedlessCluesRow : OpenClaim := { program := "yteemifeclhenbaadoor", sum := "75a2ec2fc0f41acfb5f8c16055a1f8e74e79817f8045710f77c267ba964f7517", func := "loop.example/g01276/laws.FnExactNeedlessClues", spec := "fnExactNeedlessClues", inPlace := ["internal/bytealg.IndexByteString", "internal/bytealg.IndexString", "internal/bytealg.CountString"], unfollowed := true, recurses := true, named := ["unicode/utf8.first", "unicode/utf8.acceptRanges", "internal/bytealg.MaxLen"], apart := false, laid := [("unicode/utf8.acceptRanges", laid_unicode_utf8_acceptRanges), ("unicode/utf8.first", laid_unicode_utf8_first)] }
def FnExactNeedlessCluesSaid : Prop := fnExactNeedlessCluesRow.holds Tryd.pinned (OpenSpec.ofChange fnExactNeedlessCluesSpec)

/-- ITS FALSE NEIGHBOUR: 'it returns false'. Refute it at one input. -/
def fnExactNeedlessCluesWrong : ChangeSpec := { name := "fnExactNeedlessClues", fn := fun _ => fun
  | [d] => { results := [.lit (.bool false)], args := [d] }
  | _ => none }
def FnExactNeedlessCluesWrongFalsely : Prop := fnExactNeedlessCluesRow.holds Tryd.pinned (OpenSpec.ofChange fnExactNeedlessCluesWrong)

/-- 'laws.FnExactHarderPuzzle': WHATEVER THE INPUT: true; the input reads as it did. -/
def fnExactHarderPuzzleSpec : ChangeSpec := { name := "fnExactHarderPuzzle", fn := fun _ => fun
  | [d] => { results := [.lit (.bool true)], args := [d] }
  | _ => none }
def fnExactHarderPuzzleRow : OpenClaim := { program := "yteemifeclhenbaadoor", sum := "75a2ec2fc0f41acfb5f8c16055a1f8e74e79817f8045710f77c267ba964f7517", func := "loop.example/g01276/laws.FnExactHarderPuzzle", spec := "fnExactHarderPuzzle", inPlace := ["internal/bytealg.IndexByteString", "internal/bytealg.IndexString", "internal/bytealg.CountString"], unfollowed := true, recurses := true, named := ["unicode/utf8.first", "unicode/utf8.acceptRanges", "internal/bytealg.MaxLen"], apart := false, laid := [("unicode/utf8.acceptRanges", laid_unicode_utf8_acceptRanges), ("unicode/utf8.first", laid_unicode_utf8_first)] }
def FnExactHarderPuzzleSaid : Prop := fnExactHarderPuzzleRow.holds Tryd.pinned (OpenSpec.ofChange fnExactHarderPuzzleSpec)

/-- ITS FALSE NEIGHBOUR: 'it returns false'. Refute it at one input. -/
def fnExactHarderPuzzleWrong : ChangeSpec := { name := "fnExactHarderPuzzle", fn := fun _ => fun
  | [d] => { results := [.lit (.bool false)], args := [d] }
  | _ => none }
def FnExactHarderPuzzleWrongFalsely : Prop := fnExactHarderPuzzleRow.holds Tryd.pinned (OpenSpec.ofChange fnExactHarderPuzzleWrong)

/- THE SECOND FORM. 'bulk': how many values and letters a reading holds, each counted each time it is reached (what is shared counts as often as it is met; a slice's spare places count too). A statement '..UptoSaid' is the law's where the arguments, and the package variables that the reading takes, are together of bulk at most 1048576: NARROWER than '..Said'. Prove '..Said' where nothing that the law and all that it calls make is longer than what came in: it says more and counts as full. Else prove '..UptoSaid'. A law counts once. -/
mutual
def uptoBulk {H : Type} : DataW H → Nat
  | .lit (.string bytes) => bytes.length + 1
  | .lit _ => 1
  | .nil => 1
  | .ptr d => uptoBulk d + 1
  | .slice elems spare => uptoBulkAll elems + uptoBulkAll spare + 1
  | .agg parts => uptoBulkAll parts + 1
  | .iface _ d => uptoBulk d + 1
  | .map entries => uptoBulkEntries entries + 1
  | .held _ => 1
def uptoBulkAll {H : Type} : List (DataW H) → Nat
  | [] => 0
  | d :: r => uptoBulk d + uptoBulkAll r
def uptoBulkEntries {H : Type} : List (Lit × DataW H) → Nat
  | [] => 0
  | x :: r => uptoBulkEntry x + uptoBulkEntries r
def uptoBulkEntry {H : Type} : Lit × DataW H → Nat
  | (.string bytes, d) => bytes.length + uptoBulk d + 1
  | (_, d) => uptoBulk d + 1
 end
def uptoSmall : (H : Type) → List (DataW H) → Bool := fun _ ds => decide (uptoBulkAll ds ≤ 1048576)
def OpenSpec.upto (s : _root_.Go.ChangeSpec) : _root_.Go.OpenSpec := { _root_.Go.OpenSpec.ofChange s with cond := some uptoSmall }

/-- 'laws.FnExactCountBoards', WHERE WHAT IT READS IS OF BULK AT MOST 1048576: true; the input reads as it did. -/
def fnExactCountBoardsUptoRow : OpenClaim := { program := "yteemifeclhenbaadoor", sum := "75a2ec2fc0f41acfb5f8c16055a1f8e74e79817f8045710f77c267ba964f7517", func := "loop.example/g01276/laws.FnExactCountBoards", spec := "fnExactCountBoards", inPlace := ["internal/bytealg.IndexByteString", "internal/bytealg.IndexString"], named := ["unicode/utf8.first", "unicode/utf8.acceptRanges", "internal/bytealg.MaxLen"], apart := false, laid := [("unicode/utf8.acceptRanges", laid_unicode_utf8_acceptRanges), ("unicode/utf8.first", laid_unicode_utf8_first)], narrowed := true }
def FnExactCountBoardsUptoSaid : Prop := fnExactCountBoardsUptoRow.holds Tryd.pinned (OpenSpec.upto fnExactCountBoardsSpec)

/-- 'laws.FnExactIsClue', WHERE WHAT IT READS IS OF BULK AT MOST 1048576: true; the input reads as it did. -/
def fnExactIsClueUptoRow : OpenClaim := { program := "yteemifeclhenbaadoor", sum := "75a2ec2fc0f41acfb5f8c16055a1f8e74e79817f8045710f77c267ba964f7517", func := "loop.example/g01276/laws.FnExactIsClue", spec := "fnExactIsClue", inPlace := ["internal/bytealg.IndexByteString", "internal/bytealg.IndexString"], named := ["unicode/utf8.first", "unicode/utf8.acceptRanges", "internal/bytealg.MaxLen"], apart := false, laid := [("unicode/utf8.acceptRanges", laid_unicode_utf8_acceptRanges), ("unicode/utf8.first", laid_unicode_utf8_first)], narrowed := true }
def FnExactIsClueUptoSaid : Prop := fnExactIsClueUptoRow.holds Tryd.pinned (OpenSpec.upto fnExactIsClueSpec)

/-- 'laws.FnExactIsPuzzle', WHERE WHAT IT READS IS OF BULK AT MOST 1048576: true; the input reads as it did. -/
def fnExactIsPuzzleUptoRow : OpenClaim := { program := "yteemifeclhenbaadoor", sum := "75a2ec2fc0f41acfb5f8c16055a1f8e74e79817f8045710f77c267ba964f7517", func := "loop.example/g01276/laws.FnExactIsPuzzle", spec := "fnExactIsPuzzle", inPlace := ["internal/bytealg.IndexByteString", "internal/bytealg.IndexString"], unfollowed := true, recurses := true, named := ["unicode/utf8.first", "unicode/utf8.acceptRanges", "internal/bytealg.MaxLen"], apart := false, laid := [("unicode/utf8.acceptRanges", laid_unicode_utf8_acceptRanges), ("unicode/utf8.first", laid_unicode_utf8_first)], narrowed := true }
def FnExactIsPuzzleUptoSaid : Prop := fnExactIsPuzzleUptoRow.holds Tryd.pinned (OpenSpec.upto fnExactIsPuzzleSpec)

/-- 'laws.FnExactAddClue', WHERE WHAT IT READS IS OF BULK AT MOST 1048576: true; the input reads as it did. -/
def fnExactAddClueUptoRow : OpenClaim := { program := "yteemifeclhenbaadoor", sum := "75a2ec2fc0f41acfb5f8c16055a1f8e74e79817f8045710f77c267ba964f7517", func := "loop.example/g01276/laws.FnExactAddClue", spec := "fnExactAddClue", inPlace := ["internal/bytealg.IndexByteString", "internal/bytealg.IndexString"], unfollowed := true, recurses := true, named := ["unicode/utf8.first", "unicode/utf8.acceptRanges", "internal/bytealg.MaxLen"], apart := false, laid := [("unicode/utf8.acceptRanges", laid_unicode_utf8_acceptRanges), ("unicode/utf8.first", laid_unicode_utf8_first)], narrowed := true }
def FnExactAddClueUptoSaid : Prop := fnExactAddClueUptoRow.holds Tryd.pinned (OpenSpec.upto fnExactAddClueSpec)

/-- 'laws.FnExactDropClue', WHERE WHAT IT READS IS OF BULK AT MOST 1048576: true; the input reads as it did. -/
def fnExactDropClueUptoRow : OpenClaim := { program := "yteemifeclhenbaadoor", sum := "75a2ec2fc0f41acfb5f8c16055a1f8e74e79817f8045710f77c267ba964f7517", func := "loop.example/g01276/laws.FnExactDropClue", spec := "fnExactDropClue", inPlace := ["internal/bytealg.IndexByteString", "internal/bytealg.IndexString"], unfollowed := true, recurses := true, named := ["unicode/utf8.first", "unicode/utf8.acceptRanges", "internal/bytealg.MaxLen"], apart := false, laid := [("unicode/utf8.acceptRanges", laid_unicode_utf8_acceptRanges), ("unicode/utf8.first", laid_unicode_utf8_first)], narrowed := true }
def FnExactDropClueUptoSaid : Prop := fnExactDropClueUptoRow.holds Tryd.pinned (OpenSpec.upto fnExactDropClueSpec)

/-- 'laws.FnExactDoesFit', WHERE WHAT IT READS IS OF BULK AT MOST 1048576: true; the input reads as it did. -/
def fnExactDoesFitUptoRow : OpenClaim := { program := "yteemifeclhenbaadoor", sum := "75a2ec2fc0f41acfb5f8c16055a1f8e74e79817f8045710f77c267ba964f7517", func := "loop.example/g01276/laws.FnExactDoesFit", spec := "fnExactDoesFit", inPlace := ["internal/bytealg.IndexByteString", "internal/bytealg.IndexString", "internal/bytealg.CountString"], recurses := true, named := ["unicode/utf8.first", "unicode/utf8.acceptRanges", "internal/bytealg.MaxLen"], apart := false, laid := [("unicode/utf8.acceptRanges", laid_unicode_utf8_acceptRanges), ("unicode/utf8.first", laid_unicode_utf8_first)], narrowed := true }
def FnExactDoesFitUptoSaid : Prop := fnExactDoesFitUptoRow.holds Tryd.pinned (OpenSpec.upto fnExactDoesFitSpec)

/-- 'laws.FnExactMakePuzzle', WHERE WHAT IT READS IS OF BULK AT MOST 1048576: true; the input reads as it did. -/
def fnExactMakePuzzleUptoRow : OpenClaim := { program := "yteemifeclhenbaadoor", sum := "75a2ec2fc0f41acfb5f8c16055a1f8e74e79817f8045710f77c267ba964f7517", func := "loop.example/g01276/laws.FnExactMakePuzzle", spec := "fnExactMakePuzzle", inPlace := ["internal/bytealg.IndexByteString", "internal/bytealg.IndexString", "internal/bytealg.CountString"], unfollowed := true, recurses := true, named := ["unicode/utf8.first", "unicode/utf8.acceptRanges", "internal/bytealg.MaxLen"], apart := false, laid := [("unicode/utf8.acceptRanges", laid_unicode_utf8_acceptRanges), ("unicode/utf8.first", laid_unicode_utf8_first)], narrowed := true }
def FnExactMakePuzzleUptoSaid : Prop := fnExactMakePuzzleUptoRow.holds Tryd.pinned (OpenSpec.upto fnExactMakePuzzleSpec)

/-- 'laws.FnExactPuzzleText', WHERE WHAT IT READS IS OF BULK AT MOST 1048576: true; the input reads as it did. -/
def fnExactPuzzleTextUptoRow : OpenClaim := { program := "yteemifeclhenbaadoor", sum := "75a2ec2fc0f41acfb5f8c16055a1f8e74e79817f8045710f77c267ba964f7517", func := "loop.example/g01276/laws.FnExactPuzzleText", spec := "fnExactPuzzleText", inPlace := ["internal/bytealg.IndexByteString", "internal/bytealg.IndexString", "internal/abi.NoEscape", "internal/bytealg.MakeNoZero"], unfollowed := true, recurses := true, named := ["unicode/utf8.first", "unicode/utf8.acceptRanges", "internal/strconv.uint64pow10", "math/bits.deBruijn32tab", "math/bits.deBruijn64tab", "internal/bytealg.MaxLen"], apart := false, laid := [("math/bits.deBruijn32tab", laid_math_bits_deBruijn32tab), ("math/bits.deBruijn64tab", laid_math_bits_deBruijn64tab), ("internal/strconv.uint64pow10", laid_internal_strconv_uint64pow10), ("unicode/utf8.acceptRanges", laid_unicode_utf8_acceptRanges), ("unicode/utf8.first", laid_unicode_utf8_first)], narrowed := true }
def FnExactPuzzleTextUptoSaid : Prop := fnExactPuzzleTextUptoRow.holds Tryd.pinned (OpenSpec.upto fnExactPuzzleTextSpec)

/-- 'laws.FnExactCountSolutions', WHERE WHAT IT READS IS OF BULK AT MOST 1048576: true; the input reads as it did. -/
def fnExactCountSolutionsUptoRow : OpenClaim := { program := "yteemifeclhenbaadoor", sum := "75a2ec2fc0f41acfb5f8c16055a1f8e74e79817f8045710f77c267ba964f7517", func := "loop.example/g01276/laws.FnExactCountSolutions", spec := "fnExactCountSolutions", inPlace := ["internal/bytealg.IndexByteString", "internal/bytealg.IndexString", "internal/bytealg.CountString"], unfollowed := true, recurses := true, named := ["unicode/utf8.first", "unicode/utf8.acceptRanges", "internal/bytealg.MaxLen"], apart := false, laid := [("unicode/utf8.acceptRanges", laid_unicode_utf8_acceptRanges), ("unicode/utf8.first", laid_unicode_utf8_first)], narrowed := true }
def FnExactCountSolutionsUptoSaid : Prop := fnExactCountSolutionsUptoRow.holds Tryd.pinned (OpenSpec.upto fnExactCountSolutionsSpec)

/-- 'laws.FnExactFirstSolution', WHERE WHAT IT READS IS OF BULK AT MOST 1048576: true; the input reads as it did. -/
def fnExactFirstSolutionUptoRow : OpenClaim := { program := "yteemifeclhenbaadoor", sum := "75a2ec2fc0f41acfb5f8c16055a1f8e74e79817f8045710f77c267ba964f7517", func := "loop.example/g01276/laws.FnExactFirstSolution", spec := "fnExactFirstSolution", inPlace := ["internal/bytealg.IndexByteString", "internal/bytealg.IndexString", "internal/bytealg.CountString"], unfollowed := true, recurses := true, named := ["unicode/utf8.first", "unicode/utf8.acceptRanges", "internal/bytealg.MaxLen"], apart := false, laid := [("unicode/utf8.acceptRanges", laid_unicode_utf8_acceptRanges), ("unicode/utf8.first", laid_unicode_utf8_first)], narrowed := true }
def FnExactFirstSolutionUptoSaid : Prop := fnExactFirstSolutionUptoRow.holds Tryd.pinned (OpenSpec.upto fnExactFirstSolutionSpec)

/-- 'laws.FnExactIsSolved', WHERE WHAT IT READS IS OF BULK AT MOST 1048576: true; the input reads as it did. -/
def fnExactIsSolvedUptoRow : OpenClaim := { program := "yteemifeclhenbaadoor", sum := "75a2ec2fc0f41acfb5f8c16055a1f8e74e79817f8045710f77c267ba964f7517", func := "loop.example/g01276/laws.FnExactIsSolved", spec := "fnExactIsSolved", inPlace := ["internal/bytealg.IndexByteString", "internal/bytealg.IndexString", "internal/bytealg.CountString"], unfollowed := true, recurses := true, named := ["unicode/utf8.first", "unicode/utf8.acceptRanges", "internal/bytealg.MaxLen"], apart := false, laid := [("unicode/utf8.acceptRanges", laid_unicode_utf8_acceptRanges), ("unicode/utf8.first", laid_unicode_utf8_first)], narrowed := true }
def FnExactIsSolvedUptoSaid : Prop := fnExactIsSolvedUptoRow.holds Tryd.pinned (OpenSpec.upto fnExactIsSolvedSpec)

/-- 'laws.FnExactBestClue', WHERE WHAT IT READS IS OF BULK AT MOST 1048576: true; the input reads as it did. -/
def fnExactBestClueUptoRow : OpenClaim := { program := "yteemifeclhenbaadoor", sum := "75a2ec2fc0f41acfb5f8c16055a1f8e74e79817f8045710f77c267ba964f7517", func := "loop.example/g01276/laws.FnExactBestClue", spec := "fnExactBestClue", inPlace := ["internal/bytealg.IndexByteString", "internal/bytealg.IndexString", "internal/bytealg.CountString"], unfollowed := true, recurses := true, named := ["unicode/utf8.first", "unicode/utf8.acceptRanges", "internal/bytealg.MaxLen"], apart := false, laid := [("unicode/utf8.acceptRanges", laid_unicode_utf8_acceptRanges), ("unicode/utf8.first", laid_unicode_utf8_first)], narrowed := true }
def FnExactBestClueUptoSaid : Prop := fnExactBestClueUptoRow.holds Tryd.pinned (OpenSpec.upto fnExactBestClueSpec)

/-- 'laws.FnExactSureCells', WHERE WHAT IT READS IS OF BULK AT MOST 1048576: true; the input reads as it did. -/
def fnExactSureCellsUptoRow : OpenClaim := { program := "yteemifeclhenbaadoor", sum := "75a2ec2fc0f41acfb5f8c16055a1f8e74e79817f8045710f77c267ba964f7517", func := "loop.example/g01276/laws.FnExactSureCells", spec := "fnExactSureCells", inPlace := ["internal/bytealg.IndexByteString", "internal/bytealg.IndexString", "internal/bytealg.CountString"], unfollowed := true, recurses := true, named := ["unicode/utf8.first", "unicode/utf8.acceptRanges", "internal/bytealg.MaxLen"], apart := false, laid := [("unicode/utf8.acceptRanges", laid_unicode_utf8_acceptRanges), ("unicode/utf8.first", laid_unicode_utf8_first)], narrowed := true }
def FnExactSureCellsUptoSaid : Prop := fnExactSureCellsUptoRow.holds Tryd.pinned (OpenSpec.upto fnExactSureCellsSpec)

/-- 'laws.FnExactLeftByClues', WHERE WHAT IT READS IS OF BULK AT MOST 1048576: true; the input reads as it did. -/
def fnExactLeftByCluesUptoRow : OpenClaim := { program := "yteemifeclhenbaadoor", sum := "75a2ec2fc0f41acfb5f8c16055a1f8e74e79817f8045710f77c267ba964f7517", func := "loop.example/g01276/laws.FnExactLeftByClues", spec := "fnExactLeftByClues", inPlace := ["internal/bytealg.IndexByteString", "internal/bytealg.IndexString", "internal/bytealg.CountString"], unfollowed := true, recurses := true, named := ["unicode/utf8.first", "unicode/utf8.acceptRanges", "internal/bytealg.MaxLen"], apart := false, laid := [("unicode/utf8.acceptRanges", laid_unicode_utf8_acceptRanges), ("unicode/utf8.first", laid_unicode_utf8_first)], narrowed := true }
def FnExactLeftByCluesUptoSaid : Prop := fnExactLeftByCluesUptoRow.holds Tryd.pinned (OpenSpec.upto fnExactLeftByCluesSpec)

/-- 'laws.FnExactSolutions', WHERE WHAT IT READS IS OF BULK AT MOST 1048576: true; the input reads as it did. -/
def fnExactSolutionsUptoRow : OpenClaim := { program := "yteemifeclhenbaadoor", sum := "75a2ec2fc0f41acfb5f8c16055a1f8e74e79817f8045710f77c267ba964f7517", func := "loop.example/g01276/laws.FnExactSolutions", spec := "fnExactSolutions", inPlace := ["internal/bytealg.IndexByteString", "internal/bytealg.IndexString", "internal/bytealg.CountString"], unfollowed := true, recurses := true, named := ["unicode/utf8.first", "unicode/utf8.acceptRanges", "internal/bytealg.MaxLen"], apart := false, laid := [("unicode/utf8.acceptRanges", laid_unicode_utf8_acceptRanges), ("unicode/utf8.first", laid_unicode_utf8_first)], narrowed := true }
def FnExactSolutionsUptoSaid : Prop := fnExactSolutionsUptoRow.holds Tryd.pinned (OpenSpec.upto fnExactSolutionsSpec)

/-- 'laws.FnExactNeedlessClues', WHERE WHAT IT READS IS OF BULK AT MOST 1048576: true; the input reads as it did. -/
def fnExactNeedlessCluesUptoRow : OpenClaim := { program := "yteemifeclhenbaadoor", sum := "75a2ec2fc0f41acfb5f8c16055a1f8e74e79817f8045710f77c267ba964f7517", func := "loop.example/g01276/laws.FnExactNeedlessClues", spec := "fnExactNeedlessClues", inPlace := ["internal/bytealg.IndexByteString", "internal/bytealg.IndexString", "internal/bytealg.CountString"], unfollowed := true, recurses := true, named := ["unicode/utf8.first", "unicode/utf8.acceptRanges", "internal/bytealg.MaxLen"], apart := false, laid := [("unicode/utf8.acceptRanges", laid_unicode_utf8_acceptRanges), ("unicode/utf8.first", laid_unicode_utf8_first)], narrowed := true }
def FnExactNeedlessCluesUptoSaid : Prop := fnExactNeedlessCluesUptoRow.holds Tryd.pinned (OpenSpec.upto fnExactNeedlessCluesSpec)

/-- 'laws.FnExactHarderPuzzle', WHERE WHAT IT READS IS OF BULK AT MOST 1048576: true; the input reads as it did. -/
def fnExactHarderPuzzleUptoRow : OpenClaim := { program := "yteemifeclhenbaadoor", sum := "75a2ec2fc0f41acfb5f8c16055a1f8e74e79817f8045710f77c267ba964f7517", func := "loop.example/g01276/laws.FnExactHarderPuzzle", spec := "fnExactHarderPuzzle", inPlace := ["internal/bytealg.IndexByteString", "internal/bytealg.IndexString", "internal/bytealg.CountString"], unfollowed := true, recurses := true, named := ["unicode/utf8.first", "unicode/utf8.acceptRanges", "internal/bytealg.MaxLen"], apart := false, laid := [("unicode/utf8.acceptRanges", laid_unicode_utf8_acceptRanges), ("unicode/utf8.first", laid_unicode_utf8_first)], narrowed := true }
def FnExactHarderPuzzleUptoSaid : Prop := fnExactHarderPuzzleUptoRow.holds Tryd.pinned (OpenSpec.upto fnExactHarderPuzzleSpec)

end Rows
end Go.Proofs.YteemifeclhenbaaDoor
