/-
  NARROWER THAN 'FOR EVERY INPUT', by the rows' own cells (each row's printed sentence says how): FnExactDoesFit: laid · FnExactCountSolutions: laid · FnExactFirstSolution: laid · FnExactIsSolved: laid · FnExactBestClue: laid · FnExactSureCells: laid · FnExactLeftByClues: laid · FnExactSolutions: laid.
  DERIVED. THE GIVEN ROWS OF THIS SEAT. 8 by the template 'for every input the law returns true; each argument reads behind the call as it read before'; 0 by the template 'total and deterministic' (their statements: YtngfakjifgafeaaDoorTotals.lean).
  GIVEN WITH THE SEED: the statements are not yours to turn. If you find one false, say at which input.
  Laid BY PROGRAM, IN A SANDBOX (cutbox-rows.mjs): the forced cells as the released guide's own fill.sh prints them over the translation 38627d18e1c4af46… (all of the seat's roots in one cut). By AI agents, Wed Nov 11 2026. No macro, syntax, notation, axiom, sorry.
-/
import Derived.Test.YtngfakjifgafeaaDoorChecked
import GoSem.PinnedTables
import GoSem.Claim
import GoSem.ClaimJoined
import GoSem.ClaimMapViews
import Derived.JoinedTies
import Derived.KernelRfl
namespace Go.Proofs.YtngfakjifgafeaaDoor
/- THE CELL 'sum', in the pinned program and in every row, IS THE sha256 OF THE DUMP (.gsa) THAT YtngfakjifgafeaaDoorProg.lean LOADS. Nothing in Lean hashes anything: it is a label: what it is worth is what the hold of that sum in a sandbox is worth. -/
noncomputable def Tryd.pinned : Pinned := { name := "ytngfakjifgafeaadoor", sum := "38627d18e1c4af461955b3905a12a3beefb7588cccb2ae151bfb9050cc6b9067", checked := Tryd.checked }
namespace Rows
def none {H : Type} : Left H := { results := [], args := [] }

/- WHAT THE LISTED PACKAGE-LEVEL VARIABLES READ AS WHEN THE CALL BEGINS. Each datum BY PROGRAM (the guide's laid-datum.mjs) off the statement by which the dump's own 'gosem.cut.vars' lays the variable. In a bare row this is a premise. The card (YtngfakjifgafeaaDoorCards.lean) ties it to the program's text. -/
def laid_unicode_utf8_acceptRanges {H : Type} : DataW H := .agg [.agg [.lit (.int .u8 128), .lit (.int .u8 191)], .agg [.lit (.int .u8 160), .lit (.int .u8 191)], .agg [.lit (.int .u8 128), .lit (.int .u8 159)], .agg [.lit (.int .u8 144), .lit (.int .u8 191)], .agg [.lit (.int .u8 128), .lit (.int .u8 143)], .agg [.lit (.int .u8 0), .lit (.int .u8 0)], .agg [.lit (.int .u8 0), .lit (.int .u8 0)], .agg [.lit (.int .u8 0), .lit (.int .u8 0)], .agg [.lit (.int .u8 0), .lit (.int .u8 0)], .agg [.lit (.int .u8 0), .lit (.int .u8 0)], .agg [.lit (.int .u8 0), .lit (.int .u8 0)], .agg [.lit (.int .u8 0), .lit (.int .u8 0)], .agg [.lit (.int .u8 0), .lit (.int .u8 0)], .agg [.lit (.int .u8 0), .lit (.int .u8 0)], .agg [.lit (.int .u8 0), .lit (.int .u8 0)], .agg [.lit (.int .u8 0), .lit (.int .u8 0)]]
/-- One of Go's own tables, pinned by name: the form's constant. -/
def laid_unicode_utf8_first : DataW Unit := Go.Pinned.utf8First

/-- 'laws.FnExactDoesFit': WHATEVER THE INPUT: true; the input reads as it did. -/
def fnExactDoesFitSpec : ChangeSpec := { name := "fnExactDoesFit", fn := fun _ => fun
  | [d1, d2] => { results := [.lit (.bool true)], args := [d1, d2] }
  | _ => none }
def fnExactDoesFitRow : OpenClaim := { program := "ytngfakjifgafeaadoor", sum := "38627d18e1c4af461955b3905a12a3beefb7588cccb2ae151bfb9050cc6b9067", func := "loop.example/g01276/laws.FnExactDoesFit", spec := "fnExactDoesFit", inPlace := ["internal/bytealg.IndexByteString", "internal/bytealg.IndexString", "internal/bytealg.CountString"], recurses := true, named := ["unicode/utf8.first", "unicode/utf8.acceptRanges", "internal/bytealg.MaxLen"], apart := false, laid := [("unicode/utf8.acceptRanges", laid_unicode_utf8_acceptRanges), ("unicode/utf8.first", laid_unicode_utf8_first)] }
def FnExactDoesFitSaid : Prop := fnExactDoesFitRow.holds Tryd.pinned (OpenSpec.ofChange fnExactDoesFitSpec)

/-- ITS FALSE NEIGHBOUR: 'it returns false'. Refute it at one input. -/
def fnExactDoesFitWrong : ChangeSpec := { name := "fnExactDoesFit", fn := fun _ => fun
  | [d1, d2] => { results := [.lit (.bool false)], args := [d1, d2] }
  | _ => none }
def FnExactDoesFitWrongFalsely : Prop := fnExactDoesFitRow.holds Tryd.pinned (OpenSpec.ofChange fnExactDoesFitWrong)

/-- 'laws.FnExactCountSolutions': WHATEVER THE INPUT: true; the input reads as it did. -/
def fnExactCountSolutionsSpec : ChangeSpec := { name := "fnExactCountSolutions", fn := fun _ => fun
  | [d] => { results := [.lit (.bool true)], args := [d] }
  | _ => none }
def fnExactCountSolutionsRow : OpenClaim := { program := "ytngfakjifgafeaadoor", sum := "38627d18e1c4af461955b3905a12a3beefb7588cccb2ae151bfb9050cc6b9067", func := "loop.example/g01276/laws.FnExactCountSolutions", spec := "fnExactCountSolutions", inPlace := ["internal/bytealg.IndexByteString", "internal/bytealg.IndexString", "internal/bytealg.CountString"], unfollowed := true, recurses := true, named := ["unicode/utf8.first", "unicode/utf8.acceptRanges", "internal/bytealg.MaxLen"], apart := false, laid := [("unicode/utf8.acceptRanges", laid_unicode_utf8_acceptRanges), ("unicode/utf8.first", laid_unicode_utf8_first)] }
def FnExactCountSolutionsSaid : Prop := fnExactCountSolutionsRow.holds Tryd.pinned (OpenSpec.ofChange fnExactCountSolutionsSpec)

/-- ITS FALSE NEIGHBOUR: 'it returns false'. Refute it at one input. -/
def fnExactCountSolutionsWrong : ChangeSpec := { name := "fnExactCountSolutions", fn := fun _ => fun
  | [d] => { results := [.lit (.bool false)], args := [d] }
  | _ => none }
def FnExactCountSolutionsWrongFalsely : Prop := fnExactCountSolutionsRow.holds Tryd.pinned (OpenSpec.ofChange fnExactCountSolutionsWrong)

/-- 'laws.FnExactFirstSolution': WHATEVER THE INPUT: true; the input reads as it did. -/
def fnExactFirstSolutionSpec : ChangeSpec := { name := "fnExactFirstSolution", fn := fun _ => fun
  | [d] => { results := [.lit (.bool true)], args := [d] }
  | _ => none }
def fnExactFirstSolutionRow : OpenClaim := { program := "ytngfakjifgafeaadoor", sum := "38627d18e1c4af461955b3905a12a3beefb7588cccb2ae151bfb9050cc6b9067", func := "loop.example/g01276/laws.FnExactFirstSolution", spec := "fnExactFirstSolution", inPlace := ["internal/bytealg.IndexByteString", "internal/bytealg.IndexString", "internal/bytealg.CountString"], unfollowed := true, recurses := true, named := ["unicode/utf8.first", "unicode/utf8.acceptRanges", "internal/bytealg.MaxLen"], apart := false, laid := [("unicode/utf8.acceptRanges", laid_unicode_utf8_acceptRanges), ("unicode/utf8.first", laid_unicode_utf8_first)] }
def FnExactFirstSolutionSaid : Prop := fnExactFirstSolutionRow.holds Tryd.pinned (OpenSpec.ofChange fnExactFirstSolutionSpec)

/-- ITS FALSE NEIGHBOUR: 'it returns false'. Refute it at one input. -/
def fnExactFirstSolutionWrong : ChangeSpec := { name := "fnExactFirstSolution", fn := fun _ => fun
  | [d] => { results := [.lit (.bool false)], args := [d] }
  | _ => none }
def FnExactFirstSolutionWrongFalsely : Prop := fnExactFirstSolutionRow.holds Tryd.pinned (OpenSpec.ofChange fnExactFirstSolutionWrong)

/-- 'laws.FnExactIsSolved': WHATEVER THE INPUT: true; the input reads as it did. -/
def fnExactIsSolvedSpec : ChangeSpec := { name := "fnExactIsSolved", fn := fun _ => fun
  | [d] => { results := [.lit (.bool true)], args := [d] }
  | _ => none }
def fnExactIsSolvedRow : OpenClaim := { program := "ytngfakjifgafeaadoor", sum := "38627d18e1c4af461955b3905a12a3beefb7588cccb2ae151bfb9050cc6b9067", func := "loop.example/g01276/laws.FnExactIsSolved", spec := "fnExactIsSolved", inPlace := ["internal/bytealg.IndexByteString", "internal/bytealg.IndexString", "internal/bytealg.CountString"], unfollowed := true, recurses := true, named := ["unicode/utf8.first", "unicode/utf8.acceptRanges", "internal/bytealg.MaxLen"], apart := false, laid := [("unicode/utf8.acceptRanges", laid_unicode_utf8_acceptRanges), ("unicode/utf8.first", laid_unicode_utf8_first)] }
def FnExactIsSolvedSaid : Prop := fnExactIsSolvedRow.holds Tryd.pinned (OpenSpec.ofChange fnExactIsSolvedSpec)

/-- ITS FALSE NEIGHBOUR: 'it returns false'. Refute it at one input. -/
def fnExactIsSolvedWrong : ChangeSpec := { name := "fnExactIsSolved", fn := fun _ => fun
  | [d] => { results := [.lit (.bool false)], args := [d] }
  | _ => none }
def FnExactIsSolvedWrongFalsely : Prop := fnExactIsSolvedRow.holds Tryd.pinned (OpenSpec.ofChange fnExactIsSolvedWrong)

/-- 'laws.FnExactBestClue': WHATEVER THE INPUT: true; the input reads as it did. -/
def fnExactBestClueSpec : ChangeSpec := { name := "fnExactBestClue", fn := fun _ => fun
  | [d] => { results := [.lit (.bool true)], args := [d] }
  | _ => none }
def fnExactBestClueRow : OpenClaim := { program := "ytngfakjifgafeaadoor", sum := "38627d18e1c4af461955b3905a12a3beefb7588cccb2ae151bfb9050cc6b9067", func := "loop.example/g01276/laws.FnExactBestClue", spec := "fnExactBestClue", inPlace := ["internal/bytealg.IndexByteString", "internal/bytealg.IndexString", "internal/bytealg.CountString"], unfollowed := true, recurses := true, named := ["unicode/utf8.first", "unicode/utf8.acceptRanges", "internal/bytealg.MaxLen"], apart := false, laid := [("unicode/utf8.acceptRanges", laid_unicode_utf8_acceptRanges), ("unicode/utf8.first", laid_unicode_utf8_first)] }
def FnExactBestClueSaid : Prop := fnExactBestClueRow.holds Tryd.pinned (OpenSpec.ofChange fnExactBestClueSpec)

/-- ITS FALSE NEIGHBOUR: 'it returns false'. Refute it at one input. -/
def fnExactBestClueWrong : ChangeSpec := { name := "fnExactBestClue", fn := fun _ => fun
  | [d] => { results := [.lit (.bool false)], args := [d] }
  | _ => none }
def FnExactBestClueWrongFalsely : Prop := fnExactBestClueRow.holds Tryd.pinned (OpenSpec.ofChange fnExactBestClueWrong)

/-- 'laws.FnExactSureCells': WHATEVER THE INPUT: true; the input reads as it did. -/
def fnExactSureCellsSpec : ChangeSpec := { name := "fnExactSureCells", fn := fun _ => fun
  | [d] => { results := [.lit (.bool true)], args := [d] }
  | _ => none }
def fnExactSureCellsRow : OpenClaim := { program := "ytngfakjifgafeaadoor", sum := "38627d18e1c4af461955b3905a12a3beefb7588cccb2ae151bfb9050cc6b9067", func := "loop.example/g01276/laws.FnExactSureCells", spec := "fnExactSureCells", inPlace := ["internal/bytealg.IndexByteString", "internal/bytealg.IndexString", "internal/bytealg.CountString"], unfollowed := true, recurses := true, named := ["unicode/utf8.first", "unicode/utf8.acceptRanges", "internal/bytealg.MaxLen"], apart := false, laid := [("unicode/utf8.acceptRanges", laid_unicode_utf8_acceptRanges), ("unicode/utf8.first", laid_unicode_utf8_first)] }
def FnExactSureCellsSaid : Prop := fnExactSureCellsRow.holds Tryd.pinned (OpenSpec.ofChange fnExactSureCellsSpec)

/-- ITS FALSE NEIGHBOUR: 'it returns false'. Refute it at one input. -/
def fnExactSureCellsWrong : ChangeSpec := { name := "fnExactSureCells", fn := fun _ => fun
  | [d] => { results := [.lit (.bool false)], args := [d] }
  | _ => none }
def FnExactSureCellsWrongFalsely : Prop := fnExactSureCellsRow.holds Tryd.pinned (OpenSpec.ofChange fnExactSureCellsWrong)

/-- 'laws.FnExactLeftByClues': WHATEVER THE INPUT: true; the input reads as it did. -/
def fnExactLeftByCluesSpec : ChangeSpec := { name := "fnExactLeftByClues", fn := fun _ => fun
  | [d] => { results := [.lit (.bool true)], args := [d] }
  | _ => none }
def fnExactLeftByCluesRow : OpenClaim := { program := "ytngfakjifgafeaadoor", sum := "38627d18e1c4af461955b3905a12a3beefb7588cccb2ae151bfb9050cc6b9067", func := "loop.example/g01276/laws.FnExactLeftByClues", spec := "fnExactLeftByClues", inPlace := ["internal/bytealg.IndexByteString", "internal/bytealg.IndexString", "internal/bytealg.CountString"], unfollowed := true, recurses := true, named := ["unicode/utf8.first", "unicode/utf8.acceptRanges", "internal/bytealg.MaxLen"], apart := false, laid := [("unicode/utf8.acceptRanges", laid_unicode_utf8_acceptRanges), ("unicode/utf8.first", laid_unicode_utf8_first)] }
def FnExactLeftByCluesSaid : Prop := fnExactLeftByCluesRow.holds Tryd.pinned (OpenSpec.ofChange fnExactLeftByCluesSpec)

/-- ITS FALSE NEIGHBOUR: 'it returns false'. Refute it at one input. -/
def fnExactLeftByCluesWrong : ChangeSpec := { name := "fnExactLeftByClues", fn := fun _ => fun
  | [d] => { results := [.lit (.bool false)], args := [d] }
  | _ => none }
def FnExactLeftByCluesWrongFalsely : Prop := fnExactLeftByCluesRow.holds Tryd.pinned (OpenSpec.ofChange fnExactLeftByCluesWrong)

/-- 'laws.FnExactSolutions': WHATEVER THE INPUT: true; the input reads as it did. -/
def fnExactSolutionsSpec : ChangeSpec := { name := "fnExactSolutions", fn := fun _ => fun
  | [d] => { results := [.lit (.bool true)], args := [d] }
  | _ => none }
def fnExactSolutionsRow : OpenClaim := { program := "ytngfakjifgafeaadoor", sum := "38627d18e1c4af461955b3905a12a3beefb7588cccb2ae151bfb9050cc6b9067", func := "loop.example/g01276/laws.FnExactSolutions", spec := "fnExactSolutions", inPlace := ["internal/bytealg.IndexByteString", "internal/bytealg.IndexString", "internal/bytealg.CountString"], unfollowed := true, recurses := true, named := ["unicode/utf8.first", "unicode/utf8.acceptRanges", "internal/bytealg.MaxLen"], apart := false, laid := [("unicode/utf8.acceptRanges", laid_unicode_utf8_acceptRanges), ("unicode/utf8.first", laid_unicode_utf8_first)] }
def FnExactSolutionsSaid : Prop := fnExactSolutionsRow.holds Tryd.pinned (OpenSpec.ofChange fnExactSolutionsSpec)

/-- ITS FALSE NEIGHBOUR: 'it returns false'. Refute it at one input. -/
def fnExactSolutionsWrong : ChangeSpec := { name := "fnExactSolutions", fn := fun _ => fun
  | [d] => { results := [.lit (.bool false)], args := [d] }
  | _ => none }
def FnExactSolutionsWrongFalsely : Prop := fnExactSolutionsRow.holds Tryd.pinned (OpenSpec.ofChange fnExactSolutionsWrong)

/- THE SECOND FORM. 'bulk': how many values and letters a reading holds, each counted each time it is reached (what is shared counts as often as it is met; a slice's spare places count too). A statement '..UptoSaid' is the law's where the arguments, and the package variables that the reading takes, are together of bulk at most 1048576: NARROWER than '..Said'. Prove '..Said' where nothing that the law and all that it calls make is longer than what came in: it says more and counts as full. Else prove '..UptoSaid'. A law counts once. -/
mutual
def uptoBulk {H : Type} : DataW H → Nat
  | .lit (.string bytes) => bytes.length + 1
  | .lit _ => 1
  | .nil => 1
  | .ptr d => uptoBulk d + 1
  | .slice elems spare => uptoBulkAll elems + uptoBulkAll spare + 1
  | .agg parts => uptoBulkAll parts + 1
  | .iface _ d => uptoBulk d + 1
  | .map entries => uptoBulkEntries entries + 1
  | .held _ => 1
def uptoBulkAll {H : Type} : List (DataW H) → Nat
  | [] => 0
  | d :: r => uptoBulk d + uptoBulkAll r
def uptoBulkEntries {H : Type} : List (Lit × DataW H) → Nat
  | [] => 0
  | x :: r => uptoBulkEntry x + uptoBulkEntries r
def uptoBulkEntry {H : Type} : Lit × DataW H → Nat
  | (.string bytes, d) => bytes.length + uptoBulk d + 1
  | (_, d) => uptoBulk d + 1
 end
def uptoSmall : (H : Type) → List (DataW H) → Bool := fun _ ds => decide (uptoBulkAll ds ≤ 1048576)
def OpenSpec.upto (s : _root_.Go.ChangeSpec) : _root_.Go.OpenSpec := { _root_.Go.OpenSpec.ofChange s with cond := some uptoSmall }

/-- 'laws.FnExactDoesFit', WHERE WHAT IT READS IS OF BULK AT MOST 1048576: true; the input reads as it did. -/
def fnExactDoesFitUptoRow : OpenClaim := { program := "ytngfakjifgafeaadoor", sum := "38627d18e1c4af461955b3905a12a3beefb7588cccb2ae151bfb9050cc6b9067", func := "loop.example/g01276/laws.FnExactDoesFit", spec := "fnExactDoesFit", inPlace := ["internal/bytealg.IndexByteString", "internal/bytealg.IndexString", "internal/bytealg.CountString"], recurses := true, named := ["unicode/utf8.first", "unicode/utf8.acceptRanges", "internal/bytealg.MaxLen"], apart := false, laid := [("unicode/utf8.acceptRanges", laid_unicode_utf8_acceptRanges), ("unicode/utf8.first", laid_unicode_utf8_first)], narrowed := true }
def FnExactDoesFitUptoSaid : Prop := fnExactDoesFitUptoRow.holds Tryd.pinned (OpenSpec.upto fnExactDoesFitSpec)

/-- 'laws.FnExactCountSolutions', WHERE WHAT IT READS IS OF BULK AT MOST 1048576: true; the input reads as it did. -/
def fnExactCountSolutionsUptoRow : OpenClaim := { program := "ytngfakjifgafeaadoor", sum := "38627d18e1c4af461955b3905a12a3beefb7588cccb2ae151bfb9050cc6b9067", func := "loop.example/g01276/laws.FnExactCountSolutions", spec := "fnExactCountSolutions", inPlace := ["internal/bytealg.IndexByteString", "internal/bytealg.IndexString", "internal/bytealg.CountString"], unfollowed := true, recurses := true, named := ["unicode/utf8.first", "unicode/utf8.acceptRanges", "internal/bytealg.MaxLen"], apart := false, laid := [("unicode/utf8.acceptRanges", laid_unicode_utf8_acceptRanges), ("unicode/utf8.first", laid_unicode_utf8_first)], narrowed := true }
def FnExactCountSolutionsUptoSaid : Prop := fnExactCountSolutionsUptoRow.holds Tryd.pinned (OpenSpec.upto fnExactCountSolutionsSpec)

/-- 'laws.FnExactFirstSolution', WHERE WHAT IT READS IS OF BULK AT MOST 1048576: true; the input reads as it did. -/
def fnExactFirstSolutionUptoRow : OpenClaim := { program := "ytngfakjifgafeaadoor", sum := "38627d18e1c4af461955b3905a12a3beefb7588cccb2ae151bfb9050cc6b9067", func := "loop.example/g01276/laws.FnExactFirstSolution", spec := "fnExactFirstSolution", inPlace := ["internal/bytealg.IndexByteString", "internal/bytealg.IndexString", "internal/bytealg.CountString"], unfollowed := true, recurses := true, named := ["unicode/utf8.first", "unicode/utf8.acceptRanges", "internal/bytealg.MaxLen"], apart := false, laid := [("unicode/utf8.acceptRanges", laid_unicode_utf8_acceptRanges), ("unicode/utf8.first", laid_unicode_utf8_first)], narrowed := true }
def FnExactFirstSolutionUptoSaid : Prop := fnExactFirstSolutionUptoRow.holds Tryd.pinned (OpenSpec.upto fnExactFirstSolutionSpec)

/-- 'laws.FnExactIsSolved', WHERE WHAT IT READS IS OF BULK AT MOST 1048576: true; the input reads as it did. -/
def fnExactIsSolvedUptoRow : OpenClaim := { program := "ytngfakjifgafeaadoor", sum := "38627d18e1c4af461955b3905a12a3beefb7588cccb2ae151bfb9050cc6b9067", func := "loop.example/g01276/laws.FnExactIsSolved", spec := "fnExactIsSolved", inPlace := ["internal/bytealg.IndexByteString", "internal/bytealg.IndexString", "internal/bytealg.CountString"], unfollowed := true, recurses := true, named := ["unicode/utf8.first", "unicode/utf8.acceptRanges", "internal/bytealg.MaxLen"], apart := false, laid := [("unicode/utf8.acceptRanges", laid_unicode_utf8_acceptRanges), ("unicode/utf8.first", laid_unicode_utf8_first)], narrowed := true }
def FnExactIsSolvedUptoSaid : Prop := fnExactIsSolvedUptoRow.holds Tryd.pinned (OpenSpec.upto fnExactIsSolvedSpec)

/-- 'laws.FnExactBestClue', WHERE WHAT IT READS IS OF BULK AT MOST 1048576: true; the input reads as it did. -/
def fnExactBestClueUptoRow : OpenClaim := { program := "ytngfakjifgafeaadoor", sum := "38627d18e1c4af461955b3905a12a3beefb7588cccb2ae151bfb9050cc6b9067", func := "loop.example/g01276/laws.FnExactBestClue", spec := "fnExactBestClue", inPlace := ["internal/bytealg.IndexByteString", "internal/bytealg.IndexString", "internal/bytealg.CountString"], unfollowed := true, recurses := true, named := ["unicode/utf8.first", "unicode/utf8.acceptRanges", "internal/bytealg.MaxLen"], apart := false, laid := [("unicode/utf8.acceptRanges", laid_unicode_utf8_acceptRanges), ("unicode/utf8.first", laid_unicode_utf8_first)], narrowed := true }
def FnExactBestClueUptoSaid : Prop := fnExactBestClueUptoRow.holds Tryd.pinned (OpenSpec.upto fnExactBestClueSpec)

/-- 'laws.FnExactSureCells', WHERE WHAT IT READS IS OF BULK AT MOST 1048576: true; the input reads as it did. -/
def fnExactSureCellsUptoRow : OpenClaim := { program := "ytngfakjifgafeaadoor", sum := "38627d18e1c4af461955b3905a12a3beefb7588cccb2ae151bfb9050cc6b9067", func := "loop.example/g01276/laws.FnExactSureCells", spec := "fnExactSureCells", inPlace := ["internal/bytealg.IndexByteString", "internal/bytealg.IndexString", "internal/bytealg.CountString"], unfollowed := true, recurses := true, named := ["unicode/utf8.first", "unicode/utf8.acceptRanges", "internal/bytealg.MaxLen"], apart := false, laid := [("unicode/utf8.acceptRanges", laid_unicode_utf8_acceptRanges), ("unicode/utf8.first", laid_unicode_utf8_first)], narrowed := true }
def FnExactSureCellsUptoSaid : Prop := fnExactSureCellsUptoRow.holds Tryd.pinned (OpenSpec.upto fnExactSureCellsSpec)

/-- 'laws.FnExactLeftByClues', WHERE WHAT IT READS IS OF BULK AT MOST 1048576: true; the input reads as it did. -/
def fnExactLeftByCluesUptoRow : OpenClaim := { program := "ytngfakjifgafeaadoor", sum := "38627d18e1c4af461955b3905a12a3beefb7588cccb2ae151bfb9050cc6b9067", func := "loop.example/g01276/laws.FnExactLeftByClues", spec := "fnExactLeftByClues", inPlace := ["internal/bytealg.IndexByteString", "internal/bytealg.IndexString", "internal/bytealg.CountString"], unfollowed := true, recurses := true, named := ["unicode/utf8.first", "unicode/utf8.acceptRanges", "internal/bytealg.MaxLen"], apart := false, laid := [("unicode/utf8.acceptRanges", laid_unicode_utf8_acceptRanges), ("unicode/utf8.first", laid_unicode_utf8_first)], narrowed := true }
def FnExactLeftByCluesUptoSaid : Prop := fnExactLeftByCluesUptoRow.holds Tryd.pinned (OpenSpec.upto fnExactLeftByCluesSpec)

/-- 'laws.FnExactSolutions', WHERE WHAT IT READS IS OF BULK AT MOST 1048576: true; the input reads as it did. -/
def fnExactSolutionsUptoRow : OpenClaim := { program := "ytngfakjifgafeaadoor", sum := "38627d18e1c4af461955b3905a12a3beefb7588cccb2ae151bfb9050cc6b9067", func := "loop.example/g01276/laws.FnExactSolutions", spec := "fnExactSolutions", inPlace := ["internal/bytealg.IndexByteString", "internal/bytealg.IndexString", "internal/bytealg.CountString"], unfollowed := true, recurses := true, named := ["unicode/utf8.first", "unicode/utf8.acceptRanges", "internal/bytealg.MaxLen"], apart := false, laid := [("unicode/utf8.acceptRanges", laid_unicode_utf8_acceptRanges), ("unicode/utf8.first", laid_unicode_utf8_first)], narrowed := true }
def FnExactSolutionsUptoSaid : Prop := fnExactSolutionsUptoRow.holds Tryd.pinned (OpenSpec.upto fnExactSolutionsSpec)

end Rows
end Go.Proofs.YtngfakjifgafeaaDoor
