/- The entries keep what the soundness asks; each law's function (printed by wip/sim/gen.py). -/
import Derived.Test.YtngfakjifgafeaaDoorLib
import Derived.Test.YtngfakjifgafeaaDoorTab
namespace Go.Proofs.YtngfakjifgafeaaDoorS
open Go Go.Proofs
set_option maxRecDepth 100000
theorem ok0 : AllOk Tryd.prog ents0 := ⟨⟨Tryd.func7, by kernel_rfl⟩,
  ⟨Tryd.func16, by kernel_rfl⟩,
  ⟨Tryd.func46, by kernel_rfl⟩,
  ⟨Tryd.func18, by kernel_rfl⟩,
  ⟨Tryd.func49, by kernel_rfl⟩,
  Tryd.func49,
  ⟨Tryd.func13, by kernel_rfl⟩,
  ⟨Tryd.func25, by kernel_rfl⟩,
  ⟨Tryd.func47, by kernel_rfl⟩,
  ⟨Tryd.func58, by kernel_rfl⟩,
  ⟨Tryd.func76, by kernel_rfl⟩,
  ⟨Tryd.func59, by kernel_rfl⟩,
  Tryd.func76,
  ⟨Tryd.func77, by kernel_rfl⟩,
  Tryd.func77,
  Tryd.func47, trivial⟩
theorem ok1 : AllOk Tryd.prog ents1 := ⟨⟨Tryd.func41, by kernel_rfl⟩,
  Tryd.func25,
  ⟨Tryd.func52, by kernel_rfl⟩,
  ⟨Tryd.func48, by kernel_rfl⟩,
  ⟨Tryd.func68, by kernel_rfl⟩,
  Tryd.func68,
  ⟨Tryd.func42, by kernel_rfl⟩,
  ⟨Tryd.func60, by kernel_rfl⟩,
  Tryd.func60,
  ⟨Tryd.func78, by kernel_rfl⟩,
  ⟨Tryd.func90, by kernel_rfl⟩,
  ⟨Tryd.func91, by kernel_rfl⟩,
  ⟨Tryd.func92, by kernel_rfl⟩,
  ⟨Tryd.func87, by kernel_rfl⟩,
  ⟨Tryd.func93, by kernel_rfl⟩,
  ⟨Tryd.func108, by kernel_rfl⟩, trivial⟩
theorem ok2 : AllOk Tryd.prog ents2 := ⟨Tryd.func60,
  Tryd.func68,
  ⟨Tryd.func26, by kernel_rfl⟩,
  ⟨Tryd.func53, by kernel_rfl⟩,
  ⟨Tryd.func61, by kernel_rfl⟩,
  ⟨Tryd.func79, by kernel_rfl⟩,
  ⟨Tryd.func64, by kernel_rfl⟩,
  ⟨Tryd.func65, by kernel_rfl⟩,
  strs_ok Tryd.func84 (by kernel_rfl) rfl strTrim strTrim_calls,
  ⟨Tryd.func81, by kernel_rfl⟩,
  ⟨Tryd.func80, by kernel_rfl⟩,
  Tryd.func80,
  ⟨Tryd.func70, by kernel_rfl⟩,
  ⟨Tryd.func88, by kernel_rfl⟩,
  Tryd.func88,
  ⟨Tryd.func71, by kernel_rfl⟩, trivial⟩
theorem ok3 : AllOk Tryd.prog ents3 := ⟨⟨Tryd.func44, by kernel_rfl⟩,
  ⟨Tryd.func66, by kernel_rfl⟩,
  Tryd.func26,
  ⟨Tryd.func54, by kernel_rfl⟩,
  ⟨Tryd.func73, by kernel_rfl⟩,
  Tryd.func73,
  Tryd.func73,
  Tryd.func73,
  ⟨Tryd.func72, by kernel_rfl⟩,
  ⟨Tryd.func89, by kernel_rfl⟩,
  Tryd.func89,
  ⟨Tryd.func74, by kernel_rfl⟩,
  ⟨Tryd.func70, by kernel_rfl⟩,
  ⟨Tryd.func88, by kernel_rfl⟩,
  Tryd.func88,
  ⟨Tryd.func75, by kernel_rfl⟩, trivial⟩
theorem ok4 : AllOk Tryd.prog ents4 := ⟨⟨Tryd.func45, by kernel_rfl⟩,
  ⟨Tryd.func67, by kernel_rfl⟩,
  Tryd.func67,
  Tryd.func67,
  ⟨Tryd.func85, by kernel_rfl⟩,
  ⟨Tryd.func101, by kernel_rfl⟩,
  ⟨Tryd.func63, by kernel_rfl⟩,
  ⟨Tryd.func102, by kernel_rfl⟩,
  ⟨Tryd.func103, by kernel_rfl⟩,
  ⟨Tryd.func104, by kernel_rfl⟩,
  ⟨Tryd.func113, by kernel_rfl⟩,
  strsI_ok Tryd.func86 (by kernel_rfl) rfl strCount1 strCount1_calls,
  Tryd.func72,
  ⟨Tryd.func20, by kernel_rfl⟩,
  ⟨Tryd.func50, by kernel_rfl⟩,
  Tryd.func50, trivial⟩
theorem ok5 : AllOk Tryd.prog ents5 := ⟨⟨Tryd.func69, by kernel_rfl⟩,
  ⟨Tryd.func4, by kernel_rfl⟩,
  ⟨Tryd.func17, by kernel_rfl⟩,
  ⟨Tryd.func19, by kernel_rfl⟩,
  ⟨Tryd.func36, by kernel_rfl⟩,
  ⟨Tryd.func54, by kernel_rfl⟩,
  ⟨Tryd.func72, by kernel_rfl⟩,
  ⟨Tryd.func89, by kernel_rfl⟩,
  Tryd.func89,
  ⟨Tryd.func74, by kernel_rfl⟩,
  Tryd.func72,
  ⟨Tryd.func3, by kernel_rfl⟩,
  ⟨Tryd.func11, by kernel_rfl⟩,
  ⟨Tryd.func14, by kernel_rfl⟩,
  ⟨Tryd.func12, by kernel_rfl⟩,
  ⟨Tryd.func40, by kernel_rfl⟩, trivial⟩
theorem ok6 : AllOk Tryd.prog ents6 := ⟨⟨Tryd.func57, by kernel_rfl⟩,
  Tryd.func57,
  ⟨Tryd.func15, by kernel_rfl⟩,
  ⟨Tryd.func43, by kernel_rfl⟩,
  ⟨Tryd.func62, by kernel_rfl⟩,
  ⟨Tryd.func82, by kernel_rfl⟩,
  Tryd.func82,
  ⟨Tryd.func83, by kernel_rfl⟩,
  ⟨Tryd.func5, by kernel_rfl⟩,
  ⟨Tryd.func21, by kernel_rfl⟩,
  ⟨Tryd.func22, by kernel_rfl⟩,
  ⟨Tryd.func6, by kernel_rfl⟩,
  ⟨Tryd.func23, by kernel_rfl⟩,
  ⟨Tryd.func51, by kernel_rfl⟩,
  ⟨Tryd.func52, by kernel_rfl⟩,
  ⟨Tryd.func24, by kernel_rfl⟩, trivial⟩
theorem ok7 : AllOk Tryd.prog ents7 := ⟨⟨Tryd.func9, by kernel_rfl⟩,
  ⟨Tryd.func29, by kernel_rfl⟩,
  Tryd.func29,
  ⟨Tryd.func30, by kernel_rfl⟩,
  Tryd.func30,
  ⟨Tryd.func31, by kernel_rfl⟩,
  Tryd.func31,
  ⟨Tryd.func32, by kernel_rfl⟩,
  ⟨Tryd.func55, by kernel_rfl⟩,
  Tryd.func55,
  ⟨Tryd.func33, by kernel_rfl⟩,
  Tryd.func33,
  ⟨Tryd.func34, by kernel_rfl⟩,
  Tryd.func34,
  ⟨Tryd.func10, by kernel_rfl⟩,
  ⟨Tryd.func35, by kernel_rfl⟩, trivial⟩
theorem ok8 : AllOk Tryd.prog ents8 := ⟨⟨Tryd.func37, by kernel_rfl⟩,
  Tryd.func37,
  ⟨Tryd.func38, by kernel_rfl⟩,
  Tryd.func38,
  ⟨Tryd.func56, by kernel_rfl⟩,
  Tryd.func56,
  ⟨Tryd.func39, by kernel_rfl⟩,
  Tryd.func39,
  ⟨Tryd.func8, by kernel_rfl⟩,
  ⟨Tryd.func27, by kernel_rfl⟩,
  Tryd.func27,
  Tryd.func27,
  ⟨Tryd.func28, by kernel_rfl⟩,
  Tryd.func28,
  Tryd.func28, trivial⟩
theorem dftOk : EntOk Tryd.prog (.pt 0 Tryd.f0 [] false [] [] [] []) := Tryd.func0
theorem allOk (e : Nat) : EntOk Tryd.prog (E e) := by
  unfold E
  split
  all_goals first
    | exact AllOk.getD dftOk _ ok0
    | exact AllOk.getD dftOk _ ok1
    | exact AllOk.getD dftOk _ ok2
    | exact AllOk.getD dftOk _ ok3
    | exact AllOk.getD dftOk _ ok4
    | exact AllOk.getD dftOk _ ok5
    | exact AllOk.getD dftOk _ ok6
    | exact AllOk.getD dftOk _ ok7
    | exact AllOk.getD dftOk _ ok8
theorem mixed : Tryd.prog.follows .mixedOrders = true := by kernel_rfl
abbrev laws_FnExactBestClue.ins : List Slot := [⟨0, true, (.cons .str (.cons (.int .i64) (.cons (.int .i64) (.slc false (.pair (.int .i64) (.pair (.int .i64) (.int .i64)))))))⟩]
theorem laws_FnExactBestClue.spec {k : Nat} {d : Dl laws_FnExactBestClue.ins} (h : laws_FnExactBestClue k d = some true) : FnSpec Tryd.prog 7 laws_FnExactBestClue.ins [] [⟨0, false, .bool⟩] d true := acall_sound mixed allOk k 0 d true h
abbrev laws_FnExactCountSolutions.ins : List Slot := [⟨0, true, (.cons .str (.cons (.int .i64) (.cons (.int .i64) (.slc false (.pair (.int .i64) (.pair (.int .i64) (.int .i64)))))))⟩]
theorem laws_FnExactCountSolutions.spec {k : Nat} {d : Dl laws_FnExactCountSolutions.ins} (h : laws_FnExactCountSolutions k d = some true) : FnSpec Tryd.prog 4 laws_FnExactCountSolutions.ins [] [⟨0, false, .bool⟩] d true := acall_sound mixed allOk k 81 d true h
abbrev laws_FnExactDoesFit.ins : List Slot := [⟨0, true, (.cons (.int .i64) (.cons (.int .i64) (.int .i64)))⟩, ⟨1, true, (.cons .str (.cons (.int .i64) (.cons (.int .i64) (.cons .str (.cons (.int .i64) (.cons (.int .i64) (.int .i64)))))))⟩]
theorem laws_FnExactDoesFit.spec {k : Nat} {d : Dl laws_FnExactDoesFit.ins} (h : laws_FnExactDoesFit k d = some true) : FnSpec Tryd.prog 3 laws_FnExactDoesFit.ins [] [⟨0, false, .bool⟩] d true := acall_sound mixed allOk k 91 d true h
abbrev laws_FnExactFirstSolution.ins : List Slot := [⟨0, true, (.cons .str (.cons (.int .i64) (.cons (.int .i64) (.slc false (.pair (.int .i64) (.pair (.int .i64) (.int .i64)))))))⟩]
theorem laws_FnExactFirstSolution.spec {k : Nat} {d : Dl laws_FnExactFirstSolution.ins} (h : laws_FnExactFirstSolution k d = some true) : FnSpec Tryd.prog 5 laws_FnExactFirstSolution.ins [] [⟨0, false, .bool⟩] d true := acall_sound mixed allOk k 104 d true h
abbrev laws_FnExactIsSolved.ins : List Slot := [⟨0, true, (.cons .str (.cons (.int .i64) (.cons (.int .i64) (.slc false (.pair (.int .i64) (.pair (.int .i64) (.int .i64)))))))⟩]
theorem laws_FnExactIsSolved.spec {k : Nat} {d : Dl laws_FnExactIsSolved.ins} (h : laws_FnExactIsSolved k d = some true) : FnSpec Tryd.prog 6 laws_FnExactIsSolved.ins [] [⟨0, false, .bool⟩] d true := acall_sound mixed allOk k 107 d true h
abbrev laws_FnExactLeftByClues.ins : List Slot := [⟨0, true, (.cons .str (.cons (.int .i64) (.cons (.int .i64) (.slc false (.pair (.int .i64) (.pair (.int .i64) (.int .i64)))))))⟩]
theorem laws_FnExactLeftByClues.spec {k : Nat} {d : Dl laws_FnExactLeftByClues.ins} (h : laws_FnExactLeftByClues k d = some true) : FnSpec Tryd.prog 9 laws_FnExactLeftByClues.ins [] [⟨0, false, .bool⟩] d true := acall_sound mixed allOk k 112 d true h
abbrev laws_FnExactSolutions.ins : List Slot := [⟨0, true, (.cons .str (.cons (.int .i64) (.cons (.int .i64) (.slc false (.pair (.int .i64) (.pair (.int .i64) (.int .i64)))))))⟩]
theorem laws_FnExactSolutions.spec {k : Nat} {d : Dl laws_FnExactSolutions.ins} (h : laws_FnExactSolutions k d = some true) : FnSpec Tryd.prog 10 laws_FnExactSolutions.ins [] [⟨0, false, .bool⟩] d true := acall_sound mixed allOk k 126 d true h
abbrev laws_FnExactSureCells.ins : List Slot := [⟨0, true, (.cons .str (.cons (.int .i64) (.cons (.int .i64) (.slc false (.pair (.int .i64) (.pair (.int .i64) (.int .i64)))))))⟩]
theorem laws_FnExactSureCells.spec {k : Nat} {d : Dl laws_FnExactSureCells.ins} (h : laws_FnExactSureCells k d = some true) : FnSpec Tryd.prog 8 laws_FnExactSureCells.ins [] [⟨0, false, .bool⟩] d true := acall_sound mixed allOk k 136 d true h
end Go.Proofs.YtngfakjifgafeaaDoorS
