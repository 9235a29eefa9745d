/- The entries keep what the soundness asks; each law's function (printed by wip/sim/gen.py). -/
import Derived.Test.YtdgfpdbfcpbgfaaLib
import Derived.Test.YtdgfpdbfcpbgfaaTab
namespace Go.Proofs.YtdgfpdbfcpbgfaaS
open Go Go.Proofs
set_option maxRecDepth 100000
theorem ok0 : AllOk Try.prog ents0 := ⟨⟨Try.func3, by kernel_rfl⟩,
  ⟨Try.func7, by kernel_rfl⟩,
  ⟨Try.func20, by kernel_rfl⟩,
  ⟨Try.func48, by kernel_rfl⟩,
  Try.func48,
  ⟨Try.func70, by kernel_rfl⟩,
  ⟨Try.func9, by kernel_rfl⟩,
  ⟨Try.func21, by kernel_rfl⟩,
  ⟨Try.func49, by kernel_rfl⟩,
  Try.func49,
  ⟨Try.func71, by kernel_rfl⟩,
  ⟨Try.func8, by kernel_rfl⟩,
  ⟨Try.func16, by kernel_rfl⟩,
  ⟨Try.func29, by kernel_rfl⟩,
  ⟨Try.func24, by kernel_rfl⟩,
  ⟨Try.func54, by kernel_rfl⟩, trivial⟩
theorem ok1 : AllOk Try.prog ents1 := ⟨⟨Try.func55, by kernel_rfl⟩,
  Try.func54,
  ⟨Try.func74, by kernel_rfl⟩,
  ⟨Try.func87, by kernel_rfl⟩,
  Try.func87,
  Try.func24,
  ⟨Try.func25, by kernel_rfl⟩,
  Try.func16,
  ⟨Try.func26, by kernel_rfl⟩,
  ⟨Try.func36, by kernel_rfl⟩,
  ⟨Try.func37, by kernel_rfl⟩,
  ⟨Try.func61, by kernel_rfl⟩,
  ⟨Try.func34, by kernel_rfl⟩,
  ⟨Try.func35, by kernel_rfl⟩,
  Try.func8,
  ⟨Try.func10, by kernel_rfl⟩, trivial⟩
theorem ok2 : AllOk Try.prog ents2 := ⟨⟨Try.func17, by kernel_rfl⟩,
  ⟨Try.func30, by kernel_rfl⟩,
  ⟨Try.func38, by kernel_rfl⟩,
  ⟨Try.func62, by kernel_rfl⟩,
  ⟨Try.func77, by kernel_rfl⟩,
  ⟨Try.func58, by kernel_rfl⟩,
  ⟨Try.func78, by kernel_rfl⟩,
  ⟨Try.func68, by kernel_rfl⟩,
  Try.func68,
  ⟨Try.func79, by kernel_rfl⟩,
  ⟨Try.func80, by kernel_rfl⟩,
  ⟨Try.func66, by kernel_rfl⟩,
  strsB_ok Try.func81 (by kernel_rfl) rfl strContains1 strContains1_calls,
  ⟨Try.func63, by kernel_rfl⟩,
  ⟨Try.func64, by kernel_rfl⟩,
  Try.func64, trivial⟩
theorem ok3 : AllOk Try.prog ents3 := ⟨⟨Try.func65, by kernel_rfl⟩,
  ⟨Try.func82, by kernel_rfl⟩,
  Try.func17,
  ⟨Try.func31, by kernel_rfl⟩,
  ⟨Try.func40, by kernel_rfl⟩,
  ⟨Try.func43, by kernel_rfl⟩,
  ⟨Try.func46, by kernel_rfl⟩,
  ⟨Try.func59, by kernel_rfl⟩,
  ⟨Try.func44, by kernel_rfl⟩,
  ⟨Try.func45, by kernel_rfl⟩,
  ⟨Try.func41, by kernel_rfl⟩,
  ⟨Try.func67, by kernel_rfl⟩,
  ⟨Try.func47, by kernel_rfl⟩,
  ⟨Try.func32, by kernel_rfl⟩,
  ⟨Try.func60, by kernel_rfl⟩,
  clone76_ok, trivial⟩
theorem ok4 : AllOk Try.prog ents4 := ⟨strsI_ok Try.func22 (by kernel_rfl) rfl strCount1 strCount1_calls,
  ⟨Try.func11, by kernel_rfl⟩,
  ⟨Try.func23, by kernel_rfl⟩,
  ⟨Try.func53, by kernel_rfl⟩,
  Try.func53,
  ⟨Try.func73, by kernel_rfl⟩,
  ⟨Try.func5, by kernel_rfl⟩,
  ⟨Try.func14, by kernel_rfl⟩,
  ⟨Try.func27, by kernel_rfl⟩,
  ⟨Try.func56, by kernel_rfl⟩,
  Try.func56,
  ⟨Try.func75, by kernel_rfl⟩,
  Try.func75,
  ⟨Try.func15, by kernel_rfl⟩,
  ⟨Try.func28, by kernel_rfl⟩,
  ⟨Try.func57, by kernel_rfl⟩, trivial⟩
theorem ok5 : AllOk Try.prog ents5 := ⟨Try.func57,
  ⟨Try.func4, by kernel_rfl⟩,
  ⟨Try.func12, by kernel_rfl⟩,
  ⟨Try.func13, by kernel_rfl⟩,
  ⟨Try.func6, by kernel_rfl⟩,
  ⟨Try.func18, by kernel_rfl⟩,
  ⟨Try.func33, by kernel_rfl⟩,
  Try.func33,
  Try.func33,
  Try.func18,
  ⟨Try.func19, by kernel_rfl⟩,
  ⟨Try.func39, by kernel_rfl⟩,
  Try.func39,
  ⟨Try.func42, by kernel_rfl⟩,
  ⟨Try.func68, by kernel_rfl⟩,
  Try.func68, trivial⟩
theorem ok6 : AllOk Try.prog ents6 := ⟨⟨Try.func69, by kernel_rfl⟩, trivial⟩
theorem dftOk : EntOk Try.prog (.pt 0 Try.f0 [] false [] [] [] []) := Try.func0
theorem allOk (e : Nat) : EntOk Try.prog (E e) := by
  unfold E
  split
  all_goals first
    | exact AllOk.getD dftOk _ ok0
    | exact AllOk.getD dftOk _ ok1
    | exact AllOk.getD dftOk _ ok2
    | exact AllOk.getD dftOk _ ok3
    | exact AllOk.getD dftOk _ ok4
    | exact AllOk.getD dftOk _ ok5
    | exact AllOk.getD dftOk _ ok6
theorem mixed : Try.prog.follows .mixedOrders = true := by kernel_rfl
abbrev laws_FnExactPaintedAfter.ins : List Slot := [⟨0, true, (.cons (.int .i64) (.cons (.int .i64) (.cons (.slc false (.pair (.int .i64) (.pair .str (.int .i64)))) (.cons (.int .i64) (.cons (.int .i64) (.cons .str (.cons (.int .i64) (.cons (.int .i64) (.cons (.int .i64) (.int .i64))))))))))⟩, ⟨1, false, (.int .i64)⟩]
theorem laws_FnExactPaintedAfter.spec {k : Nat} {d : Dl laws_FnExactPaintedAfter.ins} (h : laws_FnExactPaintedAfter k d = some true) : FnSpec Try.prog 3 laws_FnExactPaintedAfter.ins [] [⟨0, false, .bool⟩] d true := acall_sound mixed allOk k 0 d true h
abbrev laws_FnExactSceneAfter.ins : List Slot := [⟨0, true, (.cons (.int .i64) (.cons (.int .i64) (.cons (.slc false (.pair (.int .i64) (.pair .str (.int .i64)))) (.cons (.int .i64) (.cons (.int .i64) (.cons .str (.cons (.int .i64) (.cons (.int .i64) (.cons (.int .i64) (.int .i64))))))))))⟩, ⟨1, false, (.int .i64)⟩]
theorem laws_FnExactSceneAfter.spec {k : Nat} {d : Dl laws_FnExactSceneAfter.ins} (h : laws_FnExactSceneAfter k d = some true) : FnSpec Try.prog 5 laws_FnExactSceneAfter.ins [] [⟨0, false, .bool⟩] d true := acall_sound mixed allOk k 70 d true h
abbrev laws_FnExactStepScene.ins : List Slot := [⟨0, true, (.cons (.int .i64) (.cons (.int .i64) (.cons (.slc false (.pair (.int .i64) (.pair .str (.int .i64)))) (.cons (.int .i64) (.cons (.int .i64) (.cons .str (.cons (.int .i64) (.cons (.int .i64) (.cons (.int .i64) (.int .i64))))))))))⟩]
theorem laws_FnExactStepScene.spec {k : Nat} {d : Dl laws_FnExactStepScene.ins} (h : laws_FnExactStepScene k d = some true) : FnSpec Try.prog 4 laws_FnExactStepScene.ins [] [⟨0, false, .bool⟩] d true := acall_sound mixed allOk k 81 d true h
abbrev laws_FnExactUndoScene.ins : List Slot := [⟨0, true, (.cons (.int .i64) (.cons (.int .i64) (.cons (.slc false (.pair (.int .i64) (.pair .str (.int .i64)))) (.cons (.int .i64) (.cons (.int .i64) (.cons .str (.cons (.int .i64) (.cons (.int .i64) (.cons (.int .i64) (.int .i64))))))))))⟩]
theorem laws_FnExactUndoScene.spec {k : Nat} {d : Dl laws_FnExactUndoScene.ins} (h : laws_FnExactUndoScene k d = some true) : FnSpec Try.prog 6 laws_FnExactUndoScene.ins [] [⟨0, false, .bool⟩] d true := acall_sound mixed allOk k 84 d true h
end Go.Proofs.YtdgfpdbfcpbgfaaS
