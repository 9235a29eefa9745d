/- The entries keep what the soundness asks; each law's function (printed by wip/sim/gen.py). -/
import Derived.Test.YtodmlhpobebdgaaDoorLib
import Derived.Test.YtodmlhpobebdgaaDoorTab
namespace Go.Proofs.YtodmlhpobebdgaaDoorS
open Go Go.Proofs
set_option maxRecDepth 100000
theorem ok0 : AllOk Tryd.prog ents0 := ⟨⟨Tryd.func3, by kernel_rfl⟩,
  ⟨Tryd.func5, by kernel_rfl⟩,
  ⟨Tryd.func9, by kernel_rfl⟩,
  ⟨Tryd.func7, by kernel_rfl⟩,
  ⟨Tryd.func11, by kernel_rfl⟩,
  ⟨Tryd.func6, by kernel_rfl⟩,
  ⟨Tryd.func16, by kernel_rfl⟩,
  ⟨Tryd.func30, by kernel_rfl⟩,
  ⟨Tryd.func44, by kernel_rfl⟩,
  ⟨Tryd.func20, by kernel_rfl⟩,
  Tryd.func44,
  Tryd.func30,
  ⟨Tryd.func31, by kernel_rfl⟩,
  Tryd.func31,
  ⟨Tryd.func8, by kernel_rfl⟩,
  ⟨Tryd.func17, by kernel_rfl⟩, trivial⟩
theorem ok1 : AllOk Tryd.prog ents1 := ⟨⟨Tryd.func32, by kernel_rfl⟩,
  ⟨Tryd.func24, by kernel_rfl⟩,
  strs_ok Tryd.func45 (by kernel_rfl) rfl strTrim strTrim_calls,
  ⟨Tryd.func33, by kernel_rfl⟩,
  ⟨Tryd.func34, by kernel_rfl⟩,
  Tryd.func34,
  ⟨Tryd.func35, by kernel_rfl⟩,
  ⟨Tryd.func46, by kernel_rfl⟩,
  ⟨Tryd.func18, by kernel_rfl⟩,
  Tryd.func18,
  strsB_ok Tryd.func36 (by kernel_rfl) rfl strContains1 strContains1_calls,
  ⟨Tryd.func4, by kernel_rfl⟩,
  ⟨Tryd.func10, by kernel_rfl⟩,
  ⟨Tryd.func19, by kernel_rfl⟩,
  ⟨Tryd.func37, by kernel_rfl⟩,
  ⟨Tryd.func48, by kernel_rfl⟩, trivial⟩
theorem ok2 : AllOk Tryd.prog ents2 := ⟨Tryd.func48,
  Tryd.func10,
  ⟨Tryd.func21, by kernel_rfl⟩,
  ⟨Tryd.func22, by kernel_rfl⟩,
  ⟨Tryd.func38, by kernel_rfl⟩,
  Tryd.func38,
  ⟨Tryd.func49, by kernel_rfl⟩,
  ⟨Tryd.func66, by kernel_rfl⟩,
  ⟨Tryd.func67, by kernel_rfl⟩,
  ⟨Tryd.func68, by kernel_rfl⟩,
  ⟨Tryd.func79, by kernel_rfl⟩,
  ⟨Tryd.func69, by kernel_rfl⟩,
  ⟨Tryd.func80, by kernel_rfl⟩,
  Tryd.func38,
  ⟨Tryd.func12, by kernel_rfl⟩,
  ⟨Tryd.func23, by kernel_rfl⟩, trivial⟩
theorem ok3 : AllOk Tryd.prog ents3 := ⟨⟨Tryd.func39, by kernel_rfl⟩,
  ⟨Tryd.func50, by kernel_rfl⟩,
  ⟨Tryd.func51, by kernel_rfl⟩,
  Tryd.func51,
  ⟨Tryd.func40, by kernel_rfl⟩,
  Tryd.func12,
  ⟨Tryd.func25, by kernel_rfl⟩,
  ⟨Tryd.func26, by kernel_rfl⟩,
  Tryd.func26,
  Tryd.func26,
  ⟨Tryd.func41, by kernel_rfl⟩,
  ⟨Tryd.func52, by kernel_rfl⟩,
  ⟨Tryd.func53, by kernel_rfl⟩,
  ⟨Tryd.func54, by kernel_rfl⟩,
  ⟨Tryd.func55, by kernel_rfl⟩,
  ⟨Tryd.func70, by kernel_rfl⟩, trivial⟩
theorem ok4 : AllOk Tryd.prog ents4 := ⟨strsI_ok Tryd.func42 (by kernel_rfl) rfl strCount1 strCount1_calls,
  ⟨Tryd.func13, by kernel_rfl⟩,
  ⟨Tryd.func27, by kernel_rfl⟩,
  Tryd.func27,
  ⟨Tryd.func43, by kernel_rfl⟩,
  ⟨Tryd.func14, by kernel_rfl⟩,
  ⟨Tryd.func28, by kernel_rfl⟩,
  Tryd.func28,
  ⟨Tryd.func15, by kernel_rfl⟩,
  ⟨Tryd.func29, by kernel_rfl⟩,
  Tryd.func29, trivial⟩
theorem dftOk : EntOk Tryd.prog (.pt 0 Tryd.f0 [] false [] [] [] []) := Tryd.func0
theorem allOk (e : Nat) : EntOk Tryd.prog (E e) := by
  unfold E
  split
  all_goals first
    | exact AllOk.getD dftOk _ ok0
    | exact AllOk.getD dftOk _ ok1
    | exact AllOk.getD dftOk _ ok2
    | exact AllOk.getD dftOk _ ok3
    | exact AllOk.getD dftOk _ ok4
theorem mixed : Tryd.prog.follows .mixedOrders = true := by kernel_rfl
abbrev laws_FnExactIsDesk.ins : List Slot := [⟨0, true, (.cons .str (.cons (.int .i64) (.cons (.int .i64) (.cons .str (.cons (.int .i64) (.cons (.int .i64) (.cons (.int .i64) (.cons .str (.cons (.int .i64) (.cons (.int .i64) (.cons .str (.cons (.int .i64) (.cons (.int .i64) (.cons (.int .i64) .str))))))))))))))⟩]
theorem laws_FnExactIsDesk.spec {k : Nat} {d : Dl laws_FnExactIsDesk.ins} (h : laws_FnExactIsDesk k d = some true) : FnSpec Tryd.prog 3 laws_FnExactIsDesk.ins [] [⟨0, false, .bool⟩] d true := acall_sound mixed allOk k 0 d true h
abbrev laws_FnExactMakePuzzle.ins : List Slot := [⟨0, true, (.cons .str (.cons (.int .i64) (.cons (.int .i64) (.cons .str (.cons (.int .i64) (.cons (.int .i64) (.int .i64)))))))⟩, ⟨1, false, (.int .i64)⟩, ⟨2, false, (.int .i64)⟩]
theorem laws_FnExactMakePuzzle.spec {k : Nat} {d : Dl laws_FnExactMakePuzzle.ins} (h : laws_FnExactMakePuzzle k d = some true) : FnSpec Tryd.prog 4 laws_FnExactMakePuzzle.ins [] [⟨0, false, .bool⟩] d true := acall_sound mixed allOk k 27 d true h
end Go.Proofs.YtodmlhpobebdgaaDoorS
