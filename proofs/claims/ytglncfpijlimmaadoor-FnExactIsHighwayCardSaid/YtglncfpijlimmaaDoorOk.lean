/- The entries keep what the soundness asks; each law's function (printed by wip/sim/gen.py). -/
import Derived.Test.YtglncfpijlimmaaDoorLib
import Derived.Test.YtglncfpijlimmaaDoorTab
namespace Go.Proofs.YtglncfpijlimmaaDoorS
open Go Go.Proofs
set_option maxRecDepth 100000
theorem ok0 : AllOk Tryd.prog ents0 := ⟨⟨Tryd.func3, by kernel_rfl⟩,
  ⟨Tryd.func7, by kernel_rfl⟩,
  ⟨Tryd.func21, by kernel_rfl⟩,
  ⟨Tryd.func9, by kernel_rfl⟩,
  ⟨Tryd.func25, by kernel_rfl⟩,
  Tryd.func25,
  ⟨Tryd.func45, by kernel_rfl⟩,
  ⟨Tryd.func8, by kernel_rfl⟩,
  ⟨Tryd.func22, by kernel_rfl⟩,
  ⟨Tryd.func42, by kernel_rfl⟩,
  ⟨Tryd.func71, by kernel_rfl⟩,
  ⟨Tryd.func23, by kernel_rfl⟩,
  Tryd.func71,
  ⟨Tryd.func72, by kernel_rfl⟩,
  Tryd.func42,
  ⟨Tryd.func73, by kernel_rfl⟩, trivial⟩
theorem ok1 : AllOk Tryd.prog ents1 := ⟨⟨Tryd.func24, by kernel_rfl⟩,
  Tryd.func24,
  ⟨Tryd.func43, by kernel_rfl⟩,
  ⟨Tryd.func74, by kernel_rfl⟩,
  Tryd.func74,
  ⟨Tryd.func44, by kernel_rfl⟩,
  ⟨Tryd.func51, by kernel_rfl⟩,
  ⟨Tryd.func75, by kernel_rfl⟩,
  ⟨Tryd.func76, by kernel_rfl⟩,
  ⟨Tryd.func10, by kernel_rfl⟩,
  ⟨Tryd.func26, by kernel_rfl⟩,
  ⟨Tryd.func46, by kernel_rfl⟩,
  ⟨Tryd.func77, by kernel_rfl⟩,
  ⟨Tryd.func27, by kernel_rfl⟩,
  strs_ok Tryd.func99 (by kernel_rfl) rfl strTrim strTrim_calls,
  ⟨Tryd.func78, by kernel_rfl⟩, trivial⟩
theorem ok2 : AllOk Tryd.prog ents2 := ⟨⟨Tryd.func100, by kernel_rfl⟩,
  ⟨Tryd.func113, by kernel_rfl⟩,
  ⟨Tryd.func126, by kernel_rfl⟩,
  Tryd.func126,
  ⟨Tryd.func114, by kernel_rfl⟩,
  ⟨Tryd.func79, by kernel_rfl⟩,
  Tryd.func46,
  ⟨Tryd.func80, by kernel_rfl⟩,
  ⟨Tryd.func28, by kernel_rfl⟩,
  Tryd.func28,
  ⟨Tryd.func29, by kernel_rfl⟩,
  Tryd.func29,
  ⟨Tryd.func47, by kernel_rfl⟩,
  ⟨Tryd.func65, by kernel_rfl⟩,
  ⟨Tryd.func81, by kernel_rfl⟩,
  ⟨Tryd.func82, by kernel_rfl⟩, trivial⟩
theorem ok3 : AllOk Tryd.prog ents3 := ⟨⟨Tryd.func83, by kernel_rfl⟩,
  ⟨Tryd.func30, by kernel_rfl⟩,
  ⟨Tryd.func11, by kernel_rfl⟩,
  ⟨Tryd.func31, by kernel_rfl⟩,
  Tryd.func31,
  ⟨Tryd.func48, by kernel_rfl⟩,
  ⟨Tryd.func4, by kernel_rfl⟩,
  ⟨Tryd.func12, by kernel_rfl⟩,
  Tryd.func12,
  ⟨Tryd.func13, by kernel_rfl⟩,
  Tryd.func13,
  Tryd.func0,
  ⟨Tryd.func14, by kernel_rfl⟩,
  ⟨Tryd.func32, by kernel_rfl⟩,
  ⟨Tryd.func49, by kernel_rfl⟩,
  Tryd.func49, trivial⟩
theorem ok4 : AllOk Tryd.prog ents4 := ⟨⟨Tryd.func84, by kernel_rfl⟩,
  ⟨Tryd.func16, by kernel_rfl⟩,
  ⟨Tryd.func37, by kernel_rfl⟩,
  ⟨Tryd.func54, by kernel_rfl⟩,
  Tryd.func54,
  ⟨Tryd.func88, by kernel_rfl⟩,
  Tryd.func0,
  ⟨Tryd.func33, by kernel_rfl⟩,
  ⟨Tryd.func50, by kernel_rfl⟩,
  Tryd.func50,
  ⟨Tryd.func85, by kernel_rfl⟩,
  Tryd.func33,
  ⟨Tryd.func6, by kernel_rfl⟩,
  ⟨Tryd.func19, by kernel_rfl⟩,
  ⟨Tryd.func20, by kernel_rfl⟩, trivial⟩
theorem dftOk : EntOk Tryd.prog (.pt 0 Tryd.f0 [] false [] [] [] []) := Tryd.func0
theorem allOk (e : Nat) : EntOk Tryd.prog (E e) := by
  unfold E
  split
  all_goals first
    | exact AllOk.getD dftOk _ ok0
    | exact AllOk.getD dftOk _ ok1
    | exact AllOk.getD dftOk _ ok2
    | exact AllOk.getD dftOk _ ok3
    | exact AllOk.getD dftOk _ ok4
theorem mixed : Tryd.prog.follows .mixedOrders = true := by kernel_rfl
abbrev laws_FnExactDriftOf.ins : List Slot := [⟨0, true, (.cons .str (.cons (.slc false (.pair (.int .i64) (.pair (.int .i64) (.int .i64)))) (.cons (.int .i64) (.cons (.int .i64) (.int .i64)))))⟩, ⟨1, false, (.int .i64)⟩, ⟨2, false, (.int .i64)⟩]
theorem laws_FnExactDriftOf.spec {k : Nat} {d : Dl laws_FnExactDriftOf.ins} (h : laws_FnExactDriftOf k d = some true) : FnSpec Tryd.prog 3 laws_FnExactDriftOf.ins [] [⟨0, false, .bool⟩] d true := acall_sound mixed allOk k 0 d true h
abbrev laws_FnExactIsHighway.ins : List Slot := [⟨0, true, (.cons .str (.cons (.slc false (.pair (.int .i64) (.pair (.int .i64) (.int .i64)))) (.cons (.int .i64) (.cons (.int .i64) (.int .i64)))))⟩, ⟨1, false, (.int .i64)⟩, ⟨2, false, (.int .i64)⟩]
theorem laws_FnExactIsHighway.spec {k : Nat} {d : Dl laws_FnExactIsHighway.ins} (h : laws_FnExactIsHighway k d = some true) : FnSpec Tryd.prog 4 laws_FnExactIsHighway.ins [] [⟨0, false, .bool⟩] d true := acall_sound mixed allOk k 54 d true h
abbrev laws_FnExactTurnsOfPlain.ins : List Slot := [⟨0, true, (.cons .str (.cons (.slc false (.pair (.int .i64) (.pair (.int .i64) (.int .i64)))) (.cons (.int .i64) (.cons (.int .i64) (.int .i64)))))⟩, ⟨1, false, (.int .i64)⟩]
theorem laws_FnExactTurnsOfPlain.spec {k : Nat} {d : Dl laws_FnExactTurnsOfPlain.ins} (h : laws_FnExactTurnsOfPlain k d = some true) : FnSpec Tryd.prog 6 laws_FnExactTurnsOfPlain.ins [] [⟨0, false, .bool⟩] d true := acall_sound mixed allOk k 76 d true h
end Go.Proofs.YtglncfpijlimmaaDoorS
