/- The entries keep what the soundness asks; each law's function (printed by wip/sim/gen.py). -/
import Derived.Test.YthobhonnicadaaaDoorLib
import Derived.Test.YthobhonnicadaaaDoorTab
namespace Go.Proofs.YthobhonnicadaaaDoorS
open Go Go.Proofs
set_option maxRecDepth 100000
theorem ok0 : AllOk Tryd.prog ents0 := ⟨⟨Tryd.func7, by kernel_rfl⟩,
  ⟨Tryd.func19, by kernel_rfl⟩,
  ⟨Tryd.func54, by kernel_rfl⟩,
  ⟨Tryd.func21, by kernel_rfl⟩,
  ⟨Tryd.func57, by kernel_rfl⟩,
  Tryd.func57,
  ⟨Tryd.func93, by kernel_rfl⟩,
  ⟨Tryd.func31, by kernel_rfl⟩,
  ⟨Tryd.func67, by kernel_rfl⟩,
  ⟨Tryd.func74, by kernel_rfl⟩,
  ⟨Tryd.func105, by kernel_rfl⟩,
  ⟨Tryd.func39, by kernel_rfl⟩,
  Tryd.func105,
  ⟨Tryd.func91, by kernel_rfl⟩,
  Tryd.func74,
  ⟨Tryd.func106, by kernel_rfl⟩, trivial⟩
theorem ok1 : AllOk Tryd.prog ents1 := ⟨⟨Tryd.func69, by kernel_rfl⟩,
  ⟨Tryd.func68, by kernel_rfl⟩,
  Tryd.func68,
  ⟨Tryd.func103, by kernel_rfl⟩,
  ⟨Tryd.func115, by kernel_rfl⟩,
  Tryd.func115,
  ⟨Tryd.func75, by kernel_rfl⟩,
  ⟨Tryd.func107, by kernel_rfl⟩,
  ⟨Tryd.func92, by kernel_rfl⟩,
  ⟨Tryd.func108, by kernel_rfl⟩,
  ⟨Tryd.func32, by kernel_rfl⟩,
  ⟨Tryd.func70, by kernel_rfl⟩,
  ⟨Tryd.func58, by kernel_rfl⟩,
  ⟨Tryd.func94, by kernel_rfl⟩,
  ⟨Tryd.func44, by kernel_rfl⟩,
  strs_ok Tryd.func116 (by kernel_rfl) rfl strTrim strTrim_calls, trivial⟩
theorem ok2 : AllOk Tryd.prog ents2 := ⟨⟨Tryd.func59, by kernel_rfl⟩,
  ⟨Tryd.func97, by kernel_rfl⟩,
  ⟨Tryd.func117, by kernel_rfl⟩,
  ⟨Tryd.func138, by kernel_rfl⟩,
  Tryd.func138,
  ⟨Tryd.func118, by kernel_rfl⟩,
  ⟨Tryd.func95, by kernel_rfl⟩,
  Tryd.func58,
  ⟨Tryd.func96, by kernel_rfl⟩,
  ⟨Tryd.func71, by kernel_rfl⟩,
  Tryd.func71,
  ⟨Tryd.func72, by kernel_rfl⟩,
  Tryd.func72,
  ⟨Tryd.func104, by kernel_rfl⟩,
  ⟨Tryd.func123, by kernel_rfl⟩,
  ⟨Tryd.func124, by kernel_rfl⟩, trivial⟩
theorem ok3 : AllOk Tryd.prog ents3 := ⟨⟨Tryd.func125, by kernel_rfl⟩,
  ⟨Tryd.func126, by kernel_rfl⟩,
  plain_ok,
  ⟨Tryd.func23, by kernel_rfl⟩,
  ⟨Tryd.func62, by kernel_rfl⟩,
  Tryd.func62,
  ⟨Tryd.func100, by kernel_rfl⟩,
  ⟨Tryd.func24, by kernel_rfl⟩,
  ⟨Tryd.func63, by kernel_rfl⟩,
  Tryd.func63,
  ⟨Tryd.func25, by kernel_rfl⟩,
  ⟨Tryd.func64, by kernel_rfl⟩,
  Tryd.func64,
  ⟨Tryd.func8, by kernel_rfl⟩,
  ⟨Tryd.func33, by kernel_rfl⟩,
  ⟨Tryd.func34, by kernel_rfl⟩, trivial⟩
theorem dftOk : EntOk Tryd.prog (.pt 0 Tryd.f0 [] false [] [] [] []) := Tryd.func0
theorem allOk (e : Nat) : EntOk Tryd.prog (E e) := by
  unfold E
  split
  all_goals first
    | exact AllOk.getD dftOk _ ok0
    | exact AllOk.getD dftOk _ ok1
    | exact AllOk.getD dftOk _ ok2
    | exact AllOk.getD dftOk _ ok3
theorem mixed : Tryd.prog.follows .mixedOrders = true := by kernel_rfl
abbrev laws_FnExactPlainAfter.ins : List Slot := [⟨0, true, (.cons .str (.cons (.slc false (.pair (.int .i64) (.pair (.int .i64) (.int .i64)))) (.cons (.int .i64) (.cons (.int .i64) (.int .i64)))))⟩, ⟨1, false, (.int .i64)⟩]
theorem laws_FnExactPlainAfter.spec {k : Nat} {d : Dl laws_FnExactPlainAfter.ins} (h : laws_FnExactPlainAfter k d = some true) : FnSpec Tryd.prog 7 laws_FnExactPlainAfter.ins [] [⟨0, false, .bool⟩] d true := acall_sound mixed allOk k 0 d true h
abbrev laws_FnExactStepPlain.ins : List Slot := [⟨0, true, (.cons .str (.cons (.slc false (.pair (.int .i64) (.pair (.int .i64) (.int .i64)))) (.cons (.int .i64) (.cons (.int .i64) (.int .i64)))))⟩]
theorem laws_FnExactStepPlain.spec {k : Nat} {d : Dl laws_FnExactStepPlain.ins} (h : laws_FnExactStepPlain k d = some true) : FnSpec Tryd.prog 8 laws_FnExactStepPlain.ins [] [⟨0, false, .bool⟩] d true := acall_sound mixed allOk k 61 d true h
end Go.Proofs.YthobhonnicadaaaDoorS
