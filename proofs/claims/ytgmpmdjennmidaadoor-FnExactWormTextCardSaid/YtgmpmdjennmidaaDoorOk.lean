/- The entries keep what the soundness asks; each law's function (printed by wip/sim/gen.py). -/
import Derived.Test.YtgmpmdjennmidaaDoorLib
import Derived.Test.YtgmpmdjennmidaaDoorTab
namespace Go.Proofs.YtgmpmdjennmidaaDoorS
open Go Go.Proofs
set_option maxRecDepth 100000
theorem ok0 : AllOk Tryd.prog ents0 := ⟨Tryd.func0,
  ⟨Tryd.func9, by kernel_rfl⟩,
  ⟨Tryd.func17, by kernel_rfl⟩,
  ⟨Tryd.func29, by kernel_rfl⟩,
  Tryd.func29,
  ⟨Tryd.func30, by kernel_rfl⟩,
  ⟨Tryd.func20, by kernel_rfl⟩,
  Tryd.func30,
  ⟨Tryd.func12, by kernel_rfl⟩,
  Tryd.func12,
  ⟨Tryd.func13, by kernel_rfl⟩,
  ⟨Tryd.func21, by kernel_rfl⟩,
  Tryd.func0,
  Tryd.func0,
  Tryd.func0,
  Tryd.func0, trivial⟩
theorem ok1 : AllOk Tryd.prog ents1 := ⟨strI_ok Tryd.func45 (by kernel_rfl) rfl runeCount runeCount_calls,
  Tryd.func0,
  Tryd.func0,
  Tryd.func0,
  ⟨Tryd.func3, by kernel_rfl⟩,
  ⟨Tryd.func5, by kernel_rfl⟩,
  ⟨Tryd.func7, by kernel_rfl⟩,
  ⟨Tryd.func6, by kernel_rfl⟩,
  ⟨Tryd.func8, by kernel_rfl⟩,
  ⟨Tryd.func14, by kernel_rfl⟩,
  ⟨Tryd.func22, by kernel_rfl⟩,
  ⟨Tryd.func33, by kernel_rfl⟩,
  ⟨Tryd.func23, by kernel_rfl⟩,
  Tryd.func23,
  ⟨Tryd.func24, by kernel_rfl⟩,
  ⟨Tryd.func34, by kernel_rfl⟩, trivial⟩
theorem ok2 : AllOk Tryd.prog ents2 := ⟨⟨Tryd.func16, by kernel_rfl⟩,
  Tryd.func16,
  intS_ok Tryd.func28 (by kernel_rfl) rfl itoaSmall itoaSmall_calls,
  join_ok Tryd.func15 (by kernel_rfl) rfl (fun bk o c xs sep w h1 h2 h3 h4 h5 => Tryd.strings_Join bk o c xs sep w h1 h2 h3 h4 h5) (fun a c sep w => Tryd.strings_Join_none a c sep w), trivial⟩
theorem dftOk : EntOk Tryd.prog (.pt 0 Tryd.f0 [] false [] [] [] []) := Tryd.func0
theorem allOk (e : Nat) : EntOk Tryd.prog (E e) := by
  unfold E
  split
  all_goals first
    | exact AllOk.getD dftOk _ ok0
    | exact AllOk.getD dftOk _ ok1
    | exact AllOk.getD dftOk _ ok2
theorem mixed : Tryd.prog.follows .mixedOrders = true := by kernel_rfl
abbrev laws_FnExactWormText.ins : List Slot := [⟨0, true, (.cons (.int .i64) (.cons (.int .i64) (.cons .str (.cons .str (.cons (.int .i64) (.cons (.int .i64) (.int .i64)))))))⟩]
theorem laws_FnExactWormText.spec {k : Nat} {d : Dl laws_FnExactWormText.ins} (h : laws_FnExactWormText k d = some true) : FnSpec Tryd.prog 3 laws_FnExactWormText.ins [] [⟨0, false, .bool⟩] d true := acall_sound mixed allOk k 20 d true h
end Go.Proofs.YtgmpmdjennmidaaDoorS
