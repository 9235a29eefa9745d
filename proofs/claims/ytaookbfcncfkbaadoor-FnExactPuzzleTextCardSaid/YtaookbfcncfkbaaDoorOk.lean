/- The entries keep what the soundness asks; each law's function (printed by wip/sim/gen.py). -/
import Derived.Test.YtaookbfcncfkbaaDoorLib
import Derived.Test.YtaookbfcncfkbaaDoorTab
namespace Go.Proofs.YtaookbfcncfkbaaDoorS
open Go Go.Proofs
set_option maxRecDepth 100000
theorem ok0 : AllOk Tryd.prog ents0 := ⟨⟨Tryd.func4, by kernel_rfl⟩,
  ⟨Tryd.func8, by kernel_rfl⟩,
  ⟨Tryd.func17, by kernel_rfl⟩,
  ⟨Tryd.func10, by kernel_rfl⟩,
  ⟨Tryd.func20, by kernel_rfl⟩,
  Tryd.func20,
  ⟨Tryd.func36, by kernel_rfl⟩,
  ⟨Tryd.func9, by kernel_rfl⟩,
  ⟨Tryd.func18, by kernel_rfl⟩,
  ⟨Tryd.func33, by kernel_rfl⟩,
  ⟨Tryd.func52, by kernel_rfl⟩,
  ⟨Tryd.func45, by kernel_rfl⟩,
  Tryd.func52,
  ⟨Tryd.func53, by kernel_rfl⟩,
  Tryd.func53,
  Tryd.func18, trivial⟩
theorem ok1 : AllOk Tryd.prog ents1 := ⟨⟨Tryd.func34, by kernel_rfl⟩,
  ⟨Tryd.func19, by kernel_rfl⟩,
  ⟨Tryd.func35, by kernel_rfl⟩,
  Tryd.func19,
  ⟨Tryd.func11, by kernel_rfl⟩,
  ⟨Tryd.func21, by kernel_rfl⟩,
  ⟨Tryd.func37, by kernel_rfl⟩,
  ⟨Tryd.func54, by kernel_rfl⟩,
  ⟨Tryd.func57, by kernel_rfl⟩,
  ⟨Tryd.func50, by kernel_rfl⟩,
  strs_ok Tryd.func69 (by kernel_rfl) rfl strTrim strTrim_calls,
  ⟨Tryd.func68, by kernel_rfl⟩,
  ⟨Tryd.func55, by kernel_rfl⟩,
  Tryd.func55,
  ⟨Tryd.func38, by kernel_rfl⟩,
  ⟨Tryd.func56, by kernel_rfl⟩, trivial⟩
theorem ok2 : AllOk Tryd.prog ents2 := ⟨Tryd.func56,
  ⟨Tryd.func39, by kernel_rfl⟩,
  ⟨Tryd.func40, by kernel_rfl⟩,
  ⟨Tryd.func51, by kernel_rfl⟩,
  ⟨Tryd.func22, by kernel_rfl⟩,
  Tryd.func22,
  ⟨Tryd.func41, by kernel_rfl⟩,
  Tryd.func41,
  itoa_ok Tryd.func42 (by kernel_rfl) rfl itoaAll_calls,
  join_ok Tryd.func43 (by kernel_rfl) rfl (fun bk o c xs sep w h1 h2 h3 h4 h5 => Tryd.strings_Join bk o c xs sep w h1 h2 h3 h4 h5) (fun a c sep w => Tryd.strings_Join_none a c sep w),
  ⟨Tryd.func12, by kernel_rfl⟩,
  ⟨Tryd.func23, by kernel_rfl⟩,
  Tryd.func23,
  ⟨Tryd.func44, by kernel_rfl⟩, trivial⟩
theorem dftOk : EntOk Tryd.prog (.pt 0 Tryd.f0 [] false [] [] [] []) := Tryd.func0
theorem allOk (e : Nat) : EntOk Tryd.prog (E e) := by
  unfold E
  split
  all_goals first
    | exact AllOk.getD dftOk _ ok0
    | exact AllOk.getD dftOk _ ok1
    | exact AllOk.getD dftOk _ ok2
theorem mixed : Tryd.prog.follows .mixedOrders = true := by kernel_rfl
abbrev laws_FnExactPuzzleText.ins : List Slot := [⟨0, true, (.cons .str (.cons (.int .i64) (.cons (.int .i64) (.slc false (.pair (.int .i64) (.pair (.int .i64) (.int .i64)))))))⟩]
theorem laws_FnExactPuzzleText.spec {k : Nat} {d : Dl laws_FnExactPuzzleText.ins} (h : laws_FnExactPuzzleText k d = some true) : FnSpec Tryd.prog 4 laws_FnExactPuzzleText.ins [] [⟨0, false, .bool⟩] d true := acall_sound mixed allOk k 0 d true h
end Go.Proofs.YtaookbfcncfkbaaDoorS
