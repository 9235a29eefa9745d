/- The entries keep what the soundness asks; each law's function (printed by wip/sim/gen.py). -/
import Derived.Test.YtaookbfcncfkbaaGreatDoorLib
import Derived.Test.YtaookbfcncfkbaaGreatDoorTab
namespace Go.Proofs.YtaookbfcncfkbaaGreatDoorS
open Go Go.Proofs
set_option maxRecDepth 100000
theorem ok0 : AllOk Tryz.prog ents0 := ⟨⟨Tryz.func3, by kernel_rfl⟩,
  ⟨Tryz.func4, by kernel_rfl⟩,
  ⟨Tryz.func9, by kernel_rfl⟩,
  ⟨Tryz.func19, by kernel_rfl⟩,
  Tryz.func19,
  ⟨Tryz.func20, by kernel_rfl⟩,
  ⟨Tryz.func33, by kernel_rfl⟩,
  Tryz.func20,
  Tryz.func9,
  ⟨Tryz.func21, by kernel_rfl⟩,
  ⟨Tryz.func34, by kernel_rfl⟩,
  ⟨Tryz.func51, by kernel_rfl⟩,
  Tryz.func51,
  ⟨Tryz.func52, by kernel_rfl⟩,
  Tryz.func52,
  Tryz.func21, trivial⟩
theorem ok1 : AllOk Tryz.prog ents1 := ⟨⟨Tryz.func35, by kernel_rfl⟩,
  ⟨Tryz.func22, by kernel_rfl⟩,
  ⟨Tryz.func36, by kernel_rfl⟩,
  Tryz.func22,
  ⟨Tryz.func5, by kernel_rfl⟩,
  split_ok Tryz.func10 (by kernel_rfl) rfl strSplit1_calls,
  ⟨Tryz.func11, by kernel_rfl⟩,
  Tryz.func11,
  number_ok Tryz.func24 (by kernel_rfl) rfl number_calls,
  ⟨Tryz.func12, by kernel_rfl⟩,
  Tryz.func12,
  ⟨Tryz.func13, by kernel_rfl⟩,
  Tryz.func12,
  Tryz.func5,
  ⟨Tryz.func14, by kernel_rfl⟩,
  ⟨Tryz.func25, by kernel_rfl⟩, trivial⟩
theorem ok2 : AllOk Tryz.prog ents2 := ⟨⟨Tryz.func42, by kernel_rfl⟩,
  ⟨Tryz.func45, by kernel_rfl⟩,
  ⟨Tryz.func41, by kernel_rfl⟩,
  strs_ok Tryz.func60 (by kernel_rfl) rfl strTrim strTrim_calls,
  ⟨Tryz.func59, by kernel_rfl⟩,
  ⟨Tryz.func43, by kernel_rfl⟩,
  Tryz.func43,
  ⟨Tryz.func26, by kernel_rfl⟩,
  ⟨Tryz.func44, by kernel_rfl⟩,
  Tryz.func44,
  ⟨Tryz.func27, by kernel_rfl⟩,
  ⟨Tryz.func28, by kernel_rfl⟩,
  ⟨Tryz.func46, by kernel_rfl⟩,
  ⟨Tryz.func15, by kernel_rfl⟩,
  Tryz.func15,
  ⟨Tryz.func29, by kernel_rfl⟩, trivial⟩
theorem ok3 : AllOk Tryz.prog ents3 := ⟨Tryz.func29,
  itoa_ok Tryz.func30 (by kernel_rfl) rfl itoaAll_calls,
  join_ok Tryz.func31 (by kernel_rfl) rfl (fun bk o c xs sep w h1 h2 h3 h4 h5 => Tryz.strings_Join bk o c xs sep w h1 h2 h3 h4 h5) (fun a c sep w => Tryz.strings_Join_none a c sep w),
  ⟨Tryz.func6, by kernel_rfl⟩,
  ⟨Tryz.func16, by kernel_rfl⟩,
  Tryz.func16,
  ⟨Tryz.func32, by kernel_rfl⟩,
  ⟨Tryz.func7, by kernel_rfl⟩,
  ⟨Tryz.func17, by kernel_rfl⟩,
  Tryz.func17,
  ⟨Tryz.func8, by kernel_rfl⟩,
  ⟨Tryz.func18, by kernel_rfl⟩,
  Tryz.func18, trivial⟩
theorem dftOk : EntOk Tryz.prog (.pt 0 Tryz.f0 [] false [] [] [] []) := Tryz.func0
theorem allOk (e : Nat) : EntOk Tryz.prog (E e) := by
  unfold E
  split
  all_goals first
    | exact AllOk.getD dftOk _ ok0
    | exact AllOk.getD dftOk _ ok1
    | exact AllOk.getD dftOk _ ok2
    | exact AllOk.getD dftOk _ ok3
theorem mixed : Tryz.prog.follows .mixedOrders = true := by kernel_rfl
abbrev laws_FnExactParsePuzzle.ins : List Slot := [⟨0, false, .str⟩]
theorem laws_FnExactParsePuzzle.spec {k : Nat} {d : Dl laws_FnExactParsePuzzle.ins} (h : laws_FnExactParsePuzzle k d = some true) : FnSpec Tryz.prog 3 laws_FnExactParsePuzzle.ins [] [⟨0, false, .bool⟩] d true := acall_sound mixed allOk k 0 d true h
end Go.Proofs.YtaookbfcncfkbaaGreatDoorS
