/- The entries keep what the soundness asks; each law's function (printed by wip/sim/gen.py). -/
import Derived.Test.YtaookbfcncfkbaaDoorLib
import Derived.Test.YtaookbfcncfkbaaDoorTab
namespace Go.Proofs.YtaookbfcncfkbaaDoorS
open Go Go.Proofs
set_option maxRecDepth 100000
theorem ok0 : AllOk Tryd.prog ents0 := ⟨⟨Tryd.func3, by kernel_rfl⟩,
  ⟨Tryd.func5, by kernel_rfl⟩,
  ⟨Tryd.func13, by kernel_rfl⟩,
  ⟨Tryd.func24, by kernel_rfl⟩,
  Tryd.func24,
  ⟨Tryd.func25, by kernel_rfl⟩,
  ⟨Tryd.func45, by kernel_rfl⟩,
  Tryd.func25,
  ⟨Tryd.func26, by kernel_rfl⟩,
  Tryd.func26,
  ⟨Tryd.func27, by kernel_rfl⟩,
  ⟨Tryd.func35, by kernel_rfl⟩,
  ⟨Tryd.func6, by kernel_rfl⟩,
  split_ok Tryd.func14 (by kernel_rfl) rfl strSplit1_calls,
  ⟨Tryd.func15, by kernel_rfl⟩,
  Tryd.func15, trivial⟩
theorem ok1 : AllOk Tryd.prog ents1 := ⟨number_ok Tryd.func29 (by kernel_rfl) rfl number_calls,
  ⟨Tryd.func16, by kernel_rfl⟩,
  ⟨Tryd.func30, by kernel_rfl⟩,
  ⟨Tryd.func50, by kernel_rfl⟩,
  ⟨Tryd.func31, by kernel_rfl⟩,
  Tryd.func31,
  ⟨Tryd.func32, by kernel_rfl⟩,
  ⟨Tryd.func51, by kernel_rfl⟩,
  ⟨Tryd.func7, by kernel_rfl⟩, trivial⟩
theorem dftOk : EntOk Tryd.prog (.pt 0 Tryd.f0 [] false [] [] [] []) := Tryd.func0
theorem allOk (e : Nat) : EntOk Tryd.prog (E e) := by
  unfold E
  split
  all_goals first
    | exact AllOk.getD dftOk _ ok0
    | exact AllOk.getD dftOk _ ok1
theorem mixed : Tryd.prog.follows .mixedOrders = true := by kernel_rfl
abbrev laws_FnExactParseWorm.ins : List Slot := [⟨0, false, .str⟩]
theorem laws_FnExactParseWorm.spec {k : Nat} {d : Dl laws_FnExactParseWorm.ins} (h : laws_FnExactParseWorm k d = some true) : FnSpec Tryd.prog 3 laws_FnExactParseWorm.ins [] [⟨0, false, .bool⟩] d true := acall_sound mixed allOk k 0 d true h
end Go.Proofs.YtaookbfcncfkbaaDoorS
