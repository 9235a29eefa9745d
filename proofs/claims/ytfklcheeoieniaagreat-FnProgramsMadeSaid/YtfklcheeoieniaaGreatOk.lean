/- The entries keep what the soundness asks; each law's function (printed by wip/sim/gen.py). -/
import Derived.Test.YtfklcheeoieniaaGreatLib
import Derived.Test.YtfklcheeoieniaaGreatTab
namespace Go.Proofs.YtfklcheeoieniaaGreatS
open Go Go.Proofs
set_option maxRecDepth 100000
theorem ok0 : AllOk Tryz.prog ents0 := ⟨⟨Tryz.func3, by kernel_rfl⟩,
  ⟨Tryz.func4, by kernel_rfl⟩,
  ⟨Tryz.func5, by kernel_rfl⟩,
  ⟨Tryz.func23, by kernel_rfl⟩,
  ⟨Tryz.func37, by kernel_rfl⟩,
  ⟨Tryz.func57, by kernel_rfl⟩,
  ⟨Tryz.func41, by kernel_rfl⟩,
  ⟨Tryz.func59, by kernel_rfl⟩,
  ⟨Tryz.func67, by kernel_rfl⟩,
  ⟨Tryz.func22, by kernel_rfl⟩,
  ⟨Tryz.func39, by kernel_rfl⟩,
  ⟨Tryz.func47, by kernel_rfl⟩,
  Tryz.func47,
  Tryz.func22,
  ⟨Tryz.func40, by kernel_rfl⟩,
  ⟨Tryz.func48, by kernel_rfl⟩, trivial⟩
theorem ok1 : AllOk Tryz.prog ents1 := ⟨Tryz.func48,
  Tryz.func57,
  ⟨Tryz.func58, by kernel_rfl⟩,
  ⟨Tryz.func6, by kernel_rfl⟩,
  ⟨Tryz.func10, by kernel_rfl⟩,
  Tryz.func10,
  ⟨Tryz.func30, by kernel_rfl⟩,
  strsB_ok Tryz.func31 (by kernel_rfl) rfl strContains1 strContains1_calls,
  strS_ok Tryz.func25 (by kernel_rfl) rfl (otherB 76 82) other25_calls,
  ⟨Tryz.func24, by kernel_rfl⟩,
  Tryz.func24,
  ⟨Tryz.func26, by kernel_rfl⟩,
  Tryz.func26,
  ⟨Tryz.func27, by kernel_rfl⟩,
  Tryz.func27,
  ⟨Tryz.func7, by kernel_rfl⟩, trivial⟩
theorem ok2 : AllOk Tryz.prog ents2 := ⟨⟨Tryz.func28, by kernel_rfl⟩,
  Tryz.func28,
  ⟨Tryz.func51, by kernel_rfl⟩,
  Tryz.func51,
  Tryz.func7,
  ⟨Tryz.func29, by kernel_rfl⟩,
  Tryz.func29,
  ⟨Tryz.func8, by kernel_rfl⟩,
  ⟨Tryz.func9, by kernel_rfl⟩,
  ⟨Tryz.func11, by kernel_rfl⟩,
  strsI_ok Tryz.func32 (by kernel_rfl) rfl strCount1 strCount1_calls,
  ⟨Tryz.func12, by kernel_rfl⟩,
  ⟨Tryz.func33, by kernel_rfl⟩,
  ⟨Tryz.func34, by kernel_rfl⟩,
  Tryz.func34,
  Tryz.func34, trivial⟩
theorem ok3 : AllOk Tryz.prog ents3 := ⟨⟨Tryz.func55, by kernel_rfl⟩,
  Tryz.func34,
  ⟨Tryz.func35, by kernel_rfl⟩,
  ⟨Tryz.func56, by kernel_rfl⟩,
  ⟨Tryz.func13, by kernel_rfl⟩,
  ⟨Tryz.func36, by kernel_rfl⟩,
  Tryz.func36,
  Tryz.func3,
  ⟨Tryz.func14, by kernel_rfl⟩,
  ⟨Tryz.func15, by kernel_rfl⟩,
  ⟨Tryz.func16, by kernel_rfl⟩,
  ⟨Tryz.func17, by kernel_rfl⟩,
  ⟨Tryz.func38, by kernel_rfl⟩,
  ⟨Tryz.func18, by kernel_rfl⟩,
  Tryz.func18,
  ⟨Tryz.func19, by kernel_rfl⟩, trivial⟩
theorem ok4 : AllOk Tryz.prog ents4 := ⟨Tryz.func19,
  ⟨Tryz.func20, by kernel_rfl⟩,
  Tryz.func20,
  ⟨Tryz.func21, by kernel_rfl⟩,
  ⟨Tryz.func42, by kernel_rfl⟩,
  ⟨Tryz.func60, by kernel_rfl⟩,
  ⟨Tryz.func68, by kernel_rfl⟩,
  Tryz.func68,
  ⟨Tryz.func61, by kernel_rfl⟩,
  ⟨Tryz.func43, by kernel_rfl⟩,
  Tryz.func43,
  ⟨Tryz.func46, by kernel_rfl⟩,
  ⟨Tryz.func63, by kernel_rfl⟩,
  Tryz.func63,
  ⟨Tryz.func44, by kernel_rfl⟩,
  Tryz.func44, trivial⟩
theorem ok5 : AllOk Tryz.prog ents5 := ⟨⟨Tryz.func62, by kernel_rfl⟩,
  ⟨Tryz.func69, by kernel_rfl⟩,
  Tryz.func21,
  ⟨Tryz.func45, by kernel_rfl⟩, trivial⟩
theorem dftOk : EntOk Tryz.prog (.pt 0 Tryz.f0 [] false [] [] [] []) := Tryz.func0
theorem allOk (e : Nat) : EntOk Tryz.prog (E e) := by
  unfold E
  split
  all_goals first
    | exact AllOk.getD dftOk _ ok0
    | exact AllOk.getD dftOk _ ok1
    | exact AllOk.getD dftOk _ ok2
    | exact AllOk.getD dftOk _ ok3
    | exact AllOk.getD dftOk _ ok4
    | exact AllOk.getD dftOk _ ok5
theorem mixed : Tryz.prog.follows .mixedOrders = true := by kernel_rfl
abbrev laws_FnProgramsMade.ins : List Slot := [⟨0, false, (.slc false (.int .u8))⟩, ⟨1, false, (.slc false (.int .u8))⟩]
theorem laws_FnProgramsMade.spec {k : Nat} {d : Dl laws_FnProgramsMade.ins} (h : laws_FnProgramsMade k d = some true) : FnSpec Tryz.prog 3 laws_FnProgramsMade.ins [] [⟨0, false, .bool⟩] d true := acall_sound mixed allOk k 0 d true h
end Go.Proofs.YtfklcheeoieniaaGreatS
