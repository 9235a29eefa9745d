/- The entries keep what the soundness asks; each law's function (printed by wip/sim/gen.py). -/
import Derived.Test.YtcmebphcoamohaaDoorLib
import Derived.Test.YtcmebphcoamohaaDoorTab
namespace Go.Proofs.YtcmebphcoamohaaDoorS
open Go Go.Proofs
set_option maxRecDepth 100000
theorem ok0 : AllOk Tryd.prog ents0 := ⟨⟨Tryd.func3, by kernel_rfl⟩,
  ⟨Tryd.func4, by kernel_rfl⟩,
  ⟨Tryd.func5, by kernel_rfl⟩,
  ⟨Tryd.func25, by kernel_rfl⟩,
  ⟨Tryd.func44, by kernel_rfl⟩,
  ⟨Tryd.func52, by kernel_rfl⟩,
  ⟨Tryd.func63, by kernel_rfl⟩,
  ⟨Tryd.func55, by kernel_rfl⟩,
  ⟨Tryd.func66, by kernel_rfl⟩,
  ⟨Tryd.func53, by kernel_rfl⟩,
  Tryd.func63,
  ⟨Tryd.func64, by kernel_rfl⟩,
  ⟨Tryd.func54, by kernel_rfl⟩,
  ⟨Tryd.func65, by kernel_rfl⟩,
  Tryd.func65,
  ⟨Tryd.func37, by kernel_rfl⟩, trivial⟩
theorem ok1 : AllOk Tryd.prog ents1 := ⟨⟨Tryd.func45, by kernel_rfl⟩,
  Tryd.func37,
  ⟨Tryd.func6, by kernel_rfl⟩,
  ⟨Tryd.func26, by kernel_rfl⟩,
  ⟨Tryd.func14, by kernel_rfl⟩,
  ⟨Tryd.func23, by kernel_rfl⟩,
  ⟨Tryd.func42, by kernel_rfl⟩,
  ⟨Tryd.func49, by kernel_rfl⟩,
  strs_ok Tryd.func43 (by kernel_rfl) rfl strTrim strTrim_calls,
  ⟨Tryd.func31, by kernel_rfl⟩,
  ⟨Tryd.func50, by kernel_rfl⟩,
  ⟨Tryd.func35, by kernel_rfl⟩,
  Tryd.func35,
  ⟨Tryd.func29, by kernel_rfl⟩,
  ⟨Tryd.func48, by kernel_rfl⟩,
  ⟨Tryd.func51, by kernel_rfl⟩, trivial⟩
theorem ok2 : AllOk Tryd.prog ents2 := ⟨Tryd.func35,
  ⟨Tryd.func33, by kernel_rfl⟩,
  ⟨Tryd.func34, by kernel_rfl⟩,
  ⟨Tryd.func7, by kernel_rfl⟩,
  ⟨Tryd.func27, by kernel_rfl⟩,
  ⟨Tryd.func28, by kernel_rfl⟩,
  Tryd.func28,
  ⟨Tryd.func46, by kernel_rfl⟩,
  ⟨Tryd.func30, by kernel_rfl⟩,
  ⟨Tryd.func47, by kernel_rfl⟩,
  ⟨Tryd.func38, by kernel_rfl⟩,
  ⟨Tryd.func8, by kernel_rfl⟩,
  ⟨Tryd.func9, by kernel_rfl⟩,
  ⟨Tryd.func10, by kernel_rfl⟩,
  ⟨Tryd.func11, by kernel_rfl⟩,
  ⟨Tryd.func12, by kernel_rfl⟩, trivial⟩
theorem ok3 : AllOk Tryd.prog ents3 := ⟨⟨Tryd.func13, by kernel_rfl⟩,
  ⟨Tryd.func15, by kernel_rfl⟩,
  Tryd.func3,
  Tryd.func3,
  ⟨Tryd.func16, by kernel_rfl⟩,
  ⟨Tryd.func32, by kernel_rfl⟩,
  ⟨Tryd.func17, by kernel_rfl⟩,
  Tryd.func17,
  Tryd.func3,
  ⟨Tryd.func18, by kernel_rfl⟩,
  ⟨Tryd.func36, by kernel_rfl⟩,
  ⟨Tryd.func19, by kernel_rfl⟩,
  Tryd.func19,
  ⟨Tryd.func39, by kernel_rfl⟩,
  ⟨Tryd.func20, by kernel_rfl⟩,
  ⟨Tryd.func40, by kernel_rfl⟩, trivial⟩
theorem ok4 : AllOk Tryd.prog ents4 := ⟨⟨Tryd.func21, by kernel_rfl⟩,
  ⟨Tryd.func41, by kernel_rfl⟩,
  ⟨Tryd.func22, by kernel_rfl⟩,
  Tryd.func22,
  ⟨Tryd.func24, by kernel_rfl⟩,
  Tryd.func3, trivial⟩
theorem dftOk : EntOk Tryd.prog (.pt 0 Tryd.f0 [] false [] [] [] []) := Tryd.func0
theorem allOk (e : Nat) : EntOk Tryd.prog (E e) := by
  unfold E
  split
  all_goals first
    | exact AllOk.getD dftOk _ ok0
    | exact AllOk.getD dftOk _ ok1
    | exact AllOk.getD dftOk _ ok2
    | exact AllOk.getD dftOk _ ok3
    | exact AllOk.getD dftOk _ ok4
theorem mixed : Tryd.prog.follows .mixedOrders = true := by kernel_rfl
abbrev laws_FnBallsComeOut.ins : List Slot := [⟨0, false, (.slc false (.int .u8))⟩, ⟨1, false, (.slc false (.int .u8))⟩]
theorem laws_FnBallsComeOut.spec {k : Nat} {d : Dl laws_FnBallsComeOut.ins} (h : laws_FnBallsComeOut k d = some true) : FnSpec Tryd.prog 3 laws_FnBallsComeOut.ins [] [⟨0, false, .bool⟩] d true := acall_sound mixed allOk k 0 d true h
end Go.Proofs.YtcmebphcoamohaaDoorS
