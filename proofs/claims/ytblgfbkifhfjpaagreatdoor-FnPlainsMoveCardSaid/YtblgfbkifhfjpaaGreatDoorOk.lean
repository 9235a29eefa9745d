/- The entries keep what the soundness asks; each law's function (printed by wip/sim/gen.py). -/
import Derived.Test.YtblgfbkifhfjpaaGreatDoorLib
import Derived.Test.YtblgfbkifhfjpaaGreatDoorTab
namespace Go.Proofs.YtblgfbkifhfjpaaGreatDoorS
open Go Go.Proofs
set_option maxRecDepth 100000
theorem ok0 : AllOk Tryz.prog ents0 := ⟨⟨Tryz.func3, by kernel_rfl⟩,
  ⟨Tryz.func4, by kernel_rfl⟩,
  ⟨Tryz.func5, by kernel_rfl⟩,
  ⟨Tryz.func37, by kernel_rfl⟩,
  ⟨Tryz.func60, by kernel_rfl⟩,
  ⟨Tryz.func94, by kernel_rfl⟩,
  ⟨Tryz.func59, by kernel_rfl⟩,
  ⟨Tryz.func62, by kernel_rfl⟩,
  ⟨Tryz.func96, by kernel_rfl⟩,
  Tryz.func94,
  ⟨Tryz.func95, by kernel_rfl⟩,
  Tryz.func60,
  ⟨Tryz.func69, by kernel_rfl⟩,
  ⟨Tryz.func91, by kernel_rfl⟩,
  Tryz.func91,
  ⟨Tryz.func82, by kernel_rfl⟩, trivial⟩
theorem ok1 : AllOk Tryz.prog ents1 := ⟨⟨Tryz.func61, by kernel_rfl⟩,
  Tryz.func60,
  ⟨Tryz.func6, by kernel_rfl⟩,
  ⟨Tryz.func16, by kernel_rfl⟩,
  ⟨Tryz.func33, by kernel_rfl⟩,
  ⟨Tryz.func54, by kernel_rfl⟩,
  strs_ok Tryz.func75 (by kernel_rfl) rfl strTrim strTrim_calls,
  ⟨Tryz.func52, by kernel_rfl⟩,
  ⟨Tryz.func92, by kernel_rfl⟩,
  ⟨Tryz.func113, by kernel_rfl⟩,
  ⟨Tryz.func141, by kernel_rfl⟩,
  Tryz.func141,
  ⟨Tryz.func114, by kernel_rfl⟩,
  ⟨Tryz.func53, by kernel_rfl⟩,
  Tryz.func16,
  ⟨Tryz.func55, by kernel_rfl⟩, trivial⟩
theorem ok2 : AllOk Tryz.prog ents2 := ⟨⟨Tryz.func38, by kernel_rfl⟩,
  ⟨Tryz.func39, by kernel_rfl⟩,
  Tryz.func38,
  sort80_ok,
  ⟨Tryz.func67, by kernel_rfl⟩,
  ⟨Tryz.func7, by kernel_rfl⟩,
  ⟨Tryz.func40, by kernel_rfl⟩,
  ⟨Tryz.func74, by kernel_rfl⟩,
  ⟨Tryz.func68, by kernel_rfl⟩,
  Tryz.func74,
  ⟨Tryz.func81, by kernel_rfl⟩,
  Tryz.func40,
  ⟨Tryz.func41, by kernel_rfl⟩,
  Tryz.func41,
  ⟨Tryz.func8, by kernel_rfl⟩,
  strS_ok Tryz.func42 (by kernel_rfl) rfl (otherB 76 82) other42_calls, trivial⟩
theorem ok3 : AllOk Tryz.prog ents3 := ⟨⟨Tryz.func43, by kernel_rfl⟩,
  ⟨Tryz.func38, by kernel_rfl⟩,
  ⟨Tryz.func44, by kernel_rfl⟩,
  Tryz.func38,
  ⟨Tryz.func9, by kernel_rfl⟩,
  ⟨Tryz.func45, by kernel_rfl⟩,
  Tryz.func45,
  ⟨Tryz.func10, by kernel_rfl⟩,
  ⟨Tryz.func46, by kernel_rfl⟩,
  Tryz.func46,
  ⟨Tryz.func85, by kernel_rfl⟩,
  Tryz.func85,
  ⟨Tryz.func11, by kernel_rfl⟩,
  ⟨Tryz.func47, by kernel_rfl⟩,
  Tryz.func47,
  ⟨Tryz.func86, by kernel_rfl⟩, trivial⟩
theorem ok4 : AllOk Tryz.prog ents4 := ⟨⟨Tryz.func87, by kernel_rfl⟩,
  ⟨Tryz.func12, by kernel_rfl⟩,
  ⟨Tryz.func48, by kernel_rfl⟩,
  Tryz.func48,
  Tryz.func12,
  Tryz.func12,
  join_ok Tryz.func49 (by kernel_rfl) rfl (fun bk o c xs sep w h1 h2 h3 h4 h5 => Tryz.strings_Join bk o c xs sep w h1 h2 h3 h4 h5) (fun a c sep w => Tryz.strings_Join_none a c sep w),
  ⟨Tryz.func13, by kernel_rfl⟩,
  Tryz.func13,
  Tryz.func13,
  ⟨Tryz.func51, by kernel_rfl⟩,
  ⟨Tryz.func50, by kernel_rfl⟩,
  ⟨Tryz.func14, by kernel_rfl⟩,
  Tryz.func14,
  ⟨Tryz.func15, by kernel_rfl⟩,
  Tryz.func15, trivial⟩
theorem ok5 : AllOk Tryz.prog ents5 := ⟨Tryz.func3,
  Tryz.func3,
  Tryz.func3,
  ⟨Tryz.func17, by kernel_rfl⟩,
  ⟨Tryz.func56, by kernel_rfl⟩,
  ⟨Tryz.func57, by kernel_rfl⟩,
  Tryz.func57,
  ⟨Tryz.func93, by kernel_rfl⟩,
  ⟨Tryz.func115, by kernel_rfl⟩,
  ⟨Tryz.func66, by kernel_rfl⟩,
  ⟨Tryz.func116, by kernel_rfl⟩,
  ⟨Tryz.func117, by kernel_rfl⟩,
  plain_ok,
  Tryz.func3,
  Tryz.func3,
  Tryz.func3, trivial⟩
theorem ok6 : AllOk Tryz.prog ents6 := ⟨⟨Tryz.func18, by kernel_rfl⟩,
  Tryz.func18,
  Tryz.func3,
  Tryz.func3,
  ⟨Tryz.func19, by kernel_rfl⟩,
  ⟨Tryz.func20, by kernel_rfl⟩,
  ⟨Tryz.func38, by kernel_rfl⟩,
  ⟨Tryz.func63, by kernel_rfl⟩,
  Tryz.func38,
  ⟨Tryz.func21, by kernel_rfl⟩,
  ⟨Tryz.func64, by kernel_rfl⟩,
  ⟨Tryz.func22, by kernel_rfl⟩,
  ⟨Tryz.func65, by kernel_rfl⟩,
  ⟨Tryz.func23, by kernel_rfl⟩,
  ⟨Tryz.func24, by kernel_rfl⟩,
  ⟨Tryz.func25, by kernel_rfl⟩, trivial⟩
theorem ok7 : AllOk Tryz.prog ents7 := ⟨⟨Tryz.func26, by kernel_rfl⟩,
  ⟨Tryz.func27, by kernel_rfl⟩,
  ⟨Tryz.func70, by kernel_rfl⟩,
  ⟨Tryz.func97, by kernel_rfl⟩,
  Tryz.func97,
  ⟨Tryz.func73, by kernel_rfl⟩,
  ⟨Tryz.func28, by kernel_rfl⟩,
  ⟨Tryz.func34, by kernel_rfl⟩,
  ⟨Tryz.func76, by kernel_rfl⟩,
  ⟨Tryz.func77, by kernel_rfl⟩,
  Tryz.func77,
  ⟨Tryz.func78, by kernel_rfl⟩,
  Tryz.func28,
  ⟨Tryz.func29, by kernel_rfl⟩,
  ⟨Tryz.func71, by kernel_rfl⟩,
  Tryz.func71, trivial⟩
theorem ok8 : AllOk Tryz.prog ents8 := ⟨Tryz.func29,
  Tryz.func29,
  ⟨Tryz.func72, by kernel_rfl⟩,
  ⟨Tryz.func30, by kernel_rfl⟩,
  ⟨Tryz.func31, by kernel_rfl⟩,
  ⟨Tryz.func32, by kernel_rfl⟩,
  Tryz.func3,
  Tryz.func3,
  Tryz.func3,
  Tryz.func3,
  Tryz.func3,
  ⟨Tryz.func35, by kernel_rfl⟩,
  ⟨Tryz.func79, by kernel_rfl⟩,
  ⟨Tryz.func105, by kernel_rfl⟩,
  Tryz.func79,
  ⟨Tryz.func106, by kernel_rfl⟩, trivial⟩
theorem ok9 : AllOk Tryz.prog ents9 := ⟨⟨Tryz.func122, by kernel_rfl⟩,
  ⟨Tryz.func124, by kernel_rfl⟩,
  ⟨Tryz.func123, by kernel_rfl⟩,
  ⟨Tryz.func125, by kernel_rfl⟩,
  ⟨Tryz.func36, by kernel_rfl⟩, trivial⟩
theorem dftOk : EntOk Tryz.prog (.pt 0 Tryz.f0 [] false [] [] [] []) := Tryz.func0
theorem allOk (e : Nat) : EntOk Tryz.prog (E e) := by
  unfold E
  split
  all_goals first
    | exact AllOk.getD dftOk _ ok0
    | exact AllOk.getD dftOk _ ok1
    | exact AllOk.getD dftOk _ ok2
    | exact AllOk.getD dftOk _ ok3
    | exact AllOk.getD dftOk _ ok4
    | exact AllOk.getD dftOk _ ok5
    | exact AllOk.getD dftOk _ ok6
    | exact AllOk.getD dftOk _ ok7
    | exact AllOk.getD dftOk _ ok8
    | exact AllOk.getD dftOk _ ok9
theorem mixed : Tryz.prog.follows .mixedOrders = true := by kernel_rfl
abbrev laws_FnPlainsMove.ins : List Slot := [⟨0, false, (.slc false (.int .u8))⟩, ⟨1, false, (.slc false (.int .u8))⟩]
theorem laws_FnPlainsMove.spec {k : Nat} {d : Dl laws_FnPlainsMove.ins} (h : laws_FnPlainsMove k d = some true) : FnSpec Tryz.prog 3 laws_FnPlainsMove.ins [] [⟨0, false, .bool⟩] d true := acall_sound mixed allOk k 0 d true h
end Go.Proofs.YtblgfbkifhfjpaaGreatDoorS
