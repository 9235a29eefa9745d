/- The entries keep what the soundness asks; each law's function (printed by wip/sim/gen.py). -/
import Derived.Test.YtkaiidmnigpicaaGreatDoorLib
import Derived.Test.YtkaiidmnigpicaaGreatDoorTab
namespace Go.Proofs.YtkaiidmnigpicaaGreatDoorS
open Go Go.Proofs
set_option maxRecDepth 100000
theorem ok0 : AllOk Tryz.prog ents0 := ⟨⟨Tryz.func3, by kernel_rfl⟩,
  ⟨Tryz.func4, by kernel_rfl⟩,
  ⟨Tryz.func5, by kernel_rfl⟩,
  ⟨Tryz.func39, by kernel_rfl⟩,
  ⟨Tryz.func71, by kernel_rfl⟩,
  ⟨Tryz.func78, by kernel_rfl⟩,
  ⟨Tryz.func94, by kernel_rfl⟩,
  ⟨Tryz.func79, by kernel_rfl⟩,
  ⟨Tryz.func72, by kernel_rfl⟩,
  ⟨Tryz.func93, by kernel_rfl⟩,
  Tryz.func94,
  ⟨Tryz.func92, by kernel_rfl⟩,
  Tryz.func78,
  ⟨Tryz.func52, by kernel_rfl⟩,
  ⟨Tryz.func74, by kernel_rfl⟩,
  ⟨Tryz.func65, by kernel_rfl⟩, trivial⟩
theorem ok1 : AllOk Tryz.prog ents1 := ⟨⟨Tryz.func6, by kernel_rfl⟩,
  ⟨Tryz.func14, by kernel_rfl⟩,
  ⟨Tryz.func36, by kernel_rfl⟩,
  ⟨Tryz.func66, by kernel_rfl⟩,
  strs_ok Tryz.func82 (by kernel_rfl) rfl strTrim strTrim_calls,
  ⟨Tryz.func56, by kernel_rfl⟩,
  ⟨Tryz.func57, by kernel_rfl⟩,
  Tryz.func57,
  ⟨Tryz.func58, by kernel_rfl⟩,
  ⟨Tryz.func70, by kernel_rfl⟩,
  ⟨Tryz.func41, by kernel_rfl⟩,
  Tryz.func41,
  ⟨Tryz.func40, by kernel_rfl⟩,
  ⟨Tryz.func7, by kernel_rfl⟩,
  ⟨Tryz.func42, by kernel_rfl⟩,
  ⟨Tryz.func76, by kernel_rfl⟩, trivial⟩
theorem ok2 : AllOk Tryz.prog ents2 := ⟨⟨Tryz.func68, by kernel_rfl⟩,
  Tryz.func76,
  Tryz.func42,
  ⟨Tryz.func43, by kernel_rfl⟩,
  ⟨Tryz.func77, by kernel_rfl⟩,
  Tryz.func77,
  Tryz.func43,
  Tryz.func43,
  ⟨Tryz.func51, by kernel_rfl⟩,
  ⟨Tryz.func73, by kernel_rfl⟩,
  ⟨Tryz.func69, by kernel_rfl⟩,
  ⟨Tryz.func8, by kernel_rfl⟩,
  ⟨Tryz.func41, by kernel_rfl⟩,
  Tryz.func41,
  ⟨Tryz.func44, by kernel_rfl⟩,
  strS_ok Tryz.func45 (by kernel_rfl) rfl (otherB 76 82) other45_calls, trivial⟩
theorem ok3 : AllOk Tryz.prog ents3 := ⟨⟨Tryz.func46, by kernel_rfl⟩,
  ⟨Tryz.func9, by kernel_rfl⟩,
  ⟨Tryz.func47, by kernel_rfl⟩,
  Tryz.func47,
  ⟨Tryz.func10, by kernel_rfl⟩,
  ⟨Tryz.func48, by kernel_rfl⟩,
  Tryz.func48,
  Tryz.func10,
  ⟨Tryz.func49, by kernel_rfl⟩,
  ⟨Tryz.func85, by kernel_rfl⟩,
  ⟨Tryz.func11, by kernel_rfl⟩,
  ⟨Tryz.func50, by kernel_rfl⟩,
  Tryz.func50,
  Tryz.func11,
  ⟨Tryz.func53, by kernel_rfl⟩,
  ⟨Tryz.func12, by kernel_rfl⟩, trivial⟩
theorem ok4 : AllOk Tryz.prog ents4 := ⟨⟨Tryz.func54, by kernel_rfl⟩,
  ⟨Tryz.func87, by kernel_rfl⟩,
  Tryz.func87,
  itoa_ok Tryz.func112 (by kernel_rfl) rfl itoaAll_calls,
  join_ok Tryz.func86 (by kernel_rfl) rfl (fun bk o c xs sep w h1 h2 h3 h4 h5 => Tryz.strings_Join bk o c xs sep w h1 h2 h3 h4 h5) (fun a c sep w => Tryz.strings_Join_none a c sep w),
  ⟨Tryz.func13, by kernel_rfl⟩,
  ⟨Tryz.func55, by kernel_rfl⟩,
  Tryz.func3,
  ⟨Tryz.func15, by kernel_rfl⟩,
  ⟨Tryz.func59, by kernel_rfl⟩,
  ⟨Tryz.func88, by kernel_rfl⟩,
  Tryz.func59,
  ⟨Tryz.func89, by kernel_rfl⟩,
  ⟨Tryz.func113, by kernel_rfl⟩,
  ⟨Tryz.func115, by kernel_rfl⟩,
  ⟨Tryz.func114, by kernel_rfl⟩, trivial⟩
theorem ok5 : AllOk Tryz.prog ents5 := ⟨⟨Tryz.func67, by kernel_rfl⟩,
  ⟨Tryz.func16, by kernel_rfl⟩,
  split_ok Tryz.func60 (by kernel_rfl) rfl strSplit1_calls,
  ⟨Tryz.func61, by kernel_rfl⟩,
  Tryz.func61,
  number_ok Tryz.func91 (by kernel_rfl) rfl number_calls,
  Tryz.func3,
  Tryz.func3,
  ⟨Tryz.func17, by kernel_rfl⟩,
  ⟨Tryz.func26, by kernel_rfl⟩,
  ⟨Tryz.func18, by kernel_rfl⟩,
  ⟨Tryz.func62, by kernel_rfl⟩,
  ⟨Tryz.func41, by kernel_rfl⟩,
  Tryz.func41,
  ⟨Tryz.func63, by kernel_rfl⟩,
  ⟨Tryz.func19, by kernel_rfl⟩, trivial⟩
theorem ok6 : AllOk Tryz.prog ents6 := ⟨⟨Tryz.func64, by kernel_rfl⟩,
  ⟨Tryz.func20, by kernel_rfl⟩,
  ⟨Tryz.func21, by kernel_rfl⟩,
  ⟨Tryz.func22, by kernel_rfl⟩,
  ⟨Tryz.func23, by kernel_rfl⟩,
  ⟨Tryz.func24, by kernel_rfl⟩,
  ⟨Tryz.func25, by kernel_rfl⟩,
  ⟨Tryz.func27, by kernel_rfl⟩,
  ⟨Tryz.func28, by kernel_rfl⟩,
  ⟨Tryz.func29, by kernel_rfl⟩,
  ⟨Tryz.func30, by kernel_rfl⟩,
  strN_ok Tryz.func75 (by kernel_rfl) rfl strRep strRep_calls,
  ⟨Tryz.func31, by kernel_rfl⟩,
  ⟨Tryz.func32, by kernel_rfl⟩,
  ⟨Tryz.func33, by kernel_rfl⟩,
  ⟨Tryz.func34, by kernel_rfl⟩, trivial⟩
theorem ok7 : AllOk Tryz.prog ents7 := ⟨⟨Tryz.func80, by kernel_rfl⟩,
  Tryz.func80,
  ⟨Tryz.func35, by kernel_rfl⟩,
  ⟨Tryz.func81, by kernel_rfl⟩,
  ⟨Tryz.func101, by kernel_rfl⟩,
  Tryz.func101,
  ⟨Tryz.func102, by kernel_rfl⟩,
  Tryz.func102,
  ⟨Tryz.func37, by kernel_rfl⟩,
  Tryz.func3,
  Tryz.func3,
  Tryz.func3,
  Tryz.func3,
  ⟨Tryz.func38, by kernel_rfl⟩,
  Tryz.func38,
  Tryz.func3, trivial⟩
theorem ok8 : AllOk Tryz.prog ents8 := ⟨Tryz.func3, trivial⟩
theorem dftOk : EntOk Tryz.prog (.pt 0 Tryz.f0 [] false [] [] [] []) := Tryz.func0
theorem allOk (e : Nat) : EntOk Tryz.prog (E e) := by
  unfold E
  split
  all_goals first
    | exact AllOk.getD dftOk _ ok0
    | exact AllOk.getD dftOk _ ok1
    | exact AllOk.getD dftOk _ ok2
    | exact AllOk.getD dftOk _ ok3
    | exact AllOk.getD dftOk _ ok4
    | exact AllOk.getD dftOk _ ok5
    | exact AllOk.getD dftOk _ ok6
    | exact AllOk.getD dftOk _ ok7
    | exact AllOk.getD dftOk _ ok8
theorem mixed : Tryz.prog.follows .mixedOrders = true := by kernel_rfl
abbrev laws_FnWorldsTurned.ins : List Slot := [⟨0, false, (.slc false (.int .u8))⟩, ⟨1, false, (.slc false (.int .u8))⟩]
theorem laws_FnWorldsTurned.spec {k : Nat} {d : Dl laws_FnWorldsTurned.ins} (h : laws_FnWorldsTurned k d = some true) : FnSpec Tryz.prog 3 laws_FnWorldsTurned.ins [] [⟨0, false, .bool⟩] d true := acall_sound mixed allOk k 0 d true h
end Go.Proofs.YtkaiidmnigpicaaGreatDoorS
