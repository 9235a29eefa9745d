/- The entries keep what the soundness asks; each law's function (printed by wip/sim/gen.py). -/
import Derived.Test.YtcmebphcoamohaaGreatDoorLib
import Derived.Test.YtcmebphcoamohaaGreatDoorTab
namespace Go.Proofs.YtcmebphcoamohaaGreatDoorS
open Go Go.Proofs
set_option maxRecDepth 100000
theorem ok0 : AllOk Tryz.prog ents0 := ⟨⟨Tryz.func3, by kernel_rfl⟩,
  ⟨Tryz.func5, by kernel_rfl⟩,
  ⟨Tryz.func6, by kernel_rfl⟩,
  ⟨Tryz.func71, by kernel_rfl⟩,
  ⟨Tryz.func91, by kernel_rfl⟩,
  ⟨Tryz.func107, by kernel_rfl⟩,
  ⟨Tryz.func140, by kernel_rfl⟩,
  ⟨Tryz.func193, by kernel_rfl⟩,
  ⟨Tryz.func92, by kernel_rfl⟩,
  Tryz.func107,
  ⟨Tryz.func175, by kernel_rfl⟩,
  ⟨Tryz.func104, by kernel_rfl⟩,
  ⟨Tryz.func108, by kernel_rfl⟩,
  Tryz.func108,
  ⟨Tryz.func7, by kernel_rfl⟩,
  ⟨Tryz.func15, by kernel_rfl⟩, trivial⟩
theorem ok1 : AllOk Tryz.prog ents1 := ⟨⟨Tryz.func83, by kernel_rfl⟩,
  ⟨Tryz.func105, by kernel_rfl⟩,
  strs_ok Tryz.func84 (by kernel_rfl) rfl strTrim strTrim_calls,
  ⟨Tryz.func72, by kernel_rfl⟩,
  Tryz.func72,
  ⟨Tryz.func73, by kernel_rfl⟩,
  strS_ok Tryz.func74 (by kernel_rfl) rfl (otherB 90 83) other74_calls,
  ⟨Tryz.func8, by kernel_rfl⟩,
  ⟨Tryz.func75, by kernel_rfl⟩,
  ⟨Tryz.func106, by kernel_rfl⟩,
  Tryz.func75,
  Tryz.func8,
  Tryz.func8,
  ⟨Tryz.func76, by kernel_rfl⟩,
  ⟨Tryz.func9, by kernel_rfl⟩,
  ⟨Tryz.func72, by kernel_rfl⟩, trivial⟩
theorem ok2 : AllOk Tryz.prog ents2 := ⟨Tryz.func72,
  ⟨Tryz.func77, by kernel_rfl⟩,
  ⟨Tryz.func10, by kernel_rfl⟩,
  Tryz.func10,
  Tryz.func10,
  ⟨Tryz.func11, by kernel_rfl⟩,
  strsI_ok Tryz.func78 (by kernel_rfl) rfl strCount1 strCount1_calls,
  ⟨Tryz.func12, by kernel_rfl⟩,
  Tryz.func12,
  ⟨Tryz.func13, by kernel_rfl⟩,
  ⟨Tryz.func79, by kernel_rfl⟩,
  Tryz.func79,
  itoa_ok Tryz.func153 (by kernel_rfl) rfl itoaAll_calls,
  join_ok Tryz.func154 (by kernel_rfl) rfl (fun bk o c xs sep w h1 h2 h3 h4 h5 => Tryz.strings_Join bk o c xs sep w h1 h2 h3 h4 h5) (fun a c sep w => Tryz.strings_Join_none a c sep w),
  ⟨Tryz.func81, by kernel_rfl⟩,
  strN_ok Tryz.func80 (by kernel_rfl) rfl strRep strRep_calls, trivial⟩
theorem ok3 : AllOk Tryz.prog ents3 := ⟨⟨Tryz.func14, by kernel_rfl⟩,
  ⟨Tryz.func82, by kernel_rfl⟩,
  ⟨Tryz.func161, by kernel_rfl⟩,
  Tryz.func3,
  ⟨Tryz.func16, by kernel_rfl⟩,
  ⟨Tryz.func85, by kernel_rfl⟩,
  Tryz.func16,
  ⟨Tryz.func87, by kernel_rfl⟩,
  ⟨Tryz.func86, by kernel_rfl⟩,
  Tryz.func86,
  ⟨Tryz.func169, by kernel_rfl⟩,
  ⟨Tryz.func170, by kernel_rfl⟩,
  Tryz.func86,
  ⟨Tryz.func17, by kernel_rfl⟩,
  cut_ok Tryz.func88 (by kernel_rfl) rfl strCut_calls,
  ⟨Tryz.func89, by kernel_rfl⟩, trivial⟩
theorem ok4 : AllOk Tryz.prog ents4 := ⟨⟨Tryz.func172, by kernel_rfl⟩,
  ⟨Tryz.func208, by kernel_rfl⟩,
  ⟨Tryz.func90, by kernel_rfl⟩,
  split_ok Tryz.func173 (by kernel_rfl) rfl strSplit1_calls,
  Tryz.func90,
  number_ok Tryz.func174 (by kernel_rfl) rfl number_calls,
  ⟨Tryz.func18, by kernel_rfl⟩,
  Tryz.func18,
  Tryz.func3,
  Tryz.func3,
  ⟨Tryz.func19, by kernel_rfl⟩,
  ⟨Tryz.func20, by kernel_rfl⟩,
  Tryz.func20,
  ⟨Tryz.func93, by kernel_rfl⟩,
  Tryz.func93,
  Tryz.func20, trivial⟩
theorem ok5 : AllOk Tryz.prog ents5 := ⟨Tryz.func20,
  ⟨Tryz.func21, by kernel_rfl⟩,
  Tryz.func21,
  ⟨Tryz.func94, by kernel_rfl⟩,
  ⟨Tryz.func95, by kernel_rfl⟩,
  Tryz.func21,
  ⟨Tryz.func96, by kernel_rfl⟩,
  ⟨Tryz.func98, by kernel_rfl⟩,
  ⟨Tryz.func97, by kernel_rfl⟩,
  Tryz.func21,
  Tryz.func21,
  ⟨Tryz.func22, by kernel_rfl⟩,
  Tryz.func22,
  ⟨Tryz.func23, by kernel_rfl⟩,
  Tryz.func23,
  ⟨Tryz.func99, by kernel_rfl⟩, trivial⟩
theorem ok6 : AllOk Tryz.prog ents6 := ⟨Tryz.func99,
  ⟨Tryz.func176, by kernel_rfl⟩,
  ⟨Tryz.func177, by kernel_rfl⟩,
  ⟨Tryz.func100, by kernel_rfl⟩,
  ⟨Tryz.func24, by kernel_rfl⟩,
  ⟨Tryz.func101, by kernel_rfl⟩,
  ⟨Tryz.func25, by kernel_rfl⟩,
  ⟨Tryz.func102, by kernel_rfl⟩,
  Tryz.func25,
  ⟨Tryz.func26, by kernel_rfl⟩,
  ⟨Tryz.func103, by kernel_rfl⟩,
  Tryz.func26,
  ⟨Tryz.func27, by kernel_rfl⟩,
  ⟨Tryz.func28, by kernel_rfl⟩,
  Tryz.func28,
  ⟨Tryz.func29, by kernel_rfl⟩, trivial⟩
theorem ok7 : AllOk Tryz.prog ents7 := ⟨Tryz.func29,
  ⟨Tryz.func30, by kernel_rfl⟩,
  ⟨Tryz.func31, by kernel_rfl⟩,
  ⟨Tryz.func109, by kernel_rfl⟩,
  ⟨Tryz.func178, by kernel_rfl⟩,
  Tryz.func178,
  ⟨Tryz.func179, by kernel_rfl⟩,
  Tryz.func179,
  ⟨Tryz.func32, by kernel_rfl⟩,
  Tryz.func32,
  Tryz.func3,
  Tryz.func3,
  Tryz.func3,
  ⟨Tryz.func33, by kernel_rfl⟩,
  ⟨Tryz.func34, by kernel_rfl⟩,
  ⟨Tryz.func110, by kernel_rfl⟩, trivial⟩
theorem ok8 : AllOk Tryz.prog ents8 := ⟨⟨Tryz.func180, by kernel_rfl⟩,
  ⟨Tryz.func147, by kernel_rfl⟩,
  ⟨Tryz.func194, by kernel_rfl⟩,
  Tryz.func3,
  ⟨Tryz.func35, by kernel_rfl⟩,
  Tryz.func3, trivial⟩
theorem dftOk : EntOk Tryz.prog (.pt 0 Tryz.f0 [] false [] [] [] []) := Tryz.func0
theorem allOk (e : Nat) : EntOk Tryz.prog (E e) := by
  unfold E
  split
  all_goals first
    | exact AllOk.getD dftOk _ ok0
    | exact AllOk.getD dftOk _ ok1
    | exact AllOk.getD dftOk _ ok2
    | exact AllOk.getD dftOk _ ok3
    | exact AllOk.getD dftOk _ ok4
    | exact AllOk.getD dftOk _ ok5
    | exact AllOk.getD dftOk _ ok6
    | exact AllOk.getD dftOk _ ok7
    | exact AllOk.getD dftOk _ ok8
theorem mixed : Tryz.prog.follows .mixedOrders = true := by kernel_rfl
abbrev laws_FnMazesTurn.ins : List Slot := [⟨0, false, (.slc false (.int .u8))⟩, ⟨1, false, (.slc false (.int .u8))⟩]
theorem laws_FnMazesTurn.spec {k : Nat} {d : Dl laws_FnMazesTurn.ins} (h : laws_FnMazesTurn k d = some true) : FnSpec Tryz.prog 3 laws_FnMazesTurn.ins [] [⟨0, false, .bool⟩] d true := acall_sound mixed allOk k 0 d true h
end Go.Proofs.YtcmebphcoamohaaGreatDoorS
