/- The entries keep what the soundness asks; each law's function (printed by wip/sim/gen.py). -/
import Derived.Test.YtplamonjnlgomaaGreatDoorLib
import Derived.Test.YtplamonjnlgomaaGreatDoorTab
namespace Go.Proofs.YtplamonjnlgomaaGreatDoorS
open Go Go.Proofs
set_option maxRecDepth 100000
theorem ok0 : AllOk Tryz.prog ents0 := ⟨⟨Tryz.func5, by kernel_rfl⟩,
  ⟨Tryz.func7, by kernel_rfl⟩,
  ⟨Tryz.func58, by kernel_rfl⟩,
  ⟨Tryz.func165, by kernel_rfl⟩,
  ⟨Tryz.func186, by kernel_rfl⟩,
  ⟨Tryz.func200, by kernel_rfl⟩,
  ⟨Tryz.func187, by kernel_rfl⟩,
  ⟨Tryz.func275, by kernel_rfl⟩,
  ⟨Tryz.func199, by kernel_rfl⟩,
  Tryz.func199,
  ⟨Tryz.func162, by kernel_rfl⟩,
  ⟨Tryz.func276, by kernel_rfl⟩,
  ⟨Tryz.func175, by kernel_rfl⟩,
  ⟨Tryz.func227, by kernel_rfl⟩,
  Tryz.func200,
  ⟨Tryz.func193, by kernel_rfl⟩, trivial⟩
theorem ok1 : AllOk Tryz.prog ents1 := ⟨Tryz.func193,
  ⟨Tryz.func236, by kernel_rfl⟩,
  ⟨Tryz.func171, by kernel_rfl⟩,
  ⟨Tryz.func266, by kernel_rfl⟩,
  ⟨Tryz.func190, by kernel_rfl⟩,
  ⟨Tryz.func196, by kernel_rfl⟩,
  ⟨Tryz.func172, by kernel_rfl⟩,
  ⟨Tryz.func163, by kernel_rfl⟩,
  Tryz.func163,
  ⟨Tryz.func167, by kernel_rfl⟩,
  ⟨Tryz.func138, by kernel_rfl⟩,
  Tryz.func167,
  ⟨Tryz.func197, by kernel_rfl⟩,
  ⟨Tryz.func59, by kernel_rfl⟩,
  ⟨Tryz.func69, by kernel_rfl⟩,
  ⟨Tryz.func182, by kernel_rfl⟩, trivial⟩
theorem ok2 : AllOk Tryz.prog ents2 := ⟨⟨Tryz.func131, by kernel_rfl⟩,
  ⟨Tryz.func183, by kernel_rfl⟩,
  Tryz.func183,
  ⟨Tryz.func184, by kernel_rfl⟩,
  ⟨Tryz.func130, by kernel_rfl⟩,
  Tryz.func59,
  ⟨Tryz.func166, by kernel_rfl⟩,
  Tryz.func166,
  ⟨Tryz.func170, by kernel_rfl⟩,
  ⟨Tryz.func265, by kernel_rfl⟩,
  ⟨Tryz.func169, by kernel_rfl⟩,
  ⟨Tryz.func264, by kernel_rfl⟩,
  ⟨Tryz.func231, by kernel_rfl⟩,
  ⟨Tryz.func208, by kernel_rfl⟩,
  ⟨Tryz.func263, by kernel_rfl⟩,
  ⟨Tryz.func60, by kernel_rfl⟩, trivial⟩
theorem ok3 : AllOk Tryz.prog ents3 := ⟨Tryz.func60,
  ⟨Tryz.func168, by kernel_rfl⟩,
  Tryz.func168,
  ⟨Tryz.func61, by kernel_rfl⟩,
  Tryz.func61,
  Tryz.func61,
  Tryz.func61,
  ⟨Tryz.func62, by kernel_rfl⟩,
  Tryz.func62,
  Tryz.func62,
  Tryz.func62,
  ⟨Tryz.func63, by kernel_rfl⟩,
  ⟨Tryz.func173, by kernel_rfl⟩,
  Tryz.func63,
  ⟨Tryz.func174, by kernel_rfl⟩,
  ⟨Tryz.func194, by kernel_rfl⟩, trivial⟩
theorem ok4 : AllOk Tryz.prog ents4 := ⟨⟨Tryz.func278, by kernel_rfl⟩,
  Tryz.func174,
  ⟨Tryz.func267, by kernel_rfl⟩,
  Tryz.func267,
  ⟨Tryz.func232, by kernel_rfl⟩,
  ⟨Tryz.func195, by kernel_rfl⟩,
  ⟨Tryz.func279, by kernel_rfl⟩,
  ⟨Tryz.func64, by kernel_rfl⟩,
  Tryz.func64,
  ⟨Tryz.func176, by kernel_rfl⟩,
  Tryz.func176,
  ⟨Tryz.func65, by kernel_rfl⟩,
  strsI_ok Tryz.func177 (by kernel_rfl) rfl strCount1 strCount1_calls,
  ⟨Tryz.func66, by kernel_rfl⟩,
  ⟨Tryz.func178, by kernel_rfl⟩,
  Tryz.func178, trivial⟩
theorem ok5 : AllOk Tryz.prog ents5 := ⟨⟨Tryz.func67, by kernel_rfl⟩,
  ⟨Tryz.func180, by kernel_rfl⟩,
  Tryz.func180,
  itoa_ok Tryz.func252 (by kernel_rfl) rfl itoaAll_calls,
  join_ok Tryz.func179 (by kernel_rfl) rfl (fun bk o c xs sep w h1 h2 h3 h4 h5 => Tryz.strings_Join bk o c xs sep w h1 h2 h3 h4 h5) (fun a c sep w => Tryz.strings_Join_none a c sep w),
  ⟨Tryz.func68, by kernel_rfl⟩,
  ⟨Tryz.func181, by kernel_rfl⟩,
  ⟨Tryz.func253, by kernel_rfl⟩,
  ⟨Tryz.func47, by kernel_rfl⟩,
  Tryz.func47,
  ⟨Tryz.func46, by kernel_rfl⟩,
  Tryz.func46,
  Tryz.func5,
  Tryz.func5,
  ⟨Tryz.func70, by kernel_rfl⟩,
  ⟨Tryz.func53, by kernel_rfl⟩, trivial⟩
theorem ok6 : AllOk Tryz.prog ents6 := ⟨Tryz.func53,
  ⟨Tryz.func71, by kernel_rfl⟩,
  split_ok Tryz.func157 (by kernel_rfl) rfl strSplit1_calls,
  ⟨Tryz.func158, by kernel_rfl⟩,
  Tryz.func158,
  number_ok Tryz.func258 (by kernel_rfl) rfl number_calls,
  Tryz.func5,
  ⟨Tryz.func72, by kernel_rfl⟩,
  ⟨Tryz.func185, by kernel_rfl⟩,
  ⟨Tryz.func274, by kernel_rfl⟩,
  ⟨Tryz.func315, by kernel_rfl⟩,
  ⟨Tryz.func344, by kernel_rfl⟩,
  ⟨Tryz.func364, by kernel_rfl⟩,
  Tryz.func364,
  ⟨Tryz.func73, by kernel_rfl⟩,
  Tryz.func73, trivial⟩
theorem ok7 : AllOk Tryz.prog ents7 := ⟨Tryz.func5,
  ⟨Tryz.func74, by kernel_rfl⟩,
  ⟨Tryz.func75, by kernel_rfl⟩,
  ⟨Tryz.func189, by kernel_rfl⟩,
  Tryz.func189,
  ⟨Tryz.func188, by kernel_rfl⟩,
  ⟨Tryz.func76, by kernel_rfl⟩,
  Tryz.func76,
  ⟨Tryz.func77, by kernel_rfl⟩,
  ⟨Tryz.func191, by kernel_rfl⟩,
  ⟨Tryz.func192, by kernel_rfl⟩,
  ⟨Tryz.func277, by kernel_rfl⟩,
  Tryz.func277,
  ⟨Tryz.func78, by kernel_rfl⟩,
  ⟨Tryz.func79, by kernel_rfl⟩,
  ⟨Tryz.func80, by kernel_rfl⟩, trivial⟩
theorem ok8 : AllOk Tryz.prog ents8 := ⟨⟨Tryz.func81, by kernel_rfl⟩,
  strN_ok Tryz.func198 (by kernel_rfl) rfl strRep strRep_calls,
  ⟨Tryz.func82, by kernel_rfl⟩,
  ⟨Tryz.func83, by kernel_rfl⟩,
  ⟨Tryz.func84, by kernel_rfl⟩,
  ⟨Tryz.func85, by kernel_rfl⟩,
  ⟨Tryz.func86, by kernel_rfl⟩,
  ⟨Tryz.func201, by kernel_rfl⟩,
  ⟨Tryz.func261, by kernel_rfl⟩,
  Tryz.func261,
  ⟨Tryz.func262, by kernel_rfl⟩,
  Tryz.func262,
  Tryz.func5,
  Tryz.func5,
  Tryz.func5,
  Tryz.func5, trivial⟩
theorem ok9 : AllOk Tryz.prog ents9 := ⟨Tryz.func5, trivial⟩
theorem dftOk : EntOk Tryz.prog (.pt 0 Tryz.f0 [] false [] [] [] []) := Tryz.func0
theorem allOk (e : Nat) : EntOk Tryz.prog (E e) := by
  unfold E
  split
  all_goals first
    | exact AllOk.getD dftOk _ ok0
    | exact AllOk.getD dftOk _ ok1
    | exact AllOk.getD dftOk _ ok2
    | exact AllOk.getD dftOk _ ok3
    | exact AllOk.getD dftOk _ ok4
    | exact AllOk.getD dftOk _ ok5
    | exact AllOk.getD dftOk _ ok6
    | exact AllOk.getD dftOk _ ok7
    | exact AllOk.getD dftOk _ ok8
    | exact AllOk.getD dftOk _ ok9
theorem mixed : Tryz.prog.follows .mixedOrders = true := by kernel_rfl
abbrev laws_FnWormsLeave.ins : List Slot := [⟨0, false, (.slc false (.int .u8))⟩, ⟨1, false, (.slc false (.int .u8))⟩]
theorem laws_FnWormsLeave.spec {k : Nat} {d : Dl laws_FnWormsLeave.ins} (h : laws_FnWormsLeave k d = some true) : FnSpec Tryz.prog 5 laws_FnWormsLeave.ins [] [⟨0, false, .bool⟩] d true := acall_sound mixed allOk k 0 d true h
end Go.Proofs.YtplamonjnlgomaaGreatDoorS
