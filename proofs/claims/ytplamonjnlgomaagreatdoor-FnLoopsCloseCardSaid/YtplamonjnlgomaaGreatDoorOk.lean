/- The entries keep what the soundness asks; each law's function (printed by wip/sim/gen.py). -/
import Derived.Test.YtplamonjnlgomaaGreatDoorLib
import Derived.Test.YtplamonjnlgomaaGreatDoorTab
namespace Go.Proofs.YtplamonjnlgomaaGreatDoorS
open Go Go.Proofs
set_option maxRecDepth 100000
theorem ok0 : AllOk Tryz.prog ents0 := ⟨⟨Tryz.func6, by kernel_rfl⟩,
  ⟨Tryz.func7, by kernel_rfl⟩,
  ⟨Tryz.func87, by kernel_rfl⟩,
  ⟨Tryz.func202, by kernel_rfl⟩,
  ⟨Tryz.func162, by kernel_rfl⟩,
  ⟨Tryz.func187, by kernel_rfl⟩,
  ⟨Tryz.func275, by kernel_rfl⟩,
  ⟨Tryz.func223, by kernel_rfl⟩,
  ⟨Tryz.func283, by kernel_rfl⟩,
  ⟨Tryz.func225, by kernel_rfl⟩,
  Tryz.func225,
  ⟨Tryz.func227, by kernel_rfl⟩,
  Tryz.func283,
  ⟨Tryz.func253, by kernel_rfl⟩,
  ⟨Tryz.func289, by kernel_rfl⟩,
  ⟨Tryz.func197, by kernel_rfl⟩, trivial⟩
theorem ok1 : AllOk Tryz.prog ents1 := ⟨⟨Tryz.func88, by kernel_rfl⟩,
  ⟨Tryz.func203, by kernel_rfl⟩,
  ⟨Tryz.func211, by kernel_rfl⟩,
  ⟨Tryz.func128, by kernel_rfl⟩,
  ⟨Tryz.func131, by kernel_rfl⟩,
  strs_ok Tryz.func237 (by kernel_rfl) rfl strTrim strTrim_calls,
  ⟨Tryz.func255, by kernel_rfl⟩,
  ⟨Tryz.func183, by kernel_rfl⟩,
  Tryz.func183,
  ⟨Tryz.func184, by kernel_rfl⟩,
  ⟨Tryz.func130, by kernel_rfl⟩,
  Tryz.func203,
  ⟨Tryz.func204, by kernel_rfl⟩,
  ⟨Tryz.func212, by kernel_rfl⟩,
  ⟨Tryz.func287, by kernel_rfl⟩,
  ⟨Tryz.func208, by kernel_rfl⟩, trivial⟩
theorem ok2 : AllOk Tryz.prog ents2 := ⟨⟨Tryz.func232, by kernel_rfl⟩,
  ⟨Tryz.func279, by kernel_rfl⟩,
  ⟨Tryz.func264, by kernel_rfl⟩,
  ⟨Tryz.func231, by kernel_rfl⟩,
  ⟨Tryz.func89, by kernel_rfl⟩,
  ⟨Tryz.func205, by kernel_rfl⟩,
  ⟨Tryz.func239, by kernel_rfl⟩,
  ⟨Tryz.func138, by kernel_rfl⟩,
  Tryz.func239,
  Tryz.func205,
  ⟨Tryz.func206, by kernel_rfl⟩,
  Tryz.func206,
  ⟨Tryz.func209, by kernel_rfl⟩,
  ⟨Tryz.func284, by kernel_rfl⟩,
  ⟨Tryz.func236, by kernel_rfl⟩,
  ⟨Tryz.func285, by kernel_rfl⟩, trivial⟩
theorem ok3 : AllOk Tryz.prog ents3 := ⟨⟨Tryz.func286, by kernel_rfl⟩,
  ⟨Tryz.func190, by kernel_rfl⟩,
  ⟨Tryz.func90, by kernel_rfl⟩,
  ⟨Tryz.func203, by kernel_rfl⟩,
  Tryz.func203,
  ⟨Tryz.func207, by kernel_rfl⟩,
  ⟨Tryz.func91, by kernel_rfl⟩,
  Tryz.func91,
  ⟨Tryz.func92, by kernel_rfl⟩,
  ⟨Tryz.func203, by kernel_rfl⟩,
  Tryz.func203,
  ⟨Tryz.func210, by kernel_rfl⟩,
  ⟨Tryz.func93, by kernel_rfl⟩,
  Tryz.func93,
  ⟨Tryz.func94, by kernel_rfl⟩,
  Tryz.func94, trivial⟩
theorem ok4 : AllOk Tryz.prog ents4 := ⟨⟨Tryz.func95, by kernel_rfl⟩,
  Tryz.func95,
  ⟨Tryz.func96, by kernel_rfl⟩,
  ⟨Tryz.func213, by kernel_rfl⟩,
  ⟨Tryz.func217, by kernel_rfl⟩,
  ⟨Tryz.func224, by kernel_rfl⟩,
  Tryz.func224,
  Tryz.func217,
  Tryz.func213,
  ⟨Tryz.func97, by kernel_rfl⟩,
  ⟨Tryz.func214, by kernel_rfl⟩,
  Tryz.func214,
  Tryz.func97,
  ⟨Tryz.func98, by kernel_rfl⟩,
  Tryz.func98,
  Tryz.func6, trivial⟩
theorem ok5 : AllOk Tryz.prog ents5 := ⟨Tryz.func6,
  ⟨Tryz.func99, by kernel_rfl⟩,
  ⟨Tryz.func215, by kernel_rfl⟩,
  Tryz.func215,
  Tryz.func99,
  Tryz.func6,
  ⟨Tryz.func100, by kernel_rfl⟩,
  ⟨Tryz.func216, by kernel_rfl⟩,
  Tryz.func100,
  ⟨Tryz.func101, by kernel_rfl⟩,
  ⟨Tryz.func102, by kernel_rfl⟩,
  ⟨Tryz.func103, by kernel_rfl⟩,
  Tryz.func103,
  Tryz.func6,
  ⟨Tryz.func104, by kernel_rfl⟩,
  Tryz.func104, trivial⟩
theorem ok6 : AllOk Tryz.prog ents6 := ⟨Tryz.func6,
  ⟨Tryz.func105, by kernel_rfl⟩,
  ⟨Tryz.func203, by kernel_rfl⟩,
  Tryz.func203,
  ⟨Tryz.func218, by kernel_rfl⟩,
  ⟨Tryz.func106, by kernel_rfl⟩,
  Tryz.func6,
  ⟨Tryz.func107, by kernel_rfl⟩,
  ⟨Tryz.func219, by kernel_rfl⟩,
  ⟨Tryz.func288, by kernel_rfl⟩,
  ⟨Tryz.func108, by kernel_rfl⟩,
  ⟨Tryz.func220, by kernel_rfl⟩,
  ⟨Tryz.func109, by kernel_rfl⟩,
  Tryz.func109,
  ⟨Tryz.func110, by kernel_rfl⟩,
  ⟨Tryz.func222, by kernel_rfl⟩, trivial⟩
theorem ok7 : AllOk Tryz.prog ents7 := ⟨Tryz.func222,
  ⟨Tryz.func221, by kernel_rfl⟩,
  Tryz.func221,
  ⟨Tryz.func111, by kernel_rfl⟩,
  Tryz.func111,
  ⟨Tryz.func112, by kernel_rfl⟩,
  ⟨Tryz.func113, by kernel_rfl⟩,
  ⟨Tryz.func114, by kernel_rfl⟩,
  Tryz.func114,
  ⟨Tryz.func115, by kernel_rfl⟩,
  Tryz.func115,
  ⟨Tryz.func116, by kernel_rfl⟩,
  Tryz.func116,
  Tryz.func6,
  Tryz.func6,
  Tryz.func6, trivial⟩
theorem ok8 : AllOk Tryz.prog ents8 := ⟨Tryz.func6,
  Tryz.func6,
  Tryz.func6, trivial⟩
theorem dftOk : EntOk Tryz.prog (.pt 0 Tryz.f0 [] false [] [] [] []) := Tryz.func0
theorem allOk (e : Nat) : EntOk Tryz.prog (E e) := by
  unfold E
  split
  all_goals first
    | exact AllOk.getD dftOk _ ok0
    | exact AllOk.getD dftOk _ ok1
    | exact AllOk.getD dftOk _ ok2
    | exact AllOk.getD dftOk _ ok3
    | exact AllOk.getD dftOk _ ok4
    | exact AllOk.getD dftOk _ ok5
    | exact AllOk.getD dftOk _ ok6
    | exact AllOk.getD dftOk _ ok7
    | exact AllOk.getD dftOk _ ok8
theorem mixed : Tryz.prog.follows .mixedOrders = true := by kernel_rfl
abbrev laws_FnLoopsClose.ins : List Slot := [⟨0, false, (.slc false (.int .u8))⟩, ⟨1, false, (.slc false (.int .u8))⟩]
theorem laws_FnLoopsClose.spec {k : Nat} {d : Dl laws_FnLoopsClose.ins} (h : laws_FnLoopsClose k d = some true) : FnSpec Tryz.prog 6 laws_FnLoopsClose.ins [] [⟨0, false, .bool⟩] d true := acall_sound mixed allOk k 0 d true h
end Go.Proofs.YtplamonjnlgomaaGreatDoorS
