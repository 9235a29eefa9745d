/- The entries keep what the soundness asks; each law's function (printed by wip/sim/gen.py). -/
import Derived.Test.YtplamonjnlgomaaGreatDoorLib
import Derived.Test.YtplamonjnlgomaaGreatDoorTab
namespace Go.Proofs.YtplamonjnlgomaaGreatDoorS
open Go Go.Proofs
set_option maxRecDepth 100000
theorem ok0 : AllOk Tryz.prog ents0 := ⟨⟨Tryz.func3, by kernel_rfl⟩,
  ⟨Tryz.func7, by kernel_rfl⟩,
  ⟨Tryz.func8, by kernel_rfl⟩,
  ⟨Tryz.func117, by kernel_rfl⟩,
  ⟨Tryz.func225, by kernel_rfl⟩,
  ⟨Tryz.func162, by kernel_rfl⟩,
  ⟨Tryz.func187, by kernel_rfl⟩,
  ⟨Tryz.func275, by kernel_rfl⟩,
  Tryz.func225,
  ⟨Tryz.func227, by kernel_rfl⟩,
  Tryz.func117,
  ⟨Tryz.func226, by kernel_rfl⟩,
  ⟨Tryz.func290, by kernel_rfl⟩,
  Tryz.func290,
  ⟨Tryz.func241, by kernel_rfl⟩,
  ⟨Tryz.func197, by kernel_rfl⟩, trivial⟩
theorem ok1 : AllOk Tryz.prog ents1 := ⟨Tryz.func117,
  ⟨Tryz.func118, by kernel_rfl⟩,
  ⟨Tryz.func9, by kernel_rfl⟩,
  ⟨Tryz.func119, by kernel_rfl⟩,
  ⟨Tryz.func16, by kernel_rfl⟩,
  ⟨Tryz.func128, by kernel_rfl⟩,
  ⟨Tryz.func131, by kernel_rfl⟩,
  strs_ok Tryz.func237 (by kernel_rfl) rfl strTrim strTrim_calls,
  ⟨Tryz.func129, by kernel_rfl⟩,
  ⟨Tryz.func238, by kernel_rfl⟩,
  ⟨Tryz.func300, by kernel_rfl⟩,
  ⟨Tryz.func333, by kernel_rfl⟩,
  Tryz.func333,
  ⟨Tryz.func301, by kernel_rfl⟩,
  ⟨Tryz.func130, by kernel_rfl⟩,
  Tryz.func16, trivial⟩
theorem ok2 : AllOk Tryz.prog ents2 := ⟨⟨Tryz.func132, by kernel_rfl⟩,
  ⟨Tryz.func120, by kernel_rfl⟩,
  Tryz.func120,
  ⟨Tryz.func121, by kernel_rfl⟩,
  Tryz.func121,
  ⟨Tryz.func228, by kernel_rfl⟩,
  ⟨Tryz.func232, by kernel_rfl⟩,
  ⟨Tryz.func233, by kernel_rfl⟩,
  ⟨Tryz.func231, by kernel_rfl⟩,
  ⟨Tryz.func234, by kernel_rfl⟩,
  plain_ok,
  ⟨Tryz.func10, by kernel_rfl⟩,
  ⟨Tryz.func123, by kernel_rfl⟩,
  ⟨Tryz.func133, by kernel_rfl⟩,
  ⟨Tryz.func239, by kernel_rfl⟩,
  ⟨Tryz.func138, by kernel_rfl⟩, trivial⟩
theorem ok3 : AllOk Tryz.prog ents3 := ⟨Tryz.func239,
  ⟨Tryz.func240, by kernel_rfl⟩,
  Tryz.func133,
  ⟨Tryz.func125, by kernel_rfl⟩,
  ⟨Tryz.func124, by kernel_rfl⟩,
  Tryz.func124,
  ⟨Tryz.func230, by kernel_rfl⟩,
  ⟨Tryz.func136, by kernel_rfl⟩,
  ⟨Tryz.func236, by kernel_rfl⟩,
  ⟨Tryz.func235, by kernel_rfl⟩,
  ⟨Tryz.func11, by kernel_rfl⟩,
  Tryz.func11,
  ⟨Tryz.func126, by kernel_rfl⟩,
  ⟨Tryz.func12, by kernel_rfl⟩,
  Tryz.func12,
  ⟨Tryz.func127, by kernel_rfl⟩, trivial⟩
theorem ok4 : AllOk Tryz.prog ents4 := ⟨⟨Tryz.func235, by kernel_rfl⟩,
  ⟨Tryz.func190, by kernel_rfl⟩,
  ⟨Tryz.func13, by kernel_rfl⟩,
  ⟨Tryz.func14, by kernel_rfl⟩,
  ⟨Tryz.func15, by kernel_rfl⟩,
  Tryz.func15,
  ⟨Tryz.func17, by kernel_rfl⟩,
  ⟨Tryz.func18, by kernel_rfl⟩,
  ⟨Tryz.func134, by kernel_rfl⟩,
  ⟨Tryz.func19, by kernel_rfl⟩,
  ⟨Tryz.func20, by kernel_rfl⟩,
  ⟨Tryz.func21, by kernel_rfl⟩,
  ⟨Tryz.func135, by kernel_rfl⟩,
  ⟨Tryz.func22, by kernel_rfl⟩,
  ⟨Tryz.func23, by kernel_rfl⟩,
  ⟨Tryz.func137, by kernel_rfl⟩, trivial⟩
theorem ok5 : AllOk Tryz.prog ents5 := ⟨⟨Tryz.func24, by kernel_rfl⟩,
  ⟨Tryz.func25, by kernel_rfl⟩,
  Tryz.func25,
  ⟨Tryz.func26, by kernel_rfl⟩,
  Tryz.func26, trivial⟩
theorem dftOk : EntOk Tryz.prog (.pt 0 Tryz.f0 [] false [] [] [] []) := Tryz.func0
theorem allOk (e : Nat) : EntOk Tryz.prog (E e) := by
  unfold E
  split
  all_goals first
    | exact AllOk.getD dftOk _ ok0
    | exact AllOk.getD dftOk _ ok1
    | exact AllOk.getD dftOk _ ok2
    | exact AllOk.getD dftOk _ ok3
    | exact AllOk.getD dftOk _ ok4
    | exact AllOk.getD dftOk _ ok5
theorem mixed : Tryz.prog.follows .mixedOrders = true := by kernel_rfl
abbrev laws_FnPlainsGo.ins : List Slot := [⟨0, false, (.slc false (.int .u8))⟩, ⟨1, false, (.slc false (.int .u8))⟩]
theorem laws_FnPlainsGo.spec {k : Nat} {d : Dl laws_FnPlainsGo.ins} (h : laws_FnPlainsGo k d = some true) : FnSpec Tryz.prog 3 laws_FnPlainsGo.ins [] [⟨0, false, .bool⟩] d true := acall_sound mixed allOk k 0 d true h
end Go.Proofs.YtplamonjnlgomaaGreatDoorS
