/- The entries keep what the soundness asks; each law's function (printed by wip/sim/gen.py). -/
import Derived.Test.YtiaagflfiphioaaDoorLib
import Derived.Test.YtiaagflfiphioaaDoorTab
namespace Go.Proofs.YtiaagflfiphioaaDoorS
open Go Go.Proofs
set_option maxRecDepth 100000
theorem ok0 : AllOk Tryd.prog ents0 := ⟨⟨Tryd.func5, by kernel_rfl⟩,
  ⟨Tryd.func6, by kernel_rfl⟩,
  ⟨Tryd.func32, by kernel_rfl⟩,
  ⟨Tryd.func55, by kernel_rfl⟩,
  ⟨Tryd.func98, by kernel_rfl⟩,
  ⟨Tryd.func56, by kernel_rfl⟩,
  ⟨Tryd.func99, by kernel_rfl⟩,
  ⟨Tryd.func47, by kernel_rfl⟩,
  ⟨Tryd.func87, by kernel_rfl⟩,
  Tryd.func47,
  ⟨Tryd.func49, by kernel_rfl⟩,
  Tryd.func49,
  Tryd.func98,
  Tryd.func98,
  ⟨Tryd.func84, by kernel_rfl⟩,
  Tryd.func32, trivial⟩
theorem ok1 : AllOk Tryd.prog ents1 := ⟨⟨Tryd.func83, by kernel_rfl⟩,
  ⟨Tryd.func33, by kernel_rfl⟩,
  ⟨Tryd.func71, by kernel_rfl⟩,
  ⟨Tryd.func19, by kernel_rfl⟩,
  ⟨Tryd.func66, by kernel_rfl⟩,
  ⟨Tryd.func67, by kernel_rfl⟩,
  Tryd.func19,
  ⟨Tryd.func68, by kernel_rfl⟩,
  ⟨Tryd.func102, by kernel_rfl⟩,
  ⟨Tryd.func129, by kernel_rfl⟩,
  Tryd.func129,
  ⟨Tryd.func103, by kernel_rfl⟩,
  ⟨Tryd.func85, by kernel_rfl⟩,
  Tryd.func85,
  ⟨Tryd.func91, by kernel_rfl⟩,
  ⟨Tryd.func86, by kernel_rfl⟩, trivial⟩
theorem ok2 : AllOk Tryd.prog ents2 := ⟨Tryd.func86,
  ⟨Tryd.func59, by kernel_rfl⟩,
  clone100_ok,
  Tryd.func59,
  Tryd.func33,
  Tryd.func33,
  ⟨Tryd.func60, by kernel_rfl⟩,
  ⟨Tryd.func92, by kernel_rfl⟩,
  ⟨Tryd.func34, by kernel_rfl⟩,
  ⟨Tryd.func73, by kernel_rfl⟩,
  ⟨Tryd.func69, by kernel_rfl⟩,
  Tryd.func69,
  ⟨Tryd.func88, by kernel_rfl⟩,
  Tryd.func88,
  Tryd.func34,
  ⟨Tryd.func89, by kernel_rfl⟩, trivial⟩
theorem ok3 : AllOk Tryd.prog ents3 := ⟨Tryd.func89,
  ⟨Tryd.func62, by kernel_rfl⟩,
  ⟨Tryd.func101, by kernel_rfl⟩,
  Tryd.func62,
  Tryd.func34,
  ⟨Tryd.func90, by kernel_rfl⟩,
  Tryd.func90,
  ⟨Tryd.func63, by kernel_rfl⟩,
  Tryd.func34,
  Tryd.func5,
  ⟨Tryd.func17, by kernel_rfl⟩,
  Tryd.func17,
  Tryd.func5,
  Tryd.func5,
  ⟨Tryd.func21, by kernel_rfl⟩,
  Tryd.func21, trivial⟩
theorem ok4 : AllOk Tryd.prog ents4 := ⟨Tryd.func5,
  ⟨Tryd.func35, by kernel_rfl⟩,
  Tryd.func35,
  Tryd.func35,
  Tryd.func5,
  ⟨Tryd.func36, by kernel_rfl⟩,
  ⟨Tryd.func37, by kernel_rfl⟩,
  ⟨Tryd.func64, by kernel_rfl⟩,
  Tryd.func64,
  ⟨Tryd.func38, by kernel_rfl⟩,
  ⟨Tryd.func39, by kernel_rfl⟩,
  Tryd.func39,
  Tryd.func39,
  ⟨Tryd.func40, by kernel_rfl⟩,
  ⟨Tryd.func41, by kernel_rfl⟩,
  ⟨Tryd.func42, by kernel_rfl⟩, trivial⟩
theorem ok5 : AllOk Tryd.prog ents5 := ⟨⟨Tryd.func70, by kernel_rfl⟩,
  ⟨Tryd.func43, by kernel_rfl⟩,
  ⟨Tryd.func44, by kernel_rfl⟩,
  ⟨Tryd.func45, by kernel_rfl⟩,
  ⟨Tryd.func46, by kernel_rfl⟩,
  ⟨Tryd.func93, by kernel_rfl⟩,
  Tryd.func93,
  ⟨Tryd.func94, by kernel_rfl⟩,
  ⟨Tryd.func48, by kernel_rfl⟩,
  ⟨Tryd.func93, by kernel_rfl⟩,
  Tryd.func93,
  ⟨Tryd.func95, by kernel_rfl⟩,
  ⟨Tryd.func50, by kernel_rfl⟩,
  ⟨Tryd.func51, by kernel_rfl⟩,
  ⟨Tryd.func96, by kernel_rfl⟩,
  Tryd.func96, trivial⟩
theorem ok6 : AllOk Tryd.prog ents6 := ⟨Tryd.func96,
  ⟨Tryd.func126, by kernel_rfl⟩,
  ⟨Tryd.func52, by kernel_rfl⟩,
  ⟨Tryd.func97, by kernel_rfl⟩,
  Tryd.func97,
  Tryd.func97,
  ⟨Tryd.func127, by kernel_rfl⟩,
  ⟨Tryd.func128, by kernel_rfl⟩,
  ⟨Tryd.func53, by kernel_rfl⟩,
  ⟨Tryd.func54, by kernel_rfl⟩,
  Tryd.func5,
  ⟨Tryd.func16, by kernel_rfl⟩,
  ⟨Tryd.func18, by kernel_rfl⟩,
  Tryd.func18,
  Tryd.func5,
  ⟨Tryd.func8, by kernel_rfl⟩, trivial⟩
theorem ok7 : AllOk Tryd.prog ents7 := ⟨⟨Tryd.func58, by kernel_rfl⟩,
  Tryd.func8,
  Tryd.func5,
  ⟨Tryd.func10, by kernel_rfl⟩,
  Tryd.func10,
  Tryd.func5,
  Tryd.func5,
  Tryd.func5,
  Tryd.func5,
  ⟨Tryd.func24, by kernel_rfl⟩,
  Tryd.func24,
  ⟨Tryd.func72, by kernel_rfl⟩,
  Tryd.func72,
  itoa_ok Tryd.func104 (by kernel_rfl) rfl itoaAll_calls,
  join_ok Tryd.func105 (by kernel_rfl) rfl (fun bk o c xs sep w h1 h2 h3 h4 h5 => Tryd.strings_Join bk o c xs sep w h1 h2 h3 h4 h5) (fun a c sep w => Tryd.strings_Join_none a c sep w),
  Tryd.func5, trivial⟩
theorem ok8 : AllOk Tryd.prog ents8 := ⟨Tryd.func5,
  ⟨Tryd.func12, by kernel_rfl⟩,
  Tryd.func12,
  Tryd.func12,
  ⟨Tryd.func14, by kernel_rfl⟩,
  ⟨Tryd.func22, by kernel_rfl⟩,
  ⟨Tryd.func9, by kernel_rfl⟩,
  ⟨Tryd.func61, by kernel_rfl⟩,
  Tryd.func9,
  ⟨Tryd.func11, by kernel_rfl⟩,
  ⟨Tryd.func65, by kernel_rfl⟩,
  Tryd.func65,
  Tryd.func11,
  ⟨Tryd.func13, by kernel_rfl⟩,
  Tryd.func13,
  Tryd.func13, trivial⟩
theorem ok9 : AllOk Tryd.prog ents9 := ⟨⟨Tryd.func15, by kernel_rfl⟩,
  ⟨Tryd.func26, by kernel_rfl⟩,
  ⟨Tryd.func25, by kernel_rfl⟩,
  Tryd.func25,
  Tryd.func25,
  Tryd.func25, trivial⟩
theorem dftOk : EntOk Tryd.prog (.pt 0 Tryd.f0 [] false [] [] [] []) := Tryd.func0
theorem allOk (e : Nat) : EntOk Tryd.prog (E e) := by
  unfold E
  split
  all_goals first
    | exact AllOk.getD dftOk _ ok0
    | exact AllOk.getD dftOk _ ok1
    | exact AllOk.getD dftOk _ ok2
    | exact AllOk.getD dftOk _ ok3
    | exact AllOk.getD dftOk _ ok4
    | exact AllOk.getD dftOk _ ok5
    | exact AllOk.getD dftOk _ ok6
    | exact AllOk.getD dftOk _ ok7
    | exact AllOk.getD dftOk _ ok8
    | exact AllOk.getD dftOk _ ok9
theorem mixed : Tryd.prog.follows .mixedOrders = true := by kernel_rfl
abbrev laws_FnWalkersSent.ins : List Slot := [⟨0, false, (.slc false (.int .u8))⟩, ⟨1, false, (.slc false (.int .u8))⟩]
theorem laws_FnWalkersSent.spec {k : Nat} {d : Dl laws_FnWalkersSent.ins} (h : laws_FnWalkersSent k d = some true) : FnSpec Tryd.prog 5 laws_FnWalkersSent.ins [] [⟨0, false, .bool⟩] d true := acall_sound mixed allOk k 0 d true h
end Go.Proofs.YtiaagflfiphioaaDoorS
