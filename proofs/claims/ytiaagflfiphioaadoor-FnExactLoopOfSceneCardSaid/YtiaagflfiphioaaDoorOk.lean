/- The entries keep what the soundness asks; each law's function (printed by wip/sim/gen.py). -/
import Derived.Test.YtiaagflfiphioaaDoorLib
import Derived.Test.YtiaagflfiphioaaDoorTab
namespace Go.Proofs.YtiaagflfiphioaaDoorS
open Go Go.Proofs
set_option maxRecDepth 100000
theorem ok0 : AllOk Tryd.prog ents0 := ⟨⟨Tryd.func4, by kernel_rfl⟩,
  ⟨Tryd.func27, by kernel_rfl⟩,
  ⟨Tryd.func74, by kernel_rfl⟩,
  ⟨Tryd.func106, by kernel_rfl⟩,
  Tryd.func106,
  ⟨Tryd.func134, by kernel_rfl⟩,
  ⟨Tryd.func29, by kernel_rfl⟩,
  ⟨Tryd.func79, by kernel_rfl⟩,
  ⟨Tryd.func111, by kernel_rfl⟩,
  Tryd.func111,
  ⟨Tryd.func138, by kernel_rfl⟩,
  ⟨Tryd.func28, by kernel_rfl⟩,
  ⟨Tryd.func75, by kernel_rfl⟩,
  ⟨Tryd.func107, by kernel_rfl⟩,
  ⟨Tryd.func87, by kernel_rfl⟩,
  Tryd.func107, trivial⟩
theorem ok1 : AllOk Tryd.prog ents1 := ⟨⟨Tryd.func135, by kernel_rfl⟩,
  ⟨Tryd.func150, by kernel_rfl⟩,
  Tryd.func150,
  Tryd.func75,
  ⟨Tryd.func76, by kernel_rfl⟩,
  Tryd.func28,
  ⟨Tryd.func77, by kernel_rfl⟩,
  ⟨Tryd.func108, by kernel_rfl⟩,
  ⟨Tryd.func109, by kernel_rfl⟩,
  ⟨Tryd.func136, by kernel_rfl⟩,
  ⟨Tryd.func110, by kernel_rfl⟩,
  ⟨Tryd.func137, by kernel_rfl⟩,
  Tryd.func28,
  ⟨Tryd.func78, by kernel_rfl⟩,
  ⟨Tryd.func30, by kernel_rfl⟩,
  ⟨Tryd.func80, by kernel_rfl⟩, trivial⟩
theorem ok2 : AllOk Tryd.prog ents2 := ⟨⟨Tryd.func112, by kernel_rfl⟩,
  ⟨Tryd.func139, by kernel_rfl⟩,
  ⟨Tryd.func67, by kernel_rfl⟩,
  ⟨Tryd.func140, by kernel_rfl⟩,
  ⟨Tryd.func151, by kernel_rfl⟩,
  Tryd.func151,
  ⟨Tryd.func141, by kernel_rfl⟩,
  ⟨Tryd.func142, by kernel_rfl⟩,
  ⟨Tryd.func116, by kernel_rfl⟩,
  strsB_ok Tryd.func143 (by kernel_rfl) rfl strContains1 strContains1_calls,
  ⟨Tryd.func113, by kernel_rfl⟩,
  ⟨Tryd.func114, by kernel_rfl⟩,
  Tryd.func114,
  ⟨Tryd.func115, by kernel_rfl⟩,
  ⟨Tryd.func144, by kernel_rfl⟩,
  Tryd.func30, trivial⟩
theorem ok3 : AllOk Tryd.prog ents3 := ⟨⟨Tryd.func72, by kernel_rfl⟩,
  Tryd.func72,
  itoa_ok Tryd.func104 (by kernel_rfl) rfl itoaAll_calls,
  join_ok Tryd.func105 (by kernel_rfl) rfl (fun bk o c xs sep w h1 h2 h3 h4 h5 => Tryd.strings_Join bk o c xs sep w h1 h2 h3 h4 h5) (fun a c sep w => Tryd.strings_Join_none a c sep w),
  ⟨Tryd.func81, by kernel_rfl⟩,
  ⟨Tryd.func117, by kernel_rfl⟩,
  ⟨Tryd.func119, by kernel_rfl⟩,
  ⟨Tryd.func122, by kernel_rfl⟩,
  ⟨Tryd.func118, by kernel_rfl⟩,
  ⟨Tryd.func120, by kernel_rfl⟩,
  ⟨Tryd.func121, by kernel_rfl⟩,
  ⟨Tryd.func124, by kernel_rfl⟩,
  ⟨Tryd.func145, by kernel_rfl⟩,
  ⟨Tryd.func123, by kernel_rfl⟩,
  ⟨Tryd.func31, by kernel_rfl⟩,
  ⟨Tryd.func82, by kernel_rfl⟩, trivial⟩
theorem ok4 : AllOk Tryd.prog ents4 := ⟨⟨Tryd.func125, by kernel_rfl⟩,
  Tryd.func125,
  ⟨Tryd.func146, by kernel_rfl⟩, trivial⟩
theorem dftOk : EntOk Tryd.prog (.pt 0 Tryd.f0 [] false [] [] [] []) := Tryd.func0
theorem allOk (e : Nat) : EntOk Tryd.prog (E e) := by
  unfold E
  split
  all_goals first
    | exact AllOk.getD dftOk _ ok0
    | exact AllOk.getD dftOk _ ok1
    | exact AllOk.getD dftOk _ ok2
    | exact AllOk.getD dftOk _ ok3
    | exact AllOk.getD dftOk _ ok4
theorem mixed : Tryd.prog.follows .mixedOrders = true := by kernel_rfl
abbrev laws_FnExactLoopOfScene.ins : List Slot := [⟨0, true, (.cons (.int .i64) (.cons (.int .i64) (.cons (.slc false (.pair (.int .i64) (.pair .str (.int .i64)))) (.cons (.int .i64) (.cons (.int .i64) (.cons .str (.cons (.int .i64) (.cons (.int .i64) (.cons (.int .i64) (.int .i64))))))))))⟩]
theorem laws_FnExactLoopOfScene.spec {k : Nat} {d : Dl laws_FnExactLoopOfScene.ins} (h : laws_FnExactLoopOfScene k d = some true) : FnSpec Tryd.prog 4 laws_FnExactLoopOfScene.ins [] [⟨0, false, .bool⟩] d true := acall_sound mixed allOk k 0 d true h
end Go.Proofs.YtiaagflfiphioaaDoorS
