/- The entries keep what the soundness asks; each law's function (printed by wip/sim/gen.py). -/
import Derived.Test.YtmdgodjcfhimbaaLib
import Derived.Test.YtmdgodjcfhimbaaTab
namespace Go.Proofs.YtmdgodjcfhimbaaS
open Go Go.Proofs
set_option maxRecDepth 100000
theorem ok0 : AllOk Try.prog ents0 := ⟨⟨Try.func3, by kernel_rfl⟩,
  ⟨Try.func4, by kernel_rfl⟩,
  ⟨Try.func5, by kernel_rfl⟩,
  ⟨Try.func26, by kernel_rfl⟩,
  ⟨Try.func47, by kernel_rfl⟩,
  ⟨Try.func65, by kernel_rfl⟩,
  ⟨Try.func69, by kernel_rfl⟩,
  ⟨Try.func76, by kernel_rfl⟩,
  ⟨Try.func66, by kernel_rfl⟩,
  ⟨Try.func74, by kernel_rfl⟩,
  ⟨Try.func81, by kernel_rfl⟩,
  Try.func81,
  ⟨Try.func68, by kernel_rfl⟩,
  ⟨Try.func55, by kernel_rfl⟩,
  ⟨Try.func67, by kernel_rfl⟩,
  Try.func74, trivial⟩
theorem ok1 : AllOk Try.prog ents1 := ⟨⟨Try.func31, by kernel_rfl⟩,
  Try.func31,
  ⟨Try.func50, by kernel_rfl⟩,
  ⟨Try.func51, by kernel_rfl⟩,
  ⟨Try.func70, by kernel_rfl⟩,
  ⟨Try.func71, by kernel_rfl⟩,
  ⟨Try.func52, by kernel_rfl⟩,
  ⟨Try.func53, by kernel_rfl⟩,
  ⟨Try.func75, by kernel_rfl⟩,
  Try.func75,
  ⟨Try.func38, by kernel_rfl⟩,
  ⟨Try.func49, by kernel_rfl⟩,
  Try.func38,
  ⟨Try.func48, by kernel_rfl⟩,
  ⟨Try.func6, by kernel_rfl⟩,
  ⟨Try.func12, by kernel_rfl⟩, trivial⟩
theorem ok2 : AllOk Try.prog ents2 := ⟨⟨Try.func29, by kernel_rfl⟩,
  ⟨Try.func19, by kernel_rfl⟩,
  ⟨Try.func35, by kernel_rfl⟩,
  ⟨Try.func40, by kernel_rfl⟩,
  ⟨Try.func36, by kernel_rfl⟩,
  Try.func36,
  ⟨Try.func37, by kernel_rfl⟩,
  ⟨Try.func42, by kernel_rfl⟩,
  ⟨Try.func17, by kernel_rfl⟩,
  ⟨Try.func33, by kernel_rfl⟩,
  ⟨Try.func32, by kernel_rfl⟩,
  ⟨Try.func54, by kernel_rfl⟩,
  Try.func54,
  ⟨Try.func30, by kernel_rfl⟩,
  ⟨Try.func44, by kernel_rfl⟩,
  ⟨Try.func62, by kernel_rfl⟩, trivial⟩
theorem ok3 : AllOk Try.prog ents3 := ⟨⟨Try.func61, by kernel_rfl⟩,
  Try.func30,
  ⟨Try.func41, by kernel_rfl⟩,
  Try.func41,
  ⟨Try.func59, by kernel_rfl⟩,
  ⟨Try.func45, by kernel_rfl⟩,
  ⟨Try.func63, by kernel_rfl⟩,
  ⟨Try.func43, by kernel_rfl⟩,
  ⟨Try.func60, by kernel_rfl⟩,
  ⟨Try.func73, by kernel_rfl⟩,
  ⟨Try.func46, by kernel_rfl⟩,
  ⟨Try.func64, by kernel_rfl⟩,
  ⟨Try.func7, by kernel_rfl⟩,
  ⟨Try.func27, by kernel_rfl⟩,
  ⟨Try.func34, by kernel_rfl⟩,
  Try.func34, trivial⟩
theorem ok4 : AllOk Try.prog ents4 := ⟨⟨Try.func28, by kernel_rfl⟩,
  Try.func28,
  ⟨Try.func8, by kernel_rfl⟩,
  ⟨Try.func9, by kernel_rfl⟩,
  ⟨Try.func10, by kernel_rfl⟩,
  ⟨Try.func11, by kernel_rfl⟩,
  ⟨Try.func13, by kernel_rfl⟩,
  ⟨Try.func14, by kernel_rfl⟩,
  ⟨Try.func22, by kernel_rfl⟩,
  Try.func22,
  ⟨Try.func15, by kernel_rfl⟩,
  ⟨Try.func16, by kernel_rfl⟩,
  Try.func16,
  ⟨Try.func18, by kernel_rfl⟩,
  ⟨Try.func20, by kernel_rfl⟩,
  ⟨Try.func21, by kernel_rfl⟩, trivial⟩
theorem ok5 : AllOk Try.prog ents5 := ⟨strsI_ok Try.func39 (by kernel_rfl) rfl strCount1 strCount1_calls,
  ⟨Try.func23, by kernel_rfl⟩,
  ⟨Try.func24, by kernel_rfl⟩,
  ⟨Try.func25, by kernel_rfl⟩,
  Try.func25, trivial⟩
theorem dftOk : EntOk Try.prog (.pt 0 Try.f0 [] false [] [] [] []) := Try.func0
theorem allOk (e : Nat) : EntOk Try.prog (E e) := by
  unfold E
  split
  all_goals first
    | exact AllOk.getD dftOk _ ok0
    | exact AllOk.getD dftOk _ ok1
    | exact AllOk.getD dftOk _ ok2
    | exact AllOk.getD dftOk _ ok3
    | exact AllOk.getD dftOk _ ok4
    | exact AllOk.getD dftOk _ ok5
theorem mixed : Try.prog.follows .mixedOrders = true := by kernel_rfl
abbrev laws_FnWormsDie.ins : List Slot := [⟨0, false, (.slc false (.int .u8))⟩, ⟨1, false, (.slc false (.int .u8))⟩]
theorem laws_FnWormsDie.spec {k : Nat} {d : Dl laws_FnWormsDie.ins} (h : laws_FnWormsDie k d = some true) : FnSpec Try.prog 3 laws_FnWormsDie.ins [] [⟨0, false, .bool⟩] d true := acall_sound mixed allOk k 0 d true h
end Go.Proofs.YtmdgodjcfhimbaaS
