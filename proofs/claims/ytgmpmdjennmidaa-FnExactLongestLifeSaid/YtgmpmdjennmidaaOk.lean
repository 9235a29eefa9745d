/- The entries keep what the soundness asks; each law's function (printed by wip/sim/gen.py). -/
import Derived.Test.YtgmpmdjennmidaaLib
import Derived.Test.YtgmpmdjennmidaaTab
namespace Go.Proofs.YtgmpmdjennmidaaS
open Go Go.Proofs
set_option maxRecDepth 100000
theorem ok0 : AllOk Try.prog ents0 := ⟨⟨Try.func4, by kernel_rfl⟩,
  ⟨Try.func6, by kernel_rfl⟩,
  ⟨Try.func8, by kernel_rfl⟩,
  ⟨Try.func13, by kernel_rfl⟩,
  ⟨Try.func42, by kernel_rfl⟩,
  ⟨Try.func63, by kernel_rfl⟩,
  Try.func42,
  ⟨Try.func43, by kernel_rfl⟩,
  Try.func13,
  ⟨Try.func39, by kernel_rfl⟩,
  Try.func39,
  ⟨Try.func47, by kernel_rfl⟩,
  Try.func47,
  ⟨Try.func64, by kernel_rfl⟩,
  ⟨Try.func65, by kernel_rfl⟩,
  ⟨Try.func83, by kernel_rfl⟩, trivial⟩
theorem ok1 : AllOk Try.prog ents1 := ⟨⟨Try.func84, by kernel_rfl⟩,
  ⟨Try.func66, by kernel_rfl⟩,
  ⟨Try.func67, by kernel_rfl⟩,
  ⟨Try.func14, by kernel_rfl⟩,
  ⟨Try.func31, by kernel_rfl⟩,
  ⟨Try.func50, by kernel_rfl⟩,
  ⟨Try.func54, by kernel_rfl⟩,
  ⟨Try.func51, by kernel_rfl⟩,
  Try.func51,
  ⟨Try.func52, by kernel_rfl⟩,
  ⟨Try.func56, by kernel_rfl⟩,
  ⟨Try.func44, by kernel_rfl⟩,
  Try.func14,
  ⟨Try.func41, by kernel_rfl⟩,
  ⟨Try.func58, by kernel_rfl⟩,
  ⟨Try.func75, by kernel_rfl⟩, trivial⟩
theorem ok2 : AllOk Try.prog ents2 := ⟨⟨Try.func74, by kernel_rfl⟩,
  Try.func41,
  ⟨Try.func55, by kernel_rfl⟩,
  Try.func55,
  ⟨Try.func72, by kernel_rfl⟩,
  ⟨Try.func59, by kernel_rfl⟩,
  ⟨Try.func76, by kernel_rfl⟩,
  ⟨Try.func57, by kernel_rfl⟩,
  ⟨Try.func73, by kernel_rfl⟩,
  ⟨Try.func86, by kernel_rfl⟩,
  ⟨Try.func60, by kernel_rfl⟩,
  ⟨Try.func77, by kernel_rfl⟩,
  ⟨Try.func15, by kernel_rfl⟩,
  Try.func15,
  ⟨Try.func16, by kernel_rfl⟩,
  Try.func16, trivial⟩
theorem ok3 : AllOk Try.prog ents3 := ⟨⟨Try.func45, by kernel_rfl⟩,
  Try.func45,
  ⟨Try.func17, by kernel_rfl⟩,
  Try.func17,
  ⟨Try.func3, by kernel_rfl⟩,
  ⟨Try.func7, by kernel_rfl⟩,
  ⟨Try.func38, by kernel_rfl⟩,
  ⟨Try.func49, by kernel_rfl⟩,
  Try.func49,
  ⟨Try.func9, by kernel_rfl⟩,
  ⟨Try.func40, by kernel_rfl⟩,
  ⟨Try.func29, by kernel_rfl⟩,
  ⟨Try.func48, by kernel_rfl⟩,
  ⟨Try.func68, by kernel_rfl⟩,
  Try.func68,
  ⟨Try.func10, by kernel_rfl⟩, trivial⟩
theorem ok4 : AllOk Try.prog ents4 := ⟨Try.func10,
  ⟨Try.func11, by kernel_rfl⟩,
  Try.func11,
  ⟨Try.func12, by kernel_rfl⟩,
  Try.func12,
  ⟨Try.func5, by kernel_rfl⟩,
  ⟨Try.func18, by kernel_rfl⟩,
  ⟨Try.func19, by kernel_rfl⟩,
  ⟨Try.func46, by kernel_rfl⟩,
  ⟨Try.func61, by kernel_rfl⟩,
  ⟨Try.func78, by kernel_rfl⟩,
  ⟨Try.func82, by kernel_rfl⟩,
  ⟨Try.func89, by kernel_rfl⟩,
  ⟨Try.func79, by kernel_rfl⟩,
  ⟨Try.func87, by kernel_rfl⟩,
  ⟨Try.func94, by kernel_rfl⟩, trivial⟩
theorem ok5 : AllOk Try.prog ents5 := ⟨Try.func94,
  ⟨Try.func81, by kernel_rfl⟩,
  ⟨Try.func80, by kernel_rfl⟩,
  Try.func87,
  ⟨Try.func88, by kernel_rfl⟩,
  Try.func88,
  ⟨Try.func62, by kernel_rfl⟩,
  ⟨Try.func20, by kernel_rfl⟩,
  ⟨Try.func24, by kernel_rfl⟩,
  ⟨Try.func21, by kernel_rfl⟩,
  ⟨Try.func22, by kernel_rfl⟩,
  ⟨Try.func23, by kernel_rfl⟩,
  ⟨Try.func25, by kernel_rfl⟩,
  ⟨Try.func26, by kernel_rfl⟩,
  ⟨Try.func34, by kernel_rfl⟩,
  Try.func34, trivial⟩
theorem ok6 : AllOk Try.prog ents6 := ⟨⟨Try.func27, by kernel_rfl⟩,
  ⟨Try.func28, by kernel_rfl⟩,
  Try.func28,
  ⟨Try.func30, by kernel_rfl⟩,
  ⟨Try.func32, by kernel_rfl⟩,
  ⟨Try.func33, by kernel_rfl⟩,
  strsI_ok Try.func53 (by kernel_rfl) rfl strCount1 strCount1_calls,
  ⟨Try.func35, by kernel_rfl⟩,
  ⟨Try.func36, by kernel_rfl⟩,
  ⟨Try.func37, by kernel_rfl⟩,
  Try.func37, trivial⟩
theorem dftOk : EntOk Try.prog (.pt 0 Try.f0 [] false [] [] [] []) := Try.func0
theorem allOk (e : Nat) : EntOk Try.prog (E e) := by
  unfold E
  split
  all_goals first
    | exact AllOk.getD dftOk _ ok0
    | exact AllOk.getD dftOk _ ok1
    | exact AllOk.getD dftOk _ ok2
    | exact AllOk.getD dftOk _ ok3
    | exact AllOk.getD dftOk _ ok4
    | exact AllOk.getD dftOk _ ok5
    | exact AllOk.getD dftOk _ ok6
theorem mixed : Try.prog.follows .mixedOrders = true := by kernel_rfl
abbrev laws_FnExactLongestLife.ins : List Slot := [⟨0, true, (.cons (.int .i64) (.cons (.int .i64) (.cons .str (.cons .str (.cons (.int .i64) (.cons (.int .i64) (.int .i64)))))))⟩]
theorem laws_FnExactLongestLife.spec {k : Nat} {d : Dl laws_FnExactLongestLife.ins} (h : laws_FnExactLongestLife k d = some true) : FnSpec Try.prog 4 laws_FnExactLongestLife.ins [] [⟨0, false, .bool⟩] d true := acall_sound mixed allOk k 0 d true h
abbrev laws_FnExactTrackOfWorm.ins : List Slot := [⟨0, true, (.cons (.int .i64) (.cons (.int .i64) (.cons .str (.cons .str (.cons (.int .i64) (.cons (.int .i64) (.int .i64)))))))⟩, ⟨1, false, .str⟩]
theorem laws_FnExactTrackOfWorm.spec {k : Nat} {d : Dl laws_FnExactTrackOfWorm.ins} (h : laws_FnExactTrackOfWorm k d = some true) : FnSpec Try.prog 3 laws_FnExactTrackOfWorm.ins [] [⟨0, false, .bool⟩] d true := acall_sound mixed allOk k 52 d true h
abbrev laws_FnWormsDie.ins : List Slot := [⟨0, false, (.slc false (.int .u8))⟩, ⟨1, false, (.slc false (.int .u8))⟩]
theorem laws_FnWormsDie.spec {k : Nat} {d : Dl laws_FnWormsDie.ins} (h : laws_FnWormsDie k d = some true) : FnSpec Try.prog 5 laws_FnWormsDie.ins [] [⟨0, false, .bool⟩] d true := acall_sound mixed allOk k 69 d true h
end Go.Proofs.YtgmpmdjennmidaaS
