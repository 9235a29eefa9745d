/- The entries keep what the soundness asks; each law's function (printed by wip/sim/gen.py). -/
import Derived.Test.YthobhonnicadaaaDoorLib
import Derived.Test.YthobhonnicadaaaDoorTab
namespace Go.Proofs.YthobhonnicadaaaDoorS
open Go Go.Proofs
set_option maxRecDepth 100000
theorem ok0 : AllOk Tryd.prog ents0 := ⟨⟨Tryd.func3, by kernel_rfl⟩,
  ⟨Tryd.func10, by kernel_rfl⟩,
  ⟨Tryd.func37, by kernel_rfl⟩,
  ⟨Tryd.func12, by kernel_rfl⟩,
  ⟨Tryd.func42, by kernel_rfl⟩,
  Tryd.func42,
  ⟨Tryd.func79, by kernel_rfl⟩,
  ⟨Tryd.func11, by kernel_rfl⟩,
  ⟨Tryd.func38, by kernel_rfl⟩,
  ⟨Tryd.func77, by kernel_rfl⟩,
  ⟨Tryd.func105, by kernel_rfl⟩,
  ⟨Tryd.func39, by kernel_rfl⟩,
  Tryd.func105,
  ⟨Tryd.func109, by kernel_rfl⟩,
  Tryd.func109,
  Tryd.func38, trivial⟩
theorem ok1 : AllOk Tryd.prog ents1 := ⟨⟨Tryd.func78, by kernel_rfl⟩,
  ⟨Tryd.func41, by kernel_rfl⟩,
  ⟨Tryd.func40, by kernel_rfl⟩,
  ⟨Tryd.func13, by kernel_rfl⟩,
  ⟨Tryd.func43, by kernel_rfl⟩,
  ⟨Tryd.func80, by kernel_rfl⟩,
  ⟨Tryd.func110, by kernel_rfl⟩,
  ⟨Tryd.func94, by kernel_rfl⟩,
  ⟨Tryd.func44, by kernel_rfl⟩,
  strs_ok Tryd.func116 (by kernel_rfl) rfl strTrim strTrim_calls,
  ⟨Tryd.func127, by kernel_rfl⟩,
  ⟨Tryd.func111, by kernel_rfl⟩,
  Tryd.func111,
  ⟨Tryd.func81, by kernel_rfl⟩,
  ⟨Tryd.func112, by kernel_rfl⟩,
  Tryd.func112, trivial⟩
theorem ok2 : AllOk Tryd.prog ents2 := ⟨⟨Tryd.func82, by kernel_rfl⟩,
  ⟨Tryd.func83, by kernel_rfl⟩,
  ⟨Tryd.func95, by kernel_rfl⟩,
  ⟨Tryd.func46, by kernel_rfl⟩,
  clone52_ok,
  del84_ok,
  ⟨Tryd.func45, by kernel_rfl⟩,
  ⟨Tryd.func14, by kernel_rfl⟩,
  ⟨Tryd.func47, by kernel_rfl⟩,
  Tryd.func47,
  ⟨Tryd.func85, by kernel_rfl⟩,
  ⟨Tryd.func15, by kernel_rfl⟩,
  ⟨Tryd.func48, by kernel_rfl⟩,
  Tryd.func48,
  ⟨Tryd.func16, by kernel_rfl⟩,
  ⟨Tryd.func49, by kernel_rfl⟩, trivial⟩
theorem ok3 : AllOk Tryd.prog ents3 := ⟨Tryd.func49,
  ⟨Tryd.func4, by kernel_rfl⟩,
  ⟨Tryd.func17, by kernel_rfl⟩,
  ⟨Tryd.func50, by kernel_rfl⟩,
  ⟨Tryd.func40, by kernel_rfl⟩,
  ⟨Tryd.func65, by kernel_rfl⟩,
  ⟨Tryd.func101, by kernel_rfl⟩,
  Tryd.func101,
  ⟨Tryd.func121, by kernel_rfl⟩,
  ⟨Tryd.func149, by kernel_rfl⟩,
  Tryd.func149,
  ⟨Tryd.func165, by kernel_rfl⟩,
  ⟨Tryd.func171, by kernel_rfl⟩,
  ⟨Tryd.func107, by kernel_rfl⟩,
  ⟨Tryd.func172, by kernel_rfl⟩,
  ⟨Tryd.func122, by kernel_rfl⟩, trivial⟩
theorem ok4 : AllOk Tryd.prog ents4 := ⟨⟨Tryd.func173, by kernel_rfl⟩,
  ⟨Tryd.func180, by kernel_rfl⟩,
  Tryd.func149,
  Tryd.func101,
  Tryd.func17,
  ⟨Tryd.func50, by kernel_rfl⟩,
  ⟨Tryd.func18, by kernel_rfl⟩,
  ⟨Tryd.func51, by kernel_rfl⟩,
  ⟨Tryd.func66, by kernel_rfl⟩,
  ⟨Tryd.func102, by kernel_rfl⟩,
  ⟨Tryd.func53, by kernel_rfl⟩,
  ⟨Tryd.func87, by kernel_rfl⟩,
  Tryd.func87,
  Tryd.func87,
  Tryd.func87,
  ⟨Tryd.func86, by kernel_rfl⟩, trivial⟩
theorem ok5 : AllOk Tryd.prog ents5 := ⟨⟨Tryd.func113, by kernel_rfl⟩,
  Tryd.func113,
  ⟨Tryd.func88, by kernel_rfl⟩,
  ⟨Tryd.func81, by kernel_rfl⟩,
  ⟨Tryd.func112, by kernel_rfl⟩,
  Tryd.func112,
  ⟨Tryd.func89, by kernel_rfl⟩,
  ⟨Tryd.func90, by kernel_rfl⟩,
  ⟨Tryd.func114, by kernel_rfl⟩,
  Tryd.func114,
  Tryd.func114,
  ⟨Tryd.func128, by kernel_rfl⟩,
  ⟨Tryd.func150, by kernel_rfl⟩,
  ⟨Tryd.func129, by kernel_rfl⟩,
  ⟨Tryd.func123, by kernel_rfl⟩,
  ⟨Tryd.func151, by kernel_rfl⟩, trivial⟩
theorem ok6 : AllOk Tryd.prog ents6 := ⟨⟨Tryd.func152, by kernel_rfl⟩,
  ⟨Tryd.func125, by kernel_rfl⟩,
  strsI_ok Tryd.func130 (by kernel_rfl) rfl strCount1 strCount1_calls,
  Tryd.func86,
  Tryd.func18,
  ⟨Tryd.func53, by kernel_rfl⟩,
  ⟨Tryd.func86, by kernel_rfl⟩,
  ⟨Tryd.func113, by kernel_rfl⟩,
  Tryd.func113,
  ⟨Tryd.func88, by kernel_rfl⟩,
  Tryd.func86,
  ⟨Tryd.func5, by kernel_rfl⟩,
  ⟨Tryd.func19, by kernel_rfl⟩,
  ⟨Tryd.func54, by kernel_rfl⟩,
  ⟨Tryd.func21, by kernel_rfl⟩,
  ⟨Tryd.func57, by kernel_rfl⟩, trivial⟩
theorem ok7 : AllOk Tryd.prog ents7 := ⟨Tryd.func57,
  ⟨Tryd.func93, by kernel_rfl⟩,
  ⟨Tryd.func20, by kernel_rfl⟩,
  ⟨Tryd.func55, by kernel_rfl⟩,
  ⟨Tryd.func74, by kernel_rfl⟩,
  ⟨Tryd.func91, by kernel_rfl⟩,
  Tryd.func74,
  ⟨Tryd.func106, by kernel_rfl⟩,
  ⟨Tryd.func56, by kernel_rfl⟩,
  Tryd.func56,
  ⟨Tryd.func92, by kernel_rfl⟩,
  ⟨Tryd.func115, by kernel_rfl⟩,
  Tryd.func115,
  ⟨Tryd.func22, by kernel_rfl⟩,
  ⟨Tryd.func58, by kernel_rfl⟩,
  ⟨Tryd.func59, by kernel_rfl⟩, trivial⟩
theorem ok8 : AllOk Tryd.prog ents8 := ⟨⟨Tryd.func97, by kernel_rfl⟩,
  ⟨Tryd.func117, by kernel_rfl⟩,
  ⟨Tryd.func138, by kernel_rfl⟩,
  Tryd.func138,
  ⟨Tryd.func118, by kernel_rfl⟩,
  Tryd.func58,
  ⟨Tryd.func96, by kernel_rfl⟩,
  ⟨Tryd.func60, by kernel_rfl⟩,
  ⟨Tryd.func61, by kernel_rfl⟩,
  Tryd.func60,
  sort98_ok,
  ⟨Tryd.func99, by kernel_rfl⟩,
  ⟨Tryd.func23, by kernel_rfl⟩,
  ⟨Tryd.func62, by kernel_rfl⟩,
  Tryd.func62,
  ⟨Tryd.func100, by kernel_rfl⟩, trivial⟩
theorem ok9 : AllOk Tryd.prog ents9 := ⟨⟨Tryd.func24, by kernel_rfl⟩,
  ⟨Tryd.func63, by kernel_rfl⟩,
  Tryd.func63,
  ⟨Tryd.func25, by kernel_rfl⟩,
  ⟨Tryd.func64, by kernel_rfl⟩,
  Tryd.func64,
  ⟨Tryd.func6, by kernel_rfl⟩,
  ⟨Tryd.func26, by kernel_rfl⟩,
  Tryd.func26,
  ⟨Tryd.func27, by kernel_rfl⟩,
  Tryd.func27,
  ⟨Tryd.func28, by kernel_rfl⟩,
  Tryd.func28,
  ⟨Tryd.func29, by kernel_rfl⟩,
  Tryd.func29,
  ⟨Tryd.func30, by kernel_rfl⟩, trivial⟩
theorem ok10 : AllOk Tryd.prog ents10 := ⟨Tryd.func30,
  Tryd.func0,
  ⟨Tryd.func31, by kernel_rfl⟩,
  ⟨Tryd.func67, by kernel_rfl⟩,
  ⟨Tryd.func69, by kernel_rfl⟩,
  ⟨Tryd.func68, by kernel_rfl⟩,
  Tryd.func68,
  ⟨Tryd.func103, by kernel_rfl⟩,
  ⟨Tryd.func75, by kernel_rfl⟩,
  ⟨Tryd.func108, by kernel_rfl⟩,
  Tryd.func0,
  ⟨Tryd.func70, by kernel_rfl⟩,
  ⟨Tryd.func71, by kernel_rfl⟩,
  Tryd.func71,
  ⟨Tryd.func72, by kernel_rfl⟩,
  Tryd.func72, trivial⟩
theorem ok11 : AllOk Tryd.prog ents11 := ⟨⟨Tryd.func104, by kernel_rfl⟩,
  ⟨Tryd.func124, by kernel_rfl⟩,
  ⟨Tryd.func126, by kernel_rfl⟩,
  Tryd.func0,
  Tryd.func0,
  ⟨Tryd.func33, by kernel_rfl⟩,
  Tryd.func0,
  ⟨Tryd.func9, by kernel_rfl⟩,
  ⟨Tryd.func35, by kernel_rfl⟩,
  ⟨Tryd.func36, by kernel_rfl⟩,
  ⟨Tryd.func60, by kernel_rfl⟩,
  ⟨Tryd.func76, by kernel_rfl⟩,
  Tryd.func60, trivial⟩
theorem dftOk : EntOk Tryd.prog (.pt 0 Tryd.f0 [] false [] [] [] []) := Tryd.func0
theorem allOk (e : Nat) : EntOk Tryd.prog (E e) := by
  unfold E
  split
  all_goals first
    | exact AllOk.getD dftOk _ ok0
    | exact AllOk.getD dftOk _ ok1
    | exact AllOk.getD dftOk _ ok2
    | exact AllOk.getD dftOk _ ok3
    | exact AllOk.getD dftOk _ ok4
    | exact AllOk.getD dftOk _ ok5
    | exact AllOk.getD dftOk _ ok6
    | exact AllOk.getD dftOk _ ok7
    | exact AllOk.getD dftOk _ ok8
    | exact AllOk.getD dftOk _ ok9
    | exact AllOk.getD dftOk _ ok10
    | exact AllOk.getD dftOk _ ok11
theorem mixed : Tryd.prog.follows .mixedOrders = true := by kernel_rfl
abbrev laws_FnExactDropClue.ins : List Slot := [⟨0, true, (.cons .str (.cons (.int .i64) (.cons (.int .i64) (.slc false (.pair (.int .i64) (.pair (.int .i64) (.int .i64)))))))⟩, ⟨1, false, (.int .i64)⟩]
theorem laws_FnExactDropClue.spec {k : Nat} {d : Dl laws_FnExactDropClue.ins} (h : laws_FnExactDropClue k d = some true) : FnSpec Tryd.prog 3 laws_FnExactDropClue.ins [] [⟨0, false, .bool⟩] d true := acall_sound mixed allOk k 0 d true h
abbrev laws_FnExactHarderPuzzle.ins : List Slot := [⟨0, true, (.cons .str (.cons (.int .i64) (.cons (.int .i64) (.slc false (.pair (.int .i64) (.pair (.int .i64) (.int .i64)))))))⟩]
theorem laws_FnExactHarderPuzzle.spec {k : Nat} {d : Dl laws_FnExactHarderPuzzle.ins} (h : laws_FnExactHarderPuzzle k d = some true) : FnSpec Tryd.prog 4 laws_FnExactHarderPuzzle.ins [] [⟨0, false, .bool⟩] d true := acall_sound mixed allOk k 49 d true h
abbrev laws_FnExactMovePlain.ins : List Slot := [⟨0, true, (.cons .str (.cons (.slc false (.pair (.int .i64) (.pair (.int .i64) (.int .i64)))) (.cons (.int .i64) (.cons (.int .i64) (.int .i64)))))⟩, ⟨1, false, (.int .i64)⟩, ⟨2, false, (.int .i64)⟩]
theorem laws_FnExactMovePlain.spec {k : Nat} {d : Dl laws_FnExactMovePlain.ins} (h : laws_FnExactMovePlain k d = some true) : FnSpec Tryd.prog 5 laws_FnExactMovePlain.ins [] [⟨0, false, .bool⟩] d true := acall_sound mixed allOk k 107 d true h
abbrev laws_FnExactNeedlessClues.ins : List Slot := [⟨0, true, (.cons .str (.cons (.int .i64) (.cons (.int .i64) (.slc false (.pair (.int .i64) (.pair (.int .i64) (.int .i64)))))))⟩]
theorem laws_FnExactNeedlessClues.spec {k : Nat} {d : Dl laws_FnExactNeedlessClues.ins} (h : laws_FnExactNeedlessClues k d = some true) : FnSpec Tryd.prog 6 laws_FnExactNeedlessClues.ins [] [⟨0, false, .bool⟩] d true := acall_sound mixed allOk k 150 d true h
abbrev laws_FnExactTurnPlain.ins : List Slot := [⟨0, true, (.cons .str (.cons (.slc false (.pair (.int .i64) (.pair (.int .i64) (.int .i64)))) (.cons (.int .i64) (.cons (.int .i64) (.int .i64)))))⟩]
theorem laws_FnExactTurnPlain.spec {k : Nat} {d : Dl laws_FnExactTurnPlain.ins} (h : laws_FnExactTurnPlain k d = some true) : FnSpec Tryd.prog 9 laws_FnExactTurnPlain.ins [] [⟨0, false, .bool⟩] d true := acall_sound mixed allOk k 183 d true h
end Go.Proofs.YthobhonnicadaaaDoorS
