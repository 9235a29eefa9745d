/- The entries: functions, loops, with the kinds of their data (printed by wip/sim/gen.py). -/
import Derived.Test.YtaookbfcncfkbaaDoorSimB
import Derived.Test.YtaookbfcncfkbaaDoorSimFd
import Derived.Test.YtaookbfcncfkbaaDoorProg
import Derived.Test.YtaookbfcncfkbaaDoorSimFt
namespace Go.Proofs.YtaookbfcncfkbaaDoorS
open Go Go.Proofs
set_option maxRecDepth 100000
def bs (l : List UInt8) : ByteArray := ⟨l.toArray⟩
noncomputable def ents0 : List Ent := [
  .fn 4 Tryd.f4 [⟨0, true, (.cons .str (.cons (.int .i64) (.cons (.int .i64) (.slc false (.pair (.int .i64) (.pair (.int .i64) (.int .i64)))))))⟩] [] [⟨0, false, .bool⟩] [(1000008, 1), (1000010, 3), (1000009, 7), (1000011, 20), (1000012, 42)] [],
  .fn 8 Tryd.f8 [⟨0, true, (.cons .str (.cons (.int .i64) (.cons (.int .i64) (.slc false (.pair (.int .i64) (.pair (.int .i64) (.int .i64)))))))⟩, ⟨1, false, (.int .i64)⟩] [] [⟨0, false, (.int .i64)⟩] [(1000017, 2)] [],
  .fn 17 Tryd.f17 [⟨0, false, (.slc false (.pair (.int .i64) (.pair (.int .i64) (.int .i64))))⟩, ⟨1, false, (.int .i64)⟩] [] [⟨0, false, (.int .i64)⟩] [] [],
  .fn 10 Tryd.f10 [⟨0, true, (.cons .str (.cons (.int .i64) (.cons (.int .i64) (.slc false (.pair (.int .i64) (.pair (.int .i64) (.int .i64)))))))⟩] [] [⟨0, true, (.cons .str (.cons (.int .i64) (.cons (.int .i64) (.slc true (.pair (.int .i64) (.pair (.int .i64) (.int .i64)))))))⟩] [(1000020, 4)] [],
  .fn 20 Tryd.f20 [⟨0, false, (.slc false (.pair (.int .i64) (.pair (.int .i64) (.int .i64))))⟩] [] [⟨0, false, (.slc true (.pair (.int .i64) (.pair (.int .i64) (.int .i64))))⟩] [] [([false, true, false, true, true], 5)],
  .pt 20 Tryd.f20 [false, true, false, true, true] true [⟨0, false, (.slc false (.pair (.int .i64) (.pair (.int .i64) (.int .i64))))⟩, ⟨3, false, (.slc true (.pair (.int .i64) (.pair (.int .i64) (.int .i64))))⟩, ⟨4, false, (.int .i64)⟩] [((.exit 0), [⟨3, false, (.slc true (.pair (.int .i64) (.pair (.int .i64) (.int .i64))))⟩])] [(1000036, 6)] [],
  .fn 36 Tryd.f36 [⟨0, true, (.cons (.int .i64) (.cons (.int .i64) (.int .i64)))⟩] [] [⟨0, true, (.cons (.int .i64) (.cons (.int .i64) (.int .i64)))⟩] [] [],
  .fn 9 Tryd.f9 [⟨0, true, (.cons .str (.cons (.int .i64) (.cons (.int .i64) (.slc false (.pair (.int .i64) (.pair (.int .i64) (.int .i64)))))))⟩] [] [⟨0, false, .str⟩, ⟨1, false, .bool⟩] [(1000018, 8), (1000019, 17)] [],
  .fn 18 Tryd.f18 [⟨0, true, (.cons .str (.cons (.int .i64) (.cons (.int .i64) (.slc false (.pair (.int .i64) (.pair (.int .i64) (.int .i64)))))))⟩] [] [⟨0, false, .bool⟩] [(1000033, 9)] [([false, true, false, true, true], 15)],
  .fn 33 Tryd.f33 [⟨0, false, .str⟩, ⟨1, false, (.int .i64)⟩, ⟨2, false, (.int .i64)⟩] [] [⟨0, false, .bool⟩] [(1000052, 10), (1000045, 11), (1000053, 13)] [],
  .fn 52 Tryd.f52 [⟨0, false, .str⟩] [] [⟨0, false, .bool⟩] [(1000045, 11)] [([false, true, false, true, true], 12)],
  .fn 45 Tryd.f45 [⟨0, false, (.int .i64)⟩, ⟨1, false, (.int .i64)⟩, ⟨2, false, (.int .i64)⟩] [] [⟨0, false, .bool⟩] [] [],
  .pt 52 Tryd.f52 [false, true, false, true, true] true [⟨0, false, .str⟩, ⟨3, false, (.int .i64)⟩] [(.ret, [⟨2, false, .bool⟩]), ((.exit 0), [])] [] [],
  .fn 53 Tryd.f53 [⟨0, false, .str⟩, ⟨1, false, (.int .i64)⟩] [] [⟨0, false, (.int .i64)⟩] [] [([false, false, true, true], 14)],
  .pt 53 Tryd.f53 [false, false, true, true] true [⟨0, false, .str⟩, ⟨1, false, (.int .i64)⟩, ⟨5, false, (.int .i64)⟩] [(.ret, [⟨4, false, (.int .i64)⟩]), ((.exit 0), [⟨5, false, (.int .i64)⟩])] [] [],
  .pt 18 Tryd.f18 [false, true, false, true, true] true [⟨1, false, (.box true (.cons .str (.cons (.int .i64) (.cons (.int .i64) (.slc false (.pair (.int .i64) (.pair (.int .i64) (.int .i64))))))))⟩, ⟨20, false, (.sref 0)⟩, ⟨21, false, (.int .i64)⟩, ⟨22, false, (.int .i64)⟩] [(.ret, [⟨2, false, .bool⟩]), ((.exit 0), [])] [(1000034, 16)] []]
noncomputable def ents1 : List Ent := [
  .fn 34 Tryd.f34 [⟨0, false, .str⟩, ⟨1, false, (.int .i64)⟩, ⟨2, true, (.cons (.int .i64) (.cons (.int .i64) (.int .i64)))⟩] [] [⟨0, false, .bool⟩] [(1000045, 11)] [],
  .fn 19 Tryd.f19 [⟨0, true, (.cons .str (.cons (.int .i64) (.cons (.int .i64) (.slc false (.pair (.int .i64) (.pair (.int .i64) (.int .i64)))))))⟩] [] [⟨0, false, .str⟩] [(1000035, 18)] [([false, true, false, true, true], 19)],
  .fn 35 Tryd.f35 [⟨0, false, (.int .i64)⟩] [] [⟨0, false, .str⟩] [(1000035, 18)] [],
  .pt 19 Tryd.f19 [false, true, false, true, true] true [⟨3, false, .str⟩, ⟨20, false, (.slc false (.pair (.int .i64) (.pair (.int .i64) (.int .i64))))⟩, ⟨21, false, (.int .i64)⟩, ⟨22, false, (.int .i64)⟩] [((.exit 0), [⟨3, false, .str⟩])] [(1000035, 18)] [],
  .fn 11 Tryd.f11 [⟨0, true, (.cons .str (.cons (.int .i64) (.cons (.int .i64) (.slc false (.pair (.int .i64) (.pair (.int .i64) (.int .i64)))))))⟩] [] [⟨0, false, .str⟩, ⟨1, false, .bool⟩] [(1000021, 21), (1000022, 36)] [],
  .fn 21 Tryd.f21 [⟨0, true, (.cons .str (.cons (.int .i64) (.cons (.int .i64) (.slc false (.pair (.int .i64) (.pair (.int .i64) (.int .i64)))))))⟩] [] [⟨0, false, .bool⟩] [(1000037, 22), (1000038, 30)] [],
  .fn 37 Tryd.f37 [⟨0, false, .str⟩, ⟨1, false, (.int .i64)⟩, ⟨2, false, (.int .i64)⟩] [] [⟨0, false, (.int .i64)⟩, ⟨1, false, .bool⟩] [(1000054, 23), (1000055, 28)] [],
  .fn 54 Tryd.f54 [⟨0, false, .str⟩, ⟨1, false, (.int .i64)⟩, ⟨2, false, (.int .i64)⟩] [] [⟨0, false, .bool⟩] [(1000057, 24), (1000068, 27)] [],
  .fn 57 Tryd.f57 [⟨0, false, .str⟩] [] [⟨0, false, .bool⟩] [(1000050, 25), (1000069, 26)] [],
  .fn 50 Tryd.f50 [⟨0, false, (.int .i64)⟩, ⟨1, false, (.int .i64)⟩, ⟨2, false, (.int .i64)⟩] [] [⟨0, false, .bool⟩] [] [],
  .fr 69 [⟨0, false, .str⟩, ⟨1, false, .str⟩] [] [⟨0, false, .str⟩] (fun d => strTrim d.1 d.2),
  .fn 68 Tryd.f68 [⟨0, false, (.int .i64)⟩, ⟨1, false, (.int .i64)⟩] [] [⟨0, false, .bool⟩] [(1000050, 25)] [],
  .fn 55 Tryd.f55 [⟨0, false, (.int .i64)⟩, ⟨1, false, (.int .i64)⟩, ⟨2, false, (.int .i64)⟩] [] [⟨0, false, (.int .i64)⟩] [] [([false, true, false, true, true], 29)],
  .pt 55 Tryd.f55 [false, true, false, true, true] true [⟨0, false, (.int .i64)⟩, ⟨2, false, (.int .i64)⟩, ⟨7, false, (.int .i64)⟩, ⟨8, false, (.int .i64)⟩, ⟨9, false, (.int .i64)⟩] [((.exit 0), [⟨7, false, (.int .i64)⟩])] [] [],
  .fn 38 Tryd.f38 [⟨0, false, (.slc false (.pair (.int .i64) (.pair (.int .i64) (.int .i64))))⟩, ⟨1, false, (.clo 39 (.box false (.cons .str (.cons (.int .i64) (.cons (.int .i64) (.sref 0))))))⟩] [] [⟨0, false, .bool⟩] [(1000056, 31)] [],
  .fn 56 Tryd.f56 [⟨0, false, (.slc false (.pair (.int .i64) (.pair (.int .i64) (.int .i64))))⟩, ⟨1, false, (.clo 39 (.box false (.cons .str (.cons (.int .i64) (.cons (.int .i64) (.sref 0))))))⟩] [] [⟨0, false, (.int .i64)⟩] [] [([false, true, false, true], 32)]]
noncomputable def ents2 : List Ent := [
  .pt 56 Tryd.f56 [false, true, false, true] true [⟨0, false, (.slc false (.pair (.int .i64) (.pair (.int .i64) (.int .i64))))⟩, ⟨1, false, (.clo 39 (.box false (.cons .str (.cons (.int .i64) (.cons (.int .i64) (.sref 0))))))⟩, ⟨7, false, (.int .i64)⟩, ⟨8, false, (.int .i64)⟩] [(.ret, [⟨4, false, (.int .i64)⟩]), ((.exit 0), [])] [(16, 33)] [],
  .fn 39 Tryd.f39 [⟨0, true, (.cons (.int .i64) (.cons (.int .i64) (.int .i64)))⟩, ⟨1, false, (.box false (.cons .str (.cons (.int .i64) (.cons (.int .i64) (.slc false (.pair (.int .i64) (.pair (.int .i64) (.int .i64))))))))⟩] [] [⟨0, false, .bool⟩] [(1000040, 34)] [],
  .fn 40 Tryd.f40 [⟨0, false, .str⟩, ⟨1, false, (.int .i64)⟩, ⟨2, true, (.cons (.int .i64) (.cons (.int .i64) (.int .i64)))⟩] [] [⟨0, false, .bool⟩] [(1000057, 24), (1000050, 25), (1000051, 35)] [],
  .fn 51 Tryd.f51 [⟨0, false, (.int .i64)⟩] [] [⟨0, false, .bool⟩] [(1000050, 25)] [],
  .fn 22 Tryd.f22 [⟨0, true, (.cons .str (.cons (.int .i64) (.cons (.int .i64) (.slc false (.pair (.int .i64) (.pair (.int .i64) (.int .i64)))))))⟩] [] [⟨0, false, .str⟩] [(1000042, 40), (1000043, 41)] [([false, true, false, true, true], 37)],
  .pt 22 Tryd.f22 [false, true, false, true, true] true [⟨1, false, (.box true (.cons .str (.cons (.int .i64) (.cons (.int .i64) (.slc false (.pair (.int .i64) (.pair (.int .i64) (.int .i64))))))))⟩, ⟨3, false, (.slc true .str)⟩, ⟨8, false, (.sref 0)⟩, ⟨9, false, (.int .i64)⟩, ⟨10, false, (.int .i64)⟩] [((.exit 0), [⟨1, false, (.box true (.cons .str (.cons (.int .i64) (.cons (.int .i64) (.slc false (.pair (.int .i64) (.pair (.int .i64) (.int .i64))))))))⟩, ⟨3, false, (.slc true .str)⟩])] [(1000041, 38)] [],
  .fn 41 Tryd.f41 [⟨0, false, .str⟩, ⟨1, false, (.slc false (.int .i64))⟩] [] [⟨0, false, .str⟩] [(1000043, 41)] [([false, true, false, true, true], 39)],
  .pt 41 Tryd.f41 [false, true, false, true, true] true [⟨0, false, .str⟩, ⟨5, false, (.slc true .str)⟩, ⟨9, false, (.slc false (.int .i64))⟩, ⟨10, false, (.int .i64)⟩, ⟨11, false, (.int .i64)⟩] [((.exit 0), [⟨0, false, .str⟩, ⟨5, false, (.slc true .str)⟩])] [(1000042, 40)] [],
  .fr 42 [⟨0, false, (.int .i64)⟩] [] [⟨0, false, .str⟩] (fun d => itoaAll d),
  .fr 43 [⟨0, false, (.slc false .str)⟩, ⟨1, false, .str⟩] [] [⟨0, false, .str⟩] (fun d => joinS d.1 d.2),
  .fn 12 Tryd.f12 [⟨0, true, (.cons .str (.cons (.int .i64) (.cons (.int .i64) (.slc false (.pair (.int .i64) (.pair (.int .i64) (.int .i64)))))))⟩, ⟨1, true, (.cons .str (.cons (.int .i64) (.cons (.int .i64) (.slc false (.pair (.int .i64) (.pair (.int .i64) (.int .i64)))))))⟩] [] [⟨0, false, .bool⟩] [(1000023, 43)] [],
  .fn 23 Tryd.f23 [⟨0, false, (.slc false (.pair (.int .i64) (.pair (.int .i64) (.int .i64))))⟩, ⟨1, false, (.slc false (.pair (.int .i64) (.pair (.int .i64) (.int .i64))))⟩] [] [⟨0, false, .bool⟩] [] [([false, true, false, true, true], 44)],
  .pt 23 Tryd.f23 [false, true, false, true, true] true [⟨0, false, (.slc false (.pair (.int .i64) (.pair (.int .i64) (.int .i64))))⟩, ⟨1, false, (.slc false (.pair (.int .i64) (.pair (.int .i64) (.int .i64))))⟩, ⟨5, false, (.int .i64)⟩] [(.ret, [⟨4, false, .bool⟩]), ((.exit 0), [])] [(1000044, 45)] [],
  .fn 44 Tryd.f44 [⟨0, true, (.cons (.int .i64) (.cons (.int .i64) (.int .i64)))⟩, ⟨1, true, (.cons (.int .i64) (.cons (.int .i64) (.int .i64)))⟩] [] [⟨0, false, .bool⟩] [] []]
noncomputable def E (e : Nat) : Ent := (match e / 16 with | 0 => ents0 | 1 => ents1 | 2 => ents2 | _ => ents0).getD (e % 16) (.pt 0 Tryd.f0 [] false [] [] [] [])
noncomputable def laws_FnExactPuzzleText (k : Nat) (d : (ByteArray × (Int × (Int × List (Int × (Int × Int)))))) : Option (Bool) := acall Tryd.prog E k 0 d
noncomputable def laws_szPuzzle (k : Nat) (d : (ByteArray × (Int × (Int × List (Int × (Int × Int))))) × Int) : Option (Int) := acall Tryd.prog E k 1 d
noncomputable def laws_szClueS (k : Nat) (d : List (Int × (Int × Int)) × Int) : Option (Int) := acall Tryd.prog E k 2 d
noncomputable def laws_toPuzzle (k : Nat) (d : (ByteArray × (Int × (Int × List (Int × (Int × Int)))))) : Option ((ByteArray × (Int × (Int × List (Int × (Int × Int)))))) := acall Tryd.prog E k 3 d
noncomputable def laws_toClueS (k : Nat) (d : List (Int × (Int × Int))) : Option (List (Int × (Int × Int))) := acall Tryd.prog E k 4 d
noncomputable def laws_toClueS_l (k : Nat) (d : List (Int × (Int × Int)) × List (Int × (Int × Int)) × Int) : Option (List (Int × (Int × Int))) := acall Tryd.prog E k 5 d
noncomputable def laws_toClue (k : Nat) (d : (Int × (Int × Int))) : Option ((Int × (Int × Int))) := acall Tryd.prog E k 6 d
noncomputable def spec_PuzzleText (k : Nat) (d : (ByteArray × (Int × (Int × List (Int × (Int × Int)))))) : Option (ByteArray × Bool) := acall Tryd.prog E k 7 d
noncomputable def spec_pzGood (k : Nat) (d : (ByteArray × (Int × (Int × List (Int × (Int × Int)))))) : Option (Bool) := acall Tryd.prog E k 8 d
noncomputable def spec_pzSize (k : Nat) (d : ByteArray × Int × Int) : Option (Bool) := acall Tryd.prog E k 9 d
noncomputable def spec_woRule (k : Nat) (d : ByteArray) : Option (Bool) := acall Tryd.prog E k 10 d
noncomputable def spec_l1In (k : Nat) (d : Int × Int × Int) : Option (Bool) := acall Tryd.prog E k 11 d
noncomputable def spec_woRule_l (k : Nat) (d : ByteArray × Int) : Option ((Bool) ⊕ (Unit)) := acall Tryd.prog E k 12 d
noncomputable def spec_pzPower (k : Nat) (d : ByteArray × Int) : Option (Int) := acall Tryd.prog E k 13 d
noncomputable def spec_pzPower_l (k : Nat) (d : ByteArray × Int × Int) : Option ((Int) ⊕ (Int)) := acall Tryd.prog E k 14 d
noncomputable def spec_pzGood_l (k : Nat) (d : (ByteArray × (Int × (Int × List (Int × (Int × Int))))) × Unit × Int × Int) : Option ((Bool) ⊕ (Unit)) := acall Tryd.prog E k 15 d
noncomputable def spec_pzClue (k : Nat) (d : ByteArray × Int × (Int × (Int × Int))) : Option (Bool) := acall Tryd.prog E k 16 d
noncomputable def spec_pzText (k : Nat) (d : (ByteArray × (Int × (Int × List (Int × (Int × Int)))))) : Option (ByteArray) := acall Tryd.prog E k 17 d
noncomputable def spec_l1Num (k : Nat) (d : Int) : Option (ByteArray) := acall Tryd.prog E k 18 d
noncomputable def spec_pzText_l (k : Nat) (d : ByteArray × List (Int × (Int × Int)) × Int × Int) : Option (ByteArray) := acall Tryd.prog E k 19 d
noncomputable def impl_PuzzleText (k : Nat) (d : (ByteArray × (Int × (Int × List (Int × (Int × Int)))))) : Option (ByteArray × Bool) := acall Tryd.prog E k 20 d
noncomputable def impl_IsPuzzle (k : Nat) (d : (ByteArray × (Int × (Int × List (Int × (Int × Int)))))) : Option (Bool) := acall Tryd.prog E k 21 d
noncomputable def impl_CountBoards (k : Nat) (d : ByteArray × Int × Int) : Option (Int × Bool) := acall Tryd.prog E k 22 d
noncomputable def impl_isHidden (k : Nat) (d : ByteArray × Int × Int) : Option (Bool) := acall Tryd.prog E k 23 d
noncomputable def impl_IsRule (k : Nat) (d : ByteArray) : Option (Bool) := acall Tryd.prog E k 24 d
noncomputable def impl_within (k : Nat) (d : Int × Int × Int) : Option (Bool) := acall Tryd.prog E k 25 d
noncomputable def strings_Trim (k : Nat) (d : ByteArray × ByteArray) : Option (ByteArray) := acall Tryd.prog E k 26 d
noncomputable def impl_isSize (k : Nat) (d : Int × Int) : Option (Bool) := acall Tryd.prog E k 27 d
noncomputable def impl_boards (k : Nat) (d : Int × Int × Int) : Option (Int) := acall Tryd.prog E k 28 d
noncomputable def impl_boards_l (k : Nat) (d : Int × Int × Int × Int × Int) : Option (Int) := acall Tryd.prog E k 29 d
noncomputable def slices_ContainsFunc (k : Nat) (d : List (Int × (Int × Int)) × (ByteArray × (Int × (Int × Unit)))) : Option (Bool) := acall Tryd.prog E k 30 d
noncomputable def slices_IndexFunc (k : Nat) (d : List (Int × (Int × Int)) × (ByteArray × (Int × (Int × Unit)))) : Option (Int) := acall Tryd.prog E k 31 d
noncomputable def slices_IndexFunc_l (k : Nat) (d : List (Int × (Int × Int)) × (ByteArray × (Int × (Int × Unit))) × Int × Int) : Option ((Int) ⊕ (Unit)) := acall Tryd.prog E k 32 d
noncomputable def impl_IsPuzzle_1 (k : Nat) (d : (Int × (Int × Int)) × (ByteArray × (Int × (Int × List (Int × (Int × Int)))))) : Option (Bool) := acall Tryd.prog E k 33 d
noncomputable def impl_IsClue (k : Nat) (d : ByteArray × Int × (Int × (Int × Int))) : Option (Bool) := acall Tryd.prog E k 34 d
noncomputable def impl_isWay (k : Nat) (d : Int) : Option (Bool) := acall Tryd.prog E k 35 d
noncomputable def impl_puzzleText (k : Nat) (d : (ByteArray × (Int × (Int × List (Int × (Int × Int)))))) : Option (ByteArray) := acall Tryd.prog E k 36 d
noncomputable def impl_puzzleText_l (k : Nat) (d : (ByteArray × (Int × (Int × List (Int × (Int × Int))))) × List ByteArray × Unit × Int × Int) : Option ((ByteArray × (Int × (Int × List (Int × (Int × Int))))) × List ByteArray) := acall Tryd.prog E k 37 d
noncomputable def impl_listText (k : Nat) (d : ByteArray × List Int) : Option (ByteArray) := acall Tryd.prog E k 38 d
noncomputable def impl_listText_l (k : Nat) (d : ByteArray × List ByteArray × List Int × Int × Int) : Option (ByteArray × List ByteArray) := acall Tryd.prog E k 39 d
noncomputable def strconv_Itoa (k : Nat) (d : Int) : Option (ByteArray) := acall Tryd.prog E k 40 d
noncomputable def strings_Join (k : Nat) (d : List ByteArray × ByteArray) : Option (ByteArray) := acall Tryd.prog E k 41 d
noncomputable def laws_eqPuzzle (k : Nat) (d : (ByteArray × (Int × (Int × List (Int × (Int × Int))))) × (ByteArray × (Int × (Int × List (Int × (Int × Int)))))) : Option (Bool) := acall Tryd.prog E k 42 d
noncomputable def laws_eqClueS (k : Nat) (d : List (Int × (Int × Int)) × List (Int × (Int × Int))) : Option (Bool) := acall Tryd.prog E k 43 d
noncomputable def laws_eqClueS_l (k : Nat) (d : List (Int × (Int × Int)) × List (Int × (Int × Int)) × Int) : Option ((Bool) ⊕ (Unit)) := acall Tryd.prog E k 44 d
noncomputable def laws_eqClue (k : Nat) (d : (Int × (Int × Int)) × (Int × (Int × Int))) : Option (Bool) := acall Tryd.prog E k 45 d
end Go.Proofs.YtaookbfcncfkbaaDoorS
