/- The entries: functions, loops, with the kinds of their data (printed by wip/sim/gen.py). -/
import Derived.Test.YtaookbfcncfkbaaDoorSimB
import Derived.Test.YtaookbfcncfkbaaDoorSimFd
import Derived.Test.YtaookbfcncfkbaaDoorProg
import Derived.Test.YtaookbfcncfkbaaDoorSimFt
namespace Go.Proofs.YtaookbfcncfkbaaDoorS
open Go Go.Proofs
set_option maxRecDepth 100000
def bs (l : List UInt8) : ByteArray := ⟨l.toArray⟩
noncomputable def ents0 : List Ent := [
  .fn 3 Tryd.f3 [⟨0, false, .str⟩] [] [⟨0, false, .bool⟩] [(1000005, 1), (1000006, 12), (1000007, 24)] [],
  .fn 5 Tryd.f5 [⟨0, false, .str⟩] [] [⟨0, true, (.cons (.int .i64) (.cons (.int .i64) (.cons .str (.cons .str (.cons (.int .i64) (.cons (.int .i64) (.int .i64)))))))⟩, ⟨1, false, .bool⟩] [(1000013, 2)] [],
  .fn 13 Tryd.f13 [⟨0, false, .str⟩] [] [⟨0, true, (.cons (.int .i64) (.cons (.int .i64) (.cons .str (.cons .str (.cons (.int .i64) (.cons (.int .i64) (.int .i64)))))))⟩, ⟨1, false, .bool⟩] [(1000024, 3), (1000025, 5), (1000026, 8), (1000027, 10)] [],
  .fn 24 Tryd.f24 [⟨0, false, .str⟩, ⟨1, false, (.int .u8)⟩] [] [⟨0, false, (.slc true .str)⟩] [] [([false, true, false, true, true, true], 4)],
  .pt 24 Tryd.f24 [false, true, false, true, true, true] true [⟨0, false, .str⟩, ⟨1, false, (.int .u8)⟩, ⟨5, false, (.slc true .str)⟩, ⟨6, false, (.int .i64)⟩, ⟨7, false, (.int .i64)⟩] [((.exit 0), [⟨0, false, .str⟩, ⟨5, false, (.slc true .str)⟩, ⟨6, false, (.int .i64)⟩])] [] [],
  .fn 25 Tryd.f25 [⟨0, false, .str⟩] [] [⟨0, false, (.int .i64)⟩] [(1000045, 6)] [([false, true, false, true, true, true], 7)],
  .fn 45 Tryd.f45 [⟨0, false, (.int .i64)⟩, ⟨1, false, (.int .i64)⟩, ⟨2, false, (.int .i64)⟩] [] [⟨0, false, .bool⟩] [] [],
  .pt 25 Tryd.f25 [false, true, false, true, true, true] true [⟨0, false, .str⟩, ⟨3, false, (.int .i64)⟩, ⟨4, false, (.int .i64)⟩] [(.ret, [⟨2, false, (.int .i64)⟩]), ((.exit 0), [⟨3, false, (.int .i64)⟩])] [] [],
  .fn 26 Tryd.f26 [⟨0, true, (.cons (.int .i64) (.cons (.int .i64) (.cons .str (.cons .str (.cons (.int .i64) (.cons (.int .i64) (.int .i64)))))))⟩] [] [⟨0, false, .bool⟩] [(1000045, 6)] [([false, true, false, true, true], 9)],
  .pt 26 Tryd.f26 [false, true, false, true, true] true [⟨1, false, (.box true (.cons (.int .i64) (.cons (.int .i64) (.cons .str (.cons .str (.cons (.int .i64) (.cons (.int .i64) (.int .i64))))))))⟩, ⟨3, false, (.int .i64)⟩] [(.ret, [⟨2, false, .bool⟩]), ((.exit 0), [⟨1, false, (.box true (.cons (.int .i64) (.cons (.int .i64) (.cons .str (.cons .str (.cons (.int .i64) (.cons (.int .i64) (.int .i64))))))))⟩])] [] [],
  .fn 27 Tryd.f27 [⟨0, true, (.cons (.int .i64) (.cons (.int .i64) (.cons .str (.cons .str (.cons (.int .i64) (.cons (.int .i64) (.int .i64)))))))⟩] [] [⟨0, false, .str⟩] [(1000035, 11)] [],
  .fn 35 Tryd.f35 [⟨0, false, (.int .i64)⟩] [] [⟨0, false, .str⟩] [(1000035, 11)] [],
  .fn 6 Tryd.f6 [⟨0, false, .str⟩] [] [⟨0, true, (.cons (.int .i64) (.cons (.int .i64) (.cons .str (.cons .str (.cons (.int .i64) (.cons (.int .i64) (.int .i64)))))))⟩, ⟨1, false, .bool⟩] [(1000014, 13), (1000015, 14), (1000016, 17)] [],
  .fr 14 [⟨0, false, .str⟩, ⟨1, false, .str⟩] [] [⟨0, false, (.slc true .str)⟩] (fun d => strSplit1 d.1 d.2),
  .fn 15 Tryd.f15 [⟨0, false, .str⟩, ⟨1, false, .str⟩, ⟨2, false, (.int .i64)⟩, ⟨3, false, (.int .i64)⟩] [] [⟨0, false, (.slc true (.int .i64))⟩, ⟨1, false, .bool⟩] [(1000014, 13)] [([false, true, false, true, true], 15)],
  .pt 15 Tryd.f15 [false, true, false, true, true] true [⟨2, false, (.int .i64)⟩, ⟨3, false, (.int .i64)⟩, ⟨10, false, (.slc true (.int .i64))⟩, ⟨18, false, (.slc true .str)⟩, ⟨19, false, (.int .i64)⟩, ⟨20, false, (.int .i64)⟩] [(.ret, [⟨8, false, (.slc true (.int .i64))⟩, ⟨9, false, .bool⟩]), ((.exit 0), [⟨2, false, (.int .i64)⟩, ⟨10, false, (.slc true (.int .i64))⟩])] [(1000029, 16)] []]
noncomputable def ents1 : List Ent := [
  .fr 29 [⟨0, false, .str⟩, ⟨1, false, (.int .i64)⟩] [] [⟨0, false, (.int .i64)⟩, ⟨1, false, .bool⟩] (fun d => numB d.1 d.2),
  .fn 16 Tryd.f16 [⟨0, true, (.cons (.int .i64) (.cons (.int .i64) (.cons .str (.cons .str (.cons (.int .i64) (.cons (.int .i64) (.int .i64)))))))⟩] [] [⟨0, false, .bool⟩] [(1000030, 18), (1000031, 20), (1000032, 22)] [],
  .fn 30 Tryd.f30 [⟨0, false, (.int .i64)⟩, ⟨1, false, (.int .i64)⟩] [] [⟨0, false, .bool⟩] [(1000050, 19)] [],
  .fn 50 Tryd.f50 [⟨0, false, (.int .i64)⟩, ⟨1, false, (.int .i64)⟩, ⟨2, false, (.int .i64)⟩] [] [⟨0, false, .bool⟩] [] [],
  .fn 31 Tryd.f31 [⟨0, false, .str⟩, ⟨1, false, (.int .i64)⟩, ⟨2, false, (.int .i64)⟩] [] [⟨0, false, .bool⟩] [] [([false, true, false, true], 21)],
  .pt 31 Tryd.f31 [false, true, false, true] true [⟨0, false, .str⟩, ⟨1, false, (.int .i64)⟩, ⟨2, false, (.int .i64)⟩, ⟨9, false, (.int .i64)⟩, ⟨10, false, (.int .i64)⟩] [(.ret, [⟨6, false, .bool⟩]), ((.exit 0), [⟨0, false, .str⟩, ⟨1, false, (.int .i64)⟩])] [(1000050, 19)] [],
  .fn 32 Tryd.f32 [⟨0, false, (.int .i64)⟩, ⟨1, false, (.int .i64)⟩, ⟨2, false, (.int .i64)⟩, ⟨3, false, (.int .i64)⟩, ⟨4, false, (.int .i64)⟩] [] [⟨0, false, .bool⟩] [(1000050, 19), (1000051, 23)] [],
  .fn 51 Tryd.f51 [⟨0, false, (.int .i64)⟩] [] [⟨0, false, .bool⟩] [(1000050, 19)] [],
  .fn 7 Tryd.f7 [⟨0, true, (.cons (.int .i64) (.cons (.int .i64) (.cons .str (.cons .str (.cons (.int .i64) (.cons (.int .i64) (.int .i64)))))))⟩, ⟨1, true, (.cons (.int .i64) (.cons (.int .i64) (.cons .str (.cons .str (.cons (.int .i64) (.cons (.int .i64) (.int .i64)))))))⟩] [] [⟨0, false, .bool⟩] [] []]
noncomputable def E (e : Nat) : Ent := (match e / 16 with | 0 => ents0 | 1 => ents1 | _ => ents0).getD (e % 16) (.pt 0 Tryd.f0 [] false [] [] [] [])
noncomputable def laws_FnExactParseWorm (k : Nat) (d : ByteArray) : Option (Bool) := acall Tryd.prog E k 0 d
noncomputable def spec_ParseWorm (k : Nat) (d : ByteArray) : Option ((Int × (Int × (ByteArray × (ByteArray × (Int × (Int × Int)))))) × Bool) := acall Tryd.prog E k 1 d
noncomputable def spec_wmParse (k : Nat) (d : ByteArray) : Option ((Int × (Int × (ByteArray × (ByteArray × (Int × (Int × Int)))))) × Bool) := acall Tryd.prog E k 2 d
noncomputable def spec_l1Split (k : Nat) (d : ByteArray × Int) : Option (List ByteArray) := acall Tryd.prog E k 3 d
noncomputable def spec_l1Split_l (k : Nat) (d : ByteArray × Int × List ByteArray × Int × Int) : Option (ByteArray × List ByteArray × Int) := acall Tryd.prog E k 4 d
noncomputable def spec_l1Read (k : Nat) (d : ByteArray) : Option (Int) := acall Tryd.prog E k 5 d
noncomputable def spec_l1In (k : Nat) (d : Int × Int × Int) : Option (Bool) := acall Tryd.prog E k 6 d
noncomputable def spec_l1Read_l (k : Nat) (d : ByteArray × Int × Int) : Option ((Int) ⊕ (Int)) := acall Tryd.prog E k 7 d
noncomputable def spec_wmGood (k : Nat) (d : (Int × (Int × (ByteArray × (ByteArray × (Int × (Int × Int))))))) : Option (Bool) := acall Tryd.prog E k 8 d
noncomputable def spec_wmGood_l (k : Nat) (d : (Int × (Int × (ByteArray × (ByteArray × (Int × (Int × Int)))))) × Int) : Option ((Bool) ⊕ ((Int × (Int × (ByteArray × (ByteArray × (Int × (Int × Int)))))))) := acall Tryd.prog E k 9 d
noncomputable def spec_wmText (k : Nat) (d : (Int × (Int × (ByteArray × (ByteArray × (Int × (Int × Int))))))) : Option (ByteArray) := acall Tryd.prog E k 10 d
noncomputable def spec_l1Num (k : Nat) (d : Int) : Option (ByteArray) := acall Tryd.prog E k 11 d
noncomputable def impl_ParseWorm (k : Nat) (d : ByteArray) : Option ((Int × (Int × (ByteArray × (ByteArray × (Int × (Int × Int)))))) × Bool) := acall Tryd.prog E k 12 d
noncomputable def strings_Split (k : Nat) (d : ByteArray × ByteArray) : Option (List ByteArray) := acall Tryd.prog E k 13 d
noncomputable def impl_numbers (k : Nat) (d : ByteArray × ByteArray × Int × Int) : Option (List Int × Bool) := acall Tryd.prog E k 14 d
noncomputable def impl_numbers_l (k : Nat) (d : Int × Int × List Int × List ByteArray × Int × Int) : Option ((List Int × Bool) ⊕ (Int × List Int)) := acall Tryd.prog E k 15 d
noncomputable def impl_number (k : Nat) (d : ByteArray × Int) : Option (Int × Bool) := acall Tryd.prog E k 16 d
noncomputable def impl_IsWorm (k : Nat) (d : (Int × (Int × (ByteArray × (ByteArray × (Int × (Int × Int))))))) : Option (Bool) := acall Tryd.prog E k 17 d
noncomputable def impl_isGrid (k : Nat) (d : Int × Int) : Option (Bool) := acall Tryd.prog E k 18 d
noncomputable def impl_within (k : Nat) (d : Int × Int × Int) : Option (Bool) := acall Tryd.prog E k 19 d
noncomputable def impl_areCells (k : Nat) (d : ByteArray × Int × Int) : Option (Bool) := acall Tryd.prog E k 20 d
noncomputable def impl_areCells_l (k : Nat) (d : ByteArray × Int × Int × Int × Int) : Option ((Bool) ⊕ (ByteArray × Int)) := acall Tryd.prog E k 21 d
noncomputable def impl_isAnt (k : Nat) (d : Int × Int × Int × Int × Int) : Option (Bool) := acall Tryd.prog E k 22 d
noncomputable def impl_isWay (k : Nat) (d : Int) : Option (Bool) := acall Tryd.prog E k 23 d
noncomputable def laws_eqWorm (k : Nat) (d : (Int × (Int × (ByteArray × (ByteArray × (Int × (Int × Int)))))) × (Int × (Int × (ByteArray × (ByteArray × (Int × (Int × Int))))))) : Option (Bool) := acall Tryd.prog E k 24 d
end Go.Proofs.YtaookbfcncfkbaaDoorS
