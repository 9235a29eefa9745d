/- The entries: functions, loops, with the kinds of their data (printed by wip/sim/gen.py). -/
import Derived.Test.YtgmpmdjennmidaaDoorSimB
import Derived.Test.YtgmpmdjennmidaaDoorSimFd
import Derived.Test.YtgmpmdjennmidaaDoorProg
namespace Go.Proofs.YtgmpmdjennmidaaDoorS
open Go Go.Proofs
set_option maxRecDepth 100000
def bs (l : List UInt8) : ByteArray := ⟨l.toArray⟩
noncomputable def ents0 : List Ent := [
  .pt 0 Tryd.f0 [] false [] [] [] [],
  .fn 9 Tryd.f9 [⟨0, false, .str⟩] [] [⟨0, true, (.cons (.int .i64) (.cons (.int .i64) (.cons .str (.cons .str (.cons (.int .i64) (.cons (.int .i64) (.int .i64)))))))⟩, ⟨1, false, .bool⟩] [(1000017, 2)] [],
  .fn 17 Tryd.f17 [⟨0, false, .str⟩] [] [⟨0, true, (.cons (.int .i64) (.cons (.int .i64) (.cons .str (.cons .str (.cons (.int .i64) (.cons (.int .i64) (.int .i64)))))))⟩, ⟨1, false, .bool⟩] [(1000029, 3), (1000030, 5), (1000012, 8), (1000013, 10)] [],
  .fn 29 Tryd.f29 [⟨0, false, .str⟩, ⟨1, false, (.int .u8)⟩] [] [⟨0, false, (.slc true .str)⟩] [] [([false, true, false, true, true, true], 4)],
  .pt 29 Tryd.f29 [false, true, false, true, true, true] true [⟨0, false, .str⟩, ⟨1, false, (.int .u8)⟩, ⟨5, false, (.slc true .str)⟩, ⟨6, false, (.int .i64)⟩, ⟨7, false, (.int .i64)⟩] [((.exit 0), [⟨0, false, .str⟩, ⟨5, false, (.slc true .str)⟩, ⟨6, false, (.int .i64)⟩])] [] [],
  .fn 30 Tryd.f30 [⟨0, false, .str⟩] [] [⟨0, false, (.int .i64)⟩] [(1000020, 6)] [([false, true, false, true, true, true], 7)],
  .fn 20 Tryd.f20 [⟨0, false, (.int .i64)⟩, ⟨1, false, (.int .i64)⟩, ⟨2, false, (.int .i64)⟩] [] [⟨0, false, .bool⟩] [] [],
  .pt 30 Tryd.f30 [false, true, false, true, true, true] true [⟨0, false, .str⟩, ⟨3, false, (.int .i64)⟩, ⟨4, false, (.int .i64)⟩] [(.ret, [⟨2, false, (.int .i64)⟩]), ((.exit 0), [⟨3, false, (.int .i64)⟩])] [] [],
  .fn 12 Tryd.f12 [⟨0, true, (.cons (.int .i64) (.cons (.int .i64) (.cons .str (.cons .str (.cons (.int .i64) (.cons (.int .i64) (.int .i64)))))))⟩] [] [⟨0, false, .bool⟩] [(1000020, 6)] [([false, true, false, true, true], 9)],
  .pt 12 Tryd.f12 [false, true, false, true, true] true [⟨1, false, (.box true (.cons (.int .i64) (.cons (.int .i64) (.cons .str (.cons .str (.cons (.int .i64) (.cons (.int .i64) (.int .i64))))))))⟩, ⟨3, false, (.int .i64)⟩] [(.ret, [⟨2, false, .bool⟩]), ((.exit 0), [⟨1, false, (.box true (.cons (.int .i64) (.cons (.int .i64) (.cons .str (.cons .str (.cons (.int .i64) (.cons (.int .i64) (.int .i64))))))))⟩])] [] [],
  .fn 13 Tryd.f13 [⟨0, true, (.cons (.int .i64) (.cons (.int .i64) (.cons .str (.cons .str (.cons (.int .i64) (.cons (.int .i64) (.int .i64)))))))⟩] [] [⟨0, false, .str⟩] [(1000021, 11)] [],
  .fn 21 Tryd.f21 [⟨0, false, (.int .i64)⟩] [] [⟨0, false, .str⟩] [(1000021, 11)] [],
  .pt 0 Tryd.f0 [] false [] [] [] [],
  .pt 0 Tryd.f0 [] false [] [] [] [],
  .pt 0 Tryd.f0 [] false [] [] [] [],
  .pt 0 Tryd.f0 [] false [] [] [] []]
noncomputable def ents1 : List Ent := [
  .fr 45 [⟨0, false, .str⟩] [] [⟨0, false, (.int .i64)⟩] (fun d => runeCount d),
  .pt 0 Tryd.f0 [] false [] [] [] [],
  .pt 0 Tryd.f0 [] false [] [] [] [],
  .pt 0 Tryd.f0 [] false [] [] [] [],
  .fn 3 Tryd.f3 [⟨0, true, (.cons (.int .i64) (.cons (.int .i64) (.cons .str (.cons .str (.cons (.int .i64) (.cons (.int .i64) (.int .i64)))))))⟩] [] [⟨0, false, .bool⟩] [(1000005, 21), (1000007, 22), (1000006, 23), (1000008, 24)] [],
  .fn 5 Tryd.f5 [⟨0, true, (.cons (.int .i64) (.cons (.int .i64) (.cons .str (.cons .str (.cons (.int .i64) (.cons (.int .i64) (.int .i64)))))))⟩, ⟨1, false, (.int .i64)⟩] [] [⟨0, false, (.int .i64)⟩] [] [],
  .fn 7 Tryd.f7 [⟨0, true, (.cons (.int .i64) (.cons (.int .i64) (.cons .str (.cons .str (.cons (.int .i64) (.cons (.int .i64) (.int .i64)))))))⟩] [] [⟨0, true, (.cons (.int .i64) (.cons (.int .i64) (.cons .str (.cons .str (.cons (.int .i64) (.cons (.int .i64) (.int .i64)))))))⟩] [] [],
  .fn 6 Tryd.f6 [⟨0, true, (.cons (.int .i64) (.cons (.int .i64) (.cons .str (.cons .str (.cons (.int .i64) (.cons (.int .i64) (.int .i64)))))))⟩] [] [⟨0, false, .str⟩, ⟨1, false, .bool⟩] [(1000012, 8), (1000013, 10)] [],
  .fn 8 Tryd.f8 [⟨0, true, (.cons (.int .i64) (.cons (.int .i64) (.cons .str (.cons .str (.cons (.int .i64) (.cons (.int .i64) (.int .i64)))))))⟩] [] [⟨0, false, .str⟩, ⟨1, false, .bool⟩] [(1000014, 25), (1000016, 32), (1000015, 35)] [],
  .fn 14 Tryd.f14 [⟨0, true, (.cons (.int .i64) (.cons (.int .i64) (.cons .str (.cons .str (.cons (.int .i64) (.cons (.int .i64) (.int .i64)))))))⟩] [] [⟨0, false, .bool⟩] [(1000022, 26), (1000023, 28), (1000024, 30)] [],
  .fn 22 Tryd.f22 [⟨0, false, (.int .i64)⟩, ⟨1, false, (.int .i64)⟩] [] [⟨0, false, .bool⟩] [(1000033, 27)] [],
  .fn 33 Tryd.f33 [⟨0, false, (.int .i64)⟩, ⟨1, false, (.int .i64)⟩, ⟨2, false, (.int .i64)⟩] [] [⟨0, false, .bool⟩] [] [],
  .fn 23 Tryd.f23 [⟨0, false, .str⟩, ⟨1, false, (.int .i64)⟩, ⟨2, false, (.int .i64)⟩] [] [⟨0, false, .bool⟩] [] [([false, true, false, true], 29)],
  .pt 23 Tryd.f23 [false, true, false, true] true [⟨0, false, .str⟩, ⟨1, false, (.int .i64)⟩, ⟨2, false, (.int .i64)⟩, ⟨9, false, (.int .i64)⟩, ⟨10, false, (.int .i64)⟩] [(.ret, [⟨6, false, .bool⟩]), ((.exit 0), [⟨0, false, .str⟩, ⟨1, false, (.int .i64)⟩])] [(1000033, 27)] [],
  .fn 24 Tryd.f24 [⟨0, false, (.int .i64)⟩, ⟨1, false, (.int .i64)⟩, ⟨2, false, (.int .i64)⟩, ⟨3, false, (.int .i64)⟩, ⟨4, false, (.int .i64)⟩] [] [⟨0, false, .bool⟩] [(1000033, 27), (1000034, 31)] [],
  .fn 34 Tryd.f34 [⟨0, false, (.int .i64)⟩] [] [⟨0, false, .bool⟩] [(1000033, 27)] []]
noncomputable def ents2 : List Ent := [
  .fn 16 Tryd.f16 [⟨0, false, .str⟩, ⟨1, false, (.slc false (.int .i64))⟩] [] [⟨0, false, .str⟩] [(1000015, 35)] [([false, true, false, true, true], 33)],
  .pt 16 Tryd.f16 [false, true, false, true, true] true [⟨0, false, .str⟩, ⟨5, false, (.slc true .str)⟩, ⟨9, false, (.slc false (.int .i64))⟩, ⟨10, false, (.int .i64)⟩, ⟨11, false, (.int .i64)⟩] [((.exit 0), [⟨0, false, .str⟩, ⟨5, false, (.slc true .str)⟩])] [(1000028, 34)] [],
  .fr 28 [⟨0, false, (.int .i64)⟩] [] [⟨0, false, .str⟩] (fun d => itoaSmall d),
  .fr 15 [⟨0, false, (.slc false .str)⟩, ⟨1, false, .str⟩] [] [⟨0, false, .str⟩] (fun d => joinS d.1 d.2)]
noncomputable def E (e : Nat) : Ent := (match e / 16 with | 0 => ents0 | 1 => ents1 | 2 => ents2 | _ => ents0).getD (e % 16) (.pt 0 Tryd.f0 [] false [] [] [] [])
noncomputable def spec_ParseWorm (k : Nat) (d : ByteArray) : Option ((Int × (Int × (ByteArray × (ByteArray × (Int × (Int × Int)))))) × Bool) := acall Tryd.prog E k 1 d
noncomputable def spec_wmParse (k : Nat) (d : ByteArray) : Option ((Int × (Int × (ByteArray × (ByteArray × (Int × (Int × Int)))))) × Bool) := acall Tryd.prog E k 2 d
noncomputable def spec_l1Split (k : Nat) (d : ByteArray × Int) : Option (List ByteArray) := acall Tryd.prog E k 3 d
noncomputable def spec_l1Split_l (k : Nat) (d : ByteArray × Int × List ByteArray × Int × Int) : Option (ByteArray × List ByteArray × Int) := acall Tryd.prog E k 4 d
noncomputable def spec_l1Read (k : Nat) (d : ByteArray) : Option (Int) := acall Tryd.prog E k 5 d
noncomputable def spec_l1In (k : Nat) (d : Int × Int × Int) : Option (Bool) := acall Tryd.prog E k 6 d
noncomputable def spec_l1Read_l (k : Nat) (d : ByteArray × Int × Int) : Option ((Int) ⊕ (Int)) := acall Tryd.prog E k 7 d
noncomputable def spec_wmGood (k : Nat) (d : (Int × (Int × (ByteArray × (ByteArray × (Int × (Int × Int))))))) : Option (Bool) := acall Tryd.prog E k 8 d
noncomputable def spec_wmGood_l (k : Nat) (d : (Int × (Int × (ByteArray × (ByteArray × (Int × (Int × Int)))))) × Int) : Option ((Bool) ⊕ ((Int × (Int × (ByteArray × (ByteArray × (Int × (Int × Int)))))))) := acall Tryd.prog E k 9 d
noncomputable def spec_wmText (k : Nat) (d : (Int × (Int × (ByteArray × (ByteArray × (Int × (Int × Int))))))) : Option (ByteArray) := acall Tryd.prog E k 10 d
noncomputable def spec_l1Num (k : Nat) (d : Int) : Option (ByteArray) := acall Tryd.prog E k 11 d
noncomputable def utf8_RuneCountInString (k : Nat) (d : ByteArray) : Option (Int) := acall Tryd.prog E k 16 d
noncomputable def laws_FnExactWormText (k : Nat) (d : (Int × (Int × (ByteArray × (ByteArray × (Int × (Int × Int))))))) : Option (Bool) := acall Tryd.prog E k 20 d
noncomputable def laws_szWorm (k : Nat) (d : (Int × (Int × (ByteArray × (ByteArray × (Int × (Int × Int)))))) × Int) : Option (Int) := acall Tryd.prog E k 21 d
noncomputable def laws_toWorm (k : Nat) (d : (Int × (Int × (ByteArray × (ByteArray × (Int × (Int × Int))))))) : Option ((Int × (Int × (ByteArray × (ByteArray × (Int × (Int × Int))))))) := acall Tryd.prog E k 22 d
noncomputable def spec_WormText (k : Nat) (d : (Int × (Int × (ByteArray × (ByteArray × (Int × (Int × Int))))))) : Option (ByteArray × Bool) := acall Tryd.prog E k 23 d
noncomputable def impl_WormText (k : Nat) (d : (Int × (Int × (ByteArray × (ByteArray × (Int × (Int × Int))))))) : Option (ByteArray × Bool) := acall Tryd.prog E k 24 d
noncomputable def impl_IsWorm (k : Nat) (d : (Int × (Int × (ByteArray × (ByteArray × (Int × (Int × Int))))))) : Option (Bool) := acall Tryd.prog E k 25 d
noncomputable def impl_isGrid (k : Nat) (d : Int × Int) : Option (Bool) := acall Tryd.prog E k 26 d
noncomputable def impl_within (k : Nat) (d : Int × Int × Int) : Option (Bool) := acall Tryd.prog E k 27 d
noncomputable def impl_areCells (k : Nat) (d : ByteArray × Int × Int) : Option (Bool) := acall Tryd.prog E k 28 d
noncomputable def impl_areCells_l (k : Nat) (d : ByteArray × Int × Int × Int × Int) : Option ((Bool) ⊕ (ByteArray × Int)) := acall Tryd.prog E k 29 d
noncomputable def impl_isAnt (k : Nat) (d : Int × Int × Int × Int × Int) : Option (Bool) := acall Tryd.prog E k 30 d
noncomputable def impl_isWay (k : Nat) (d : Int) : Option (Bool) := acall Tryd.prog E k 31 d
noncomputable def impl_listText (k : Nat) (d : ByteArray × List Int) : Option (ByteArray) := acall Tryd.prog E k 32 d
noncomputable def impl_listText_l (k : Nat) (d : ByteArray × List ByteArray × List Int × Int × Int) : Option (ByteArray × List ByteArray) := acall Tryd.prog E k 33 d
noncomputable def strconv_Itoa (k : Nat) (d : Int) : Option (ByteArray) := acall Tryd.prog E k 34 d
noncomputable def strings_Join (k : Nat) (d : List ByteArray × ByteArray) : Option (ByteArray) := acall Tryd.prog E k 35 d
end Go.Proofs.YtgmpmdjennmidaaDoorS
