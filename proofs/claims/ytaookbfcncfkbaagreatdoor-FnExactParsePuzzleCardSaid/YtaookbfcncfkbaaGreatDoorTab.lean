/- The entries: functions, loops, with the kinds of their data (printed by wip/sim/gen.py). -/
import Derived.Test.YtaookbfcncfkbaaGreatDoorSimB
import Derived.Test.YtaookbfcncfkbaaGreatDoorSimFd
import Derived.Test.YtaookbfcncfkbaaGreatDoorProg
import Derived.Test.YtaookbfcncfkbaaGreatDoorSimFt
namespace Go.Proofs.YtaookbfcncfkbaaGreatDoorS
open Go Go.Proofs
set_option maxRecDepth 100000
def bs (l : List UInt8) : ByteArray := ⟨l.toArray⟩
noncomputable def ents0 : List Ent := [
  .fn 3 Tryz.f3 [⟨0, false, .str⟩] [] [⟨0, false, .bool⟩] [(1000004, 1), (1000005, 20), (1000006, 51), (1000007, 55), (1000008, 58)] [],
  .fn 4 Tryz.f4 [⟨0, false, .str⟩] [] [⟨0, true, (.cons .str (.cons (.int .i64) (.cons (.int .i64) (.slc true (.pair (.int .i64) (.pair (.int .i64) (.int .i64)))))))⟩, ⟨1, false, .bool⟩] [(1000009, 2)] [],
  .fn 9 Tryz.f9 [⟨0, false, .str⟩] [] [⟨0, true, (.cons .str (.cons (.int .i64) (.cons (.int .i64) (.slc true (.pair (.int .i64) (.pair (.int .i64) (.int .i64)))))))⟩, ⟨1, false, .bool⟩] [(1000019, 3), (1000020, 5), (1000021, 9), (1000022, 17)] [([false, true, false, true, false, true, true, true, true, true, true, true], 8)],
  .fn 19 Tryz.f19 [⟨0, false, .str⟩, ⟨1, false, (.int .u8)⟩] [] [⟨0, false, (.slc true .str)⟩] [] [([false, true, false, true, true, true], 4)],
  .pt 19 Tryz.f19 [false, true, false, true, true, true] true [⟨0, false, .str⟩, ⟨1, false, (.int .u8)⟩, ⟨5, false, (.slc true .str)⟩, ⟨6, false, (.int .i64)⟩, ⟨7, false, (.int .i64)⟩] [((.exit 0), [⟨0, false, .str⟩, ⟨5, false, (.slc true .str)⟩, ⟨6, false, (.int .i64)⟩])] [] [],
  .fn 20 Tryz.f20 [⟨0, false, .str⟩] [] [⟨0, false, (.int .i64)⟩] [(1000033, 6)] [([false, true, false, true, true, true], 7)],
  .fn 33 Tryz.f33 [⟨0, false, (.int .i64)⟩, ⟨1, false, (.int .i64)⟩, ⟨2, false, (.int .i64)⟩] [] [⟨0, false, .bool⟩] [] [],
  .pt 20 Tryz.f20 [false, true, false, true, true, true] true [⟨0, false, .str⟩, ⟨3, false, (.int .i64)⟩, ⟨4, false, (.int .i64)⟩] [(.ret, [⟨2, false, (.int .i64)⟩]), ((.exit 0), [⟨3, false, (.int .i64)⟩])] [] [],
  .pt 9 Tryz.f9 [false, true, false, true, false, true, true, true, true, true, true, true] true [⟨0, false, .str⟩, ⟨2, false, (.box true (.cons .str (.cons (.int .i64) (.cons (.int .i64) (.slc true (.pair (.int .i64) (.pair (.int .i64) (.int .i64))))))))⟩, ⟨6, false, (.box true (.cons .str (.cons (.int .i64) (.cons (.int .i64) (.slc true (.pair (.int .i64) (.pair (.int .i64) (.int .i64))))))))⟩, ⟨48, false, (.slc true .str)⟩, ⟨49, false, (.int .i64)⟩, ⟨50, false, (.int .i64)⟩] [(.ret, [⟨2, false, (.box true (.cons .str (.cons (.int .i64) (.cons (.int .i64) (.slc true (.pair (.int .i64) (.pair (.int .i64) (.int .i64))))))))⟩, ⟨3, false, .bool⟩]), ((.exit 0), [⟨0, false, .str⟩, ⟨2, false, (.box true (.cons .str (.cons (.int .i64) (.cons (.int .i64) (.slc true (.pair (.int .i64) (.pair (.int .i64) (.int .i64))))))))⟩, ⟨6, false, (.box true (.cons .str (.cons (.int .i64) (.cons (.int .i64) (.slc true (.pair (.int .i64) (.pair (.int .i64) (.int .i64))))))))⟩])] [(1000019, 3), (1000020, 5)] [],
  .fn 21 Tryz.f21 [⟨0, true, (.cons .str (.cons (.int .i64) (.cons (.int .i64) (.slc false (.pair (.int .i64) (.pair (.int .i64) (.int .i64)))))))⟩] [] [⟨0, false, .bool⟩] [(1000034, 10)] [([false, true, false, true, true], 15)],
  .fn 34 Tryz.f34 [⟨0, false, .str⟩, ⟨1, false, (.int .i64)⟩, ⟨2, false, (.int .i64)⟩] [] [⟨0, false, .bool⟩] [(1000051, 11), (1000033, 6), (1000052, 13)] [],
  .fn 51 Tryz.f51 [⟨0, false, .str⟩] [] [⟨0, false, .bool⟩] [(1000033, 6)] [([false, true, false, true, true], 12)],
  .pt 51 Tryz.f51 [false, true, false, true, true] true [⟨0, false, .str⟩, ⟨3, false, (.int .i64)⟩] [(.ret, [⟨2, false, .bool⟩]), ((.exit 0), [])] [] [],
  .fn 52 Tryz.f52 [⟨0, false, .str⟩, ⟨1, false, (.int .i64)⟩] [] [⟨0, false, (.int .i64)⟩] [] [([false, false, true, true], 14)],
  .pt 52 Tryz.f52 [false, false, true, true] true [⟨0, false, .str⟩, ⟨1, false, (.int .i64)⟩, ⟨5, false, (.int .i64)⟩] [(.ret, [⟨4, false, (.int .i64)⟩]), ((.exit 0), [⟨5, false, (.int .i64)⟩])] [] [],
  .pt 21 Tryz.f21 [false, true, false, true, true] true [⟨1, false, (.box true (.cons .str (.cons (.int .i64) (.cons (.int .i64) (.slc false (.pair (.int .i64) (.pair (.int .i64) (.int .i64))))))))⟩, ⟨20, false, (.sref 0)⟩, ⟨21, false, (.int .i64)⟩, ⟨22, false, (.int .i64)⟩] [(.ret, [⟨2, false, .bool⟩]), ((.exit 0), [])] [(1000035, 16)] []]
noncomputable def ents1 : List Ent := [
  .fn 35 Tryz.f35 [⟨0, false, .str⟩, ⟨1, false, (.int .i64)⟩, ⟨2, true, (.cons (.int .i64) (.cons (.int .i64) (.int .i64)))⟩] [] [⟨0, false, .bool⟩] [(1000033, 6)] [],
  .fn 22 Tryz.f22 [⟨0, true, (.cons .str (.cons (.int .i64) (.cons (.int .i64) (.slc false (.pair (.int .i64) (.pair (.int .i64) (.int .i64)))))))⟩] [] [⟨0, false, .str⟩] [(1000036, 18)] [([false, true, false, true, true], 19)],
  .fn 36 Tryz.f36 [⟨0, false, (.int .i64)⟩] [] [⟨0, false, .str⟩] [(1000036, 18)] [],
  .pt 22 Tryz.f22 [false, true, false, true, true] true [⟨3, false, .str⟩, ⟨20, false, (.slc false (.pair (.int .i64) (.pair (.int .i64) (.int .i64))))⟩, ⟨21, false, (.int .i64)⟩, ⟨22, false, (.int .i64)⟩] [((.exit 0), [⟨3, false, .str⟩])] [(1000036, 18)] [],
  .fn 5 Tryz.f5 [⟨0, false, .str⟩] [] [⟨0, true, (.cons .str (.cons (.int .i64) (.cons (.int .i64) (.slc true (.pair (.int .i64) (.pair (.int .i64) (.int .i64)))))))⟩, ⟨1, false, .bool⟩] [(1000010, 21), (1000011, 22), (1000012, 25), (1000014, 30), (1000015, 45)] [([false, true, false, true, true, true, true, true], 29)],
  .fr 10 [⟨0, false, .str⟩, ⟨1, false, .str⟩] [] [⟨0, false, (.slc true .str)⟩] (fun d => strSplit1 d.1 d.2),
  .fn 11 Tryz.f11 [⟨0, false, .str⟩, ⟨1, false, .str⟩, ⟨2, false, (.int .i64)⟩, ⟨3, false, (.int .i64)⟩] [] [⟨0, false, (.slc true (.int .i64))⟩, ⟨1, false, .bool⟩] [(1000010, 21)] [([false, true, false, true, true], 23)],
  .pt 11 Tryz.f11 [false, true, false, true, true] true [⟨2, false, (.int .i64)⟩, ⟨3, false, (.int .i64)⟩, ⟨10, false, (.slc true (.int .i64))⟩, ⟨18, false, (.slc true .str)⟩, ⟨19, false, (.int .i64)⟩, ⟨20, false, (.int .i64)⟩] [(.ret, [⟨8, false, (.slc true (.int .i64))⟩, ⟨9, false, .bool⟩]), ((.exit 0), [⟨2, false, (.int .i64)⟩, ⟨10, false, (.slc true (.int .i64))⟩])] [(1000024, 24)] [],
  .fr 24 [⟨0, false, .str⟩, ⟨1, false, (.int .i64)⟩] [] [⟨0, false, (.int .i64)⟩, ⟨1, false, .bool⟩] (fun d => numB d.1 d.2),
  .fn 12 Tryz.f12 [⟨0, false, .str⟩, ⟨1, false, (.clo 13 .nil)⟩] [] [⟨0, false, (.slc true .str)⟩] [] [([false, true, false, true, true, true], 26), ([false, true, false, true, true, true, true, true, true], 28)],
  .pt 12 Tryz.f12 [false, true, false, true, true, true] true [⟨0, false, .str⟩, ⟨1, false, (.clo 13 .nil)⟩, ⟨5, false, (.slc true (.pair (.int .i64) (.int .i64)))⟩, ⟨6, false, (.int .i64)⟩, ⟨14, false, (.blob true .iter)⟩] [((.exit 0), [⟨0, false, .str⟩, ⟨5, false, (.slc true (.pair (.int .i64) (.int .i64)))⟩, ⟨6, false, (.int .i64)⟩])] [(21, 27)] [],
  .fn 13 Tryz.f13 [⟨0, false, (.int .i32)⟩] [] [⟨0, false, .bool⟩] [] [],
  .pt 12 Tryz.f12 [false, true, false, true, true, true, true, true, true] true [⟨0, false, .str⟩, ⟨9, false, (.slc true .str)⟩, ⟨47, false, (.slc true (.pair (.int .i64) (.int .i64)))⟩, ⟨48, false, (.int .i64)⟩, ⟨49, false, (.int .i64)⟩] [((.exit 2), [⟨9, false, (.slc true .str)⟩])] [] [],
  .pt 5 Tryz.f5 [false, true, false, true, true, true, true, true] true [⟨0, false, .str⟩, ⟨2, false, (.box true (.cons .str (.cons (.int .i64) (.cons (.int .i64) (.slc true (.pair (.int .i64) (.pair (.int .i64) (.int .i64))))))))⟩, ⟨6, false, .bool⟩, ⟨7, false, (.box true (.cons .str (.cons (.int .i64) (.cons (.int .i64) (.slc true (.pair (.int .i64) (.pair (.int .i64) (.int .i64))))))))⟩, ⟨38, false, (.slc true .str)⟩, ⟨39, false, (.int .i64)⟩, ⟨40, false, (.int .i64)⟩] [((.exit 0), [⟨0, false, .str⟩, ⟨2, false, (.box true (.cons .str (.cons (.int .i64) (.cons (.int .i64) (.slc true (.pair (.int .i64) (.pair (.int .i64) (.int .i64))))))))⟩, ⟨6, false, .bool⟩, ⟨7, false, (.box true (.cons .str (.cons (.int .i64) (.cons (.int .i64) (.slc true (.pair (.int .i64) (.pair (.int .i64) (.int .i64))))))))⟩])] [(1000011, 22)] [],
  .fn 14 Tryz.f14 [⟨0, true, (.cons .str (.cons (.int .i64) (.cons (.int .i64) (.slc false (.pair (.int .i64) (.pair (.int .i64) (.int .i64)))))))⟩] [] [⟨0, false, .bool⟩] [(1000025, 31), (1000026, 39)] [],
  .fn 25 Tryz.f25 [⟨0, false, .str⟩, ⟨1, false, (.int .i64)⟩, ⟨2, false, (.int .i64)⟩] [] [⟨0, false, (.int .i64)⟩, ⟨1, false, .bool⟩] [(1000042, 32), (1000043, 37)] []]
noncomputable def ents2 : List Ent := [
  .fn 42 Tryz.f42 [⟨0, false, .str⟩, ⟨1, false, (.int .i64)⟩, ⟨2, false, (.int .i64)⟩] [] [⟨0, false, .bool⟩] [(1000045, 33), (1000059, 36)] [],
  .fn 45 Tryz.f45 [⟨0, false, .str⟩] [] [⟨0, false, .bool⟩] [(1000041, 34), (1000060, 35)] [],
  .fn 41 Tryz.f41 [⟨0, false, (.int .i64)⟩, ⟨1, false, (.int .i64)⟩, ⟨2, false, (.int .i64)⟩] [] [⟨0, false, .bool⟩] [] [],
  .fr 60 [⟨0, false, .str⟩, ⟨1, false, .str⟩] [] [⟨0, false, .str⟩] (fun d => strTrim d.1 d.2),
  .fn 59 Tryz.f59 [⟨0, false, (.int .i64)⟩, ⟨1, false, (.int .i64)⟩] [] [⟨0, false, .bool⟩] [(1000041, 34)] [],
  .fn 43 Tryz.f43 [⟨0, false, (.int .i64)⟩, ⟨1, false, (.int .i64)⟩, ⟨2, false, (.int .i64)⟩] [] [⟨0, false, (.int .i64)⟩] [] [([false, true, false, true, true], 38)],
  .pt 43 Tryz.f43 [false, true, false, true, true] true [⟨0, false, (.int .i64)⟩, ⟨2, false, (.int .i64)⟩, ⟨7, false, (.int .i64)⟩, ⟨8, false, (.int .i64)⟩, ⟨9, false, (.int .i64)⟩] [((.exit 0), [⟨7, false, (.int .i64)⟩])] [] [],
  .fn 26 Tryz.f26 [⟨0, false, (.slc false (.pair (.int .i64) (.pair (.int .i64) (.int .i64))))⟩, ⟨1, false, (.clo 27 (.box false (.cons .str (.cons (.int .i64) (.cons (.int .i64) (.sref 0))))))⟩] [] [⟨0, false, .bool⟩] [(1000044, 40)] [],
  .fn 44 Tryz.f44 [⟨0, false, (.slc false (.pair (.int .i64) (.pair (.int .i64) (.int .i64))))⟩, ⟨1, false, (.clo 27 (.box false (.cons .str (.cons (.int .i64) (.cons (.int .i64) (.sref 0))))))⟩] [] [⟨0, false, (.int .i64)⟩] [] [([false, true, false, true], 41)],
  .pt 44 Tryz.f44 [false, true, false, true] true [⟨0, false, (.slc false (.pair (.int .i64) (.pair (.int .i64) (.int .i64))))⟩, ⟨1, false, (.clo 27 (.box false (.cons .str (.cons (.int .i64) (.cons (.int .i64) (.sref 0))))))⟩, ⟨7, false, (.int .i64)⟩, ⟨8, false, (.int .i64)⟩] [(.ret, [⟨4, false, (.int .i64)⟩]), ((.exit 0), [])] [(16, 42)] [],
  .fn 27 Tryz.f27 [⟨0, true, (.cons (.int .i64) (.cons (.int .i64) (.int .i64)))⟩, ⟨1, false, (.box false (.cons .str (.cons (.int .i64) (.cons (.int .i64) (.slc false (.pair (.int .i64) (.pair (.int .i64) (.int .i64))))))))⟩] [] [⟨0, false, .bool⟩] [(1000028, 43)] [],
  .fn 28 Tryz.f28 [⟨0, false, .str⟩, ⟨1, false, (.int .i64)⟩, ⟨2, true, (.cons (.int .i64) (.cons (.int .i64) (.int .i64)))⟩] [] [⟨0, false, .bool⟩] [(1000045, 33), (1000041, 34), (1000046, 44)] [],
  .fn 46 Tryz.f46 [⟨0, false, (.int .i64)⟩] [] [⟨0, false, .bool⟩] [(1000041, 34)] [],
  .fn 15 Tryz.f15 [⟨0, true, (.cons .str (.cons (.int .i64) (.cons (.int .i64) (.slc false (.pair (.int .i64) (.pair (.int .i64) (.int .i64)))))))⟩] [] [⟨0, false, .str⟩] [(1000030, 49), (1000031, 50)] [([false, true, false, true, true], 46)],
  .pt 15 Tryz.f15 [false, true, false, true, true] true [⟨1, false, (.box true (.cons .str (.cons (.int .i64) (.cons (.int .i64) (.slc false (.pair (.int .i64) (.pair (.int .i64) (.int .i64))))))))⟩, ⟨3, false, (.slc true .str)⟩, ⟨8, false, (.sref 0)⟩, ⟨9, false, (.int .i64)⟩, ⟨10, false, (.int .i64)⟩] [((.exit 0), [⟨1, false, (.box true (.cons .str (.cons (.int .i64) (.cons (.int .i64) (.slc false (.pair (.int .i64) (.pair (.int .i64) (.int .i64))))))))⟩, ⟨3, false, (.slc true .str)⟩])] [(1000029, 47)] [],
  .fn 29 Tryz.f29 [⟨0, false, .str⟩, ⟨1, false, (.slc false (.int .i64))⟩] [] [⟨0, false, .str⟩] [(1000031, 50)] [([false, true, false, true, true], 48)]]
noncomputable def ents3 : List Ent := [
  .pt 29 Tryz.f29 [false, true, false, true, true] true [⟨0, false, .str⟩, ⟨5, false, (.slc true .str)⟩, ⟨9, false, (.slc false (.int .i64))⟩, ⟨10, false, (.int .i64)⟩, ⟨11, false, (.int .i64)⟩] [((.exit 0), [⟨0, false, .str⟩, ⟨5, false, (.slc true .str)⟩])] [(1000030, 49)] [],
  .fr 30 [⟨0, false, (.int .i64)⟩] [] [⟨0, false, .str⟩] (fun d => itoaAll d),
  .fr 31 [⟨0, false, (.slc false .str)⟩, ⟨1, false, .str⟩] [] [⟨0, false, .str⟩] (fun d => joinS d.1 d.2),
  .fn 6 Tryz.f6 [⟨0, true, (.cons .str (.cons (.int .i64) (.cons (.int .i64) (.slc false (.pair (.int .i64) (.pair (.int .i64) (.int .i64)))))))⟩, ⟨1, true, (.cons .str (.cons (.int .i64) (.cons (.int .i64) (.slc false (.pair (.int .i64) (.pair (.int .i64) (.int .i64)))))))⟩] [] [⟨0, false, .bool⟩] [(1000016, 52)] [],
  .fn 16 Tryz.f16 [⟨0, false, (.slc false (.pair (.int .i64) (.pair (.int .i64) (.int .i64))))⟩, ⟨1, false, (.slc false (.pair (.int .i64) (.pair (.int .i64) (.int .i64))))⟩] [] [⟨0, false, .bool⟩] [] [([false, true, false, true, true], 53)],
  .pt 16 Tryz.f16 [false, true, false, true, true] true [⟨0, false, (.slc false (.pair (.int .i64) (.pair (.int .i64) (.int .i64))))⟩, ⟨1, false, (.slc false (.pair (.int .i64) (.pair (.int .i64) (.int .i64))))⟩, ⟨5, false, (.int .i64)⟩] [(.ret, [⟨4, false, .bool⟩]), ((.exit 0), [])] [(1000032, 54)] [],
  .fn 32 Tryz.f32 [⟨0, true, (.cons (.int .i64) (.cons (.int .i64) (.int .i64)))⟩, ⟨1, true, (.cons (.int .i64) (.cons (.int .i64) (.int .i64)))⟩] [] [⟨0, false, .bool⟩] [] [],
  .fn 7 Tryz.f7 [⟨0, true, (.cons .str (.cons (.int .i64) (.cons (.int .i64) (.slc true (.pair (.int .i64) (.pair (.int .i64) (.int .i64)))))))⟩, ⟨1, false, (.int .i64)⟩] [0] [⟨0, false, (.int .i64)⟩] [(1000017, 56)] [],
  .fn 17 Tryz.f17 [⟨0, false, (.slc true (.pair (.int .i64) (.pair (.int .i64) (.int .i64))))⟩, ⟨1, false, (.int .i64)⟩] [0] [⟨0, false, (.int .i64)⟩] [] [([false, true, false, true], 57)],
  .pt 17 Tryz.f17 [false, true, false, true] true [⟨0, false, (.slc true (.pair (.int .i64) (.pair (.int .i64) (.int .i64))))⟩, ⟨1, false, (.int .i64)⟩, ⟨5, false, (.int .i64)⟩, ⟨100000, false, (.sref 0)⟩] [((.exit 0), [⟨1, false, (.int .i64)⟩, ⟨100000, false, (.slc true (.pair (.int .i64) (.pair (.int .i64) (.int .i64))))⟩])] [] [],
  .fn 8 Tryz.f8 [⟨0, true, (.cons .str (.cons (.int .i64) (.cons (.int .i64) (.slc false (.pair (.int .i64) (.pair (.int .i64) (.int .i64)))))))⟩, ⟨1, false, (.int .i64)⟩] [] [⟨0, false, (.int .i64)⟩] [(1000018, 59)] [],
  .fn 18 Tryz.f18 [⟨0, false, (.slc false (.pair (.int .i64) (.pair (.int .i64) (.int .i64))))⟩, ⟨1, false, (.int .i64)⟩] [] [⟨0, false, (.int .i64)⟩] [] [([false, true, false, true], 60)],
  .pt 18 Tryz.f18 [false, true, false, true] true [⟨0, false, (.slc false (.pair (.int .i64) (.pair (.int .i64) (.int .i64))))⟩, ⟨1, false, (.int .i64)⟩, ⟨5, false, (.int .i64)⟩] [(.ret, [⟨4, false, (.int .i64)⟩]), ((.exit 0), [⟨1, false, (.int .i64)⟩])] [] []]
noncomputable def E (e : Nat) : Ent := (match e / 16 with | 0 => ents0 | 1 => ents1 | 2 => ents2 | 3 => ents3 | _ => ents0).getD (e % 16) (.pt 0 Tryz.f0 [] false [] [] [] [])
noncomputable def laws_FnExactParsePuzzle (k : Nat) (d : ByteArray) : Option (Bool) := acall Tryz.prog E k 0 d
noncomputable def spec_ParsePuzzle (k : Nat) (d : ByteArray) : Option ((ByteArray × (Int × (Int × List (Int × (Int × Int))))) × Bool) := acall Tryz.prog E k 1 d
noncomputable def spec_pzParse (k : Nat) (d : ByteArray) : Option ((ByteArray × (Int × (Int × List (Int × (Int × Int))))) × Bool) := acall Tryz.prog E k 2 d
noncomputable def spec_l1Split (k : Nat) (d : ByteArray × Int) : Option (List ByteArray) := acall Tryz.prog E k 3 d
noncomputable def spec_l1Split_l (k : Nat) (d : ByteArray × Int × List ByteArray × Int × Int) : Option (ByteArray × List ByteArray × Int) := acall Tryz.prog E k 4 d
noncomputable def spec_l1Read (k : Nat) (d : ByteArray) : Option (Int) := acall Tryz.prog E k 5 d
noncomputable def spec_l1In (k : Nat) (d : Int × Int × Int) : Option (Bool) := acall Tryz.prog E k 6 d
noncomputable def spec_l1Read_l (k : Nat) (d : ByteArray × Int × Int) : Option ((Int) ⊕ (Int)) := acall Tryz.prog E k 7 d
noncomputable def spec_pzParse_l (k : Nat) (d : ByteArray × (ByteArray × (Int × (Int × List (Int × (Int × Int))))) × (ByteArray × (Int × (Int × List (Int × (Int × Int))))) × List ByteArray × Int × Int) : Option (((ByteArray × (Int × (Int × List (Int × (Int × Int))))) × Bool) ⊕ (ByteArray × (ByteArray × (Int × (Int × List (Int × (Int × Int))))) × (ByteArray × (Int × (Int × List (Int × (Int × Int))))))) := acall Tryz.prog E k 8 d
noncomputable def spec_pzGood (k : Nat) (d : (ByteArray × (Int × (Int × List (Int × (Int × Int)))))) : Option (Bool) := acall Tryz.prog E k 9 d
noncomputable def spec_pzSize (k : Nat) (d : ByteArray × Int × Int) : Option (Bool) := acall Tryz.prog E k 10 d
noncomputable def spec_woRule (k : Nat) (d : ByteArray) : Option (Bool) := acall Tryz.prog E k 11 d
noncomputable def spec_woRule_l (k : Nat) (d : ByteArray × Int) : Option ((Bool) ⊕ (Unit)) := acall Tryz.prog E k 12 d
noncomputable def spec_pzPower (k : Nat) (d : ByteArray × Int) : Option (Int) := acall Tryz.prog E k 13 d
noncomputable def spec_pzPower_l (k : Nat) (d : ByteArray × Int × Int) : Option ((Int) ⊕ (Int)) := acall Tryz.prog E k 14 d
noncomputable def spec_pzGood_l (k : Nat) (d : (ByteArray × (Int × (Int × List (Int × (Int × Int))))) × Unit × Int × Int) : Option ((Bool) ⊕ (Unit)) := acall Tryz.prog E k 15 d
noncomputable def spec_pzClue (k : Nat) (d : ByteArray × Int × (Int × (Int × Int))) : Option (Bool) := acall Tryz.prog E k 16 d
noncomputable def spec_pzText (k : Nat) (d : (ByteArray × (Int × (Int × List (Int × (Int × Int)))))) : Option (ByteArray) := acall Tryz.prog E k 17 d
noncomputable def spec_l1Num (k : Nat) (d : Int) : Option (ByteArray) := acall Tryz.prog E k 18 d
noncomputable def spec_pzText_l (k : Nat) (d : ByteArray × List (Int × (Int × Int)) × Int × Int) : Option (ByteArray) := acall Tryz.prog E k 19 d
noncomputable def impl_ParsePuzzle (k : Nat) (d : ByteArray) : Option ((ByteArray × (Int × (Int × List (Int × (Int × Int))))) × Bool) := acall Tryz.prog E k 20 d
noncomputable def strings_Split (k : Nat) (d : ByteArray × ByteArray) : Option (List ByteArray) := acall Tryz.prog E k 21 d
noncomputable def impl_numbers (k : Nat) (d : ByteArray × ByteArray × Int × Int) : Option (List Int × Bool) := acall Tryz.prog E k 22 d
noncomputable def impl_numbers_l (k : Nat) (d : Int × Int × List Int × List ByteArray × Int × Int) : Option ((List Int × Bool) ⊕ (Int × List Int)) := acall Tryz.prog E k 23 d
noncomputable def impl_number (k : Nat) (d : ByteArray × Int) : Option (Int × Bool) := acall Tryz.prog E k 24 d
noncomputable def strings_FieldsFunc (k : Nat) (d : ByteArray × Unit) : Option (List ByteArray) := acall Tryz.prog E k 25 d
noncomputable def strings_FieldsFunc_l (k : Nat) (d : ByteArray × Unit × List (Int × Int) × Int × (ByteArray × Nat)) : Option (ByteArray × List (Int × Int) × Int) := acall Tryz.prog E k 26 d
noncomputable def impl_ParsePuzzle_1 (k : Nat) (d : Int) : Option (Bool) := acall Tryz.prog E k 27 d
noncomputable def strings_FieldsFunc_l_2 (k : Nat) (d : ByteArray × List ByteArray × List (Int × Int) × Int × Int) : Option (List ByteArray) := acall Tryz.prog E k 28 d
noncomputable def impl_ParsePuzzle_l (k : Nat) (d : ByteArray × (ByteArray × (Int × (Int × List (Int × (Int × Int))))) × Bool × (ByteArray × (Int × (Int × List (Int × (Int × Int))))) × List ByteArray × Int × Int) : Option (ByteArray × (ByteArray × (Int × (Int × List (Int × (Int × Int))))) × Bool × (ByteArray × (Int × (Int × List (Int × (Int × Int)))))) := acall Tryz.prog E k 29 d
noncomputable def impl_IsPuzzle (k : Nat) (d : (ByteArray × (Int × (Int × List (Int × (Int × Int)))))) : Option (Bool) := acall Tryz.prog E k 30 d
noncomputable def impl_CountBoards (k : Nat) (d : ByteArray × Int × Int) : Option (Int × Bool) := acall Tryz.prog E k 31 d
noncomputable def impl_isHidden (k : Nat) (d : ByteArray × Int × Int) : Option (Bool) := acall Tryz.prog E k 32 d
noncomputable def impl_IsRule (k : Nat) (d : ByteArray) : Option (Bool) := acall Tryz.prog E k 33 d
noncomputable def impl_within (k : Nat) (d : Int × Int × Int) : Option (Bool) := acall Tryz.prog E k 34 d
noncomputable def strings_Trim (k : Nat) (d : ByteArray × ByteArray) : Option (ByteArray) := acall Tryz.prog E k 35 d
noncomputable def impl_isSize (k : Nat) (d : Int × Int) : Option (Bool) := acall Tryz.prog E k 36 d
noncomputable def impl_boards (k : Nat) (d : Int × Int × Int) : Option (Int) := acall Tryz.prog E k 37 d
noncomputable def impl_boards_l (k : Nat) (d : Int × Int × Int × Int × Int) : Option (Int) := acall Tryz.prog E k 38 d
noncomputable def slices_ContainsFunc (k : Nat) (d : List (Int × (Int × Int)) × (ByteArray × (Int × (Int × Unit)))) : Option (Bool) := acall Tryz.prog E k 39 d
noncomputable def slices_IndexFunc (k : Nat) (d : List (Int × (Int × Int)) × (ByteArray × (Int × (Int × Unit)))) : Option (Int) := acall Tryz.prog E k 40 d
noncomputable def slices_IndexFunc_l (k : Nat) (d : List (Int × (Int × Int)) × (ByteArray × (Int × (Int × Unit))) × Int × Int) : Option ((Int) ⊕ (Unit)) := acall Tryz.prog E k 41 d
noncomputable def impl_IsPuzzle_1 (k : Nat) (d : (Int × (Int × Int)) × (ByteArray × (Int × (Int × List (Int × (Int × Int)))))) : Option (Bool) := acall Tryz.prog E k 42 d
noncomputable def impl_IsClue (k : Nat) (d : ByteArray × Int × (Int × (Int × Int))) : Option (Bool) := acall Tryz.prog E k 43 d
noncomputable def impl_isWay (k : Nat) (d : Int) : Option (Bool) := acall Tryz.prog E k 44 d
noncomputable def impl_puzzleText (k : Nat) (d : (ByteArray × (Int × (Int × List (Int × (Int × Int)))))) : Option (ByteArray) := acall Tryz.prog E k 45 d
noncomputable def impl_puzzleText_l (k : Nat) (d : (ByteArray × (Int × (Int × List (Int × (Int × Int))))) × List ByteArray × Unit × Int × Int) : Option ((ByteArray × (Int × (Int × List (Int × (Int × Int))))) × List ByteArray) := acall Tryz.prog E k 46 d
noncomputable def impl_listText (k : Nat) (d : ByteArray × List Int) : Option (ByteArray) := acall Tryz.prog E k 47 d
noncomputable def impl_listText_l (k : Nat) (d : ByteArray × List ByteArray × List Int × Int × Int) : Option (ByteArray × List ByteArray) := acall Tryz.prog E k 48 d
noncomputable def strconv_Itoa (k : Nat) (d : Int) : Option (ByteArray) := acall Tryz.prog E k 49 d
noncomputable def strings_Join (k : Nat) (d : List ByteArray × ByteArray) : Option (ByteArray) := acall Tryz.prog E k 50 d
noncomputable def laws_eqPuzzle (k : Nat) (d : (ByteArray × (Int × (Int × List (Int × (Int × Int))))) × (ByteArray × (Int × (Int × List (Int × (Int × Int)))))) : Option (Bool) := acall Tryz.prog E k 51 d
noncomputable def laws_eqClueS (k : Nat) (d : List (Int × (Int × Int)) × List (Int × (Int × Int))) : Option (Bool) := acall Tryz.prog E k 52 d
noncomputable def laws_eqClueS_l (k : Nat) (d : List (Int × (Int × Int)) × List (Int × (Int × Int)) × Int) : Option ((Bool) ⊕ (Unit)) := acall Tryz.prog E k 53 d
noncomputable def laws_eqClue (k : Nat) (d : (Int × (Int × Int)) × (Int × (Int × Int))) : Option (Bool) := acall Tryz.prog E k 54 d
noncomputable def laws_markPuzzle (k : Nat) (d : (ByteArray × (Int × (Int × List (Int × (Int × Int))))) × Int) : Option ((Int) × ((ByteArray × (Int × (Int × List (Int × (Int × Int))))))) := acall Tryz.prog E k 55 d
noncomputable def laws_markClueS (k : Nat) (d : List (Int × (Int × Int)) × Int) : Option ((Int) × (List (Int × (Int × Int)))) := acall Tryz.prog E k 56 d
noncomputable def laws_markClueS_l (k : Nat) (d : List (Int × (Int × Int)) × Int × Int × Unit) : Option (Int × List (Int × (Int × Int))) := acall Tryz.prog E k 57 d
noncomputable def laws_heldPuzzle (k : Nat) (d : (ByteArray × (Int × (Int × List (Int × (Int × Int))))) × Int) : Option (Int) := acall Tryz.prog E k 58 d
noncomputable def laws_heldClueS (k : Nat) (d : List (Int × (Int × Int)) × Int) : Option (Int) := acall Tryz.prog E k 59 d
noncomputable def laws_heldClueS_l (k : Nat) (d : List (Int × (Int × Int)) × Int × Int) : Option ((Int) ⊕ (Int)) := acall Tryz.prog E k 60 d
end Go.Proofs.YtaookbfcncfkbaaGreatDoorS
