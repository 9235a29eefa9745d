/- The entries: functions, loops, with the kinds of their data (printed by wip/sim/gen.py). -/
import Derived.Test.YtfklcheeoieniaaGreatSimB
import Derived.Test.YtfklcheeoieniaaGreatSimFd
import Derived.Test.YtfklcheeoieniaaGreatProg
namespace Go.Proofs.YtfklcheeoieniaaGreatS
open Go Go.Proofs
set_option maxRecDepth 100000
def bs (l : List UInt8) : ByteArray := ⟨l.toArray⟩
noncomputable def ents0 : List Ent := [
  .fn 3 Tryz.f3 [⟨0, false, (.slc false (.int .u8))⟩, ⟨1, false, (.slc false (.int .u8))⟩] [] [⟨0, false, .bool⟩] [(1000004, 1), (1000005, 2), (1000006, 19), (1000007, 31), (1000008, 39), (1000009, 40), (1000010, 20), (1000011, 41), (1000012, 43), (1000013, 52), (1000014, 56), (1000015, 57), (1000016, 58), (1000017, 59), (1000018, 61), (1000019, 63), (1000020, 65), (1000021, 67), (1000022, 9)] [([false, true, false, true, true, true, true, true, true, true, true, true, true, false, true, false, true, true, true, true, true, true, true, true], 55)],
  .fn 4 Tryz.f4 [⟨0, false, (.slc false (.int .u8))⟩, ⟨1, false, (.slc false (.int .u8))⟩] [] [⟨0, false, .bool⟩] [] [],
  .fn 5 Tryz.f5 [⟨0, false, (.slc false (.int .u8))⟩] [] [⟨0, false, .str⟩] [(1000023, 3)] [],
  .fn 23 Tryz.f23 [⟨0, false, (.slc false (.int .u8))⟩] [] [⟨0, false, .str⟩] [(1000037, 4)] [],
  .fn 37 Tryz.f37 [⟨0, false, (.box true (.cons (.slc false (.int .u8)) (.cons (.int .i64) (.int .u64))))⟩] [0] [⟨0, false, .str⟩] [(1000057, 5), (1000041, 6), (1000058, 18)] [],
  .fn 57 Tryz.f57 [⟨0, false, (.box true (.cons (.slc false (.int .u8)) (.cons (.int .i64) (.int .u64))))⟩, ⟨1, false, (.int .i64)⟩] [0] [⟨0, false, .str⟩] [(1000041, 6), (1000059, 7), (1000022, 9)] [([false, true, false, true, true, true], 17)],
  .fn 41 Tryz.f41 [⟨0, false, (.box true (.cons (.slc false (.int .u8)) (.cons (.int .i64) (.int .u64))))⟩, ⟨1, false, (.int .i64)⟩] [0] [⟨0, false, .bool⟩] [(1000059, 7)] [],
  .fn 59 Tryz.f59 [⟨0, false, (.box true (.cons (.slc false (.int .u8)) (.cons (.int .i64) (.int .u64))))⟩, ⟨1, false, (.int .i64)⟩] [0] [⟨0, false, (.int .i64)⟩] [(1000067, 8)] [],
  .fn 67 Tryz.f67 [⟨0, false, (.box true (.cons (.slc false (.int .u8)) (.cons (.int .i64) (.int .u64))))⟩] [0] [⟨0, false, (.int .i64)⟩] [] [],
  .fn 22 Tryz.f22 [⟨0, false, (.int .i64)⟩, ⟨1, false, (.slc false (.int .i64))⟩] [] [⟨0, false, .str⟩, ⟨1, false, .bool⟩] [(1000039, 10), (1000047, 11)] [([false, true, false, true, true, true], 13)],
  .fn 39 Tryz.f39 [⟨0, false, (.int .i64)⟩, ⟨1, false, (.int .i64)⟩, ⟨2, false, (.int .i64)⟩] [] [⟨0, false, .bool⟩] [] [],
  .fn 47 Tryz.f47 [⟨0, false, (.slc false (.int .i64))⟩, ⟨1, false, (.int .i64)⟩, ⟨2, false, (.int .i64)⟩] [] [⟨0, false, .bool⟩] [] [([false, true, false, true], 12)],
  .pt 47 Tryz.f47 [false, true, false, true] true [⟨0, false, (.slc false (.int .i64))⟩, ⟨1, false, (.int .i64)⟩, ⟨2, false, (.int .i64)⟩, ⟨9, false, (.sref 0)⟩, ⟨10, false, (.int .i64)⟩, ⟨11, false, (.int .i64)⟩] [(.ret, [⟨6, false, .bool⟩]), ((.exit 0), [])] [(1000039, 10)] [],
  .pt 22 Tryz.f22 [false, true, false, true, true, true] true [⟨0, false, (.int .i64)⟩, ⟨1, false, (.slc false (.int .i64))⟩, ⟨6, false, .str⟩, ⟨7, false, (.int .i64)⟩] [((.exit 0), [⟨6, false, .str⟩])] [(1000040, 14), (1000048, 15)] [],
  .fn 40 Tryz.f40 [⟨0, false, (.int .i64)⟩] [] [⟨0, false, .str⟩] [(1000040, 14)] [],
  .fn 48 Tryz.f48 [⟨0, false, (.slc false (.int .i64))⟩, ⟨1, false, (.int .i64)⟩] [] [⟨0, false, .bool⟩] [] [([false, true, false, true], 16)]]
noncomputable def ents1 : List Ent := [
  .pt 48 Tryz.f48 [false, true, false, true] true [⟨1, false, (.int .i64)⟩, ⟨7, false, (.slc false (.int .i64))⟩, ⟨8, false, (.int .i64)⟩, ⟨9, false, (.int .i64)⟩] [(.ret, [⟨4, false, .bool⟩]), ((.exit 0), [])] [] [],
  .pt 57 Tryz.f57 [false, true, false, true, true, true] true [⟨0, false, (.box true (.cons (.slc false (.int .u8)) (.cons (.int .i64) (.int .u64))))⟩, ⟨7, false, .str⟩, ⟨8, false, (.int .i64)⟩, ⟨100000, false, (.ref 1 3)⟩] [((.exit 0), [⟨7, false, .str⟩, ⟨100000, false, (.box true (.cons (.slc false (.int .u8)) (.cons (.int .i64) (.int .u64))))⟩])] [(1000059, 7), (1000040, 14), (1000058, 18)] [],
  .fn 58 Tryz.f58 [⟨0, false, (.box true (.cons (.slc false (.int .u8)) (.cons (.int .i64) (.int .u64))))⟩, ⟨1, false, (.slc false .str)⟩] [0] [⟨0, false, .str⟩] [(1000059, 7)] [],
  .fn 6 Tryz.f6 [⟨0, false, .str⟩] [] [⟨0, false, .str⟩, ⟨1, false, .bool⟩] [(1000010, 20), (1000025, 24), (1000024, 25), (1000026, 27), (1000027, 29)] [],
  .fn 10 Tryz.f10 [⟨0, false, .str⟩] [] [⟨0, false, .bool⟩] [(1000030, 22)] [([false, true, false, true], 21)],
  .pt 10 Tryz.f10 [false, true, false, true] true [⟨0, false, .str⟩, ⟨6, false, (.int .i64)⟩, ⟨7, false, (.int .i64)⟩] [(.ret, [⟨2, false, .bool⟩]), ((.exit 0), [⟨0, false, .str⟩])] [(1000030, 22), (1000031, 23)] [],
  .fn 30 Tryz.f30 [⟨0, false, (.int .i64)⟩, ⟨1, false, (.int .i64)⟩, ⟨2, false, (.int .i64)⟩] [] [⟨0, false, .bool⟩] [] [],
  .fr 31 [⟨0, false, .str⟩, ⟨1, false, .str⟩] [] [⟨0, false, .bool⟩] (fun d => strContains1 d.1 d.2),
  .fr 25 [⟨0, false, .str⟩] [] [⟨0, false, .str⟩] (fun d => otherB 76 82 d),
  .fn 24 Tryz.f24 [⟨0, false, .str⟩] [] [⟨0, false, (.slc true (.pair (.int .i64) (.int .u8)))⟩] [] [([false, true, false, true, true], 26)],
  .pt 24 Tryz.f24 [false, true, false, true, true] true [⟨0, false, .str⟩, ⟨3, false, (.slc true (.pair (.int .i64) (.int .u8)))⟩, ⟨4, false, (.int .i64)⟩] [((.exit 0), [⟨3, false, (.slc true (.pair (.int .i64) (.int .u8)))⟩])] [] [],
  .fn 26 Tryz.f26 [⟨0, false, (.slc true (.pair (.int .i64) (.int .u8)))⟩] [0] [] [] [([false, true], 28)],
  .pt 26 Tryz.f26 [false, true] true [⟨0, false, (.slc true (.pair (.int .i64) (.int .u8)))⟩, ⟨2, false, (.int .i64)⟩, ⟨3, false, (.int .i64)⟩, ⟨100000, false, (.sref 0)⟩] [((.exit 0), [⟨100000, false, (.slc true (.pair (.int .i64) (.int .u8)))⟩])] [] [],
  .fn 27 Tryz.f27 [⟨0, false, (.slc false (.pair (.int .i64) (.int .u8)))⟩] [] [⟨0, false, .str⟩] [] [([false, true, false, true, true], 30)],
  .pt 27 Tryz.f27 [false, true, false, true, true] true [⟨3, false, (.slc true (.int .u8))⟩, ⟨7, false, (.slc false (.pair (.int .i64) (.int .u8)))⟩, ⟨8, false, (.int .i64)⟩, ⟨9, false, (.int .i64)⟩] [((.exit 0), [⟨3, false, (.slc true (.int .u8))⟩])] [] [],
  .fn 7 Tryz.f7 [⟨0, false, .str⟩] [] [⟨0, false, .str⟩, ⟨1, false, .bool⟩] [(1000028, 32)] [([false, true, false, true, true, true], 36)]]
noncomputable def ents2 : List Ent := [
  .fn 28 Tryz.f28 [⟨0, false, .str⟩] [] [⟨0, false, .bool⟩] [(1000039, 10)] [([false, true, false, true, true], 33)],
  .pt 28 Tryz.f28 [false, true, false, true, true] true [⟨0, false, .str⟩, ⟨3, false, (.int .i64)⟩] [(.ret, [⟨2, false, .bool⟩]), ((.exit 0), [])] [(1000051, 34)] [],
  .fn 51 Tryz.f51 [⟨0, false, .str⟩] [] [⟨0, false, .bool⟩] [(1000039, 10)] [([false, true, false, true, true], 35)],
  .pt 51 Tryz.f51 [false, true, false, true, true] true [⟨0, false, .str⟩, ⟨3, false, (.int .i64)⟩] [(.ret, [⟨2, false, .bool⟩]), ((.exit 0), [])] [] [],
  .pt 7 Tryz.f7 [false, true, false, true, true, true] true [⟨0, false, .str⟩, ⟨4, false, .str⟩, ⟨5, false, (.int .i64)⟩] [((.exit 0), [⟨4, false, .str⟩])] [(1000029, 37)] [],
  .fn 29 Tryz.f29 [⟨0, false, .str⟩] [] [⟨0, false, .str⟩] [] [([false, true, false, true, true], 38)],
  .pt 29 Tryz.f29 [false, true, false, true, true] true [⟨0, false, .str⟩, ⟨3, false, .str⟩, ⟨4, false, (.int .i64)⟩] [((.exit 0), [⟨3, false, .str⟩])] [] [],
  .fn 8 Tryz.f8 [⟨0, false, .str⟩] [] [⟨0, false, .str⟩, ⟨1, false, .bool⟩] [(1000010, 20), (1000025, 24)] [],
  .fn 9 Tryz.f9 [⟨0, false, .str⟩] [] [⟨0, false, .str⟩, ⟨1, false, .bool⟩] [(1000028, 32), (1000029, 37)] [],
  .fn 11 Tryz.f11 [⟨0, false, .str⟩] [] [⟨0, false, (.int .i64)⟩, ⟨1, false, .bool⟩] [(1000010, 20), (1000032, 42)] [],
  .fr 32 [⟨0, false, .str⟩, ⟨1, false, .str⟩] [] [⟨0, false, (.int .i64)⟩] (fun d => strCount1 d.1 d.2),
  .fn 12 Tryz.f12 [⟨0, false, .str⟩, ⟨1, false, (.int .i64)⟩] [] [⟨0, false, (.int .i64)⟩, ⟨1, false, (.int .i64)⟩, ⟨2, false, (.int .i64)⟩, ⟨3, false, .bool⟩] [(1000033, 44), (1000034, 45)] [],
  .fn 33 Tryz.f33 [⟨0, false, .str⟩, ⟨1, false, (.int .i64)⟩] [] [⟨0, false, .bool⟩] [(1000010, 20), (1000030, 22)] [],
  .fn 34 Tryz.f34 [⟨0, true, (.cons (.int .i64) (.cons (.int .i64) (.int .i64)))⟩, ⟨1, false, .str⟩, ⟨2, false, (.int .i64)⟩, ⟨3, false, (.clo 35 .nil)⟩, ⟨4, false, (.clo 35 .nil)⟩] [] [⟨0, true, (.cons (.int .i64) (.cons (.int .i64) (.int .i64)))⟩] [] [([false, true, false, true], 46)],
  .pt 34 Tryz.f34 [false, true, false, true] true [⟨1, false, .str⟩, ⟨3, false, (.clo 35 .nil)⟩, ⟨4, false, (.clo 35 .nil)⟩, ⟨5, false, (.box true (.cons (.int .i64) (.cons (.int .i64) (.int .i64))))⟩, ⟨10, false, (.box true (.cons (.int .i64) (.cons (.int .i64) (.int .i64))))⟩, ⟨15, false, (.int .i64)⟩, ⟨16, false, (.int .i64)⟩] [((.exit 0), [⟨5, false, (.box true (.cons (.int .i64) (.cons (.int .i64) (.int .i64))))⟩, ⟨10, false, (.box true (.cons (.int .i64) (.cons (.int .i64) (.int .i64))))⟩])] [(1000024, 25)] [([false, true, false, false, true, true, false, false, true, false, true], 47)],
  .pt 34 Tryz.f34 [false, true, false, false, true, true, false, false, true, false, true] true [⟨1, false, .str⟩, ⟨3, false, (.clo 35 .nil)⟩, ⟨4, false, (.clo 35 .nil)⟩, ⟨5, false, (.box true (.cons (.int .i64) (.cons (.int .i64) (.int .i64))))⟩, ⟨10, false, (.box true (.cons (.int .i64) (.cons (.int .i64) (.int .i64))))⟩, ⟨15, false, (.int .i64)⟩, ⟨16, false, (.int .i64)⟩, ⟨19, false, (.slc true (.pair (.int .i64) (.int .u8)))⟩, ⟨20, false, (.int .i64)⟩, ⟨21, false, (.int .i64)⟩] [((.exit 2), [⟨1, false, .str⟩, ⟨3, false, (.clo 35 .nil)⟩, ⟨4, false, (.clo 35 .nil)⟩, ⟨5, false, (.box true (.cons (.int .i64) (.cons (.int .i64) (.int .i64))))⟩, ⟨10, false, (.box true (.cons (.int .i64) (.cons (.int .i64) (.int .i64))))⟩, ⟨15, false, (.int .i64)⟩, ⟨16, false, (.int .i64)⟩])] [(1000055, 48), (1000056, 51), (65, 50)] [([false, true, false, true, true, false, false, true, true, false, false, true, false, false, true, true, false, false, true, false, true], 49)]]
noncomputable def ents3 : List Ent := [
  .fn 55 Tryz.f55 [⟨0, false, (.int .i64)⟩] [] [⟨0, false, (.int .i64)⟩, ⟨1, false, (.int .i64)⟩] [] [],
  .pt 34 Tryz.f34 [false, true, false, true, true, false, false, true, true, false, false, true, false, false, true, true, false, false, true, false, true] true [⟨1, false, .str⟩, ⟨3, false, (.clo 35 .nil)⟩, ⟨4, false, (.clo 35 .nil)⟩, ⟨5, false, (.box true (.cons (.int .i64) (.cons (.int .i64) (.int .i64))))⟩, ⟨10, false, (.box true (.cons (.int .i64) (.cons (.int .i64) (.int .i64))))⟩, ⟨12, false, (.box true (.cons (.int .i64) (.int .u8)))⟩, ⟨13, false, (.int .i64)⟩, ⟨14, false, (.int .i64)⟩, ⟨15, false, (.int .i64)⟩, ⟨16, false, (.int .i64)⟩, ⟨19, false, (.slc true (.pair (.int .i64) (.int .u8)))⟩, ⟨20, false, (.int .i64)⟩, ⟨21, false, (.int .i64)⟩, ⟨32, false, (.int .i64)⟩, ⟨33, false, (.int .i64)⟩] [((.exit 4), [⟨1, false, .str⟩, ⟨3, false, (.clo 35 .nil)⟩, ⟨4, false, (.clo 35 .nil)⟩, ⟨5, false, (.box true (.cons (.int .i64) (.cons (.int .i64) (.int .i64))))⟩, ⟨10, false, (.box true (.cons (.int .i64) (.cons (.int .i64) (.int .i64))))⟩, ⟨12, false, (.box true (.cons (.int .i64) (.int .u8)))⟩, ⟨15, false, (.int .i64)⟩, ⟨16, false, (.int .i64)⟩, ⟨19, false, (.slc true (.pair (.int .i64) (.int .u8)))⟩, ⟨20, false, (.int .i64)⟩, ⟨21, false, (.int .i64)⟩])] [(52, 50)] [],
  .fn 35 Tryz.f35 [⟨0, true, (.cons (.int .i64) (.int .i64))⟩] [] [] [] [],
  .fn 56 Tryz.f56 [⟨0, false, (.int .u8)⟩] [] [⟨0, false, (.int .i64)⟩] [] [],
  .fn 13 Tryz.f13 [⟨0, false, .str⟩, ⟨1, false, (.int .i64)⟩] [] [⟨0, false, (.int .i64)⟩, ⟨1, false, .bool⟩] [(1000033, 44), (1000036, 53)] [],
  .fn 36 Tryz.f36 [⟨0, false, .str⟩, ⟨1, false, (.int .i64)⟩] [] [⟨0, false, (.int .i64)⟩] [(1000024, 25)] [([false, true, false, true, true], 54)],
  .pt 36 Tryz.f36 [false, true, false, true, true] true [⟨1, false, (.int .i64)⟩, ⟨5, false, (.int .i64)⟩, ⟨9, false, (.slc true (.pair (.int .i64) (.int .u8)))⟩, ⟨10, false, (.int .i64)⟩, ⟨11, false, (.int .i64)⟩] [((.exit 0), [⟨1, false, (.int .i64)⟩, ⟨5, false, (.int .i64)⟩])] [] [],
  .pt 3 Tryz.f3 [false, true, false, true, true, true, true, true, true, true, true, true, true, false, true, false, true, true, true, true, true, true, true, true] true [⟨1, false, (.slc false (.int .u8))⟩, ⟨5, false, .str⟩, ⟨18, false, (.int .i64)⟩, ⟨32, false, (.int .i64)⟩, ⟨34, false, (.int .i64)⟩, ⟨234, false, (.blob true .iter)⟩] [((.exit 0), [⟨1, false, (.slc false (.int .u8))⟩, ⟨18, false, (.int .i64)⟩, ⟨32, false, (.int .i64)⟩, ⟨34, false, (.int .i64)⟩])] [] [],
  .fn 14 Tryz.f14 [⟨0, false, (.slc false (.int .u8))⟩] [] [⟨0, false, .str⟩, ⟨1, false, .str⟩] [(1000037, 4)] [],
  .fn 15 Tryz.f15 [⟨0, false, .str⟩, ⟨1, false, .str⟩] [] [⟨0, false, .str⟩, ⟨1, false, .bool⟩] [(1000010, 20)] [],
  .fn 16 Tryz.f16 [⟨0, false, .str⟩, ⟨1, false, .str⟩] [] [⟨0, false, .str⟩, ⟨1, false, .bool⟩] [(1000028, 32)] [],
  .fn 17 Tryz.f17 [⟨0, false, (.slc false (.int .u8))⟩] [] [⟨0, false, .str⟩, ⟨1, false, (.int .i64)⟩] [(1000037, 4), (1000038, 60)] [],
  .fn 38 Tryz.f38 [⟨0, false, (.box true (.cons (.slc false (.int .u8)) (.cons (.int .i64) (.int .u64))))⟩, ⟨1, false, (.slc false (.int .i64))⟩] [0] [⟨0, false, (.int .i64)⟩] [(1000059, 7)] [],
  .fn 18 Tryz.f18 [⟨0, false, .str⟩, ⟨1, false, (.int .i64)⟩] [] [⟨0, false, .str⟩, ⟨1, false, .bool⟩] [(1000010, 20), (1000030, 22), (1000024, 25), (1000027, 29)] [([false, true, false, true, true, true], 62)],
  .pt 18 Tryz.f18 [false, true, false, true, true, true] true [⟨1, false, (.int .i64)⟩, ⟨6, false, (.slc true (.pair (.int .i64) (.int .u8)))⟩, ⟨19, false, (.int .i64)⟩, ⟨20, false, (.int .i64)⟩] [(.ret, [⟨4, false, .str⟩, ⟨5, false, .bool⟩]), ((.exit 0), [⟨6, false, (.slc true (.pair (.int .i64) (.int .u8)))⟩])] [] [],
  .fn 19 Tryz.f19 [⟨0, false, .str⟩, ⟨1, false, (.int .i64)⟩] [] [⟨0, false, .str⟩, ⟨1, false, .bool⟩] [(1000028, 32), (1000039, 10)] [([false, true, false, true, true, true], 64)]]
noncomputable def ents4 : List Ent := [
  .pt 19 Tryz.f19 [false, true, false, true, true, true] true [⟨0, false, .str⟩, ⟨1, false, (.int .i64)⟩, ⟨6, false, .str⟩, ⟨7, false, (.int .i64)⟩] [(.ret, [⟨4, false, .str⟩, ⟨5, false, .bool⟩]), ((.exit 0), [⟨6, false, .str⟩])] [(1000040, 14)] [],
  .fn 20 Tryz.f20 [⟨0, false, (.slc false (.int .u8))⟩] [] [⟨0, false, (.int .i64)⟩, ⟨1, false, (.slc true (.int .i64))⟩] [(1000038, 60), (1000041, 6)] [([false, true, false, true, true, true, true], 66)],
  .pt 20 Tryz.f20 [false, true, false, true, true, true, true] true [⟨4, false, (.box true (.cons (.slc false (.int .u8)) (.cons (.int .i64) (.int .u64))))⟩, ⟨5, false, (.int .i64)⟩, ⟨6, false, (.slc true (.int .i64))⟩, ⟨7, false, (.int .i64)⟩] [((.exit 0), [⟨4, false, (.box true (.cons (.slc false (.int .u8)) (.cons (.int .i64) (.int .u64))))⟩, ⟨5, false, (.int .i64)⟩, ⟨6, false, (.slc true (.int .i64))⟩])] [(1000041, 6)] [],
  .fn 21 Tryz.f21 [⟨0, false, (.int .i64)⟩, ⟨1, false, (.slc false (.int .i64))⟩] [] [⟨0, false, .str⟩, ⟨1, false, .bool⟩] [(1000030, 22), (1000042, 68), (1000043, 73), (1000044, 78)] [([false, true, false, true, true, true], 82)],
  .fn 42 Tryz.f42 [⟨0, false, (.slc false (.int .i64))⟩, ⟨1, false, (.int .i64)⟩, ⟨2, false, (.int .i64)⟩] [] [⟨0, false, .bool⟩] [(1000060, 69)] [],
  .fn 60 Tryz.f60 [⟨0, false, (.slc false (.int .i64))⟩, ⟨1, false, (.clo 61 (.cons (.box false (.int .i64)) (.box false (.int .i64))))⟩] [] [⟨0, false, .bool⟩] [(1000068, 70)] [],
  .fn 68 Tryz.f68 [⟨0, false, (.slc false (.int .i64))⟩, ⟨1, false, (.clo 61 (.cons (.box false (.int .i64)) (.box false (.int .i64))))⟩] [] [⟨0, false, (.int .i64)⟩] [] [([false, true, false, true], 71)],
  .pt 68 Tryz.f68 [false, true, false, true] true [⟨0, false, (.slc false (.int .i64))⟩, ⟨1, false, (.clo 61 (.cons (.box false (.int .i64)) (.box false (.int .i64))))⟩, ⟨7, false, (.int .i64)⟩, ⟨8, false, (.int .i64)⟩] [(.ret, [⟨4, false, (.int .i64)⟩]), ((.exit 0), [])] [(16, 72)] [],
  .fn 61 Tryz.f61 [⟨0, false, (.int .i64)⟩, ⟨1, false, (.box false (.int .i64))⟩, ⟨2, false, (.box false (.int .i64))⟩] [] [⟨0, false, .bool⟩] [(1000030, 22)] [],
  .fn 43 Tryz.f43 [⟨0, false, (.slc false (.int .i64))⟩] [] [⟨0, false, .bool⟩] [] [([false, true, false, true], 74)],
  .pt 43 Tryz.f43 [false, true, false, true] true [⟨0, false, (.slc false (.int .i64))⟩, ⟨5, false, (.sref 0)⟩, ⟨6, false, (.int .i64)⟩, ⟨7, false, (.int .i64)⟩] [(.ret, [⟨2, false, .bool⟩]), ((.exit 0), [])] [(1000046, 75)] [],
  .fn 46 Tryz.f46 [⟨0, false, (.slc false (.int .i64))⟩, ⟨1, false, (.int .i64)⟩] [] [⟨0, false, .bool⟩] [(1000063, 76)] [],
  .fn 63 Tryz.f63 [⟨0, false, (.slc false (.int .i64))⟩, ⟨1, false, (.int .i64)⟩] [] [⟨0, false, (.int .i64)⟩] [] [([false, true, false, true], 77)],
  .pt 63 Tryz.f63 [false, true, false, true] true [⟨0, false, (.slc false (.int .i64))⟩, ⟨1, false, (.int .i64)⟩, ⟨7, false, (.int .i64)⟩, ⟨8, false, (.int .i64)⟩] [(.ret, [⟨4, false, (.int .i64)⟩]), ((.exit 0), [])] [] [],
  .fn 44 Tryz.f44 [⟨0, false, (.slc false (.int .i64))⟩] [] [⟨0, false, .bool⟩] [] [([false, true, false, true], 79)],
  .pt 44 Tryz.f44 [false, true, false, true] true [⟨0, false, (.slc false (.int .i64))⟩, ⟨3, false, (.int .i64)⟩] [(.ret, [⟨2, false, .bool⟩]), ((.exit 0), [])] [(1000062, 80)] []]
noncomputable def ents5 : List Ent := [
  .fn 62 Tryz.f62 [⟨0, false, (.int .i64)⟩, ⟨1, false, (.int .i64)⟩] [] [⟨0, false, .bool⟩] [(1000069, 81)] [],
  .fn 69 Tryz.f69 [⟨0, false, (.int .i64)⟩] [] [⟨0, false, .bool⟩] [] [],
  .pt 21 Tryz.f21 [false, true, false, true, true, true] true [⟨1, false, (.slc false (.int .i64))⟩, ⟨6, false, (.slc true (.int .u8))⟩, ⟨28, false, (.int .i64)⟩, ⟨29, false, (.int .i64)⟩] [((.exit 0), [⟨6, false, (.slc true (.int .u8))⟩])] [(1000046, 75), (1000045, 83)] [],
  .fn 45 Tryz.f45 [⟨0, false, .bool⟩] [] [⟨0, false, (.int .i64)⟩] [] []]
noncomputable def E (e : Nat) : Ent := (match e / 16 with | 0 => ents0 | 1 => ents1 | 2 => ents2 | 3 => ents3 | 4 => ents4 | 5 => ents5 | _ => ents0).getD (e % 16) (.pt 0 Tryz.f0 [] false [] [] [] [])
noncomputable def laws_FnProgramsMade (k : Nat) (d : List Int × List Int) : Option (Bool) := acall Tryz.prog E k 0 d
noncomputable def laws_big (k : Nat) (d : List Int × List Int) : Option (Bool) := acall Tryz.prog E k 1 d
noncomputable def spec_DrawBackProgram (k : Nat) (d : List Int) : Option (ByteArray) := acall Tryz.prog E k 2 d
noncomputable def spec_DrawIsProgram (k : Nat) (d : List Int) : Option (ByteArray) := acall Tryz.prog E k 3 d
noncomputable def spec_l1Cur_program (k : Nat) (d : (List Int × (Int × Int))) : Option ((ByteArray) × ((List Int × (Int × Int)))) := acall Tryz.prog E k 4 d
noncomputable def spec_l1Cur_sureProgram (k : Nat) (d : (List Int × (Int × Int)) × Int) : Option ((ByteArray) × ((List Int × (Int × Int)))) := acall Tryz.prog E k 5 d
noncomputable def spec_l1Cur_one (k : Nat) (d : (List Int × (Int × Int)) × Int) : Option ((Bool) × ((List Int × (Int × Int)))) := acall Tryz.prog E k 6 d
noncomputable def spec_l1Cur_pick (k : Nat) (d : (List Int × (Int × Int)) × Int) : Option ((Int) × ((List Int × (Int × Int)))) := acall Tryz.prog E k 7 d
noncomputable def spec_l1Cur_next (k : Nat) (d : (List Int × (Int × Int))) : Option ((Int) × ((List Int × (Int × Int)))) := acall Tryz.prog E k 8 d
noncomputable def spec_SpiralProgram (k : Nat) (d : Int × List Int) : Option (ByteArray × Bool) := acall Tryz.prog E k 9 d
noncomputable def spec_l1In (k : Nat) (d : Int × Int × Int) : Option (Bool) := acall Tryz.prog E k 10 d
noncomputable def spec_l1Rising (k : Nat) (d : List Int × Int × Int) : Option (Bool) := acall Tryz.prog E k 11 d
noncomputable def spec_l1Rising_l (k : Nat) (d : List Int × Int × Int × Unit × Int × Int) : Option ((Bool) ⊕ (Unit)) := acall Tryz.prog E k 12 d
noncomputable def spec_SpiralProgram_l (k : Nat) (d : Int × List Int × ByteArray × Int) : Option (ByteArray) := acall Tryz.prog E k 13 d
noncomputable def spec_l1Num (k : Nat) (d : Int) : Option (ByteArray) := acall Tryz.prog E k 14 d
noncomputable def spec_l1Has (k : Nat) (d : List Int × Int) : Option (Bool) := acall Tryz.prog E k 15 d
noncomputable def spec_l1Has_l (k : Nat) (d : Int × List Int × Int × Int) : Option ((Bool) ⊕ (Unit)) := acall Tryz.prog E k 16 d
noncomputable def spec_l1Cur_sureProgram_l (k : Nat) (d : (List Int × (Int × Int)) × ByteArray × Int × Unit) : Option (ByteArray × (List Int × (Int × Int))) := acall Tryz.prog E k 17 d
noncomputable def spec_l1Cur_of (k : Nat) (d : (List Int × (Int × Int)) × List ByteArray) : Option ((ByteArray) × ((List Int × (Int × Int)))) := acall Tryz.prog E k 18 d
noncomputable def impl_BackProgram (k : Nat) (d : ByteArray) : Option (ByteArray × Bool) := acall Tryz.prog E k 19 d
noncomputable def impl_IsProgram (k : Nat) (d : ByteArray) : Option (Bool) := acall Tryz.prog E k 20 d
noncomputable def impl_IsProgram_l (k : Nat) (d : ByteArray × Int × Int) : Option ((Bool) ⊕ (ByteArray)) := acall Tryz.prog E k 21 d
noncomputable def impl_within (k : Nat) (d : Int × Int × Int) : Option (Bool) := acall Tryz.prog E k 22 d
noncomputable def strings_Contains (k : Nat) (d : ByteArray × ByteArray) : Option (Bool) := acall Tryz.prog E k 23 d
noncomputable def impl_other (k : Nat) (d : ByteArray) : Option (ByteArray) := acall Tryz.prog E k 24 d
noncomputable def impl_parts (k : Nat) (d : ByteArray) : Option (List (Int × Int)) := acall Tryz.prog E k 25 d
noncomputable def impl_parts_l (k : Nat) (d : ByteArray × List (Int × Int) × Int) : Option (List (Int × Int)) := acall Tryz.prog E k 26 d
noncomputable def slices_Reverse (k : Nat) (d : List (Int × Int)) : Option ((Unit) × (List (Int × Int))) := acall Tryz.prog E k 27 d
noncomputable def slices_Reverse_l (k : Nat) (d : List (Int × Int) × Int × Int × Unit) : Option (List (Int × Int)) := acall Tryz.prog E k 28 d
noncomputable def impl_text (k : Nat) (d : List (Int × Int)) : Option (ByteArray) := acall Tryz.prog E k 29 d
noncomputable def impl_text_l (k : Nat) (d : List Int × List (Int × Int) × Int × Int) : Option (List Int) := acall Tryz.prog E k 30 d
noncomputable def spec_BackProgram (k : Nat) (d : ByteArray) : Option (ByteArray × Bool) := acall Tryz.prog E k 31 d
noncomputable def spec_tuGood (k : Nat) (d : ByteArray) : Option (Bool) := acall Tryz.prog E k 32 d
noncomputable def spec_tuGood_l (k : Nat) (d : ByteArray × Int) : Option ((Bool) ⊕ (Unit)) := acall Tryz.prog E k 33 d
noncomputable def spec_woRule (k : Nat) (d : ByteArray) : Option (Bool) := acall Tryz.prog E k 34 d
noncomputable def spec_woRule_l (k : Nat) (d : ByteArray × Int) : Option ((Bool) ⊕ (Unit)) := acall Tryz.prog E k 35 d
noncomputable def spec_BackProgram_l (k : Nat) (d : ByteArray × ByteArray × Int) : Option (ByteArray) := acall Tryz.prog E k 36 d
noncomputable def spec_woOther (k : Nat) (d : ByteArray) : Option (ByteArray) := acall Tryz.prog E k 37 d
noncomputable def spec_woOther_l (k : Nat) (d : ByteArray × ByteArray × Int) : Option (ByteArray) := acall Tryz.prog E k 38 d
noncomputable def impl_OtherProgram (k : Nat) (d : ByteArray) : Option (ByteArray × Bool) := acall Tryz.prog E k 39 d
noncomputable def spec_OtherProgram (k : Nat) (d : ByteArray) : Option (ByteArray × Bool) := acall Tryz.prog E k 40 d
noncomputable def impl_QuartersOf (k : Nat) (d : ByteArray) : Option (Int × Bool) := acall Tryz.prog E k 41 d
noncomputable def strings_Count (k : Nat) (d : ByteArray × ByteArray) : Option (Int) := acall Tryz.prog E k 42 d
noncomputable def impl_PlaceAfter (k : Nat) (d : ByteArray × Int) : Option (Int × Int × Int × Bool) := acall Tryz.prog E k 43 d
noncomputable def impl_isRepeated (k : Nat) (d : ByteArray × Int) : Option (Bool) := acall Tryz.prog E k 44 d
noncomputable def impl_turtle_walk (k : Nat) (d : (Int × (Int × Int)) × ByteArray × Int × Unit × Unit) : Option ((Int × (Int × Int))) := acall Tryz.prog E k 45 d
noncomputable def impl_turtle_walk_l (k : Nat) (d : ByteArray × Unit × Unit × (Int × (Int × Int)) × (Int × (Int × Int)) × Int × Int) : Option ((Int × (Int × Int)) × (Int × (Int × Int))) := acall Tryz.prog E k 46 d
noncomputable def impl_turtle_walk_l_l (k : Nat) (d : ByteArray × Unit × Unit × (Int × (Int × Int)) × (Int × (Int × Int)) × Int × Int × List (Int × Int) × Int × Int) : Option (ByteArray × Unit × Unit × (Int × (Int × Int)) × (Int × (Int × Int)) × Int × Int) := acall Tryz.prog E k 47 d
noncomputable def impl_ahead (k : Nat) (d : Int) : Option (Int × Int) := acall Tryz.prog E k 48 d
noncomputable def impl_turtle_walk_l_l_l (k : Nat) (d : ByteArray × Unit × Unit × (Int × (Int × Int)) × (Int × (Int × Int)) × (Int × Int) × Int × Int × Int × Int × List (Int × Int) × Int × Int × Int × Int) : Option (ByteArray × Unit × Unit × (Int × (Int × Int)) × (Int × (Int × Int)) × (Int × Int) × Int × Int × List (Int × Int) × Int × Int) := acall Tryz.prog E k 49 d
noncomputable def impl_nothing (k : Nat) (d : (Int × Int)) : Option (Unit) := acall Tryz.prog E k 50 d
noncomputable def impl_quarters (k : Nat) (d : Int) : Option (Int) := acall Tryz.prog E k 51 d
noncomputable def impl_LengthOf (k : Nat) (d : ByteArray × Int) : Option (Int × Bool) := acall Tryz.prog E k 52 d
noncomputable def impl_length (k : Nat) (d : ByteArray × Int) : Option (Int) := acall Tryz.prog E k 53 d
noncomputable def impl_length_l (k : Nat) (d : Int × Int × List (Int × Int) × Int × Int) : Option (Int × Int) := acall Tryz.prog E k 54 d
noncomputable def laws_FnProgramsMade_l (k : Nat) (d : List Int × ByteArray × Int × Int × Int × (ByteArray × Nat)) : Option (List Int × Int × Int × Int) := acall Tryz.prog E k 55 d
noncomputable def spec_DrawJoinPrograms (k : Nat) (d : List Int) : Option (ByteArray × ByteArray) := acall Tryz.prog E k 56 d
noncomputable def impl_JoinPrograms (k : Nat) (d : ByteArray × ByteArray) : Option (ByteArray × Bool) := acall Tryz.prog E k 57 d
noncomputable def spec_JoinPrograms (k : Nat) (d : ByteArray × ByteArray) : Option (ByteArray × Bool) := acall Tryz.prog E k 58 d
noncomputable def spec_DrawGrowProgram (k : Nat) (d : List Int) : Option (ByteArray × Int) := acall Tryz.prog E k 59 d
noncomputable def spec_l1Cur_among (k : Nat) (d : (List Int × (Int × Int)) × List Int) : Option ((Int) × ((List Int × (Int × Int)))) := acall Tryz.prog E k 60 d
noncomputable def impl_GrowProgram (k : Nat) (d : ByteArray × Int) : Option (ByteArray × Bool) := acall Tryz.prog E k 61 d
noncomputable def impl_GrowProgram_l (k : Nat) (d : Int × List (Int × Int) × Int × Int) : Option ((ByteArray × Bool) ⊕ (List (Int × Int))) := acall Tryz.prog E k 62 d
noncomputable def spec_GrowProgram (k : Nat) (d : ByteArray × Int) : Option (ByteArray × Bool) := acall Tryz.prog E k 63 d
noncomputable def spec_GrowProgram_l (k : Nat) (d : ByteArray × Int × ByteArray × Int) : Option ((ByteArray × Bool) ⊕ (ByteArray)) := acall Tryz.prog E k 64 d
noncomputable def spec_DrawSpiralProgram (k : Nat) (d : List Int) : Option (Int × List Int) := acall Tryz.prog E k 65 d
noncomputable def spec_DrawSpiralProgram_l (k : Nat) (d : (List Int × (Int × Int)) × Int × List Int × Int) : Option ((List Int × (Int × Int)) × Int × List Int) := acall Tryz.prog E k 66 d
noncomputable def impl_SpiralProgram (k : Nat) (d : Int × List Int) : Option (ByteArray × Bool) := acall Tryz.prog E k 67 d
noncomputable def impl_areWithin (k : Nat) (d : List Int × Int × Int) : Option (Bool) := acall Tryz.prog E k 68 d
noncomputable def slices_ContainsFunc (k : Nat) (d : List Int × (Int × Int)) : Option (Bool) := acall Tryz.prog E k 69 d
noncomputable def slices_IndexFunc (k : Nat) (d : List Int × (Int × Int)) : Option (Int) := acall Tryz.prog E k 70 d
noncomputable def slices_IndexFunc_l (k : Nat) (d : List Int × (Int × Int) × Int × Int) : Option ((Int) ⊕ (Unit)) := acall Tryz.prog E k 71 d
noncomputable def impl_areWithin_1 (k : Nat) (d : Int × Int × Int) : Option (Bool) := acall Tryz.prog E k 72 d
noncomputable def impl_areDifferent (k : Nat) (d : List Int) : Option (Bool) := acall Tryz.prog E k 73 d
noncomputable def impl_areDifferent_l (k : Nat) (d : List Int × Unit × Int × Int) : Option ((Bool) ⊕ (Unit)) := acall Tryz.prog E k 74 d
noncomputable def slices_Contains (k : Nat) (d : List Int × Int) : Option (Bool) := acall Tryz.prog E k 75 d
noncomputable def slices_Index (k : Nat) (d : List Int × Int) : Option (Int) := acall Tryz.prog E k 76 d
noncomputable def slices_Index_l (k : Nat) (d : List Int × Int × Int × Int) : Option ((Int) ⊕ (Unit)) := acall Tryz.prog E k 77 d
noncomputable def slices_IsSorted (k : Nat) (d : List Int) : Option (Bool) := acall Tryz.prog E k 78 d
noncomputable def slices_IsSorted_l (k : Nat) (d : List Int × Int) : Option ((Bool) ⊕ (Unit)) := acall Tryz.prog E k 79 d
noncomputable def cmp_Less (k : Nat) (d : Int × Int) : Option (Bool) := acall Tryz.prog E k 80 d
noncomputable def cmp_isNaN (k : Nat) (d : Int) : Option (Bool) := acall Tryz.prog E k 81 d
noncomputable def impl_SpiralProgram_l (k : Nat) (d : List Int × List Int × Int × Int) : Option (List Int) := acall Tryz.prog E k 82 d
noncomputable def impl_bit (k : Nat) (d : Bool) : Option (Int) := acall Tryz.prog E k 83 d
end Go.Proofs.YtfklcheeoieniaaGreatS
