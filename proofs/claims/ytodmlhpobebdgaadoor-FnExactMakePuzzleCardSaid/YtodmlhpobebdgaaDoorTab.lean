/- The entries: functions, loops, with the kinds of their data (printed by wip/sim/gen.py). -/
import Derived.Test.YtodmlhpobebdgaaDoorSimB
import Derived.Test.YtodmlhpobebdgaaDoorSimFd
import Derived.Test.YtodmlhpobebdgaaDoorProg
namespace Go.Proofs.YtodmlhpobebdgaaDoorS
open Go Go.Proofs
set_option maxRecDepth 100000
def bs (l : List UInt8) : ByteArray := ⟨l.toArray⟩
noncomputable def ents0 : List Ent := [
  .fn 3 Tryd.f3 [⟨0, true, (.cons .str (.cons (.int .i64) (.cons (.int .i64) (.cons .str (.cons (.int .i64) (.cons (.int .i64) (.cons (.int .i64) (.cons .str (.cons (.int .i64) (.cons (.int .i64) (.cons .str (.cons (.int .i64) (.cons (.int .i64) (.cons (.int .i64) .str))))))))))))))⟩] [] [⟨0, false, .bool⟩] [(1000005, 1), (1000007, 3), (1000006, 5), (1000008, 14)] [],
  .fn 5 Tryd.f5 [⟨0, true, (.cons .str (.cons (.int .i64) (.cons (.int .i64) (.cons .str (.cons (.int .i64) (.cons (.int .i64) (.cons (.int .i64) (.cons .str (.cons (.int .i64) (.cons (.int .i64) (.cons .str (.cons (.int .i64) (.cons (.int .i64) (.cons (.int .i64) .str))))))))))))))⟩, ⟨1, false, (.int .i64)⟩] [] [⟨0, false, (.int .i64)⟩] [(1000009, 2)] [],
  .fn 9 Tryd.f9 [⟨0, true, (.cons .str (.cons (.int .i64) (.cons (.int .i64) (.cons .str (.cons (.int .i64) (.cons (.int .i64) (.int .i64)))))))⟩, ⟨1, false, (.int .i64)⟩] [] [⟨0, false, (.int .i64)⟩] [] [],
  .fn 7 Tryd.f7 [⟨0, true, (.cons .str (.cons (.int .i64) (.cons (.int .i64) (.cons .str (.cons (.int .i64) (.cons (.int .i64) (.cons (.int .i64) (.cons .str (.cons (.int .i64) (.cons (.int .i64) (.cons .str (.cons (.int .i64) (.cons (.int .i64) (.cons (.int .i64) .str))))))))))))))⟩] [] [⟨0, true, (.cons .str (.cons (.int .i64) (.cons (.int .i64) (.cons .str (.cons (.int .i64) (.cons (.int .i64) (.cons (.int .i64) (.cons .str (.cons (.int .i64) (.cons (.int .i64) (.cons .str (.cons (.int .i64) (.cons (.int .i64) (.cons (.int .i64) .str))))))))))))))⟩] [(1000011, 4)] [],
  .fn 11 Tryd.f11 [⟨0, true, (.cons .str (.cons (.int .i64) (.cons (.int .i64) (.cons .str (.cons (.int .i64) (.cons (.int .i64) (.int .i64)))))))⟩] [] [⟨0, true, (.cons .str (.cons (.int .i64) (.cons (.int .i64) (.cons .str (.cons (.int .i64) (.cons (.int .i64) (.int .i64)))))))⟩] [] [],
  .fn 6 Tryd.f6 [⟨0, true, (.cons .str (.cons (.int .i64) (.cons (.int .i64) (.cons .str (.cons (.int .i64) (.cons (.int .i64) (.cons (.int .i64) (.cons .str (.cons (.int .i64) (.cons (.int .i64) (.cons .str (.cons (.int .i64) (.cons (.int .i64) (.cons (.int .i64) .str))))))))))))))⟩] [] [⟨0, false, .bool⟩] [(1000016, 6)] [],
  .fn 16 Tryd.f16 [⟨0, true, (.cons .str (.cons (.int .i64) (.cons (.int .i64) (.cons .str (.cons (.int .i64) (.cons (.int .i64) (.cons (.int .i64) (.cons .str (.cons (.int .i64) (.cons (.int .i64) (.cons .str (.cons (.int .i64) (.cons (.int .i64) (.cons (.int .i64) .str))))))))))))))⟩] [] [⟨0, false, .bool⟩] [(1000030, 7), (1000031, 12)] [],
  .fn 30 Tryd.f30 [⟨0, true, (.cons .str (.cons (.int .i64) (.cons (.int .i64) (.cons .str (.cons (.int .i64) (.cons (.int .i64) (.int .i64)))))))⟩] [] [⟨0, false, .bool⟩] [(1000044, 8), (1000020, 9)] [([false, true, false, true, true], 11)],
  .fn 44 Tryd.f44 [⟨0, false, .str⟩] [] [⟨0, false, .bool⟩] [(1000020, 9)] [([false, true, false, true, true], 10)],
  .fn 20 Tryd.f20 [⟨0, false, (.int .i64)⟩, ⟨1, false, (.int .i64)⟩, ⟨2, false, (.int .i64)⟩] [] [⟨0, false, .bool⟩] [] [],
  .pt 44 Tryd.f44 [false, true, false, true, true] true [⟨0, false, .str⟩, ⟨3, false, (.int .i64)⟩] [(.ret, [⟨2, false, .bool⟩]), ((.exit 0), [])] [] [],
  .pt 30 Tryd.f30 [false, true, false, true, true] true [⟨1, false, (.box true (.cons .str (.cons (.int .i64) (.cons (.int .i64) (.cons .str (.cons (.int .i64) (.cons (.int .i64) (.int .i64))))))))⟩, ⟨3, false, (.int .i64)⟩] [(.ret, [⟨2, false, .bool⟩]), ((.exit 0), [⟨1, false, (.box true (.cons .str (.cons (.int .i64) (.cons (.int .i64) (.cons .str (.cons (.int .i64) (.cons (.int .i64) (.int .i64))))))))⟩])] [(1000020, 9)] [],
  .fn 31 Tryd.f31 [⟨0, false, .str⟩] [] [⟨0, false, .bool⟩] [(1000020, 9)] [([false, true, false, true, true], 13)],
  .pt 31 Tryd.f31 [false, true, false, true, true] true [⟨0, false, .str⟩, ⟨3, false, (.int .i64)⟩] [(.ret, [⟨2, false, .bool⟩]), ((.exit 0), [])] [(1000044, 8)] [],
  .fn 8 Tryd.f8 [⟨0, true, (.cons .str (.cons (.int .i64) (.cons (.int .i64) (.cons .str (.cons (.int .i64) (.cons (.int .i64) (.cons (.int .i64) (.cons .str (.cons (.int .i64) (.cons (.int .i64) (.cons .str (.cons (.int .i64) (.cons (.int .i64) (.cons (.int .i64) .str))))))))))))))⟩] [] [⟨0, false, .bool⟩] [(1000017, 15), (1000018, 24)] [],
  .fn 17 Tryd.f17 [⟨0, true, (.cons .str (.cons (.int .i64) (.cons (.int .i64) (.cons .str (.cons (.int .i64) (.cons (.int .i64) (.int .i64)))))))⟩] [] [⟨0, false, .bool⟩] [(1000032, 16), (1000033, 19), (1000034, 20), (1000035, 22)] []]
noncomputable def ents1 : List Ent := [
  .fn 32 Tryd.f32 [⟨0, false, .str⟩] [] [⟨0, false, .bool⟩] [(1000024, 17), (1000045, 18)] [],
  .fn 24 Tryd.f24 [⟨0, false, (.int .i64)⟩, ⟨1, false, (.int .i64)⟩, ⟨2, false, (.int .i64)⟩] [] [⟨0, false, .bool⟩] [] [],
  .fr 45 [⟨0, false, .str⟩, ⟨1, false, .str⟩] [] [⟨0, false, .str⟩] (fun d => strTrim d.1 d.2),
  .fn 33 Tryd.f33 [⟨0, false, (.int .i64)⟩, ⟨1, false, (.int .i64)⟩] [] [⟨0, false, .bool⟩] [(1000024, 17)] [],
  .fn 34 Tryd.f34 [⟨0, false, .str⟩, ⟨1, false, (.int .i64)⟩, ⟨2, false, (.int .i64)⟩] [] [⟨0, false, .bool⟩] [] [([false, true, false, true], 21)],
  .pt 34 Tryd.f34 [false, true, false, true] true [⟨0, false, .str⟩, ⟨1, false, (.int .i64)⟩, ⟨2, false, (.int .i64)⟩, ⟨9, false, (.int .i64)⟩, ⟨10, false, (.int .i64)⟩] [(.ret, [⟨6, false, .bool⟩]), ((.exit 0), [⟨0, false, .str⟩, ⟨1, false, (.int .i64)⟩])] [(1000024, 17)] [],
  .fn 35 Tryd.f35 [⟨0, false, (.int .i64)⟩, ⟨1, false, (.int .i64)⟩, ⟨2, false, (.int .i64)⟩, ⟨3, false, (.int .i64)⟩, ⟨4, false, (.int .i64)⟩] [] [⟨0, false, .bool⟩] [(1000024, 17), (1000046, 23)] [],
  .fn 46 Tryd.f46 [⟨0, false, (.int .i64)⟩] [] [⟨0, false, .bool⟩] [(1000024, 17)] [],
  .fn 18 Tryd.f18 [⟨0, false, .str⟩] [] [⟨0, false, .bool⟩] [(1000024, 17)] [([false, true, false, true], 25)],
  .pt 18 Tryd.f18 [false, true, false, true] true [⟨0, false, .str⟩, ⟨6, false, (.int .i64)⟩, ⟨7, false, (.int .i64)⟩] [(.ret, [⟨2, false, .bool⟩]), ((.exit 0), [⟨0, false, .str⟩])] [(1000024, 17), (1000036, 26)] [],
  .fr 36 [⟨0, false, .str⟩, ⟨1, false, .str⟩] [] [⟨0, false, .bool⟩] (fun d => strContains1 d.1 d.2),
  .fn 4 Tryd.f4 [⟨0, true, (.cons .str (.cons (.int .i64) (.cons (.int .i64) (.cons .str (.cons (.int .i64) (.cons (.int .i64) (.int .i64)))))))⟩, ⟨1, false, (.int .i64)⟩, ⟨2, false, (.int .i64)⟩] [] [⟨0, false, .bool⟩] [(1000009, 2), (1000011, 4), (1000010, 28), (1000012, 46), (1000013, 65), (1000014, 69), (1000015, 72)] [],
  .fn 10 Tryd.f10 [⟨0, true, (.cons .str (.cons (.int .i64) (.cons (.int .i64) (.cons .str (.cons (.int .i64) (.cons (.int .i64) (.int .i64)))))))⟩, ⟨1, false, (.int .i64)⟩, ⟨2, false, (.int .i64)⟩] [] [⟨0, true, (.cons .str (.cons (.int .i64) (.cons (.int .i64) (.slc true (.pair (.int .i64) (.pair (.int .i64) (.int .i64)))))))⟩, ⟨1, false, .bool⟩] [(1000019, 29), (1000020, 9)] [([false, false, true, true, true, true], 33)],
  .fn 19 Tryd.f19 [⟨0, true, (.cons .str (.cons (.int .i64) (.cons (.int .i64) (.cons .str (.cons (.int .i64) (.cons (.int .i64) (.int .i64)))))))⟩] [] [⟨0, false, .bool⟩] [(1000030, 7), (1000037, 30)] [],
  .fn 37 Tryd.f37 [⟨0, false, .str⟩, ⟨1, false, (.int .i64)⟩, ⟨2, false, (.int .i64)⟩] [] [⟨0, false, .bool⟩] [(1000044, 8), (1000020, 9), (1000048, 31)] [],
  .fn 48 Tryd.f48 [⟨0, false, .str⟩, ⟨1, false, (.int .i64)⟩] [] [⟨0, false, (.int .i64)⟩] [] [([false, false, true, true], 32)]]
noncomputable def ents2 : List Ent := [
  .pt 48 Tryd.f48 [false, false, true, true] true [⟨0, false, .str⟩, ⟨1, false, (.int .i64)⟩, ⟨5, false, (.int .i64)⟩] [(.ret, [⟨4, false, (.int .i64)⟩]), ((.exit 0), [⟨5, false, (.int .i64)⟩])] [] [],
  .pt 10 Tryd.f10 [false, false, true, true, true, true] true [⟨1, false, (.int .i64)⟩, ⟨3, false, (.box true (.cons .str (.cons (.int .i64) (.cons (.int .i64) (.cons .str (.cons (.int .i64) (.cons (.int .i64) (.int .i64))))))))⟩, ⟨6, false, (.box true (.cons .str (.cons (.int .i64) (.cons (.int .i64) (.slc true (.pair (.int .i64) (.pair (.int .i64) (.int .i64))))))))⟩, ⟨8, false, (.box true (.cons .str (.cons (.int .i64) (.cons (.int .i64) (.slc true (.pair (.int .i64) (.pair (.int .i64) (.int .i64))))))))⟩, ⟨9, false, (.int .i64)⟩] [((.exit 0), [⟨6, false, (.box true (.cons .str (.cons (.int .i64) (.cons (.int .i64) (.slc true (.pair (.int .i64) (.pair (.int .i64) (.int .i64))))))))⟩, ⟨8, false, (.box true (.cons .str (.cons (.int .i64) (.cons (.int .i64) (.slc true (.pair (.int .i64) (.pair (.int .i64) (.int .i64))))))))⟩])] [(1000021, 34), (1000022, 35)] [],
  .fn 21 Tryd.f21 [⟨0, false, (.int .i64)⟩] [] [⟨0, false, (.int .i64)⟩] [] [],
  .fn 22 Tryd.f22 [⟨0, false, (.int .i64)⟩, ⟨1, false, (.int .i64)⟩, ⟨2, true, (.cons .str (.cons (.int .i64) (.cons (.int .i64) (.cons .str (.cons (.int .i64) (.cons (.int .i64) (.int .i64)))))))⟩] [] [⟨0, true, (.cons (.int .i64) (.cons (.int .i64) (.int .i64)))⟩] [(1000038, 36)] [],
  .fn 38 Tryd.f38 [⟨0, false, (.int .i64)⟩, ⟨1, false, (.int .i64)⟩, ⟨2, true, (.cons .str (.cons (.int .i64) (.cons (.int .i64) (.cons .str (.cons (.int .i64) (.cons (.int .i64) (.int .i64)))))))⟩] [] [⟨0, false, (.int .i64)⟩] [] [([false, false, true, false, true, true], 37), ([false, true, false, true, true, true], 45)],
  .pt 38 Tryd.f38 [false, false, true, false, true, true] true [⟨0, false, (.int .i64)⟩, ⟨1, false, (.int .i64)⟩, ⟨5, false, (.box true (.cons .str (.cons (.int .i64) (.cons (.int .i64) (.cons .str (.cons (.int .i64) (.cons (.int .i64) (.int .i64))))))))⟩, ⟨7, false, (.int .i64)⟩, ⟨8, false, (.int .i64)⟩] [((.exit 0), [⟨0, false, (.int .i64)⟩, ⟨1, false, (.int .i64)⟩, ⟨5, false, (.box true (.cons .str (.cons (.int .i64) (.cons (.int .i64) (.cons .str (.cons (.int .i64) (.cons (.int .i64) (.int .i64))))))))⟩, ⟨7, false, (.int .i64)⟩, ⟨8, false, (.int .i64)⟩])] [(1000049, 38)] [],
  .fn 49 Tryd.f49 [⟨0, true, (.cons .str (.cons (.int .i64) (.cons (.int .i64) (.cons .str (.cons (.int .i64) (.cons (.int .i64) (.int .i64)))))))⟩] [] [⟨0, true, (.cons .str (.cons (.int .i64) (.cons (.int .i64) (.cons .str (.cons (.int .i64) (.cons (.int .i64) (.int .i64)))))))⟩] [(1000066, 39), (1000067, 40), (1000068, 41), (1000069, 43)] [],
  .fn 66 Tryd.f66 [⟨0, true, (.cons .str (.cons (.int .i64) (.cons (.int .i64) (.cons .str (.cons (.int .i64) (.cons (.int .i64) (.int .i64)))))))⟩, ⟨1, false, (.int .i64)⟩, ⟨2, false, (.int .i64)⟩] [] [⟨0, false, (.int .i64)⟩] [] [],
  .fn 67 Tryd.f67 [⟨0, false, (.int .u8)⟩] [] [⟨0, false, (.int .i64)⟩] [] [],
  .fn 68 Tryd.f68 [⟨0, false, (.box true (.cons .str (.cons (.int .i64) (.cons (.int .i64) (.cons .str (.cons (.int .i64) (.cons (.int .i64) (.int .i64))))))))⟩, ⟨1, false, (.int .i64)⟩, ⟨2, false, (.int .i64)⟩, ⟨3, false, (.int .i64)⟩] [0] [] [(1000079, 42)] [],
  .fn 79 Tryd.f79 [⟨0, false, (.int .i64)⟩] [] [⟨0, false, .str⟩] [(1000079, 42)] [],
  .fn 69 Tryd.f69 [⟨0, false, (.box true (.cons .str (.cons (.int .i64) (.cons (.int .i64) (.cons .str (.cons (.int .i64) (.cons (.int .i64) (.int .i64))))))))⟩, ⟨1, false, (.int .i64)⟩] [0] [] [(1000080, 44)] [],
  .fn 80 Tryd.f80 [⟨0, false, (.int .i64)⟩, ⟨1, false, (.int .i64)⟩] [] [⟨0, false, (.int .i64)⟩] [] [],
  .pt 38 Tryd.f38 [false, true, false, true, true, true] true [⟨0, false, (.int .i64)⟩, ⟨1, false, (.int .i64)⟩, ⟨5, false, (.box true (.cons .str (.cons (.int .i64) (.cons (.int .i64) (.cons .str (.cons (.int .i64) (.cons (.int .i64) (.int .i64))))))))⟩, ⟨7, false, (.int .i64)⟩, ⟨8, false, (.int .i64)⟩, ⟨9, false, (.int .i64)⟩] [((.exit 2), [⟨0, false, (.int .i64)⟩, ⟨1, false, (.int .i64)⟩, ⟨5, false, (.box true (.cons .str (.cons (.int .i64) (.cons (.int .i64) (.cons .str (.cons (.int .i64) (.cons (.int .i64) (.int .i64))))))))⟩, ⟨7, false, (.int .i64)⟩, ⟨8, false, (.int .i64)⟩])] [] [],
  .fn 12 Tryd.f12 [⟨0, true, (.cons .str (.cons (.int .i64) (.cons (.int .i64) (.cons .str (.cons (.int .i64) (.cons (.int .i64) (.int .i64)))))))⟩, ⟨1, false, (.int .i64)⟩, ⟨2, false, (.int .i64)⟩] [] [⟨0, true, (.cons .str (.cons (.int .i64) (.cons (.int .i64) (.slc true (.pair (.int .i64) (.pair (.int .i64) (.int .i64)))))))⟩, ⟨1, false, .bool⟩] [(1000023, 47), (1000024, 17)] [([false, true, false, true, true, true, true], 53)],
  .fn 23 Tryd.f23 [⟨0, true, (.cons .str (.cons (.int .i64) (.cons (.int .i64) (.cons .str (.cons (.int .i64) (.cons (.int .i64) (.int .i64)))))))⟩] [] [⟨0, false, .bool⟩] [(1000039, 48), (1000017, 15), (1000040, 52)] []]
noncomputable def ents3 : List Ent := [
  .fn 39 Tryd.f39 [⟨0, false, .str⟩, ⟨1, false, (.int .i64)⟩, ⟨2, false, (.int .i64)⟩] [] [⟨0, false, (.int .i64)⟩, ⟨1, false, .bool⟩] [(1000050, 49), (1000051, 50)] [],
  .fn 50 Tryd.f50 [⟨0, false, .str⟩, ⟨1, false, (.int .i64)⟩, ⟨2, false, (.int .i64)⟩] [] [⟨0, false, .bool⟩] [(1000032, 16), (1000033, 19)] [],
  .fn 51 Tryd.f51 [⟨0, false, (.int .i64)⟩, ⟨1, false, (.int .i64)⟩, ⟨2, false, (.int .i64)⟩] [] [⟨0, false, (.int .i64)⟩] [] [([false, true, false, true, true], 51)],
  .pt 51 Tryd.f51 [false, true, false, true, true] true [⟨0, false, (.int .i64)⟩, ⟨2, false, (.int .i64)⟩, ⟨7, false, (.int .i64)⟩, ⟨8, false, (.int .i64)⟩, ⟨9, false, (.int .i64)⟩] [((.exit 0), [⟨7, false, (.int .i64)⟩])] [] [],
  .fn 40 Tryd.f40 [⟨0, true, (.cons .str (.cons (.int .i64) (.cons (.int .i64) (.cons .str (.cons (.int .i64) (.cons (.int .i64) (.int .i64)))))))⟩] [] [⟨0, false, (.int .i64)⟩] [] [],
  .pt 12 Tryd.f12 [false, true, false, true, true, true, true] true [⟨3, false, (.box true (.cons .str (.cons (.int .i64) (.cons (.int .i64) (.cons .str (.cons (.int .i64) (.cons (.int .i64) (.int .i64))))))))⟩, ⟨6, false, (.box true (.cons .str (.cons (.int .i64) (.cons (.int .i64) (.slc true (.pair (.int .i64) (.pair (.int .i64) (.int .i64))))))))⟩, ⟨8, false, (.clo 25 (.box true (.int .i64)))⟩, ⟨9, false, (.box true (.cons .str (.cons (.int .i64) (.cons (.int .i64) (.slc true (.pair (.int .i64) (.pair (.int .i64) (.int .i64))))))))⟩, ⟨33, false, (.int .i64)⟩, ⟨34, false, (.int .i64)⟩] [((.exit 0), [⟨6, false, (.box true (.cons .str (.cons (.int .i64) (.cons (.int .i64) (.slc true (.pair (.int .i64) (.pair (.int .i64) (.int .i64))))))))⟩, ⟨9, false, (.box true (.cons .str (.cons (.int .i64) (.cons (.int .i64) (.slc true (.pair (.int .i64) (.pair (.int .i64) (.int .i64))))))))⟩])] [(37, 54), (45, 54), (1000026, 55), (56, 54)] [],
  .fn 25 Tryd.f25 [⟨0, false, (.box true (.int .i64))⟩] [0] [⟨0, false, (.int .i64)⟩] [] [],
  .fn 26 Tryd.f26 [⟨0, false, (.int .i64)⟩, ⟨1, false, (.int .i64)⟩, ⟨2, true, (.cons .str (.cons (.int .i64) (.cons (.int .i64) (.cons .str (.cons (.int .i64) (.cons (.int .i64) (.int .i64)))))))⟩] [] [⟨0, false, (.int .i64)⟩] [(1000040, 52), (1000042, 64)] [([false, true, false, true, false, true, true, true, false, true, false, true], 56), ([false, true, false, true, true], 57)],
  .pt 26 Tryd.f26 [false, true, false, true, false, true, true, true, false, true, false, true] true [⟨7, false, (.int .i64)⟩, ⟨23, false, (.slc true (.int .u8))⟩, ⟨24, false, (.int .i64)⟩, ⟨25, false, (.int .i64)⟩] [((.exit 1), [⟨7, false, (.int .i64)⟩])] [] [],
  .pt 26 Tryd.f26 [false, true, false, true, true] true [⟨0, false, (.int .i64)⟩, ⟨5, false, (.box true (.cons .str (.cons (.int .i64) (.cons (.int .i64) (.cons .str (.cons (.int .i64) (.cons (.int .i64) (.int .i64))))))))⟩, ⟨36, false, (.int .i64)⟩, ⟨37, false, (.int .i64)⟩] [((.exit 3), [⟨0, false, (.int .i64)⟩, ⟨5, false, (.box true (.cons .str (.cons (.int .i64) (.cons (.int .i64) (.cons .str (.cons (.int .i64) (.cons (.int .i64) (.int .i64))))))))⟩])] [(1000041, 58)] [],
  .fn 41 Tryd.f41 [⟨0, true, (.cons .str (.cons (.int .i64) (.cons (.int .i64) (.cons .str (.cons (.int .i64) (.cons (.int .i64) (.int .i64)))))))⟩] [] [⟨0, true, (.cons .str (.cons (.int .i64) (.cons (.int .i64) (.cons .str (.cons (.int .i64) (.cons (.int .i64) (.int .i64)))))))⟩] [(1000052, 59), (1000053, 60), (1000040, 52), (1000054, 61), (1000055, 62)] [],
  .fn 52 Tryd.f52 [⟨0, true, (.cons .str (.cons (.int .i64) (.cons (.int .i64) (.cons .str (.cons (.int .i64) (.cons (.int .i64) (.int .i64)))))))⟩] [] [⟨0, false, (.int .i64)⟩] [(1000040, 52)] [],
  .fn 53 Tryd.f53 [⟨0, false, (.int .u8)⟩] [] [⟨0, false, (.int .i64)⟩] [] [],
  .fn 54 Tryd.f54 [⟨0, false, .str⟩, ⟨1, false, (.int .i64)⟩, ⟨2, false, (.int .i64)⟩] [] [⟨0, false, .str⟩] [] [],
  .fn 55 Tryd.f55 [⟨0, true, (.cons .str (.cons (.int .i64) (.cons (.int .i64) (.cons .str (.cons (.int .i64) (.cons (.int .i64) (.int .i64)))))))⟩, ⟨1, false, (.int .i64)⟩] [] [⟨0, true, (.cons .str (.cons (.int .i64) (.cons (.int .i64) (.cons .str (.cons (.int .i64) (.cons (.int .i64) (.int .i64)))))))⟩] [(1000070, 63)] [],
  .fn 70 Tryd.f70 [⟨0, false, (.int .i64)⟩] [] [⟨0, false, (.int .i64)⟩, ⟨1, false, (.int .i64)⟩] [] []]
noncomputable def ents4 : List Ent := [
  .fr 42 [⟨0, false, .str⟩, ⟨1, false, .str⟩] [] [⟨0, false, (.int .i64)⟩] (fun d => strCount1 d.1 d.2),
  .fn 13 Tryd.f13 [⟨0, true, (.cons .str (.cons (.int .i64) (.cons (.int .i64) (.slc false (.pair (.int .i64) (.pair (.int .i64) (.int .i64)))))))⟩, ⟨1, true, (.cons .str (.cons (.int .i64) (.cons (.int .i64) (.slc false (.pair (.int .i64) (.pair (.int .i64) (.int .i64)))))))⟩] [] [⟨0, false, .bool⟩] [(1000027, 66)] [],
  .fn 27 Tryd.f27 [⟨0, false, (.slc false (.pair (.int .i64) (.pair (.int .i64) (.int .i64))))⟩, ⟨1, false, (.slc false (.pair (.int .i64) (.pair (.int .i64) (.int .i64))))⟩] [] [⟨0, false, .bool⟩] [] [([false, true, false, true, true], 67)],
  .pt 27 Tryd.f27 [false, true, false, true, true] true [⟨0, false, (.slc false (.pair (.int .i64) (.pair (.int .i64) (.int .i64))))⟩, ⟨1, false, (.slc false (.pair (.int .i64) (.pair (.int .i64) (.int .i64))))⟩, ⟨5, false, (.int .i64)⟩] [(.ret, [⟨4, false, .bool⟩]), ((.exit 0), [])] [(1000043, 68)] [],
  .fn 43 Tryd.f43 [⟨0, true, (.cons (.int .i64) (.cons (.int .i64) (.int .i64)))⟩, ⟨1, true, (.cons (.int .i64) (.cons (.int .i64) (.int .i64)))⟩] [] [⟨0, false, .bool⟩] [] [],
  .fn 14 Tryd.f14 [⟨0, true, (.cons .str (.cons (.int .i64) (.cons (.int .i64) (.slc true (.pair (.int .i64) (.pair (.int .i64) (.int .i64)))))))⟩, ⟨1, false, (.int .i64)⟩] [0] [⟨0, false, (.int .i64)⟩] [(1000028, 70)] [],
  .fn 28 Tryd.f28 [⟨0, false, (.slc true (.pair (.int .i64) (.pair (.int .i64) (.int .i64))))⟩, ⟨1, false, (.int .i64)⟩] [0] [⟨0, false, (.int .i64)⟩] [] [([false, true, false, true], 71)],
  .pt 28 Tryd.f28 [false, true, false, true] true [⟨0, false, (.slc true (.pair (.int .i64) (.pair (.int .i64) (.int .i64))))⟩, ⟨1, false, (.int .i64)⟩, ⟨5, false, (.int .i64)⟩, ⟨100000, false, (.sref 0)⟩] [((.exit 0), [⟨1, false, (.int .i64)⟩, ⟨100000, false, (.slc true (.pair (.int .i64) (.pair (.int .i64) (.int .i64))))⟩])] [] [],
  .fn 15 Tryd.f15 [⟨0, true, (.cons .str (.cons (.int .i64) (.cons (.int .i64) (.slc false (.pair (.int .i64) (.pair (.int .i64) (.int .i64)))))))⟩, ⟨1, false, (.int .i64)⟩] [] [⟨0, false, (.int .i64)⟩] [(1000029, 73)] [],
  .fn 29 Tryd.f29 [⟨0, false, (.slc false (.pair (.int .i64) (.pair (.int .i64) (.int .i64))))⟩, ⟨1, false, (.int .i64)⟩] [] [⟨0, false, (.int .i64)⟩] [] [([false, true, false, true], 74)],
  .pt 29 Tryd.f29 [false, true, false, true] true [⟨0, false, (.slc false (.pair (.int .i64) (.pair (.int .i64) (.int .i64))))⟩, ⟨1, false, (.int .i64)⟩, ⟨5, false, (.int .i64)⟩] [(.ret, [⟨4, false, (.int .i64)⟩]), ((.exit 0), [⟨1, false, (.int .i64)⟩])] [] []]
noncomputable def E (e : Nat) : Ent := (match e / 16 with | 0 => ents0 | 1 => ents1 | 2 => ents2 | 3 => ents3 | 4 => ents4 | _ => ents0).getD (e % 16) (.pt 0 Tryd.f0 [] false [] [] [] [])
noncomputable def laws_FnExactIsDesk (k : Nat) (d : (ByteArray × (Int × (Int × (ByteArray × (Int × (Int × (Int × (ByteArray × (Int × (Int × (ByteArray × (Int × (Int × (Int × ByteArray))))))))))))))) : Option (Bool) := acall Tryd.prog E k 0 d
noncomputable def laws_szDesk (k : Nat) (d : (ByteArray × (Int × (Int × (ByteArray × (Int × (Int × (Int × (ByteArray × (Int × (Int × (ByteArray × (Int × (Int × (Int × ByteArray)))))))))))))) × Int) : Option (Int) := acall Tryd.prog E k 1 d
noncomputable def laws_szWorld (k : Nat) (d : (ByteArray × (Int × (Int × (ByteArray × (Int × (Int × Int)))))) × Int) : Option (Int) := acall Tryd.prog E k 2 d
noncomputable def laws_toDesk (k : Nat) (d : (ByteArray × (Int × (Int × (ByteArray × (Int × (Int × (Int × (ByteArray × (Int × (Int × (ByteArray × (Int × (Int × (Int × ByteArray))))))))))))))) : Option ((ByteArray × (Int × (Int × (ByteArray × (Int × (Int × (Int × (ByteArray × (Int × (Int × (ByteArray × (Int × (Int × (Int × ByteArray))))))))))))))) := acall Tryd.prog E k 3 d
noncomputable def laws_toWorld (k : Nat) (d : (ByteArray × (Int × (Int × (ByteArray × (Int × (Int × Int))))))) : Option ((ByteArray × (Int × (Int × (ByteArray × (Int × (Int × Int))))))) := acall Tryd.prog E k 4 d
noncomputable def spec_IsDesk (k : Nat) (d : (ByteArray × (Int × (Int × (ByteArray × (Int × (Int × (Int × (ByteArray × (Int × (Int × (ByteArray × (Int × (Int × (Int × ByteArray))))))))))))))) : Option (Bool) := acall Tryd.prog E k 5 d
noncomputable def spec_coGood (k : Nat) (d : (ByteArray × (Int × (Int × (ByteArray × (Int × (Int × (Int × (ByteArray × (Int × (Int × (ByteArray × (Int × (Int × (Int × ByteArray))))))))))))))) : Option (Bool) := acall Tryd.prog E k 6 d
noncomputable def spec_woGood (k : Nat) (d : (ByteArray × (Int × (Int × (ByteArray × (Int × (Int × Int))))))) : Option (Bool) := acall Tryd.prog E k 7 d
noncomputable def spec_woRule (k : Nat) (d : ByteArray) : Option (Bool) := acall Tryd.prog E k 8 d
noncomputable def spec_l1In (k : Nat) (d : Int × Int × Int) : Option (Bool) := acall Tryd.prog E k 9 d
noncomputable def spec_woRule_l (k : Nat) (d : ByteArray × Int) : Option ((Bool) ⊕ (Unit)) := acall Tryd.prog E k 10 d
noncomputable def spec_woGood_l (k : Nat) (d : (ByteArray × (Int × (Int × (ByteArray × (Int × (Int × Int)))))) × Int) : Option ((Bool) ⊕ ((ByteArray × (Int × (Int × (ByteArray × (Int × (Int × Int)))))))) := acall Tryd.prog E k 11 d
noncomputable def spec_tuGood (k : Nat) (d : ByteArray) : Option (Bool) := acall Tryd.prog E k 12 d
noncomputable def spec_tuGood_l (k : Nat) (d : ByteArray × Int) : Option ((Bool) ⊕ (Unit)) := acall Tryd.prog E k 13 d
noncomputable def impl_IsDesk (k : Nat) (d : (ByteArray × (Int × (Int × (ByteArray × (Int × (Int × (Int × (ByteArray × (Int × (Int × (ByteArray × (Int × (Int × (Int × ByteArray))))))))))))))) : Option (Bool) := acall Tryd.prog E k 14 d
noncomputable def impl_IsWorld (k : Nat) (d : (ByteArray × (Int × (Int × (ByteArray × (Int × (Int × Int))))))) : Option (Bool) := acall Tryd.prog E k 15 d
noncomputable def impl_IsRule (k : Nat) (d : ByteArray) : Option (Bool) := acall Tryd.prog E k 16 d
noncomputable def impl_within (k : Nat) (d : Int × Int × Int) : Option (Bool) := acall Tryd.prog E k 17 d
noncomputable def strings_Trim (k : Nat) (d : ByteArray × ByteArray) : Option (ByteArray) := acall Tryd.prog E k 18 d
noncomputable def impl_isSize (k : Nat) (d : Int × Int) : Option (Bool) := acall Tryd.prog E k 19 d
noncomputable def impl_areCells (k : Nat) (d : ByteArray × Int × Int) : Option (Bool) := acall Tryd.prog E k 20 d
noncomputable def impl_areCells_l (k : Nat) (d : ByteArray × Int × Int × Int × Int) : Option ((Bool) ⊕ (ByteArray × Int)) := acall Tryd.prog E k 21 d
noncomputable def impl_isAnt (k : Nat) (d : Int × Int × Int × Int × Int) : Option (Bool) := acall Tryd.prog E k 22 d
noncomputable def impl_isWay (k : Nat) (d : Int) : Option (Bool) := acall Tryd.prog E k 23 d
noncomputable def impl_IsProgram (k : Nat) (d : ByteArray) : Option (Bool) := acall Tryd.prog E k 24 d
noncomputable def impl_IsProgram_l (k : Nat) (d : ByteArray × Int × Int) : Option ((Bool) ⊕ (ByteArray)) := acall Tryd.prog E k 25 d
noncomputable def strings_Contains (k : Nat) (d : ByteArray × ByteArray) : Option (Bool) := acall Tryd.prog E k 26 d
noncomputable def laws_FnExactMakePuzzle (k : Nat) (d : (ByteArray × (Int × (Int × (ByteArray × (Int × (Int × Int)))))) × Int × Int) : Option (Bool) := acall Tryd.prog E k 27 d
noncomputable def spec_MakePuzzle (k : Nat) (d : (ByteArray × (Int × (Int × (ByteArray × (Int × (Int × Int)))))) × Int × Int) : Option ((ByteArray × (Int × (Int × List (Int × (Int × Int))))) × Bool) := acall Tryd.prog E k 28 d
noncomputable def spec_pzHidden (k : Nat) (d : (ByteArray × (Int × (Int × (ByteArray × (Int × (Int × Int))))))) : Option (Bool) := acall Tryd.prog E k 29 d
noncomputable def spec_pzSize (k : Nat) (d : ByteArray × Int × Int) : Option (Bool) := acall Tryd.prog E k 30 d
noncomputable def spec_pzPower (k : Nat) (d : ByteArray × Int) : Option (Int) := acall Tryd.prog E k 31 d
noncomputable def spec_pzPower_l (k : Nat) (d : ByteArray × Int × Int) : Option ((Int) ⊕ (Int)) := acall Tryd.prog E k 32 d
noncomputable def spec_MakePuzzle_l (k : Nat) (d : Int × (ByteArray × (Int × (Int × (ByteArray × (Int × (Int × Int)))))) × (ByteArray × (Int × (Int × List (Int × (Int × Int))))) × (ByteArray × (Int × (Int × List (Int × (Int × Int))))) × Int) : Option ((ByteArray × (Int × (Int × List (Int × (Int × Int))))) × (ByteArray × (Int × (Int × List (Int × (Int × Int)))))) := acall Tryd.prog E k 33 d
noncomputable def spec_pzNext (k : Nat) (d : Int) : Option (Int) := acall Tryd.prog E k 34 d
noncomputable def spec_pzOf (k : Nat) (d : Int × Int × (ByteArray × (Int × (Int × (ByteArray × (Int × (Int × Int))))))) : Option ((Int × (Int × Int))) := acall Tryd.prog E k 35 d
noncomputable def spec_pzValue (k : Nat) (d : Int × Int × (ByteArray × (Int × (Int × (ByteArray × (Int × (Int × Int))))))) : Option (Int) := acall Tryd.prog E k 36 d
noncomputable def spec_pzValue_l (k : Nat) (d : Int × Int × (ByteArray × (Int × (Int × (ByteArray × (Int × (Int × Int)))))) × Int × Int) : Option (Int × Int × (ByteArray × (Int × (Int × (ByteArray × (Int × (Int × Int)))))) × Int × Int) := acall Tryd.prog E k 37 d
noncomputable def spec_woStep (k : Nat) (d : (ByteArray × (Int × (Int × (ByteArray × (Int × (Int × Int))))))) : Option ((ByteArray × (Int × (Int × (ByteArray × (Int × (Int × Int))))))) := acall Tryd.prog E k 38 d
noncomputable def spec_woColour (k : Nat) (d : (ByteArray × (Int × (Int × (ByteArray × (Int × (Int × Int)))))) × Int × Int) : Option (Int) := acall Tryd.prog E k 39 d
noncomputable def spec_woTurn (k : Nat) (d : Int) : Option (Int) := acall Tryd.prog E k 40 d
noncomputable def spec_woPaint (k : Nat) (d : (ByteArray × (Int × (Int × (ByteArray × (Int × (Int × Int)))))) × Int × Int × Int) : Option ((Unit) × ((ByteArray × (Int × (Int × (ByteArray × (Int × (Int × Int)))))))) := acall Tryd.prog E k 41 d
noncomputable def spec_l1Num (k : Nat) (d : Int) : Option (ByteArray) := acall Tryd.prog E k 42 d
noncomputable def spec_woGo (k : Nat) (d : (ByteArray × (Int × (Int × (ByteArray × (Int × (Int × Int)))))) × Int) : Option ((Unit) × ((ByteArray × (Int × (Int × (ByteArray × (Int × (Int × Int)))))))) := acall Tryd.prog E k 43 d
noncomputable def spec_l1Mod (k : Nat) (d : Int × Int) : Option (Int) := acall Tryd.prog E k 44 d
noncomputable def spec_pzValue_l_2 (k : Nat) (d : Int × Int × (ByteArray × (Int × (Int × (ByteArray × (Int × (Int × Int)))))) × Int × Int × Int) : Option (Int × Int × (ByteArray × (Int × (Int × (ByteArray × (Int × (Int × Int)))))) × Int × Int) := acall Tryd.prog E k 45 d
noncomputable def impl_MakePuzzle (k : Nat) (d : (ByteArray × (Int × (Int × (ByteArray × (Int × (Int × Int)))))) × Int × Int) : Option ((ByteArray × (Int × (Int × List (Int × (Int × Int))))) × Bool) := acall Tryd.prog E k 46 d
noncomputable def impl_isHiddenWorld (k : Nat) (d : (ByteArray × (Int × (Int × (ByteArray × (Int × (Int × Int))))))) : Option (Bool) := acall Tryd.prog E k 47 d
noncomputable def impl_CountBoards (k : Nat) (d : ByteArray × Int × Int) : Option (Int × Bool) := acall Tryd.prog E k 48 d
noncomputable def impl_isHidden (k : Nat) (d : ByteArray × Int × Int) : Option (Bool) := acall Tryd.prog E k 49 d
noncomputable def impl_boards (k : Nat) (d : Int × Int × Int) : Option (Int) := acall Tryd.prog E k 50 d
noncomputable def impl_boards_l (k : Nat) (d : Int × Int × Int × Int × Int) : Option (Int) := acall Tryd.prog E k 51 d
noncomputable def impl_World_at (k : Nat) (d : (ByteArray × (Int × (Int × (ByteArray × (Int × (Int × Int))))))) : Option (Int) := acall Tryd.prog E k 52 d
noncomputable def impl_MakePuzzle_l (k : Nat) (d : (ByteArray × (Int × (Int × (ByteArray × (Int × (Int × Int)))))) × (ByteArray × (Int × (Int × List (Int × (Int × Int))))) × Int × (ByteArray × (Int × (Int × List (Int × (Int × Int))))) × Int × Int) : Option ((ByteArray × (Int × (Int × List (Int × (Int × Int))))) × (ByteArray × (Int × (Int × List (Int × (Int × Int)))))) := acall Tryd.prog E k 53 d
noncomputable def impl_MakePuzzle_1 (k : Nat) (d : Int) : Option ((Int) × (Int)) := acall Tryd.prog E k 54 d
noncomputable def impl_told (k : Nat) (d : Int × Int × (ByteArray × (Int × (Int × (ByteArray × (Int × (Int × Int))))))) : Option (Int) := acall Tryd.prog E k 55 d
noncomputable def impl_told_l (k : Nat) (d : Int × List Int × Int × Int) : Option (Int) := acall Tryd.prog E k 56 d
noncomputable def impl_told_l_2 (k : Nat) (d : Int × (ByteArray × (Int × (Int × (ByteArray × (Int × (Int × Int)))))) × Int × Int) : Option (Int × (ByteArray × (Int × (Int × (ByteArray × (Int × (Int × Int))))))) := acall Tryd.prog E k 57 d
noncomputable def impl_World_step (k : Nat) (d : (ByteArray × (Int × (Int × (ByteArray × (Int × (Int × Int))))))) : Option ((ByteArray × (Int × (Int × (ByteArray × (Int × (Int × Int))))))) := acall Tryd.prog E k 58 d
noncomputable def impl_World_colour (k : Nat) (d : (ByteArray × (Int × (Int × (ByteArray × (Int × (Int × Int))))))) : Option (Int) := acall Tryd.prog E k 59 d
noncomputable def impl_quarters (k : Nat) (d : Int) : Option (Int) := acall Tryd.prog E k 60 d
noncomputable def impl_painted (k : Nat) (d : ByteArray × Int × Int) : Option (ByteArray) := acall Tryd.prog E k 61 d
noncomputable def impl_World_gone (k : Nat) (d : (ByteArray × (Int × (Int × (ByteArray × (Int × (Int × Int)))))) × Int) : Option ((ByteArray × (Int × (Int × (ByteArray × (Int × (Int × Int))))))) := acall Tryd.prog E k 62 d
noncomputable def impl_ahead (k : Nat) (d : Int) : Option (Int × Int) := acall Tryd.prog E k 63 d
noncomputable def strings_Count (k : Nat) (d : ByteArray × ByteArray) : Option (Int) := acall Tryd.prog E k 64 d
noncomputable def laws_eqPuzzle (k : Nat) (d : (ByteArray × (Int × (Int × List (Int × (Int × Int))))) × (ByteArray × (Int × (Int × List (Int × (Int × Int)))))) : Option (Bool) := acall Tryd.prog E k 65 d
noncomputable def laws_eqClueS (k : Nat) (d : List (Int × (Int × Int)) × List (Int × (Int × Int))) : Option (Bool) := acall Tryd.prog E k 66 d
noncomputable def laws_eqClueS_l (k : Nat) (d : List (Int × (Int × Int)) × List (Int × (Int × Int)) × Int) : Option ((Bool) ⊕ (Unit)) := acall Tryd.prog E k 67 d
noncomputable def laws_eqClue (k : Nat) (d : (Int × (Int × Int)) × (Int × (Int × Int))) : Option (Bool) := acall Tryd.prog E k 68 d
noncomputable def laws_markPuzzle (k : Nat) (d : (ByteArray × (Int × (Int × List (Int × (Int × Int))))) × Int) : Option ((Int) × ((ByteArray × (Int × (Int × List (Int × (Int × Int))))))) := acall Tryd.prog E k 69 d
noncomputable def laws_markClueS (k : Nat) (d : List (Int × (Int × Int)) × Int) : Option ((Int) × (List (Int × (Int × Int)))) := acall Tryd.prog E k 70 d
noncomputable def laws_markClueS_l (k : Nat) (d : List (Int × (Int × Int)) × Int × Int × Unit) : Option (Int × List (Int × (Int × Int))) := acall Tryd.prog E k 71 d
noncomputable def laws_heldPuzzle (k : Nat) (d : (ByteArray × (Int × (Int × List (Int × (Int × Int))))) × Int) : Option (Int) := acall Tryd.prog E k 72 d
noncomputable def laws_heldClueS (k : Nat) (d : List (Int × (Int × Int)) × Int) : Option (Int) := acall Tryd.prog E k 73 d
noncomputable def laws_heldClueS_l (k : Nat) (d : List (Int × (Int × Int)) × Int × Int) : Option ((Int) ⊕ (Int)) := acall Tryd.prog E k 74 d
end Go.Proofs.YtodmlhpobebdgaaDoorS
