/- What each function computes (printed by wip/sim/gen.py). -/
import Derived.Test.YtcmebphcoamohaaGreatDoorTab
namespace Go.Proofs.YtcmebphcoamohaaGreatDoorS
open Go Go.Proofs
set_option maxRecDepth 100000
set_option linter.unusedVariables false
theorem bits_Len64.eq (k : Nat) (x : Int) : bits_Len64 (k + 1) x =
  cond (decide (x ≥ 4294967296))
  (cond (decide ((shrI .u64 x 32) ≥ 65536))
   (cond (decide ((shrI .u64 (shrI .u64 x 32) 16) ≥ 256))
    (cond (inB (w8 (shrI .u64 (shrI .u64 (shrI .u64 x 32) 16) 8)) ((bs [0, 1, 2, 2, 3, 3, 3, 3, 4, 4, 4, 4, 4, 4, 4, 4, 5, 5, 5, 5, 5, 5, 5, 5, 5, 5, 5, 5, 5, 5, 5, 5, 6, 6, 6, 6, 6, 6, 6, 6, 6, 6, 6, 6, 6, 6, 6, 6, 6, 6, 6, 6, 6, 6, 6, 6, 6, 6, 6, 6, 6, 6, 6, 6, 7, 7, 7, 7, 7, 7, 7, 7, 7, 7, 7, 7, 7, 7, 7, 7, 7, 7, 7, 7, 7, 7, 7, 7, 7, 7, 7, 7, 7, 7, 7, 7, 7, 7, 7, 7, 7, 7, 7, 7, 7, 7, 7, 7, 7, 7, 7, 7, 7, 7, 7, 7, 7, 7, 7, 7, 7, 7, 7, 7, 7, 7, 7, 7, 8, 8, 8, 8, 8, 8, 8, 8, 8, 8, 8, 8, 8, 8, 8, 8, 8, 8, 8, 8, 8, 8, 8, 8, 8, 8, 8, 8, 8, 8, 8, 8, 8, 8, 8, 8, 8, 8, 8, 8, 8, 8, 8, 8, 8, 8, 8, 8, 8, 8, 8, 8, 8, 8, 8, 8, 8, 8, 8, 8, 8, 8, 8, 8, 8, 8, 8, 8, 8, 8, 8, 8, 8, 8, 8, 8, 8, 8, 8, 8, 8, 8, 8, 8, 8, 8, 8, 8, 8, 8, 8, 8, 8, 8, 8, 8, 8, 8, 8, 8, 8, 8, 8, 8, 8, 8, 8, 8, 8, 8, 8, 8, 8, 8, 8, 8, 8, 8, 8, 8, 8, 8, 8, 8, 8, 8, 8, 8]).size))
     (some (w64 (56 + (w64 (bt (bs [0, 1, 2, 2, 3, 3, 3, 3, 4, 4, 4, 4, 4, 4, 4, 4, 5, 5, 5, 5, 5, 5, 5, 5, 5, 5, 5, 5, 5, 5, 5, 5, 6, 6, 6, 6, 6, 6, 6, 6, 6, 6, 6, 6, 6, 6, 6, 6, 6, 6, 6, 6, 6, 6, 6, 6, 6, 6, 6, 6, 6, 6, 6, 6, 7, 7, 7, 7, 7, 7, 7, 7, 7, 7, 7, 7, 7, 7, 7, 7, 7, 7, 7, 7, 7, 7, 7, 7, 7, 7, 7, 7, 7, 7, 7, 7, 7, 7, 7, 7, 7, 7, 7, 7, 7, 7, 7, 7, 7, 7, 7, 7, 7, 7, 7, 7, 7, 7, 7, 7, 7, 7, 7, 7, 7, 7, 7, 7, 8, 8, 8, 8, 8, 8, 8, 8, 8, 8, 8, 8, 8, 8, 8, 8, 8, 8, 8, 8, 8, 8, 8, 8, 8, 8, 8, 8, 8, 8, 8, 8, 8, 8, 8, 8, 8, 8, 8, 8, 8, 8, 8, 8, 8, 8, 8, 8, 8, 8, 8, 8, 8, 8, 8, 8, 8, 8, 8, 8, 8, 8, 8, 8, 8, 8, 8, 8, 8, 8, 8, 8, 8, 8, 8, 8, 8, 8, 8, 8, 8, 8, 8, 8, 8, 8, 8, 8, 8, 8, 8, 8, 8, 8, 8, 8, 8, 8, 8, 8, 8, 8, 8, 8, 8, 8, 8, 8, 8, 8, 8, 8, 8, 8, 8, 8, 8, 8, 8, 8, 8, 8, 8, 8, 8, 8, 8, 8]) ((w8 (shrI .u64 (shrI .u64 (shrI .u64 x 32) 16) 8)).toNat))))))
     (none))
    (cond (inB (w8 (shrI .u64 (shrI .u64 x 32) 16)) ((bs [0, 1, 2, 2, 3, 3, 3, 3, 4, 4, 4, 4, 4, 4, 4, 4, 5, 5, 5, 5, 5, 5, 5, 5, 5, 5, 5, 5, 5, 5, 5, 5, 6, 6, 6, 6, 6, 6, 6, 6, 6, 6, 6, 6, 6, 6, 6, 6, 6, 6, 6, 6, 6, 6, 6, 6, 6, 6, 6, 6, 6, 6, 6, 6, 7, 7, 7, 7, 7, 7, 7, 7, 7, 7, 7, 7, 7, 7, 7, 7, 7, 7, 7, 7, 7, 7, 7, 7, 7, 7, 7, 7, 7, 7, 7, 7, 7, 7, 7, 7, 7, 7, 7, 7, 7, 7, 7, 7, 7, 7, 7, 7, 7, 7, 7, 7, 7, 7, 7, 7, 7, 7, 7, 7, 7, 7, 7, 7, 8, 8, 8, 8, 8, 8, 8, 8, 8, 8, 8, 8, 8, 8, 8, 8, 8, 8, 8, 8, 8, 8, 8, 8, 8, 8, 8, 8, 8, 8, 8, 8, 8, 8, 8, 8, 8, 8, 8, 8, 8, 8, 8, 8, 8, 8, 8, 8, 8, 8, 8, 8, 8, 8, 8, 8, 8, 8, 8, 8, 8, 8, 8, 8, 8, 8, 8, 8, 8, 8, 8, 8, 8, 8, 8, 8, 8, 8, 8, 8, 8, 8, 8, 8, 8, 8, 8, 8, 8, 8, 8, 8, 8, 8, 8, 8, 8, 8, 8, 8, 8, 8, 8, 8, 8, 8, 8, 8, 8, 8, 8, 8, 8, 8, 8, 8, 8, 8, 8, 8, 8, 8, 8, 8, 8, 8, 8, 8]).size))
     (some (w64 (48 + (w64 (bt (bs [0, 1, 2, 2, 3, 3, 3, 3, 4, 4, 4, 4, 4, 4, 4, 4, 5, 5, 5, 5, 5, 5, 5, 5, 5, 5, 5, 5, 5, 5, 5, 5, 6, 6, 6, 6, 6, 6, 6, 6, 6, 6, 6, 6, 6, 6, 6, 6, 6, 6, 6, 6, 6, 6, 6, 6, 6, 6, 6, 6, 6, 6, 6, 6, 7, 7, 7, 7, 7, 7, 7, 7, 7, 7, 7, 7, 7, 7, 7, 7, 7, 7, 7, 7, 7, 7, 7, 7, 7, 7, 7, 7, 7, 7, 7, 7, 7, 7, 7, 7, 7, 7, 7, 7, 7, 7, 7, 7, 7, 7, 7, 7, 7, 7, 7, 7, 7, 7, 7, 7, 7, 7, 7, 7, 7, 7, 7, 7, 8, 8, 8, 8, 8, 8, 8, 8, 8, 8, 8, 8, 8, 8, 8, 8, 8, 8, 8, 8, 8, 8, 8, 8, 8, 8, 8, 8, 8, 8, 8, 8, 8, 8, 8, 8, 8, 8, 8, 8, 8, 8, 8, 8, 8, 8, 8, 8, 8, 8, 8, 8, 8, 8, 8, 8, 8, 8, 8, 8, 8, 8, 8, 8, 8, 8, 8, 8, 8, 8, 8, 8, 8, 8, 8, 8, 8, 8, 8, 8, 8, 8, 8, 8, 8, 8, 8, 8, 8, 8, 8, 8, 8, 8, 8, 8, 8, 8, 8, 8, 8, 8, 8, 8, 8, 8, 8, 8, 8, 8, 8, 8, 8, 8, 8, 8, 8, 8, 8, 8, 8, 8, 8, 8, 8, 8, 8, 8]) ((w8 (shrI .u64 (shrI .u64 x 32) 16)).toNat))))))
     (none)))
   (cond (decide ((shrI .u64 x 32) ≥ 256))
    (cond (inB (w8 (shrI .u64 (shrI .u64 x 32) 8)) ((bs [0, 1, 2, 2, 3, 3, 3, 3, 4, 4, 4, 4, 4, 4, 4, 4, 5, 5, 5, 5, 5, 5, 5, 5, 5, 5, 5, 5, 5, 5, 5, 5, 6, 6, 6, 6, 6, 6, 6, 6, 6, 6, 6, 6, 6, 6, 6, 6, 6, 6, 6, 6, 6, 6, 6, 6, 6, 6, 6, 6, 6, 6, 6, 6, 7, 7, 7, 7, 7, 7, 7, 7, 7, 7, 7, 7, 7, 7, 7, 7, 7, 7, 7, 7, 7, 7, 7, 7, 7, 7, 7, 7, 7, 7, 7, 7, 7, 7, 7, 7, 7, 7, 7, 7, 7, 7, 7, 7, 7, 7, 7, 7, 7, 7, 7, 7, 7, 7, 7, 7, 7, 7, 7, 7, 7, 7, 7, 7, 8, 8, 8, 8, 8, 8, 8, 8, 8, 8, 8, 8, 8, 8, 8, 8, 8, 8, 8, 8, 8, 8, 8, 8, 8, 8, 8, 8, 8, 8, 8, 8, 8, 8, 8, 8, 8, 8, 8, 8, 8, 8, 8, 8, 8, 8, 8, 8, 8, 8, 8, 8, 8, 8, 8, 8, 8, 8, 8, 8, 8, 8, 8, 8, 8, 8, 8, 8, 8, 8, 8, 8, 8, 8, 8, 8, 8, 8, 8, 8, 8, 8, 8, 8, 8, 8, 8, 8, 8, 8, 8, 8, 8, 8, 8, 8, 8, 8, 8, 8, 8, 8, 8, 8, 8, 8, 8, 8, 8, 8, 8, 8, 8, 8, 8, 8, 8, 8, 8, 8, 8, 8, 8, 8, 8, 8, 8, 8]).size))
     (some (w64 (40 + (w64 (bt (bs [0, 1, 2, 2, 3, 3, 3, 3, 4, 4, 4, 4, 4, 4, 4, 4, 5, 5, 5, 5, 5, 5, 5, 5, 5, 5, 5, 5, 5, 5, 5, 5, 6, 6, 6, 6, 6, 6, 6, 6, 6, 6, 6, 6, 6, 6, 6, 6, 6, 6, 6, 6, 6, 6, 6, 6, 6, 6, 6, 6, 6, 6, 6, 6, 7, 7, 7, 7, 7, 7, 7, 7, 7, 7, 7, 7, 7, 7, 7, 7, 7, 7, 7, 7, 7, 7, 7, 7, 7, 7, 7, 7, 7, 7, 7, 7, 7, 7, 7, 7, 7, 7, 7, 7, 7, 7, 7, 7, 7, 7, 7, 7, 7, 7, 7, 7, 7, 7, 7, 7, 7, 7, 7, 7, 7, 7, 7, 7, 8, 8, 8, 8, 8, 8, 8, 8, 8, 8, 8, 8, 8, 8, 8, 8, 8, 8, 8, 8, 8, 8, 8, 8, 8, 8, 8, 8, 8, 8, 8, 8, 8, 8, 8, 8, 8, 8, 8, 8, 8, 8, 8, 8, 8, 8, 8, 8, 8, 8, 8, 8, 8, 8, 8, 8, 8, 8, 8, 8, 8, 8, 8, 8, 8, 8, 8, 8, 8, 8, 8, 8, 8, 8, 8, 8, 8, 8, 8, 8, 8, 8, 8, 8, 8, 8, 8, 8, 8, 8, 8, 8, 8, 8, 8, 8, 8, 8, 8, 8, 8, 8, 8, 8, 8, 8, 8, 8, 8, 8, 8, 8, 8, 8, 8, 8, 8, 8, 8, 8, 8, 8, 8, 8, 8, 8, 8, 8]) ((w8 (shrI .u64 (shrI .u64 x 32) 8)).toNat))))))
     (none))
    (cond (inB (w8 (shrI .u64 x 32)) ((bs [0, 1, 2, 2, 3, 3, 3, 3, 4, 4, 4, 4, 4, 4, 4, 4, 5, 5, 5, 5, 5, 5, 5, 5, 5, 5, 5, 5, 5, 5, 5, 5, 6, 6, 6, 6, 6, 6, 6, 6, 6, 6, 6, 6, 6, 6, 6, 6, 6, 6, 6, 6, 6, 6, 6, 6, 6, 6, 6, 6, 6, 6, 6, 6, 7, 7, 7, 7, 7, 7, 7, 7, 7, 7, 7, 7, 7, 7, 7, 7, 7, 7, 7, 7, 7, 7, 7, 7, 7, 7, 7, 7, 7, 7, 7, 7, 7, 7, 7, 7, 7, 7, 7, 7, 7, 7, 7, 7, 7, 7, 7, 7, 7, 7, 7, 7, 7, 7, 7, 7, 7, 7, 7, 7, 7, 7, 7, 7, 8, 8, 8, 8, 8, 8, 8, 8, 8, 8, 8, 8, 8, 8, 8, 8, 8, 8, 8, 8, 8, 8, 8, 8, 8, 8, 8, 8, 8, 8, 8, 8, 8, 8, 8, 8, 8, 8, 8, 8, 8, 8, 8, 8, 8, 8, 8, 8, 8, 8, 8, 8, 8, 8, 8, 8, 8, 8, 8, 8, 8, 8, 8, 8, 8, 8, 8, 8, 8, 8, 8, 8, 8, 8, 8, 8, 8, 8, 8, 8, 8, 8, 8, 8, 8, 8, 8, 8, 8, 8, 8, 8, 8, 8, 8, 8, 8, 8, 8, 8, 8, 8, 8, 8, 8, 8, 8, 8, 8, 8, 8, 8, 8, 8, 8, 8, 8, 8, 8, 8, 8, 8, 8, 8, 8, 8, 8, 8]).size))
     (some (w64 (32 + (w64 (bt (bs [0, 1, 2, 2, 3, 3, 3, 3, 4, 4, 4, 4, 4, 4, 4, 4, 5, 5, 5, 5, 5, 5, 5, 5, 5, 5, 5, 5, 5, 5, 5, 5, 6, 6, 6, 6, 6, 6, 6, 6, 6, 6, 6, 6, 6, 6, 6, 6, 6, 6, 6, 6, 6, 6, 6, 6, 6, 6, 6, 6, 6, 6, 6, 6, 7, 7, 7, 7, 7, 7, 7, 7, 7, 7, 7, 7, 7, 7, 7, 7, 7, 7, 7, 7, 7, 7, 7, 7, 7, 7, 7, 7, 7, 7, 7, 7, 7, 7, 7, 7, 7, 7, 7, 7, 7, 7, 7, 7, 7, 7, 7, 7, 7, 7, 7, 7, 7, 7, 7, 7, 7, 7, 7, 7, 7, 7, 7, 7, 8, 8, 8, 8, 8, 8, 8, 8, 8, 8, 8, 8, 8, 8, 8, 8, 8, 8, 8, 8, 8, 8, 8, 8, 8, 8, 8, 8, 8, 8, 8, 8, 8, 8, 8, 8, 8, 8, 8, 8, 8, 8, 8, 8, 8, 8, 8, 8, 8, 8, 8, 8, 8, 8, 8, 8, 8, 8, 8, 8, 8, 8, 8, 8, 8, 8, 8, 8, 8, 8, 8, 8, 8, 8, 8, 8, 8, 8, 8, 8, 8, 8, 8, 8, 8, 8, 8, 8, 8, 8, 8, 8, 8, 8, 8, 8, 8, 8, 8, 8, 8, 8, 8, 8, 8, 8, 8, 8, 8, 8, 8, 8, 8, 8, 8, 8, 8, 8, 8, 8, 8, 8, 8, 8, 8, 8, 8, 8]) ((w8 (shrI .u64 x 32)).toNat))))))
     (none))))
  (cond (decide (x ≥ 65536))
   (cond (decide ((shrI .u64 x 16) ≥ 256))
    (cond (inB (w8 (shrI .u64 (shrI .u64 x 16) 8)) ((bs [0, 1, 2, 2, 3, 3, 3, 3, 4, 4, 4, 4, 4, 4, 4, 4, 5, 5, 5, 5, 5, 5, 5, 5, 5, 5, 5, 5, 5, 5, 5, 5, 6, 6, 6, 6, 6, 6, 6, 6, 6, 6, 6, 6, 6, 6, 6, 6, 6, 6, 6, 6, 6, 6, 6, 6, 6, 6, 6, 6, 6, 6, 6, 6, 7, 7, 7, 7, 7, 7, 7, 7, 7, 7, 7, 7, 7, 7, 7, 7, 7, 7, 7, 7, 7, 7, 7, 7, 7, 7, 7, 7, 7, 7, 7, 7, 7, 7, 7, 7, 7, 7, 7, 7, 7, 7, 7, 7, 7, 7, 7, 7, 7, 7, 7, 7, 7, 7, 7, 7, 7, 7, 7, 7, 7, 7, 7, 7, 8, 8, 8, 8, 8, 8, 8, 8, 8, 8, 8, 8, 8, 8, 8, 8, 8, 8, 8, 8, 8, 8, 8, 8, 8, 8, 8, 8, 8, 8, 8, 8, 8, 8, 8, 8, 8, 8, 8, 8, 8, 8, 8, 8, 8, 8, 8, 8, 8, 8, 8, 8, 8, 8, 8, 8, 8, 8, 8, 8, 8, 8, 8, 8, 8, 8, 8, 8, 8, 8, 8, 8, 8, 8, 8, 8, 8, 8, 8, 8, 8, 8, 8, 8, 8, 8, 8, 8, 8, 8, 8, 8, 8, 8, 8, 8, 8, 8, 8, 8, 8, 8, 8, 8, 8, 8, 8, 8, 8, 8, 8, 8, 8, 8, 8, 8, 8, 8, 8, 8, 8, 8, 8, 8, 8, 8, 8, 8]).size))
     (some (w64 (24 + (w64 (bt (bs [0, 1, 2, 2, 3, 3, 3, 3, 4, 4, 4, 4, 4, 4, 4, 4, 5, 5, 5, 5, 5, 5, 5, 5, 5, 5, 5, 5, 5, 5, 5, 5, 6, 6, 6, 6, 6, 6, 6, 6, 6, 6, 6, 6, 6, 6, 6, 6, 6, 6, 6, 6, 6, 6, 6, 6, 6, 6, 6, 6, 6, 6, 6, 6, 7, 7, 7, 7, 7, 7, 7, 7, 7, 7, 7, 7, 7, 7, 7, 7, 7, 7, 7, 7, 7, 7, 7, 7, 7, 7, 7, 7, 7, 7, 7, 7, 7, 7, 7, 7, 7, 7, 7, 7, 7, 7, 7, 7, 7, 7, 7, 7, 7, 7, 7, 7, 7, 7, 7, 7, 7, 7, 7, 7, 7, 7, 7, 7, 8, 8, 8, 8, 8, 8, 8, 8, 8, 8, 8, 8, 8, 8, 8, 8, 8, 8, 8, 8, 8, 8, 8, 8, 8, 8, 8, 8, 8, 8, 8, 8, 8, 8, 8, 8, 8, 8, 8, 8, 8, 8, 8, 8, 8, 8, 8, 8, 8, 8, 8, 8, 8, 8, 8, 8, 8, 8, 8, 8, 8, 8, 8, 8, 8, 8, 8, 8, 8, 8, 8, 8, 8, 8, 8, 8, 8, 8, 8, 8, 8, 8, 8, 8, 8, 8, 8, 8, 8, 8, 8, 8, 8, 8, 8, 8, 8, 8, 8, 8, 8, 8, 8, 8, 8, 8, 8, 8, 8, 8, 8, 8, 8, 8, 8, 8, 8, 8, 8, 8, 8, 8, 8, 8, 8, 8, 8, 8]) ((w8 (shrI .u64 (shrI .u64 x 16) 8)).toNat))))))
     (none))
    (cond (inB (w8 (shrI .u64 x 16)) ((bs [0, 1, 2, 2, 3, 3, 3, 3, 4, 4, 4, 4, 4, 4, 4, 4, 5, 5, 5, 5, 5, 5, 5, 5, 5, 5, 5, 5, 5, 5, 5, 5, 6, 6, 6, 6, 6, 6, 6, 6, 6, 6, 6, 6, 6, 6, 6, 6, 6, 6, 6, 6, 6, 6, 6, 6, 6, 6, 6, 6, 6, 6, 6, 6, 7, 7, 7, 7, 7, 7, 7, 7, 7, 7, 7, 7, 7, 7, 7, 7, 7, 7, 7, 7, 7, 7, 7, 7, 7, 7, 7, 7, 7, 7, 7, 7, 7, 7, 7, 7, 7, 7, 7, 7, 7, 7, 7, 7, 7, 7, 7, 7, 7, 7, 7, 7, 7, 7, 7, 7, 7, 7, 7, 7, 7, 7, 7, 7, 8, 8, 8, 8, 8, 8, 8, 8, 8, 8, 8, 8, 8, 8, 8, 8, 8, 8, 8, 8, 8, 8, 8, 8, 8, 8, 8, 8, 8, 8, 8, 8, 8, 8, 8, 8, 8, 8, 8, 8, 8, 8, 8, 8, 8, 8, 8, 8, 8, 8, 8, 8, 8, 8, 8, 8, 8, 8, 8, 8, 8, 8, 8, 8, 8, 8, 8, 8, 8, 8, 8, 8, 8, 8, 8, 8, 8, 8, 8, 8, 8, 8, 8, 8, 8, 8, 8, 8, 8, 8, 8, 8, 8, 8, 8, 8, 8, 8, 8, 8, 8, 8, 8, 8, 8, 8, 8, 8, 8, 8, 8, 8, 8, 8, 8, 8, 8, 8, 8, 8, 8, 8, 8, 8, 8, 8, 8, 8]).size))
     (some (w64 (16 + (w64 (bt (bs [0, 1, 2, 2, 3, 3, 3, 3, 4, 4, 4, 4, 4, 4, 4, 4, 5, 5, 5, 5, 5, 5, 5, 5, 5, 5, 5, 5, 5, 5, 5, 5, 6, 6, 6, 6, 6, 6, 6, 6, 6, 6, 6, 6, 6, 6, 6, 6, 6, 6, 6, 6, 6, 6, 6, 6, 6, 6, 6, 6, 6, 6, 6, 6, 7, 7, 7, 7, 7, 7, 7, 7, 7, 7, 7, 7, 7, 7, 7, 7, 7, 7, 7, 7, 7, 7, 7, 7, 7, 7, 7, 7, 7, 7, 7, 7, 7, 7, 7, 7, 7, 7, 7, 7, 7, 7, 7, 7, 7, 7, 7, 7, 7, 7, 7, 7, 7, 7, 7, 7, 7, 7, 7, 7, 7, 7, 7, 7, 8, 8, 8, 8, 8, 8, 8, 8, 8, 8, 8, 8, 8, 8, 8, 8, 8, 8, 8, 8, 8, 8, 8, 8, 8, 8, 8, 8, 8, 8, 8, 8, 8, 8, 8, 8, 8, 8, 8, 8, 8, 8, 8, 8, 8, 8, 8, 8, 8, 8, 8, 8, 8, 8, 8, 8, 8, 8, 8, 8, 8, 8, 8, 8, 8, 8, 8, 8, 8, 8, 8, 8, 8, 8, 8, 8, 8, 8, 8, 8, 8, 8, 8, 8, 8, 8, 8, 8, 8, 8, 8, 8, 8, 8, 8, 8, 8, 8, 8, 8, 8, 8, 8, 8, 8, 8, 8, 8, 8, 8, 8, 8, 8, 8, 8, 8, 8, 8, 8, 8, 8, 8, 8, 8, 8, 8, 8, 8]) ((w8 (shrI .u64 x 16)).toNat))))))
     (none)))
   (cond (decide (x ≥ 256))
    (cond (inB (w8 (shrI .u64 x 8)) ((bs [0, 1, 2, 2, 3, 3, 3, 3, 4, 4, 4, 4, 4, 4, 4, 4, 5, 5, 5, 5, 5, 5, 5, 5, 5, 5, 5, 5, 5, 5, 5, 5, 6, 6, 6, 6, 6, 6, 6, 6, 6, 6, 6, 6, 6, 6, 6, 6, 6, 6, 6, 6, 6, 6, 6, 6, 6, 6, 6, 6, 6, 6, 6, 6, 7, 7, 7, 7, 7, 7, 7, 7, 7, 7, 7, 7, 7, 7, 7, 7, 7, 7, 7, 7, 7, 7, 7, 7, 7, 7, 7, 7, 7, 7, 7, 7, 7, 7, 7, 7, 7, 7, 7, 7, 7, 7, 7, 7, 7, 7, 7, 7, 7, 7, 7, 7, 7, 7, 7, 7, 7, 7, 7, 7, 7, 7, 7, 7, 8, 8, 8, 8, 8, 8, 8, 8, 8, 8, 8, 8, 8, 8, 8, 8, 8, 8, 8, 8, 8, 8, 8, 8, 8, 8, 8, 8, 8, 8, 8, 8, 8, 8, 8, 8, 8, 8, 8, 8, 8, 8, 8, 8, 8, 8, 8, 8, 8, 8, 8, 8, 8, 8, 8, 8, 8, 8, 8, 8, 8, 8, 8, 8, 8, 8, 8, 8, 8, 8, 8, 8, 8, 8, 8, 8, 8, 8, 8, 8, 8, 8, 8, 8, 8, 8, 8, 8, 8, 8, 8, 8, 8, 8, 8, 8, 8, 8, 8, 8, 8, 8, 8, 8, 8, 8, 8, 8, 8, 8, 8, 8, 8, 8, 8, 8, 8, 8, 8, 8, 8, 8, 8, 8, 8, 8, 8, 8]).size))
     (some (w64 (8 + (w64 (bt (bs [0, 1, 2, 2, 3, 3, 3, 3, 4, 4, 4, 4, 4, 4, 4, 4, 5, 5, 5, 5, 5, 5, 5, 5, 5, 5, 5, 5, 5, 5, 5, 5, 6, 6, 6, 6, 6, 6, 6, 6, 6, 6, 6, 6, 6, 6, 6, 6, 6, 6, 6, 6, 6, 6, 6, 6, 6, 6, 6, 6, 6, 6, 6, 6, 7, 7, 7, 7, 7, 7, 7, 7, 7, 7, 7, 7, 7, 7, 7, 7, 7, 7, 7, 7, 7, 7, 7, 7, 7, 7, 7, 7, 7, 7, 7, 7, 7, 7, 7, 7, 7, 7, 7, 7, 7, 7, 7, 7, 7, 7, 7, 7, 7, 7, 7, 7, 7, 7, 7, 7, 7, 7, 7, 7, 7, 7, 7, 7, 8, 8, 8, 8, 8, 8, 8, 8, 8, 8, 8, 8, 8, 8, 8, 8, 8, 8, 8, 8, 8, 8, 8, 8, 8, 8, 8, 8, 8, 8, 8, 8, 8, 8, 8, 8, 8, 8, 8, 8, 8, 8, 8, 8, 8, 8, 8, 8, 8, 8, 8, 8, 8, 8, 8, 8, 8, 8, 8, 8, 8, 8, 8, 8, 8, 8, 8, 8, 8, 8, 8, 8, 8, 8, 8, 8, 8, 8, 8, 8, 8, 8, 8, 8, 8, 8, 8, 8, 8, 8, 8, 8, 8, 8, 8, 8, 8, 8, 8, 8, 8, 8, 8, 8, 8, 8, 8, 8, 8, 8, 8, 8, 8, 8, 8, 8, 8, 8, 8, 8, 8, 8, 8, 8, 8, 8, 8, 8]) ((w8 (shrI .u64 x 8)).toNat))))))
     (none))
    (cond (inB (w8 x) ((bs [0, 1, 2, 2, 3, 3, 3, 3, 4, 4, 4, 4, 4, 4, 4, 4, 5, 5, 5, 5, 5, 5, 5, 5, 5, 5, 5, 5, 5, 5, 5, 5, 6, 6, 6, 6, 6, 6, 6, 6, 6, 6, 6, 6, 6, 6, 6, 6, 6, 6, 6, 6, 6, 6, 6, 6, 6, 6, 6, 6, 6, 6, 6, 6, 7, 7, 7, 7, 7, 7, 7, 7, 7, 7, 7, 7, 7, 7, 7, 7, 7, 7, 7, 7, 7, 7, 7, 7, 7, 7, 7, 7, 7, 7, 7, 7, 7, 7, 7, 7, 7, 7, 7, 7, 7, 7, 7, 7, 7, 7, 7, 7, 7, 7, 7, 7, 7, 7, 7, 7, 7, 7, 7, 7, 7, 7, 7, 7, 8, 8, 8, 8, 8, 8, 8, 8, 8, 8, 8, 8, 8, 8, 8, 8, 8, 8, 8, 8, 8, 8, 8, 8, 8, 8, 8, 8, 8, 8, 8, 8, 8, 8, 8, 8, 8, 8, 8, 8, 8, 8, 8, 8, 8, 8, 8, 8, 8, 8, 8, 8, 8, 8, 8, 8, 8, 8, 8, 8, 8, 8, 8, 8, 8, 8, 8, 8, 8, 8, 8, 8, 8, 8, 8, 8, 8, 8, 8, 8, 8, 8, 8, 8, 8, 8, 8, 8, 8, 8, 8, 8, 8, 8, 8, 8, 8, 8, 8, 8, 8, 8, 8, 8, 8, 8, 8, 8, 8, 8, 8, 8, 8, 8, 8, 8, 8, 8, 8, 8, 8, 8, 8, 8, 8, 8, 8, 8]).size))
     (some (w64 (0 + (w64 (bt (bs [0, 1, 2, 2, 3, 3, 3, 3, 4, 4, 4, 4, 4, 4, 4, 4, 5, 5, 5, 5, 5, 5, 5, 5, 5, 5, 5, 5, 5, 5, 5, 5, 6, 6, 6, 6, 6, 6, 6, 6, 6, 6, 6, 6, 6, 6, 6, 6, 6, 6, 6, 6, 6, 6, 6, 6, 6, 6, 6, 6, 6, 6, 6, 6, 7, 7, 7, 7, 7, 7, 7, 7, 7, 7, 7, 7, 7, 7, 7, 7, 7, 7, 7, 7, 7, 7, 7, 7, 7, 7, 7, 7, 7, 7, 7, 7, 7, 7, 7, 7, 7, 7, 7, 7, 7, 7, 7, 7, 7, 7, 7, 7, 7, 7, 7, 7, 7, 7, 7, 7, 7, 7, 7, 7, 7, 7, 7, 7, 8, 8, 8, 8, 8, 8, 8, 8, 8, 8, 8, 8, 8, 8, 8, 8, 8, 8, 8, 8, 8, 8, 8, 8, 8, 8, 8, 8, 8, 8, 8, 8, 8, 8, 8, 8, 8, 8, 8, 8, 8, 8, 8, 8, 8, 8, 8, 8, 8, 8, 8, 8, 8, 8, 8, 8, 8, 8, 8, 8, 8, 8, 8, 8, 8, 8, 8, 8, 8, 8, 8, 8, 8, 8, 8, 8, 8, 8, 8, 8, 8, 8, 8, 8, 8, 8, 8, 8, 8, 8, 8, 8, 8, 8, 8, 8, 8, 8, 8, 8, 8, 8, 8, 8, 8, 8, 8, 8, 8, 8, 8, 8, 8, 8, 8, 8, 8, 8, 8, 8, 8, 8, 8, 8, 8, 8, 8, 8]) ((w8 x).toNat))))))
     (none)))) := by kernel_rfl
theorem slices_pdqsortOrdered.eq (k : Nat) (data : List Int) (a : Int) (b : Int) (limit : Int) : slices_pdqsortOrdered (k + 1) (data, a, b, limit) =
  (slices_pdqsortOrdered_l k (data, a, b, limit, true, true, ())).bind fun r1 =>
  some ((), r1) := by kernel_rfl
theorem slices_pdqsortOrdered_l.eq (k : Nat) (data : List Int) (a : Int) (b : Int) (limit : Int) (wasBalanced : Bool) (wasPartitioned : Bool) : slices_pdqsortOrdered_l (k + 1) (data, a, b, limit, wasBalanced, wasPartitioned, ()) =
  cond (decide ((w64 (b - a)) ≤ 12))
  ((slices_insertionSortOrdered k (data, a, b)).bind fun r1 =>
   some r1.2)
  (cond (limit == 0)
   ((slices_heapSortOrdered k (data, a, b)).bind fun r2 =>
    some r2.2)
   (cond (!wasBalanced)
    ((slices_breakPatternsOrdered k (data, a, b)).bind fun r3 =>
     (slices_choosePivotOrdered k (r3.2, a, b)).bind fun r4 =>
     cond (r4.1.2 == 2)
     ((slices_reverseRangeOrdered k (r4.2, a, b)).bind fun r5 =>
      cond wasBalanced
      (cond wasPartitioned
       ((slices_partialInsertionSortOrdered k (r5.2, a, b)).bind fun r6 =>
        cond r6.1
        (some r6.2)
        (cond (decide (a > 0))
         (cond (inB (w64 (a - 1)) r6.2.length)
          (cond (inB (w64 ((w64 (b - 1)) - (w64 (r4.1.1 - a)))) r6.2.length)
           ((cmp_Less k ((r6.2.getD ((w64 (a - 1)).toNat) default), (r6.2.getD ((w64 ((w64 (b - 1)) - (w64 (r4.1.1 - a)))).toNat) default))).bind fun r7 =>
            cond (!r7)
            ((slices_partitionEqualOrdered k (r6.2, a, b, (w64 ((w64 (b - 1)) - (w64 (r4.1.1 - a)))))).bind fun r8 =>
             slices_pdqsortOrdered_l k (r8.2, r8.1, b, (w64 (limit - 1)), wasBalanced, wasPartitioned, ()))
            ((slices_partitionOrdered k (r6.2, a, b, (w64 ((w64 (b - 1)) - (w64 (r4.1.1 - a)))))).bind fun r9 =>
             cond (decide ((w64 (r9.1.1 - a)) < (w64 (b - r9.1.1))))
             ((slices_pdqsortOrdered k (r9.2, a, r9.1.1, (w64 (limit - 1)))).bind fun r10 =>
              slices_pdqsortOrdered_l k (r10.2, (w64 (r9.1.1 + 1)), b, (w64 (limit - 1)), (decide ((w64 (r9.1.1 - a)) ≥ (w64 ((w64 (b - a)).tdiv 8)))), r9.1.2, ()))
             ((slices_pdqsortOrdered k (r9.2, (w64 (r9.1.1 + 1)), b, (w64 (limit - 1)))).bind fun r11 =>
              slices_pdqsortOrdered_l k (r11.2, a, r9.1.1, (w64 (limit - 1)), (decide ((w64 (b - r9.1.1)) ≥ (w64 ((w64 (b - a)).tdiv 8)))), r9.1.2, ()))))
           (none))
          (none))
         ((slices_partitionOrdered k (r6.2, a, b, (w64 ((w64 (b - 1)) - (w64 (r4.1.1 - a)))))).bind fun r12 =>
          cond (decide ((w64 (r12.1.1 - a)) < (w64 (b - r12.1.1))))
          ((slices_pdqsortOrdered k (r12.2, a, r12.1.1, (w64 (limit - 1)))).bind fun r13 =>
           slices_pdqsortOrdered_l k (r13.2, (w64 (r12.1.1 + 1)), b, (w64 (limit - 1)), (decide ((w64 (r12.1.1 - a)) ≥ (w64 ((w64 (b - a)).tdiv 8)))), r12.1.2, ()))
          ((slices_pdqsortOrdered k (r12.2, (w64 (r12.1.1 + 1)), b, (w64 (limit - 1)))).bind fun r14 =>
           slices_pdqsortOrdered_l k (r14.2, a, r12.1.1, (w64 (limit - 1)), (decide ((w64 (b - r12.1.1)) ≥ (w64 ((w64 (b - a)).tdiv 8)))), r12.1.2, ())))))
       (cond (decide (a > 0))
        (cond (inB (w64 (a - 1)) r5.2.length)
         (cond (inB (w64 ((w64 (b - 1)) - (w64 (r4.1.1 - a)))) r5.2.length)
          ((cmp_Less k ((r5.2.getD ((w64 (a - 1)).toNat) default), (r5.2.getD ((w64 ((w64 (b - 1)) - (w64 (r4.1.1 - a)))).toNat) default))).bind fun r15 =>
           cond (!r15)
           ((slices_partitionEqualOrdered k (r5.2, a, b, (w64 ((w64 (b - 1)) - (w64 (r4.1.1 - a)))))).bind fun r16 =>
            slices_pdqsortOrdered_l k (r16.2, r16.1, b, (w64 (limit - 1)), wasBalanced, wasPartitioned, ()))
           ((slices_partitionOrdered k (r5.2, a, b, (w64 ((w64 (b - 1)) - (w64 (r4.1.1 - a)))))).bind fun r17 =>
            cond (decide ((w64 (r17.1.1 - a)) < (w64 (b - r17.1.1))))
            ((slices_pdqsortOrdered k (r17.2, a, r17.1.1, (w64 (limit - 1)))).bind fun r18 =>
             slices_pdqsortOrdered_l k (r18.2, (w64 (r17.1.1 + 1)), b, (w64 (limit - 1)), (decide ((w64 (r17.1.1 - a)) ≥ (w64 ((w64 (b - a)).tdiv 8)))), r17.1.2, ()))
            ((slices_pdqsortOrdered k (r17.2, (w64 (r17.1.1 + 1)), b, (w64 (limit - 1)))).bind fun r19 =>
             slices_pdqsortOrdered_l k (r19.2, a, r17.1.1, (w64 (limit - 1)), (decide ((w64 (b - r17.1.1)) ≥ (w64 ((w64 (b - a)).tdiv 8)))), r17.1.2, ()))))
          (none))
         (none))
        ((slices_partitionOrdered k (r5.2, a, b, (w64 ((w64 (b - 1)) - (w64 (r4.1.1 - a)))))).bind fun r20 =>
         cond (decide ((w64 (r20.1.1 - a)) < (w64 (b - r20.1.1))))
         ((slices_pdqsortOrdered k (r20.2, a, r20.1.1, (w64 (limit - 1)))).bind fun r21 =>
          slices_pdqsortOrdered_l k (r21.2, (w64 (r20.1.1 + 1)), b, (w64 (limit - 1)), (decide ((w64 (r20.1.1 - a)) ≥ (w64 ((w64 (b - a)).tdiv 8)))), r20.1.2, ()))
         ((slices_pdqsortOrdered k (r20.2, (w64 (r20.1.1 + 1)), b, (w64 (limit - 1)))).bind fun r22 =>
          slices_pdqsortOrdered_l k (r22.2, a, r20.1.1, (w64 (limit - 1)), (decide ((w64 (b - r20.1.1)) ≥ (w64 ((w64 (b - a)).tdiv 8)))), r20.1.2, ())))))
      (cond (decide (a > 0))
       (cond (inB (w64 (a - 1)) r5.2.length)
        (cond (inB (w64 ((w64 (b - 1)) - (w64 (r4.1.1 - a)))) r5.2.length)
         ((cmp_Less k ((r5.2.getD ((w64 (a - 1)).toNat) default), (r5.2.getD ((w64 ((w64 (b - 1)) - (w64 (r4.1.1 - a)))).toNat) default))).bind fun r23 =>
          cond (!r23)
          ((slices_partitionEqualOrdered k (r5.2, a, b, (w64 ((w64 (b - 1)) - (w64 (r4.1.1 - a)))))).bind fun r24 =>
           slices_pdqsortOrdered_l k (r24.2, r24.1, b, (w64 (limit - 1)), wasBalanced, wasPartitioned, ()))
          ((slices_partitionOrdered k (r5.2, a, b, (w64 ((w64 (b - 1)) - (w64 (r4.1.1 - a)))))).bind fun r25 =>
           cond (decide ((w64 (r25.1.1 - a)) < (w64 (b - r25.1.1))))
           ((slices_pdqsortOrdered k (r25.2, a, r25.1.1, (w64 (limit - 1)))).bind fun r26 =>
            slices_pdqsortOrdered_l k (r26.2, (w64 (r25.1.1 + 1)), b, (w64 (limit - 1)), (decide ((w64 (r25.1.1 - a)) ≥ (w64 ((w64 (b - a)).tdiv 8)))), r25.1.2, ()))
           ((slices_pdqsortOrdered k (r25.2, (w64 (r25.1.1 + 1)), b, (w64 (limit - 1)))).bind fun r27 =>
            slices_pdqsortOrdered_l k (r27.2, a, r25.1.1, (w64 (limit - 1)), (decide ((w64 (b - r25.1.1)) ≥ (w64 ((w64 (b - a)).tdiv 8)))), r25.1.2, ()))))
         (none))
        (none))
       ((slices_partitionOrdered k (r5.2, a, b, (w64 ((w64 (b - 1)) - (w64 (r4.1.1 - a)))))).bind fun r28 =>
        cond (decide ((w64 (r28.1.1 - a)) < (w64 (b - r28.1.1))))
        ((slices_pdqsortOrdered k (r28.2, a, r28.1.1, (w64 (limit - 1)))).bind fun r29 =>
         slices_pdqsortOrdered_l k (r29.2, (w64 (r28.1.1 + 1)), b, (w64 (limit - 1)), (decide ((w64 (r28.1.1 - a)) ≥ (w64 ((w64 (b - a)).tdiv 8)))), r28.1.2, ()))
        ((slices_pdqsortOrdered k (r28.2, (w64 (r28.1.1 + 1)), b, (w64 (limit - 1)))).bind fun r30 =>
         slices_pdqsortOrdered_l k (r30.2, a, r28.1.1, (w64 (limit - 1)), (decide ((w64 (b - r28.1.1)) ≥ (w64 ((w64 (b - a)).tdiv 8)))), r28.1.2, ())))))
     (cond wasBalanced
      (cond wasPartitioned
       (cond (r4.1.2 == 1)
        ((slices_partialInsertionSortOrdered k (r4.2, a, b)).bind fun r31 =>
         cond r31.1
         (some r31.2)
         (cond (decide (a > 0))
          (cond (inB (w64 (a - 1)) r31.2.length)
           (cond (inB r4.1.1 r31.2.length)
            ((cmp_Less k ((r31.2.getD ((w64 (a - 1)).toNat) default), (r31.2.getD r4.1.1.toNat default))).bind fun r32 =>
             cond (!r32)
             ((slices_partitionEqualOrdered k (r31.2, a, b, r4.1.1)).bind fun r33 =>
              slices_pdqsortOrdered_l k (r33.2, r33.1, b, (w64 (limit - 1)), wasBalanced, wasPartitioned, ()))
             ((slices_partitionOrdered k (r31.2, a, b, r4.1.1)).bind fun r34 =>
              cond (decide ((w64 (r34.1.1 - a)) < (w64 (b - r34.1.1))))
              ((slices_pdqsortOrdered k (r34.2, a, r34.1.1, (w64 (limit - 1)))).bind fun r35 =>
               slices_pdqsortOrdered_l k (r35.2, (w64 (r34.1.1 + 1)), b, (w64 (limit - 1)), (decide ((w64 (r34.1.1 - a)) ≥ (w64 ((w64 (b - a)).tdiv 8)))), r34.1.2, ()))
              ((slices_pdqsortOrdered k (r34.2, (w64 (r34.1.1 + 1)), b, (w64 (limit - 1)))).bind fun r36 =>
               slices_pdqsortOrdered_l k (r36.2, a, r34.1.1, (w64 (limit - 1)), (decide ((w64 (b - r34.1.1)) ≥ (w64 ((w64 (b - a)).tdiv 8)))), r34.1.2, ()))))
            (none))
           (none))
          ((slices_partitionOrdered k (r31.2, a, b, r4.1.1)).bind fun r37 =>
           cond (decide ((w64 (r37.1.1 - a)) < (w64 (b - r37.1.1))))
           ((slices_pdqsortOrdered k (r37.2, a, r37.1.1, (w64 (limit - 1)))).bind fun r38 =>
            slices_pdqsortOrdered_l k (r38.2, (w64 (r37.1.1 + 1)), b, (w64 (limit - 1)), (decide ((w64 (r37.1.1 - a)) ≥ (w64 ((w64 (b - a)).tdiv 8)))), r37.1.2, ()))
           ((slices_pdqsortOrdered k (r37.2, (w64 (r37.1.1 + 1)), b, (w64 (limit - 1)))).bind fun r39 =>
            slices_pdqsortOrdered_l k (r39.2, a, r37.1.1, (w64 (limit - 1)), (decide ((w64 (b - r37.1.1)) ≥ (w64 ((w64 (b - a)).tdiv 8)))), r37.1.2, ())))))
        (cond (decide (a > 0))
         (cond (inB (w64 (a - 1)) r4.2.length)
          (cond (inB r4.1.1 r4.2.length)
           ((cmp_Less k ((r4.2.getD ((w64 (a - 1)).toNat) default), (r4.2.getD r4.1.1.toNat default))).bind fun r40 =>
            cond (!r40)
            ((slices_partitionEqualOrdered k (r4.2, a, b, r4.1.1)).bind fun r41 =>
             slices_pdqsortOrdered_l k (r41.2, r41.1, b, (w64 (limit - 1)), wasBalanced, wasPartitioned, ()))
            ((slices_partitionOrdered k (r4.2, a, b, r4.1.1)).bind fun r42 =>
             cond (decide ((w64 (r42.1.1 - a)) < (w64 (b - r42.1.1))))
             ((slices_pdqsortOrdered k (r42.2, a, r42.1.1, (w64 (limit - 1)))).bind fun r43 =>
              slices_pdqsortOrdered_l k (r43.2, (w64 (r42.1.1 + 1)), b, (w64 (limit - 1)), (decide ((w64 (r42.1.1 - a)) ≥ (w64 ((w64 (b - a)).tdiv 8)))), r42.1.2, ()))
             ((slices_pdqsortOrdered k (r42.2, (w64 (r42.1.1 + 1)), b, (w64 (limit - 1)))).bind fun r44 =>
              slices_pdqsortOrdered_l k (r44.2, a, r42.1.1, (w64 (limit - 1)), (decide ((w64 (b - r42.1.1)) ≥ (w64 ((w64 (b - a)).tdiv 8)))), r42.1.2, ()))))
           (none))
          (none))
         ((slices_partitionOrdered k (r4.2, a, b, r4.1.1)).bind fun r45 =>
          cond (decide ((w64 (r45.1.1 - a)) < (w64 (b - r45.1.1))))
          ((slices_pdqsortOrdered k (r45.2, a, r45.1.1, (w64 (limit - 1)))).bind fun r46 =>
           slices_pdqsortOrdered_l k (r46.2, (w64 (r45.1.1 + 1)), b, (w64 (limit - 1)), (decide ((w64 (r45.1.1 - a)) ≥ (w64 ((w64 (b - a)).tdiv 8)))), r45.1.2, ()))
          ((slices_pdqsortOrdered k (r45.2, (w64 (r45.1.1 + 1)), b, (w64 (limit - 1)))).bind fun r47 =>
           slices_pdqsortOrdered_l k (r47.2, a, r45.1.1, (w64 (limit - 1)), (decide ((w64 (b - r45.1.1)) ≥ (w64 ((w64 (b - a)).tdiv 8)))), r45.1.2, ())))))
       (cond (decide (a > 0))
        (cond (inB (w64 (a - 1)) r4.2.length)
         (cond (inB r4.1.1 r4.2.length)
          ((cmp_Less k ((r4.2.getD ((w64 (a - 1)).toNat) default), (r4.2.getD r4.1.1.toNat default))).bind fun r48 =>
           cond (!r48)
           ((slices_partitionEqualOrdered k (r4.2, a, b, r4.1.1)).bind fun r49 =>
            slices_pdqsortOrdered_l k (r49.2, r49.1, b, (w64 (limit - 1)), wasBalanced, wasPartitioned, ()))
           ((slices_partitionOrdered k (r4.2, a, b, r4.1.1)).bind fun r50 =>
            cond (decide ((w64 (r50.1.1 - a)) < (w64 (b - r50.1.1))))
            ((slices_pdqsortOrdered k (r50.2, a, r50.1.1, (w64 (limit - 1)))).bind fun r51 =>
             slices_pdqsortOrdered_l k (r51.2, (w64 (r50.1.1 + 1)), b, (w64 (limit - 1)), (decide ((w64 (r50.1.1 - a)) ≥ (w64 ((w64 (b - a)).tdiv 8)))), r50.1.2, ()))
            ((slices_pdqsortOrdered k (r50.2, (w64 (r50.1.1 + 1)), b, (w64 (limit - 1)))).bind fun r52 =>
             slices_pdqsortOrdered_l k (r52.2, a, r50.1.1, (w64 (limit - 1)), (decide ((w64 (b - r50.1.1)) ≥ (w64 ((w64 (b - a)).tdiv 8)))), r50.1.2, ()))))
          (none))
         (none))
        ((slices_partitionOrdered k (r4.2, a, b, r4.1.1)).bind fun r53 =>
         cond (decide ((w64 (r53.1.1 - a)) < (w64 (b - r53.1.1))))
         ((slices_pdqsortOrdered k (r53.2, a, r53.1.1, (w64 (limit - 1)))).bind fun r54 =>
          slices_pdqsortOrdered_l k (r54.2, (w64 (r53.1.1 + 1)), b, (w64 (limit - 1)), (decide ((w64 (r53.1.1 - a)) ≥ (w64 ((w64 (b - a)).tdiv 8)))), r53.1.2, ()))
         ((slices_pdqsortOrdered k (r53.2, (w64 (r53.1.1 + 1)), b, (w64 (limit - 1)))).bind fun r55 =>
          slices_pdqsortOrdered_l k (r55.2, a, r53.1.1, (w64 (limit - 1)), (decide ((w64 (b - r53.1.1)) ≥ (w64 ((w64 (b - a)).tdiv 8)))), r53.1.2, ())))))
      (cond (decide (a > 0))
       (cond (inB (w64 (a - 1)) r4.2.length)
        (cond (inB r4.1.1 r4.2.length)
         ((cmp_Less k ((r4.2.getD ((w64 (a - 1)).toNat) default), (r4.2.getD r4.1.1.toNat default))).bind fun r56 =>
          cond (!r56)
          ((slices_partitionEqualOrdered k (r4.2, a, b, r4.1.1)).bind fun r57 =>
           slices_pdqsortOrdered_l k (r57.2, r57.1, b, (w64 (limit - 1)), wasBalanced, wasPartitioned, ()))
          ((slices_partitionOrdered k (r4.2, a, b, r4.1.1)).bind fun r58 =>
           cond (decide ((w64 (r58.1.1 - a)) < (w64 (b - r58.1.1))))
           ((slices_pdqsortOrdered k (r58.2, a, r58.1.1, (w64 (limit - 1)))).bind fun r59 =>
            slices_pdqsortOrdered_l k (r59.2, (w64 (r58.1.1 + 1)), b, (w64 (limit - 1)), (decide ((w64 (r58.1.1 - a)) ≥ (w64 ((w64 (b - a)).tdiv 8)))), r58.1.2, ()))
           ((slices_pdqsortOrdered k (r58.2, (w64 (r58.1.1 + 1)), b, (w64 (limit - 1)))).bind fun r60 =>
            slices_pdqsortOrdered_l k (r60.2, a, r58.1.1, (w64 (limit - 1)), (decide ((w64 (b - r58.1.1)) ≥ (w64 ((w64 (b - a)).tdiv 8)))), r58.1.2, ()))))
         (none))
        (none))
       ((slices_partitionOrdered k (r4.2, a, b, r4.1.1)).bind fun r61 =>
        cond (decide ((w64 (r61.1.1 - a)) < (w64 (b - r61.1.1))))
        ((slices_pdqsortOrdered k (r61.2, a, r61.1.1, (w64 (limit - 1)))).bind fun r62 =>
         slices_pdqsortOrdered_l k (r62.2, (w64 (r61.1.1 + 1)), b, (w64 (limit - 1)), (decide ((w64 (r61.1.1 - a)) ≥ (w64 ((w64 (b - a)).tdiv 8)))), r61.1.2, ()))
        ((slices_pdqsortOrdered k (r61.2, (w64 (r61.1.1 + 1)), b, (w64 (limit - 1)))).bind fun r63 =>
         slices_pdqsortOrdered_l k (r63.2, a, r61.1.1, (w64 (limit - 1)), (decide ((w64 (b - r61.1.1)) ≥ (w64 ((w64 (b - a)).tdiv 8)))), r61.1.2, ()))))))
    ((slices_choosePivotOrdered k (data, a, b)).bind fun r64 =>
     cond (r64.1.2 == 2)
     ((slices_reverseRangeOrdered k (r64.2, a, b)).bind fun r65 =>
      cond wasBalanced
      (cond wasPartitioned
       ((slices_partialInsertionSortOrdered k (r65.2, a, b)).bind fun r66 =>
        cond r66.1
        (some r66.2)
        (cond (decide (a > 0))
         (cond (inB (w64 (a - 1)) r66.2.length)
          (cond (inB (w64 ((w64 (b - 1)) - (w64 (r64.1.1 - a)))) r66.2.length)
           ((cmp_Less k ((r66.2.getD ((w64 (a - 1)).toNat) default), (r66.2.getD ((w64 ((w64 (b - 1)) - (w64 (r64.1.1 - a)))).toNat) default))).bind fun r67 =>
            cond (!r67)
            ((slices_partitionEqualOrdered k (r66.2, a, b, (w64 ((w64 (b - 1)) - (w64 (r64.1.1 - a)))))).bind fun r68 =>
             slices_pdqsortOrdered_l k (r68.2, r68.1, b, limit, wasBalanced, wasPartitioned, ()))
            ((slices_partitionOrdered k (r66.2, a, b, (w64 ((w64 (b - 1)) - (w64 (r64.1.1 - a)))))).bind fun r69 =>
             cond (decide ((w64 (r69.1.1 - a)) < (w64 (b - r69.1.1))))
             ((slices_pdqsortOrdered k (r69.2, a, r69.1.1, limit)).bind fun r70 =>
              slices_pdqsortOrdered_l k (r70.2, (w64 (r69.1.1 + 1)), b, limit, (decide ((w64 (r69.1.1 - a)) ≥ (w64 ((w64 (b - a)).tdiv 8)))), r69.1.2, ()))
             ((slices_pdqsortOrdered k (r69.2, (w64 (r69.1.1 + 1)), b, limit)).bind fun r71 =>
              slices_pdqsortOrdered_l k (r71.2, a, r69.1.1, limit, (decide ((w64 (b - r69.1.1)) ≥ (w64 ((w64 (b - a)).tdiv 8)))), r69.1.2, ()))))
           (none))
          (none))
         ((slices_partitionOrdered k (r66.2, a, b, (w64 ((w64 (b - 1)) - (w64 (r64.1.1 - a)))))).bind fun r72 =>
          cond (decide ((w64 (r72.1.1 - a)) < (w64 (b - r72.1.1))))
          ((slices_pdqsortOrdered k (r72.2, a, r72.1.1, limit)).bind fun r73 =>
           slices_pdqsortOrdered_l k (r73.2, (w64 (r72.1.1 + 1)), b, limit, (decide ((w64 (r72.1.1 - a)) ≥ (w64 ((w64 (b - a)).tdiv 8)))), r72.1.2, ()))
          ((slices_pdqsortOrdered k (r72.2, (w64 (r72.1.1 + 1)), b, limit)).bind fun r74 =>
           slices_pdqsortOrdered_l k (r74.2, a, r72.1.1, limit, (decide ((w64 (b - r72.1.1)) ≥ (w64 ((w64 (b - a)).tdiv 8)))), r72.1.2, ())))))
       (cond (decide (a > 0))
        (cond (inB (w64 (a - 1)) r65.2.length)
         (cond (inB (w64 ((w64 (b - 1)) - (w64 (r64.1.1 - a)))) r65.2.length)
          ((cmp_Less k ((r65.2.getD ((w64 (a - 1)).toNat) default), (r65.2.getD ((w64 ((w64 (b - 1)) - (w64 (r64.1.1 - a)))).toNat) default))).bind fun r75 =>
           cond (!r75)
           ((slices_partitionEqualOrdered k (r65.2, a, b, (w64 ((w64 (b - 1)) - (w64 (r64.1.1 - a)))))).bind fun r76 =>
            slices_pdqsortOrdered_l k (r76.2, r76.1, b, limit, wasBalanced, wasPartitioned, ()))
           ((slices_partitionOrdered k (r65.2, a, b, (w64 ((w64 (b - 1)) - (w64 (r64.1.1 - a)))))).bind fun r77 =>
            cond (decide ((w64 (r77.1.1 - a)) < (w64 (b - r77.1.1))))
            ((slices_pdqsortOrdered k (r77.2, a, r77.1.1, limit)).bind fun r78 =>
             slices_pdqsortOrdered_l k (r78.2, (w64 (r77.1.1 + 1)), b, limit, (decide ((w64 (r77.1.1 - a)) ≥ (w64 ((w64 (b - a)).tdiv 8)))), r77.1.2, ()))
            ((slices_pdqsortOrdered k (r77.2, (w64 (r77.1.1 + 1)), b, limit)).bind fun r79 =>
             slices_pdqsortOrdered_l k (r79.2, a, r77.1.1, limit, (decide ((w64 (b - r77.1.1)) ≥ (w64 ((w64 (b - a)).tdiv 8)))), r77.1.2, ()))))
          (none))
         (none))
        ((slices_partitionOrdered k (r65.2, a, b, (w64 ((w64 (b - 1)) - (w64 (r64.1.1 - a)))))).bind fun r80 =>
         cond (decide ((w64 (r80.1.1 - a)) < (w64 (b - r80.1.1))))
         ((slices_pdqsortOrdered k (r80.2, a, r80.1.1, limit)).bind fun r81 =>
          slices_pdqsortOrdered_l k (r81.2, (w64 (r80.1.1 + 1)), b, limit, (decide ((w64 (r80.1.1 - a)) ≥ (w64 ((w64 (b - a)).tdiv 8)))), r80.1.2, ()))
         ((slices_pdqsortOrdered k (r80.2, (w64 (r80.1.1 + 1)), b, limit)).bind fun r82 =>
          slices_pdqsortOrdered_l k (r82.2, a, r80.1.1, limit, (decide ((w64 (b - r80.1.1)) ≥ (w64 ((w64 (b - a)).tdiv 8)))), r80.1.2, ())))))
      (cond (decide (a > 0))
       (cond (inB (w64 (a - 1)) r65.2.length)
        (cond (inB (w64 ((w64 (b - 1)) - (w64 (r64.1.1 - a)))) r65.2.length)
         ((cmp_Less k ((r65.2.getD ((w64 (a - 1)).toNat) default), (r65.2.getD ((w64 ((w64 (b - 1)) - (w64 (r64.1.1 - a)))).toNat) default))).bind fun r83 =>
          cond (!r83)
          ((slices_partitionEqualOrdered k (r65.2, a, b, (w64 ((w64 (b - 1)) - (w64 (r64.1.1 - a)))))).bind fun r84 =>
           slices_pdqsortOrdered_l k (r84.2, r84.1, b, limit, wasBalanced, wasPartitioned, ()))
          ((slices_partitionOrdered k (r65.2, a, b, (w64 ((w64 (b - 1)) - (w64 (r64.1.1 - a)))))).bind fun r85 =>
           cond (decide ((w64 (r85.1.1 - a)) < (w64 (b - r85.1.1))))
           ((slices_pdqsortOrdered k (r85.2, a, r85.1.1, limit)).bind fun r86 =>
            slices_pdqsortOrdered_l k (r86.2, (w64 (r85.1.1 + 1)), b, limit, (decide ((w64 (r85.1.1 - a)) ≥ (w64 ((w64 (b - a)).tdiv 8)))), r85.1.2, ()))
           ((slices_pdqsortOrdered k (r85.2, (w64 (r85.1.1 + 1)), b, limit)).bind fun r87 =>
            slices_pdqsortOrdered_l k (r87.2, a, r85.1.1, limit, (decide ((w64 (b - r85.1.1)) ≥ (w64 ((w64 (b - a)).tdiv 8)))), r85.1.2, ()))))
         (none))
        (none))
       ((slices_partitionOrdered k (r65.2, a, b, (w64 ((w64 (b - 1)) - (w64 (r64.1.1 - a)))))).bind fun r88 =>
        cond (decide ((w64 (r88.1.1 - a)) < (w64 (b - r88.1.1))))
        ((slices_pdqsortOrdered k (r88.2, a, r88.1.1, limit)).bind fun r89 =>
         slices_pdqsortOrdered_l k (r89.2, (w64 (r88.1.1 + 1)), b, limit, (decide ((w64 (r88.1.1 - a)) ≥ (w64 ((w64 (b - a)).tdiv 8)))), r88.1.2, ()))
        ((slices_pdqsortOrdered k (r88.2, (w64 (r88.1.1 + 1)), b, limit)).bind fun r90 =>
         slices_pdqsortOrdered_l k (r90.2, a, r88.1.1, limit, (decide ((w64 (b - r88.1.1)) ≥ (w64 ((w64 (b - a)).tdiv 8)))), r88.1.2, ())))))
     (cond wasBalanced
      (cond wasPartitioned
       (cond (r64.1.2 == 1)
        ((slices_partialInsertionSortOrdered k (r64.2, a, b)).bind fun r91 =>
         cond r91.1
         (some r91.2)
         (cond (decide (a > 0))
          (cond (inB (w64 (a - 1)) r91.2.length)
           (cond (inB r64.1.1 r91.2.length)
            ((cmp_Less k ((r91.2.getD ((w64 (a - 1)).toNat) default), (r91.2.getD r64.1.1.toNat default))).bind fun r92 =>
             cond (!r92)
             ((slices_partitionEqualOrdered k (r91.2, a, b, r64.1.1)).bind fun r93 =>
              slices_pdqsortOrdered_l k (r93.2, r93.1, b, limit, wasBalanced, wasPartitioned, ()))
             ((slices_partitionOrdered k (r91.2, a, b, r64.1.1)).bind fun r94 =>
              cond (decide ((w64 (r94.1.1 - a)) < (w64 (b - r94.1.1))))
              ((slices_pdqsortOrdered k (r94.2, a, r94.1.1, limit)).bind fun r95 =>
               slices_pdqsortOrdered_l k (r95.2, (w64 (r94.1.1 + 1)), b, limit, (decide ((w64 (r94.1.1 - a)) ≥ (w64 ((w64 (b - a)).tdiv 8)))), r94.1.2, ()))
              ((slices_pdqsortOrdered k (r94.2, (w64 (r94.1.1 + 1)), b, limit)).bind fun r96 =>
               slices_pdqsortOrdered_l k (r96.2, a, r94.1.1, limit, (decide ((w64 (b - r94.1.1)) ≥ (w64 ((w64 (b - a)).tdiv 8)))), r94.1.2, ()))))
            (none))
           (none))
          ((slices_partitionOrdered k (r91.2, a, b, r64.1.1)).bind fun r97 =>
           cond (decide ((w64 (r97.1.1 - a)) < (w64 (b - r97.1.1))))
           ((slices_pdqsortOrdered k (r97.2, a, r97.1.1, limit)).bind fun r98 =>
            slices_pdqsortOrdered_l k (r98.2, (w64 (r97.1.1 + 1)), b, limit, (decide ((w64 (r97.1.1 - a)) ≥ (w64 ((w64 (b - a)).tdiv 8)))), r97.1.2, ()))
           ((slices_pdqsortOrdered k (r97.2, (w64 (r97.1.1 + 1)), b, limit)).bind fun r99 =>
            slices_pdqsortOrdered_l k (r99.2, a, r97.1.1, limit, (decide ((w64 (b - r97.1.1)) ≥ (w64 ((w64 (b - a)).tdiv 8)))), r97.1.2, ())))))
        (cond (decide (a > 0))
         (cond (inB (w64 (a - 1)) r64.2.length)
          (cond (inB r64.1.1 r64.2.length)
           ((cmp_Less k ((r64.2.getD ((w64 (a - 1)).toNat) default), (r64.2.getD r64.1.1.toNat default))).bind fun r100 =>
            cond (!r100)
            ((slices_partitionEqualOrdered k (r64.2, a, b, r64.1.1)).bind fun r101 =>
             slices_pdqsortOrdered_l k (r101.2, r101.1, b, limit, wasBalanced, wasPartitioned, ()))
            ((slices_partitionOrdered k (r64.2, a, b, r64.1.1)).bind fun r102 =>
             cond (decide ((w64 (r102.1.1 - a)) < (w64 (b - r102.1.1))))
             ((slices_pdqsortOrdered k (r102.2, a, r102.1.1, limit)).bind fun r103 =>
              slices_pdqsortOrdered_l k (r103.2, (w64 (r102.1.1 + 1)), b, limit, (decide ((w64 (r102.1.1 - a)) ≥ (w64 ((w64 (b - a)).tdiv 8)))), r102.1.2, ()))
             ((slices_pdqsortOrdered k (r102.2, (w64 (r102.1.1 + 1)), b, limit)).bind fun r104 =>
              slices_pdqsortOrdered_l k (r104.2, a, r102.1.1, limit, (decide ((w64 (b - r102.1.1)) ≥ (w64 ((w64 (b - a)).tdiv 8)))), r102.1.2, ()))))
           (none))
          (none))
         ((slices_partitionOrdered k (r64.2, a, b, r64.1.1)).bind fun r105 =>
          cond (decide ((w64 (r105.1.1 - a)) < (w64 (b - r105.1.1))))
          ((slices_pdqsortOrdered k (r105.2, a, r105.1.1, limit)).bind fun r106 =>
           slices_pdqsortOrdered_l k (r106.2, (w64 (r105.1.1 + 1)), b, limit, (decide ((w64 (r105.1.1 - a)) ≥ (w64 ((w64 (b - a)).tdiv 8)))), r105.1.2, ()))
          ((slices_pdqsortOrdered k (r105.2, (w64 (r105.1.1 + 1)), b, limit)).bind fun r107 =>
           slices_pdqsortOrdered_l k (r107.2, a, r105.1.1, limit, (decide ((w64 (b - r105.1.1)) ≥ (w64 ((w64 (b - a)).tdiv 8)))), r105.1.2, ())))))
       (cond (decide (a > 0))
        (cond (inB (w64 (a - 1)) r64.2.length)
         (cond (inB r64.1.1 r64.2.length)
          ((cmp_Less k ((r64.2.getD ((w64 (a - 1)).toNat) default), (r64.2.getD r64.1.1.toNat default))).bind fun r108 =>
           cond (!r108)
           ((slices_partitionEqualOrdered k (r64.2, a, b, r64.1.1)).bind fun r109 =>
            slices_pdqsortOrdered_l k (r109.2, r109.1, b, limit, wasBalanced, wasPartitioned, ()))
           ((slices_partitionOrdered k (r64.2, a, b, r64.1.1)).bind fun r110 =>
            cond (decide ((w64 (r110.1.1 - a)) < (w64 (b - r110.1.1))))
            ((slices_pdqsortOrdered k (r110.2, a, r110.1.1, limit)).bind fun r111 =>
             slices_pdqsortOrdered_l k (r111.2, (w64 (r110.1.1 + 1)), b, limit, (decide ((w64 (r110.1.1 - a)) ≥ (w64 ((w64 (b - a)).tdiv 8)))), r110.1.2, ()))
            ((slices_pdqsortOrdered k (r110.2, (w64 (r110.1.1 + 1)), b, limit)).bind fun r112 =>
             slices_pdqsortOrdered_l k (r112.2, a, r110.1.1, limit, (decide ((w64 (b - r110.1.1)) ≥ (w64 ((w64 (b - a)).tdiv 8)))), r110.1.2, ()))))
          (none))
         (none))
        ((slices_partitionOrdered k (r64.2, a, b, r64.1.1)).bind fun r113 =>
         cond (decide ((w64 (r113.1.1 - a)) < (w64 (b - r113.1.1))))
         ((slices_pdqsortOrdered k (r113.2, a, r113.1.1, limit)).bind fun r114 =>
          slices_pdqsortOrdered_l k (r114.2, (w64 (r113.1.1 + 1)), b, limit, (decide ((w64 (r113.1.1 - a)) ≥ (w64 ((w64 (b - a)).tdiv 8)))), r113.1.2, ()))
         ((slices_pdqsortOrdered k (r113.2, (w64 (r113.1.1 + 1)), b, limit)).bind fun r115 =>
          slices_pdqsortOrdered_l k (r115.2, a, r113.1.1, limit, (decide ((w64 (b - r113.1.1)) ≥ (w64 ((w64 (b - a)).tdiv 8)))), r113.1.2, ())))))
      (cond (decide (a > 0))
       (cond (inB (w64 (a - 1)) r64.2.length)
        (cond (inB r64.1.1 r64.2.length)
         ((cmp_Less k ((r64.2.getD ((w64 (a - 1)).toNat) default), (r64.2.getD r64.1.1.toNat default))).bind fun r116 =>
          cond (!r116)
          ((slices_partitionEqualOrdered k (r64.2, a, b, r64.1.1)).bind fun r117 =>
           slices_pdqsortOrdered_l k (r117.2, r117.1, b, limit, wasBalanced, wasPartitioned, ()))
          ((slices_partitionOrdered k (r64.2, a, b, r64.1.1)).bind fun r118 =>
           cond (decide ((w64 (r118.1.1 - a)) < (w64 (b - r118.1.1))))
           ((slices_pdqsortOrdered k (r118.2, a, r118.1.1, limit)).bind fun r119 =>
            slices_pdqsortOrdered_l k (r119.2, (w64 (r118.1.1 + 1)), b, limit, (decide ((w64 (r118.1.1 - a)) ≥ (w64 ((w64 (b - a)).tdiv 8)))), r118.1.2, ()))
           ((slices_pdqsortOrdered k (r118.2, (w64 (r118.1.1 + 1)), b, limit)).bind fun r120 =>
            slices_pdqsortOrdered_l k (r120.2, a, r118.1.1, limit, (decide ((w64 (b - r118.1.1)) ≥ (w64 ((w64 (b - a)).tdiv 8)))), r118.1.2, ()))))
         (none))
        (none))
       ((slices_partitionOrdered k (r64.2, a, b, r64.1.1)).bind fun r121 =>
        cond (decide ((w64 (r121.1.1 - a)) < (w64 (b - r121.1.1))))
        ((slices_pdqsortOrdered k (r121.2, a, r121.1.1, limit)).bind fun r122 =>
         slices_pdqsortOrdered_l k (r122.2, (w64 (r121.1.1 + 1)), b, limit, (decide ((w64 (r121.1.1 - a)) ≥ (w64 ((w64 (b - a)).tdiv 8)))), r121.1.2, ()))
        ((slices_pdqsortOrdered k (r121.2, (w64 (r121.1.1 + 1)), b, limit)).bind fun r123 =>
         slices_pdqsortOrdered_l k (r123.2, a, r121.1.1, limit, (decide ((w64 (b - r121.1.1)) ≥ (w64 ((w64 (b - a)).tdiv 8)))), r121.1.2, ())))))))) := by kernel_rfl
theorem slices_insertionSortOrdered.eq (k : Nat) (data : List Int) (a : Int) (b : Int) : slices_insertionSortOrdered (k + 1) (data, a, b) =
  (slices_insertionSortOrdered_l k (data, a, b, (w64 (a + 1)), ())).bind fun r1 =>
  some ((), r1) := by kernel_rfl
theorem slices_insertionSortOrdered_l.eq (k : Nat) (data : List Int) (a : Int) (b : Int) (i : Int) : slices_insertionSortOrdered_l (k + 1) (data, a, b, i, ()) =
  cond (decide (i < b))
  ((slices_insertionSortOrdered_l_l k (data, a, b, i, i, ())).bind fun r1 =>
   slices_insertionSortOrdered_l k (r1.1, r1.2.1, r1.2.2.1, (w64 (r1.2.2.2.1 + 1)), ()))
  (some data) := by kernel_rfl
theorem slices_insertionSortOrdered_l_l.eq (k : Nat) (data : List Int) (a : Int) (b : Int) (i : Int) (j : Int) : slices_insertionSortOrdered_l_l (k + 1) (data, a, b, i, j, ()) =
  cond (decide (j > a))
  (cond (inB j data.length)
   (cond (inB (w64 (j - 1)) data.length)
    ((cmp_Less k ((data.getD j.toNat default), (data.getD ((w64 (j - 1)).toNat) default))).bind fun r1 =>
     cond r1
     (cond (inB (w64 (j - 1)) data.length)
      (cond (inB j data.length)
       (cond (inB j data.length)
        (cond (inB (w64 (j - 1)) ((data.set j.toNat (data.getD ((w64 (j - 1)).toNat) default)).length))
         (slices_insertionSortOrdered_l_l k (((data.set j.toNat (data.getD ((w64 (j - 1)).toNat) default)).set ((w64 (j - 1)).toNat) (data.getD j.toNat default)), a, b, i, (w64 (j - 1)), ()))
         (none))
        (none))
       (none))
      (none))
     (some (data, a, b, i, ())))
    (none))
   (none))
  (some (data, a, b, i, ())) := by kernel_rfl
theorem cmp_Less.eq (k : Nat) (x : Int) (y : Int) : cmp_Less (k + 1) (x, y) =
  (cmp_isNaN k x).bind fun r1 =>
  cond r1
  ((cmp_isNaN k y).bind fun r2 =>
   cond (!r2)
   (some true)
   (some (decide (x < y))))
  (some (decide (x < y))) := by kernel_rfl
theorem cmp_isNaN.eq (k : Nat) (x : Int) : cmp_isNaN (k + 1) x =
  some (x != x) := by kernel_rfl
theorem slices_heapSortOrdered.eq (k : Nat) (data : List Int) (a : Int) (b : Int) : slices_heapSortOrdered (k + 1) (data, a, b) =
  (slices_heapSortOrdered_l k (data, a, 0, (w64 (b - a)), (w64 ((w64 ((w64 (b - a)) - 1)).tdiv 2)), ())).bind fun r1 =>
  (slices_heapSortOrdered_l_2 k (r1.1, r1.2.1, r1.2.2.1, (w64 (r1.2.2.2.1 - 1)), ())).bind fun r2 =>
  some ((), r2) := by kernel_rfl
theorem slices_heapSortOrdered_l.eq (k : Nat) (data : List Int) (first : Int) (lo : Int) (hi : Int) (i : Int) : slices_heapSortOrdered_l (k + 1) (data, first, lo, hi, i, ()) =
  cond (decide (i ≥ 0))
  ((slices_siftDownOrdered k (data, i, hi, first)).bind fun r1 =>
   slices_heapSortOrdered_l k (r1.2, first, lo, hi, (w64 (i - 1)), ()))
  (some (data, first, lo, hi, ())) := by kernel_rfl
theorem slices_siftDownOrdered.eq (k : Nat) (data : List Int) (lo : Int) (hi : Int) (first : Int) : slices_siftDownOrdered (k + 1) (data, lo, hi, first) =
  (slices_siftDownOrdered_l k (data, hi, first, lo, ())).bind fun r1 =>
  r1.elim
  (fun r2 => some ((), r2))
  (fun r3 => some ((), r3)) := by kernel_rfl
theorem slices_siftDownOrdered_l.eq (k : Nat) (data : List Int) (hi : Int) (first : Int) (root : Int) : slices_siftDownOrdered_l (k + 1) (data, hi, first, root, ()) =
  cond (decide ((w64 ((w64 (2 * root)) + 1)) ≥ hi))
  (some (.inl data))
  (cond (decide ((w64 ((w64 ((w64 (2 * root)) + 1)) + 1)) < hi))
   (cond (inB (w64 (first + (w64 ((w64 (2 * root)) + 1)))) data.length)
    (cond (inB (w64 ((w64 (first + (w64 ((w64 (2 * root)) + 1)))) + 1)) data.length)
     ((cmp_Less k ((data.getD ((w64 (first + (w64 ((w64 (2 * root)) + 1)))).toNat) default), (data.getD ((w64 ((w64 (first + (w64 ((w64 (2 * root)) + 1)))) + 1)).toNat) default))).bind fun r1 =>
      cond r1
      (cond (inB (w64 (first + root)) data.length)
       (cond (inB (w64 (first + (w64 ((w64 ((w64 (2 * root)) + 1)) + 1)))) data.length)
        ((cmp_Less k ((data.getD ((w64 (first + root)).toNat) default), (data.getD ((w64 (first + (w64 ((w64 ((w64 (2 * root)) + 1)) + 1)))).toNat) default))).bind fun r2 =>
         cond (!r2)
         (some (.inr data))
         (cond (inB (w64 (first + (w64 ((w64 ((w64 (2 * root)) + 1)) + 1)))) data.length)
          (cond (inB (w64 (first + root)) data.length)
           (cond (inB (w64 (first + root)) data.length)
            (cond (inB (w64 (first + (w64 ((w64 ((w64 (2 * root)) + 1)) + 1)))) ((data.set ((w64 (first + root)).toNat) (data.getD ((w64 (first + (w64 ((w64 ((w64 (2 * root)) + 1)) + 1)))).toNat) default)).length))
             (slices_siftDownOrdered_l k (((data.set ((w64 (first + root)).toNat) (data.getD ((w64 (first + (w64 ((w64 ((w64 (2 * root)) + 1)) + 1)))).toNat) default)).set ((w64 (first + (w64 ((w64 ((w64 (2 * root)) + 1)) + 1)))).toNat) (data.getD ((w64 (first + root)).toNat) default)), hi, first, (w64 ((w64 ((w64 (2 * root)) + 1)) + 1)), ()))
             (none))
            (none))
           (none))
          (none)))
        (none))
       (none))
      (cond (inB (w64 (first + root)) data.length)
       (cond (inB (w64 (first + (w64 ((w64 (2 * root)) + 1)))) data.length)
        ((cmp_Less k ((data.getD ((w64 (first + root)).toNat) default), (data.getD ((w64 (first + (w64 ((w64 (2 * root)) + 1)))).toNat) default))).bind fun r3 =>
         cond (!r3)
         (some (.inr data))
         (cond (inB (w64 (first + (w64 ((w64 (2 * root)) + 1)))) data.length)
          (cond (inB (w64 (first + root)) data.length)
           (cond (inB (w64 (first + root)) data.length)
            (cond (inB (w64 (first + (w64 ((w64 (2 * root)) + 1)))) ((data.set ((w64 (first + root)).toNat) (data.getD ((w64 (first + (w64 ((w64 (2 * root)) + 1)))).toNat) default)).length))
             (slices_siftDownOrdered_l k (((data.set ((w64 (first + root)).toNat) (data.getD ((w64 (first + (w64 ((w64 (2 * root)) + 1)))).toNat) default)).set ((w64 (first + (w64 ((w64 (2 * root)) + 1)))).toNat) (data.getD ((w64 (first + root)).toNat) default)), hi, first, (w64 ((w64 (2 * root)) + 1)), ()))
             (none))
            (none))
           (none))
          (none)))
        (none))
       (none)))
     (none))
    (none))
   (cond (inB (w64 (first + root)) data.length)
    (cond (inB (w64 (first + (w64 ((w64 (2 * root)) + 1)))) data.length)
     ((cmp_Less k ((data.getD ((w64 (first + root)).toNat) default), (data.getD ((w64 (first + (w64 ((w64 (2 * root)) + 1)))).toNat) default))).bind fun r4 =>
      cond (!r4)
      (some (.inr data))
      (cond (inB (w64 (first + (w64 ((w64 (2 * root)) + 1)))) data.length)
       (cond (inB (w64 (first + root)) data.length)
        (cond (inB (w64 (first + root)) data.length)
         (cond (inB (w64 (first + (w64 ((w64 (2 * root)) + 1)))) ((data.set ((w64 (first + root)).toNat) (data.getD ((w64 (first + (w64 ((w64 (2 * root)) + 1)))).toNat) default)).length))
          (slices_siftDownOrdered_l k (((data.set ((w64 (first + root)).toNat) (data.getD ((w64 (first + (w64 ((w64 (2 * root)) + 1)))).toNat) default)).set ((w64 (first + (w64 ((w64 (2 * root)) + 1)))).toNat) (data.getD ((w64 (first + root)).toNat) default)), hi, first, (w64 ((w64 (2 * root)) + 1)), ()))
          (none))
         (none))
        (none))
       (none)))
     (none))
    (none))) := by kernel_rfl
theorem slices_heapSortOrdered_l_2.eq (k : Nat) (data : List Int) (first : Int) (lo : Int) (i : Int) : slices_heapSortOrdered_l_2 (k + 1) (data, first, lo, i, ()) =
  cond (decide (i ≥ 0))
  (cond (inB (w64 (first + i)) data.length)
   (cond (inB first data.length)
    (cond (inB first data.length)
     (cond (inB (w64 (first + i)) ((data.set first.toNat (data.getD ((w64 (first + i)).toNat) default)).length))
      ((slices_siftDownOrdered k (((data.set first.toNat (data.getD ((w64 (first + i)).toNat) default)).set ((w64 (first + i)).toNat) (data.getD first.toNat default)), lo, i, first)).bind fun r1 =>
       slices_heapSortOrdered_l_2 k (r1.2, first, lo, (w64 (i - 1)), ()))
      (none))
     (none))
    (none))
   (none))
  (some data) := by kernel_rfl
theorem slices_breakPatternsOrdered.eq (k : Nat) (data : List Int) (a : Int) (b : Int) : slices_breakPatternsOrdered (k + 1) (data, a, b) =
  cond (decide ((w64 (b - a)) ≥ 8))
  ((slices_nextPowerOfTwo k (w64 (b - a))).bind fun r1 =>
   (slices_breakPatternsOrdered_l k (data, a, (w64 (b - a)), (IntKind.u64.wrap (w64 (b - a))), r1, (w64 ((w64 (a + (w64 ((w64 ((w64 (b - a)).tdiv 4)) * 2)))) - 1)), ())).bind fun r2 =>
   some ((), r2))
  (some ((), data)) := by kernel_rfl
theorem slices_nextPowerOfTwo.eq (k : Nat) (length : Int) : slices_nextPowerOfTwo (k + 1) length =
  (bits_Len k (IntKind.u64.wrap length)).bind fun r1 =>
  cond (decide ((0 : Int) ≤ r1))
  (some (shlI .u64 1 r1))
  (none) := by kernel_rfl
theorem slices_breakPatternsOrdered_l.eq (k : Nat) (data : List Int) (a : Int) (length : Int) (random_ : Int) (modulus : Int) (idx : Int) : slices_breakPatternsOrdered_l (k + 1) (data, a, length, random_, modulus, idx, ()) =
  cond (decide (idx ≤ (w64 ((w64 (a + (w64 ((w64 (length.tdiv 4)) * 2)))) + 1))))
  ((slices_xorshift_Next k random_).bind fun r1 =>
   cond (decide ((w64 (andI .u64 r1.1 (IntKind.u64.wrap (modulus - 1)))) ≥ length))
   (cond (inB (w64 (a + (w64 ((w64 (andI .u64 r1.1 (IntKind.u64.wrap (modulus - 1)))) - length)))) data.length)
    (cond (inB idx data.length)
     (cond (inB idx data.length)
      (cond (inB (w64 (a + (w64 ((w64 (andI .u64 r1.1 (IntKind.u64.wrap (modulus - 1)))) - length)))) ((data.set idx.toNat (data.getD ((w64 (a + (w64 ((w64 (andI .u64 r1.1 (IntKind.u64.wrap (modulus - 1)))) - length)))).toNat) default)).length))
       (slices_breakPatternsOrdered_l k (((data.set idx.toNat (data.getD ((w64 (a + (w64 ((w64 (andI .u64 r1.1 (IntKind.u64.wrap (modulus - 1)))) - length)))).toNat) default)).set ((w64 (a + (w64 ((w64 (andI .u64 r1.1 (IntKind.u64.wrap (modulus - 1)))) - length)))).toNat) (data.getD idx.toNat default)), a, length, r1.2, modulus, (w64 (idx + 1)), ()))
       (none))
      (none))
     (none))
    (none))
   (cond (inB (w64 (a + (w64 (andI .u64 r1.1 (IntKind.u64.wrap (modulus - 1)))))) data.length)
    (cond (inB idx data.length)
     (cond (inB idx data.length)
      (cond (inB (w64 (a + (w64 (andI .u64 r1.1 (IntKind.u64.wrap (modulus - 1)))))) ((data.set idx.toNat (data.getD ((w64 (a + (w64 (andI .u64 r1.1 (IntKind.u64.wrap (modulus - 1)))))).toNat) default)).length))
       (slices_breakPatternsOrdered_l k (((data.set idx.toNat (data.getD ((w64 (a + (w64 (andI .u64 r1.1 (IntKind.u64.wrap (modulus - 1)))))).toNat) default)).set ((w64 (a + (w64 (andI .u64 r1.1 (IntKind.u64.wrap (modulus - 1)))))).toNat) (data.getD idx.toNat default)), a, length, r1.2, modulus, (w64 (idx + 1)), ()))
       (none))
      (none))
     (none))
    (none)))
  (some data) := by kernel_rfl
theorem slices_xorshift_Next.eq (k : Nat) (r_ : Int) : slices_xorshift_Next (k + 1) r_ =
  some ((xorI .u64 (xorI .u64 (xorI .u64 r_ (shlI .u64 r_ 13)) (shrI .u64 (xorI .u64 r_ (shlI .u64 r_ 13)) 7)) (shlI .u64 (xorI .u64 (xorI .u64 r_ (shlI .u64 r_ 13)) (shrI .u64 (xorI .u64 r_ (shlI .u64 r_ 13)) 7)) 17)), (xorI .u64 (xorI .u64 (xorI .u64 r_ (shlI .u64 r_ 13)) (shrI .u64 (xorI .u64 r_ (shlI .u64 r_ 13)) 7)) (shlI .u64 (xorI .u64 (xorI .u64 r_ (shlI .u64 r_ 13)) (shrI .u64 (xorI .u64 r_ (shlI .u64 r_ 13)) 7)) 17))) := by kernel_rfl
theorem slices_choosePivotOrdered.eq (k : Nat) (data : List Int) (a : Int) (b : Int) : slices_choosePivotOrdered (k + 1) (data, a, b) =
  cond (decide ((w64 (b - a)) ≥ 8))
  (cond (decide ((w64 (b - a)) ≥ 50))
   ((slices_medianAdjacentOrdered k (data, (w64 (a + (w64 ((w64 ((w64 (b - a)).tdiv 4)) * 1)))), 0)).bind fun r1 =>
    (slices_medianAdjacentOrdered k (r1.2.1, (w64 (a + (w64 ((w64 ((w64 (b - a)).tdiv 4)) * 2)))), r1.2.2)).bind fun r2 =>
    (slices_medianAdjacentOrdered k (r2.2.1, (w64 (a + (w64 ((w64 ((w64 (b - a)).tdiv 4)) * 3)))), r2.2.2)).bind fun r3 =>
    (slices_medianOrdered k (r3.2.1, r1.1, r2.1, r3.1, r3.2.2)).bind fun r4 =>
    cond (r4.2.2 == 0)
    (some ((r4.1, 1), r4.2.1))
    (cond (r4.2.2 == 12)
     (some ((r4.1, 2), r4.2.1))
     (some ((r4.1, 0), r4.2.1))))
   ((slices_medianOrdered k (data, (w64 (a + (w64 ((w64 ((w64 (b - a)).tdiv 4)) * 1)))), (w64 (a + (w64 ((w64 ((w64 (b - a)).tdiv 4)) * 2)))), (w64 (a + (w64 ((w64 ((w64 (b - a)).tdiv 4)) * 3)))), 0)).bind fun r5 =>
    cond (r5.2.2 == 0)
    (some ((r5.1, 1), r5.2.1))
    (cond (r5.2.2 == 12)
     (some ((r5.1, 2), r5.2.1))
     (some ((r5.1, 0), r5.2.1)))))
  (some (((w64 (a + (w64 ((w64 ((w64 (b - a)).tdiv 4)) * 2)))), 1), data)) := by kernel_rfl
theorem slices_medianAdjacentOrdered.eq (k : Nat) (data : List Int) (a : Int) (swaps_ : Int) : slices_medianAdjacentOrdered (k + 1) (data, a, swaps_) =
  (slices_medianOrdered k (data, (w64 (a - 1)), a, (w64 (a + 1)), swaps_)).bind fun r1 =>
  some r1 := by kernel_rfl
theorem slices_medianOrdered.eq (k : Nat) (data : List Int) (a : Int) (b : Int) (c : Int) (swaps_ : Int) : slices_medianOrdered (k + 1) (data, a, b, c, swaps_) =
  (slices_order2Ordered k (data, a, b, swaps_)).bind fun r1 =>
  (slices_order2Ordered k (r1.2.1, r1.1.2, c, r1.2.2)).bind fun r2 =>
  (slices_order2Ordered k (r2.2.1, r1.1.1, r2.1.1, r2.2.2)).bind fun r3 =>
  some (r3.1.2, r3.2) := by kernel_rfl
theorem slices_order2Ordered.eq (k : Nat) (data : List Int) (a : Int) (b : Int) (swaps_ : Int) : slices_order2Ordered (k + 1) (data, a, b, swaps_) =
  cond (inB b data.length)
  (cond (inB a data.length)
   ((cmp_Less k ((data.getD b.toNat default), (data.getD a.toNat default))).bind fun r1 =>
    cond r1
    (some ((b, a), (data, (w64 (swaps_ + 1)))))
    (some ((a, b), (data, swaps_))))
   (none))
  (none) := by kernel_rfl
theorem slices_reverseRangeOrdered.eq (k : Nat) (data : List Int) (a : Int) (b : Int) : slices_reverseRangeOrdered (k + 1) (data, a, b) =
  (slices_reverseRangeOrdered_l k (data, a, (w64 (b - 1)), ())).bind fun r1 =>
  some ((), r1) := by kernel_rfl
theorem slices_reverseRangeOrdered_l.eq (k : Nat) (data : List Int) (i : Int) (j : Int) : slices_reverseRangeOrdered_l (k + 1) (data, i, j, ()) =
  cond (decide (i < j))
  (cond (inB j data.length)
   (cond (inB i data.length)
    (cond (inB i data.length)
     (cond (inB j ((data.set i.toNat (data.getD j.toNat default)).length))
      (slices_reverseRangeOrdered_l k (((data.set i.toNat (data.getD j.toNat default)).set j.toNat (data.getD i.toNat default)), (w64 (i + 1)), (w64 (j - 1)), ()))
      (none))
     (none))
    (none))
   (none))
  (some data) := by kernel_rfl
theorem slices_partialInsertionSortOrdered.eq (k : Nat) (data : List Int) (a : Int) (b : Int) : slices_partialInsertionSortOrdered (k + 1) (data, a, b) =
  (slices_partialInsertionSortOrdered_l k (data, a, b, (w64 (a + 1)), 0, ())).bind fun r1 =>
  r1.elim
  (fun r2 => some r2)
  (fun r3 => some (false, r3)) := by kernel_rfl
theorem slices_partialInsertionSortOrdered_l.eq (k : Nat) (data : List Int) (a : Int) (b : Int) (i : Int) (j : Int) : slices_partialInsertionSortOrdered_l (k + 1) (data, a, b, i, j, ()) =
  cond (decide (j < 5))
  ((slices_partialInsertionSortOrdered_l_l k (data, a, b, i, j, ())).bind fun r1 =>
   cond (r1.2.2.2.1 == r1.2.2.1)
   (some (.inl (true, r1.1)))
   (cond (decide ((w64 (r1.2.2.1 - r1.2.1)) < 50))
    (some (.inl (false, r1.1)))
    (cond (inB (w64 (r1.2.2.2.1 - 1)) r1.1.length)
     (cond (inB r1.2.2.2.1 r1.1.length)
      (cond (inB r1.2.2.2.1 r1.1.length)
       (cond (inB (w64 (r1.2.2.2.1 - 1)) ((r1.1.set r1.2.2.2.1.toNat (r1.1.getD ((w64 (r1.2.2.2.1 - 1)).toNat) default)).length))
        (cond (decide ((w64 (r1.2.2.2.1 - r1.2.1)) ≥ 2))
         ((slices_partialInsertionSortOrdered_l_l_2 k (((r1.1.set r1.2.2.2.1.toNat (r1.1.getD ((w64 (r1.2.2.2.1 - 1)).toNat) default)).set ((w64 (r1.2.2.2.1 - 1)).toNat) (r1.1.getD r1.2.2.2.1.toNat default)), r1.2.1, r1.2.2.1, r1.2.2.2.1, r1.2.2.2.2.1, (w64 (r1.2.2.2.1 - 1)), ())).bind fun r2 =>
          cond (decide ((w64 (r2.2.2.1 - r2.2.2.2.1)) ≥ 2))
          ((slices_partialInsertionSortOrdered_l_l_3 k (r2.1, r2.2.1, r2.2.2.1, r2.2.2.2.1, r2.2.2.2.2.1, (w64 (r2.2.2.2.1 + 1)), ())).bind fun r3 =>
           slices_partialInsertionSortOrdered_l k (r3.1, r3.2.1, r3.2.2.1, r3.2.2.2.1, (w64 (r3.2.2.2.2.1 + 1)), ()))
          (slices_partialInsertionSortOrdered_l k (r2.1, r2.2.1, r2.2.2.1, r2.2.2.2.1, (w64 (r2.2.2.2.2.1 + 1)), ())))
         (cond (decide ((w64 (r1.2.2.1 - r1.2.2.2.1)) ≥ 2))
          ((slices_partialInsertionSortOrdered_l_l_3 k (((r1.1.set r1.2.2.2.1.toNat (r1.1.getD ((w64 (r1.2.2.2.1 - 1)).toNat) default)).set ((w64 (r1.2.2.2.1 - 1)).toNat) (r1.1.getD r1.2.2.2.1.toNat default)), r1.2.1, r1.2.2.1, r1.2.2.2.1, r1.2.2.2.2.1, (w64 (r1.2.2.2.1 + 1)), ())).bind fun r4 =>
           slices_partialInsertionSortOrdered_l k (r4.1, r4.2.1, r4.2.2.1, r4.2.2.2.1, (w64 (r4.2.2.2.2.1 + 1)), ()))
          (slices_partialInsertionSortOrdered_l k (((r1.1.set r1.2.2.2.1.toNat (r1.1.getD ((w64 (r1.2.2.2.1 - 1)).toNat) default)).set ((w64 (r1.2.2.2.1 - 1)).toNat) (r1.1.getD r1.2.2.2.1.toNat default)), r1.2.1, r1.2.2.1, r1.2.2.2.1, (w64 (r1.2.2.2.2.1 + 1)), ()))))
        (none))
       (none))
      (none))
     (none))))
  (some (.inr data)) := by kernel_rfl
theorem slices_partialInsertionSortOrdered_l_l.eq (k : Nat) (data : List Int) (a : Int) (b : Int) (i : Int) (j : Int) : slices_partialInsertionSortOrdered_l_l (k + 1) (data, a, b, i, j, ()) =
  cond (decide (i < b))
  (cond (inB i data.length)
   (cond (inB (w64 (i - 1)) data.length)
    ((cmp_Less k ((data.getD i.toNat default), (data.getD ((w64 (i - 1)).toNat) default))).bind fun r1 =>
     cond (!r1)
     (slices_partialInsertionSortOrdered_l_l k (data, a, b, (w64 (i + 1)), j, ()))
     (some (data, a, b, i, j, ())))
    (none))
   (none))
  (some (data, a, b, i, j, ())) := by kernel_rfl
end Go.Proofs.YtcmebphcoamohaaGreatDoorS
