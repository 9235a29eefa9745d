/- What is known of the world in which a law is called. -/
import Derived.Test.YtiaagflfiphioaaDoorProg
import Derived.Calls
import Derived.Lib.LaidTab
import Derived.Lib.ItoaNum
namespace Go.Proofs.YtiaagflfiphioaaDoorS
open Go Go.Proofs
structure WI (w : World) : Prop where
  pow10 : Lib.TabIs Tryd.prog w "internal/strconv.uint64pow10" .u64 Lib.pow10Tab
end Go.Proofs.YtiaagflfiphioaaDoorS
