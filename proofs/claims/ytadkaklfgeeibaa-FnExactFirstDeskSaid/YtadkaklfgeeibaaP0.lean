/- Printed by a program of this session (wip/tools), with the kit's printer: plain functions and their walks. -/
import Derived.Test.YtadkaklfgeeibaaProg
import Derived.Below
import Derived.Deep.Draws
import Derived.Deep.AppendLies
import Derived.Maps.AppendAt
import Derived.OwnWalk
import Derived.Laws.BytesArg
import Derived.Laws.MakeOwn
import Derived.Laws.OwnMore
import Derived.Deep.OwnRows
import Derived.Tactics
import Derived.Lib.ConvBytes
import Derived.Laws.Slices
import Derived.WalkKit
import Derived.KernelRfl
import Derived.RowKit3
import Derived.Deep.LoopGhost
import Derived.Deep.QuietTactic
import Derived.BigQuiet
import Derived.WideLaws
import Derived.Deep.DeepCutAuto
import Derived.Deep.CutBlock
import Derived.Deep.RegionHeld3
import Derived.Laws.Rows
import Derived.Lib.AppendStr
import Derived.ArgAppend
import Derived.Laws.IdiomCopy
import Derived.OrdersHeld
import Derived.Laws.BitsLemmas
import Derived.RowKit
import Derived.Test.YtadkaklfgeeibaaWWords
import Derived.Test.YtadkaklfgeeibaaWLast
import Derived.Test.YtadkaklfgeeibaaWTab
import Derived.Test.YtadkaklfgeeibaaWFour
import Derived.Test.YtadkaklfgeeibaaWQPut
import Derived.Test.YtadkaklfgeeibaaWApart
import Derived.Test.YtadkaklfgeeibaaWArr
import Derived.Test.YtadkaklfgeeibaaWZeros
import Derived.Test.YtadkaklfgeeibaaWFoot
import Derived.Test.YtadkaklfgeeibaaWKept
import Derived.Test.YtadkaklfgeeibaaWShare
import Derived.Test.YtadkaklfgeeibaaWN
import Derived.Test.YtadkaklfgeeibaaWFootNe
import Derived.Test.YtadkaklfgeeibaaWAt
import Derived.Test.YtadkaklfgeeibaaWEqStruct
import Derived.Test.YtadkaklfgeeibaaWRepsOne
import Derived.Test.YtadkaklfgeeibaaWInv
import Derived.Test.YtadkaklfgeeibaaWInvWords
import Derived.Test.YtadkaklfgeeibaaWGuard
import Derived.Test.YtadkaklfgeeibaaWNEv
import Derived.Test.YtadkaklfgeeibaaWMore
namespace Go.Proofs.Ytadkaklfgeeibaa.P
open Go.RowKit Go.Proofs.YtadkaklfgeeibaaW.PrintWords Go.Proofs.YtadkaklfgeeibaaW.PrintLast Go.Proofs.YtadkaklfgeeibaaW.PrintMore
attribute [local go_sem] max2_int min2_int max_two min_two max_three min_three max_four min_four   -- for this text's walks alone
set_option linter.unusedVariables false
set_option linter.unusedSimpArgs false



def errW : Option Int → Value
  | none => .nilIface
  | some c => .iface 0 (.int .i64 c)
theorem errW_none : errW none = .nilIface := rfl
theorem errW_some (c : Int) : errW (some c) = .iface 0 (.int .i64 c) := rfl

-- the values' own types

end Go.Proofs.Ytadkaklfgeeibaa.P
