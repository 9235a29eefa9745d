/- The print's words: what this claim names of them. -/
import Derived.Test.YteemifeclhenbaaDoorWInv
import Derived.Test.YteemifeclhenbaaDoorWFootNe
namespace Go.Proofs.YteemifeclhenbaaDoorW.PrintWords
open Go.RowKit
end Go.Proofs.YteemifeclhenbaaDoorW.PrintWords
namespace Go.Proofs.YteemifeclhenbaaDoorW.PrintLast
section
variable {ops : Array Oper} {a : Act} {o og : Oper} {g : Nat} {t : Tmp} {u : Bool}
end
end Go.Proofs.YteemifeclhenbaaDoorW.PrintLast
