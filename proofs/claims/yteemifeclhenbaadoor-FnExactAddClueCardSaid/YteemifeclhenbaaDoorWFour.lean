/- The print's words: what this claim names of them. -/
import Derived.Test.YteemifeclhenbaaDoorWTab
namespace Go.Proofs.YteemifeclhenbaaDoorW.PrintLast
section
variable {P : Program} {ops : Array Oper} {Q : Exit → Act → World → Prop} {md : Region.Mode} {S : World → Prop} {ds : List Nat} {T : Bool × List (List Nat × List Nat)}
end
end Go.Proofs.YteemifeclhenbaaDoorW.PrintLast
