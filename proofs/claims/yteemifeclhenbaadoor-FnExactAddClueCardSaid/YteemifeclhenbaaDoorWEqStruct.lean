/- The print's words: what this claim names of them. -/
import Derived.Test.YteemifeclhenbaaDoorWWords
import Derived.Laws.StructEq
namespace Go.Proofs.YteemifeclhenbaaDoorW.PrintWords
open Go.RowKit
section
variable {P : Program} {d : Nat} {xs ys : Array Value} {f : Field} {fs : List Field} {a b : Value} {r s : Bool} {w : World}
end
end Go.Proofs.YteemifeclhenbaaDoorW.PrintWords
