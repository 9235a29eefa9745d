/- The print's words: what this claim names of them. -/
import Derived.Test.YteemifeclhenbaaDoorWN
namespace Go.Proofs.YteemifeclhenbaaDoorW.PrintWords
open Go.RowKit
namespace Kd
section
variable {α : Type} {d : Kd α} {W : World} {g n : Nat} {S ok : Nat → Prop} {A : Option Addr} {ad : Addr} {xs : List α}
end
end Kd
end Go.Proofs.YteemifeclhenbaaDoorW.PrintWords
