/- What the law FnExactIsClue asks of plain functions. -/
import Derived.Test.YtadkaklfgeeibaaDoorP2
import Derived.Test.YtadkaklfgeeibaaDoorOpens
namespace Go.Proofs.YtadkaklfgeeibaaDoor.fnExactIsClue
open Go.RowKit Go.Proofs.YtadkaklfgeeibaaDoor Go.Proofs.YtadkaklfgeeibaaDoor.P Go.Proofs.YtadkaklfgeeibaaDoorW.PrintWords
/-- The pure statement. -/
def Pure : Prop := ∀ (a0 : ByteArray) (a1 : Int) (a2_0 : Int) (a2_1 : Int) (a2_2 : Int), a0.size ≤ maxLen → (Lit.int .i64 a1).wf = true → (Lit.int .i64 a2_0).wf = true → (Lit.int .i64 a2_1).wf = true → (Lit.int .i64 a2_2).wf = true → ∃ k, laws_FnExactIsClue.f k a0 a1 a2_0 a2_1 a2_2 = some true
end Go.Proofs.YtadkaklfgeeibaaDoor.fnExactIsClue
