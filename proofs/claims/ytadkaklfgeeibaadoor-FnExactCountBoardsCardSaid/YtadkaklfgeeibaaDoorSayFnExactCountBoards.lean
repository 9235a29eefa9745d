/- What the law FnExactCountBoards asks of plain functions. -/
import Derived.Test.YtadkaklfgeeibaaDoorP1
import Derived.Test.YtadkaklfgeeibaaDoorOpens
namespace Go.Proofs.YtadkaklfgeeibaaDoor.fnExactCountBoards
open Go.RowKit Go.Proofs.YtadkaklfgeeibaaDoor Go.Proofs.YtadkaklfgeeibaaDoor.P Go.Proofs.YtadkaklfgeeibaaDoorW.PrintWords
/-- The pure statement. -/
def Pure : Prop := ∀ (a0 : ByteArray) (a1 : Int) (a2 : Int), a0.size ≤ maxLen → (Lit.int .i64 a1).wf = true → (Lit.int .i64 a2).wf = true → ∃ k, laws_FnExactCountBoards.f k a0 a1 a2 = some true
end Go.Proofs.YtadkaklfgeeibaaDoor.fnExactCountBoards
