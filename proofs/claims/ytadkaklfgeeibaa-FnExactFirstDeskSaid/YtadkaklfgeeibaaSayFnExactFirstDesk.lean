/- What the law FnExactFirstDesk asks of plain functions. -/
import Derived.Test.YtadkaklfgeeibaaP1
import Derived.Test.YtadkaklfgeeibaaOpens
namespace Go.Proofs.Ytadkaklfgeeibaa.fnExactFirstDesk
open Go.RowKit Go.Proofs.Ytadkaklfgeeibaa Go.Proofs.Ytadkaklfgeeibaa.P Go.Proofs.YtadkaklfgeeibaaW.PrintWords
/-- The pure statement. -/
def Pure : Prop := laws_FnExactFirstDesk.f  = some true
end Go.Proofs.Ytadkaklfgeeibaa.fnExactFirstDesk
