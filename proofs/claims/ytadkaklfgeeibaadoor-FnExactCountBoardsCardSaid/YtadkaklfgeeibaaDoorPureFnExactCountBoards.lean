import Derived.Test.YtadkaklfgeeibaaDoorSayFnExactCountBoards
import Derived.Test.YtadkaklfgeeibaaDoorPuBoards
/- The pure statement of FnExactCountBoards. -/
namespace Go.Proofs.YtadkaklfgeeibaaDoor.fnExactCountBoards
open Go.RowKit Go.Proofs.YtadkaklfgeeibaaDoor.P Go.Proofs.YtadkaklfgeeibaaDoorW.PrintWords Go.Proofs.YtadkaklfgeeibaaDoor.B
theorem pure : Pure := by
  intro r w h hr _ _
  refine Ev.rounds ?_
  have hr' : r.size ≤ 9223372036854775807 := hr
  unfold laws_FnExactCountBoards.f
  refine Ev.ite (fun _ => Ev.now _) (fun _ => ?_)
  refine Ev.bind (specCount_ev r w h hr') ?_
  refine Ev.bind (implCount_ev r w h hr') ?_
  simp only [if_true, bne_self_eq_false, Bool.false_eq_true, if_false]
  exact Ev.now _
end Go.Proofs.YtadkaklfgeeibaaDoor.fnExactCountBoards
