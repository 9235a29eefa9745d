import Derived.Test.YtadkaklfgeeibaaDoorSayFnExactIsClue
import Derived.Test.YtadkaklfgeeibaaDoorPuClue
/- The pure statement of FnExactIsClue. -/
namespace Go.Proofs.YtadkaklfgeeibaaDoor.fnExactIsClue
open Go.RowKit Go.Proofs.YtadkaklfgeeibaaDoor.P Go.Proofs.YtadkaklfgeeibaaDoorW.PrintWords Go.Proofs.YtadkaklfgeeibaaDoor.B
theorem pure : Pure := by
  intro r c k a b hr _ _ _ _
  refine Ev.rounds ?_
  have hr' : r.size ≤ 9223372036854775807 := hr
  unfold laws_FnExactIsClue.f laws_toClue.f
  refine Ev.ite (fun _ => Ev.now _) (fun _ => ?_)
  refine Ev.some_bind rfl ?_
  refine Ev.bind (specIsClue_ev r c k a b hr') ?_
  refine Ev.some_bind rfl ?_
  refine Ev.bind (implIsClue_ev r c k a b hr') ?_
  simp only [bne_self_eq_false, Bool.false_eq_true, if_false]
  exact Ev.now _
end Go.Proofs.YtadkaklfgeeibaaDoor.fnExactIsClue
