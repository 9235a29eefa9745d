import Derived.Test.YteemifeclhenbaaDoorSayFnExactIsPuzzle
import Derived.Test.YteemifeclhenbaaDoorPuPuzzle
/- The pure statement of FnExactIsPuzzle. -/
namespace Go.Proofs.YteemifeclhenbaaDoor.fnExactIsPuzzle
open Go.RowKit Go.Proofs.YteemifeclhenbaaDoor.P Go.Proofs.YteemifeclhenbaaDoorW.PrintWords Go.Proofs.YteemifeclhenbaaDoor.B
theorem pure : Pure := by
  intro r w h l hr _ _ hl
  refine Ev.rounds ?_
  have hr' : r.size ≤ 9223372036854775807 := hr
  have hl' : l.length ≤ 9223372036854775807 := hl.1
  unfold laws_FnExactIsPuzzle.f
  obtain ⟨t, ht, hb⟩ := szPuzzle_some r w h l hr' hl'
  refine Ev.some_bind ht ?_
  refine Ev.ite (fun _ => Ev.now _) (fun hn => ?_)
  obtain ⟨_, h1⟩ := hb hn
  have hp := toPuzzle_ev r w h l h1
  refine Ev.bind hp ?_
  refine Ev.bind (specIsPuzzle_ev r w h _ hr') ?_
  refine Ev.bind hp ?_
  refine Ev.some_bind (implIsPuzzle_eq r w h _ hr') ?_
  simp only [bne_self_eq_false, Bool.false_eq_true, if_false]
  refine Ev.bind hp ?_
  refine Ev.bind (eqPuzzle_self r w h _ (by simpa using h1)) ?_
  simp only [if_true]
  exact Ev.now _
end Go.Proofs.YteemifeclhenbaaDoor.fnExactIsPuzzle
