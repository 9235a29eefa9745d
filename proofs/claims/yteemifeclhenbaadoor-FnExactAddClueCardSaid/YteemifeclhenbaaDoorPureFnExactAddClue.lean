import Derived.Test.YteemifeclhenbaaDoorSayFnExactAddClue
import Derived.Test.YteemifeclhenbaaDoorPuAdd
/- The pure statement of FnExactAddClue. -/
namespace Go.Proofs.YteemifeclhenbaaDoor.fnExactAddClue
open Go.RowKit Go.Proofs.YteemifeclhenbaaDoor.P Go.Proofs.YteemifeclhenbaaDoorW.PrintWords Go.Proofs.YteemifeclhenbaaDoor.B
theorem pure : Pure := by
  intro r w h l a b c hr _ _ hl _ _ _
  refine Ev.rounds ?_
  have hr' : r.size ≤ 9223372036854775807 := hr
  have hl' : l.length ≤ 9223372036854775807 := hl.1
  unfold laws_FnExactAddClue.f
  obtain ⟨t, ht, hb⟩ := szPuzzle_some r w h l hr' hl'
  refine Ev.some_bind ht ?_
  refine Ev.ite (fun _ => Ev.now _) (fun hn => ?_)
  obtain ⟨_, h1⟩ := hb hn
  have hp := toPuzzle_ev r w h l h1
  have hc : laws_toClue.f a b c = some (a, b, c) := rfl
  have hs := specAdd_ev r w h (l.map toC) a b c hr'
  have hi := implAdd_ev r w h (l.map toC) a b c hr'
  have hlen := addP_len r w h (l.map toC) a b c
  revert hs hi hlen
  generalize addP r w h (l.map toC) a b c = G
  obtain ⟨r', w', h', l', b'⟩ := G
  intro hs hi hlen
  have he := eqPuzzle_self r' w' h' l' hlen
  refine Ev.bind hp ?_
  refine Ev.some_bind hc ?_
  refine Ev.bind hs ?_
  refine Ev.bind hp ?_
  refine Ev.some_bind hc ?_
  refine Ev.bind hi ?_
  refine Ev.bind he ?_
  simp only [bne_self_eq_false, Bool.false_eq_true, if_false, if_true]
  refine Ev.bind hp ?_
  refine Ev.bind (eqPuzzle_self r w h _ (by simpa using h1)) ?_
  simp only [if_true]
  refine Ev.bind (markPuzzle_ev r w h _ (by simpa using h1)) ?_
  refine Ev.neg (by show ¬ (1 + 3 * ((l.map toC).length : Int) < 0); omega) ?_
  refine Ev.bind he ?_
  simp only [if_true]
  refine Ev.bind (markPuzzle_ev r' w' h' l' hlen) ?_
  refine Ev.bind (heldPuzzle_ev r' w' h' l'.length hlen) ?_
  refine Ev.neg (by omega) ?_
  simp only [if_true]
  refine Ev.bind hp ?_
  refine Ev.some_bind hc ?_
  refine Ev.bind hi ?_
  refine Ev.bind he ?_
  simp only [bne_self_eq_false, Bool.false_eq_true, if_false, if_true]
  refine Ev.bind (heldPuzzle_ev r' w' h' l'.length hlen) ?_
  refine Ev.neg (by omega) ?_
  simp only [if_true]
  exact Ev.now _
end Go.Proofs.YteemifeclhenbaaDoor.fnExactAddClue
