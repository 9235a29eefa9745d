/- The plain law FnExactPuzzleText. -/
import Derived.Test.YtaookbfcncfkbaaDoorOk
import Derived.Test.YtaookbfcncfkbaaDoorPuPuz4
namespace Go.Proofs.YtaookbfcncfkbaaDoor.fnExactPuzzleText
open Go Go.Proofs Go.Proofs.YtaookbfcncfkbaaDoorS
set_option linter.unusedVariables false
set_option linter.unusedSimpArgs false
theorem both (rl : ByteArray) (w h : Int) (cl : List Cl) (hrl : rl.size ≤ 9223372036854775807) : ∃ (s : ByteArray) (ok : Bool), Ev (fun k => spec_PuzzleText k (rl, w, h, cl)) (s, ok) ∧ Ev (fun k => impl_PuzzleText k (rl, w, h, cl)) (s, ok) := by
  have a1 := isPuzzle_ev rl w h cl hrl
  have a2 := pzGood_ev rl w h cl
  by_cases H : PuzOk rl w h cl
  · obtain ⟨p1, p2⟩ := puzText_ev rl w h cl H
    exact ⟨_, true, Ev.step (fun k => spec_PuzzleText.eq k rl w h cl) (Ev.bind (a2.isT H) (Ev.no rfl (Ev.bind p1 (Ev.now _)))), Ev.step (fun k => impl_PuzzleText.eq k rl w h cl) (Ev.bind (a1.isT H) (Ev.no rfl (Ev.bind p2 (Ev.now _))))⟩
  · exact ⟨ByteArray.empty, false, Ev.step (fun k => spec_PuzzleText.eq k rl w h cl) (Ev.bind (a2.isF H) (Ev.yes rfl (Ev.now _))), Ev.step (fun k => impl_PuzzleText.eq k rl w h cl) (Ev.bind (a1.isF H) (Ev.yes rfl (Ev.now _)))⟩
theorem main (rl : ByteArray) (w h : Int) (cl : List Cl) (h1 : rl.size ≤ 9223372036854775807) (h2 : cl.length ≤ 9223372036854775807) : ∃ k, laws_FnExactPuzzleText k (rl, w, h, cl) = some true := by
  refine Ev.rounds (Ev.step (fun k => laws_FnExactPuzzleText.eq k rl w h cl) ?_)
  obtain ⟨r, s1, s2⟩ := szPuzzle_ev rl w h cl h1 h2
  refine Ev.bind s1 (Ev.cond (fun _ => Ev.now _) fun hn => ?_)
  have hl : cl.length ≤ 1048576 := by
    rcases s2 with s2 | s2
    · exact absurd s2 (of_decide_eq_false hn)
    · exact s2
  obtain ⟨s, ok, hs, hi⟩ := both rl w h cl h1
  have hto := toPuzzle_ev rl w h cl hl
  have heq := eqPuzzle_ev rl w h cl hl
  have ok1 : (!(ok == ok)) = false := by cases ok <;> rfl
  exact Ev.bind hto (Ev.bind hs (Ev.bind hto (Ev.bind hi (Ev.no (by rw [strEq_self]; rfl) (Ev.no ok1 (Ev.bind hto (Ev.bind heq (Ev.no rfl (Ev.now _)))))))))
theorem pure : ∀ d : Dl laws_FnExactPuzzleText.ins, goodL laws_FnExactPuzzleText.ins d → ∃ k, laws_FnExactPuzzleText k d = some true := by
  rintro ⟨rl, w, h, cl⟩ hg
  exact main rl w h cl hg.1 hg.2.2.2.1
end Go.Proofs.YtaookbfcncfkbaaDoor.fnExactPuzzleText
