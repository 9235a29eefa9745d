/- The plain law FnExactIsSolved. -/
import Derived.Test.YtngfakjifgafeaaDoorOk
import Derived.Test.YtngfakjifgafeaaDoorPuPuz3
namespace Go.Proofs.YtngfakjifgafeaaDoor.fnExactIsSolved
open Go Go.Proofs Go.Proofs.YtngfakjifgafeaaDoorS
set_option linter.unusedVariables false
set_option linter.unusedSimpArgs false
theorem both (rl : ByteArray) (w h : Int) (cl : List Cl) (hrl : rl.size ≤ 9223372036854775807) : ∃ (v : Bool) (ok : Bool), Ev (fun k => spec_IsSolved k (rl, w, h, cl)) (v, ok) ∧ Ev (fun k => impl_IsSolved k (rl, w, h, cl)) (v, ok) := by
  rcases solutions_ev rl w h cl hrl with ⟨_, _, i, g, s⟩ | ⟨_, i, g⟩
  · exact ⟨_, true, Ev.step (fun k => spec_IsSolved.eq k rl w h cl) (Ev.bind g (Ev.no rfl (Ev.bind (Ev.step (fun k => spec_pzSolved.eq k rl w h cl) (Ev.bind (Ev.step (fun k => spec_pzWith_2.eq k rl w h cl) (Ev.now _)) (Ev.bind s (Ev.now _)))) (Ev.now _)))),
      Ev.step (fun k => impl_IsSolved.eq k rl w h cl) (Ev.bind (Ev.step (fun k => impl_CountSolutions.eq k rl w h cl) (Ev.bind i (Ev.now _))) (Ev.now _))⟩
  · exact ⟨false, false, Ev.step (fun k => spec_IsSolved.eq k rl w h cl) (Ev.bind g (Ev.yes rfl (Ev.now _))), Ev.step (fun k => impl_IsSolved.eq k rl w h cl) (Ev.bind (Ev.step (fun k => impl_CountSolutions.eq k rl w h cl) (Ev.bind i (Ev.now _))) (Ev.now _))⟩
theorem main (rl : ByteArray) (w h : Int) (cl : List Cl) (h1 : rl.size ≤ 9223372036854775807) (h2 : cl.length ≤ 9223372036854775807) : ∃ k, laws_FnExactIsSolved k (rl, w, h, cl) = some true := by
  refine Ev.rounds (Ev.step (fun k => laws_FnExactIsSolved.eq k rl w h cl) ?_)
  obtain ⟨r, s1, s2⟩ := szPuzzle_ev rl w h cl h1 h2
  refine Ev.bind s1 (Ev.cond (fun _ => Ev.now _) fun hn => ?_)
  have hl : cl.length ≤ 1048576 := by
    rcases s2 with s2 | s2
    · exact absurd s2 (of_decide_eq_false hn)
    · exact s2
  obtain ⟨v, ok, hs, hi⟩ := both rl w h cl h1
  have hto := toPuzzle_ev rl w h cl hl
  have heq := eqPuzzle_ev rl w h cl hl
  have ok1 : (!(ok == ok)) = false := by cases ok <;> rfl
  exact Ev.bind hto (Ev.bind hs (Ev.bind hto (Ev.bind hi (Ev.no (by cases v <;> rfl) (Ev.no ok1 (Ev.bind hto (Ev.bind heq (Ev.no rfl (Ev.now _)))))))))
theorem pure : ∀ d : Dl laws_FnExactIsSolved.ins, goodL laws_FnExactIsSolved.ins d → ∃ k, laws_FnExactIsSolved k d = some true := by
  rintro ⟨rl, w, h, cl⟩ hg
  exact main rl w h cl hg.1 hg.2.2.2.1
end Go.Proofs.YtngfakjifgafeaaDoor.fnExactIsSolved
