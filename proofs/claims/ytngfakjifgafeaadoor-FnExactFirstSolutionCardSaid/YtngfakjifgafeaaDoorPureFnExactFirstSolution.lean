/- The plain law FnExactFirstSolution. -/
import Derived.Test.YtngfakjifgafeaaDoorOk
import Derived.Test.YtngfakjifgafeaaDoorPuPuz3
namespace Go.Proofs.YtngfakjifgafeaaDoor.fnExactFirstSolution
open Go Go.Proofs Go.Proofs.YtngfakjifgafeaaDoorS
set_option linter.unusedVariables false
set_option linter.unusedSimpArgs false
theorem both (rl : ByteArray) (w h : Int) (cl : List Cl) (hrl : rl.size ≤ 9223372036854775807) : ∃ (v : ByteArray) (ok : Bool), Ev (fun k => spec_FirstSolution k (rl, w, h, cl)) (v, ok) ∧ Ev (fun k => impl_FirstSolution k (rl, w, h, cl)) (v, ok) := by
  rcases solutions_ev rl w h cl hrl with ⟨_, _, i, g, s⟩ | ⟨_, i, g⟩
  · revert i s
    generalize solC rl w h cl = l
    intro i s
    by_cases h0 : l.length = 0
    · exact ⟨ByteArray.empty, false, Ev.step (fun k => spec_FirstSolution.eq k rl w h cl) (Ev.bind g (Ev.no rfl (Ev.bind s (Ev.yes (by rw [beq_iff_eq]; show (l.length : Int) = 0; omega) (Ev.now _))))), Ev.step (fun k => impl_FirstSolution.eq k rl w h cl) (Ev.bind i (Ev.yes (by rw [beq_iff_eq]; show (l.length : Int) = 0; omega) (Ev.now _)))⟩
    · have n0 : ((l.length : Int) == 0) = false := by rw [beq_eq_false_iff_ne]; omega
      have b0 : inB 0 l.length = true := inB_of (by omega) (by omega)
      exact ⟨_, true, Ev.step (fun k => spec_FirstSolution.eq k rl w h cl) (Ev.bind g (Ev.no rfl (Ev.bind s (Ev.no n0 (Ev.yes b0 (Ev.now _)))))), Ev.step (fun k => impl_FirstSolution.eq k rl w h cl) (Ev.bind i (Ev.no n0 (Ev.yes b0 (Ev.now _))))⟩
  · exact ⟨ByteArray.empty, false, Ev.step (fun k => spec_FirstSolution.eq k rl w h cl) (Ev.bind g (Ev.yes rfl (Ev.now _))), Ev.step (fun k => impl_FirstSolution.eq k rl w h cl) (Ev.bind i (Ev.yes rfl (Ev.now _)))⟩
theorem main (rl : ByteArray) (w h : Int) (cl : List Cl) (h1 : rl.size ≤ 9223372036854775807) (h2 : cl.length ≤ 9223372036854775807) : ∃ k, laws_FnExactFirstSolution k (rl, w, h, cl) = some true := by
  refine Ev.rounds (Ev.step (fun k => laws_FnExactFirstSolution.eq k rl w h cl) ?_)
  obtain ⟨r, s1, s2⟩ := szPuzzle_ev rl w h cl h1 h2
  refine Ev.bind s1 (Ev.cond (fun _ => Ev.now _) fun hn => ?_)
  have hl : cl.length ≤ 1048576 := by
    rcases s2 with s2 | s2
    · exact absurd s2 (of_decide_eq_false hn)
    · exact s2
  obtain ⟨v, ok, hs, hi⟩ := both rl w h cl h1
  have hto := toPuzzle_ev rl w h cl hl
  have heq := eqPuzzle_ev rl w h cl hl
  have ok1 : (!(ok == ok)) = false := by cases ok <;> rfl
  exact Ev.bind hto (Ev.bind hs (Ev.bind hto (Ev.bind hi (Ev.no (by rw [strEq_self]; rfl) (Ev.no ok1 (Ev.bind hto (Ev.bind heq (Ev.no rfl (Ev.now _)))))))))
theorem pure : ∀ d : Dl laws_FnExactFirstSolution.ins, goodL laws_FnExactFirstSolution.ins d → ∃ k, laws_FnExactFirstSolution k d = some true := by
  rintro ⟨rl, w, h, cl⟩ hg
  exact main rl w h cl hg.1 hg.2.2.2.1
end Go.Proofs.YtngfakjifgafeaaDoor.fnExactFirstSolution
