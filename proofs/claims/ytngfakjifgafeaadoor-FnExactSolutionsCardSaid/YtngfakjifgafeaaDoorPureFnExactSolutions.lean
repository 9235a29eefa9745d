/- The plain law FnExactSolutions. -/
import Derived.Test.YtngfakjifgafeaaDoorOk
import Derived.Test.YtngfakjifgafeaaDoorPuPuz3
namespace Go.Proofs.YtngfakjifgafeaaDoor.fnExactSolutions
open Go Go.Proofs Go.Proofs.YtngfakjifgafeaaDoorS
set_option linter.unusedVariables false
set_option linter.unusedSimpArgs false
theorem both (rl : ByteArray) (w h : Int) (cl : List Cl) (hrl : rl.size ≤ 9223372036854775807) : ∃ (v : List ByteArray) (ok : Bool), v.length ≤ 1048576 ∧ Ev (fun k => spec_Solutions k (rl, w, h, cl)) (v, ok) ∧ Ev (fun k => impl_Solutions k (rl, w, h, cl)) (v, ok) := by
  rcases solutions_ev rl w h cl hrl with ⟨_, hl, i, g, s⟩ | ⟨_, i, g⟩
  · exact ⟨_, true, by omega, Ev.step (fun k => spec_Solutions.eq k rl w h cl) (Ev.bind g (Ev.no rfl (Ev.bind s (Ev.now _)))), i⟩
  · exact ⟨[], false, by simp, Ev.step (fun k => spec_Solutions.eq k rl w h cl) (Ev.bind g (Ev.yes rfl (Ev.now _))), i⟩
theorem main (rl : ByteArray) (w h : Int) (cl : List Cl) (h1 : rl.size ≤ 9223372036854775807) (h2 : cl.length ≤ 9223372036854775807) : ∃ k, laws_FnExactSolutions k (rl, w, h, cl) = some true := by
  refine Ev.rounds (Ev.step (fun k => laws_FnExactSolutions.eq k rl w h cl) ?_)
  obtain ⟨r, s1, s2⟩ := szPuzzle_ev rl w h cl h1 h2
  refine Ev.bind s1 (Ev.cond (fun _ => Ev.now _) fun hn => ?_)
  have hl : cl.length ≤ 1048576 := by
    rcases s2 with s2 | s2
    · exact absurd s2 (of_decide_eq_false hn)
    · exact s2
  obtain ⟨v, ok, hv, hs, hi⟩ := both rl w h cl h1
  have hto := toPuzzle_ev rl w h cl hl
  have heq := eqPuzzle_ev rl w h cl hl
  have ok1 : (!(ok == ok)) = false := by cases ok <;> rfl
  have he := eqStringS_ev v hv
  obtain ⟨M0, hm0⟩ := markPuzzle_ev rl w h cl hl
  obtain ⟨M, hm, hh⟩ := markStringS_ev v hv
  have n0 : decide (1 + 3 * (cl.length : Int) < 0) = false := decide_eq_false (by omega)
  have n1 : decide (1 + (v.length : Int) < 0) = false := decide_eq_false (by omega)
  refine Ev.bind hto (Ev.bind hs (Ev.bind hto (Ev.bind hi (Ev.bind he (Ev.no rfl (Ev.no ok1 ?_))))))
  refine Ev.bind hto (Ev.bind heq (Ev.no rfl (Ev.bind hm0 (Ev.no n0 ?_))))
  refine Ev.bind he (Ev.no rfl (Ev.no ok1 (Ev.bind hm (Ev.bind hh (Ev.no n1 (Ev.no (neq_self _) ?_))))))
  exact Ev.bind hto (Ev.bind hi (Ev.bind he (Ev.no rfl (Ev.no ok1 (Ev.bind hh (Ev.no n1 (Ev.no (neq_self _) (Ev.now _))))))))
theorem pure : ∀ d : Dl laws_FnExactSolutions.ins, goodL laws_FnExactSolutions.ins d → ∃ k, laws_FnExactSolutions k d = some true := by
  rintro ⟨rl, w, h, cl⟩ hg
  exact main rl w h cl hg.1 hg.2.2.2.1
end Go.Proofs.YtngfakjifgafeaaDoor.fnExactSolutions
