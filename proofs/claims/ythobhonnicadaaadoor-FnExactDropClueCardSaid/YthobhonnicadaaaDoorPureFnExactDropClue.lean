/- The plain law FnExactDropClue. -/
import Derived.Test.YthobhonnicadaaaDoorOk
import Derived.Test.YthobhonnicadaaaDoorPuDrop
namespace Go.Proofs.YthobhonnicadaaaDoor.fnExactDropClue
open Go Go.Proofs Go.Proofs.YthobhonnicadaaaDoorS
set_option linter.unusedVariables false
set_option linter.unusedSimpArgs false
theorem both (rl : ByteArray) (w h : Int) (cl : List Cl) (i : Int) (hrl : rl.size ≤ 9223372036854775807) : ∃ (rl' : ByteArray) (w' h' : Int) (P : List Cl) (ok : Bool), P.length ≤ 6 ∧ Ev (fun k => spec_DropClue k ((rl, w, h, cl), i)) ((rl', w', h', P), ok) ∧ Ev (fun k => impl_DropClue k ((rl, w, h, cl), i)) ((rl', w', h', P), ok) := by
  have a1 := isPuzzle_ev rl w h cl hrl
  have a2 := pzGood_ev rl w h cl
  by_cases H : PuzOk rl w h cl
  rotate_left
  · exact ⟨ByteArray.empty, 0, 0, [], false, by simp, Ev.step (fun k => spec_DropClue.eq k rl w h cl i) (Ev.bind (a2.isF H) (Ev.yes rfl (Ev.now _))), Ev.step (fun k => impl_DropClue.eq k rl w h cl i) (Ev.bind (a1.isF H) (Ev.yes rfl (Ev.now _)))⟩
  have hl := H.2.1
  have e1 : w64 ((cl.length : Int) - 1) = (cl.length : Int) - 1 := w64_of (by omega) (by omega)
  by_cases hI : 0 ≤ i ∧ i ≤ (cl.length : Int) - 1
  rotate_left
  · refine ⟨ByteArray.empty, 0, 0, [], false, by simp, Ev.step (fun k => spec_DropClue.eq k rl w h cl i) (Ev.bind (a2.isT H) (Ev.no rfl ?_)), Ev.step (fun k => impl_DropClue.eq k rl w h cl i) (Ev.bind (a1.isT H) (Ev.no rfl ?_))⟩
    · rw [e1]
      exact Ev.bind ((l1In_ev i 0 _).isF hI) (Ev.yes rfl (Ev.now _))
    · rw [e1]
      exact Ev.bind ((within_ev i 0 _).isF hI) (Ev.yes rfl (Ev.now _))
  obtain ⟨n, rfl⟩ := Int.eq_ofNat_of_zero_le hI.1
  have hn : n < cl.length := by omega
  have hwl := woC_len hn
  refine ⟨rl, w, h, woC cl n, true, by omega, Ev.step (fun k => spec_DropClue.eq k rl w h cl n) (Ev.bind (a2.isT H) (Ev.no rfl ?_)), Ev.step (fun k => impl_DropClue.eq k rl w h cl n) (Ev.bind (a1.isT H) (Ev.no rfl ?_))⟩
  · rw [e1]
    exact Ev.bind ((l1In_ev _ 0 _).isT hI) (Ev.no rfl (Ev.bind (pzWithout_ev cl (by omega) n hn) (Ev.bind (Ev.step (fun k => spec_pzWith.eq k rl w h cl (woC cl n)) (Ev.now _)) (Ev.now _))))
  · rw [e1]
    exact Ev.bind ((within_ev _ 0 _).isT hI) (Ev.no rfl (Ev.bind (dropped_ev cl (by omega) n hn) (Ev.bind (Ev.step (fun k => impl_Puzzle_changed.eq k rl w h cl (woC cl n)) (Ev.now _)) (Ev.now _))))
theorem main (rl : ByteArray) (w h : Int) (cl : List Cl) (i : Int) (h1 : rl.size ≤ 9223372036854775807) (h2 : cl.length ≤ 9223372036854775807) : ∃ k, laws_FnExactDropClue k ((rl, w, h, cl), i) = some true := by
  refine Ev.rounds (Ev.step (fun k => laws_FnExactDropClue.eq k rl w h cl i) ?_)
  obtain ⟨r, s1, s2⟩ := szPuzzle_ev rl w h cl h1 h2
  refine Ev.bind s1 (Ev.cond (fun _ => Ev.now _) fun hn => ?_)
  have hl : cl.length ≤ 1048576 := by
    rcases s2 with s2 | s2
    · exact absurd s2 (of_decide_eq_false hn)
    · exact s2
  obtain ⟨rl', w', h', P, ok, hP, hs, hi⟩ := both rl w h cl i h1
  have hto := toPuzzle_ev rl w h cl hl
  have heq := eqPuzzle_ev rl w h cl hl
  have ok1 : (!(ok == ok)) = false := by cases ok <;> rfl
  have he := eqPuzzle_ev rl' w' h' P (by omega)
  obtain ⟨M0, hm0⟩ := markPuzzle_ev rl w h cl hl
  obtain ⟨M, hm, hh⟩ := markHeld_ev rl' w' h' P (by omega)
  have n0 : decide (1 + 3 * (cl.length : Int) < 0) = false := decide_eq_false (by omega)
  have n1 : decide (1 + 3 * (P.length : Int) < 0) = false := decide_eq_false (by omega)
  refine Ev.bind hto (Ev.bind hs (Ev.bind hto (Ev.bind hi (Ev.bind he (Ev.no rfl (Ev.no ok1 ?_))))))
  refine Ev.bind hto (Ev.bind heq (Ev.no rfl (Ev.bind hm0 (Ev.no n0 ?_))))
  refine Ev.bind he (Ev.no rfl (Ev.no ok1 (Ev.bind hm (Ev.bind hh (Ev.no n1 (Ev.no (neq_self _) ?_))))))
  exact Ev.bind hto (Ev.bind hi (Ev.bind he (Ev.no rfl (Ev.no ok1 (Ev.bind hh (Ev.no n1 (Ev.no (neq_self _) (Ev.now _))))))))
theorem pure : ∀ d : Dl laws_FnExactDropClue.ins, goodL laws_FnExactDropClue.ins d → ∃ k, laws_FnExactDropClue k d = some true := by
  rintro ⟨⟨rl, w, h, cl⟩, i⟩ hg
  exact main rl w h cl i hg.1.1 hg.1.2.2.2.1
end Go.Proofs.YthobhonnicadaaaDoor.fnExactDropClue
