/- The plain law FnExactStepPlain. -/
import Derived.Test.YthobhonnicadaaaDoorOk
import Derived.Test.YthobhonnicadaaaDoorPuAfter
namespace Go.Proofs.YthobhonnicadaaaDoor.fnExactStepPlain
open Go Go.Proofs Go.Proofs.YthobhonnicadaaaDoorS
set_option linter.unusedVariables false
set_option linter.unusedSimpArgs false
theorem both (rl : ByteArray) (sp : List Sp) (x y wy : Int) (hsp : sp.length ≤ 1048576) (hrl : rl.size ≤ 9223372036854775807) : ∃ (rl' : ByteArray) (T : List Sp) (x' y' wy' : Int) (ok : Bool), T.length ≤ 1048576 ∧ Ev (fun k => spec_StepPlain k (rl, sp, x, y, wy)) ((rl', T, x', y', wy'), ok) ∧ Ev (fun k => impl_StepPlain k (rl, sp, x, y, wy)) ((rl', T, x', y', wy'), ok) := by
  have a1 := isRun_ev rl sp x y wy 1 hsp hrl
  have a2 := enGood_ev rl sp x y wy hsp
  have out : ∀ r, Ev (fun k => impl_PlainAfter k ((rl, sp, x, y, wy), 1)) r → Ev (fun k => impl_StepPlain k (rl, sp, x, y, wy)) r := fun r h => Ev.step (fun k => impl_StepPlain.eq k rl sp x y wy) (Ev.bind h (Ev.now _))
  by_cases H : PlainOk rl sp x y wy
  rotate_left
  · exact ⟨ByteArray.empty, [], 0, 0, 0, false, by simp, Ev.step (fun k => spec_StepPlain.eq k rl sp x y wy) (Ev.bind (a2.isF H) (Ev.yes rfl (Ev.now _))), out _ (Ev.step (fun k => impl_PlainAfter.eq k rl sp x y wy 1) (Ev.bind (a1.isF fun q => H q.1) (Ev.yes rfl (Ev.now _))))⟩
  have hg := going_ev rl x y wy sp hsp (keys_of H.2.2.2.2.2)
  have a1t := a1.isT ⟨H, by omega, by omega⟩
  obtain ⟨c, z, sp1, x1, y1, wy1, g1, ok, hz, hcol, hS, hI, hok, hg1⟩ := step_ev rl sp x y wy _ H (List.Perm.refl _)
  have spec : ∀ r, Ev (fun k => spec_enStep k (rl, sp, x, y, wy)) r → Ev (fun k => spec_StepPlain k (rl, sp, x, y, wy)) r := fun r h => Ev.step (fun k => spec_StepPlain.eq k rl sp x y wy) (Ev.bind (a2.isT H) (Ev.no rfl (Ev.bind h (Ev.now _))))
  cases ok with
  | true =>
    have H1 := hok rfl
    have hl := H1.2.1
    have run : Ev (fun k => impl_going_run k ((rl, sp.map ent, x, y, wy), 1)) ((ofBytes ([] ++ [(z.toNat : Int)]), true), (rl, g1, x1, y1, wy1)) :=
      Ev.step (fun k => impl_going_run.eq k rl _ x y wy 1) (Ev.bind (Ev.step (fun k => impl_going_run_l.eq k rl _ x y wy [] 1 0) (Ev.yes rfl (Ev.bind hI (Ev.no rfl (Ev.yes rfl (Ev.step (fun k => impl_going_run_l.eq k rl g1 x1 y1 wy1 _ 1 _) (Ev.no rfl (Ev.now _)))))))) (Ev.now _))
    exact ⟨rl, sp1, x1, y1, wy1, true, by omega, spec _ hS, out _ (Ev.step (fun k => impl_PlainAfter.eq k rl sp x y wy 1) (Ev.bind a1t (Ev.no rfl (Ev.bind hg (Ev.bind run (Ev.no rfl (Ev.bind (plain_ev rl sp1 x1 y1 wy1 g1 H1 hg1) (Ev.now _))))))))⟩
  | false =>
    have run : Ev (fun k => impl_going_run k ((rl, sp.map ent, x, y, wy), 1)) ((ByteArray.empty, false), (rl, g1, x1, y1, wy1)) :=
      Ev.step (fun k => impl_going_run.eq k rl _ x y wy 1) (Ev.bind (Ev.step (fun k => impl_going_run_l.eq k rl _ x y wy [] 1 0) (Ev.yes rfl (Ev.bind hI (Ev.yes rfl (Ev.now _))))) (Ev.now _))
    exact ⟨ByteArray.empty, [], 0, 0, 0, false, by simp, spec _ hS, out _ (Ev.step (fun k => impl_PlainAfter.eq k rl sp x y wy 1) (Ev.bind a1t (Ev.no rfl (Ev.bind hg (Ev.bind run (Ev.yes rfl (Ev.now _)))))))⟩
theorem main (rl : ByteArray) (sp : List Sp) (x y wy : Int) (h1 : rl.size ≤ 9223372036854775807) (h2 : sp.length ≤ 9223372036854775807) : ∃ k, laws_FnExactStepPlain k (rl, sp, x, y, wy) = some true := by
  refine Ev.rounds (Ev.step (fun k => laws_FnExactStepPlain.eq k rl sp x y wy) ?_)
  obtain ⟨z, s1, s2⟩ := szPlain_ev rl sp x y wy h1 h2
  refine Ev.bind s1 (Ev.cond (fun _ => Ev.now _) fun hn => ?_)
  have hl : sp.length ≤ 1048576 := by
    rcases s2 with s2 | s2
    · exact absurd s2 (of_decide_eq_false hn)
    · exact s2
  obtain ⟨rl', T, x', y', wy', ok, hT, hs, hi⟩ := both rl sp x y wy hl h1
  have hto := toPlain_ev rl sp x y wy hl
  have heq := eqPlain_ev rl sp x y wy hl
  have ok1 : (!(ok == ok)) = false := by cases ok <;> rfl
  have he := eqPlain_ev rl' T x' y' wy' (by omega)
  obtain ⟨M0, hm0, _⟩ := markHeldP_ev rl sp x y wy hl
  obtain ⟨M, hm, hh⟩ := markHeldP_ev rl' T x' y' wy' (by omega)
  have n0 : decide (1 + 3 * (sp.length : Int) < 0) = false := decide_eq_false (by omega)
  have n1 : decide (1 + 3 * (T.length : Int) < 0) = false := decide_eq_false (by omega)
  refine Ev.bind hto (Ev.bind hs (Ev.bind hto (Ev.bind hi (Ev.bind he (Ev.no rfl (Ev.no ok1 ?_))))))
  refine Ev.bind hto (Ev.bind heq (Ev.no rfl (Ev.bind hm0 (Ev.no n0 ?_))))
  refine Ev.bind he (Ev.no rfl (Ev.no ok1 (Ev.bind hm (Ev.bind hh (Ev.no n1 (Ev.no (neq_self _) ?_))))))
  exact Ev.bind hto (Ev.bind hi (Ev.bind he (Ev.no rfl (Ev.no ok1 (Ev.bind hh (Ev.no n1 (Ev.no (neq_self _) (Ev.now _))))))))
theorem pure : ∀ d : Dl laws_FnExactStepPlain.ins, goodL laws_FnExactStepPlain.ins d → ∃ k, laws_FnExactStepPlain k d = some true := by
  rintro ⟨rl, sp, x, y, wy⟩ hg
  exact main rl sp x y wy hg.1 hg.2.1.1
end Go.Proofs.YthobhonnicadaaaDoor.fnExactStepPlain
