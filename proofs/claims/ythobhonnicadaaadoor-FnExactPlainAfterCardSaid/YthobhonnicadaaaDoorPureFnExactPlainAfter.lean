/- The plain law FnExactPlainAfter. -/
import Derived.Test.YthobhonnicadaaaDoorOk
import Derived.Test.YthobhonnicadaaaDoorPuAfter
namespace Go.Proofs.YthobhonnicadaaaDoor.fnExactPlainAfter
open Go Go.Proofs Go.Proofs.YthobhonnicadaaaDoorS
set_option linter.unusedVariables false
set_option linter.unusedSimpArgs false
theorem both (rl : ByteArray) (sp : List Sp) (x y wy n : Int) (hsp : sp.length ≤ 1048576) (hrl : rl.size ≤ 9223372036854775807) : ∃ (rl' : ByteArray) (T : List Sp) (x' y' wy' : Int) (ok : Bool), T.length ≤ 1048576 ∧ Ev (fun k => spec_PlainAfter k ((rl, sp, x, y, wy), n)) ((rl', T, x', y', wy'), ok) ∧ Ev (fun k => impl_PlainAfter k ((rl, sp, x, y, wy), n)) ((rl', T, x', y', wy'), ok) := by
  have a1 := isRun_ev rl sp x y wy n hsp hrl
  have a2 := enSteps_ev rl sp x y wy n hsp
  by_cases H : PlainOk rl sp x y wy ∧ (0 ≤ n ∧ n ≤ 1000)
  rotate_left
  · exact ⟨ByteArray.empty, [], 0, 0, 0, false, by simp, Ev.step (fun k => spec_PlainAfter.eq k rl sp x y wy n) (Ev.bind (a2.isF H) (Ev.yes rfl (Ev.now _))), Ev.step (fun k => impl_PlainAfter.eq k rl sp x y wy n) (Ev.bind (a1.isF H) (Ev.yes rfl (Ev.now _)))⟩
  obtain ⟨HP, h0, h1⟩ := id H
  obtain ⟨N, rfl⟩ := Int.eq_ofNat_of_zero_le h0
  have hg := going_ev rl x y wy sp hsp (keys_of HP.2.2.2.2.2)
  have ho : Ev (fun k => spec_enOwn k (rl, sp, x, y, wy)) (rl, sp, x, y, wy) := Ev.step (fun k => spec_enOwn.eq k rl sp x y wy) (Ev.yes (fits_of (by omega)) (Ev.now' (by rw [List.nil_append])))
  rcases run_ev rl N (by omega) sp x y wy _ HP (List.Perm.refl _) with ⟨sp', x', y', wy', g', sg, H', hp, q1, q2⟩ | ⟨G, q1, q2⟩
  · have hl := H'.2.1
    exact ⟨rl, sp', x', y', wy', true, by omega, Ev.step (fun k => spec_PlainAfter.eq k rl sp x y wy N) (Ev.bind (a2.isT H) (Ev.no rfl (Ev.bind ho (Ev.bind q1 (Ev.now _))))), Ev.step (fun k => impl_PlainAfter.eq k rl sp x y wy N) (Ev.bind (a1.isT H) (Ev.no rfl (Ev.bind hg (Ev.bind q2 (Ev.no rfl (Ev.bind (plain_ev rl sp' x' y' wy' g' H' hp) (Ev.now _)))))))⟩
  · exact ⟨ByteArray.empty, [], 0, 0, 0, false, by simp, Ev.step (fun k => spec_PlainAfter.eq k rl sp x y wy N) (Ev.bind (a2.isT H) (Ev.no rfl (Ev.bind ho (Ev.bind q1 (Ev.now _))))), Ev.step (fun k => impl_PlainAfter.eq k rl sp x y wy N) (Ev.bind (a1.isT H) (Ev.no rfl (Ev.bind hg (Ev.bind q2 (Ev.yes rfl (Ev.now _))))))⟩
theorem main (rl : ByteArray) (sp : List Sp) (x y wy n : Int) (h1 : rl.size ≤ 9223372036854775807) (h2 : sp.length ≤ 9223372036854775807) : ∃ k, laws_FnExactPlainAfter k ((rl, sp, x, y, wy), n) = some true := by
  refine Ev.rounds (Ev.step (fun k => laws_FnExactPlainAfter.eq k rl sp x y wy n) ?_)
  obtain ⟨z, s1, s2⟩ := szPlain_ev rl sp x y wy h1 h2
  refine Ev.bind s1 (Ev.cond (fun _ => Ev.now _) fun hn => ?_)
  have hl : sp.length ≤ 1048576 := by
    rcases s2 with s2 | s2
    · exact absurd s2 (of_decide_eq_false hn)
    · exact s2
  obtain ⟨rl', T, x', y', wy', ok, hT, hs, hi⟩ := both rl sp x y wy n hl h1
  have hto := toPlain_ev rl sp x y wy hl
  have heq := eqPlain_ev rl sp x y wy hl
  have ok1 : (!(ok == ok)) = false := by cases ok <;> rfl
  have he := eqPlain_ev rl' T x' y' wy' (by omega)
  obtain ⟨M0, hm0, _⟩ := markHeldP_ev rl sp x y wy hl
  obtain ⟨M, hm, hh⟩ := markHeldP_ev rl' T x' y' wy' (by omega)
  have n0 : decide (1 + 3 * (sp.length : Int) < 0) = false := decide_eq_false (by omega)
  have n1 : decide (1 + 3 * (T.length : Int) < 0) = false := decide_eq_false (by omega)
  refine Ev.bind hto (Ev.bind hs (Ev.bind hto (Ev.bind hi (Ev.bind he (Ev.no rfl (Ev.no ok1 ?_))))))
  refine Ev.bind hto (Ev.bind heq (Ev.no rfl (Ev.bind hm0 (Ev.no n0 ?_))))
  refine Ev.bind he (Ev.no rfl (Ev.no ok1 (Ev.bind hm (Ev.bind hh (Ev.no n1 (Ev.no (neq_self _) ?_))))))
  exact Ev.bind hto (Ev.bind hi (Ev.bind he (Ev.no rfl (Ev.no ok1 (Ev.bind hh (Ev.no n1 (Ev.no (neq_self _) (Ev.now _))))))))
theorem pure : ∀ d : Dl laws_FnExactPlainAfter.ins, goodL laws_FnExactPlainAfter.ins d → ∃ k, laws_FnExactPlainAfter k d = some true := by
  rintro ⟨⟨rl, sp, x, y, wy⟩, n⟩ hg
  exact main rl sp x y wy n hg.1.1 hg.1.2.1.1
end Go.Proofs.YthobhonnicadaaaDoor.fnExactPlainAfter
