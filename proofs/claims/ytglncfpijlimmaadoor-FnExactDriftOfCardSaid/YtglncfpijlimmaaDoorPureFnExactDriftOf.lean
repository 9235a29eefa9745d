/- The plain law FnExactDriftOf. -/
import Derived.Test.YtglncfpijlimmaaDoorOk
import Derived.Test.YtglncfpijlimmaaDoorPuPlain2
namespace Go.Proofs.YtglncfpijlimmaaDoor.fnExactDriftOf
open Go Go.Proofs Go.Proofs.YtglncfpijlimmaaDoorS
set_option linter.unusedVariables false
set_option linter.unusedSimpArgs false
theorem both (rl : ByteArray) (sp : List Sp) (x y wy n p : Int) (hrl : rl.size ≤ 9223372036854775807) (hsp : sp.length ≤ 1048576) : ∃ v : Int × Int × Bool, Ev (fun k => spec_DriftOf k ((rl, sp, x, y, wy), n, p)) v ∧ Ev (fun k => impl_DriftOf k ((rl, sp, x, y, wy), n, p)) v := by
  have a1 := isRun_ev rl sp x y wy n hsp hrl
  have a2 := enSteps_ev rl sp x y wy n hsp
  by_cases H : PlainOk rl sp x y wy ∧ (0 ≤ n ∧ n ≤ 1000)
  rotate_left
  · exact ⟨(0, 0, false), Ev.step (fun k => spec_DriftOf.eq k rl sp x y wy n p) (Ev.bind (a2.isF H) (Ev.yes rfl (Ev.now _))), Ev.step (fun k => impl_DriftOf.eq k rl sp x y wy n p) (Ev.bind (a1.isF H) (Ev.yes rfl (Ev.now _)))⟩
  have goS : ∀ r, Ev (fun k => (spec_l1In k (p, 0, (w64 (1000 - n)))).bind fun r2 => cond (!r2) (some (0, 0, false)) ((spec_enAfter k ((rl, sp, x, y, wy), n)).bind fun r3 => cond (!r3.2.2) (some (0, 0, false)) ((spec_enAfter k (r3.1, p)).bind fun r4 => cond (!r4.2.2) (some (0, 0, false)) (some ((w64 (r4.1.2.2.1 - r3.1.2.2.1)), (w64 (r4.1.2.2.2.1 - r3.1.2.2.2.1)), true))))) r → Ev (fun k => spec_DriftOf k ((rl, sp, x, y, wy), n, p)) r := fun r hr => Ev.step (fun k => spec_DriftOf.eq k rl sp x y wy n p) (Ev.bind (a2.isT H) (Ev.no rfl hr))
  have goI : ∀ r, Ev (fun k => (impl_within k (p, 0, (w64 (1000 - n)))).bind fun r2 => cond (!r2) (some (0, 0, false)) ((impl_Plain_going k (rl, sp, x, y, wy)).bind fun r3 => (impl_going_run k (r3, n)).bind fun r4 => cond (!r4.1.2) (some (0, 0, false)) ((impl_going_drift k (r4.2, p)).bind fun r5 => cond (!r5.1.2.2.2) (some (0, 0, false)) (some (r5.1.2.1, r5.1.2.2.1, true))))) r → Ev (fun k => impl_DriftOf k ((rl, sp, x, y, wy), n, p)) r := fun r hr => Ev.step (fun k => impl_DriftOf.eq k rl sp x y wy n p) (Ev.bind (a1.isT H) (Ev.no rfl hr))
  obtain ⟨HP, h0, h1⟩ := id H
  have ew : w64 (1000 - n) = 1000 - n := w64_of (by omega) (by omega)
  rw [ew] at goS goI
  by_cases hp : 0 ≤ p ∧ p ≤ 1000 - n
  rotate_left
  · exact ⟨(0, 0, false), goS _ (Ev.bind ((l1In_ev _ _ _).isF hp) (Ev.yes rfl (Ev.now _))), goI _ (Ev.bind ((within_ev _ _ _).isF hp) (Ev.yes rfl (Ev.now _)))⟩
  have i1 := (l1In_ev p 0 (1000 - n)).isT hp
  have i2 := (within_ev p 0 (1000 - n)).isT hp
  obtain ⟨N, rfl⟩ := Int.eq_ofNat_of_zero_le h0
  obtain ⟨P, rfl⟩ := Int.eq_ofNat_of_zero_le hp.1
  have hg := going_ev rl x y wy sp hsp (keys_of HP.2.2.2.2.2)
  rcases run_ev rl N (by omega) sp x y wy _ HP (List.Perm.refl _) with ⟨sp', x', y', wy', g', sg, HP', hg', q1, q2⟩ | ⟨G, q1, q2⟩
  rotate_left
  · exact ⟨(0, 0, false), goS _ (Ev.bind i1 (Ev.no rfl (Ev.bind q1 (Ev.yes rfl (Ev.now _))))), goI _ (Ev.bind i2 (Ev.no rfl (Ev.bind hg (Ev.bind q2 (Ev.yes rfl (Ev.now _))))))⟩
  rcases run_ev rl P (by omega) sp' x' y' wy' g' HP' hg' with ⟨sp2, x2, y2, wy2, g2, sg2, _, _, p1, p2⟩ | ⟨G, p1, p2⟩
  · exact ⟨(w64 (x2 - x'), w64 (y2 - y'), true), goS _ (Ev.bind i1 (Ev.no rfl (Ev.bind q1 (Ev.no rfl (Ev.bind p1 (Ev.no rfl (Ev.now _))))))), goI _ (Ev.bind i2 (Ev.no rfl (Ev.bind hg (Ev.bind q2 (Ev.no rfl (Ev.bind (Ev.step (fun k => impl_going_drift.eq k rl g' x' y' wy' P) (Ev.bind p2 (Ev.now _))) (Ev.no rfl (Ev.now _))))))))⟩
  · exact ⟨(0, 0, false), goS _ (Ev.bind i1 (Ev.no rfl (Ev.bind q1 (Ev.no rfl (Ev.bind p1 (Ev.yes rfl (Ev.now _))))))), goI _ (Ev.bind i2 (Ev.no rfl (Ev.bind hg (Ev.bind q2 (Ev.no rfl (Ev.bind (Ev.step (fun k => impl_going_drift.eq k rl g' x' y' wy' P) (Ev.bind p2 (Ev.now _))) (Ev.yes rfl (Ev.now _))))))))⟩
theorem main (rl : ByteArray) (sp : List Sp) (x y wy n p : Int) (h1 : rl.size ≤ 9223372036854775807) (h2 : sp.length ≤ 9223372036854775807) : ∃ k, laws_FnExactDriftOf k ((rl, sp, x, y, wy), n, p) = some true := by
  refine Ev.rounds (Ev.step (fun k => laws_FnExactDriftOf.eq k rl sp x y wy n p) ?_)
  obtain ⟨r, s1, s2⟩ := szPlain_ev rl sp x y wy h1 h2
  refine Ev.bind s1 (Ev.cond (fun _ => Ev.now _) fun hn => ?_)
  have hl : sp.length ≤ 1048576 := by
    rcases s2 with s2 | s2
    · exact absurd s2 (of_decide_eq_false hn)
    · exact s2
  obtain ⟨⟨v, v', ok⟩, hs, hi⟩ := both rl sp x y wy n p h1 hl
  have hto := toPlain_ev rl sp x y wy hl
  have heq := eqPlain_ev rl sp x y wy hl
  have ok1 : (!(ok == ok)) = false := by cases ok <;> rfl
  exact Ev.bind hto (Ev.bind hs (Ev.bind hto (Ev.bind hi (Ev.no (neq_self _) (Ev.no (neq_self _) (Ev.no ok1 (Ev.bind hto (Ev.bind heq (Ev.no rfl (Ev.now _))))))))))
theorem pure : ∀ d : Dl laws_FnExactDriftOf.ins, goodL laws_FnExactDriftOf.ins d → ∃ k, laws_FnExactDriftOf k d = some true := by
  rintro ⟨⟨rl, sp, x, y, wy⟩, n, p⟩ hg
  exact main rl sp x y wy n p hg.1.1 hg.1.2.1.1
end Go.Proofs.YtglncfpijlimmaaDoor.fnExactDriftOf
