/- The plain law FnExactTurnsOfPlain. -/
import Derived.Test.YtglncfpijlimmaaDoorOk
import Derived.Test.YtglncfpijlimmaaDoorPuPlain2
namespace Go.Proofs.YtglncfpijlimmaaDoor.fnExactTurnsOfPlain
open Go Go.Proofs Go.Proofs.YtglncfpijlimmaaDoorS
set_option linter.unusedVariables false
set_option linter.unusedSimpArgs false
theorem both (rl : ByteArray) (sp : List Sp) (x y wy n : Int) (hrl : rl.size ≤ 9223372036854775807) (hsp : sp.length ≤ 1048576) : ∃ v : ByteArray × Bool, Ev (fun k => spec_TurnsOfPlain k ((rl, sp, x, y, wy), n)) v ∧ Ev (fun k => impl_TurnsOfPlain k ((rl, sp, x, y, wy), n)) v := by
  have a1 := isRun_ev rl sp x y wy n hsp hrl
  have a2 := enSteps_ev rl sp x y wy n hsp
  by_cases H : PlainOk rl sp x y wy ∧ (0 ≤ n ∧ n ≤ 1000)
  rotate_left
  · exact ⟨(ByteArray.empty, false), Ev.step (fun k => spec_TurnsOfPlain.eq k rl sp x y wy n) (Ev.bind (a2.isF H) (Ev.yes rfl (Ev.now _))), Ev.step (fun k => impl_TurnsOfPlain.eq k rl sp x y wy n) (Ev.bind (a1.isF H) (Ev.yes rfl (Ev.now _)))⟩
  obtain ⟨HP, h0, h1⟩ := id H
  obtain ⟨N, rfl⟩ := Int.eq_ofNat_of_zero_le h0
  have hg := going_ev rl x y wy sp hsp (keys_of HP.2.2.2.2.2)
  rcases run_ev rl N (by omega) sp x y wy _ HP (List.Perm.refl _) with ⟨sp', x', y', wy', g', sg, _, _, q1, q2⟩ | ⟨G, q1, q2⟩
  · exact ⟨(sg, true), Ev.step (fun k => spec_TurnsOfPlain.eq k rl sp x y wy N) (Ev.bind (a2.isT H) (Ev.no rfl (Ev.bind q1 (Ev.now _)))), Ev.step (fun k => impl_TurnsOfPlain.eq k rl sp x y wy N) (Ev.bind (a1.isT H) (Ev.no rfl (Ev.bind hg (Ev.bind q2 (Ev.now _)))))⟩
  · exact ⟨(ByteArray.empty, false), Ev.step (fun k => spec_TurnsOfPlain.eq k rl sp x y wy N) (Ev.bind (a2.isT H) (Ev.no rfl (Ev.bind q1 (Ev.now _)))), Ev.step (fun k => impl_TurnsOfPlain.eq k rl sp x y wy N) (Ev.bind (a1.isT H) (Ev.no rfl (Ev.bind hg (Ev.bind q2 (Ev.now _)))))⟩
theorem main (rl : ByteArray) (sp : List Sp) (x y wy n : Int) (h1 : rl.size ≤ 9223372036854775807) (h2 : sp.length ≤ 9223372036854775807) : ∃ k, laws_FnExactTurnsOfPlain k ((rl, sp, x, y, wy), n) = some true := by
  refine Ev.rounds (Ev.step (fun k => laws_FnExactTurnsOfPlain.eq k rl sp x y wy n) ?_)
  obtain ⟨r, s1, s2⟩ := szPlain_ev rl sp x y wy h1 h2
  refine Ev.bind s1 (Ev.cond (fun _ => Ev.now _) fun hn => ?_)
  have hl : sp.length ≤ 1048576 := by
    rcases s2 with s2 | s2
    · exact absurd s2 (of_decide_eq_false hn)
    · exact s2
  obtain ⟨⟨v, ok⟩, hs, hi⟩ := both rl sp x y wy n h1 hl
  have hto := toPlain_ev rl sp x y wy hl
  have heq := eqPlain_ev rl sp x y wy hl
  have ok1 : (!(ok == ok)) = false := by cases ok <;> rfl
  exact Ev.bind hto (Ev.bind hs (Ev.bind hto (Ev.bind hi (Ev.no (by rw [strEq_self]; rfl) (Ev.no ok1 (Ev.bind hto (Ev.bind heq (Ev.no rfl (Ev.now _)))))))))
theorem pure : ∀ d : Dl laws_FnExactTurnsOfPlain.ins, goodL laws_FnExactTurnsOfPlain.ins d → ∃ k, laws_FnExactTurnsOfPlain k d = some true := by
  rintro ⟨⟨rl, sp, x, y, wy⟩, n⟩ hg
  exact main rl sp x y wy n hg.1.1 hg.1.2.1.1
end Go.Proofs.YtglncfpijlimmaaDoor.fnExactTurnsOfPlain
