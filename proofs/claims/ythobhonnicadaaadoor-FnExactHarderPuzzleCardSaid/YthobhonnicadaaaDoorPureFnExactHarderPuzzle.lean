/- The plain law FnExactHarderPuzzle. -/
import Derived.Test.YthobhonnicadaaaDoorOk
import Derived.Test.YthobhonnicadaaaDoorPuDrop
namespace Go.Proofs.YthobhonnicadaaaDoor.fnExactHarderPuzzle
open Go Go.Proofs Go.Proofs.YthobhonnicadaaaDoorS
set_option linter.unusedVariables false
set_option linter.unusedSimpArgs false
theorem loop (rl : ByteArray) (w h : Int) (h1 : SizeOk rl w h) (cl : List Cl) (t : ByteArray × Int × Int × List Cl) : ∀ (m i : Nat) (q : List Cl), q.length + (q.length - i) ≤ m → q.length ≤ 6 → (∀ c ∈ q, ClueOk rl (w * h) c) →
    ∃ P : List Cl, P.length ≤ 6 ∧ Ev (fun k => spec_HarderPuzzle_l k ((rl, w, h, cl), t, q, (i : Int))) ((rl, w, h, cl), t, P) ∧ Ev (fun k => impl_HarderPuzzle_l k ((rl, w, h, cl), t, q, (i : Int))) ((rl, w, h, cl), t, P)
  | 0, i, q, hm, hq, hok => by
    have h0 : q.length = 0 := by omega
    exact ⟨q, hq, Ev.step (fun k => spec_HarderPuzzle_l.eq k rl w h cl t.1 t.2.1 t.2.2.1 t.2.2.2 q (i : Int)) (Ev.no (decide_eq_false (by omega)) (Ev.now _)), Ev.step (fun k => impl_HarderPuzzle_l.eq k rl w h cl t.1 t.2.1 t.2.2.1 t.2.2.2 q (i : Int)) (Ev.no (decide_eq_false (by omega)) (Ev.now _))⟩
  | m + 1, i, q, hm, hq, hok => by
    by_cases hi : i < q.length
    rotate_left
    · exact ⟨q, hq, Ev.step (fun k => spec_HarderPuzzle_l.eq k rl w h cl t.1 t.2.1 t.2.2.1 t.2.2.2 q (i : Int)) (Ev.no (decide_eq_false (by omega)) (Ev.now _)), Ev.step (fun k => impl_HarderPuzzle_l.eq k rl w h cl t.1 t.2.1 t.2.2.1 t.2.2.2 q (i : Int)) (Ev.no (decide_eq_false (by omega)) (Ev.now _))⟩
    have hwl := woC_len hi
    have hsub : ∀ c ∈ woC q i, ClueOk rl (w * h) c := fun c hc => hok c (woC_mem hc)
    have wS := pzAll_ev rl w h h1 (woC q i) (by omega) hsub
    have wI := impl_Puzzle_with_ev rl w h h1 (woC q i) (by omega) hsub cl
    have pS := pzWithout_ev q (by omega) i hi
    have pI := dropped_ev q (by omega) i hi
    have sS : Ev (fun k => spec_pzSolved_2 k ((rl, w, h, cl), woC q i)) (((solC rl w h (woC q i)).length : Int) == 1) := Ev.step (fun k => spec_pzSolved_2.eq k rl w h cl (woC q i)) (Ev.bind (Ev.step (fun k => spec_pzWith.eq k rl w h cl (woC q i)) (Ev.now _)) (Ev.bind wS (Ev.now _)))
    cases hc : (((solC rl w h (woC q i)).length : Int) == 1) with
    | true =>
      obtain ⟨P, hP, g1, g2⟩ := loop rl w h h1 cl t m i (woC q i) (by omega) (by omega) hsub
      exact ⟨P, hP, Ev.step (fun k => spec_HarderPuzzle_l.eq k rl w h cl t.1 t.2.1 t.2.2.1 t.2.2.2 q (i : Int)) (Ev.yes (lt_nat hi) (Ev.bind pS (Ev.bind sS (Ev.yes hc g1)))), Ev.step (fun k => impl_HarderPuzzle_l.eq k rl w h cl t.1 t.2.1 t.2.2.1 t.2.2.2 q (i : Int)) (Ev.yes (lt_nat hi) (Ev.bind pI (Ev.bind wI (Ev.yes hc g2))))⟩
    | false =>
      obtain ⟨P, hP, g1, g2⟩ := loop rl w h h1 cl t m (i + 1) q (by omega) hq hok
      have e1 : w64 ((i : Int) + 1) = ((i + 1 : Nat) : Int) := w64_succ (by omega)
      refine ⟨P, hP, Ev.step (fun k => spec_HarderPuzzle_l.eq k rl w h cl t.1 t.2.1 t.2.2.1 t.2.2.2 q (i : Int)) (Ev.yes (lt_nat hi) (Ev.bind pS (Ev.bind sS (Ev.no hc ?_)))), Ev.step (fun k => impl_HarderPuzzle_l.eq k rl w h cl t.1 t.2.1 t.2.2.1 t.2.2.2 q (i : Int)) (Ev.yes (lt_nat hi) (Ev.bind pI (Ev.bind wI (Ev.no hc ?_))))⟩
      · rw [e1]; exact g1
      · rw [e1]; exact g2
theorem both (rl : ByteArray) (w h : Int) (cl : List Cl) (hrl : rl.size ≤ 9223372036854775807) : ∃ (rl' : ByteArray) (w' h' : Int) (P : List Cl) (ok : Bool), P.length ≤ 6 ∧ Ev (fun k => spec_HarderPuzzle k (rl, w, h, cl)) ((rl', w', h', P), ok) ∧ Ev (fun k => impl_HarderPuzzle k (rl, w, h, cl)) ((rl', w', h', P), ok) := by
  have cI : ∀ {v : List ByteArray} {ok : Bool}, Ev (fun k => impl_Solutions k (rl, w, h, cl)) (v, ok) → Ev (fun k => impl_IsSolved k (rl, w, h, cl)) (((v.length : Int) == 1), ok) := fun {v ok} q => Ev.step (fun k => impl_IsSolved.eq k rl w h cl) (Ev.bind (Ev.step (fun k => impl_CountSolutions.eq k rl w h cl) (Ev.bind q (Ev.now _))) (Ev.now _))
  rcases solutions_ev rl w h cl hrl with ⟨H, hsl, q1, q2, q3⟩ | ⟨H, q1, q2⟩
  rotate_left
  · exact ⟨ByteArray.empty, 0, 0, [], false, by simp, Ev.step (fun k => spec_HarderPuzzle.eq k rl w h cl) (Ev.bind q2 (Ev.yes rfl (Ev.now _))), Ev.step (fun k => impl_HarderPuzzle.eq k rl w h cl) (Ev.bind (cI q1) (Ev.yes rfl (Ev.now _)))⟩
  obtain ⟨h1, h2, h3⟩ := id H
  have sS : Ev (fun k => spec_pzSolved k ((rl, w, h, cl), ())) (((solC rl w h cl).length : Int) == 1) := Ev.step (fun k => spec_pzSolved.eq k rl w h cl) (Ev.bind (Ev.step (fun k => spec_pzWith_2.eq k rl w h cl) (Ev.now _)) (Ev.bind q3 (Ev.now _)))
  cases hc : (((solC rl w h cl).length : Int) == 1) with
  | false => exact ⟨ByteArray.empty, 0, 0, [], false, by simp, Ev.step (fun k => spec_HarderPuzzle.eq k rl w h cl) (Ev.bind q2 (Ev.no rfl (Ev.bind sS (Ev.yes (by rw [hc]; rfl) (Ev.now _))))), Ev.step (fun k => impl_HarderPuzzle.eq k rl w h cl) (Ev.bind (cI q1) (Ev.yes (by rw [hc]; rfl) (Ev.now _)))⟩
  | true =>
    obtain ⟨P, hP, g1, g2⟩ := loop rl w h h1 cl (ByteArray.empty, 0, 0, []) 100 0 cl (by omega) h2 h3
    have hcl : Ev (fun k => slices_Clone k cl) cl := Ev.step (fun k => (slices_Clone.eq k cl).trans (cloneB_some (s := .pair (.int .i64) (.pair (.int .i64) (.int .i64))) 24 cl (by show List.length (α := Cl) cl * 24 ≤ _; omega))) (Ev.now _)
    exact ⟨rl, w, h, P, true, hP, Ev.step (fun k => spec_HarderPuzzle.eq k rl w h cl) (Ev.bind q2 (Ev.no rfl (Ev.bind sS (Ev.no (by rw [hc]; rfl) (Ev.yes (fits_of (by omega)) (Ev.bind g1 (Ev.bind (Ev.step (fun k => spec_pzWith.eq k rl w h cl P) (Ev.now _)) (Ev.now _)))))))), Ev.step (fun k => impl_HarderPuzzle.eq k rl w h cl) (Ev.bind (cI q1) (Ev.no (by rw [hc]; rfl) (Ev.bind hcl (Ev.bind g2 (Ev.bind (Ev.step (fun k => impl_Puzzle_changed.eq k rl w h cl P) (Ev.now _)) (Ev.now _))))))⟩
theorem main (rl : ByteArray) (w h : Int) (cl : List Cl) (h1 : rl.size ≤ 9223372036854775807) (h2 : cl.length ≤ 9223372036854775807) : ∃ k, laws_FnExactHarderPuzzle k (rl, w, h, cl) = some true := by
  refine Ev.rounds (Ev.step (fun k => laws_FnExactHarderPuzzle.eq k rl w h cl) ?_)
  obtain ⟨r, s1, s2⟩ := szPuzzle_ev rl w h cl h1 h2
  refine Ev.bind s1 (Ev.cond (fun _ => Ev.now _) fun hn => ?_)
  have hl : cl.length ≤ 1048576 := by
    rcases s2 with s2 | s2
    · exact absurd s2 (of_decide_eq_false hn)
    · exact s2
  obtain ⟨rl', w', h', P, ok, hP, hs, hi⟩ := both rl w h cl h1
  have hto := toPuzzle_ev rl w h cl hl
  have heq := eqPuzzle_ev rl w h cl hl
  have ok1 : (!(ok == ok)) = false := by cases ok <;> rfl
  have he := eqPuzzle_ev rl' w' h' P (by omega)
  obtain ⟨M0, hm0⟩ := markPuzzle_ev rl w h cl hl
  obtain ⟨M, hm, hh⟩ := markHeld_ev rl' w' h' P (by omega)
  have n0 : decide (1 + 3 * (cl.length : Int) < 0) = false := decide_eq_false (by omega)
  have n1 : decide (1 + 3 * (P.length : Int) < 0) = false := decide_eq_false (by omega)
  refine Ev.bind hto (Ev.bind hs (Ev.bind hto (Ev.bind hi (Ev.bind he (Ev.no rfl (Ev.no ok1 ?_))))))
  refine Ev.bind hto (Ev.bind heq (Ev.no rfl (Ev.bind hm0 (Ev.no n0 ?_))))
  refine Ev.bind he (Ev.no rfl (Ev.no ok1 (Ev.bind hm (Ev.bind hh (Ev.no n1 (Ev.no (neq_self _) ?_))))))
  exact Ev.bind hto (Ev.bind hi (Ev.bind he (Ev.no rfl (Ev.no ok1 (Ev.bind hh (Ev.no n1 (Ev.no (neq_self _) (Ev.now _))))))))
theorem pure : ∀ d : Dl laws_FnExactHarderPuzzle.ins, goodL laws_FnExactHarderPuzzle.ins d → ∃ k, laws_FnExactHarderPuzzle k d = some true := by
  rintro ⟨rl, w, h, cl⟩ hg
  exact main rl w h cl hg.1 hg.2.2.2.1
end Go.Proofs.YthobhonnicadaaaDoor.fnExactHarderPuzzle
