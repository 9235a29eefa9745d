/- The plain law FnExactNeedlessClues. -/
import Derived.Test.YthobhonnicadaaaDoorOk
import Derived.Test.YthobhonnicadaaaDoorPuDrop
namespace Go.Proofs.YthobhonnicadaaaDoor.fnExactNeedlessClues
open Go Go.Proofs Go.Proofs.YthobhonnicadaaaDoorS
set_option linter.unusedVariables false
set_option linter.unusedSimpArgs false
theorem both (rl : ByteArray) (w h : Int) (cl : List Cl) (hrl : rl.size ≤ 9223372036854775807) : ∃ (v : List Int) (ok : Bool), v.length ≤ 1048576 ∧ Ev (fun k => spec_NeedlessClues k (rl, w, h, cl)) (v, ok) ∧ Ev (fun k => impl_NeedlessClues k (rl, w, h, cl)) (v, ok) := by
  rcases solutions_ev rl w h cl hrl with ⟨H, hsl, q1, q2, q3⟩ | ⟨H, q1, q2⟩
  rotate_left
  · exact ⟨[], false, by simp, Ev.step (fun k => spec_NeedlessClues.eq k rl w h cl) (Ev.bind q2 (Ev.yes rfl (Ev.now _))), Ev.step (fun k => impl_NeedlessClues.eq k rl w h cl) (Ev.bind (Ev.step (fun k => impl_CountSolutions.eq k rl w h cl) (Ev.bind q1 (Ev.now _))) (Ev.yes rfl (Ev.now _)))⟩
  obtain ⟨h1, h2, h3⟩ := id H
  have fin : ∀ many : Int, ∃ v : List Int, v.length ≤ 1048576 ∧ Ev (fun k => spec_NeedlessClues_l k ((rl, w, h, cl), [], many, (cl.length : Int), 0)) v ∧ Ev (fun k => impl_NeedlessClues_l k ((rl, w, h, cl), many, [], (cl.length : Int), 0)) v := by
   intro many
   have loop : ∀ (m i : Nat) (out : List Int), i + m = cl.length → out.length ≤ i → ∃ v : List Int, v.length ≤ 1048576 ∧ Ev (fun k => spec_NeedlessClues_l k ((rl, w, h, cl), out, many, (cl.length : Int), (i : Int))) v ∧ Ev (fun k => impl_NeedlessClues_l k ((rl, w, h, cl), many, out, (cl.length : Int), (i : Int))) v := by
     intro m
     induction m with
     | zero =>
       intro i out hi ho
       exact ⟨out, by omega, Ev.step (fun k => spec_NeedlessClues_l.eq k rl w h cl out many (cl.length : Int) (i : Int)) (Ev.no (not_lt_nat (by omega)) (Ev.now _)), Ev.step (fun k => impl_NeedlessClues_l.eq k rl w h cl many out (cl.length : Int) (i : Int)) (Ev.no (not_lt_nat (by omega)) (Ev.now _))⟩
     | succ m ih =>
       intro i out hi ho
       have hn : i < cl.length := by omega
       have hwl := woC_len hn
       have hsub : ∀ c ∈ woC cl i, ClueOk rl (w * h) c := fun c hc => h3 c (woC_mem hc)
       have wS := pzAll_ev rl w h h1 (woC cl i) (by omega) hsub
       have wI := impl_Puzzle_with_ev rl w h h1 (woC cl i) (by omega) hsub cl
       have pS := pzWithout_ev cl (by omega) i hn
       have pI := dropped_ev cl (by omega) i hn
       have goS : ∀ r, Ev (fun k => cond (((solC rl w h (woC cl i)).length : Int) == many) (cond (fits (out.length + 1) 8) (spec_NeedlessClues_l k ((rl, w, h, cl), out ++ [(i : Int)], many, (cl.length : Int), ((i + 1 : Nat) : Int))) none) (spec_NeedlessClues_l k ((rl, w, h, cl), out, many, (cl.length : Int), ((i + 1 : Nat) : Int)))) r → Ev (fun k => spec_NeedlessClues_l k ((rl, w, h, cl), out, many, (cl.length : Int), (i : Int))) r := fun r hr => by
         refine Ev.step (fun k => spec_NeedlessClues_l.eq k rl w h cl out many (cl.length : Int) (i : Int)) (Ev.yes (lt_nat hn) (Ev.bind pS (Ev.bind (Ev.step (fun k => spec_pzWith.eq k rl w h cl (woC cl i)) (Ev.now _)) (Ev.bind wS ?_))))
         rw [w64_succ (by omega)]
         exact hr
       have goI : ∀ r, Ev (fun k => cond (((solC rl w h (woC cl i)).length : Int) == many) (cond (fits (out.length + 1) 8) (impl_NeedlessClues_l k ((rl, w, h, cl), many, out ++ [(i : Int)], (cl.length : Int), ((i + 1 : Nat) : Int))) none) (impl_NeedlessClues_l k ((rl, w, h, cl), many, out, (cl.length : Int), ((i + 1 : Nat) : Int)))) r → Ev (fun k => impl_NeedlessClues_l k ((rl, w, h, cl), many, out, (cl.length : Int), (i : Int))) r := fun r hr => by
         refine Ev.step (fun k => impl_NeedlessClues_l.eq k rl w h cl many out (cl.length : Int) (i : Int)) (Ev.yes (lt_nat hn) (Ev.bind pI (Ev.bind wI ?_)))
         rw [w64_succ (by omega)]
         exact hr
       have hf : fits (out.length + 1) 8 = true := fits_of (by omega)
       cases hc : (((solC rl w h (woC cl i)).length : Int) == many) with
       | true =>
         obtain ⟨v, v0, v1, v2⟩ := ih (i + 1) (out ++ [(i : Int)]) (by omega) (by simp; omega)
         exact ⟨v, v0, goS _ (Ev.yes hc (Ev.yes hf v1)), goI _ (Ev.yes hc (Ev.yes hf v2))⟩
       | false =>
         obtain ⟨v, v0, v1, v2⟩ := ih (i + 1) out (by omega) (by omega)
         exact ⟨v, v0, goS _ (Ev.no hc v1), goI _ (Ev.no hc v2)⟩
   exact loop cl.length 0 [] (by omega) (by simp)
  obtain ⟨v, v0, v1, v2⟩ := fin ((solC rl w h cl).length : Int)
  exact ⟨v, true, v0, Ev.step (fun k => spec_NeedlessClues.eq k rl w h cl) (Ev.bind q2 (Ev.no rfl (Ev.bind q3 (Ev.bind v1 (Ev.now _))))), Ev.step (fun k => impl_NeedlessClues.eq k rl w h cl) (Ev.bind (Ev.step (fun k => impl_CountSolutions.eq k rl w h cl) (Ev.bind q1 (Ev.now _))) (Ev.no rfl (Ev.bind v2 (Ev.now _))))⟩
theorem main (rl : ByteArray) (w h : Int) (cl : List Cl) (h1 : rl.size ≤ 9223372036854775807) (h2 : cl.length ≤ 9223372036854775807) : ∃ k, laws_FnExactNeedlessClues k (rl, w, h, cl) = some true := by
  refine Ev.rounds (Ev.step (fun k => laws_FnExactNeedlessClues.eq k rl w h cl) ?_)
  obtain ⟨r, s1, s2⟩ := szPuzzle_ev rl w h cl h1 h2
  refine Ev.bind s1 (Ev.cond (fun _ => Ev.now _) fun hn => ?_)
  have hl : cl.length ≤ 1048576 := by
    rcases s2 with s2 | s2
    · exact absurd s2 (of_decide_eq_false hn)
    · exact s2
  obtain ⟨v, ok, hv, hs, hi⟩ := both rl w h cl h1
  have hto := toPuzzle_ev rl w h cl hl
  have heq := eqPuzzle_ev rl w h cl hl
  have ok1 : (!(ok == ok)) = false := by cases ok <;> rfl
  have he := eqIntS_ev v hv
  obtain ⟨M0, hm0⟩ := markPuzzle_ev rl w h cl hl
  obtain ⟨M, hm, hh⟩ := markIntS_ev v hv
  have n0 : decide (1 + 3 * (cl.length : Int) < 0) = false := decide_eq_false (by omega)
  have n1 : decide (1 + (v.length : Int) < 0) = false := decide_eq_false (by omega)
  refine Ev.bind hto (Ev.bind hs (Ev.bind hto (Ev.bind hi (Ev.bind he (Ev.no rfl (Ev.no ok1 ?_))))))
  refine Ev.bind hto (Ev.bind heq (Ev.no rfl (Ev.bind hm0 (Ev.no n0 ?_))))
  refine Ev.bind he (Ev.no rfl (Ev.no ok1 (Ev.bind hm (Ev.bind hh (Ev.no n1 (Ev.no (neq_self _) ?_))))))
  exact Ev.bind hto (Ev.bind hi (Ev.bind he (Ev.no rfl (Ev.no ok1 (Ev.bind hh (Ev.no n1 (Ev.no (neq_self _) (Ev.now _))))))))
theorem pure : ∀ d : Dl laws_FnExactNeedlessClues.ins, goodL laws_FnExactNeedlessClues.ins d → ∃ k, laws_FnExactNeedlessClues k d = some true := by
  rintro ⟨rl, w, h, cl⟩ hg
  exact main rl w h cl hg.1 hg.2.2.2.1
end Go.Proofs.YthobhonnicadaaaDoor.fnExactNeedlessClues
