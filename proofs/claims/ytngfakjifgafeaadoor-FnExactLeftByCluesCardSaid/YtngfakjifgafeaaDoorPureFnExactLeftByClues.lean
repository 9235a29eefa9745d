/- The plain law FnExactLeftByClues. -/
import Derived.Test.YtngfakjifgafeaaDoorOk
import Derived.Test.YtngfakjifgafeaaDoorPuPuz3
namespace Go.Proofs.YtngfakjifgafeaaDoor.fnExactLeftByClues
open Go Go.Proofs Go.Proofs.YtngfakjifgafeaaDoorS
set_option linter.unusedVariables false
set_option linter.unusedSimpArgs false
theorem both (rl : ByteArray) (w h : Int) (cl : List Cl) (hrl : rl.size ≤ 9223372036854775807) : ∃ (v : List Int) (ok : Bool), v.length ≤ 1048576 ∧ Ev (fun k => spec_LeftByClues k (rl, w, h, cl)) (v, ok) ∧ Ev (fun k => impl_LeftByClues k (rl, w, h, cl)) (v, ok) := by
  have a1 := isPuzzle_ev rl w h cl hrl
  have a2 := pzGood_ev rl w h cl
  by_cases H : PuzOk rl w h cl
  rotate_left
  · exact ⟨[], false, by simp, Ev.step (fun k => spec_LeftByClues.eq k rl w h cl) (Ev.bind (a2.isF H) (Ev.yes rfl (Ev.now _))), Ev.step (fun k => impl_LeftByClues.eq k rl w h cl) (Ev.bind (a1.isF H) (Ev.yes rfl (Ev.now _)))⟩
  obtain ⟨h1, h2, h3⟩ := id H
  have loop : ∀ (m i : Nat) (out : List Int), i + m = cl.length + 1 → out.length ≤ i → ∃ v : List Int, v.length ≤ 1048576 ∧ Ev (fun k => spec_LeftByClues_l k ((rl, w, h, cl), out, (i : Int))) v ∧ Ev (fun k => impl_LeftByClues_l k ((rl, w, h, cl), out, ((cl.length + 1 : Nat) : Int), (i : Int))) v := by
    intro m
    induction m with
    | zero =>
      intro i out hi ho
      exact ⟨out, by omega, Ev.step (fun k => spec_LeftByClues_l.eq k rl w h cl out (i : Int)) (Ev.no (decide_eq_false (by omega)) (Ev.now _)), Ev.step (fun k => impl_LeftByClues_l.eq k rl w h cl out ((cl.length + 1 : Nat) : Int) (i : Int)) (Ev.no (not_lt_nat (by omega)) (Ev.now _))⟩
    | succ m ih =>
      intro i out hi ho
      have hsub : ∀ c ∈ cl.take i, ClueOk rl (w * h) c := fun c hc => h3 c (List.mem_of_mem_take hc)
      have hsl : (cl.take i).length ≤ 6 := by rw [List.length_take]; omega
      have wS := pzAll_ev rl w h h1 (cl.take i) hsl hsub
      have wI := impl_Puzzle_with_ev rl w h h1 (cl.take i) hsl hsub cl
      have hb : ((decide ((0 : Int) ≤ (i : Int))) && (decide ((i : Int) ≤ (cl.length : Int)))) = true := by
        rw [decide_eq_true (by omega), decide_eq_true (by omega)]
        rfl
      obtain ⟨v, v0, v1, v2⟩ := ih (i + 1) (out ++ [((solC rl w h (cl.take i)).length : Int)]) (by omega) (by simp; omega)
      refine ⟨v, v0, ?_, ?_⟩
      · refine Ev.step (fun k => spec_LeftByClues_l.eq k rl w h cl out (i : Int)) (Ev.yes (decide_eq_true (by omega)) (Ev.yes hb ?_))
        rw [Int.toNat_natCast, w64_succ (by omega)]
        exact Ev.bind (Ev.step (fun k => spec_pzWith.eq k rl w h cl (cl.take i)) (Ev.now _)) (Ev.bind wS (Ev.yes (fits_of (by omega)) v1))
      · refine Ev.step (fun k => impl_LeftByClues_l.eq k rl w h cl out ((cl.length + 1 : Nat) : Int) (i : Int)) (Ev.yes (lt_nat (by omega)) (Ev.yes hb ?_))
        rw [Int.toNat_natCast, w64_succ (by omega)]
        exact Ev.bind wI (Ev.yes (fits_of (by omega)) v2)
  obtain ⟨v, v0, v1, v2⟩ := loop (cl.length + 1) 0 [] (by omega) (by simp)
  refine ⟨v, true, v0, Ev.step (fun k => spec_LeftByClues.eq k rl w h cl) (Ev.bind (a2.isT H) (Ev.no rfl (Ev.bind v1 (Ev.now _)))), Ev.step (fun k => impl_LeftByClues.eq k rl w h cl) (Ev.bind (a1.isT H) (Ev.no rfl ?_))⟩
  rw [w64_succ (by omega)]
  exact Ev.bind v2 (Ev.now _)
theorem main (rl : ByteArray) (w h : Int) (cl : List Cl) (h1 : rl.size ≤ 9223372036854775807) (h2 : cl.length ≤ 9223372036854775807) : ∃ k, laws_FnExactLeftByClues k (rl, w, h, cl) = some true := by
  refine Ev.rounds (Ev.step (fun k => laws_FnExactLeftByClues.eq k rl w h cl) ?_)
  obtain ⟨r, s1, s2⟩ := szPuzzle_ev rl w h cl h1 h2
  refine Ev.bind s1 (Ev.cond (fun _ => Ev.now _) fun hn => ?_)
  have hl : cl.length ≤ 1048576 := by
    rcases s2 with s2 | s2
    · exact absurd s2 (of_decide_eq_false hn)
    · exact s2
  obtain ⟨v, ok, hv, hs, hi⟩ := both rl w h cl h1
  have hto := toPuzzle_ev rl w h cl hl
  have heq := eqPuzzle_ev rl w h cl hl
  have ok1 : (!(ok == ok)) = false := by cases ok <;> rfl
  have he := eqIntS_ev v hv
  obtain ⟨M0, hm0⟩ := markPuzzle_ev rl w h cl hl
  obtain ⟨M, hm, hh⟩ := markIntS_ev v hv
  have n0 : decide (1 + 3 * (cl.length : Int) < 0) = false := decide_eq_false (by omega)
  have n1 : decide (1 + (v.length : Int) < 0) = false := decide_eq_false (by omega)
  refine Ev.bind hto (Ev.bind hs (Ev.bind hto (Ev.bind hi (Ev.bind he (Ev.no rfl (Ev.no ok1 ?_))))))
  refine Ev.bind hto (Ev.bind heq (Ev.no rfl (Ev.bind hm0 (Ev.no n0 ?_))))
  refine Ev.bind he (Ev.no rfl (Ev.no ok1 (Ev.bind hm (Ev.bind hh (Ev.no n1 (Ev.no (neq_self _) ?_))))))
  exact Ev.bind hto (Ev.bind hi (Ev.bind he (Ev.no rfl (Ev.no ok1 (Ev.bind hh (Ev.no n1 (Ev.no (neq_self _) (Ev.now _))))))))
theorem pure : ∀ d : Dl laws_FnExactLeftByClues.ins, goodL laws_FnExactLeftByClues.ins d → ∃ k, laws_FnExactLeftByClues k d = some true := by
  rintro ⟨rl, w, h, cl⟩ hg
  exact main rl w h cl hg.1 hg.2.2.2.1
end Go.Proofs.YtngfakjifgafeaaDoor.fnExactLeftByClues
