/- The plain law FnExactBestClue. -/
import Derived.Test.YtngfakjifgafeaaDoorOk
import Derived.Test.YtngfakjifgafeaaDoorPuPuz3
namespace Go.Proofs.YtngfakjifgafeaaDoor.fnExactBestClue
open Go Go.Proofs Go.Proofs.YtngfakjifgafeaaDoorS
set_option linter.unusedVariables false
set_option linter.unusedSimpArgs false
theorem sub_ok {rl : ByteArray} {n : Int} {cl l : List Cl} (h : ∀ c ∈ cl, ClueOk rl n c) (hs : ∀ c ∈ l, c ∈ cl) : ∀ c ∈ l, ClueOk rl n c := fun c hc => h c (hs c hc)
theorem both (rl : ByteArray) (w h : Int) (cl : List Cl) (hrl : rl.size ≤ 9223372036854775807) : ∃ (v : Int) (ok : Bool), Ev (fun k => spec_BestClue k (rl, w, h, cl)) (v, ok) ∧ Ev (fun k => impl_BestClue k (rl, w, h, cl)) (v, ok) := by
  have a1 := isPuzzle_ev rl w h cl hrl
  have a2 := pzGood_ev rl w h cl
  by_cases H : PuzOk rl w h cl
  rotate_left
  · exact ⟨0, false, Ev.step (fun k => spec_BestClue.eq k rl w h cl) (Ev.bind (a2.isF H) (Ev.yes rfl (Ev.now _))), Ev.step (fun k => impl_BestClue.eq k rl w h cl) (Ev.bind (a1.isF H) (Ev.yes rfl (Ev.now _)))⟩
  obtain ⟨h1, h2, h3⟩ := id H
  by_cases h0 : cl.length = 0
  · have e0 : ((cl.length : Int) == 0) = true := by rw [beq_iff_eq]; omega
    exact ⟨0, false, Ev.step (fun k => spec_BestClue.eq k rl w h cl) (Ev.bind (a2.isT H) (Ev.no rfl (Ev.yes e0 (Ev.now _)))), Ev.step (fun k => impl_BestClue.eq k rl w h cl) (Ev.bind (a1.isT H) (Ev.no rfl (Ev.yes e0 (Ev.now _))))⟩
  have e0 : ((cl.length : Int) == 0) = false := by rw [beq_eq_false_iff_ne]; omega
  have loop : ∀ (m i : Nat) (best fewest least : Int), i + m = cl.length → (i = 0 ∧ fewest = -1 ∧ least = 0) ∨ (0 < i ∧ fewest = least ∧ 0 ≤ least) → ∃ v, Ev (fun k => spec_BestClue_l k ((rl, w, h, cl), best, least, (cl.length : Int), (i : Int))) v ∧ Ev (fun k => impl_BestClue_l k ((rl, w, h, cl), best, fewest, (cl.length : Int), (i : Int))) v := by
    intro m
    induction m with
    | zero =>
      intro i best fewest least hi _
      exact ⟨best, Ev.step (fun k => spec_BestClue_l.eq k rl w h cl best least (cl.length : Int) (i : Int)) (Ev.no (not_lt_nat (by omega)) (Ev.now _)), Ev.step (fun k => impl_BestClue_l.eq k rl w h cl best fewest (cl.length : Int) (i : Int)) (Ev.no (not_lt_nat (by omega)) (Ev.now _))⟩
    | succ m ih =>
      intro i best fewest least hi hst
      have e1 : w64 ((i : Int) + 1) = ((i + 1 : Nat) : Int) := w64_succ (by omega)
      have hb : (((decide ((0 : Int) ≤ (((i + 1 : Nat) : Int)))) && (decide ((((i + 1 : Nat) : Int)) ≤ (cl.length : Int)))) && ((decide ((0 : Int) ≤ (i : Int))) && (decide ((i : Int) ≤ (((i + 1 : Nat) : Int)))))) = true := by
        rw [decide_eq_true (by omega), decide_eq_true (by omega), decide_eq_true (by omega), decide_eq_true (by omega)]
        rfl
      obtain ⟨sub, hsubE⟩ : ∃ sub, sub = (cl.drop i).take (i + 1 - i) := ⟨_, rfl⟩
      have hsub : ∀ c ∈ sub, ClueOk rl (w * h) c := sub_ok h3 fun c hc => by
        rw [hsubE] at hc
        exact List.mem_of_mem_drop (List.mem_of_mem_take hc)
      have hsl : sub.length ≤ 6 := by rw [hsubE, List.length_take, List.length_drop]; omega
      have wS := pzAll_ev rl w h h1 sub hsl hsub
      have wI := impl_Puzzle_with_ev rl w h h1 sub hsl hsub cl
      have S : ∀ r, Ev (fun k => cond ((i : Int) == 0) (spec_BestClue_l k ((rl, w, h, cl), (i : Int), ((solC rl w h sub).length : Int), (cl.length : Int), ((i + 1 : Nat) : Int))) (cond (decide (((solC rl w h sub).length : Int) < least)) (spec_BestClue_l k ((rl, w, h, cl), (i : Int), ((solC rl w h sub).length : Int), (cl.length : Int), ((i + 1 : Nat) : Int))) (spec_BestClue_l k ((rl, w, h, cl), best, least, (cl.length : Int), ((i + 1 : Nat) : Int))))) r → Ev (fun k => spec_BestClue_l k ((rl, w, h, cl), best, least, (cl.length : Int), (i : Int))) r := fun r Hr => by
        refine Ev.step (fun k => spec_BestClue_l.eq k rl w h cl best least (cl.length : Int) (i : Int)) (Ev.yes (lt_nat (by omega)) ?_)
        rw [e1]
        refine Ev.yes hb ?_
        rw [Int.toNat_natCast, Int.toNat_natCast, ← hsubE]
        exact Ev.bind (Ev.step (fun k => spec_pzWith.eq k rl w h cl sub) (Ev.now _)) (Ev.bind wS Hr)
      have I : ∀ r, Ev (fun k => cond (decide (fewest < 0)) (impl_BestClue_l k ((rl, w, h, cl), (i : Int), ((solC rl w h sub).length : Int), (cl.length : Int), ((i + 1 : Nat) : Int))) (cond (decide (((solC rl w h sub).length : Int) < fewest)) (impl_BestClue_l k ((rl, w, h, cl), (i : Int), ((solC rl w h sub).length : Int), (cl.length : Int), ((i + 1 : Nat) : Int))) (impl_BestClue_l k ((rl, w, h, cl), best, fewest, (cl.length : Int), ((i + 1 : Nat) : Int))))) r → Ev (fun k => impl_BestClue_l k ((rl, w, h, cl), best, fewest, (cl.length : Int), (i : Int))) r := fun r Hr => by
        refine Ev.step (fun k => impl_BestClue_l.eq k rl w h cl best fewest (cl.length : Int) (i : Int)) (Ev.yes (lt_nat (by omega)) ?_)
        rw [e1]
        refine Ev.yes hb ?_
        rw [Int.toNat_natCast, Int.toNat_natCast, ← hsubE]
        exact Ev.bind wI Hr
      have hn : (0 : Int) ≤ ((solC rl w h sub).length : Int) := by omega
      revert S I hn
      generalize ((solC rl w h sub).length : Int) = z
      intro S I hn
      rcases hst with ⟨i0, f0, l0⟩ | ⟨i0, f0, l0⟩
      · obtain ⟨v, v1, v2⟩ := ih (i + 1) (i : Int) z z (by omega) (.inr ⟨by omega, rfl, hn⟩)
        exact ⟨v, S _ (Ev.yes (by rw [beq_iff_eq]; omega) v1), I _ (Ev.yes (decide_eq_true (by omega)) v2)⟩
      · have hi0 : ((i : Int) == 0) = false := by rw [beq_eq_false_iff_ne]; omega
        by_cases hz : z < least
        · obtain ⟨v, v1, v2⟩ := ih (i + 1) (i : Int) z z (by omega) (.inr ⟨by omega, rfl, hn⟩)
          exact ⟨v, S _ (Ev.no hi0 (Ev.yes (decide_eq_true hz) v1)), I _ (Ev.no (decide_eq_false (by omega)) (Ev.yes (decide_eq_true (by omega)) v2))⟩
        · obtain ⟨v, v1, v2⟩ := ih (i + 1) best fewest least (by omega) (.inr ⟨by omega, f0, l0⟩)
          exact ⟨v, S _ (Ev.no hi0 (Ev.no (decide_eq_false hz) v1)), I _ (Ev.no (decide_eq_false (by omega)) (Ev.no (decide_eq_false (by omega)) v2))⟩
  obtain ⟨v, v1, v2⟩ := loop cl.length 0 0 (-1) 0 (by omega) (.inl ⟨rfl, rfl, rfl⟩)
  exact ⟨v, true, Ev.step (fun k => spec_BestClue.eq k rl w h cl) (Ev.bind (a2.isT H) (Ev.no rfl (Ev.no e0 (Ev.bind v1 (Ev.now _))))), Ev.step (fun k => impl_BestClue.eq k rl w h cl) (Ev.bind (a1.isT H) (Ev.no rfl (Ev.no e0 (Ev.bind v2 (Ev.now _)))))⟩
theorem main (rl : ByteArray) (w h : Int) (cl : List Cl) (h1 : rl.size ≤ 9223372036854775807) (h2 : cl.length ≤ 9223372036854775807) : ∃ k, laws_FnExactBestClue k (rl, w, h, cl) = some true := by
  refine Ev.rounds (Ev.step (fun k => laws_FnExactBestClue.eq k rl w h cl) ?_)
  obtain ⟨r, s1, s2⟩ := szPuzzle_ev rl w h cl h1 h2
  refine Ev.bind s1 (Ev.cond (fun _ => Ev.now _) fun hn => ?_)
  have hl : cl.length ≤ 1048576 := by
    rcases s2 with s2 | s2
    · exact absurd s2 (of_decide_eq_false hn)
    · exact s2
  obtain ⟨v, ok, hs, hi⟩ := both rl w h cl h1
  have hto := toPuzzle_ev rl w h cl hl
  have heq := eqPuzzle_ev rl w h cl hl
  have ok1 : (!(ok == ok)) = false := by cases ok <;> rfl
  exact Ev.bind hto (Ev.bind hs (Ev.bind hto (Ev.bind hi (Ev.no (neq_self _) (Ev.no ok1 (Ev.bind hto (Ev.bind heq (Ev.no rfl (Ev.now _)))))))))
theorem pure : ∀ d : Dl laws_FnExactBestClue.ins, goodL laws_FnExactBestClue.ins d → ∃ k, laws_FnExactBestClue k d = some true := by
  rintro ⟨rl, w, h, cl⟩ hg
  exact main rl w h cl hg.1 hg.2.2.2.1
end Go.Proofs.YtngfakjifgafeaaDoor.fnExactBestClue
