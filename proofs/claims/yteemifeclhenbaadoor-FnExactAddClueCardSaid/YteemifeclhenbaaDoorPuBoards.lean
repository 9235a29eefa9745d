import Derived.Test.YteemifeclhenbaaDoorPuRule
import Derived.Test.YteemifeclhenbaaDoorP1
import Derived.Test.YteemifeclhenbaaDoorP1
/- How many boards there are: the program's and the reference's answer alike. -/
namespace Go.Proofs.YteemifeclhenbaaDoor.P
open Go.RowKit Go.Proofs.YteemifeclhenbaaDoorW.PrintWords Go.Proofs.YteemifeclhenbaaDoorW.PrintLast Go.Proofs.YteemifeclhenbaaDoorW.PrintMore
open Go.Proofs.YteemifeclhenbaaDoor.B
set_option linter.unusedVariables false
set_option linter.unusedSimpArgs false
theorem pow_step (n : Nat) (j : Nat) : (n : Int) ^ j * (n : Int) = (n : Int) ^ (j + 1) := (Int.pow_succ _ _).symm
theorem pow_mono (n : Nat) (hn : 1 ≤ n) (i : Nat) : ∀ d, (n : Int) ^ i ≤ (n : Int) ^ (i + d)
  | 0 => Int.le_refl _
  | d + 1 => by
    have h := pow_mono n hn i d
    rw [← Nat.add_assoc, Int.pow_succ]
    have hp : (0 : Int) ≤ (n : Int) ^ (i + d) := by have : (0 : Int) ≤ (n : Int) := by omega
                                                    exact Int.pow_nonneg this
    calc (n : Int) ^ i ≤ (n : Int) ^ (i + d) := h
      _ = (n : Int) ^ (i + d) * 1 := (Int.mul_one _).symm
      _ ≤ (n : Int) ^ (i + d) * (n : Int) := Int.mul_le_mul_of_nonneg_left (by omega) hp
theorem small_mul {a n : Int} (h0 : 0 ≤ a) (h1 : a ≤ 301) (h2 : 1 ≤ n) (h3 : n ≤ 6) : 0 ≤ a * n ∧ a * n ≤ 1806 := by
  refine ⟨Int.mul_nonneg h0 (by omega), ?_⟩
  calc a * n ≤ 301 * n := Int.mul_le_mul_of_nonneg_right h1 (by omega)
    _ ≤ 301 * 6 := Int.mul_le_mul_of_nonneg_left h3 (by decide)
theorem pzPower_loop (r : ByteArray) (c : Nat) (hn : 1 ≤ r.size) (hn6 : r.size ≤ 6) (hc : c ≤ 9) (d : Nat) : ∀ j : Nat, c - j = d → j ≤ c → (r.size : Int) ^ j ≤ 300 →
    Ev (fun k => spec_pzPower.l0 k r ((c - j : Nat) : Int) ((r.size : Int) ^ j)) (if (r.size : Int) ^ c ≤ 300 then (r.size : Int) ^ c else 0) := by
  induction d with
  | zero =>
    intro j hd hj hp
    have e : j = c := by omega
    subst e
    rw [if_pos hp]
    refine Ev.step (f := fun _ => some ((r.size : Int) ^ j)) (fun k => ?_) (Ev.now _)
    simp only [spec_pzPower.l0]
    rw [if_neg (by omega)]
  | succ d ih =>
    intro j hd hj hp
    have h0 : (0 : Int) ≤ (r.size : Int) ^ j := Int.pow_nonneg (by omega)
    have hm := small_mul h0 (by omega) (show (1 : Int) ≤ (r.size : Int) by omega) (by omega)
    have hw : wrap64 ((r.size : Int) ^ j * (r.size : Int)) = (r.size : Int) ^ (j + 1) := by rw [w64 (by omega) (by omega), pow_step]
    have hw2 : wrap64 (((c - j : Nat) : Int) - 1) = ((c - (j + 1) : Nat) : Int) := by rw [w64 (by omega) (by omega)]; omega
    refine Ev.step (f := fun k => if (r.size : Int) ^ (j + 1) > 300 then some 0 else spec_pzPower.l0 k r ((c - (j + 1) : Nat) : Int) ((r.size : Int) ^ (j + 1))) (fun k => ?_) ?_
    · simp only [spec_pzPower.l0]
      rw [if_pos (by omega), hw, hw2]
    · refine Ev.ite (fun h => ?_) (fun h => ?_)
      · have hh := pow_mono r.size hn (j + 1) (c - (j + 1))
        rw [show j + 1 + (c - (j + 1)) = c by omega] at hh
        rw [if_neg (by omega)]
        exact Ev.now _
      · exact ih (j + 1) (by omega) (by omega) (by omega)
theorem boards_loop (n c : Nat) (hn : 1 ≤ n) (hn6 : n ≤ 6) (hc : c ≤ 9) (d : Nat) : ∀ j : Nat, c - j = d → j ≤ c →
    Ev (fun k => impl_boards.l0 k (n : Int) 300 (mn ((n : Int) ^ j) 301) (c : Int) (j : Int)) (mn ((n : Int) ^ c) 301) := by
  induction d with
  | zero =>
    intro j hd hj
    have e : j = c := by omega
    subst e
    refine Ev.step (f := fun _ => some (mn ((n : Int) ^ j) 301)) (fun k => ?_) (Ev.now _)
    simp only [impl_boards.l0]
    rw [if_neg (by omega)]
  | succ d ih =>
    intro j hd hj
    have h0 : (0 : Int) ≤ (n : Int) ^ j := Int.pow_nonneg (by omega)
    have hmn : 0 ≤ mn ((n : Int) ^ j) 301 ∧ mn ((n : Int) ^ j) 301 ≤ 301 := by unfold mn; split <;> omega
    have hm := small_mul hmn.1 hmn.2 (show (1 : Int) ≤ (n : Int) by omega) (by omega)
    have hw2 : wrap64 ((j : Int) + 1) = ((j + 1 : Nat) : Int) := by rw [w64 (by omega) (by omega)]; rfl
    have e : mn (wrap64 (mn ((n : Int) ^ j) 301 * (n : Int))) (wrap64 (300 + 1)) = mn ((n : Int) ^ (j + 1)) 301 := by
      rw [w64 (by omega) (by omega), show wrap64 (300 + 1) = 301 by rw [w64 (by decide) (by decide)]; rfl, ← pow_step]
      by_cases hp : (n : Int) ^ j ≤ 301
      · rw [show mn ((n : Int) ^ j) 301 = (n : Int) ^ j by unfold mn; rw [if_neg (by omega)]]
      · rw [show mn ((n : Int) ^ j) 301 = 301 by unfold mn; rw [if_pos (by omega)]]
        have h1 : (301 : Int) ≤ 301 * (n : Int) := by omega
        have h2 : 301 * (n : Int) ≤ (n : Int) ^ j * (n : Int) := Int.mul_le_mul_of_nonneg_right (by omega) (by omega)
        unfold mn
        split <;> split <;> omega
    refine Ev.step (f := fun k => impl_boards.l0 k (n : Int) 300 (mn ((n : Int) ^ (j + 1)) 301) (c : Int) ((j + 1 : Nat) : Int)) (fun k => ?_) (ih (j + 1) (by omega) (by omega))
    simp only [impl_boards.l0]
    rw [if_pos (by omega), e, hw2]
theorem specPower_ev (r : ByteArray) (c : Nat) (hn : 1 ≤ r.size) (hn6 : r.size ≤ 6) (hc : c ≤ 9) : Ev (fun k => spec_pzPower.f k r (c : Int)) (if (r.size : Int) ^ c ≤ 300 then (r.size : Int) ^ c else 0) :=
  pzPower_loop r c hn hn6 hc c 0 (by omega) (by omega) (by simp)
theorem implBoards_ev (n c : Nat) (hn : 1 ≤ n) (hn6 : n ≤ 6) (hc : c ≤ 9) : Ev (fun k => impl_boards.f k (n : Int) (c : Int) 300) (mn ((n : Int) ^ c) 301) := by
  have h := boards_loop n c hn hn6 hc c 0 (by omega) (by omega)
  exact h
/-- Whether there are hidden worlds of a rule and a size. -/
def sizeB (r : ByteArray) (w h : Int) : Bool := isRuleB r && (decide (1 ≤ w ∧ w ≤ 9) && (decide (1 ≤ h ∧ h ≤ 9) && decide (w * h ≤ 9)))
def boardsN (r : ByteArray) (w h : Int) : Int := (r.size : Int) ^ (w * h).toNat
theorem prod_bd {w h : Int} (h1 : 1 ≤ w ∧ w ≤ 9) (h2 : 1 ≤ h ∧ h ≤ 9) : 1 ≤ w * h ∧ w * h ≤ 81 := by
  constructor
  · calc (1 : Int) = 1 * 1 := rfl
      _ ≤ w * 1 := Int.mul_le_mul_of_nonneg_right h1.1 (by decide)
      _ ≤ w * h := Int.mul_le_mul_of_nonneg_left h2.1 (by omega)
  · calc w * h ≤ 9 * h := Int.mul_le_mul_of_nonneg_right h1.2 (by omega)
      _ ≤ 9 * 9 := Int.mul_le_mul_of_nonneg_left h2.2 (by decide)
theorem rule_size {r : ByteArray} (h : isRuleB r = true) : 1 ≤ r.size ∧ r.size ≤ 6 := by
  unfold isRuleB at h
  exact of_decide_eq_true (Bool.and_eq_true_iff.mp h).1
theorem pow_pos_ (r : ByteArray) (hn : 1 ≤ r.size) (c : Nat) : (1 : Int) ≤ (r.size : Int) ^ c := by
  have := pow_mono r.size hn 0 c
  simpa using this
theorem pzSize_ev (r : ByteArray) (w h : Int) (hr : r.size ≤ 9223372036854775807) : Ev (fun k => spec_pzSize.f k r w h) (sizeB r w h && decide (boardsN r w h ≤ 300)) := by
  unfold spec_pzSize.f sizeB
  refine Ev.bind (woRule_ev r hr) ?_
  refine Ev.ite (fun h1 => ?_) (fun h1 => ?_)
  · have hn := rule_size h1
    rw [h1, Bool.true_and]
    refine Ev.some_bind (l1In_eq _ _ _) ?_
    refine Ev.ite (fun h2 => ?_) (fun h2 => ?_)
    · rw [show decide (1 ≤ w ∧ w ≤ 9) = true from h2, Bool.true_and]
      refine Ev.some_bind (l1In_eq _ _ _) ?_
      refine Ev.ite (fun h3 => ?_) (fun h3 => ?_)
      · rw [show decide (1 ≤ h ∧ h ≤ 9) = true from h3, Bool.true_and]
        have hp := prod_bd (of_decide_eq_true h2) (of_decide_eq_true h3)
        rw [w64 (by omega) (by omega)]
        refine Ev.ite (fun h4 => ?_) (fun h4 => ?_)
        · have he : ((w * h).toNat : Int) = w * h := Int.toNat_of_nonneg (by omega)
          have hb := specPower_ev r (w * h).toNat hn.1 hn.2 (by omega)
          rw [he] at hb
          rw [show decide (w * h ≤ 9) = true from decide_eq_true h4, Bool.true_and]
          refine Ev.bind hb ?_
          have := pow_pos_ r hn.1 (w * h).toNat
          unfold boardsN
          refine Ev.of_eq ?_
          congr 1
          split
          · rename_i h5
            rw [show decide ((r.size : Int) ^ (w * h).toNat ≤ 300) = true from decide_eq_true h5]
            exact decide_eq_true (by omega)
          · rename_i h5
            rw [show decide ((r.size : Int) ^ (w * h).toNat ≤ 300) = false from decide_eq_false h5]
            rfl
        · rw [show decide (w * h ≤ 9) = false from decide_eq_false h4, Bool.false_and]
          exact Ev.now _
      · rw [show decide (1 ≤ h ∧ h ≤ 9) = false from Bool.eq_false_iff.mpr h3, Bool.false_and, Bool.false_and]
        exact Ev.now _
    · rw [show decide (1 ≤ w ∧ w ≤ 9) = false from Bool.eq_false_iff.mpr h2, Bool.false_and, Bool.false_and]
      exact Ev.now _
  · rw [Bool.eq_false_iff.mpr h1, Bool.false_and, Bool.false_and]
    exact Ev.now _
theorem sizeB_parts {r : ByteArray} {w h : Int} (hs : sizeB r w h = true) : isRuleB r = true ∧ (1 ≤ w ∧ w ≤ 9) ∧ (1 ≤ h ∧ h ≤ 9) ∧ w * h ≤ 9 := by
  unfold sizeB at hs
  simp only [Bool.and_eq_true, decide_eq_true_eq] at hs
  exact hs
theorem isSize_eq (w h : Int) : impl_isSize.f w h = some (decide (1 ≤ w ∧ w ≤ 9) && decide (1 ≤ h ∧ h ≤ 9)) := by
  unfold impl_isSize.f
  simp only [within_eq, Option.bind_some]
  cases decide (1 ≤ w ∧ w ≤ 9) <;> rfl
theorem isHidden_eq (r : ByteArray) (w h : Int) (hr : r.size ≤ 9223372036854775807) : impl_isHidden.f r w h = some (sizeB r w h) := by
  unfold impl_isHidden.f sizeB
  rw [IsRule_eq r hr, Option.bind_some, isSize_eq, Option.bind_some]
  by_cases h1 : 1 ≤ w ∧ w ≤ 9
  · by_cases h2 : 1 ≤ h ∧ h ≤ 9
    · have hp := prod_bd h1 h2
      rw [w64 (by omega) (by omega)]
      simp only [decide_eq_true h1, decide_eq_true h2, Bool.true_and, if_true]
      cases isRuleB r <;> rfl
    · simp only [decide_eq_true h1, decide_eq_false h2, Bool.true_and, Bool.false_and, Bool.false_eq_true, if_false]
      cases isRuleB r <;> rfl
  · simp only [decide_eq_false h1, Bool.false_and, Bool.false_eq_true, if_false]
    cases isRuleB r <;> rfl
theorem implCount_ev (r : ByteArray) (w h : Int) (hr : r.size ≤ 9223372036854775807) :
    Ev (fun k => impl_CountBoards.f k r w h) (if (sizeB r w h && decide (boardsN r w h ≤ 300)) = true then (boardsN r w h, true) else (0, false)) := by
  unfold impl_CountBoards.f
  refine Ev.some_bind (isHidden_eq r w h hr) ?_
  refine Ev.ite (fun h2 => ?_) (fun h2 => ?_)
  · obtain ⟨ha, hb, hc, hd⟩ := sizeB_parts h2
    have hn := rule_size ha
    have hp := prod_bd hb hc
    have he : ((w * h).toNat : Int) = w * h := Int.toNat_of_nonneg (by omega)
    have hg := implBoards_ev r.size (w * h).toNat hn.1 hn.2 (by omega)
    rw [he] at hg
    rw [w64 (by omega) (by omega), h2, Bool.true_and]
    refine Ev.bind hg ?_
    unfold boardsN
    by_cases h3 : (r.size : Int) ^ (w * h).toNat ≤ 300
    · rw [if_pos (decide_eq_true h3), show mn ((r.size : Int) ^ (w * h).toNat) 301 = (r.size : Int) ^ (w * h).toNat by unfold mn; rw [if_neg (by omega)]]
      refine Ev.of_eq ?_
      rw [if_neg (by omega)]
    · have e2 : ¬ decide ((r.size : Int) ^ (w * h).toNat ≤ 300) = true := by rw [decide_eq_false h3]; decide
      rw [if_neg e2, show mn ((r.size : Int) ^ (w * h).toNat) 301 = 301 by unfold mn; split <;> omega]
      refine Ev.of_eq ?_
      rw [if_pos (by omega)]
  · rw [if_neg (by rw [Bool.eq_false_iff.mpr h2, Bool.false_and]; decide)]
    exact Ev.now _
end Go.Proofs.YteemifeclhenbaaDoor.P
