import Derived.Test.YteemifeclhenbaaDoorBase
import Derived.Test.YteemifeclhenbaaDoorP1
import Derived.Test.YteemifeclhenbaaDoorP1
/- Rules: the program's and the reference's answer alike. -/
namespace Go.Proofs.YteemifeclhenbaaDoor.P
open Go.RowKit Go.Proofs.YteemifeclhenbaaDoorW.PrintWords Go.Proofs.YteemifeclhenbaaDoorW.PrintLast Go.Proofs.YteemifeclhenbaaDoorW.PrintMore
open Go.Proofs.YteemifeclhenbaaDoor.B
set_option linter.unusedVariables false
set_option linter.unusedSimpArgs false
def signB (c : UInt8) : Bool := c == 76 || c == 82 || c == 78 || c == 85
def isRuleB (s : ByteArray) : Bool := decide (1 ≤ s.size ∧ s.size ≤ 6) && s.data.toList.all signB
theorem l1In_eq (a b c : Int) : spec_l1In.f a b c = some (decide (b ≤ a ∧ a ≤ c)) := by
  unfold spec_l1In.f
  split
  · rename_i h; simp [show b ≤ a from h]
  · rename_i h; simp [show ¬ b ≤ a from h]
theorem within_eq (a b c : Int) : impl_within.f a b c = some (decide (b ≤ a ∧ a ≤ c)) := by
  unfold impl_within.f
  split
  · rename_i h; simp [show b ≤ a from h]
  · rename_i h; simp [show ¬ b ≤ a from h]
theorem woRule_loop (s : ByteArray) (hs : s.size ≤ 9223372036854775807) (n : Nat) : ∀ i : Nat, s.size - i = n → i ≤ s.size → Ev (fun k => spec_woRule.l0 k s (i : Int)) ((s.data.toList.drop i).all signB) := by
  induction n with
  | zero =>
    intro i h hi
    refine Ev.step (f := fun _ => some true) (fun k => ?_) ?_
    · simp only [spec_woRule.l0]
      rw [if_neg (by omega)]
    · rw [List.drop_of_length_le (by rw [data_length]; omega)]
      exact Ev.now true
  | succ n ih =>
    intro i h hi
    have hlt : i < s.data.toList.length := by rw [data_length]; omega
    obtain ⟨c, hd, hb⟩ := drop_at s i hlt
    rw [hd, List.all_cons]
    have hw : wrap64 ((i : Int) + 1) = ((i + 1 : Nat) : Int) := by rw [w64 (by omega) (by omega)]; rfl
    have ih' := ih (i + 1) (by omega) (by omega)
    refine Ev.step (f := fun k => if signB c = true then spec_woRule.l0 k s ((i + 1 : Nat) : Int) else some false) (fun k => ?_) ?_
    · simp only [spec_woRule.l0]
      rw [if_pos (by omega), if_pos (by omega), hb, hw]
      have e1 := u8_eq c 76 (by decide)
      have e2 := u8_eq c 82 (by decide)
      have e3 := u8_eq c 78 (by decide)
      have e4 := u8_eq c 85 (by decide)
      simp only [show ((76 : Nat) : Int) = 76 from rfl, show ((82 : Nat) : Int) = 82 from rfl, show ((78 : Nat) : Int) = 78 from rfl, show ((85 : Nat) : Int) = 85 from rfl] at e1 e2 e3 e4
      simp only [e1, e2, e3, e4, signB, Bool.or_eq_true, beq_iff_eq]
      by_cases h1 : c = UInt8.ofNat 76
      · simp [h1]
      · by_cases h2 : c = UInt8.ofNat 82
        · simp [h2]
        · by_cases h3 : c = UInt8.ofNat 78
          · simp [h3]
          · by_cases h4 : c = UInt8.ofNat 85
            · simp [h4]
            · have g1 : ¬ c = 76 := h1
              have g2 : ¬ c = 82 := h2
              have g3 : ¬ c = 78 := h3
              have g4 : ¬ c = 85 := h4
              simp [h1, h2, h3, h4, g1, g2, g3, g4]
    · refine Ev.ite (fun hc => ?_) (fun hc => ?_)
      · rw [hc, Bool.true_and]
        exact ih'
      · rw [Bool.eq_false_iff.mpr hc, Bool.false_and]
        exact Ev.now false
theorem woRule_ev (s : ByteArray) (hs : s.size ≤ 9223372036854775807) : Ev (fun k => spec_woRule.f k s) (isRuleB s) := by
  unfold spec_woRule.f
  refine Ev.some_bind (l1In_eq _ _ _) ?_
  refine Ev.ite (fun hc => ?_) (fun hc => ?_)
  · have hc' := of_decide_eq_true hc
    have h := woRule_loop s hs s.size 0 (by omega) (by omega)
    rw [List.drop_zero] at h
    unfold isRuleB
    rw [show decide (1 ≤ s.size ∧ s.size ≤ 6) = true from decide_eq_true (by omega), Bool.true_and]
    exact h
  · have hc' : ¬ (1 ≤ (s.size : Int) ∧ (s.size : Int) ≤ 6) := fun h => hc (decide_eq_true h)
    unfold isRuleB
    rw [show decide (1 ≤ s.size ∧ s.size ≤ 6) = false from decide_eq_false (by omega), Bool.false_and]
    exact Ev.now false
theorem dropWhile_nil {α : Type} (p : α → Bool) : ∀ l : List α, l.dropWhile p = [] ↔ l.all p = true
  | [] => by simp
  | x :: l => by
    by_cases h : p x = true
    · simp [List.dropWhile_cons, h, dropWhile_nil p l]
    · simp [List.dropWhile_cons, h]
theorem all_dropWhile {α : Type} (p : α → Bool) : ∀ l : List α, (l.dropWhile p).all p = true ↔ l.all p = true
  | [] => by simp
  | x :: l => by
    by_cases h : p x = true
    · simp [List.dropWhile_cons, h, all_dropWhile p l]
    · simp [List.dropWhile_cons, h]
theorem trimS_nil (l cs : List UInt8) : Lib.trimS l cs = [] ↔ l.all (fun c => cs.contains c) = true := by
  unfold Lib.trimS Lib.trimLeftS Lib.trimRightS
  rw [dropWhile_nil, List.all_reverse, all_dropWhile, List.all_reverse]
theorem IsRule_eq (s : ByteArray) (hs : s.size ≤ 9223372036854775807) : impl_IsRule.f s = some (isRuleB s) := by
  unfold impl_IsRule.f
  rw [within_eq, Option.bind_some]
  unfold isRuleB
  by_cases hc : 1 ≤ s.size ∧ s.size ≤ 6
  · rw [if_pos (decide_eq_true (by omega)), show decide (1 ≤ s.size ∧ s.size ≤ 6) = true from decide_eq_true hc, Bool.true_and]
    unfold strings_Trim.f
    rw [if_pos ⟨hs, by decide, by decide⟩, Option.bind_some, mk_toList]
    congr 1
    rw [Bool.eq_iff_iff, beq_iff_eq, trimS_nil]
    have e : (fun c : UInt8 => List.contains (ByteArray.data (⟨#[76, 82, 78, 85]⟩ : ByteArray)).toList c) = signB := by
      funext c
      unfold signB
      rw [Bool.eq_iff_iff]
      simp [List.contains_cons, or_assoc]
    rw [e]
  · rw [if_neg (fun h => hc (by have := of_decide_eq_true h; omega)), show decide (1 ≤ s.size ∧ s.size ≤ 6) = false from decide_eq_false hc, Bool.false_and]
end Go.Proofs.YteemifeclhenbaaDoor.P
