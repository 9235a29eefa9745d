import Derived.Test.YteemifeclhenbaaDoorPuRule
import Derived.Test.YteemifeclhenbaaDoorP2
import Derived.Test.YteemifeclhenbaaDoorP2
/- Clues: the program's and the reference's answer alike. -/
namespace Go.Proofs.YteemifeclhenbaaDoor.P
open Go.RowKit Go.Proofs.YteemifeclhenbaaDoorW.PrintWords Go.Proofs.YteemifeclhenbaaDoorW.PrintLast Go.Proofs.YteemifeclhenbaaDoorW.PrintMore
open Go.Proofs.YteemifeclhenbaaDoor.B
set_option linter.unusedVariables false
set_option linter.unusedSimpArgs false
def inB (a b c : Int) : Bool := decide (b ≤ a ∧ a ≤ c)
/-- What a clue of worlds of a rule and so many cells is. -/
def clueB (n cells k a b : Int) : Bool :=
  if k = 0 then inB a 0 (cells - 1) && inB b 0 (n - 1) else if k = 1 then inB a 0 50 && inB b 0 (cells - 1) else if k = 2 then inB a 0 50 && inB b 0 3
  else if k = 3 then inB a 0 50 && inB b 0 cells else if k = 4 then inB a 0 100 && (b == 0) else false
theorem and_bind (a b : Bool) : (if a = true then (some b : Option Bool) else some false) = some (a && b) := by cases a <;> rfl
theorem pzClue_eq (r : ByteArray) (c k a b : Int) (hr : r.size ≤ 9223372036854775807) (hc : -9223372036854775807 ≤ c ∧ c ≤ 9223372036854775807) : spec_pzClue.f r c k a b = some (clueB r.size c k a b) := by
  unfold spec_pzClue.f clueB inB
  simp only [l1In_eq, Option.bind_some, and_bind, w64 (show -9223372036854775808 ≤ c - 1 by omega) (show c - 1 ≤ 9223372036854775807 by omega), w64 (show -9223372036854775808 ≤ (r.size : Int) - 1 by omega) (show (r.size : Int) - 1 ≤ 9223372036854775807 by omega)]
  repeat' split
  all_goals rfl
theorem implIsClue_ev (r : ByteArray) (c k a b : Int) (hr : r.size ≤ 9223372036854775807) : Ev (fun n => impl_IsClue.f n r c k a b) (isRuleB r && (inB c 1 9 && clueB r.size c k a b)) := by
  have hj : ∀ x : Bool, (x = false → -9223372036854775807 ≤ c ∧ c ≤ 9223372036854775807) → Ev (fun n => impl_IsClue.j0 n r c x k a b) (!x && clueB r.size c k a b) := by
    intro x hx
    cases x with
    | true => exact Ev.step (f := fun _ => some false) (fun n => by simp only [impl_IsClue.j0, if_true]) (Ev.now _)
    | false =>
      have hc := hx rfl
      refine Ev.step (f := fun _ => some (clueB r.size c k a b)) (fun n => ?_) (Ev.now _)
      simp only [impl_IsClue.j0, impl_isWay.f, within_eq, Option.bind_some, and_bind, Bool.false_eq_true, if_false, w64 (show -9223372036854775808 ≤ c - 1 by omega) (show c - 1 ≤ 9223372036854775807 by omega), w64 (show -9223372036854775808 ≤ (r.size : Int) - 1 by omega) (show (r.size : Int) - 1 ≤ 9223372036854775807 by omega)]
      unfold clueB inB
      repeat' split
      all_goals rfl
  unfold impl_IsClue.f
  refine Ev.some_bind (IsRule_eq r hr) ?_
  refine Ev.ite (fun h1 => ?_) (fun h1 => ?_)
  · rw [h1, Bool.true_and]
    refine Ev.some_bind (within_eq _ _ _) ?_
    have := hj (!inB c 1 9) (fun h => by have h2 := of_decide_eq_true (show inB c 1 9 = true by simpa using h); omega)
    rw [Bool.not_not] at this
    exact this
  · rw [Bool.eq_false_iff.mpr h1, Bool.false_and]
    exact hj true (fun h => by cases h)
end Go.Proofs.YteemifeclhenbaaDoor.P
