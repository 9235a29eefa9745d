/- What each function computes (printed by wip/sim/gen.py). -/
import Derived.Test.YthobhonnicadaaaDoorTab
namespace Go.Proofs.YthobhonnicadaaaDoorS
open Go Go.Proofs
set_option maxRecDepth 100000
set_option linter.unusedVariables false
theorem laws_FnExactPlainAfter.eq (k : Nat) (aP_Rule : ByteArray) (aP_Spots : List (Int × (Int × Int))) (aP_X : Int) (aP_Y : Int) (aP_Way : Int) (aSteps : Int) : laws_FnExactPlainAfter (k + 1) ((aP_Rule, aP_Spots, aP_X, aP_Y, aP_Way), aSteps) =
  (laws_szPlain k ((aP_Rule, aP_Spots, aP_X, aP_Y, aP_Way), 1048576)).bind fun r1 =>
  cond (decide (r1 < 0))
  (some true)
  ((laws_toPlain k (aP_Rule, aP_Spots, aP_X, aP_Y, aP_Way)).bind fun r2 =>
   (spec_PlainAfter k (r2, aSteps)).bind fun r3 =>
   (laws_toPlain k (aP_Rule, aP_Spots, aP_X, aP_Y, aP_Way)).bind fun r4 =>
   (impl_PlainAfter k (r4, aSteps)).bind fun r5 =>
   (laws_eqPlain k (r5.1, r3.1)).bind fun r6 =>
   cond (!r6)
   (some false)
   (cond (!(r5.2 == r3.2))
    (some false)
    ((laws_toPlain k (aP_Rule, aP_Spots, aP_X, aP_Y, aP_Way)).bind fun r7 =>
     (laws_eqPlain k (r4, r7)).bind fun r8 =>
     cond (!r8)
     (some false)
     ((laws_markPlain k (r4, 1)).bind fun r9 =>
      cond (decide (r9.1 < 0))
      (some false)
      ((laws_eqPlain k (r5.1, r3.1)).bind fun r10 =>
       cond (!r10)
       (some false)
       (cond (!(r5.2 == r3.2))
        (some false)
        ((laws_markPlain k (r5.1, 1)).bind fun r11 =>
         (laws_heldPlain k ((r5.1.1, r11.2.2.1, r5.1.2.2.1, r5.1.2.2.2.1, r5.1.2.2.2.2), 1)).bind fun r12 =>
         cond (decide (r12 < 0))
         (some false)
         (cond (r12 != r11.1)
          (some false)
          ((laws_toPlain k (aP_Rule, aP_Spots, aP_X, aP_Y, aP_Way)).bind fun r13 =>
           (impl_PlainAfter k (r13, aSteps)).bind fun r14 =>
           (laws_eqPlain k (r14.1, r3.1)).bind fun r15 =>
           cond (!r15)
           (some false)
           (cond (!(r14.2 == r3.2))
            (some false)
            ((laws_heldPlain k ((r5.1.1, r11.2.2.1, r5.1.2.2.1, r5.1.2.2.2.1, r5.1.2.2.2.2), 1)).bind fun r16 =>
             cond (decide (r16 < 0))
             (some false)
             (cond (r16 != r11.1)
              (some false)
              (some true))))))))))))) := by kernel_rfl
theorem laws_szPlain.eq (k : Nat) (a_Rule : ByteArray) (a_Spots : List (Int × (Int × Int))) (a_X : Int) (a_Y : Int) (a_Way : Int) (left : Int) : laws_szPlain (k + 1) ((a_Rule, a_Spots, a_X, a_Y, a_Way), left) =
  cond (decide ((w64 (left - (a_Rule.size : Int))) < 0))
  (some (-1))
  ((laws_szSpotS k (a_Spots, (w64 (left - (a_Rule.size : Int))))).bind fun r1 =>
   cond (decide (r1 < 0))
   (some (-1))
   (some r1)) := by kernel_rfl
theorem laws_szSpotS.eq (k : Nat) (a : List (Int × (Int × Int))) (left : Int) : laws_szSpotS (k + 1) (a, left) =
  cond (decide ((w64 (left - (a.length : Int))) < 0))
  (some (-1))
  (some (w64 (left - (a.length : Int)))) := by kernel_rfl
theorem laws_toPlain.eq (k : Nat) (a_Rule : ByteArray) (a_Spots : List (Int × (Int × Int))) (a_X : Int) (a_Y : Int) (a_Way : Int) : laws_toPlain (k + 1) (a_Rule, a_Spots, a_X, a_Y, a_Way) =
  (laws_toSpotS k a_Spots).bind fun r1 =>
  some (a_Rule, r1, a_X, a_Y, a_Way) := by kernel_rfl
theorem laws_toSpotS.eq (k : Nat) (a : List (Int × (Int × Int))) : laws_toSpotS (k + 1) a =
  cond (((decide ((0 : Int) ≤ (a.length : Int))) && (decide ((a.length : Int) ≤ (a.length : Int)))) && (fits (a.length : Int).toNat 24))
  ((laws_toSpotS_l k (a, (List.replicate (a.length : Int).toNat (0, (0, 0))), 0)).bind fun r1 =>
   some r1)
  (none) := by kernel_rfl
theorem laws_toSpotS_l.eq (k : Nat) (a : List (Int × (Int × Int))) (out : List (Int × (Int × Int))) (i : Int) : laws_toSpotS_l (k + 1) (a, out, i) =
  cond (decide (i < (a.length : Int)))
  (cond (inB i a.length)
   ((laws_toSpot k (a.getD i.toNat default)).bind fun r1 =>
    cond (inB i out.length)
    (laws_toSpotS_l k (a, (out.set i.toNat r1), (w64 (i + 1))))
    (none))
   (none))
  (some out) := by kernel_rfl
theorem laws_toSpot.eq (k : Nat) (a_X : Int) (a_Y : Int) (a_Colour : Int) : laws_toSpot (k + 1) (a_X, a_Y, a_Colour) =
  some (a_X, a_Y, a_Colour) := by kernel_rfl
theorem spec_PlainAfter.eq (k : Nat) (p_Rule : ByteArray) (p_Spots : List (Int × (Int × Int))) (p_X : Int) (p_Y : Int) (p_Way : Int) (steps : Int) : spec_PlainAfter (k + 1) ((p_Rule, p_Spots, p_X, p_Y, p_Way), steps) =
  (spec_enSteps k ((p_Rule, p_Spots, p_X, p_Y, p_Way), steps)).bind fun r1 =>
  cond (!r1)
  (some ((ByteArray.empty, [], 0, 0, 0), false))
  ((spec_enOwn k (p_Rule, p_Spots, p_X, p_Y, p_Way)).bind fun r2 =>
   (spec_enAfter k (r2, steps)).bind fun r3 =>
   some (r3.1, r3.2.2)) := by kernel_rfl
theorem spec_enSteps.eq (k : Nat) (p_Rule : ByteArray) (p_Spots : List (Int × (Int × Int))) (p_X : Int) (p_Y : Int) (p_Way : Int) (steps : Int) : spec_enSteps (k + 1) ((p_Rule, p_Spots, p_X, p_Y, p_Way), steps) =
  (spec_enGood k (p_Rule, p_Spots, p_X, p_Y, p_Way)).bind fun r1 =>
  cond r1
  ((spec_l1In k (steps, 0, 1000)).bind fun r2 =>
   some r2)
  (some false) := by kernel_rfl
theorem spec_enGood.eq (k : Nat) (p_Rule : ByteArray) (p_Spots : List (Int × (Int × Int))) (p_X : Int) (p_Y : Int) (p_Way : Int) : spec_enGood (k + 1) (p_Rule, p_Spots, p_X, p_Y, p_Way) =
  (spec_woRule k p_Rule).bind fun r1 =>
  cond (!r1)
  (some false)
  (cond (decide ((p_Spots.length : Int) > 300))
   (some false)
   ((spec_enFar k p_X).bind fun r2 =>
    cond (!r2)
    (some false)
    ((spec_enFar k p_Y).bind fun r3 =>
     cond (!r3)
     (some false)
     ((spec_l1In k (p_Way, 0, 3)).bind fun r4 =>
      cond (!r4)
      (some false)
      ((spec_enGood_l k ((p_Rule, p_Spots, p_X, p_Y, p_Way), (), (p_Spots.length : Int), 0)).bind fun r5 =>
       r5.elim
       (fun r6 => some r6)
       (fun r7 => some true)))))) := by kernel_rfl
theorem spec_woRule.eq (k : Nat) (rule : ByteArray) : spec_woRule (k + 1) rule =
  (spec_l1In k ((rule.size : Int), 1, 6)).bind fun r1 =>
  cond (!r1)
  (some false)
  ((spec_woRule_l k (rule, 0)).bind fun r2 =>
   r2.elim
   (fun r3 => some r3)
   (fun r4 => some true)) := by kernel_rfl
theorem spec_l1In.eq (k : Nat) (n : Int) (lo : Int) (hi : Int) : spec_l1In (k + 1) (n, lo, hi) =
  cond (decide (n ≥ lo))
  (some (decide (n ≤ hi)))
  (some false) := by kernel_rfl
theorem spec_woRule_l.eq (k : Nat) (rule : ByteArray) (i : Int) : spec_woRule_l (k + 1) (rule, i) =
  cond (decide (i < (rule.size : Int)))
  (cond (inB i rule.size)
   (cond ((bt rule i.toNat) == 76)
    (spec_woRule_l k (rule, (w64 (i + 1))))
    (cond ((bt rule i.toNat) == 82)
     (spec_woRule_l k (rule, (w64 (i + 1))))
     (cond ((bt rule i.toNat) == 78)
      (spec_woRule_l k (rule, (w64 (i + 1))))
      (cond ((bt rule i.toNat) == 85)
       (spec_woRule_l k (rule, (w64 (i + 1))))
       (some (.inl false))))))
   (none))
  (some (.inr ())) := by kernel_rfl
theorem spec_enFar.eq (k : Nat) (n : Int) : spec_enFar (k + 1) n =
  (spec_l1In k (n, (-1000), 1000)).bind fun r1 =>
  some r1 := by kernel_rfl
theorem spec_enGood_l.eq (k : Nat) (p_Rule : ByteArray) (p_Spots : List (Int × (Int × Int))) (p_X : Int) (p_Y : Int) (p_Way : Int) (t35 : Int) (t36 : Int) : spec_enGood_l (k + 1) ((p_Rule, p_Spots, p_X, p_Y, p_Way), (), t35, t36) =
  cond (decide (t36 < t35))
  (cond (inB t36 p_Spots.length)
   ((spec_enFar k ((p_Spots.getD t36.toNat default).1)).bind fun r1 =>
    cond (!r1)
    (some (.inl false))
    ((spec_enFar k ((p_Spots.getD t36.toNat default).2.1)).bind fun r2 =>
     cond (!r2)
     (some (.inl false))
     ((spec_l1In k ((p_Spots.getD t36.toNat default).2.2, 1, (w64 ((p_Rule.size : Int) - 1)))).bind fun r3 =>
      cond (!r3)
      (some (.inl false))
      (cond (decide (t36 > 0))
       (cond (inB (w64 (t36 - 1)) p_Spots.length)
        ((spec_enLess k ((p_Spots.getD ((w64 (t36 - 1)).toNat) default), (p_Spots.getD t36.toNat default))).bind fun r4 =>
         cond (!r4)
         (some (.inl false))
         (spec_enGood_l k ((p_Rule, p_Spots, p_X, p_Y, p_Way), (), t35, (w64 (t36 + 1)))))
        (none))
       (spec_enGood_l k ((p_Rule, p_Spots, p_X, p_Y, p_Way), (), t35, (w64 (t36 + 1))))))))
   (none))
  (some (.inr ())) := by kernel_rfl
theorem spec_enLess.eq (k : Nat) (a_X : Int) (a_Y : Int) (a_Colour : Int) (b_X : Int) (b_Y : Int) (b_Colour : Int) : spec_enLess (k + 1) ((a_X, a_Y, a_Colour), (b_X, b_Y, b_Colour)) =
  cond (decide (a_Y < b_Y))
  (some true)
  (cond (a_Y == b_Y)
   (some (decide (a_X < b_X)))
   (some false)) := by kernel_rfl
theorem spec_enOwn.eq (k : Nat) (p_Rule : ByteArray) (p_Spots : List (Int × (Int × Int))) (p_X : Int) (p_Y : Int) (p_Way : Int) : spec_enOwn (k + 1) (p_Rule, p_Spots, p_X, p_Y, p_Way) =
  cond (fits (0 + p_Spots.length) 24)
  (some (p_Rule, ([] ++ p_Spots), p_X, p_Y, p_Way))
  (none) := by kernel_rfl
theorem spec_enAfter.eq (k : Nat) (p_Rule : ByteArray) (p_Spots : List (Int × (Int × Int))) (p_X : Int) (p_Y : Int) (p_Way : Int) (steps : Int) : spec_enAfter (k + 1) ((p_Rule, p_Spots, p_X, p_Y, p_Way), steps) =
  (spec_enAfter_l k (steps, (p_Rule, p_Spots, p_X, p_Y, p_Way), (ByteArray.empty, [], 0, 0, 0), ByteArray.empty)).bind fun r1 =>
  r1.elim
  (fun r2 => some r2)
  (fun r3 => some (r3.1, r3.2.2, true)) := by kernel_rfl
theorem spec_enAfter_l.eq (k : Nat) (steps : Int) (p_Rule : ByteArray) (p_Spots : List (Int × (Int × Int))) (p_X : Int) (p_Y : Int) (p_Way : Int) (t4_Rule : ByteArray) (t4_Spots : List (Int × (Int × Int))) (t4_X : Int) (t4_Y : Int) (t4_Way : Int) (signs : ByteArray) : spec_enAfter_l (k + 1) (steps, (p_Rule, p_Spots, p_X, p_Y, p_Way), (t4_Rule, t4_Spots, t4_X, t4_Y, t4_Way), signs) =
  cond (decide (steps > 0))
  ((spec_enColour k ((p_Rule, p_Spots, p_X, p_Y, p_Way), p_X, p_Y)).bind fun r1 =>
   (spec_enColour k ((p_Rule, p_Spots, p_X, p_Y, p_Way), p_X, p_Y)).bind fun r2 =>
   cond (((decide ((0 : Int) ≤ (w64 (r2 + 1)))) && (decide ((w64 (r2 + 1)) ≤ (p_Rule.size : Int)))) && ((decide ((0 : Int) ≤ r1)) && (decide (r1 ≤ (w64 (r2 + 1))))))
   (cond (fitS signs (p_Rule.extract r1.toNat ((w64 (r2 + 1)).toNat)))
    ((spec_enStep k (p_Rule, p_Spots, p_X, p_Y, p_Way)).bind fun r3 =>
     cond (!r3.2)
     (some (.inl ((ByteArray.empty, [], 0, 0, 0), ByteArray.empty, false)))
     (spec_enAfter_l k ((w64 (steps - 1)), r3.1, (t4_Rule, t4_Spots, t4_X, t4_Y, t4_Way), (signs ++ (p_Rule.extract r1.toNat ((w64 (r2 + 1)).toNat))))))
    (none))
   (none))
  (some (.inr ((p_Rule, p_Spots, p_X, p_Y, p_Way), (t4_Rule, t4_Spots, t4_X, t4_Y, t4_Way), signs))) := by kernel_rfl
theorem spec_enColour.eq (k : Nat) (p_Rule : ByteArray) (p_Spots : List (Int × (Int × Int))) (p_X : Int) (p_Y : Int) (p_Way : Int) (x : Int) (y : Int) : spec_enColour (k + 1) ((p_Rule, p_Spots, p_X, p_Y, p_Way), x, y) =
  (spec_enAt k (p_Spots, x, y)).bind fun r1 =>
  cond r1.2
  (cond (inB r1.1 p_Spots.length)
   (some ((p_Spots.getD r1.1.toNat default).2.2))
   (none))
  (some 0) := by kernel_rfl
theorem spec_enAt.eq (k : Nat) (spots : List (Int × (Int × Int))) (x : Int) (y : Int) : spec_enAt (k + 1) (spots, x, y) =
  (spec_enAt_l k (spots, x, y, 0, (spots.length : Int))).bind fun r1 =>
  cond (decide (r1.2.2.2 < (r1.1.length : Int)))
  (cond (inB r1.2.2.2 r1.1.length)
   (cond ((r1.1.getD r1.2.2.2.toNat default).1 == r1.2.1)
    (cond (inB r1.2.2.2 r1.1.length)
     (some (r1.2.2.2, ((r1.1.getD r1.2.2.2.toNat default).2.1 == r1.2.2.1)))
     (none))
    (some (r1.2.2.2, false)))
   (none))
  (some (r1.2.2.2, false)) := by kernel_rfl
theorem spec_enAt_l.eq (k : Nat) (spots : List (Int × (Int × Int))) (x : Int) (y : Int) (low : Int) (high : Int) : spec_enAt_l (k + 1) (spots, x, y, low, high) =
  cond (decide (low < high))
  (cond (inB (w64 ((w64 (low + high)).tdiv 2)) spots.length)
   ((spec_enLess k ((spots.getD ((w64 ((w64 (low + high)).tdiv 2)).toNat) default), (x, y, 0))).bind fun r1 =>
    cond r1
    (spec_enAt_l k (spots, x, y, (w64 ((w64 ((w64 (low + high)).tdiv 2)) + 1)), high))
    (spec_enAt_l k (spots, x, y, low, (w64 ((w64 (low + high)).tdiv 2)))))
   (none))
  (some (spots, x, y, low)) := by kernel_rfl
theorem spec_enStep.eq (k : Nat) (p_Rule : ByteArray) (p_Spots : List (Int × (Int × Int))) (p_X : Int) (p_Y : Int) (p_Way : Int) : spec_enStep (k + 1) (p_Rule, p_Spots, p_X, p_Y, p_Way) =
  (spec_enColour k ((p_Rule, p_Spots, p_X, p_Y, p_Way), p_X, p_Y)).bind fun r1 =>
  cond (inB r1 p_Rule.size)
  ((spec_woTurn k (bt p_Rule r1.toNat)).bind fun r2 =>
   cond ((p_Rule.size : Int) != 0)
   ((spec_enPaint k (p_Spots, p_X, p_Y, ((w64 (r1 + 1)).tmod (p_Rule.size : Int)))).bind fun r3 =>
    (spec_enGo k ((p_Rule, r3, p_X, p_Y, ((w64 (p_Way + r2)).tmod 4)), 1)).bind fun r4 =>
    (spec_enGood k r4.2).bind fun r5 =>
    cond (!r5)
    (some ((ByteArray.empty, [], 0, 0, 0), false))
    (some (r4.2, true)))
   (none))
  (none) := by kernel_rfl
theorem spec_woTurn.eq (k : Nat) (sign : Int) : spec_woTurn (k + 1) sign =
  cond (sign == 82)
  (some 1)
  (cond (sign == 85)
   (some 2)
   (cond (sign == 76)
    (some 3)
    (some 0))) := by kernel_rfl
theorem spec_enPaint.eq (k : Nat) (spots : List (Int × (Int × Int))) (x : Int) (y : Int) (colour : Int) : spec_enPaint (k + 1) (spots, x, y, colour) =
  (spec_enAt k (spots, x, y)).bind fun r1 =>
  cond ((decide ((0 : Int) ≤ r1.1)) && (decide (r1.1 ≤ (spots.length : Int))))
  (cond (fits (0 + (spots.take r1.1.toNat).length) 24)
   (cond (decide (colour > 0))
    (cond (fits (([] ++ (spots.take r1.1.toNat)).length + 1) 24)
     (cond r1.2
      (cond ((decide ((0 : Int) ≤ (w64 (r1.1 + 1)))) && (decide ((w64 (r1.1 + 1)) ≤ (spots.length : Int))))
       (cond (fits ((([] ++ (spots.take r1.1.toNat)) ++ [(x, (y, colour))]).length + ((spots.drop ((w64 (r1.1 + 1)).toNat)).take (spots.length - (w64 (r1.1 + 1)).toNat)).length) 24)
        (some ((([] ++ (spots.take r1.1.toNat)) ++ [(x, (y, colour))]) ++ ((spots.drop ((w64 (r1.1 + 1)).toNat)).take (spots.length - (w64 (r1.1 + 1)).toNat))))
        (none))
       (none))
      (cond ((decide ((0 : Int) ≤ r1.1)) && (decide (r1.1 ≤ (spots.length : Int))))
       (cond (fits ((([] ++ (spots.take r1.1.toNat)) ++ [(x, (y, colour))]).length + ((spots.drop r1.1.toNat).take (spots.length - r1.1.toNat)).length) 24)
        (some ((([] ++ (spots.take r1.1.toNat)) ++ [(x, (y, colour))]) ++ ((spots.drop r1.1.toNat).take (spots.length - r1.1.toNat))))
        (none))
       (none)))
     (none))
    (cond r1.2
     (cond ((decide ((0 : Int) ≤ (w64 (r1.1 + 1)))) && (decide ((w64 (r1.1 + 1)) ≤ (spots.length : Int))))
      (cond (fits (([] ++ (spots.take r1.1.toNat)).length + ((spots.drop ((w64 (r1.1 + 1)).toNat)).take (spots.length - (w64 (r1.1 + 1)).toNat)).length) 24)
       (some (([] ++ (spots.take r1.1.toNat)) ++ ((spots.drop ((w64 (r1.1 + 1)).toNat)).take (spots.length - (w64 (r1.1 + 1)).toNat))))
       (none))
      (none))
     (cond ((decide ((0 : Int) ≤ r1.1)) && (decide (r1.1 ≤ (spots.length : Int))))
      (cond (fits (([] ++ (spots.take r1.1.toNat)).length + ((spots.drop r1.1.toNat).take (spots.length - r1.1.toNat)).length) 24)
       (some (([] ++ (spots.take r1.1.toNat)) ++ ((spots.drop r1.1.toNat).take (spots.length - r1.1.toNat))))
       (none))
      (none))))
   (none))
  (none) := by kernel_rfl
theorem spec_enGo.eq (k : Nat) (p_Rule : ByteArray) (p_Spots : List (Int × (Int × Int))) (p_X : Int) (p_Y : Int) (p_Way : Int) (cells : Int) : spec_enGo (k + 1) ((p_Rule, p_Spots, p_X, p_Y, p_Way), cells) =
  cond (p_Way == 0)
  (some ((), (p_Rule, p_Spots, p_X, (w64 (p_Y - cells)), p_Way)))
  (cond (p_Way == 1)
   (some ((), (p_Rule, p_Spots, (w64 (p_X + cells)), p_Y, p_Way)))
   (cond (p_Way == 2)
    (some ((), (p_Rule, p_Spots, p_X, (w64 (p_Y + cells)), p_Way)))
    (some ((), (p_Rule, p_Spots, (w64 (p_X - cells)), p_Y, p_Way))))) := by kernel_rfl
theorem impl_PlainAfter.eq (k : Nat) (p_Rule : ByteArray) (p_Spots : List (Int × (Int × Int))) (p_X : Int) (p_Y : Int) (p_Way : Int) (steps : Int) : impl_PlainAfter (k + 1) ((p_Rule, p_Spots, p_X, p_Y, p_Way), steps) =
  (impl_isRun k ((p_Rule, p_Spots, p_X, p_Y, p_Way), steps)).bind fun r1 =>
  cond (!r1)
  (some ((ByteArray.empty, [], 0, 0, 0), false))
  ((impl_Plain_going k (p_Rule, p_Spots, p_X, p_Y, p_Way)).bind fun r2 =>
   (impl_going_run k (r2, steps)).bind fun r3 =>
   cond (!r3.1.2)
   (some ((ByteArray.empty, [], 0, 0, 0), false))
   ((impl_going_plain k r3.2).bind fun r4 =>
    some (r4, true))) := by kernel_rfl
theorem impl_isRun.eq (k : Nat) (p_Rule : ByteArray) (p_Spots : List (Int × (Int × Int))) (p_X : Int) (p_Y : Int) (p_Way : Int) (steps : Int) : impl_isRun (k + 1) ((p_Rule, p_Spots, p_X, p_Y, p_Way), steps) =
  (impl_IsPlain k (p_Rule, p_Spots, p_X, p_Y, p_Way)).bind fun r1 =>
  cond r1
  ((impl_within k (steps, 0, 1000)).bind fun r2 =>
   some r2)
  (some false) := by kernel_rfl
theorem impl_IsPlain.eq (k : Nat) (p_Rule : ByteArray) (p_Spots : List (Int × (Int × Int))) (p_X : Int) (p_Y : Int) (p_Way : Int) : impl_IsPlain (k + 1) (p_Rule, p_Spots, p_X, p_Y, p_Way) =
  (impl_IsRule k p_Rule).bind fun r1 =>
  cond (!r1)
  (some false)
  (cond (decide ((p_Spots.length : Int) > 300))
   (some false)
   ((impl_isNear k ([p_X, p_Y])).bind fun r2 =>
    cond (!r2)
    (some false)
    ((impl_isWay k p_Way).bind fun r3 =>
     cond (!r3)
     (some false)
     ((impl_IsPlain_l k ((p_Rule, p_Spots, p_X, p_Y, p_Way), (), (p_Spots.length : Int), 0)).bind fun r4 =>
      r4.elim
      (fun r5 => some r5)
      (fun r6 => some true))))) := by kernel_rfl
theorem impl_IsRule.eq (k : Nat) (rule : ByteArray) : impl_IsRule (k + 1) rule =
  (impl_within k ((rule.size : Int), 1, 6)).bind fun r1 =>
  cond r1
  ((strings_Trim k (rule, (bs [76, 82, 78, 85]))).bind fun r2 =>
   some (strEq r2 ByteArray.empty))
  (some false) := by kernel_rfl
theorem impl_within.eq (k : Nat) (n : Int) (low : Int) (high : Int) : impl_within (k + 1) (n, low, high) =
  cond (decide (low ≤ n))
  (some (decide (n ≤ high)))
  (some false) := by kernel_rfl
theorem strings_Trim.eq (k : Nat) (d : ByteArray × ByteArray) : strings_Trim (k + 1) d = (fun d => strTrim d.1 d.2) d := by kernel_rfl
theorem impl_isNear.eq (k : Nat) (list : List Int) : impl_isNear (k + 1) list =
  (impl_areWithin k (list, (-1000), 1000)).bind fun r1 =>
  some r1 := by kernel_rfl
theorem impl_areWithin.eq (k : Nat) (list : List Int) (low : Int) (high : Int) : impl_areWithin (k + 1) (list, low, high) =
  (slices_ContainsFunc k (list, (low, high))).bind fun r1 =>
  some (!r1) := by kernel_rfl
theorem slices_ContainsFunc.eq (k : Nat) (s : List Int) (f_0 : Int) (f_1 : Int) : slices_ContainsFunc (k + 1) (s, (f_0, f_1)) =
  (slices_IndexFunc k (s, (f_0, f_1))).bind fun r1 =>
  some (decide (r1 ≥ 0)) := by kernel_rfl
theorem slices_IndexFunc.eq (k : Nat) (s : List Int) (f_0 : Int) (f_1 : Int) : slices_IndexFunc (k + 1) (s, (f_0, f_1)) =
  (slices_IndexFunc_l k (s, (f_0, f_1), (s.length : Int), 0)).bind fun r1 =>
  r1.elim
  (fun r2 => some r2)
  (fun r3 => some (-1)) := by kernel_rfl
theorem slices_IndexFunc_l.eq (k : Nat) (s : List Int) (f_0 : Int) (f_1 : Int) (t7 : Int) (t8 : Int) : slices_IndexFunc_l (k + 1) (s, (f_0, f_1), t7, t8) =
  cond (decide (t8 < t7))
  (cond (inB t8 s.length)
   ((impl_areWithin_1 k ((s.getD t8.toNat default), f_0, f_1)).bind fun r1 =>
    cond r1
    (some (.inl t8))
    (slices_IndexFunc_l k (s, (f_0, f_1), t7, (w64 (t8 + 1)))))
   (none))
  (some (.inr ())) := by kernel_rfl
theorem impl_areWithin_1.eq (k : Nat) (n : Int) (t1_0 : Int) (t2_0 : Int) : impl_areWithin_1 (k + 1) (n, t1_0, t2_0) =
  (impl_within k (n, t1_0, t2_0)).bind fun r1 =>
  some (!r1) := by kernel_rfl
theorem impl_isWay.eq (k : Nat) (way : Int) : impl_isWay (k + 1) way =
  (impl_within k (way, 0, 3)).bind fun r1 =>
  some r1 := by kernel_rfl
theorem impl_IsPlain_l.eq (k : Nat) (p_Rule : ByteArray) (p_Spots : List (Int × (Int × Int))) (p_X : Int) (p_Y : Int) (p_Way : Int) (t32 : Int) (t33 : Int) : impl_IsPlain_l (k + 1) ((p_Rule, p_Spots, p_X, p_Y, p_Way), (), t32, t33) =
  cond (decide (t33 < t32))
  (cond (inB t33 p_Spots.length)
   ((impl_isNear k ([(p_Spots.getD t33.toNat default).1, (p_Spots.getD t33.toNat default).2.1])).bind fun r1 =>
    cond (!r1)
    (some (.inl false))
    ((impl_within k ((p_Spots.getD t33.toNat default).2.2, 1, (w64 ((p_Rule.size : Int) - 1)))).bind fun r2 =>
     cond (!r2)
     (some (.inl false))
     (cond (decide (t33 > 0))
      (cond (inB (w64 (t33 - 1)) p_Spots.length)
       ((impl_compareSpots k ((p_Spots.getD ((w64 (t33 - 1)).toNat) default), (p_Spots.getD t33.toNat default))).bind fun r3 =>
        cond (decide (r3 ≥ 0))
        (some (.inl false))
        (impl_IsPlain_l k ((p_Rule, p_Spots, p_X, p_Y, p_Way), (), t32, (w64 (t33 + 1)))))
       (none))
      (impl_IsPlain_l k ((p_Rule, p_Spots, p_X, p_Y, p_Way), (), t32, (w64 (t33 + 1)))))))
   (none))
  (some (.inr ())) := by kernel_rfl
theorem impl_compareSpots.eq (k : Nat) (a_X : Int) (a_Y : Int) (a_Colour : Int) (b_X : Int) (b_Y : Int) (b_Colour : Int) : impl_compareSpots (k + 1) ((a_X, a_Y, a_Colour), (b_X, b_Y, b_Colour)) =
  cond (a_Y != b_Y)
  (some (w64 (a_Y - b_Y)))
  (some (w64 (a_X - b_X))) := by kernel_rfl
theorem impl_Plain_going.eq (k : Nat) (p_Rule : ByteArray) (p_Spots : List (Int × (Int × Int))) (p_X : Int) (p_Y : Int) (p_Way : Int) : impl_Plain_going (k + 1) (p_Rule, p_Spots, p_X, p_Y, p_Way) =
  (impl_Plain_going_l k ((p_Rule, [], p_X, p_Y, p_Way), p_Spots, (p_Spots.length : Int), 0)).bind fun r1 =>
  some r1 := by kernel_rfl
theorem impl_Plain_going_l.eq (k : Nat) (g_rule : ByteArray) (g_spots : List ((Int × Int) × Int)) (g_x : Int) (g_y : Int) (g_way : Int) (t18 : List (Int × (Int × Int))) (t19 : Int) (t20 : Int) : impl_Plain_going_l (k + 1) ((g_rule, g_spots, g_x, g_y, g_way), t18, t19, t20) =
  cond (decide (t20 < t19))
  (cond (inB t20 t18.length)
   (impl_Plain_going_l k ((g_rule, (mput (K := (Int × Int)) (α := Int) (Sh.eqT (.pair (.int .i64) (.int .i64))) g_spots ((t18.getD t20.toNat default).1, (t18.getD t20.toNat default).2.1) ((t18.getD t20.toNat default).2.2)), g_x, g_y, g_way), t18, t19, (w64 (t20 + 1))))
   (none))
  (some (g_rule, g_spots, g_x, g_y, g_way)) := by kernel_rfl
theorem impl_going_run.eq (k : Nat) (g_rule : ByteArray) (g_spots : List ((Int × Int) × Int)) (g_x : Int) (g_y : Int) (g_way : Int) (steps : Int) : impl_going_run (k + 1) ((g_rule, g_spots, g_x, g_y, g_way), steps) =
  (impl_going_run_l k ((g_rule, g_spots, g_x, g_y, g_way), [], steps, 0, ())).bind fun r1 =>
  r1.elim
  (fun r2 => some ((r2.1, r2.2.1), r2.2.2))
  (fun r3 => some (((ofBytes r3.1), true), r3.2)) := by kernel_rfl
theorem impl_going_run_l.eq (k : Nat) (g_rule : ByteArray) (g_spots : List ((Int × Int) × Int)) (g_x : Int) (g_y : Int) (g_way : Int) (out : List Int) (t10 : Int) (t11 : Int) : impl_going_run_l (k + 1) ((g_rule, g_spots, g_x, g_y, g_way), out, t10, t11, ()) =
  cond (decide (t11 < t10))
  ((impl_going_step k (g_rule, g_spots, g_x, g_y, g_way)).bind fun r1 =>
   cond (!r1.1.2)
   (some (.inl (ByteArray.empty, false, r1.2)))
   (cond (fits (out.length + 1) 1)
    (impl_going_run_l k (r1.2, (out ++ [r1.1.1]), t10, (w64 (t11 + 1)), ()))
    (none)))
  (some (.inr (out, (g_rule, g_spots, g_x, g_y, g_way)))) := by kernel_rfl
theorem impl_going_step.eq (k : Nat) (g_rule : ByteArray) (g_spots : List ((Int × Int) × Int)) (g_x : Int) (g_y : Int) (g_way : Int) : impl_going_step (k + 1) (g_rule, g_spots, g_x, g_y, g_way) =
  cond (inB (mget (K := (Int × Int)) (α := Int) (Sh.eqT (.pair (.int .i64) (.int .i64))) g_spots (g_x, g_y) 0) g_rule.size)
  ((impl_quarters k (bt g_rule ((mget (K := (Int × Int)) (α := Int) (Sh.eqT (.pair (.int .i64) (.int .i64))) g_spots (g_x, g_y) 0).toNat))).bind fun r1 =>
   cond ((g_rule.size : Int) != 0)
   ((impl_going_paint k ((g_rule, g_spots, g_x, g_y, ((w64 (g_way + r1)).tmod 4)), g_x, g_y, ((w64 ((mget (K := (Int × Int)) (α := Int) (Sh.eqT (.pair (.int .i64) (.int .i64))) g_spots (g_x, g_y) 0) + 1)).tmod (g_rule.size : Int)))).bind fun r2 =>
    (impl_ahead k r2.2.2.2.2.2).bind fun r3 =>
    cond (inB (mget (K := (Int × Int)) (α := Int) (Sh.eqT (.pair (.int .i64) (.int .i64))) g_spots (g_x, g_y) 0) r2.2.1.size)
    ((impl_going_isPlain k (r2.2.1, r2.2.2.1, (w64 (r2.2.2.2.1 + r3.1)), (w64 (r2.2.2.2.2.1 + r3.2)), r2.2.2.2.2.2)).bind fun r4 =>
     some (((bt r2.2.1 ((mget (K := (Int × Int)) (α := Int) (Sh.eqT (.pair (.int .i64) (.int .i64))) g_spots (g_x, g_y) 0).toNat)), r4), (r2.2.1, r2.2.2.1, (w64 (r2.2.2.2.1 + r3.1)), (w64 (r2.2.2.2.2.1 + r3.2)), r2.2.2.2.2.2)))
    (none))
   (none))
  (none) := by kernel_rfl
theorem impl_quarters.eq (k : Nat) (sign : Int) : impl_quarters (k + 1) sign =
  cond (sign == 76)
  (some 3)
  (cond (sign == 82)
   (some 1)
   (cond (sign == 85)
    (some 2)
    (some 0))) := by kernel_rfl
theorem impl_going_paint.eq (k : Nat) (g_rule : ByteArray) (g_spots : List ((Int × Int) × Int)) (g_x : Int) (g_y : Int) (g_way : Int) (x : Int) (y : Int) (colour : Int) : impl_going_paint (k + 1) ((g_rule, g_spots, g_x, g_y, g_way), x, y, colour) =
  cond (decide (colour > 0))
  (some ((), (g_rule, (mput (K := (Int × Int)) (α := Int) (Sh.eqT (.pair (.int .i64) (.int .i64))) (mdel (K := (Int × Int)) (α := Int) (Sh.eqT (.pair (.int .i64) (.int .i64))) g_spots (x, y)) (x, y) colour), g_x, g_y, g_way)))
  (some ((), (g_rule, (mdel (K := (Int × Int)) (α := Int) (Sh.eqT (.pair (.int .i64) (.int .i64))) g_spots (x, y)), g_x, g_y, g_way))) := by kernel_rfl
theorem impl_ahead.eq (k : Nat) (way : Int) : impl_ahead (k + 1) way =
  cond (inB way 4)
  (cond (inB way 4)
   (some ((([0, 1, 0, (-1)] : List Int).getD way.toNat default), (([(-1), 0, 1, 0] : List Int).getD way.toNat default)))
   (none))
  (none) := by kernel_rfl
theorem impl_going_isPlain.eq (k : Nat) (g_rule : ByteArray) (g_spots : List ((Int × Int) × Int)) (g_x : Int) (g_y : Int) (g_way : Int) : impl_going_isPlain (k + 1) (g_rule, g_spots, g_x, g_y, g_way) =
  (impl_isNear k ([g_x, g_y])).bind fun r1 =>
  cond r1
  (some (decide ((g_spots.length : Int) ≤ 300)))
  (some false) := by kernel_rfl
theorem impl_going_plain.eq (k : Nat) (d : (ByteArray × (List ((Int × Int) × Int) × (Int × (Int × Int))))) : impl_going_plain (k + 1) d = (fun d => plainB d) d := by kernel_rfl
theorem laws_eqPlain.eq (k : Nat) (a_Rule : ByteArray) (a_Spots : List (Int × (Int × Int))) (a_X : Int) (a_Y : Int) (a_Way : Int) (b_Rule : ByteArray) (b_Spots : List (Int × (Int × Int))) (b_X : Int) (b_Y : Int) (b_Way : Int) : laws_eqPlain (k + 1) ((a_Rule, a_Spots, a_X, a_Y, a_Way), (b_Rule, b_Spots, b_X, b_Y, b_Way)) =
  cond (!(strEq a_Rule b_Rule))
  (some false)
  ((laws_eqSpotS k (a_Spots, b_Spots)).bind fun r1 =>
   cond (!r1)
   (some false)
   (cond (a_X != b_X)
    (some false)
    (cond (a_Y != b_Y)
     (some false)
     (cond (a_Way != b_Way)
      (some false)
      (some true))))) := by kernel_rfl
theorem laws_eqSpotS.eq (k : Nat) (a : List (Int × (Int × Int))) (b : List (Int × (Int × Int))) : laws_eqSpotS (k + 1) (a, b) =
  cond ((a.length : Int) != (b.length : Int))
  (some false)
  ((laws_eqSpotS_l k (a, b, 0)).bind fun r1 =>
   r1.elim
   (fun r2 => some r2)
   (fun r3 => some true)) := by kernel_rfl
theorem laws_eqSpotS_l.eq (k : Nat) (a : List (Int × (Int × Int))) (b : List (Int × (Int × Int))) (i : Int) : laws_eqSpotS_l (k + 1) (a, b, i) =
  cond (decide (i < (a.length : Int)))
  (cond (inB i a.length)
   (cond (inB i b.length)
    ((laws_eqSpot k ((a.getD i.toNat default), (b.getD i.toNat default))).bind fun r1 =>
     cond (!r1)
     (some (.inl false))
     (laws_eqSpotS_l k (a, b, (w64 (i + 1)))))
    (none))
   (none))
  (some (.inr ())) := by kernel_rfl
theorem laws_eqSpot.eq (k : Nat) (a_X : Int) (a_Y : Int) (a_Colour : Int) (b_X : Int) (b_Y : Int) (b_Colour : Int) : laws_eqSpot (k + 1) ((a_X, a_Y, a_Colour), (b_X, b_Y, b_Colour)) =
  cond (a_X != b_X)
  (some false)
  (cond (a_Y != b_Y)
   (some false)
   (cond (a_Colour != b_Colour)
    (some false)
    (some true))) := by kernel_rfl
theorem laws_markPlain.eq (k : Nat) (a_Rule : ByteArray) (a_Spots : List (Int × (Int × Int))) (a_X : Int) (a_Y : Int) (a_Way : Int) (k_ : Int) : laws_markPlain (k + 1) ((a_Rule, a_Spots, a_X, a_Y, a_Way), k_) =
  (laws_markSpotS k (a_Spots, k_)).bind fun r1 =>
  some (r1.1, (a_Rule, r1.2, a_X, a_Y, a_Way)) := by kernel_rfl
theorem laws_markSpotS.eq (k : Nat) (a : List (Int × (Int × Int))) (k_ : Int) : laws_markSpotS (k + 1) (a, k_) =
  (laws_markSpotS_l k (a, k_, 0, ())).bind fun r1 =>
  some r1 := by kernel_rfl
theorem laws_markSpotS_l.eq (k : Nat) (a : List (Int × (Int × Int))) (k_ : Int) (i : Int) : laws_markSpotS_l (k + 1) (a, k_, i, ()) =
  cond (decide (i < (a.length : Int)))
  (cond (inB i a.length)
   (cond (inB i ((a.set i.toNat (k_, (a.getD i.toNat default).2)).length))
    (cond (inB i (((a.set i.toNat (k_, (a.getD i.toNat default).2)).set i.toNat (((a.set i.toNat (k_, (a.getD i.toNat default).2)).getD i.toNat default).1, ((w64 (k_ + 1)), ((a.set i.toNat (k_, (a.getD i.toNat default).2)).getD i.toNat default).2.2))).length))
     (laws_markSpotS_l k ((((a.set i.toNat (k_, (a.getD i.toNat default).2)).set i.toNat (((a.set i.toNat (k_, (a.getD i.toNat default).2)).getD i.toNat default).1, ((w64 (k_ + 1)), ((a.set i.toNat (k_, (a.getD i.toNat default).2)).getD i.toNat default).2.2))).set i.toNat ((((a.set i.toNat (k_, (a.getD i.toNat default).2)).set i.toNat (((a.set i.toNat (k_, (a.getD i.toNat default).2)).getD i.toNat default).1, ((w64 (k_ + 1)), ((a.set i.toNat (k_, (a.getD i.toNat default).2)).getD i.toNat default).2.2))).getD i.toNat default).1, ((((a.set i.toNat (k_, (a.getD i.toNat default).2)).set i.toNat (((a.set i.toNat (k_, (a.getD i.toNat default).2)).getD i.toNat default).1, ((w64 (k_ + 1)), ((a.set i.toNat (k_, (a.getD i.toNat default).2)).getD i.toNat default).2.2))).getD i.toNat default).2.1, (w64 ((w64 (k_ + 1)) + 1))))), (w64 ((w64 ((w64 (k_ + 1)) + 1)) + 1)), (w64 (i + 1)), ()))
     (none))
    (none))
   (none))
  (some (k_, a)) := by kernel_rfl
theorem laws_heldPlain.eq (k : Nat) (a_Rule : ByteArray) (a_Spots : List (Int × (Int × Int))) (a_X : Int) (a_Y : Int) (a_Way : Int) (k_ : Int) : laws_heldPlain (k + 1) ((a_Rule, a_Spots, a_X, a_Y, a_Way), k_) =
  (laws_heldSpotS k (a_Spots, k_)).bind fun r1 =>
  cond (decide (r1 < 0))
  (some (-1))
  (some r1) := by kernel_rfl
theorem laws_heldSpotS.eq (k : Nat) (a : List (Int × (Int × Int))) (k_ : Int) : laws_heldSpotS (k + 1) (a, k_) =
  (laws_heldSpotS_l k (a, k_, 0)).bind fun r1 =>
  r1.elim
  (fun r2 => some r2)
  (fun r3 => some r3) := by kernel_rfl
theorem laws_heldSpotS_l.eq (k : Nat) (a : List (Int × (Int × Int))) (k_ : Int) (i : Int) : laws_heldSpotS_l (k + 1) (a, k_, i) =
  cond (decide (i < (a.length : Int)))
  (cond (inB i a.length)
   (cond ((a.getD i.toNat default).1 != k_)
    (some (.inl (-1)))
    (cond (inB i a.length)
     (cond ((a.getD i.toNat default).2.1 != (w64 (k_ + 1)))
      (some (.inl (-1)))
      (cond (inB i a.length)
       (cond ((a.getD i.toNat default).2.2 != (w64 ((w64 (k_ + 1)) + 1)))
        (some (.inl (-1)))
        (laws_heldSpotS_l k (a, (w64 ((w64 ((w64 (k_ + 1)) + 1)) + 1)), (w64 (i + 1)))))
       (none)))
     (none)))
   (none))
  (some (.inr k_)) := by kernel_rfl
theorem laws_FnExactStepPlain.eq (k : Nat) (aP_Rule : ByteArray) (aP_Spots : List (Int × (Int × Int))) (aP_X : Int) (aP_Y : Int) (aP_Way : Int) : laws_FnExactStepPlain (k + 1) (aP_Rule, aP_Spots, aP_X, aP_Y, aP_Way) =
  (laws_szPlain k ((aP_Rule, aP_Spots, aP_X, aP_Y, aP_Way), 1048576)).bind fun r1 =>
  cond (decide (r1 < 0))
  (some true)
  ((laws_toPlain k (aP_Rule, aP_Spots, aP_X, aP_Y, aP_Way)).bind fun r2 =>
   (spec_StepPlain k r2).bind fun r3 =>
   (laws_toPlain k (aP_Rule, aP_Spots, aP_X, aP_Y, aP_Way)).bind fun r4 =>
   (impl_StepPlain k r4).bind fun r5 =>
   (laws_eqPlain k (r5.1, r3.1)).bind fun r6 =>
   cond (!r6)
   (some false)
   (cond (!(r5.2 == r3.2))
    (some false)
    ((laws_toPlain k (aP_Rule, aP_Spots, aP_X, aP_Y, aP_Way)).bind fun r7 =>
     (laws_eqPlain k (r4, r7)).bind fun r8 =>
     cond (!r8)
     (some false)
     ((laws_markPlain k (r4, 1)).bind fun r9 =>
      cond (decide (r9.1 < 0))
      (some false)
      ((laws_eqPlain k (r5.1, r3.1)).bind fun r10 =>
       cond (!r10)
       (some false)
       (cond (!(r5.2 == r3.2))
        (some false)
        ((laws_markPlain k (r5.1, 1)).bind fun r11 =>
         (laws_heldPlain k ((r5.1.1, r11.2.2.1, r5.1.2.2.1, r5.1.2.2.2.1, r5.1.2.2.2.2), 1)).bind fun r12 =>
         cond (decide (r12 < 0))
         (some false)
         (cond (r12 != r11.1)
          (some false)
          ((laws_toPlain k (aP_Rule, aP_Spots, aP_X, aP_Y, aP_Way)).bind fun r13 =>
           (impl_StepPlain k r13).bind fun r14 =>
           (laws_eqPlain k (r14.1, r3.1)).bind fun r15 =>
           cond (!r15)
           (some false)
           (cond (!(r14.2 == r3.2))
            (some false)
            ((laws_heldPlain k ((r5.1.1, r11.2.2.1, r5.1.2.2.1, r5.1.2.2.2.1, r5.1.2.2.2.2), 1)).bind fun r16 =>
             cond (decide (r16 < 0))
             (some false)
             (cond (r16 != r11.1)
              (some false)
              (some true))))))))))))) := by kernel_rfl
theorem spec_StepPlain.eq (k : Nat) (p_Rule : ByteArray) (p_Spots : List (Int × (Int × Int))) (p_X : Int) (p_Y : Int) (p_Way : Int) : spec_StepPlain (k + 1) (p_Rule, p_Spots, p_X, p_Y, p_Way) =
  (spec_enGood k (p_Rule, p_Spots, p_X, p_Y, p_Way)).bind fun r1 =>
  cond (!r1)
  (some ((ByteArray.empty, [], 0, 0, 0), false))
  ((spec_enStep k (p_Rule, p_Spots, p_X, p_Y, p_Way)).bind fun r2 =>
   some r2) := by kernel_rfl
theorem impl_StepPlain.eq (k : Nat) (p_Rule : ByteArray) (p_Spots : List (Int × (Int × Int))) (p_X : Int) (p_Y : Int) (p_Way : Int) : impl_StepPlain (k + 1) (p_Rule, p_Spots, p_X, p_Y, p_Way) =
  (impl_PlainAfter k ((p_Rule, p_Spots, p_X, p_Y, p_Way), 1)).bind fun r1 =>
  some r1 := by kernel_rfl
end Go.Proofs.YthobhonnicadaaaDoorS
