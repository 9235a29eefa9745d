/- What each function computes (printed by wip/sim/gen.py). -/
import Derived.Test.YtblgfbkifhfjpaaGreatDoorTab
namespace Go.Proofs.YtblgfbkifhfjpaaGreatDoorS
open Go Go.Proofs
set_option maxRecDepth 100000
set_option linter.unusedVariables false
theorem laws_FnPlainsMove.eq (k : Nat) (code : List Int) (more : List Int) : laws_FnPlainsMove (k + 1) (code, more) =
  (laws_big k (code, more)).bind fun r1 =>
  cond r1
  (some true)
  ((spec_DrawTurnPlain k code).bind fun r2 =>
   (impl_TurnPlain k r2).bind fun r3 =>
   (spec_TurnPlain k r2).bind fun r4 =>
   (impl_MirrorPlain k r2).bind fun r5 =>
   (spec_MirrorPlain k r2).bind fun r6 =>
   (impl_BoxOfPlain k r2).bind fun r7 =>
   (spec_BoxOfPlain k r2).bind fun r8 =>
   (impl_PictureOf k r2).bind fun r9 =>
   (spec_PictureOf k r2).bind fun r10 =>
   cond (!(r3.2 == r4.2))
   (some false)
   ((laws_dPlain k (r3.1, r4.1)).bind fun r11 =>
    cond (!r11)
    (some false)
    (cond (!(r5.2 == r6.2))
     (some false)
     ((laws_dPlain k (r5.1, r6.1)).bind fun r12 =>
      cond (!r12)
      (some false)
      (cond (!(r7.2 == r8.2))
       (some false)
       ((laws_dSame k (r7.1, r8.1)).bind fun r13 =>
        cond (!r13)
        (some false)
        (cond (!(r9.2 == r10.2))
         (some false)
         (cond (!(strEq r9.1 r10.1))
          (some false)
          ((impl_IsPlain k r2).bind fun r14 =>
           cond (!(r3.2 == r14))
           (some false)
           (cond (!(r5.2 == r3.2))
            (some false)
            (cond (!(r7.2 == r3.2))
             (some false)
             (cond r9.2
              (cond (!r3.2)
               (some false)
               ((laws_FnPlainsMove_c k (more, r2, r3.1, r3.2, r5.1, r7.1, r9.1, r9.2)).bind fun r15 =>
                some r15))
              ((laws_FnPlainsMove_c k (more, r2, r3.1, r3.2, r5.1, r7.1, r9.1, r9.2)).bind fun r16 =>
               some r16))))))))))))) := by kernel_rfl
theorem laws_big.eq (k : Nat) (code : List Int) (more : List Int) : laws_big (k + 1) (code, more) =
  cond (decide ((code.length : Int) > 1048576))
  (some true)
  (some (decide ((more.length : Int) > (w64 (1048576 - (code.length : Int)))))) := by kernel_rfl
theorem spec_DrawTurnPlain.eq (k : Nat) (code : List Int) : spec_DrawTurnPlain (k + 1) code =
  (spec_DrawIsPlain k code).bind fun r1 =>
  some r1 := by kernel_rfl
theorem spec_DrawIsPlain.eq (k : Nat) (code : List Int) : spec_DrawIsPlain (k + 1) code =
  (spec_l1Cur_plain k (code, 0, 0)).bind fun r1 =>
  some r1.1 := by kernel_rfl
theorem spec_l1Cur_plain.eq (k : Nat) (c_code : List Int) (c_at : Int) (c_seed : Int) : spec_l1Cur_plain (k + 1) (c_code, c_at, c_seed) =
  (spec_l1Cur_sureRule k (c_code, c_at, c_seed)).bind fun r1 =>
  (spec_l1Cur_pick k (r1.2, 5)).bind fun r2 =>
  (spec_l1Cur_pick k (r2.2, 5)).bind fun r3 =>
  (spec_l1Cur_pick k (r3.2, 4)).bind fun r4 =>
  (spec_l1Cur_pick k (r4.2, 6)).bind fun r5 =>
  (spec_l1Cur_plain_l k (r5.2, (ByteArray.empty, [], 0, 0, 0), (r1.1, [], (w64 (r2.1 - 2)), (w64 (r3.1 - 2)), r4.1), r5.1, ())).bind fun r6 =>
  (spec_l1Cur_pick k (r6.1, 18)).bind fun r7 =>
  cond (r7.1 == 0)
  ((spec_l1Cur_among k (r7.2, [(-1000), 1000, 1001, 4611686018427387904])).bind fun r8 =>
   some ((r6.2.2.1.1, r6.2.2.1.2.1, r8.1, r6.2.2.1.2.2.2.1, r6.2.2.1.2.2.2.2), r8.2))
  (cond (r7.1 == 1)
   ((spec_l1Cur_pick k (r7.2, 3)).bind fun r9 =>
    (spec_l1Cur_among k (r9.2, [(-3), 0, 3, 1001])).bind fun r10 =>
    (spec_l1Cur_among k (r10.2, [0, 1, 5, 6, (-1)])).bind fun r11 =>
    cond (fits (r6.2.2.1.2.1.length + 1) 24)
    (some ((r6.2.2.1.1, (r6.2.2.1.2.1 ++ [(r9.1, (r10.1, r11.1))]), r6.2.2.1.2.2.1, r6.2.2.1.2.2.2.1, r6.2.2.1.2.2.2.2), r11.2))
    (none))
   (cond (r7.1 == 2)
    ((spec_l1Cur_of k (r7.2, [ByteArray.empty, (bs [76, 82, 88]), (bs [76, 82, 76, 82, 76, 82, 76]), (bs [108])])).bind fun r12 =>
     some ((r12.1, r6.2.2.1.2.1, r6.2.2.1.2.2.1, r6.2.2.1.2.2.2.1, r6.2.2.1.2.2.2.2), r12.2))
    (cond (r7.1 == 3)
     ((spec_l1Cur_among k (r7.2, [(-1), 4])).bind fun r13 =>
      some ((r6.2.2.1.1, r6.2.2.1.2.1, r6.2.2.1.2.2.1, r6.2.2.1.2.2.2.1, r13.1), r13.2))
     (cond (r7.1 == 4)
      ((spec_l1Cur_plain_l_2 k (r7.2, r6.2.1, ((bs [76, 82]), [], r6.2.2.1.2.2.1, r6.2.2.1.2.2.2.1, r6.2.2.1.2.2.2.2), ())).bind fun r14 =>
       some r14.2)
      (cond (r7.1 == 5)
       ((spec_l1Cur_among k (r7.2, [(-990), (-2)])).bind fun r15 =>
        some (((bs [78]), [], r6.2.2.1.2.2.1, r15.1, r6.2.2.1.2.2.2.2), r15.2))
       (some (r6.2.2.1, r7.2))))))) := by kernel_rfl
theorem spec_l1Cur_sureRule.eq (k : Nat) (c_code : List Int) (c_at : Int) (c_seed : Int) : spec_l1Cur_sureRule (k + 1) (c_code, c_at, c_seed) =
  (spec_l1Cur_one k ((c_code, c_at, c_seed), 3)).bind fun r1 =>
  cond r1.1
  (some ((bs [76, 82]), r1.2))
  ((spec_l1Cur_pick k (r1.2, 4)).bind fun r2 =>
   (spec_l1Cur_sureRule_l k (r2.2, ByteArray.empty, (w64 (1 + r2.1)), ())).bind fun r3 =>
   some r3) := by kernel_rfl
theorem spec_l1Cur_one.eq (k : Nat) (c_code : List Int) (c_at : Int) (c_seed : Int) (n : Int) : spec_l1Cur_one (k + 1) ((c_code, c_at, c_seed), n) =
  (spec_l1Cur_pick k ((c_code, c_at, c_seed), n)).bind fun r1 =>
  some ((r1.1 == 0), r1.2) := by kernel_rfl
theorem spec_l1Cur_pick.eq (k : Nat) (c_code : List Int) (c_at : Int) (c_seed : Int) (n : Int) : spec_l1Cur_pick (k + 1) ((c_code, c_at, c_seed), n) =
  cond (decide (n ≤ 1))
  (some (0, (c_code, c_at, c_seed)))
  ((spec_l1Cur_next k (c_code, c_at, c_seed)).bind fun r1 =>
   cond (decide (n > 200))
   ((spec_l1Cur_next k r1.2).bind fun r2 =>
    cond (n != 0)
    (some (((w64 ((w64 (r1.1 * 256)) + r2.1)).tmod n), r2.2))
    (none))
   (cond (n != 0)
    (some ((r1.1.tmod n), r1.2))
    (none))) := by kernel_rfl
theorem spec_l1Cur_next.eq (k : Nat) (c_code : List Int) (c_at : Int) (c_seed : Int) : spec_l1Cur_next (k + 1) (c_code, c_at, c_seed) =
  cond (decide (c_at < (c_code.length : Int)))
  (cond (inB c_at c_code.length)
   (cond (decide ((w64 (c_at + 1)) ≤ (c_code.length : Int)))
    (some ((w64 (c_code.getD c_at.toNat default)), (c_code, (w64 (c_at + 1)), (IntKind.u64.wrap ((IntKind.u64.wrap ((IntKind.u64.wrap (c_seed * 6364136223846793005)) + (IntKind.u64.wrap (w64 (c_code.getD c_at.toNat default))))) + 1442695040888963407)))))
    (some ((w64 (andI .u64 (shrI .u64 (IntKind.u64.wrap ((IntKind.u64.wrap ((IntKind.u64.wrap (c_seed * 6364136223846793005)) + (IntKind.u64.wrap (w64 (c_code.getD c_at.toNat default))))) + 1442695040888963407)) 40) 255)), (c_code, (w64 (c_at + 1)), (IntKind.u64.wrap ((IntKind.u64.wrap ((IntKind.u64.wrap (c_seed * 6364136223846793005)) + (IntKind.u64.wrap (w64 (c_code.getD c_at.toNat default))))) + 1442695040888963407))))))
   (none))
  (cond (decide ((w64 (c_at + 1)) ≤ (c_code.length : Int)))
   (some (0, (c_code, (w64 (c_at + 1)), (IntKind.u64.wrap ((IntKind.u64.wrap ((IntKind.u64.wrap (c_seed * 6364136223846793005)) + 0)) + 1442695040888963407)))))
   (some ((w64 (andI .u64 (shrI .u64 (IntKind.u64.wrap ((IntKind.u64.wrap ((IntKind.u64.wrap (c_seed * 6364136223846793005)) + 0)) + 1442695040888963407)) 40) 255)), (c_code, (w64 (c_at + 1)), (IntKind.u64.wrap ((IntKind.u64.wrap ((IntKind.u64.wrap (c_seed * 6364136223846793005)) + 0)) + 1442695040888963407)))))) := by kernel_rfl
theorem spec_l1Cur_sureRule_l.eq (k : Nat) (c_code : List Int) (c_at : Int) (c_seed : Int) (out : ByteArray) (k_ : Int) : spec_l1Cur_sureRule_l (k + 1) ((c_code, c_at, c_seed), out, k_, ()) =
  cond (decide (k_ > 0))
  ((spec_l1Cur_of k ((c_code, c_at, c_seed), [(bs [76]), (bs [82]), (bs [76]), (bs [82]), (bs [78]), (bs [85])])).bind fun r1 =>
   cond (fitS out r1.1)
   (spec_l1Cur_sureRule_l k (r1.2, (out ++ r1.1), (w64 (k_ - 1)), ()))
   (none))
  (some (out, (c_code, c_at, c_seed))) := by kernel_rfl
theorem spec_l1Cur_of.eq (k : Nat) (c_code : List Int) (c_at : Int) (c_seed : Int) (list : List ByteArray) : spec_l1Cur_of (k + 1) ((c_code, c_at, c_seed), list) =
  (spec_l1Cur_pick k ((c_code, c_at, c_seed), (list.length : Int))).bind fun r1 =>
  cond (inB r1.1 list.length)
  (some ((list.getD r1.1.toNat default), r1.2))
  (none) := by kernel_rfl
theorem spec_l1Cur_plain_l.eq (k : Nat) (c_code : List Int) (c_at : Int) (c_seed : Int) (t2_Rule : ByteArray) (t2_Spots : List (Int × (Int × Int))) (t2_X : Int) (t2_Y : Int) (t2_Way : Int) (p_Rule : ByteArray) (p_Spots : List (Int × (Int × Int))) (p_X : Int) (p_Y : Int) (p_Way : Int) (k_ : Int) : spec_l1Cur_plain_l (k + 1) ((c_code, c_at, c_seed), (t2_Rule, t2_Spots, t2_X, t2_Y, t2_Way), (p_Rule, p_Spots, p_X, p_Y, p_Way), k_, ()) =
  cond (decide (k_ > 0))
  ((spec_l1Cur_pick k ((c_code, c_at, c_seed), 5)).bind fun r1 =>
   (spec_l1Cur_pick k (r1.2, 5)).bind fun r2 =>
   (spec_l1Cur_pick k (r2.2, (p_Rule.size : Int))).bind fun r3 =>
   (spec_enPaint k (p_Spots, (w64 (r1.1 - 2)), (w64 (r2.1 - 2)), r3.1)).bind fun r4 =>
   spec_l1Cur_plain_l k (r3.2, (t2_Rule, t2_Spots, t2_X, t2_Y, t2_Way), (p_Rule, r4, p_X, p_Y, p_Way), (w64 (k_ - 1)), ()))
  (some ((c_code, c_at, c_seed), (t2_Rule, t2_Spots, t2_X, t2_Y, t2_Way), (p_Rule, p_Spots, p_X, p_Y, p_Way), ())) := by kernel_rfl
theorem spec_enPaint.eq (k : Nat) (spots : List (Int × (Int × Int))) (x : Int) (y : Int) (colour : Int) : spec_enPaint (k + 1) (spots, x, y, colour) =
  (spec_enAt k (spots, x, y)).bind fun r1 =>
  cond ((decide ((0 : Int) ≤ r1.1)) && (decide (r1.1 ≤ (spots.length : Int))))
  (cond (fits (0 + (spots.take r1.1.toNat).length) 24)
   (cond (decide (colour > 0))
    (cond (fits (([] ++ (spots.take r1.1.toNat)).length + 1) 24)
     (cond r1.2
      (cond ((decide ((0 : Int) ≤ (w64 (r1.1 + 1)))) && (decide ((w64 (r1.1 + 1)) ≤ (spots.length : Int))))
       (cond (fits ((([] ++ (spots.take r1.1.toNat)) ++ [(x, (y, colour))]).length + ((spots.drop ((w64 (r1.1 + 1)).toNat)).take (spots.length - (w64 (r1.1 + 1)).toNat)).length) 24)
        (some ((([] ++ (spots.take r1.1.toNat)) ++ [(x, (y, colour))]) ++ ((spots.drop ((w64 (r1.1 + 1)).toNat)).take (spots.length - (w64 (r1.1 + 1)).toNat))))
        (none))
       (none))
      (cond ((decide ((0 : Int) ≤ r1.1)) && (decide (r1.1 ≤ (spots.length : Int))))
       (cond (fits ((([] ++ (spots.take r1.1.toNat)) ++ [(x, (y, colour))]).length + ((spots.drop r1.1.toNat).take (spots.length - r1.1.toNat)).length) 24)
        (some ((([] ++ (spots.take r1.1.toNat)) ++ [(x, (y, colour))]) ++ ((spots.drop r1.1.toNat).take (spots.length - r1.1.toNat))))
        (none))
       (none)))
     (none))
    (cond r1.2
     (cond ((decide ((0 : Int) ≤ (w64 (r1.1 + 1)))) && (decide ((w64 (r1.1 + 1)) ≤ (spots.length : Int))))
      (cond (fits (([] ++ (spots.take r1.1.toNat)).length + ((spots.drop ((w64 (r1.1 + 1)).toNat)).take (spots.length - (w64 (r1.1 + 1)).toNat)).length) 24)
       (some (([] ++ (spots.take r1.1.toNat)) ++ ((spots.drop ((w64 (r1.1 + 1)).toNat)).take (spots.length - (w64 (r1.1 + 1)).toNat))))
       (none))
      (none))
     (cond ((decide ((0 : Int) ≤ r1.1)) && (decide (r1.1 ≤ (spots.length : Int))))
      (cond (fits (([] ++ (spots.take r1.1.toNat)).length + ((spots.drop r1.1.toNat).take (spots.length - r1.1.toNat)).length) 24)
       (some (([] ++ (spots.take r1.1.toNat)) ++ ((spots.drop r1.1.toNat).take (spots.length - r1.1.toNat))))
       (none))
      (none))))
   (none))
  (none) := by kernel_rfl
theorem spec_enAt.eq (k : Nat) (spots : List (Int × (Int × Int))) (x : Int) (y : Int) : spec_enAt (k + 1) (spots, x, y) =
  (spec_enAt_l k (spots, x, y, 0, (spots.length : Int))).bind fun r1 =>
  cond (decide (r1.2.2.2 < (r1.1.length : Int)))
  (cond (inB r1.2.2.2 r1.1.length)
   (cond ((r1.1.getD r1.2.2.2.toNat default).1 == r1.2.1)
    (cond (inB r1.2.2.2 r1.1.length)
     (some (r1.2.2.2, ((r1.1.getD r1.2.2.2.toNat default).2.1 == r1.2.2.1)))
     (none))
    (some (r1.2.2.2, false)))
   (none))
  (some (r1.2.2.2, false)) := by kernel_rfl
theorem spec_enAt_l.eq (k : Nat) (spots : List (Int × (Int × Int))) (x : Int) (y : Int) (low : Int) (high : Int) : spec_enAt_l (k + 1) (spots, x, y, low, high) =
  cond (decide (low < high))
  (cond (inB (w64 ((w64 (low + high)).tdiv 2)) spots.length)
   ((spec_enLess k ((spots.getD ((w64 ((w64 (low + high)).tdiv 2)).toNat) default), (x, y, 0))).bind fun r1 =>
    cond r1
    (spec_enAt_l k (spots, x, y, (w64 ((w64 ((w64 (low + high)).tdiv 2)) + 1)), high))
    (spec_enAt_l k (spots, x, y, low, (w64 ((w64 (low + high)).tdiv 2)))))
   (none))
  (some (spots, x, y, low)) := by kernel_rfl
theorem spec_enLess.eq (k : Nat) (a_X : Int) (a_Y : Int) (a_Colour : Int) (b_X : Int) (b_Y : Int) (b_Colour : Int) : spec_enLess (k + 1) ((a_X, a_Y, a_Colour), (b_X, b_Y, b_Colour)) =
  cond (decide (a_Y < b_Y))
  (some true)
  (cond (a_Y == b_Y)
   (some (decide (a_X < b_X)))
   (some false)) := by kernel_rfl
theorem spec_l1Cur_among.eq (k : Nat) (c_code : List Int) (c_at : Int) (c_seed : Int) (list : List Int) : spec_l1Cur_among (k + 1) ((c_code, c_at, c_seed), list) =
  (spec_l1Cur_pick k ((c_code, c_at, c_seed), (list.length : Int))).bind fun r1 =>
  cond (inB r1.1 list.length)
  (some ((list.getD r1.1.toNat default), r1.2))
  (none) := by kernel_rfl
theorem spec_l1Cur_plain_l_2.eq (k : Nat) (c_code : List Int) (c_at : Int) (c_seed : Int) (t2_Rule : ByteArray) (t2_Spots : List (Int × (Int × Int))) (t2_X : Int) (t2_Y : Int) (t2_Way : Int) (p_Rule : ByteArray) (p_Spots : List (Int × (Int × Int))) (p_X : Int) (p_Y : Int) (p_Way : Int) : spec_l1Cur_plain_l_2 (k + 1) ((c_code, c_at, c_seed), (t2_Rule, t2_Spots, t2_X, t2_Y, t2_Way), (p_Rule, p_Spots, p_X, p_Y, p_Way), ()) =
  (spec_l1Cur_pick k ((c_code, c_at, c_seed), 2)).bind fun r1 =>
  cond (decide ((p_Spots.length : Int) < (w64 (300 + r1.1))))
  (cond (fits (p_Spots.length + 1) 24)
   (spec_l1Cur_plain_l_2 k (r1.2, (t2_Rule, t2_Spots, t2_X, t2_Y, t2_Way), (p_Rule, (p_Spots ++ [((p_Spots.length : Int), (7, 1))]), p_X, p_Y, p_Way), ()))
   (none))
  (some ((t2_Rule, t2_Spots, t2_X, t2_Y, t2_Way), (p_Rule, p_Spots, p_X, p_Y, p_Way), r1.2)) := by kernel_rfl
theorem impl_TurnPlain.eq (k : Nat) (p_Rule : ByteArray) (p_Spots : List (Int × (Int × Int))) (p_X : Int) (p_Y : Int) (p_Way : Int) : impl_TurnPlain (k + 1) (p_Rule, p_Spots, p_X, p_Y, p_Way) =
  (impl_IsPlain k (p_Rule, p_Spots, p_X, p_Y, p_Way)).bind fun r1 =>
  cond (!r1)
  (some ((ByteArray.empty, [], 0, 0, 0), false))
  ((impl_Plain_changed k ((p_Rule, p_Spots, p_X, p_Y, ((w64 (p_Way + 1)).tmod 4)), ())).bind fun r2 =>
   some r2) := by kernel_rfl
theorem impl_IsPlain.eq (k : Nat) (p_Rule : ByteArray) (p_Spots : List (Int × (Int × Int))) (p_X : Int) (p_Y : Int) (p_Way : Int) : impl_IsPlain (k + 1) (p_Rule, p_Spots, p_X, p_Y, p_Way) =
  (impl_IsRule k p_Rule).bind fun r1 =>
  cond (!r1)
  (some false)
  (cond (decide ((p_Spots.length : Int) > 300))
   (some false)
   ((impl_isNear k ([p_X, p_Y])).bind fun r2 =>
    cond (!r2)
    (some false)
    ((impl_isWay k p_Way).bind fun r3 =>
     cond (!r3)
     (some false)
     ((impl_IsPlain_l k ((p_Rule, p_Spots, p_X, p_Y, p_Way), (), (p_Spots.length : Int), 0)).bind fun r4 =>
      r4.elim
      (fun r5 => some r5)
      (fun r6 => some true))))) := by kernel_rfl
theorem impl_IsRule.eq (k : Nat) (rule : ByteArray) : impl_IsRule (k + 1) rule =
  (impl_within k ((rule.size : Int), 1, 6)).bind fun r1 =>
  cond r1
  ((strings_Trim k (rule, (bs [76, 82, 78, 85]))).bind fun r2 =>
   some (strEq r2 ByteArray.empty))
  (some false) := by kernel_rfl
theorem impl_within.eq (k : Nat) (n : Int) (low : Int) (high : Int) : impl_within (k + 1) (n, low, high) =
  cond (decide (low ≤ n))
  (some (decide (n ≤ high)))
  (some false) := by kernel_rfl
theorem strings_Trim.eq (k : Nat) (d : ByteArray × ByteArray) : strings_Trim (k + 1) d = (fun d => strTrim d.1 d.2) d := by kernel_rfl
theorem impl_isNear.eq (k : Nat) (list : List Int) : impl_isNear (k + 1) list =
  (impl_areWithin k (list, (-1000), 1000)).bind fun r1 =>
  some r1 := by kernel_rfl
theorem impl_areWithin.eq (k : Nat) (list : List Int) (low : Int) (high : Int) : impl_areWithin (k + 1) (list, low, high) =
  (slices_ContainsFunc k (list, (low, high))).bind fun r1 =>
  some (!r1) := by kernel_rfl
theorem slices_ContainsFunc.eq (k : Nat) (s : List Int) (f_0 : Int) (f_1 : Int) : slices_ContainsFunc (k + 1) (s, (f_0, f_1)) =
  (slices_IndexFunc k (s, (f_0, f_1))).bind fun r1 =>
  some (decide (r1 ≥ 0)) := by kernel_rfl
theorem slices_IndexFunc.eq (k : Nat) (s : List Int) (f_0 : Int) (f_1 : Int) : slices_IndexFunc (k + 1) (s, (f_0, f_1)) =
  (slices_IndexFunc_l k (s, (f_0, f_1), (s.length : Int), 0)).bind fun r1 =>
  r1.elim
  (fun r2 => some r2)
  (fun r3 => some (-1)) := by kernel_rfl
theorem slices_IndexFunc_l.eq (k : Nat) (s : List Int) (f_0 : Int) (f_1 : Int) (t7 : Int) (t8 : Int) : slices_IndexFunc_l (k + 1) (s, (f_0, f_1), t7, t8) =
  cond (decide (t8 < t7))
  (cond (inB t8 s.length)
   ((impl_areWithin_1 k ((s.getD t8.toNat default), f_0, f_1)).bind fun r1 =>
    cond r1
    (some (.inl t8))
    (slices_IndexFunc_l k (s, (f_0, f_1), t7, (w64 (t8 + 1)))))
   (none))
  (some (.inr ())) := by kernel_rfl
theorem impl_areWithin_1.eq (k : Nat) (n : Int) (t1_0 : Int) (t2_0 : Int) : impl_areWithin_1 (k + 1) (n, t1_0, t2_0) =
  (impl_within k (n, t1_0, t2_0)).bind fun r1 =>
  some (!r1) := by kernel_rfl
theorem impl_isWay.eq (k : Nat) (way : Int) : impl_isWay (k + 1) way =
  (impl_within k (way, 0, 3)).bind fun r1 =>
  some r1 := by kernel_rfl
theorem impl_IsPlain_l.eq (k : Nat) (p_Rule : ByteArray) (p_Spots : List (Int × (Int × Int))) (p_X : Int) (p_Y : Int) (p_Way : Int) (t32 : Int) (t33 : Int) : impl_IsPlain_l (k + 1) ((p_Rule, p_Spots, p_X, p_Y, p_Way), (), t32, t33) =
  cond (decide (t33 < t32))
  (cond (inB t33 p_Spots.length)
   ((impl_isNear k ([(p_Spots.getD t33.toNat default).1, (p_Spots.getD t33.toNat default).2.1])).bind fun r1 =>
    cond (!r1)
    (some (.inl false))
    ((impl_within k ((p_Spots.getD t33.toNat default).2.2, 1, (w64 ((p_Rule.size : Int) - 1)))).bind fun r2 =>
     cond (!r2)
     (some (.inl false))
     (cond (decide (t33 > 0))
      (cond (inB (w64 (t33 - 1)) p_Spots.length)
       ((impl_compareSpots k ((p_Spots.getD ((w64 (t33 - 1)).toNat) default), (p_Spots.getD t33.toNat default))).bind fun r3 =>
        cond (decide (r3 ≥ 0))
        (some (.inl false))
        (impl_IsPlain_l k ((p_Rule, p_Spots, p_X, p_Y, p_Way), (), t32, (w64 (t33 + 1)))))
       (none))
      (impl_IsPlain_l k ((p_Rule, p_Spots, p_X, p_Y, p_Way), (), t32, (w64 (t33 + 1)))))))
   (none))
  (some (.inr ())) := by kernel_rfl
theorem impl_compareSpots.eq (k : Nat) (a_X : Int) (a_Y : Int) (a_Colour : Int) (b_X : Int) (b_Y : Int) (b_Colour : Int) : impl_compareSpots (k + 1) ((a_X, a_Y, a_Colour), (b_X, b_Y, b_Colour)) =
  cond (a_Y != b_Y)
  (some (w64 (a_Y - b_Y)))
  (some (w64 (a_X - b_X))) := by kernel_rfl
theorem impl_Plain_changed.eq (k : Nat) (p_Rule : ByteArray) (p_Spots : List (Int × (Int × Int))) (p_X : Int) (p_Y : Int) (p_Way : Int) : impl_Plain_changed (k + 1) ((p_Rule, p_Spots, p_X, p_Y, p_Way), ()) =
  (impl_TurnPlain_1 k (p_X, p_Y)).bind fun r1 =>
  (impl_Plain_changed_l k ((), (ByteArray.empty, [], 0, 0, 0), (p_Rule, [], r1.1, r1.2, p_Way), p_Spots, (p_Spots.length : Int), 0)).bind fun r2 =>
  (slices_SortFunc k (r2.2.2.1, ())).bind fun r3 =>
  (impl_whole k (r2.2.1, r3.2, r2.2.2.2.1, r2.2.2.2.2.1, r2.2.2.2.2.2)).bind fun r4 =>
  some r4 := by kernel_rfl
theorem impl_TurnPlain_1.eq (k : Nat) (x : Int) (y : Int) : impl_TurnPlain_1 (k + 1) (x, y) =
  some ((w64 (0 - y)), x) := by kernel_rfl
theorem impl_Plain_changed_l.eq (k : Nat) (t4_Rule : ByteArray) (t4_Spots : List (Int × (Int × Int))) (t4_X : Int) (t4_Y : Int) (t4_Way : Int) (out_Rule : ByteArray) (out_Spots : List (Int × (Int × Int))) (out_X : Int) (out_Y : Int) (out_Way : Int) (t28 : List (Int × (Int × Int))) (t29 : Int) (t30 : Int) : impl_Plain_changed_l (k + 1) ((), (t4_Rule, t4_Spots, t4_X, t4_Y, t4_Way), (out_Rule, out_Spots, out_X, out_Y, out_Way), t28, t29, t30) =
  cond (decide (t30 < t29))
  (cond (inB t30 t28.length)
   ((impl_TurnPlain_1 k ((t28.getD t30.toNat default).1, (t28.getD t30.toNat default).2.1)).bind fun r1 =>
    cond (fits (out_Spots.length + 1) 24)
    (impl_Plain_changed_l k ((), (t4_Rule, t4_Spots, t4_X, t4_Y, t4_Way), (out_Rule, (out_Spots ++ [(r1.1, (r1.2, (t28.getD t30.toNat default).2.2))]), out_X, out_Y, out_Way), t28, t29, (w64 (t30 + 1))))
    (none))
   (none))
  (some ((t4_Rule, t4_Spots, t4_X, t4_Y, t4_Way), (out_Rule, out_Spots, out_X, out_Y, out_Way))) := by kernel_rfl
theorem slices_SortFunc.eq (k : Nat) (d : List (Int × (Int × Int)) × Unit) : slices_SortFunc (k + 1) d = (fun d => (sortB (s := (.pair (.int .i64) (.pair (.int .i64) (.int .i64)))) nearS nearS0 cmpS d.1).map fun r => ((), r)) d := by kernel_rfl
theorem impl_whole.eq (k : Nat) (p_Rule : ByteArray) (p_Spots : List (Int × (Int × Int))) (p_X : Int) (p_Y : Int) (p_Way : Int) : impl_whole (k + 1) (p_Rule, p_Spots, p_X, p_Y, p_Way) =
  (impl_IsPlain k (p_Rule, p_Spots, p_X, p_Y, p_Way)).bind fun r1 =>
  cond (!r1)
  (some ((ByteArray.empty, [], 0, 0, 0), false))
  (some ((p_Rule, p_Spots, p_X, p_Y, p_Way), true)) := by kernel_rfl
theorem spec_TurnPlain.eq (k : Nat) (p_Rule : ByteArray) (p_Spots : List (Int × (Int × Int))) (p_X : Int) (p_Y : Int) (p_Way : Int) : spec_TurnPlain (k + 1) (p_Rule, p_Spots, p_X, p_Y, p_Way) =
  (spec_enGood k (p_Rule, p_Spots, p_X, p_Y, p_Way)).bind fun r1 =>
  cond (!r1)
  (some ((ByteArray.empty, [], 0, 0, 0), false))
  ((spec_enMap k ((p_Rule, p_Spots, p_X, p_Y, p_Way), (0, (-1), 1, 0, 0, 0))).bind fun r2 =>
   some ((r2.1.1, r2.1.2.1, r2.1.2.2.1, r2.1.2.2.2.1, ((w64 (r2.1.2.2.2.2 + 1)).tmod 4)), true)) := by kernel_rfl
theorem spec_enGood.eq (k : Nat) (p_Rule : ByteArray) (p_Spots : List (Int × (Int × Int))) (p_X : Int) (p_Y : Int) (p_Way : Int) : spec_enGood (k + 1) (p_Rule, p_Spots, p_X, p_Y, p_Way) =
  (spec_woRule k p_Rule).bind fun r1 =>
  cond (!r1)
  (some false)
  (cond (decide ((p_Spots.length : Int) > 300))
   (some false)
   ((spec_enFar k p_X).bind fun r2 =>
    cond (!r2)
    (some false)
    ((spec_enFar k p_Y).bind fun r3 =>
     cond (!r3)
     (some false)
     ((spec_l1In k (p_Way, 0, 3)).bind fun r4 =>
      cond (!r4)
      (some false)
      ((spec_enGood_l k ((p_Rule, p_Spots, p_X, p_Y, p_Way), (), (p_Spots.length : Int), 0)).bind fun r5 =>
       r5.elim
       (fun r6 => some r6)
       (fun r7 => some true)))))) := by kernel_rfl
theorem spec_woRule.eq (k : Nat) (rule : ByteArray) : spec_woRule (k + 1) rule =
  (spec_l1In k ((rule.size : Int), 1, 6)).bind fun r1 =>
  cond (!r1)
  (some false)
  ((spec_woRule_l k (rule, 0)).bind fun r2 =>
   r2.elim
   (fun r3 => some r3)
   (fun r4 => some true)) := by kernel_rfl
theorem spec_l1In.eq (k : Nat) (n : Int) (lo : Int) (hi : Int) : spec_l1In (k + 1) (n, lo, hi) =
  cond (decide (n ≥ lo))
  (some (decide (n ≤ hi)))
  (some false) := by kernel_rfl
theorem spec_woRule_l.eq (k : Nat) (rule : ByteArray) (i : Int) : spec_woRule_l (k + 1) (rule, i) =
  cond (decide (i < (rule.size : Int)))
  (cond (inB i rule.size)
   (cond ((bt rule i.toNat) == 76)
    (spec_woRule_l k (rule, (w64 (i + 1))))
    (cond ((bt rule i.toNat) == 82)
     (spec_woRule_l k (rule, (w64 (i + 1))))
     (cond ((bt rule i.toNat) == 78)
      (spec_woRule_l k (rule, (w64 (i + 1))))
      (cond ((bt rule i.toNat) == 85)
       (spec_woRule_l k (rule, (w64 (i + 1))))
       (some (.inl false))))))
   (none))
  (some (.inr ())) := by kernel_rfl
theorem spec_enFar.eq (k : Nat) (n : Int) : spec_enFar (k + 1) n =
  (spec_l1In k (n, (-1000), 1000)).bind fun r1 =>
  some r1 := by kernel_rfl
theorem spec_enGood_l.eq (k : Nat) (p_Rule : ByteArray) (p_Spots : List (Int × (Int × Int))) (p_X : Int) (p_Y : Int) (p_Way : Int) (t35 : Int) (t36 : Int) : spec_enGood_l (k + 1) ((p_Rule, p_Spots, p_X, p_Y, p_Way), (), t35, t36) =
  cond (decide (t36 < t35))
  (cond (inB t36 p_Spots.length)
   ((spec_enFar k ((p_Spots.getD t36.toNat default).1)).bind fun r1 =>
    cond (!r1)
    (some (.inl false))
    ((spec_enFar k ((p_Spots.getD t36.toNat default).2.1)).bind fun r2 =>
     cond (!r2)
     (some (.inl false))
     ((spec_l1In k ((p_Spots.getD t36.toNat default).2.2, 1, (w64 ((p_Rule.size : Int) - 1)))).bind fun r3 =>
      cond (!r3)
      (some (.inl false))
      (cond (decide (t36 > 0))
       (cond (inB (w64 (t36 - 1)) p_Spots.length)
        ((spec_enLess k ((p_Spots.getD ((w64 (t36 - 1)).toNat) default), (p_Spots.getD t36.toNat default))).bind fun r4 =>
         cond (!r4)
         (some (.inl false))
         (spec_enGood_l k ((p_Rule, p_Spots, p_X, p_Y, p_Way), (), t35, (w64 (t36 + 1)))))
        (none))
       (spec_enGood_l k ((p_Rule, p_Spots, p_X, p_Y, p_Way), (), t35, (w64 (t36 + 1))))))))
   (none))
  (some (.inr ())) := by kernel_rfl
theorem spec_enMap.eq (k : Nat) (p_Rule : ByteArray) (p_Spots : List (Int × (Int × Int))) (p_X : Int) (p_Y : Int) (p_Way : Int) (by_0 : Int) (by_1 : Int) (by_2 : Int) (by_3 : Int) (by_4 : Int) (by_5 : Int) : spec_enMap (k + 1) ((p_Rule, p_Spots, p_X, p_Y, p_Way), (by_0, by_1, by_2, by_3, by_4, by_5)) =
  (spec_enMap_l k ((p_Rule, p_Spots, p_X, p_Y, p_Way), (by_0, by_1, by_2, by_3, by_4, by_5), (ByteArray.empty, [], 0, 0, 0), (p_Rule, [], 0, 0, p_Way), (), (p_Spots.length : Int), 0)).bind fun r1 =>
  (spec_enGood k (r1.2.2.2.1, r1.2.2.2.2.1, (w64 ((w64 ((w64 (r1.2.1.1 * r1.1.2.2.1)) + (w64 (r1.2.1.2.1 * r1.1.2.2.2.1)))) + r1.2.1.2.2.2.2.1)), (w64 ((w64 ((w64 (r1.2.1.2.2.1 * r1.1.2.2.1)) + (w64 (r1.2.1.2.2.2.1 * r1.1.2.2.2.1)))) + r1.2.1.2.2.2.2.2)), r1.2.2.2.2.2.2.2)).bind fun r2 =>
  some ((r1.2.2.2.1, r1.2.2.2.2.1, (w64 ((w64 ((w64 (r1.2.1.1 * r1.1.2.2.1)) + (w64 (r1.2.1.2.1 * r1.1.2.2.2.1)))) + r1.2.1.2.2.2.2.1)), (w64 ((w64 ((w64 (r1.2.1.2.2.1 * r1.1.2.2.1)) + (w64 (r1.2.1.2.2.2.1 * r1.1.2.2.2.1)))) + r1.2.1.2.2.2.2.2)), r1.2.2.2.2.2.2.2), r2) := by kernel_rfl
theorem spec_enMap_l.eq (k : Nat) (p_Rule : ByteArray) (p_Spots : List (Int × (Int × Int))) (p_X : Int) (p_Y : Int) (p_Way : Int) (by_0 : Int) (by_1 : Int) (by_2 : Int) (by_3 : Int) (by_4 : Int) (by_5 : Int) (t4_Rule : ByteArray) (t4_Spots : List (Int × (Int × Int))) (t4_X : Int) (t4_Y : Int) (t4_Way : Int) (out_Rule : ByteArray) (out_Spots : List (Int × (Int × Int))) (out_X : Int) (out_Y : Int) (out_Way : Int) (t16 : Int) (t17 : Int) : spec_enMap_l (k + 1) ((p_Rule, p_Spots, p_X, p_Y, p_Way), (by_0, by_1, by_2, by_3, by_4, by_5), (t4_Rule, t4_Spots, t4_X, t4_Y, t4_Way), (out_Rule, out_Spots, out_X, out_Y, out_Way), (), t16, t17) =
  cond (decide (t17 < t16))
  (cond (inB t17 p_Spots.length)
   ((spec_enPaint k (out_Spots, (w64 ((w64 ((w64 (by_0 * (p_Spots.getD t17.toNat default).1)) + (w64 (by_1 * (p_Spots.getD t17.toNat default).2.1)))) + by_4)), (w64 ((w64 ((w64 (by_2 * (p_Spots.getD t17.toNat default).1)) + (w64 (by_3 * (p_Spots.getD t17.toNat default).2.1)))) + by_5)), (p_Spots.getD t17.toNat default).2.2)).bind fun r1 =>
    spec_enMap_l k ((p_Rule, p_Spots, p_X, p_Y, p_Way), (by_0, by_1, by_2, by_3, by_4, by_5), (t4_Rule, t4_Spots, t4_X, t4_Y, t4_Way), (out_Rule, r1, out_X, out_Y, out_Way), (), t16, (w64 (t17 + 1))))
   (none))
  (some ((p_Rule, p_Spots, p_X, p_Y, p_Way), (by_0, by_1, by_2, by_3, by_4, by_5), (t4_Rule, t4_Spots, t4_X, t4_Y, t4_Way), (out_Rule, out_Spots, out_X, out_Y, out_Way))) := by kernel_rfl
theorem impl_MirrorPlain.eq (k : Nat) (p_Rule : ByteArray) (p_Spots : List (Int × (Int × Int))) (p_X : Int) (p_Y : Int) (p_Way : Int) : impl_MirrorPlain (k + 1) (p_Rule, p_Spots, p_X, p_Y, p_Way) =
  (impl_IsPlain k (p_Rule, p_Spots, p_X, p_Y, p_Way)).bind fun r1 =>
  cond (!r1)
  (some ((ByteArray.empty, [], 0, 0, 0), false))
  ((impl_other k p_Rule).bind fun r2 =>
   (impl_otherWay k p_Way).bind fun r3 =>
   (impl_Plain_changed_2 k ((r2, p_Spots, p_X, p_Y, r3), ())).bind fun r4 =>
   some r4) := by kernel_rfl
theorem impl_other.eq (k : Nat) (d : ByteArray) : impl_other (k + 1) d = (fun d => otherB 76 82 d) d := by kernel_rfl
theorem impl_otherWay.eq (k : Nat) (way : Int) : impl_otherWay (k + 1) way =
  some ((w64 (4 - way)).tmod 4) := by kernel_rfl
theorem impl_Plain_changed_2.eq (k : Nat) (p_Rule : ByteArray) (p_Spots : List (Int × (Int × Int))) (p_X : Int) (p_Y : Int) (p_Way : Int) : impl_Plain_changed_2 (k + 1) ((p_Rule, p_Spots, p_X, p_Y, p_Way), ()) =
  (impl_MirrorPlain_1 k (p_X, p_Y)).bind fun r1 =>
  (impl_Plain_changed_2_l k ((), (ByteArray.empty, [], 0, 0, 0), (p_Rule, [], r1.1, r1.2, p_Way), p_Spots, (p_Spots.length : Int), 0)).bind fun r2 =>
  (slices_SortFunc k (r2.2.2.1, ())).bind fun r3 =>
  (impl_whole k (r2.2.1, r3.2, r2.2.2.2.1, r2.2.2.2.2.1, r2.2.2.2.2.2)).bind fun r4 =>
  some r4 := by kernel_rfl
theorem impl_MirrorPlain_1.eq (k : Nat) (x : Int) (y : Int) : impl_MirrorPlain_1 (k + 1) (x, y) =
  some ((w64 (0 - x)), y) := by kernel_rfl
theorem impl_Plain_changed_2_l.eq (k : Nat) (t4_Rule : ByteArray) (t4_Spots : List (Int × (Int × Int))) (t4_X : Int) (t4_Y : Int) (t4_Way : Int) (out_Rule : ByteArray) (out_Spots : List (Int × (Int × Int))) (out_X : Int) (out_Y : Int) (out_Way : Int) (t28 : List (Int × (Int × Int))) (t29 : Int) (t30 : Int) : impl_Plain_changed_2_l (k + 1) ((), (t4_Rule, t4_Spots, t4_X, t4_Y, t4_Way), (out_Rule, out_Spots, out_X, out_Y, out_Way), t28, t29, t30) =
  cond (decide (t30 < t29))
  (cond (inB t30 t28.length)
   ((impl_MirrorPlain_1 k ((t28.getD t30.toNat default).1, (t28.getD t30.toNat default).2.1)).bind fun r1 =>
    cond (fits (out_Spots.length + 1) 24)
    (impl_Plain_changed_2_l k ((), (t4_Rule, t4_Spots, t4_X, t4_Y, t4_Way), (out_Rule, (out_Spots ++ [(r1.1, (r1.2, (t28.getD t30.toNat default).2.2))]), out_X, out_Y, out_Way), t28, t29, (w64 (t30 + 1))))
    (none))
   (none))
  (some ((t4_Rule, t4_Spots, t4_X, t4_Y, t4_Way), (out_Rule, out_Spots, out_X, out_Y, out_Way))) := by kernel_rfl
theorem spec_MirrorPlain.eq (k : Nat) (p_Rule : ByteArray) (p_Spots : List (Int × (Int × Int))) (p_X : Int) (p_Y : Int) (p_Way : Int) : spec_MirrorPlain (k + 1) (p_Rule, p_Spots, p_X, p_Y, p_Way) =
  (spec_enGood k (p_Rule, p_Spots, p_X, p_Y, p_Way)).bind fun r1 =>
  cond (!r1)
  (some ((ByteArray.empty, [], 0, 0, 0), false))
  ((spec_enMap k ((p_Rule, p_Spots, p_X, p_Y, p_Way), ((-1), 0, 0, 1, 0, 0))).bind fun r2 =>
   (spec_woOther k p_Rule).bind fun r3 =>
   some ((r3, r2.1.2.1, r2.1.2.2.1, r2.1.2.2.2.1, ((w64 (4 - r2.1.2.2.2.2)).tmod 4)), true)) := by kernel_rfl
theorem spec_woOther.eq (k : Nat) (rule : ByteArray) : spec_woOther (k + 1) rule =
  (spec_woOther_l k (rule, ByteArray.empty, 0)).bind fun r1 =>
  some r1 := by kernel_rfl
theorem spec_woOther_l.eq (k : Nat) (rule : ByteArray) (out : ByteArray) (i : Int) : spec_woOther_l (k + 1) (rule, out, i) =
  cond (decide (i < (rule.size : Int)))
  (cond (inB i rule.size)
   (cond ((bt rule i.toNat) == 76)
    (cond (fitS out (bs [82]))
     (spec_woOther_l k (rule, (out ++ (bs [82])), (w64 (i + 1))))
     (none))
    (cond ((bt rule i.toNat) == 82)
     (cond (fitS out (bs [76]))
      (spec_woOther_l k (rule, (out ++ (bs [76])), (w64 (i + 1))))
      (none))
     (cond (((decide ((0 : Int) ≤ (w64 (i + 1)))) && (decide ((w64 (i + 1)) ≤ (rule.size : Int)))) && ((decide ((0 : Int) ≤ i)) && (decide (i ≤ (w64 (i + 1))))))
      (cond (fitS out (rule.extract i.toNat ((w64 (i + 1)).toNat)))
       (spec_woOther_l k (rule, (out ++ (rule.extract i.toNat ((w64 (i + 1)).toNat))), (w64 (i + 1))))
       (none))
      (none))))
   (none))
  (some out) := by kernel_rfl
theorem impl_BoxOfPlain.eq (k : Nat) (p_Rule : ByteArray) (p_Spots : List (Int × (Int × Int))) (p_X : Int) (p_Y : Int) (p_Way : Int) : impl_BoxOfPlain (k + 1) (p_Rule, p_Spots, p_X, p_Y, p_Way) =
  (impl_IsPlain k (p_Rule, p_Spots, p_X, p_Y, p_Way)).bind fun r1 =>
  cond (!r1)
  (some ([], false))
  ((impl_Plain_box k (p_Rule, p_Spots, p_X, p_Y, p_Way)).bind fun r2 =>
   some (r2, true)) := by kernel_rfl
theorem impl_Plain_box.eq (k : Nat) (p_Rule : ByteArray) (p_Spots : List (Int × (Int × Int))) (p_X : Int) (p_Y : Int) (p_Way : Int) : impl_Plain_box (k + 1) (p_Rule, p_Spots, p_X, p_Y, p_Way) =
  (impl_Plain_box_l k ([(p_X, p_Y)], p_Spots, (p_Spots.length : Int), 0)).bind fun r1 =>
  (impl_box k r1).bind fun r2 =>
  some r2 := by kernel_rfl
theorem impl_Plain_box_l.eq (k : Nat) (list : List (Int × Int)) (t13 : List (Int × (Int × Int))) (t14 : Int) (t15 : Int) : impl_Plain_box_l (k + 1) (list, t13, t14, t15) =
  cond (decide (t15 < t14))
  (cond (inB t15 t13.length)
   (cond (fits (list.length + 1) 16)
    (impl_Plain_box_l k ((list ++ [((t13.getD t15.toNat default).1, (t13.getD t15.toNat default).2.1)]), t13, t14, (w64 (t15 + 1))))
    (none))
   (none))
  (some list) := by kernel_rfl
theorem impl_box.eq (k : Nat) (list : List (Int × Int)) : impl_box (k + 1) list =
  cond (inB 0 list.length)
  (cond (inB 0 list.length)
   (cond (inB 0 list.length)
    (cond (inB 0 list.length)
     ((impl_box_l k ([(list.getD 0 default).1, (list.getD 0 default).1, (list.getD 0 default).2, (list.getD 0 default).2], list, (list.length : Int), 0)).bind fun r1 =>
      some r1)
     (none))
    (none))
   (none))
  (none) := by kernel_rfl
theorem impl_box_l.eq (k : Nat) (out : List Int) (t23 : List (Int × Int)) (t24 : Int) (t25 : Int) : impl_box_l (k + 1) (out, t23, t24, t25) =
  cond (decide (t25 < t24))
  (cond (inB t25 t23.length)
   (cond (inB 0 out.length)
    (cond (inB 1 out.length)
     (cond (inB 2 out.length)
      (cond (inB 3 out.length)
       (impl_box_l k ([(if (t23.getD t25.toNat default).1 < (out.getD 0 default) then (t23.getD t25.toNat default).1 else (out.getD 0 default)), (if (t23.getD t25.toNat default).1 > (out.getD 1 default) then (t23.getD t25.toNat default).1 else (out.getD 1 default)), (if (t23.getD t25.toNat default).2 < (out.getD 2 default) then (t23.getD t25.toNat default).2 else (out.getD 2 default)), (if (t23.getD t25.toNat default).2 > (out.getD 3 default) then (t23.getD t25.toNat default).2 else (out.getD 3 default))], t23, t24, (w64 (t25 + 1))))
       (none))
      (none))
     (none))
    (none))
   (none))
  (some out) := by kernel_rfl
theorem spec_BoxOfPlain.eq (k : Nat) (p_Rule : ByteArray) (p_Spots : List (Int × (Int × Int))) (p_X : Int) (p_Y : Int) (p_Way : Int) : spec_BoxOfPlain (k + 1) (p_Rule, p_Spots, p_X, p_Y, p_Way) =
  (spec_enGood k (p_Rule, p_Spots, p_X, p_Y, p_Way)).bind fun r1 =>
  cond (!r1)
  (some ([], false))
  ((spec_enBox k (p_Rule, p_Spots, p_X, p_Y, p_Way)).bind fun r2 =>
   some (r2, true)) := by kernel_rfl
theorem spec_enBox.eq (k : Nat) (p_Rule : ByteArray) (p_Spots : List (Int × (Int × Int))) (p_X : Int) (p_Y : Int) (p_Way : Int) : spec_enBox (k + 1) (p_Rule, p_Spots, p_X, p_Y, p_Way) =
  (spec_enBox_l k ([p_X, p_X, p_Y, p_Y], p_Spots, (p_Spots.length : Int), 0)).bind fun r1 =>
  some r1 := by kernel_rfl
theorem spec_enBox_l.eq (k : Nat) (out : List Int) (t16 : List (Int × (Int × Int))) (t17 : Int) (t18 : Int) : spec_enBox_l (k + 1) (out, t16, t17, t18) =
  cond (decide (t18 < t17))
  (cond (inB t18 t16.length)
   (cond (inB 0 out.length)
    ((spec_l1Least k ((out.getD 0 default), (t16.getD t18.toNat default).1)).bind fun r1 =>
     cond (inB 0 out.length)
     (cond (inB 1 ((out.set 0 r1).length))
      ((spec_l1Most k (((out.set 0 r1).getD 1 default), (t16.getD t18.toNat default).1)).bind fun r2 =>
       cond (inB 1 ((out.set 0 r1).length))
       (cond (inB 2 (((out.set 0 r1).set 1 r2).length))
        ((spec_l1Least k ((((out.set 0 r1).set 1 r2).getD 2 default), (t16.getD t18.toNat default).2.1)).bind fun r3 =>
         cond (inB 2 (((out.set 0 r1).set 1 r2).length))
         (cond (inB 3 ((((out.set 0 r1).set 1 r2).set 2 r3).length))
          ((spec_l1Most k (((((out.set 0 r1).set 1 r2).set 2 r3).getD 3 default), (t16.getD t18.toNat default).2.1)).bind fun r4 =>
           cond (inB 3 ((((out.set 0 r1).set 1 r2).set 2 r3).length))
           (spec_enBox_l k (((((out.set 0 r1).set 1 r2).set 2 r3).set 3 r4), t16, t17, (w64 (t18 + 1))))
           (none))
          (none))
         (none))
        (none))
       (none))
      (none))
     (none))
    (none))
   (none))
  (some out) := by kernel_rfl
theorem spec_l1Least.eq (k : Nat) (a : Int) (b : Int) : spec_l1Least (k + 1) (a, b) =
  cond (decide (a < b))
  (some a)
  (some b) := by kernel_rfl
theorem spec_l1Most.eq (k : Nat) (a : Int) (b : Int) : spec_l1Most (k + 1) (a, b) =
  cond (decide (a > b))
  (some a)
  (some b) := by kernel_rfl
theorem impl_PictureOf.eq (k : Nat) (p_Rule : ByteArray) (p_Spots : List (Int × (Int × Int))) (p_X : Int) (p_Y : Int) (p_Way : Int) : impl_PictureOf (k + 1) (p_Rule, p_Spots, p_X, p_Y, p_Way) =
  (impl_IsPlain k (p_Rule, p_Spots, p_X, p_Y, p_Way)).bind fun r1 =>
  cond (!r1)
  (some (ByteArray.empty, false))
  ((impl_Plain_box k (p_Rule, p_Spots, p_X, p_Y, p_Way)).bind fun r2 =>
   (impl_Plain_going k (p_Rule, p_Spots, p_X, p_Y, p_Way)).bind fun r3 =>
   cond (inB 1 r2.length)
   (cond (inB 0 r2.length)
    (cond (decide ((w64 ((r2.getD 1 default) - (r2.getD 0 default))) ≥ 40))
     (some (ByteArray.empty, false))
     (cond (inB 3 r2.length)
      (cond (inB 2 r2.length)
       (cond (decide ((w64 ((r2.getD 3 default) - (r2.getD 2 default))) ≥ 40))
        (some (ByteArray.empty, false))
        (cond (inB 2 r2.length)
         ((impl_PictureOf_l k (r2, r3.2.1, [], (r2.getD 2 default))).bind fun r4 =>
          (strings_Join k (r4, (bs [47]))).bind fun r5 =>
          some (r5, true))
         (none)))
       (none))
      (none)))
    (none))
   (none)) := by kernel_rfl
theorem impl_Plain_going.eq (k : Nat) (p_Rule : ByteArray) (p_Spots : List (Int × (Int × Int))) (p_X : Int) (p_Y : Int) (p_Way : Int) : impl_Plain_going (k + 1) (p_Rule, p_Spots, p_X, p_Y, p_Way) =
  (impl_Plain_going_l k ((p_Rule, [], p_X, p_Y, p_Way), p_Spots, (p_Spots.length : Int), 0)).bind fun r1 =>
  some r1 := by kernel_rfl
theorem impl_Plain_going_l.eq (k : Nat) (g_rule : ByteArray) (g_spots : List ((Int × Int) × Int)) (g_x : Int) (g_y : Int) (g_way : Int) (t18 : List (Int × (Int × Int))) (t19 : Int) (t20 : Int) : impl_Plain_going_l (k + 1) ((g_rule, g_spots, g_x, g_y, g_way), t18, t19, t20) =
  cond (decide (t20 < t19))
  (cond (inB t20 t18.length)
   (impl_Plain_going_l k ((g_rule, (mput (K := (Int × Int)) (α := Int) (Sh.eqT (.pair (.int .i64) (.int .i64))) g_spots ((t18.getD t20.toNat default).1, (t18.getD t20.toNat default).2.1) ((t18.getD t20.toNat default).2.2)), g_x, g_y, g_way), t18, t19, (w64 (t20 + 1))))
   (none))
  (some (g_rule, g_spots, g_x, g_y, g_way)) := by kernel_rfl
theorem impl_PictureOf_l.eq (k : Nat) (b : List Int) (spots : List ((Int × Int) × Int)) (rows : List ByteArray) (y : Int) : impl_PictureOf_l (k + 1) (b, spots, rows, y) =
  cond (inB 3 b.length)
  (cond (decide (y ≤ (b.getD 3 default)))
   (cond (inB 0 b.length)
    ((impl_PictureOf_l_l k (b, spots, rows, y, [], (b.getD 0 default))).bind fun r1 =>
     cond (fits (r1.2.2.1.length + 1) 16)
     (impl_PictureOf_l k (r1.1, r1.2.1, (r1.2.2.1 ++ [(ofBytes r1.2.2.2.2)]), (w64 (r1.2.2.2.1 + 1))))
     (none))
    (none))
   (some rows))
  (none) := by kernel_rfl
theorem impl_PictureOf_l_l.eq (k : Nat) (b : List Int) (spots : List ((Int × Int) × Int)) (rows : List ByteArray) (y : Int) (row : List Int) (x : Int) : impl_PictureOf_l_l (k + 1) (b, spots, rows, y, row, x) =
  cond (inB 1 b.length)
  (cond (decide (x ≤ (b.getD 1 default)))
   (cond (fits (row.length + 1) 1)
    (impl_PictureOf_l_l k (b, spots, rows, y, (row ++ [(w8 (w64 (48 + (mget (K := (Int × Int)) (α := Int) (Sh.eqT (.pair (.int .i64) (.int .i64))) spots (x, y) 0))))]), (w64 (x + 1))))
    (none))
   (some (b, spots, rows, y, row)))
  (none) := by kernel_rfl
theorem strings_Join.eq (k : Nat) (d : List ByteArray × ByteArray) : strings_Join (k + 1) d = (fun d => joinS d.1 d.2) d := by kernel_rfl
theorem spec_PictureOf.eq (k : Nat) (p_Rule : ByteArray) (p_Spots : List (Int × (Int × Int))) (p_X : Int) (p_Y : Int) (p_Way : Int) : spec_PictureOf (k + 1) (p_Rule, p_Spots, p_X, p_Y, p_Way) =
  (spec_enGood k (p_Rule, p_Spots, p_X, p_Y, p_Way)).bind fun r1 =>
  cond (!r1)
  (some (ByteArray.empty, false))
  ((spec_enBox k (p_Rule, p_Spots, p_X, p_Y, p_Way)).bind fun r2 =>
   cond (inB 1 r2.length)
   (cond (inB 0 r2.length)
    (cond (decide ((w64 ((r2.getD 1 default) - (r2.getD 0 default))) > 39))
     (some (ByteArray.empty, false))
     (cond (inB 3 r2.length)
      (cond (inB 2 r2.length)
       (cond (decide ((w64 ((r2.getD 3 default) - (r2.getD 2 default))) > 39))
        (some (ByteArray.empty, false))
        (cond (inB 2 r2.length)
         ((spec_PictureOf_l k ((p_Rule, p_Spots, p_X, p_Y, p_Way), r2, ByteArray.empty, (r2.getD 2 default))).bind fun r3 =>
          some (r3, true))
         (none)))
       (none))
      (none)))
    (none))
   (none)) := by kernel_rfl
theorem spec_PictureOf_l.eq (k : Nat) (p_Rule : ByteArray) (p_Spots : List (Int × (Int × Int))) (p_X : Int) (p_Y : Int) (p_Way : Int) (box : List Int) (out : ByteArray) (y : Int) : spec_PictureOf_l (k + 1) ((p_Rule, p_Spots, p_X, p_Y, p_Way), box, out, y) =
  cond (inB 3 box.length)
  (cond (decide (y ≤ (box.getD 3 default)))
   (cond (inB 2 box.length)
    (cond (decide (y > (box.getD 2 default)))
     (cond (fitS out (bs [47]))
      (cond (inB 0 box.length)
       ((spec_PictureOf_l_l k ((p_Rule, p_Spots, p_X, p_Y, p_Way), box, (out ++ (bs [47])), y, (box.getD 0 default))).bind fun r1 =>
        spec_PictureOf_l k (r1.1, r1.2.1, r1.2.2.1, (w64 (r1.2.2.2 + 1))))
       (none))
      (none))
     (cond (inB 0 box.length)
      ((spec_PictureOf_l_l k ((p_Rule, p_Spots, p_X, p_Y, p_Way), box, out, y, (box.getD 0 default))).bind fun r2 =>
       spec_PictureOf_l k (r2.1, r2.2.1, r2.2.2.1, (w64 (r2.2.2.2 + 1))))
      (none)))
    (none))
   (some out))
  (none) := by kernel_rfl
theorem spec_PictureOf_l_l.eq (k : Nat) (p_Rule : ByteArray) (p_Spots : List (Int × (Int × Int))) (p_X : Int) (p_Y : Int) (p_Way : Int) (box : List Int) (out : ByteArray) (y : Int) (x : Int) : spec_PictureOf_l_l (k + 1) ((p_Rule, p_Spots, p_X, p_Y, p_Way), box, out, y, x) =
  cond (inB 1 box.length)
  (cond (decide (x ≤ (box.getD 1 default)))
   ((spec_enColour k ((p_Rule, p_Spots, p_X, p_Y, p_Way), x, y)).bind fun r1 =>
    (spec_l1Num k r1).bind fun r2 =>
    cond (fitS out r2)
    (spec_PictureOf_l_l k ((p_Rule, p_Spots, p_X, p_Y, p_Way), box, (out ++ r2), y, (w64 (x + 1))))
    (none))
   (some ((p_Rule, p_Spots, p_X, p_Y, p_Way), box, out, y)))
  (none) := by kernel_rfl
theorem spec_enColour.eq (k : Nat) (p_Rule : ByteArray) (p_Spots : List (Int × (Int × Int))) (p_X : Int) (p_Y : Int) (p_Way : Int) (x : Int) (y : Int) : spec_enColour (k + 1) ((p_Rule, p_Spots, p_X, p_Y, p_Way), x, y) =
  (spec_enAt k (p_Spots, x, y)).bind fun r1 =>
  cond r1.2
  (cond (inB r1.1 p_Spots.length)
   (some ((p_Spots.getD r1.1.toNat default).2.2))
   (none))
  (some 0) := by kernel_rfl
theorem spec_l1Num.eq (k : Nat) (n : Int) : spec_l1Num (k + 1) n =
  cond (decide (n < 10))
  (some (ofBytes [(w8 (w64 (48 + n)))]))
  ((spec_l1Num k (w64 (n.tdiv 10))).bind fun r1 =>
   cond (fitS r1 (ofBytes [(w8 (w64 (48 + (n.tmod 10))))]))
   (some (r1 ++ (ofBytes [(w8 (w64 (48 + (n.tmod 10))))])))
   (none)) := by kernel_rfl
theorem laws_dPlain.eq (k : Nat) (a_Rule : ByteArray) (a_Spots : List (Int × (Int × Int))) (a_X : Int) (a_Y : Int) (a_Way : Int) (b_Rule : ByteArray) (b_Spots : List (Int × (Int × Int))) (b_X : Int) (b_Y : Int) (b_Way : Int) : laws_dPlain (k + 1) ((a_Rule, a_Spots, a_X, a_Y, a_Way), (b_Rule, b_Spots, b_X, b_Y, b_Way)) =
  cond (!(strEq a_Rule b_Rule))
  (some false)
  (cond (a_X != b_X)
   (some false)
   (cond (a_Y != b_Y)
    (some false)
    (cond (a_Way != b_Way)
     (some false)
     (cond ((a_Spots.length : Int) != (b_Spots.length : Int))
      (some false)
      ((laws_dPlain_l k ((a_Rule, a_Spots, a_X, a_Y, a_Way), (b_Rule, b_Spots, b_X, b_Y, b_Way), (a_Spots.length : Int), 0)).bind fun r1 =>
       r1.elim
       (fun r2 => some r2)
       (fun r3 => some true)))))) := by kernel_rfl
theorem laws_dPlain_l.eq (k : Nat) (a_Rule : ByteArray) (a_Spots : List (Int × (Int × Int))) (a_X : Int) (a_Y : Int) (a_Way : Int) (b_Rule : ByteArray) (b_Spots : List (Int × (Int × Int))) (b_X : Int) (b_Y : Int) (b_Way : Int) (t43 : Int) (t44 : Int) : laws_dPlain_l (k + 1) ((a_Rule, a_Spots, a_X, a_Y, a_Way), (b_Rule, b_Spots, b_X, b_Y, b_Way), t43, t44) =
  cond (decide (t44 < t43))
  (cond (inB t44 a_Spots.length)
   (cond (inB t44 b_Spots.length)
    (cond (!(((a_Spots.getD t44.toNat default).1 == (b_Spots.getD t44.toNat default).1) && (((a_Spots.getD t44.toNat default).2.1 == (b_Spots.getD t44.toNat default).2.1) && (((a_Spots.getD t44.toNat default).2.2 == (b_Spots.getD t44.toNat default).2.2) && true))))
     (some (.inl false))
     (laws_dPlain_l k ((a_Rule, a_Spots, a_X, a_Y, a_Way), (b_Rule, b_Spots, b_X, b_Y, b_Way), t43, (w64 (t44 + 1)))))
    (none))
   (none))
  (some (.inr ())) := by kernel_rfl
theorem laws_dSame.eq (k : Nat) (a : List Int) (b : List Int) : laws_dSame (k + 1) (a, b) =
  cond ((a.length : Int) != (b.length : Int))
  (some false)
  ((laws_dSame_l k (a, b, (a.length : Int), 0)).bind fun r1 =>
   r1.elim
   (fun r2 => some r2)
   (fun r3 => some true)) := by kernel_rfl
theorem laws_dSame_l.eq (k : Nat) (a : List Int) (b : List Int) (t12 : Int) (t13 : Int) : laws_dSame_l (k + 1) (a, b, t12, t13) =
  cond (decide (t13 < t12))
  (cond (inB t13 a.length)
   (cond (inB t13 b.length)
    (cond ((a.getD t13.toNat default) != (b.getD t13.toNat default))
     (some (.inl false))
     (laws_dSame_l k (a, b, t12, (w64 (t13 + 1)))))
    (none))
   (none))
  (some (.inr ())) := by kernel_rfl
theorem laws_FnPlainsMove_c.eq (k : Nat) (more : List Int) (p_Rule : ByteArray) (p_Spots : List (Int × (Int × Int))) (p_X : Int) (p_Y : Int) (p_Way : Int) (turned_Rule : ByteArray) (turned_Spots : List (Int × (Int × Int))) (turned_X : Int) (turned_Y : Int) (turned_Way : Int) (ok : Bool) (mirror_Rule : ByteArray) (mirror_Spots : List (Int × (Int × Int))) (mirror_X : Int) (mirror_Y : Int) (mirror_Way : Int) (box : List Int) (picture : ByteArray) (five : Bool) : laws_FnPlainsMove_c (k + 1) (more, (p_Rule, p_Spots, p_X, p_Y, p_Way), (turned_Rule, turned_Spots, turned_X, turned_Y, turned_Way), ok, (mirror_Rule, mirror_Spots, mirror_X, mirror_Y, mirror_Way), box, picture, five) =
  cond ok
  ((laws_FnPlainsMove_c_l k (more, (p_Rule, p_Spots, p_X, p_Y, p_Way), (turned_Rule, turned_Spots, turned_X, turned_Y, turned_Way), (mirror_Rule, mirror_Spots, mirror_X, mirror_Y, mirror_Way), box, picture, five, (p_Rule, p_Spots, p_X, p_Y, p_Way), 0)).bind fun r1 =>
   r1.elim
   (fun r2 => some r2)
   (fun r3 => (impl_MirrorPlain k r3.2.2.2.1).bind fun r4 =>
    (laws_FnPlainsMove_c_c k (r3.1, r3.2.1, r3.2.2.1, r3.2.2.2.1, r3.2.2.2.2.1, r3.2.2.2.2.2.1, r3.2.2.2.2.2.2.1, r3.2.2.2.2.2.2.2, r4.1, r4.2)).bind fun r5 =>
    r5.elim
    (fun r6 => some r6)
    (fun r7 => (laws_FnPlainsMove_c_c_2 k r7).bind fun r8 =>
     some r8)))
  ((laws_FnPlainsMove_c_c_2 k more).bind fun r9 =>
   some r9) := by kernel_rfl
theorem laws_FnPlainsMove_c_l.eq (k : Nat) (more : List Int) (p_Rule : ByteArray) (p_Spots : List (Int × (Int × Int))) (p_X : Int) (p_Y : Int) (p_Way : Int) (turned_Rule : ByteArray) (turned_Spots : List (Int × (Int × Int))) (turned_X : Int) (turned_Y : Int) (turned_Way : Int) (mirror_Rule : ByteArray) (mirror_Spots : List (Int × (Int × Int))) (mirror_X : Int) (mirror_Y : Int) (mirror_Way : Int) (box : List Int) (picture : ByteArray) (five : Bool) (now_Rule : ByteArray) (now_Spots : List (Int × (Int × Int))) (now_X : Int) (now_Y : Int) (now_Way : Int) (k_ : Int) : laws_FnPlainsMove_c_l (k + 1) (more, (p_Rule, p_Spots, p_X, p_Y, p_Way), (turned_Rule, turned_Spots, turned_X, turned_Y, turned_Way), (mirror_Rule, mirror_Spots, mirror_X, mirror_Y, mirror_Way), box, picture, five, (now_Rule, now_Spots, now_X, now_Y, now_Way), k_) =
  cond (decide (k_ < 4))
  ((impl_TurnPlain k (now_Rule, now_Spots, now_X, now_Y, now_Way)).bind fun r1 =>
   cond (!r1.2)
   (some (.inl false))
   (laws_FnPlainsMove_c_l k (more, (p_Rule, p_Spots, p_X, p_Y, p_Way), (turned_Rule, turned_Spots, turned_X, turned_Y, turned_Way), (mirror_Rule, mirror_Spots, mirror_X, mirror_Y, mirror_Way), box, picture, five, r1.1, (w64 (k_ + 1)))))
  (some (.inr (more, (p_Rule, p_Spots, p_X, p_Y, p_Way), (turned_Rule, turned_Spots, turned_X, turned_Y, turned_Way), (mirror_Rule, mirror_Spots, mirror_X, mirror_Y, mirror_Way), box, picture, five, (now_Rule, now_Spots, now_X, now_Y, now_Way)))) := by kernel_rfl
theorem laws_FnPlainsMove_c_c.eq (k : Nat) (more : List Int) (p_Rule : ByteArray) (p_Spots : List (Int × (Int × Int))) (p_X : Int) (p_Y : Int) (p_Way : Int) (turned_Rule : ByteArray) (turned_Spots : List (Int × (Int × Int))) (turned_X : Int) (turned_Y : Int) (turned_Way : Int) (mirror_Rule : ByteArray) (mirror_Spots : List (Int × (Int × Int))) (mirror_X : Int) (mirror_Y : Int) (mirror_Way : Int) (box : List Int) (picture : ByteArray) (five : Bool) (now_Rule : ByteArray) (now_Spots : List (Int × (Int × Int))) (now_X : Int) (now_Y : Int) (now_Way : Int) (twice_Rule : ByteArray) (twice_Spots : List (Int × (Int × Int))) (twice_X : Int) (twice_Y : Int) (twice_Way : Int) (seven : Bool) : laws_FnPlainsMove_c_c (k + 1) (more, (p_Rule, p_Spots, p_X, p_Y, p_Way), (turned_Rule, turned_Spots, turned_X, turned_Y, turned_Way), (mirror_Rule, mirror_Spots, mirror_X, mirror_Y, mirror_Way), box, picture, five, (now_Rule, now_Spots, now_X, now_Y, now_Way), (twice_Rule, twice_Spots, twice_X, twice_Y, twice_Way), seven) =
  (laws_dPlain k ((now_Rule, now_Spots, now_X, now_Y, now_Way), (p_Rule, p_Spots, p_X, p_Y, p_Way))).bind fun r1 =>
  cond (!r1)
  (some (.inl false))
  (cond (!seven)
   (some (.inl false))
   ((laws_dPlain k ((twice_Rule, twice_Spots, twice_X, twice_Y, twice_Way), (p_Rule, p_Spots, p_X, p_Y, p_Way))).bind fun r2 =>
    cond (!r2)
    (some (.inl false))
    (cond ((turned_Spots.length : Int) != (p_Spots.length : Int))
     (some (.inl false))
     (cond ((mirror_Spots.length : Int) != (p_Spots.length : Int))
      (some (.inl false))
      (cond ((box.length : Int) != 4)
       (some (.inl false))
       ((impl_PlainAfter k ((p_Rule, p_Spots, p_X, p_Y, p_Way), 7)).bind fun r3 =>
        (impl_PlainAfter k ((turned_Rule, turned_Spots, turned_X, turned_Y, turned_Way), 7)).bind fun r4 =>
        (impl_PlainAfter k ((mirror_Rule, mirror_Spots, mirror_X, mirror_Y, mirror_Way), 7)).bind fun r5 =>
        (impl_TurnPlain k r3.1).bind fun r6 =>
        (impl_MirrorPlain k r3.1).bind fun r7 =>
        (laws_FnPlainsMove_c_c_c k (more, (p_Rule, p_Spots, p_X, p_Y, p_Way), box, picture, five, r3.2, r4.1, r4.2, r5.1, r5.2, r6.1, r6.2, r7.1, r7.2)).bind fun r8 =>
        r8.elim
        (fun r9 => some (.inl r9))
        (fun r10 => some (.inr r10)))))))) := by kernel_rfl
theorem impl_PlainAfter.eq (k : Nat) (p_Rule : ByteArray) (p_Spots : List (Int × (Int × Int))) (p_X : Int) (p_Y : Int) (p_Way : Int) (steps : Int) : impl_PlainAfter (k + 1) ((p_Rule, p_Spots, p_X, p_Y, p_Way), steps) =
  (impl_isRun k ((p_Rule, p_Spots, p_X, p_Y, p_Way), steps)).bind fun r1 =>
  cond (!r1)
  (some ((ByteArray.empty, [], 0, 0, 0), false))
  ((impl_Plain_going k (p_Rule, p_Spots, p_X, p_Y, p_Way)).bind fun r2 =>
   (impl_going_run k (r2, steps)).bind fun r3 =>
   cond (!r3.1.2)
   (some ((ByteArray.empty, [], 0, 0, 0), false))
   ((impl_going_plain k r3.2).bind fun r4 =>
    some (r4, true))) := by kernel_rfl
theorem impl_isRun.eq (k : Nat) (p_Rule : ByteArray) (p_Spots : List (Int × (Int × Int))) (p_X : Int) (p_Y : Int) (p_Way : Int) (steps : Int) : impl_isRun (k + 1) ((p_Rule, p_Spots, p_X, p_Y, p_Way), steps) =
  (impl_IsPlain k (p_Rule, p_Spots, p_X, p_Y, p_Way)).bind fun r1 =>
  cond r1
  ((impl_within k (steps, 0, 1000)).bind fun r2 =>
   some r2)
  (some false) := by kernel_rfl
theorem impl_going_run.eq (k : Nat) (g_rule : ByteArray) (g_spots : List ((Int × Int) × Int)) (g_x : Int) (g_y : Int) (g_way : Int) (steps : Int) : impl_going_run (k + 1) ((g_rule, g_spots, g_x, g_y, g_way), steps) =
  (impl_going_run_l k ((g_rule, g_spots, g_x, g_y, g_way), [], steps, 0, ())).bind fun r1 =>
  r1.elim
  (fun r2 => some ((r2.1, r2.2.1), r2.2.2))
  (fun r3 => some (((ofBytes r3.1), true), r3.2)) := by kernel_rfl
theorem impl_going_run_l.eq (k : Nat) (g_rule : ByteArray) (g_spots : List ((Int × Int) × Int)) (g_x : Int) (g_y : Int) (g_way : Int) (out : List Int) (t10 : Int) (t11 : Int) : impl_going_run_l (k + 1) ((g_rule, g_spots, g_x, g_y, g_way), out, t10, t11, ()) =
  cond (decide (t11 < t10))
  ((impl_going_step k (g_rule, g_spots, g_x, g_y, g_way)).bind fun r1 =>
   cond (!r1.1.2)
   (some (.inl (ByteArray.empty, false, r1.2)))
   (cond (fits (out.length + 1) 1)
    (impl_going_run_l k (r1.2, (out ++ [r1.1.1]), t10, (w64 (t11 + 1)), ()))
    (none)))
  (some (.inr (out, (g_rule, g_spots, g_x, g_y, g_way)))) := by kernel_rfl
theorem impl_going_step.eq (k : Nat) (g_rule : ByteArray) (g_spots : List ((Int × Int) × Int)) (g_x : Int) (g_y : Int) (g_way : Int) : impl_going_step (k + 1) (g_rule, g_spots, g_x, g_y, g_way) =
  cond (inB (mget (K := (Int × Int)) (α := Int) (Sh.eqT (.pair (.int .i64) (.int .i64))) g_spots (g_x, g_y) 0) g_rule.size)
  ((impl_quarters k (bt g_rule ((mget (K := (Int × Int)) (α := Int) (Sh.eqT (.pair (.int .i64) (.int .i64))) g_spots (g_x, g_y) 0).toNat))).bind fun r1 =>
   cond ((g_rule.size : Int) != 0)
   ((impl_going_paint k ((g_rule, g_spots, g_x, g_y, ((w64 (g_way + r1)).tmod 4)), g_x, g_y, ((w64 ((mget (K := (Int × Int)) (α := Int) (Sh.eqT (.pair (.int .i64) (.int .i64))) g_spots (g_x, g_y) 0) + 1)).tmod (g_rule.size : Int)))).bind fun r2 =>
    (impl_ahead k r2.2.2.2.2.2).bind fun r3 =>
    cond (inB (mget (K := (Int × Int)) (α := Int) (Sh.eqT (.pair (.int .i64) (.int .i64))) g_spots (g_x, g_y) 0) r2.2.1.size)
    ((impl_going_isPlain k (r2.2.1, r2.2.2.1, (w64 (r2.2.2.2.1 + r3.1)), (w64 (r2.2.2.2.2.1 + r3.2)), r2.2.2.2.2.2)).bind fun r4 =>
     some (((bt r2.2.1 ((mget (K := (Int × Int)) (α := Int) (Sh.eqT (.pair (.int .i64) (.int .i64))) g_spots (g_x, g_y) 0).toNat)), r4), (r2.2.1, r2.2.2.1, (w64 (r2.2.2.2.1 + r3.1)), (w64 (r2.2.2.2.2.1 + r3.2)), r2.2.2.2.2.2)))
    (none))
   (none))
  (none) := by kernel_rfl
theorem impl_quarters.eq (k : Nat) (sign : Int) : impl_quarters (k + 1) sign =
  cond (sign == 76)
  (some 3)
  (cond (sign == 82)
   (some 1)
   (cond (sign == 85)
    (some 2)
    (some 0))) := by kernel_rfl
theorem impl_going_paint.eq (k : Nat) (g_rule : ByteArray) (g_spots : List ((Int × Int) × Int)) (g_x : Int) (g_y : Int) (g_way : Int) (x : Int) (y : Int) (colour : Int) : impl_going_paint (k + 1) ((g_rule, g_spots, g_x, g_y, g_way), x, y, colour) =
  cond (decide (colour > 0))
  (some ((), (g_rule, (mput (K := (Int × Int)) (α := Int) (Sh.eqT (.pair (.int .i64) (.int .i64))) (mdel (K := (Int × Int)) (α := Int) (Sh.eqT (.pair (.int .i64) (.int .i64))) g_spots (x, y)) (x, y) colour), g_x, g_y, g_way)))
  (some ((), (g_rule, (mdel (K := (Int × Int)) (α := Int) (Sh.eqT (.pair (.int .i64) (.int .i64))) g_spots (x, y)), g_x, g_y, g_way))) := by kernel_rfl
theorem impl_ahead.eq (k : Nat) (way : Int) : impl_ahead (k + 1) way =
  cond (inB way 4)
  (cond (inB way 4)
   (some ((([0, 1, 0, (-1)] : List Int).getD way.toNat default), (([(-1), 0, 1, 0] : List Int).getD way.toNat default)))
   (none))
  (none) := by kernel_rfl
theorem impl_going_isPlain.eq (k : Nat) (g_rule : ByteArray) (g_spots : List ((Int × Int) × Int)) (g_x : Int) (g_y : Int) (g_way : Int) : impl_going_isPlain (k + 1) (g_rule, g_spots, g_x, g_y, g_way) =
  (impl_isNear k ([g_x, g_y])).bind fun r1 =>
  cond r1
  (some (decide ((g_spots.length : Int) ≤ 300)))
  (some false) := by kernel_rfl
theorem impl_going_plain.eq (k : Nat) (d : (ByteArray × (List ((Int × Int) × Int) × (Int × (Int × Int))))) : impl_going_plain (k + 1) d = (fun d => plainB d) d := by kernel_rfl
theorem laws_FnPlainsMove_c_c_c.eq (k : Nat) (more : List Int) (p_Rule : ByteArray) (p_Spots : List (Int × (Int × Int))) (p_X : Int) (p_Y : Int) (p_Way : Int) (box : List Int) (picture : ByteArray) (five : Bool) (eight : Bool) (b_Rule : ByteArray) (b_Spots : List (Int × (Int × Int))) (b_X : Int) (b_Y : Int) (b_Way : Int) (nine : Bool) (c_Rule : ByteArray) (c_Spots : List (Int × (Int × Int))) (c_X : Int) (c_Y : Int) (c_Way : Int) (ten : Bool) (d_Rule : ByteArray) (d_Spots : List (Int × (Int × Int))) (d_X : Int) (d_Y : Int) (d_Way : Int) (eleven : Bool) (e_Rule : ByteArray) (e_Spots : List (Int × (Int × Int))) (e_X : Int) (e_Y : Int) (e_Way : Int) (twelve : Bool) : laws_FnPlainsMove_c_c_c (k + 1) (more, (p_Rule, p_Spots, p_X, p_Y, p_Way), box, picture, five, eight, (b_Rule, b_Spots, b_X, b_Y, b_Way), nine, (c_Rule, c_Spots, c_X, c_Y, c_Way), ten, (d_Rule, d_Spots, d_X, d_Y, d_Way), eleven, (e_Rule, e_Spots, e_X, e_Y, e_Way), twelve) =
  cond (!(eight == nine))
  (some (.inl false))
  (cond (!(eight == ten))
   (some (.inl false))
   (cond (!(eleven == eight))
    (some (.inl false))
    (cond (!(twelve == eight))
     (some (.inl false))
     (cond eight
      ((laws_dPlain k ((b_Rule, b_Spots, b_X, b_Y, b_Way), (d_Rule, d_Spots, d_X, d_Y, d_Way))).bind fun r1 =>
       cond (!r1)
       (some (.inl false))
       ((laws_dPlain k ((c_Rule, c_Spots, c_X, c_Y, c_Way), (e_Rule, e_Spots, e_X, e_Y, e_Way))).bind fun r2 =>
        cond (!r2)
        (some (.inl false))
        ((laws_FnPlainsMove_c_c_c_l k (more, (p_Rule, p_Spots, p_X, p_Y, p_Way), box, picture, five, (), (p_Spots.length : Int), 0)).bind fun r3 =>
         r3.elim
         (fun r4 => some (.inl r4))
         (fun r5 => (laws_FnPlainsMove_c_c_c_c k r5).bind fun r6 =>
          r6.elim
          (fun r7 => some (.inl r7))
          (fun r8 => some (.inr r8))))))
      ((laws_FnPlainsMove_c_c_c_l k (more, (p_Rule, p_Spots, p_X, p_Y, p_Way), box, picture, five, (), (p_Spots.length : Int), 0)).bind fun r9 =>
       r9.elim
       (fun r10 => some (.inl r10))
       (fun r11 => (laws_FnPlainsMove_c_c_c_c k r11).bind fun r12 =>
        r12.elim
        (fun r13 => some (.inl r13))
        (fun r14 => some (.inr r14)))))))) := by kernel_rfl
theorem laws_FnPlainsMove_c_c_c_l.eq (k : Nat) (more : List Int) (p_Rule : ByteArray) (p_Spots : List (Int × (Int × Int))) (p_X : Int) (p_Y : Int) (p_Way : Int) (box : List Int) (picture : ByteArray) (five : Bool) (t309 : Int) (t310 : Int) : laws_FnPlainsMove_c_c_c_l (k + 1) (more, (p_Rule, p_Spots, p_X, p_Y, p_Way), box, picture, five, (), t309, t310) =
  cond (decide (t310 < t309))
  (cond (inB t310 p_Spots.length)
   (cond (inB 0 box.length)
    (cond (decide ((p_Spots.getD t310.toNat default).1 < (box.getD 0 default)))
     (some (.inl false))
     (cond (inB 1 box.length)
      (cond (decide ((p_Spots.getD t310.toNat default).1 > (box.getD 1 default)))
       (some (.inl false))
       (cond (inB 2 box.length)
        (cond (decide ((p_Spots.getD t310.toNat default).2.1 < (box.getD 2 default)))
         (some (.inl false))
         (cond (inB 3 box.length)
          (cond (decide ((p_Spots.getD t310.toNat default).2.1 > (box.getD 3 default)))
           (some (.inl false))
           (laws_FnPlainsMove_c_c_c_l k (more, (p_Rule, p_Spots, p_X, p_Y, p_Way), box, picture, five, (), t309, (w64 (t310 + 1)))))
          (none)))
        (none)))
      (none)))
    (none))
   (none))
  (some (.inr (more, (p_Rule, p_Spots, p_X, p_Y, p_Way), box, picture, five))) := by kernel_rfl
end Go.Proofs.YtblgfbkifhfjpaaGreatDoorS
