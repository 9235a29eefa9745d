/- What each function computes (printed by wip/sim/gen.py). -/
import Derived.Test.YtplamonjnlgomaaGreatDoorTab
namespace Go.Proofs.YtplamonjnlgomaaGreatDoorS
open Go Go.Proofs
set_option maxRecDepth 100000
set_option linter.unusedVariables false
theorem spec_l1Cur_plain.eq (k : Nat) (c_code : List Int) (c_at : Int) (c_seed : Int) : spec_l1Cur_plain (k + 1) (c_code, c_at, c_seed) =
  (spec_l1Cur_sureRule k (c_code, c_at, c_seed)).bind fun r1 =>
  (spec_l1Cur_pick k (r1.2, 5)).bind fun r2 =>
  (spec_l1Cur_pick k (r2.2, 5)).bind fun r3 =>
  (spec_l1Cur_pick k (r3.2, 4)).bind fun r4 =>
  (spec_l1Cur_pick k (r4.2, 6)).bind fun r5 =>
  (spec_l1Cur_plain_l k (r5.2, (ByteArray.empty, [], 0, 0, 0), (r1.1, [], (w64 (r2.1 - 2)), (w64 (r3.1 - 2)), r4.1), r5.1, ())).bind fun r6 =>
  (spec_l1Cur_pick k (r6.1, 18)).bind fun r7 =>
  cond (r7.1 == 0)
  ((spec_l1Cur_among k (r7.2, [(-1000), 1000, 1001, 4611686018427387904])).bind fun r8 =>
   some ((r6.2.2.1.1, r6.2.2.1.2.1, r8.1, r6.2.2.1.2.2.2.1, r6.2.2.1.2.2.2.2), r8.2))
  (cond (r7.1 == 1)
   ((spec_l1Cur_pick k (r7.2, 3)).bind fun r9 =>
    (spec_l1Cur_among k (r9.2, [(-3), 0, 3, 1001])).bind fun r10 =>
    (spec_l1Cur_among k (r10.2, [0, 1, 5, 6, (-1)])).bind fun r11 =>
    cond (fits (r6.2.2.1.2.1.length + 1) 24)
    (some ((r6.2.2.1.1, (r6.2.2.1.2.1 ++ [(r9.1, (r10.1, r11.1))]), r6.2.2.1.2.2.1, r6.2.2.1.2.2.2.1, r6.2.2.1.2.2.2.2), r11.2))
    (none))
   (cond (r7.1 == 2)
    ((spec_l1Cur_of k (r7.2, [ByteArray.empty, (bs [76, 82, 88]), (bs [76, 82, 76, 82, 76, 82, 76]), (bs [108])])).bind fun r12 =>
     some ((r12.1, r6.2.2.1.2.1, r6.2.2.1.2.2.1, r6.2.2.1.2.2.2.1, r6.2.2.1.2.2.2.2), r12.2))
    (cond (r7.1 == 3)
     ((spec_l1Cur_among k (r7.2, [(-1), 4])).bind fun r13 =>
      some ((r6.2.2.1.1, r6.2.2.1.2.1, r6.2.2.1.2.2.1, r6.2.2.1.2.2.2.1, r13.1), r13.2))
     (cond (r7.1 == 4)
      ((spec_l1Cur_plain_l_2 k (r7.2, r6.2.1, ((bs [76, 82]), [], r6.2.2.1.2.2.1, r6.2.2.1.2.2.2.1, r6.2.2.1.2.2.2.2), ())).bind fun r14 =>
       some r14.2)
      (cond (r7.1 == 5)
       ((spec_l1Cur_among k (r7.2, [(-990), (-2)])).bind fun r15 =>
        some (((bs [78]), [], r6.2.2.1.2.2.1, r15.1, r6.2.2.1.2.2.2.2), r15.2))
       (some (r6.2.2.1, r7.2))))))) := by kernel_rfl
theorem spec_l1Cur_sureRule.eq (k : Nat) (c_code : List Int) (c_at : Int) (c_seed : Int) : spec_l1Cur_sureRule (k + 1) (c_code, c_at, c_seed) =
  (spec_l1Cur_one k ((c_code, c_at, c_seed), 3)).bind fun r1 =>
  cond r1.1
  (some ((bs [76, 82]), r1.2))
  ((spec_l1Cur_pick k (r1.2, 4)).bind fun r2 =>
   (spec_l1Cur_sureRule_l k (r2.2, ByteArray.empty, (w64 (1 + r2.1)), ())).bind fun r3 =>
   some r3) := by kernel_rfl
theorem spec_l1Cur_one.eq (k : Nat) (c_code : List Int) (c_at : Int) (c_seed : Int) (n : Int) : spec_l1Cur_one (k + 1) ((c_code, c_at, c_seed), n) =
  (spec_l1Cur_pick k ((c_code, c_at, c_seed), n)).bind fun r1 =>
  some ((r1.1 == 0), r1.2) := by kernel_rfl
theorem spec_l1Cur_pick.eq (k : Nat) (c_code : List Int) (c_at : Int) (c_seed : Int) (n : Int) : spec_l1Cur_pick (k + 1) ((c_code, c_at, c_seed), n) =
  cond (decide (n ≤ 1))
  (some (0, (c_code, c_at, c_seed)))
  ((spec_l1Cur_next k (c_code, c_at, c_seed)).bind fun r1 =>
   cond (decide (n > 200))
   ((spec_l1Cur_next k r1.2).bind fun r2 =>
    cond (n != 0)
    (some (((w64 ((w64 (r1.1 * 256)) + r2.1)).tmod n), r2.2))
    (none))
   (cond (n != 0)
    (some ((r1.1.tmod n), r1.2))
    (none))) := by kernel_rfl
theorem spec_l1Cur_next.eq (k : Nat) (c_code : List Int) (c_at : Int) (c_seed : Int) : spec_l1Cur_next (k + 1) (c_code, c_at, c_seed) =
  cond (decide (c_at < (c_code.length : Int)))
  (cond (inB c_at c_code.length)
   (cond (decide ((w64 (c_at + 1)) ≤ (c_code.length : Int)))
    (some ((w64 (c_code.getD c_at.toNat default)), (c_code, (w64 (c_at + 1)), (IntKind.u64.wrap ((IntKind.u64.wrap ((IntKind.u64.wrap (c_seed * 6364136223846793005)) + (IntKind.u64.wrap (w64 (c_code.getD c_at.toNat default))))) + 1442695040888963407)))))
    (some ((w64 (andI .u64 (shrI .u64 (IntKind.u64.wrap ((IntKind.u64.wrap ((IntKind.u64.wrap (c_seed * 6364136223846793005)) + (IntKind.u64.wrap (w64 (c_code.getD c_at.toNat default))))) + 1442695040888963407)) 40) 255)), (c_code, (w64 (c_at + 1)), (IntKind.u64.wrap ((IntKind.u64.wrap ((IntKind.u64.wrap (c_seed * 6364136223846793005)) + (IntKind.u64.wrap (w64 (c_code.getD c_at.toNat default))))) + 1442695040888963407))))))
   (none))
  (cond (decide ((w64 (c_at + 1)) ≤ (c_code.length : Int)))
   (some (0, (c_code, (w64 (c_at + 1)), (IntKind.u64.wrap ((IntKind.u64.wrap ((IntKind.u64.wrap (c_seed * 6364136223846793005)) + 0)) + 1442695040888963407)))))
   (some ((w64 (andI .u64 (shrI .u64 (IntKind.u64.wrap ((IntKind.u64.wrap ((IntKind.u64.wrap (c_seed * 6364136223846793005)) + 0)) + 1442695040888963407)) 40) 255)), (c_code, (w64 (c_at + 1)), (IntKind.u64.wrap ((IntKind.u64.wrap ((IntKind.u64.wrap (c_seed * 6364136223846793005)) + 0)) + 1442695040888963407)))))) := by kernel_rfl
theorem spec_l1Cur_sureRule_l.eq (k : Nat) (c_code : List Int) (c_at : Int) (c_seed : Int) (out : ByteArray) (k_ : Int) : spec_l1Cur_sureRule_l (k + 1) ((c_code, c_at, c_seed), out, k_, ()) =
  cond (decide (k_ > 0))
  ((spec_l1Cur_of k ((c_code, c_at, c_seed), [(bs [76]), (bs [82]), (bs [76]), (bs [82]), (bs [78]), (bs [85])])).bind fun r1 =>
   cond (fitS out r1.1)
   (spec_l1Cur_sureRule_l k (r1.2, (out ++ r1.1), (w64 (k_ - 1)), ()))
   (none))
  (some (out, (c_code, c_at, c_seed))) := by kernel_rfl
theorem spec_l1Cur_of.eq (k : Nat) (c_code : List Int) (c_at : Int) (c_seed : Int) (list : List ByteArray) : spec_l1Cur_of (k + 1) ((c_code, c_at, c_seed), list) =
  (spec_l1Cur_pick k ((c_code, c_at, c_seed), (list.length : Int))).bind fun r1 =>
  cond (inB r1.1 list.length)
  (some ((list.getD r1.1.toNat default), r1.2))
  (none) := by kernel_rfl
theorem spec_l1Cur_plain_l.eq (k : Nat) (c_code : List Int) (c_at : Int) (c_seed : Int) (t2_Rule : ByteArray) (t2_Spots : List (Int × (Int × Int))) (t2_X : Int) (t2_Y : Int) (t2_Way : Int) (p_Rule : ByteArray) (p_Spots : List (Int × (Int × Int))) (p_X : Int) (p_Y : Int) (p_Way : Int) (k_ : Int) : spec_l1Cur_plain_l (k + 1) ((c_code, c_at, c_seed), (t2_Rule, t2_Spots, t2_X, t2_Y, t2_Way), (p_Rule, p_Spots, p_X, p_Y, p_Way), k_, ()) =
  cond (decide (k_ > 0))
  ((spec_l1Cur_pick k ((c_code, c_at, c_seed), 5)).bind fun r1 =>
   (spec_l1Cur_pick k (r1.2, 5)).bind fun r2 =>
   (spec_l1Cur_pick k (r2.2, (p_Rule.size : Int))).bind fun r3 =>
   (spec_enPaint k (p_Spots, (w64 (r1.1 - 2)), (w64 (r2.1 - 2)), r3.1)).bind fun r4 =>
   spec_l1Cur_plain_l k (r3.2, (t2_Rule, t2_Spots, t2_X, t2_Y, t2_Way), (p_Rule, r4, p_X, p_Y, p_Way), (w64 (k_ - 1)), ()))
  (some ((c_code, c_at, c_seed), (t2_Rule, t2_Spots, t2_X, t2_Y, t2_Way), (p_Rule, p_Spots, p_X, p_Y, p_Way), ())) := by kernel_rfl
theorem spec_enPaint.eq (k : Nat) (spots : List (Int × (Int × Int))) (x : Int) (y : Int) (colour : Int) : spec_enPaint (k + 1) (spots, x, y, colour) =
  (spec_enAt k (spots, x, y)).bind fun r1 =>
  cond ((decide ((0 : Int) ≤ r1.1)) && (decide (r1.1 ≤ (spots.length : Int))))
  (cond (fits (0 + (spots.take r1.1.toNat).length) 24)
   (cond (decide (colour > 0))
    (cond (fits (([] ++ (spots.take r1.1.toNat)).length + 1) 24)
     (cond r1.2
      (cond ((decide ((0 : Int) ≤ (w64 (r1.1 + 1)))) && (decide ((w64 (r1.1 + 1)) ≤ (spots.length : Int))))
       (cond (fits ((([] ++ (spots.take r1.1.toNat)) ++ [(x, (y, colour))]).length + ((spots.drop ((w64 (r1.1 + 1)).toNat)).take (spots.length - (w64 (r1.1 + 1)).toNat)).length) 24)
        (some ((([] ++ (spots.take r1.1.toNat)) ++ [(x, (y, colour))]) ++ ((spots.drop ((w64 (r1.1 + 1)).toNat)).take (spots.length - (w64 (r1.1 + 1)).toNat))))
        (none))
       (none))
      (cond ((decide ((0 : Int) ≤ r1.1)) && (decide (r1.1 ≤ (spots.length : Int))))
       (cond (fits ((([] ++ (spots.take r1.1.toNat)) ++ [(x, (y, colour))]).length + ((spots.drop r1.1.toNat).take (spots.length - r1.1.toNat)).length) 24)
        (some ((([] ++ (spots.take r1.1.toNat)) ++ [(x, (y, colour))]) ++ ((spots.drop r1.1.toNat).take (spots.length - r1.1.toNat))))
        (none))
       (none)))
     (none))
    (cond r1.2
     (cond ((decide ((0 : Int) ≤ (w64 (r1.1 + 1)))) && (decide ((w64 (r1.1 + 1)) ≤ (spots.length : Int))))
      (cond (fits (([] ++ (spots.take r1.1.toNat)).length + ((spots.drop ((w64 (r1.1 + 1)).toNat)).take (spots.length - (w64 (r1.1 + 1)).toNat)).length) 24)
       (some (([] ++ (spots.take r1.1.toNat)) ++ ((spots.drop ((w64 (r1.1 + 1)).toNat)).take (spots.length - (w64 (r1.1 + 1)).toNat))))
       (none))
      (none))
     (cond ((decide ((0 : Int) ≤ r1.1)) && (decide (r1.1 ≤ (spots.length : Int))))
      (cond (fits (([] ++ (spots.take r1.1.toNat)).length + ((spots.drop r1.1.toNat).take (spots.length - r1.1.toNat)).length) 24)
       (some (([] ++ (spots.take r1.1.toNat)) ++ ((spots.drop r1.1.toNat).take (spots.length - r1.1.toNat))))
       (none))
      (none))))
   (none))
  (none) := by kernel_rfl
theorem spec_enAt.eq (k : Nat) (spots : List (Int × (Int × Int))) (x : Int) (y : Int) : spec_enAt (k + 1) (spots, x, y) =
  (spec_enAt_l k (spots, x, y, 0, (spots.length : Int))).bind fun r1 =>
  cond (decide (r1.2.2.2 < (r1.1.length : Int)))
  (cond (inB r1.2.2.2 r1.1.length)
   (cond ((r1.1.getD r1.2.2.2.toNat default).1 == r1.2.1)
    (cond (inB r1.2.2.2 r1.1.length)
     (some (r1.2.2.2, ((r1.1.getD r1.2.2.2.toNat default).2.1 == r1.2.2.1)))
     (none))
    (some (r1.2.2.2, false)))
   (none))
  (some (r1.2.2.2, false)) := by kernel_rfl
theorem spec_enAt_l.eq (k : Nat) (spots : List (Int × (Int × Int))) (x : Int) (y : Int) (low : Int) (high : Int) : spec_enAt_l (k + 1) (spots, x, y, low, high) =
  cond (decide (low < high))
  (cond (inB (w64 ((w64 (low + high)).tdiv 2)) spots.length)
   ((spec_enLess k ((spots.getD ((w64 ((w64 (low + high)).tdiv 2)).toNat) default), (x, y, 0))).bind fun r1 =>
    cond r1
    (spec_enAt_l k (spots, x, y, (w64 ((w64 ((w64 (low + high)).tdiv 2)) + 1)), high))
    (spec_enAt_l k (spots, x, y, low, (w64 ((w64 (low + high)).tdiv 2)))))
   (none))
  (some (spots, x, y, low)) := by kernel_rfl
theorem spec_enLess.eq (k : Nat) (a_X : Int) (a_Y : Int) (a_Colour : Int) (b_X : Int) (b_Y : Int) (b_Colour : Int) : spec_enLess (k + 1) ((a_X, a_Y, a_Colour), (b_X, b_Y, b_Colour)) =
  cond (decide (a_Y < b_Y))
  (some true)
  (cond (a_Y == b_Y)
   (some (decide (a_X < b_X)))
   (some false)) := by kernel_rfl
theorem spec_l1Cur_among.eq (k : Nat) (c_code : List Int) (c_at : Int) (c_seed : Int) (list : List Int) : spec_l1Cur_among (k + 1) ((c_code, c_at, c_seed), list) =
  (spec_l1Cur_pick k ((c_code, c_at, c_seed), (list.length : Int))).bind fun r1 =>
  cond (inB r1.1 list.length)
  (some ((list.getD r1.1.toNat default), r1.2))
  (none) := by kernel_rfl
theorem spec_l1Cur_plain_l_2.eq (k : Nat) (c_code : List Int) (c_at : Int) (c_seed : Int) (t2_Rule : ByteArray) (t2_Spots : List (Int × (Int × Int))) (t2_X : Int) (t2_Y : Int) (t2_Way : Int) (p_Rule : ByteArray) (p_Spots : List (Int × (Int × Int))) (p_X : Int) (p_Y : Int) (p_Way : Int) : spec_l1Cur_plain_l_2 (k + 1) ((c_code, c_at, c_seed), (t2_Rule, t2_Spots, t2_X, t2_Y, t2_Way), (p_Rule, p_Spots, p_X, p_Y, p_Way), ()) =
  (spec_l1Cur_pick k ((c_code, c_at, c_seed), 2)).bind fun r1 =>
  cond (decide ((p_Spots.length : Int) < (w64 (300 + r1.1))))
  (cond (fits (p_Spots.length + 1) 24)
   (spec_l1Cur_plain_l_2 k (r1.2, (t2_Rule, t2_Spots, t2_X, t2_Y, t2_Way), (p_Rule, (p_Spots ++ [((p_Spots.length : Int), (7, 1))]), p_X, p_Y, p_Way), ()))
   (none))
  (some ((t2_Rule, t2_Spots, t2_X, t2_Y, t2_Way), (p_Rule, p_Spots, p_X, p_Y, p_Way), r1.2)) := by kernel_rfl
theorem spec_l1Cur_going.eq (k : Nat) (c_code : List Int) (c_at : Int) (c_seed : Int) : spec_l1Cur_going (k + 1) (c_code, c_at, c_seed) =
  (spec_l1Cur_one k ((c_code, c_at, c_seed), 14)).bind fun r1 =>
  cond r1.1
  ((spec_l1Cur_among k (r1.2, [(-1), 0, 1000, 1001, 4611686018427387904])).bind fun r2 =>
   some r2)
  ((spec_l1Cur_pick k (r1.2, 60)).bind fun r3 =>
   some r3) := by kernel_rfl
theorem impl_PlainAfter.eq (k : Nat) (p_Rule : ByteArray) (p_Spots : List (Int × (Int × Int))) (p_X : Int) (p_Y : Int) (p_Way : Int) (steps : Int) : impl_PlainAfter (k + 1) ((p_Rule, p_Spots, p_X, p_Y, p_Way), steps) =
  (impl_isRun k ((p_Rule, p_Spots, p_X, p_Y, p_Way), steps)).bind fun r1 =>
  cond (!r1)
  (some ((ByteArray.empty, [], 0, 0, 0), false))
  ((impl_Plain_going k (p_Rule, p_Spots, p_X, p_Y, p_Way)).bind fun r2 =>
   (impl_going_run k (r2, steps)).bind fun r3 =>
   cond (!r3.1.2)
   (some ((ByteArray.empty, [], 0, 0, 0), false))
   ((impl_going_plain k r3.2).bind fun r4 =>
    some (r4, true))) := by kernel_rfl
theorem impl_isRun.eq (k : Nat) (p_Rule : ByteArray) (p_Spots : List (Int × (Int × Int))) (p_X : Int) (p_Y : Int) (p_Way : Int) (steps : Int) : impl_isRun (k + 1) ((p_Rule, p_Spots, p_X, p_Y, p_Way), steps) =
  (impl_IsPlain k (p_Rule, p_Spots, p_X, p_Y, p_Way)).bind fun r1 =>
  cond r1
  ((impl_within k (steps, 0, 1000)).bind fun r2 =>
   some r2)
  (some false) := by kernel_rfl
theorem impl_IsPlain.eq (k : Nat) (p_Rule : ByteArray) (p_Spots : List (Int × (Int × Int))) (p_X : Int) (p_Y : Int) (p_Way : Int) : impl_IsPlain (k + 1) (p_Rule, p_Spots, p_X, p_Y, p_Way) =
  (impl_IsRule k p_Rule).bind fun r1 =>
  cond (!r1)
  (some false)
  (cond (decide ((p_Spots.length : Int) > 300))
   (some false)
   ((impl_isNear k ([p_X, p_Y])).bind fun r2 =>
    cond (!r2)
    (some false)
    ((impl_isWay k p_Way).bind fun r3 =>
     cond (!r3)
     (some false)
     ((impl_IsPlain_l k ((p_Rule, p_Spots, p_X, p_Y, p_Way), (), (p_Spots.length : Int), 0)).bind fun r4 =>
      r4.elim
      (fun r5 => some r5)
      (fun r6 => some true))))) := by kernel_rfl
theorem impl_IsRule.eq (k : Nat) (rule : ByteArray) : impl_IsRule (k + 1) rule =
  (impl_within k ((rule.size : Int), 1, 6)).bind fun r1 =>
  cond r1
  ((strings_Trim k (rule, (bs [76, 82, 78, 85]))).bind fun r2 =>
   some (strEq r2 ByteArray.empty))
  (some false) := by kernel_rfl
theorem impl_within.eq (k : Nat) (n : Int) (low : Int) (high : Int) : impl_within (k + 1) (n, low, high) =
  cond (decide (low ≤ n))
  (some (decide (n ≤ high)))
  (some false) := by kernel_rfl
theorem strings_Trim.eq (k : Nat) (d : ByteArray × ByteArray) : strings_Trim (k + 1) d = (fun d => strTrim d.1 d.2) d := by kernel_rfl
theorem impl_isNear.eq (k : Nat) (list : List Int) : impl_isNear (k + 1) list =
  (impl_areWithin k (list, (-1000), 1000)).bind fun r1 =>
  some r1 := by kernel_rfl
theorem impl_areWithin.eq (k : Nat) (list : List Int) (low : Int) (high : Int) : impl_areWithin (k + 1) (list, low, high) =
  (slices_ContainsFunc k (list, (low, high))).bind fun r1 =>
  some (!r1) := by kernel_rfl
theorem slices_ContainsFunc.eq (k : Nat) (s : List Int) (f_0 : Int) (f_1 : Int) : slices_ContainsFunc (k + 1) (s, (f_0, f_1)) =
  (slices_IndexFunc k (s, (f_0, f_1))).bind fun r1 =>
  some (decide (r1 ≥ 0)) := by kernel_rfl
theorem slices_IndexFunc.eq (k : Nat) (s : List Int) (f_0 : Int) (f_1 : Int) : slices_IndexFunc (k + 1) (s, (f_0, f_1)) =
  (slices_IndexFunc_l k (s, (f_0, f_1), (s.length : Int), 0)).bind fun r1 =>
  r1.elim
  (fun r2 => some r2)
  (fun r3 => some (-1)) := by kernel_rfl
theorem slices_IndexFunc_l.eq (k : Nat) (s : List Int) (f_0 : Int) (f_1 : Int) (t7 : Int) (t8 : Int) : slices_IndexFunc_l (k + 1) (s, (f_0, f_1), t7, t8) =
  cond (decide (t8 < t7))
  (cond (inB t8 s.length)
   ((impl_areWithin_1 k ((s.getD t8.toNat default), f_0, f_1)).bind fun r1 =>
    cond r1
    (some (.inl t8))
    (slices_IndexFunc_l k (s, (f_0, f_1), t7, (w64 (t8 + 1)))))
   (none))
  (some (.inr ())) := by kernel_rfl
theorem impl_areWithin_1.eq (k : Nat) (n : Int) (t1_0 : Int) (t2_0 : Int) : impl_areWithin_1 (k + 1) (n, t1_0, t2_0) =
  (impl_within k (n, t1_0, t2_0)).bind fun r1 =>
  some (!r1) := by kernel_rfl
theorem impl_isWay.eq (k : Nat) (way : Int) : impl_isWay (k + 1) way =
  (impl_within k (way, 0, 3)).bind fun r1 =>
  some r1 := by kernel_rfl
theorem impl_IsPlain_l.eq (k : Nat) (p_Rule : ByteArray) (p_Spots : List (Int × (Int × Int))) (p_X : Int) (p_Y : Int) (p_Way : Int) (t32 : Int) (t33 : Int) : impl_IsPlain_l (k + 1) ((p_Rule, p_Spots, p_X, p_Y, p_Way), (), t32, t33) =
  cond (decide (t33 < t32))
  (cond (inB t33 p_Spots.length)
   ((impl_isNear k ([(p_Spots.getD t33.toNat default).1, (p_Spots.getD t33.toNat default).2.1])).bind fun r1 =>
    cond (!r1)
    (some (.inl false))
    ((impl_within k ((p_Spots.getD t33.toNat default).2.2, 1, (w64 ((p_Rule.size : Int) - 1)))).bind fun r2 =>
     cond (!r2)
     (some (.inl false))
     (cond (decide (t33 > 0))
      (cond (inB (w64 (t33 - 1)) p_Spots.length)
       ((impl_compareSpots k ((p_Spots.getD ((w64 (t33 - 1)).toNat) default), (p_Spots.getD t33.toNat default))).bind fun r3 =>
        cond (decide (r3 ≥ 0))
        (some (.inl false))
        (impl_IsPlain_l k ((p_Rule, p_Spots, p_X, p_Y, p_Way), (), t32, (w64 (t33 + 1)))))
       (none))
      (impl_IsPlain_l k ((p_Rule, p_Spots, p_X, p_Y, p_Way), (), t32, (w64 (t33 + 1)))))))
   (none))
  (some (.inr ())) := by kernel_rfl
theorem impl_compareSpots.eq (k : Nat) (a_X : Int) (a_Y : Int) (a_Colour : Int) (b_X : Int) (b_Y : Int) (b_Colour : Int) : impl_compareSpots (k + 1) ((a_X, a_Y, a_Colour), (b_X, b_Y, b_Colour)) =
  cond (a_Y != b_Y)
  (some (w64 (a_Y - b_Y)))
  (some (w64 (a_X - b_X))) := by kernel_rfl
theorem impl_Plain_going.eq (k : Nat) (p_Rule : ByteArray) (p_Spots : List (Int × (Int × Int))) (p_X : Int) (p_Y : Int) (p_Way : Int) : impl_Plain_going (k + 1) (p_Rule, p_Spots, p_X, p_Y, p_Way) =
  (impl_Plain_going_l k ((p_Rule, [], p_X, p_Y, p_Way), p_Spots, (p_Spots.length : Int), 0)).bind fun r1 =>
  some r1 := by kernel_rfl
theorem impl_Plain_going_l.eq (k : Nat) (g_rule : ByteArray) (g_spots : List ((Int × Int) × Int)) (g_x : Int) (g_y : Int) (g_way : Int) (t18 : List (Int × (Int × Int))) (t19 : Int) (t20 : Int) : impl_Plain_going_l (k + 1) ((g_rule, g_spots, g_x, g_y, g_way), t18, t19, t20) =
  cond (decide (t20 < t19))
  (cond (inB t20 t18.length)
   (impl_Plain_going_l k ((g_rule, (mput (K := (Int × Int)) (α := Int) (Sh.eqT (.pair (.int .i64) (.int .i64))) g_spots ((t18.getD t20.toNat default).1, (t18.getD t20.toNat default).2.1) ((t18.getD t20.toNat default).2.2)), g_x, g_y, g_way), t18, t19, (w64 (t20 + 1))))
   (none))
  (some (g_rule, g_spots, g_x, g_y, g_way)) := by kernel_rfl
theorem impl_going_run.eq (k : Nat) (g_rule : ByteArray) (g_spots : List ((Int × Int) × Int)) (g_x : Int) (g_y : Int) (g_way : Int) (steps : Int) : impl_going_run (k + 1) ((g_rule, g_spots, g_x, g_y, g_way), steps) =
  (impl_going_run_l k ((g_rule, g_spots, g_x, g_y, g_way), [], steps, 0, ())).bind fun r1 =>
  r1.elim
  (fun r2 => some ((r2.1, r2.2.1), r2.2.2))
  (fun r3 => some (((ofBytes r3.1), true), r3.2)) := by kernel_rfl
theorem impl_going_run_l.eq (k : Nat) (g_rule : ByteArray) (g_spots : List ((Int × Int) × Int)) (g_x : Int) (g_y : Int) (g_way : Int) (out : List Int) (t10 : Int) (t11 : Int) : impl_going_run_l (k + 1) ((g_rule, g_spots, g_x, g_y, g_way), out, t10, t11, ()) =
  cond (decide (t11 < t10))
  ((impl_going_step k (g_rule, g_spots, g_x, g_y, g_way)).bind fun r1 =>
   cond (!r1.1.2)
   (some (.inl (ByteArray.empty, false, r1.2)))
   (cond (fits (out.length + 1) 1)
    (impl_going_run_l k (r1.2, (out ++ [r1.1.1]), t10, (w64 (t11 + 1)), ()))
    (none)))
  (some (.inr (out, (g_rule, g_spots, g_x, g_y, g_way)))) := by kernel_rfl
theorem impl_going_step.eq (k : Nat) (g_rule : ByteArray) (g_spots : List ((Int × Int) × Int)) (g_x : Int) (g_y : Int) (g_way : Int) : impl_going_step (k + 1) (g_rule, g_spots, g_x, g_y, g_way) =
  cond (inB (mget (K := (Int × Int)) (α := Int) (Sh.eqT (.pair (.int .i64) (.int .i64))) g_spots (g_x, g_y) 0) g_rule.size)
  ((impl_quarters k (bt g_rule ((mget (K := (Int × Int)) (α := Int) (Sh.eqT (.pair (.int .i64) (.int .i64))) g_spots (g_x, g_y) 0).toNat))).bind fun r1 =>
   cond ((g_rule.size : Int) != 0)
   ((impl_going_paint k ((g_rule, g_spots, g_x, g_y, ((w64 (g_way + r1)).tmod 4)), g_x, g_y, ((w64 ((mget (K := (Int × Int)) (α := Int) (Sh.eqT (.pair (.int .i64) (.int .i64))) g_spots (g_x, g_y) 0) + 1)).tmod (g_rule.size : Int)))).bind fun r2 =>
    (impl_ahead k r2.2.2.2.2.2).bind fun r3 =>
    cond (inB (mget (K := (Int × Int)) (α := Int) (Sh.eqT (.pair (.int .i64) (.int .i64))) g_spots (g_x, g_y) 0) r2.2.1.size)
    ((impl_going_isPlain k (r2.2.1, r2.2.2.1, (w64 (r2.2.2.2.1 + r3.1)), (w64 (r2.2.2.2.2.1 + r3.2)), r2.2.2.2.2.2)).bind fun r4 =>
     some (((bt r2.2.1 ((mget (K := (Int × Int)) (α := Int) (Sh.eqT (.pair (.int .i64) (.int .i64))) g_spots (g_x, g_y) 0).toNat)), r4), (r2.2.1, r2.2.2.1, (w64 (r2.2.2.2.1 + r3.1)), (w64 (r2.2.2.2.2.1 + r3.2)), r2.2.2.2.2.2)))
    (none))
   (none))
  (none) := by kernel_rfl
theorem impl_quarters.eq (k : Nat) (sign : Int) : impl_quarters (k + 1) sign =
  cond (sign == 76)
  (some 3)
  (cond (sign == 82)
   (some 1)
   (cond (sign == 85)
    (some 2)
    (some 0))) := by kernel_rfl
theorem impl_going_paint.eq (k : Nat) (g_rule : ByteArray) (g_spots : List ((Int × Int) × Int)) (g_x : Int) (g_y : Int) (g_way : Int) (x : Int) (y : Int) (colour : Int) : impl_going_paint (k + 1) ((g_rule, g_spots, g_x, g_y, g_way), x, y, colour) =
  cond (decide (colour > 0))
  (some ((), (g_rule, (mput (K := (Int × Int)) (α := Int) (Sh.eqT (.pair (.int .i64) (.int .i64))) (mdel (K := (Int × Int)) (α := Int) (Sh.eqT (.pair (.int .i64) (.int .i64))) g_spots (x, y)) (x, y) colour), g_x, g_y, g_way)))
  (some ((), (g_rule, (mdel (K := (Int × Int)) (α := Int) (Sh.eqT (.pair (.int .i64) (.int .i64))) g_spots (x, y)), g_x, g_y, g_way))) := by kernel_rfl
theorem impl_ahead.eq (k : Nat) (way : Int) : impl_ahead (k + 1) way =
  cond (inB way 4)
  (cond (inB way 4)
   (some ((([0, 1, 0, (-1)] : List Int).getD way.toNat default), (([(-1), 0, 1, 0] : List Int).getD way.toNat default)))
   (none))
  (none) := by kernel_rfl
theorem impl_going_isPlain.eq (k : Nat) (g_rule : ByteArray) (g_spots : List ((Int × Int) × Int)) (g_x : Int) (g_y : Int) (g_way : Int) : impl_going_isPlain (k + 1) (g_rule, g_spots, g_x, g_y, g_way) =
  (impl_isNear k ([g_x, g_y])).bind fun r1 =>
  cond r1
  (some (decide ((g_spots.length : Int) ≤ 300)))
  (some false) := by kernel_rfl
theorem impl_going_plain.eq (k : Nat) (d : (ByteArray × (List ((Int × Int) × Int) × (Int × (Int × Int))))) : impl_going_plain (k + 1) d = (fun d => plainB d) d := by kernel_rfl
theorem spec_PlainAfter.eq (k : Nat) (p_Rule : ByteArray) (p_Spots : List (Int × (Int × Int))) (p_X : Int) (p_Y : Int) (p_Way : Int) (steps : Int) : spec_PlainAfter (k + 1) ((p_Rule, p_Spots, p_X, p_Y, p_Way), steps) =
  (spec_enSteps k ((p_Rule, p_Spots, p_X, p_Y, p_Way), steps)).bind fun r1 =>
  cond (!r1)
  (some ((ByteArray.empty, [], 0, 0, 0), false))
  ((spec_enOwn k (p_Rule, p_Spots, p_X, p_Y, p_Way)).bind fun r2 =>
   (spec_enAfter k (r2, steps)).bind fun r3 =>
   some (r3.1, r3.2.2)) := by kernel_rfl
theorem spec_enSteps.eq (k : Nat) (p_Rule : ByteArray) (p_Spots : List (Int × (Int × Int))) (p_X : Int) (p_Y : Int) (p_Way : Int) (steps : Int) : spec_enSteps (k + 1) ((p_Rule, p_Spots, p_X, p_Y, p_Way), steps) =
  (spec_enGood k (p_Rule, p_Spots, p_X, p_Y, p_Way)).bind fun r1 =>
  cond r1
  ((spec_l1In k (steps, 0, 1000)).bind fun r2 =>
   some r2)
  (some false) := by kernel_rfl
theorem spec_enGood.eq (k : Nat) (p_Rule : ByteArray) (p_Spots : List (Int × (Int × Int))) (p_X : Int) (p_Y : Int) (p_Way : Int) : spec_enGood (k + 1) (p_Rule, p_Spots, p_X, p_Y, p_Way) =
  (spec_woRule k p_Rule).bind fun r1 =>
  cond (!r1)
  (some false)
  (cond (decide ((p_Spots.length : Int) > 300))
   (some false)
   ((spec_enFar k p_X).bind fun r2 =>
    cond (!r2)
    (some false)
    ((spec_enFar k p_Y).bind fun r3 =>
     cond (!r3)
     (some false)
     ((spec_l1In k (p_Way, 0, 3)).bind fun r4 =>
      cond (!r4)
      (some false)
      ((spec_enGood_l k ((p_Rule, p_Spots, p_X, p_Y, p_Way), (), (p_Spots.length : Int), 0)).bind fun r5 =>
       r5.elim
       (fun r6 => some r6)
       (fun r7 => some true)))))) := by kernel_rfl
theorem spec_woRule.eq (k : Nat) (rule : ByteArray) : spec_woRule (k + 1) rule =
  (spec_l1In k ((rule.size : Int), 1, 6)).bind fun r1 =>
  cond (!r1)
  (some false)
  ((spec_woRule_l k (rule, 0)).bind fun r2 =>
   r2.elim
   (fun r3 => some r3)
   (fun r4 => some true)) := by kernel_rfl
theorem spec_l1In.eq (k : Nat) (n : Int) (lo : Int) (hi : Int) : spec_l1In (k + 1) (n, lo, hi) =
  cond (decide (n ≥ lo))
  (some (decide (n ≤ hi)))
  (some false) := by kernel_rfl
theorem spec_woRule_l.eq (k : Nat) (rule : ByteArray) (i : Int) : spec_woRule_l (k + 1) (rule, i) =
  cond (decide (i < (rule.size : Int)))
  (cond (inB i rule.size)
   (cond ((bt rule i.toNat) == 76)
    (spec_woRule_l k (rule, (w64 (i + 1))))
    (cond ((bt rule i.toNat) == 82)
     (spec_woRule_l k (rule, (w64 (i + 1))))
     (cond ((bt rule i.toNat) == 78)
      (spec_woRule_l k (rule, (w64 (i + 1))))
      (cond ((bt rule i.toNat) == 85)
       (spec_woRule_l k (rule, (w64 (i + 1))))
       (some (.inl false))))))
   (none))
  (some (.inr ())) := by kernel_rfl
theorem spec_enFar.eq (k : Nat) (n : Int) : spec_enFar (k + 1) n =
  (spec_l1In k (n, (-1000), 1000)).bind fun r1 =>
  some r1 := by kernel_rfl
theorem spec_enGood_l.eq (k : Nat) (p_Rule : ByteArray) (p_Spots : List (Int × (Int × Int))) (p_X : Int) (p_Y : Int) (p_Way : Int) (t35 : Int) (t36 : Int) : spec_enGood_l (k + 1) ((p_Rule, p_Spots, p_X, p_Y, p_Way), (), t35, t36) =
  cond (decide (t36 < t35))
  (cond (inB t36 p_Spots.length)
   ((spec_enFar k ((p_Spots.getD t36.toNat default).1)).bind fun r1 =>
    cond (!r1)
    (some (.inl false))
    ((spec_enFar k ((p_Spots.getD t36.toNat default).2.1)).bind fun r2 =>
     cond (!r2)
     (some (.inl false))
     ((spec_l1In k ((p_Spots.getD t36.toNat default).2.2, 1, (w64 ((p_Rule.size : Int) - 1)))).bind fun r3 =>
      cond (!r3)
      (some (.inl false))
      (cond (decide (t36 > 0))
       (cond (inB (w64 (t36 - 1)) p_Spots.length)
        ((spec_enLess k ((p_Spots.getD ((w64 (t36 - 1)).toNat) default), (p_Spots.getD t36.toNat default))).bind fun r4 =>
         cond (!r4)
         (some (.inl false))
         (spec_enGood_l k ((p_Rule, p_Spots, p_X, p_Y, p_Way), (), t35, (w64 (t36 + 1)))))
        (none))
       (spec_enGood_l k ((p_Rule, p_Spots, p_X, p_Y, p_Way), (), t35, (w64 (t36 + 1))))))))
   (none))
  (some (.inr ())) := by kernel_rfl
theorem spec_enOwn.eq (k : Nat) (p_Rule : ByteArray) (p_Spots : List (Int × (Int × Int))) (p_X : Int) (p_Y : Int) (p_Way : Int) : spec_enOwn (k + 1) (p_Rule, p_Spots, p_X, p_Y, p_Way) =
  cond (fits (0 + p_Spots.length) 24)
  (some (p_Rule, ([] ++ p_Spots), p_X, p_Y, p_Way))
  (none) := by kernel_rfl
theorem spec_enAfter.eq (k : Nat) (p_Rule : ByteArray) (p_Spots : List (Int × (Int × Int))) (p_X : Int) (p_Y : Int) (p_Way : Int) (steps : Int) : spec_enAfter (k + 1) ((p_Rule, p_Spots, p_X, p_Y, p_Way), steps) =
  (spec_enAfter_l k (steps, (p_Rule, p_Spots, p_X, p_Y, p_Way), (ByteArray.empty, [], 0, 0, 0), ByteArray.empty)).bind fun r1 =>
  r1.elim
  (fun r2 => some r2)
  (fun r3 => some (r3.1, r3.2.2, true)) := by kernel_rfl
theorem spec_enAfter_l.eq (k : Nat) (steps : Int) (p_Rule : ByteArray) (p_Spots : List (Int × (Int × Int))) (p_X : Int) (p_Y : Int) (p_Way : Int) (t4_Rule : ByteArray) (t4_Spots : List (Int × (Int × Int))) (t4_X : Int) (t4_Y : Int) (t4_Way : Int) (signs : ByteArray) : spec_enAfter_l (k + 1) (steps, (p_Rule, p_Spots, p_X, p_Y, p_Way), (t4_Rule, t4_Spots, t4_X, t4_Y, t4_Way), signs) =
  cond (decide (steps > 0))
  ((spec_enColour k ((p_Rule, p_Spots, p_X, p_Y, p_Way), p_X, p_Y)).bind fun r1 =>
   (spec_enColour k ((p_Rule, p_Spots, p_X, p_Y, p_Way), p_X, p_Y)).bind fun r2 =>
   cond (((decide ((0 : Int) ≤ (w64 (r2 + 1)))) && (decide ((w64 (r2 + 1)) ≤ (p_Rule.size : Int)))) && ((decide ((0 : Int) ≤ r1)) && (decide (r1 ≤ (w64 (r2 + 1))))))
   (cond (fitS signs (p_Rule.extract r1.toNat ((w64 (r2 + 1)).toNat)))
    ((spec_enStep k (p_Rule, p_Spots, p_X, p_Y, p_Way)).bind fun r3 =>
     cond (!r3.2)
     (some (.inl ((ByteArray.empty, [], 0, 0, 0), ByteArray.empty, false)))
     (spec_enAfter_l k ((w64 (steps - 1)), r3.1, (t4_Rule, t4_Spots, t4_X, t4_Y, t4_Way), (signs ++ (p_Rule.extract r1.toNat ((w64 (r2 + 1)).toNat))))))
    (none))
   (none))
  (some (.inr ((p_Rule, p_Spots, p_X, p_Y, p_Way), (t4_Rule, t4_Spots, t4_X, t4_Y, t4_Way), signs))) := by kernel_rfl
theorem spec_enColour.eq (k : Nat) (p_Rule : ByteArray) (p_Spots : List (Int × (Int × Int))) (p_X : Int) (p_Y : Int) (p_Way : Int) (x : Int) (y : Int) : spec_enColour (k + 1) ((p_Rule, p_Spots, p_X, p_Y, p_Way), x, y) =
  (spec_enAt k (p_Spots, x, y)).bind fun r1 =>
  cond r1.2
  (cond (inB r1.1 p_Spots.length)
   (some ((p_Spots.getD r1.1.toNat default).2.2))
   (none))
  (some 0) := by kernel_rfl
theorem spec_enStep.eq (k : Nat) (p_Rule : ByteArray) (p_Spots : List (Int × (Int × Int))) (p_X : Int) (p_Y : Int) (p_Way : Int) : spec_enStep (k + 1) (p_Rule, p_Spots, p_X, p_Y, p_Way) =
  (spec_enColour k ((p_Rule, p_Spots, p_X, p_Y, p_Way), p_X, p_Y)).bind fun r1 =>
  cond (inB r1 p_Rule.size)
  ((spec_woTurn k (bt p_Rule r1.toNat)).bind fun r2 =>
   cond ((p_Rule.size : Int) != 0)
   ((spec_enPaint k (p_Spots, p_X, p_Y, ((w64 (r1 + 1)).tmod (p_Rule.size : Int)))).bind fun r3 =>
    (spec_enGo k ((p_Rule, r3, p_X, p_Y, ((w64 (p_Way + r2)).tmod 4)), 1)).bind fun r4 =>
    (spec_enGood k r4.2).bind fun r5 =>
    cond (!r5)
    (some ((ByteArray.empty, [], 0, 0, 0), false))
    (some (r4.2, true)))
   (none))
  (none) := by kernel_rfl
theorem spec_woTurn.eq (k : Nat) (sign : Int) : spec_woTurn (k + 1) sign =
  cond (sign == 82)
  (some 1)
  (cond (sign == 85)
   (some 2)
   (cond (sign == 76)
    (some 3)
    (some 0))) := by kernel_rfl
theorem spec_enGo.eq (k : Nat) (p_Rule : ByteArray) (p_Spots : List (Int × (Int × Int))) (p_X : Int) (p_Y : Int) (p_Way : Int) (cells : Int) : spec_enGo (k + 1) ((p_Rule, p_Spots, p_X, p_Y, p_Way), cells) =
  cond (p_Way == 0)
  (some ((), (p_Rule, p_Spots, p_X, (w64 (p_Y - cells)), p_Way)))
  (cond (p_Way == 1)
   (some ((), (p_Rule, p_Spots, (w64 (p_X + cells)), p_Y, p_Way)))
   (cond (p_Way == 2)
    (some ((), (p_Rule, p_Spots, p_X, (w64 (p_Y + cells)), p_Way)))
    (some ((), (p_Rule, p_Spots, (w64 (p_X - cells)), p_Y, p_Way))))) := by kernel_rfl
theorem impl_PlainBefore.eq (k : Nat) (p_Rule : ByteArray) (p_Spots : List (Int × (Int × Int))) (p_X : Int) (p_Y : Int) (p_Way : Int) (steps : Int) : impl_PlainBefore (k + 1) ((p_Rule, p_Spots, p_X, p_Y, p_Way), steps) =
  (impl_isRun k ((p_Rule, p_Spots, p_X, p_Y, p_Way), steps)).bind fun r1 =>
  cond (!r1)
  (some ((ByteArray.empty, [], 0, 0, 0), false))
  ((impl_Plain_going k (p_Rule, p_Spots, p_X, p_Y, p_Way)).bind fun r2 =>
   (impl_PlainBefore_l k ((ByteArray.empty, [], 0, 0, 0), r2, steps, 0)).bind fun r3 =>
   r3.elim
   (fun r4 => some r4)
   (fun r5 => (impl_going_plain k r5.2).bind fun r6 =>
    some (r6, true))) := by kernel_rfl
theorem impl_PlainBefore_l.eq (k : Nat) (t4_Rule : ByteArray) (t4_Spots : List (Int × (Int × Int))) (t4_X : Int) (t4_Y : Int) (t4_Way : Int) (g_rule : ByteArray) (g_spots : List ((Int × Int) × Int)) (g_x : Int) (g_y : Int) (g_way : Int) (t14 : Int) (t15 : Int) : impl_PlainBefore_l (k + 1) ((t4_Rule, t4_Spots, t4_X, t4_Y, t4_Way), (g_rule, g_spots, g_x, g_y, g_way), t14, t15) =
  cond (decide (t15 < t14))
  ((impl_going_back k (g_rule, g_spots, g_x, g_y, g_way)).bind fun r1 =>
   cond (!r1.1)
   (some (.inl ((ByteArray.empty, [], 0, 0, 0), false)))
   (impl_PlainBefore_l k ((t4_Rule, t4_Spots, t4_X, t4_Y, t4_Way), r1.2, t14, (w64 (t15 + 1)))))
  (some (.inr ((t4_Rule, t4_Spots, t4_X, t4_Y, t4_Way), (g_rule, g_spots, g_x, g_y, g_way)))) := by kernel_rfl
theorem impl_going_back.eq (k : Nat) (g_rule : ByteArray) (g_spots : List ((Int × Int) × Int)) (g_x : Int) (g_y : Int) (g_way : Int) : impl_going_back (k + 1) (g_rule, g_spots, g_x, g_y, g_way) =
  (impl_ahead k g_way).bind fun r1 =>
  cond ((g_rule.size : Int) != 0)
  (cond (inB ((w64 ((w64 ((mget (K := (Int × Int)) (α := Int) (Sh.eqT (.pair (.int .i64) (.int .i64))) g_spots ((w64 (g_x - r1.1)), (w64 (g_y - r1.2))) 0) + (g_rule.size : Int))) - 1)).tmod (g_rule.size : Int)) g_rule.size)
   ((impl_quarters k (bt g_rule (((w64 ((w64 ((mget (K := (Int × Int)) (α := Int) (Sh.eqT (.pair (.int .i64) (.int .i64))) g_spots ((w64 (g_x - r1.1)), (w64 (g_y - r1.2))) 0) + (g_rule.size : Int))) - 1)).tmod (g_rule.size : Int)).toNat))).bind fun r2 =>
    (impl_going_paint k ((g_rule, g_spots, (w64 (g_x - r1.1)), (w64 (g_y - r1.2)), ((w64 ((w64 (g_way + 4)) - r2)).tmod 4)), (w64 (g_x - r1.1)), (w64 (g_y - r1.2)), ((w64 ((w64 ((mget (K := (Int × Int)) (α := Int) (Sh.eqT (.pair (.int .i64) (.int .i64))) g_spots ((w64 (g_x - r1.1)), (w64 (g_y - r1.2))) 0) + (g_rule.size : Int))) - 1)).tmod (g_rule.size : Int)))).bind fun r3 =>
    (impl_going_isPlain k r3.2).bind fun r4 =>
    some (r4, r3.2))
   (none))
  (none) := by kernel_rfl
theorem spec_PlainBefore.eq (k : Nat) (p_Rule : ByteArray) (p_Spots : List (Int × (Int × Int))) (p_X : Int) (p_Y : Int) (p_Way : Int) (steps : Int) : spec_PlainBefore (k + 1) ((p_Rule, p_Spots, p_X, p_Y, p_Way), steps) =
  (spec_enSteps k ((p_Rule, p_Spots, p_X, p_Y, p_Way), steps)).bind fun r1 =>
  cond (!r1)
  (some ((ByteArray.empty, [], 0, 0, 0), false))
  ((spec_enOwn k (p_Rule, p_Spots, p_X, p_Y, p_Way)).bind fun r2 =>
   (spec_PlainBefore_l k (steps, r2, (ByteArray.empty, [], 0, 0, 0))).bind fun r3 =>
   r3.elim
   (fun r4 => some r4)
   (fun r5 => some (r5.1, true))) := by kernel_rfl
theorem spec_PlainBefore_l.eq (k : Nat) (steps : Int) (p_Rule : ByteArray) (p_Spots : List (Int × (Int × Int))) (p_X : Int) (p_Y : Int) (p_Way : Int) (t4_Rule : ByteArray) (t4_Spots : List (Int × (Int × Int))) (t4_X : Int) (t4_Y : Int) (t4_Way : Int) : spec_PlainBefore_l (k + 1) (steps, (p_Rule, p_Spots, p_X, p_Y, p_Way), (t4_Rule, t4_Spots, t4_X, t4_Y, t4_Way)) =
  cond (decide (steps > 0))
  ((spec_enBack k (p_Rule, p_Spots, p_X, p_Y, p_Way)).bind fun r1 =>
   cond (!r1.2)
   (some (.inl ((ByteArray.empty, [], 0, 0, 0), false)))
   (spec_PlainBefore_l k ((w64 (steps - 1)), r1.1, (t4_Rule, t4_Spots, t4_X, t4_Y, t4_Way))))
  (some (.inr ((p_Rule, p_Spots, p_X, p_Y, p_Way), (t4_Rule, t4_Spots, t4_X, t4_Y, t4_Way)))) := by kernel_rfl
theorem spec_enBack.eq (k : Nat) (p_Rule : ByteArray) (p_Spots : List (Int × (Int × Int))) (p_X : Int) (p_Y : Int) (p_Way : Int) : spec_enBack (k + 1) (p_Rule, p_Spots, p_X, p_Y, p_Way) =
  (spec_enGo_2 k ((p_Rule, p_Spots, p_X, p_Y, p_Way), (-1))).bind fun r1 =>
  (spec_enColour k (r1.2, r1.2.2.2.1, r1.2.2.2.2.1)).bind fun r2 =>
  (spec_l1Mod k ((w64 (r2 - 1)), (r1.2.1.size : Int))).bind fun r3 =>
  (spec_enPaint k (r1.2.2.1, r1.2.2.2.1, r1.2.2.2.2.1, r3)).bind fun r4 =>
  cond (inB r3 r1.2.1.size)
  ((spec_woTurn k (bt r1.2.1 r3.toNat)).bind fun r5 =>
   (spec_l1Mod k ((w64 (r1.2.2.2.2.2 - r5)), 4)).bind fun r6 =>
   (spec_enGood k (r1.2.1, r4, r1.2.2.2.1, r1.2.2.2.2.1, r6)).bind fun r7 =>
   cond (!r7)
   (some ((ByteArray.empty, [], 0, 0, 0), false))
   (some ((r1.2.1, r4, r1.2.2.2.1, r1.2.2.2.2.1, r6), true)))
  (none) := by kernel_rfl
theorem spec_enGo_2.eq (k : Nat) (p_Rule : ByteArray) (p_Spots : List (Int × (Int × Int))) (p_X : Int) (p_Y : Int) (p_Way : Int) (cells : Int) : spec_enGo_2 (k + 1) ((p_Rule, p_Spots, p_X, p_Y, p_Way), cells) =
  cond (p_Way == 0)
  (some ((), (p_Rule, p_Spots, p_X, (w64 (p_Y - cells)), p_Way)))
  (cond (p_Way == 1)
   (some ((), (p_Rule, p_Spots, (w64 (p_X + cells)), p_Y, p_Way)))
   (cond (p_Way == 2)
    (some ((), (p_Rule, p_Spots, p_X, (w64 (p_Y + cells)), p_Way)))
    (some ((), (p_Rule, p_Spots, (w64 (p_X - cells)), p_Y, p_Way))))) := by kernel_rfl
theorem spec_l1Mod.eq (k : Nat) (n : Int) (m : Int) : spec_l1Mod (k + 1) (n, m) =
  cond (m != 0)
  (cond (m != 0)
   (some ((w64 ((n.tmod m) + m)).tmod m))
   (none))
  (none) := by kernel_rfl
theorem impl_TurnsOfPlain.eq (k : Nat) (p_Rule : ByteArray) (p_Spots : List (Int × (Int × Int))) (p_X : Int) (p_Y : Int) (p_Way : Int) (steps : Int) : impl_TurnsOfPlain (k + 1) ((p_Rule, p_Spots, p_X, p_Y, p_Way), steps) =
  (impl_isRun k ((p_Rule, p_Spots, p_X, p_Y, p_Way), steps)).bind fun r1 =>
  cond (!r1)
  (some (ByteArray.empty, false))
  ((impl_Plain_going k (p_Rule, p_Spots, p_X, p_Y, p_Way)).bind fun r2 =>
   (impl_going_run k (r2, steps)).bind fun r3 =>
   some r3.1) := by kernel_rfl
theorem spec_TurnsOfPlain.eq (k : Nat) (p_Rule : ByteArray) (p_Spots : List (Int × (Int × Int))) (p_X : Int) (p_Y : Int) (p_Way : Int) (steps : Int) : spec_TurnsOfPlain (k + 1) ((p_Rule, p_Spots, p_X, p_Y, p_Way), steps) =
  (spec_enSteps k ((p_Rule, p_Spots, p_X, p_Y, p_Way), steps)).bind fun r1 =>
  cond (!r1)
  (some (ByteArray.empty, false))
  ((spec_enAfter k ((p_Rule, p_Spots, p_X, p_Y, p_Way), steps)).bind fun r2 =>
   some r2.2) := by kernel_rfl
theorem laws_dPlain.eq (k : Nat) (a_Rule : ByteArray) (a_Spots : List (Int × (Int × Int))) (a_X : Int) (a_Y : Int) (a_Way : Int) (b_Rule : ByteArray) (b_Spots : List (Int × (Int × Int))) (b_X : Int) (b_Y : Int) (b_Way : Int) : laws_dPlain (k + 1) ((a_Rule, a_Spots, a_X, a_Y, a_Way), (b_Rule, b_Spots, b_X, b_Y, b_Way)) =
  cond (!(strEq a_Rule b_Rule))
  (some false)
  (cond (a_X != b_X)
   (some false)
   (cond (a_Y != b_Y)
    (some false)
    (cond (a_Way != b_Way)
     (some false)
     (cond ((a_Spots.length : Int) != (b_Spots.length : Int))
      (some false)
      ((laws_dPlain_l k ((a_Rule, a_Spots, a_X, a_Y, a_Way), (b_Rule, b_Spots, b_X, b_Y, b_Way), (a_Spots.length : Int), 0)).bind fun r1 =>
       r1.elim
       (fun r2 => some r2)
       (fun r3 => some true)))))) := by kernel_rfl
theorem laws_dPlain_l.eq (k : Nat) (a_Rule : ByteArray) (a_Spots : List (Int × (Int × Int))) (a_X : Int) (a_Y : Int) (a_Way : Int) (b_Rule : ByteArray) (b_Spots : List (Int × (Int × Int))) (b_X : Int) (b_Y : Int) (b_Way : Int) (t43 : Int) (t44 : Int) : laws_dPlain_l (k + 1) ((a_Rule, a_Spots, a_X, a_Y, a_Way), (b_Rule, b_Spots, b_X, b_Y, b_Way), t43, t44) =
  cond (decide (t44 < t43))
  (cond (inB t44 a_Spots.length)
   (cond (inB t44 b_Spots.length)
    (cond (!(((a_Spots.getD t44.toNat default).1 == (b_Spots.getD t44.toNat default).1) && (((a_Spots.getD t44.toNat default).2.1 == (b_Spots.getD t44.toNat default).2.1) && (((a_Spots.getD t44.toNat default).2.2 == (b_Spots.getD t44.toNat default).2.2) && true))))
     (some (.inl false))
     (laws_dPlain_l k ((a_Rule, a_Spots, a_X, a_Y, a_Way), (b_Rule, b_Spots, b_X, b_Y, b_Way), t43, (w64 (t44 + 1)))))
    (none))
   (none))
  (some (.inr ())) := by kernel_rfl
theorem spec_IsPlain.eq (k : Nat) (p_Rule : ByteArray) (p_Spots : List (Int × (Int × Int))) (p_X : Int) (p_Y : Int) (p_Way : Int) : spec_IsPlain (k + 1) (p_Rule, p_Spots, p_X, p_Y, p_Way) =
  (spec_enGood k (p_Rule, p_Spots, p_X, p_Y, p_Way)).bind fun r1 =>
  some r1 := by kernel_rfl
theorem impl_DriftOf.eq (k : Nat) (p_Rule : ByteArray) (p_Spots : List (Int × (Int × Int))) (p_X : Int) (p_Y : Int) (p_Way : Int) (steps : Int) (period : Int) : impl_DriftOf (k + 1) ((p_Rule, p_Spots, p_X, p_Y, p_Way), steps, period) =
  (impl_isRun k ((p_Rule, p_Spots, p_X, p_Y, p_Way), steps)).bind fun r1 =>
  cond (!r1)
  (some (0, 0, false))
  ((impl_within k (period, 0, (w64 (1000 - steps)))).bind fun r2 =>
   cond (!r2)
   (some (0, 0, false))
   ((impl_Plain_going k (p_Rule, p_Spots, p_X, p_Y, p_Way)).bind fun r3 =>
    (impl_going_run k (r3, steps)).bind fun r4 =>
    cond (!r4.1.2)
    (some (0, 0, false))
    ((impl_going_drift k (r4.2, period)).bind fun r5 =>
     cond (!r5.1.2.2.2)
     (some (0, 0, false))
     (some (r5.1.2.1, r5.1.2.2.1, true))))) := by kernel_rfl
theorem impl_going_drift.eq (k : Nat) (g_rule : ByteArray) (g_spots : List ((Int × Int) × Int)) (g_x : Int) (g_y : Int) (g_way : Int) (period : Int) : impl_going_drift (k + 1) ((g_rule, g_spots, g_x, g_y, g_way), period) =
  (impl_going_run k ((g_rule, g_spots, g_x, g_y, g_way), period)).bind fun r1 =>
  some ((r1.1.1, (w64 (r1.2.2.2.1 - g_x)), (w64 (r1.2.2.2.2.1 - g_y)), r1.1.2), r1.2) := by kernel_rfl
theorem impl_StepPlain.eq (k : Nat) (p_Rule : ByteArray) (p_Spots : List (Int × (Int × Int))) (p_X : Int) (p_Y : Int) (p_Way : Int) : impl_StepPlain (k + 1) (p_Rule, p_Spots, p_X, p_Y, p_Way) =
  (impl_PlainAfter k ((p_Rule, p_Spots, p_X, p_Y, p_Way), 1)).bind fun r1 =>
  some r1 := by kernel_rfl
theorem impl_ColourOfSpot.eq (k : Nat) (p_Rule : ByteArray) (p_Spots : List (Int × (Int × Int))) (p_X : Int) (p_Y : Int) (p_Way : Int) (x : Int) (y : Int) : impl_ColourOfSpot (k + 1) ((p_Rule, p_Spots, p_X, p_Y, p_Way), x, y) =
  (impl_IsPlain k (p_Rule, p_Spots, p_X, p_Y, p_Way)).bind fun r1 =>
  cond (!r1)
  (some (0, false))
  ((impl_isNear k ([x, y])).bind fun r2 =>
   cond (!r2)
   (some (0, false))
   ((impl_Plain_going k (p_Rule, p_Spots, p_X, p_Y, p_Way)).bind fun r3 =>
    some ((mget (K := (Int × Int)) (α := Int) (Sh.eqT (.pair (.int .i64) (.int .i64))) r3.2.1 (x, y) 0), true))) := by kernel_rfl
theorem spec_DrawStepPlain.eq (k : Nat) (code : List Int) : spec_DrawStepPlain (k + 1) code =
  (spec_DrawIsPlain k code).bind fun r1 =>
  some r1 := by kernel_rfl
theorem spec_DrawIsPlain.eq (k : Nat) (code : List Int) : spec_DrawIsPlain (k + 1) code =
  (spec_l1Cur_plain k (code, 0, 0)).bind fun r1 =>
  some r1.1 := by kernel_rfl
theorem spec_StepPlain.eq (k : Nat) (p_Rule : ByteArray) (p_Spots : List (Int × (Int × Int))) (p_X : Int) (p_Y : Int) (p_Way : Int) : spec_StepPlain (k + 1) (p_Rule, p_Spots, p_X, p_Y, p_Way) =
  (spec_enGood k (p_Rule, p_Spots, p_X, p_Y, p_Way)).bind fun r1 =>
  cond (!r1)
  (some ((ByteArray.empty, [], 0, 0, 0), false))
  ((spec_enStep k (p_Rule, p_Spots, p_X, p_Y, p_Way)).bind fun r2 =>
   some r2) := by kernel_rfl
theorem spec_DrawIsHighway.eq (k : Nat) (code : List Int) : spec_DrawIsHighway (k + 1) code =
  (spec_DrawDriftOf k code).bind fun r1 =>
  some r1 := by kernel_rfl
theorem spec_DrawDriftOf.eq (k : Nat) (code : List Int) : spec_DrawDriftOf (k + 1) code =
  (spec_l1Cur_plain k (code, 0, 0)).bind fun r1 =>
  (spec_l1Cur_going k r1.2).bind fun r2 =>
  (spec_l1Cur_pick k (r2.2, 20)).bind fun r3 =>
  (spec_l1Cur_pick k (r3.2, 9)).bind fun r4 =>
  some (r1.1, r2.1, (w64 (r3.1 - (w64 (r4.1.tdiv 8))))) := by kernel_rfl
theorem spec_DriftOf.eq (k : Nat) (p_Rule : ByteArray) (p_Spots : List (Int × (Int × Int))) (p_X : Int) (p_Y : Int) (p_Way : Int) (steps : Int) (period : Int) : spec_DriftOf (k + 1) ((p_Rule, p_Spots, p_X, p_Y, p_Way), steps, period) =
  (spec_enSteps k ((p_Rule, p_Spots, p_X, p_Y, p_Way), steps)).bind fun r1 =>
  cond (!r1)
  (some (0, 0, false))
  ((spec_l1In k (period, 0, (w64 (1000 - steps)))).bind fun r2 =>
   cond (!r2)
   (some (0, 0, false))
   ((spec_enAfter k ((p_Rule, p_Spots, p_X, p_Y, p_Way), steps)).bind fun r3 =>
    cond (!r3.2.2)
    (some (0, 0, false))
    ((spec_enAfter k (r3.1, period)).bind fun r4 =>
     cond (!r4.2.2)
     (some (0, 0, false))
     (some ((w64 (r4.1.2.2.1 - r3.1.2.2.1)), (w64 (r4.1.2.2.2.1 - r3.1.2.2.2.1)), true))))) := by kernel_rfl
theorem impl_IsHighway.eq (k : Nat) (p_Rule : ByteArray) (p_Spots : List (Int × (Int × Int))) (p_X : Int) (p_Y : Int) (p_Way : Int) (steps : Int) (period : Int) : impl_IsHighway (k + 1) ((p_Rule, p_Spots, p_X, p_Y, p_Way), steps, period) =
  (impl_isRun k ((p_Rule, p_Spots, p_X, p_Y, p_Way), steps)).bind fun r1 =>
  cond (!r1)
  (some (false, false))
  ((impl_within k (period, 1, (w64 ((w64 (1000 - steps)).tdiv 3)))).bind fun r2 =>
   cond (!r2)
   (some (false, false))
   ((impl_Plain_going k (p_Rule, p_Spots, p_X, p_Y, p_Way)).bind fun r3 =>
    (impl_going_run k (r3, steps)).bind fun r4 =>
    cond (!r4.1.2)
    (some (false, false))
    ((impl_going_drift k (r4.2, period)).bind fun r5 =>
     cond (r5.1.2.1 != 0)
     ((impl_IsHighway_l k (period, r5.2, r5.1.1, r5.1.2.1, r5.1.2.2.1, r5.1.2.2.2, true, 0)).bind fun r6 =>
      r6.elim
      (fun r7 => some r7)
      (fun r8 => cond r8.1
       (some (r8.2, r8.1))
       (some (false, r8.1))))
     ((impl_IsHighway_l k (period, r5.2, r5.1.1, r5.1.2.1, r5.1.2.2.1, r5.1.2.2.2, (r5.1.2.2.1 != 0), 0)).bind fun r9 =>
      r9.elim
      (fun r10 => some r10)
      (fun r11 => cond r11.1
       (some (r11.2, r11.1))
       (some (false, r11.1))))))) := by kernel_rfl
theorem impl_IsHighway_l.eq (k : Nat) (period : Int) (g_rule : ByteArray) (g_spots : List ((Int × Int) × Int)) (g_x : Int) (g_y : Int) (g_way : Int) (turns : ByteArray) (x : Int) (y : Int) (ok : Bool) (is : Bool) (t56 : Int) : impl_IsHighway_l (k + 1) (period, (g_rule, g_spots, g_x, g_y, g_way), turns, x, y, ok, is, t56) =
  cond (decide (t56 < 2))
  (cond (!ok)
   (some (.inl (false, false)))
   ((impl_going_drift k ((g_rule, g_spots, g_x, g_y, g_way), period)).bind fun r1 =>
    cond is
    (cond (strEq r1.1.1 turns)
     (cond (r1.1.2.1 == x)
      (impl_IsHighway_l k (period, r1.2, turns, x, y, r1.1.2.2.2, (r1.1.2.2.1 == y), (w64 (t56 + 1))))
      (impl_IsHighway_l k (period, r1.2, turns, x, y, r1.1.2.2.2, false, (w64 (t56 + 1)))))
     (impl_IsHighway_l k (period, r1.2, turns, x, y, r1.1.2.2.2, false, (w64 (t56 + 1)))))
    (impl_IsHighway_l k (period, r1.2, turns, x, y, r1.1.2.2.2, false, (w64 (t56 + 1))))))
  (some (.inr (ok, is))) := by kernel_rfl
theorem spec_IsHighway.eq (k : Nat) (p_Rule : ByteArray) (p_Spots : List (Int × (Int × Int))) (p_X : Int) (p_Y : Int) (p_Way : Int) (steps : Int) (period : Int) : spec_IsHighway (k + 1) ((p_Rule, p_Spots, p_X, p_Y, p_Way), steps, period) =
  (spec_enSteps k ((p_Rule, p_Spots, p_X, p_Y, p_Way), steps)).bind fun r1 =>
  cond (!r1)
  (some (false, false))
  ((spec_l1In k (period, 1, (w64 ((w64 (1000 - steps)).tdiv 3)))).bind fun r2 =>
   cond (!r2)
   (some (false, false))
   ((spec_enAfter k ((p_Rule, p_Spots, p_X, p_Y, p_Way), steps)).bind fun r3 =>
    cond (!r3.2.2)
    (some (false, false))
    ((spec_IsHighway_l k (period, r3.1, true, ByteArray.empty, 0, 0, 0)).bind fun r4 =>
     r4.elim
     (fun r5 => some r5)
     (fun r6 => cond r6.1
      (cond (r6.2.1 != 0)
       (some (true, true))
       (some ((r6.2.2 != 0), true)))
      (some (false, true)))))) := by kernel_rfl
theorem spec_IsHighway_l.eq (k : Nat) (period : Int) (a_Rule : ByteArray) (a_Spots : List (Int × (Int × Int))) (a_X : Int) (a_Y : Int) (a_Way : Int) (is : Bool) (first : ByteArray) (dx : Int) (dy : Int) (k_ : Int) : spec_IsHighway_l (k + 1) (period, (a_Rule, a_Spots, a_X, a_Y, a_Way), is, first, dx, dy, k_) =
  cond (decide (k_ < 3))
  ((spec_enAfter k ((a_Rule, a_Spots, a_X, a_Y, a_Way), period)).bind fun r1 =>
   cond (!r1.2.2)
   (some (.inl (false, false)))
   (cond (k_ == 0)
    (cond is
     (cond (strEq r1.2.1 r1.2.1)
      (cond ((w64 (r1.1.2.2.1 - a_X)) == (w64 (r1.1.2.2.1 - a_X)))
       (spec_IsHighway_l k (period, r1.1, ((w64 (r1.1.2.2.2.1 - a_Y)) == (w64 (r1.1.2.2.2.1 - a_Y))), r1.2.1, (w64 (r1.1.2.2.1 - a_X)), (w64 (r1.1.2.2.2.1 - a_Y)), (w64 (k_ + 1))))
       (spec_IsHighway_l k (period, r1.1, false, r1.2.1, (w64 (r1.1.2.2.1 - a_X)), (w64 (r1.1.2.2.2.1 - a_Y)), (w64 (k_ + 1)))))
      (spec_IsHighway_l k (period, r1.1, false, r1.2.1, (w64 (r1.1.2.2.1 - a_X)), (w64 (r1.1.2.2.2.1 - a_Y)), (w64 (k_ + 1)))))
     (spec_IsHighway_l k (period, r1.1, false, r1.2.1, (w64 (r1.1.2.2.1 - a_X)), (w64 (r1.1.2.2.2.1 - a_Y)), (w64 (k_ + 1)))))
    (cond is
     (cond (strEq r1.2.1 first)
      (cond ((w64 (r1.1.2.2.1 - a_X)) == dx)
       (spec_IsHighway_l k (period, r1.1, ((w64 (r1.1.2.2.2.1 - a_Y)) == dy), first, dx, dy, (w64 (k_ + 1))))
       (spec_IsHighway_l k (period, r1.1, false, first, dx, dy, (w64 (k_ + 1)))))
      (spec_IsHighway_l k (period, r1.1, false, first, dx, dy, (w64 (k_ + 1)))))
     (spec_IsHighway_l k (period, r1.1, false, first, dx, dy, (w64 (k_ + 1)))))))
  (some (.inr (is, dx, dy))) := by kernel_rfl
end Go.Proofs.YtplamonjnlgomaaGreatDoorS
