/- What each function computes (printed by wip/sim/gen.py). -/
import Derived.Test.YtcmebphcoamohaaGreatDoorTab
namespace Go.Proofs.YtcmebphcoamohaaGreatDoorS
open Go Go.Proofs
set_option maxRecDepth 100000
set_option linter.unusedVariables false
theorem laws_FnTablesNamed.eq (k : Nat) (code : List Int) (more : List Int) : laws_FnTablesNamed (k + 1) (code, more) =
  (laws_big k (code, more)).bind fun r1 =>
  cond r1
  (some true)
  ((spec_DrawRenameStates k code).bind fun r2 =>
   (impl_RenameStates k r2).bind fun r3 =>
   (spec_RenameStates k r2).bind fun r4 =>
   (spec_DrawRenameTints k code).bind fun r5 =>
   (impl_RenameTints k r5).bind fun r6 =>
   (spec_RenameTints k r5).bind fun r7 =>
   cond (!(r3.2 == r4.2))
   (some false)
   ((laws_dTable k (r3.1, r4.1)).bind fun r8 =>
    cond (!r8)
    (some false)
    (cond (!(r6.2 == r7.2))
     (some false)
     ((laws_dTable k (r6.1, r7.1)).bind fun r9 =>
      cond (!r9)
      (some false)
      ((impl_IsTable k r2.1).bind fun r10 =>
       (spec_IsTable k r2.1).bind fun r11 =>
       cond (!(r10 == r11))
       (some false)
       (cond r3.2
        ((impl_IsTable k r2.1).bind fun r12 =>
         cond (!r12)
         (some false)
         ((laws_FnTablesNamed_c k (more, r2.1, r2.2, r3.1, r3.2, r5.1, r5.2, r6.1, r6.2)).bind fun r13 =>
          some r13))
        ((laws_FnTablesNamed_c k (more, r2.1, r2.2, r3.1, r3.2, r5.1, r5.2, r6.1, r6.2)).bind fun r14 =>
         some r14))))))) := by kernel_rfl
theorem laws_big.eq (k : Nat) (code : List Int) (more : List Int) : laws_big (k + 1) (code, more) =
  cond (decide ((code.length : Int) > 1048576))
  (some true)
  (some (decide ((more.length : Int) > (w64 (1048576 - (code.length : Int)))))) := by kernel_rfl
theorem spec_DrawRenameStates.eq (k : Nat) (code : List Int) : spec_DrawRenameStates (k + 1) code =
  (spec_l1Cur_table k (code, 0, 0)).bind fun r1 =>
  (spec_l1Cur_order k (r1.2, r1.1.1)).bind fun r2 =>
  some (r1.1, r2.1) := by kernel_rfl
theorem spec_l1Cur_table.eq (k : Nat) (c_code : List Int) (c_at : Int) (c_seed : Int) : spec_l1Cur_table (k + 1) (c_code, c_at, c_seed) =
  (spec_l1Cur_sureTable k (c_code, c_at, c_seed)).bind fun r1 =>
  (spec_l1Cur_pick k (r1.2, 16)).bind fun r2 =>
  cond (r2.1 == 0)
  ((spec_l1Cur_among k (r2.2, [(-1), 0, 1, 4, 5, 4611686018427387904])).bind fun r3 =>
   some ((r3.1, r1.1.2.1, r1.1.2.2), r3.2))
  (cond (r2.1 == 1)
   ((spec_l1Cur_among k (r2.2, [(-1), 0, 1, 4, 5, 4611686018427387904])).bind fun r4 =>
    some ((r1.1.1, r4.1, r1.1.2.2), r4.2))
   (cond (r2.1 == 2)
    ((spec_l1Cur_pick k (r2.2, (r1.1.2.2.length : Int))).bind fun r5 =>
     (spec_l1Cur_pick k (r5.2, 6)).bind fun r6 =>
     (spec_l1Cur_of k (r6.2, [(bs [76]), ByteArray.empty, (bs [76, 82]), (bs [120])])).bind fun r7 =>
     (spec_l1Cur_pick k (r7.2, 6)).bind fun r8 =>
     cond (inB r5.1 r1.1.2.2.length)
     (some ((r1.1.1, r1.1.2.1, (r1.1.2.2.set r5.1.toNat ((w64 (r6.1 - 1)), (r7.1, (w64 (r8.1 - 1)))))), r8.2))
     (none))
    (cond (r2.1 == 3)
     (cond (fits (r1.1.2.2.length + 1) 32)
      (some ((r1.1.1, r1.1.2.1, (r1.1.2.2 ++ [(0, ((bs [76]), 0))])), r2.2))
      (none))
     (some (r1.1, r2.2))))) := by kernel_rfl
theorem spec_l1Cur_sureTable.eq (k : Nat) (c_code : List Int) (c_at : Int) (c_seed : Int) : spec_l1Cur_sureTable (k + 1) (c_code, c_at, c_seed) =
  (spec_l1Cur_pick k ((c_code, c_at, c_seed), 3)).bind fun r1 =>
  (spec_l1Cur_pick k (r1.2, 3)).bind fun r2 =>
  (spec_l1Cur_one k (r2.2, 2)).bind fun r3 =>
  (spec_l1Cur_sureTable_l k (r3.2, (0, 0, []), ((w64 (1 + r1.1)), (w64 (1 + r2.1)), []), r3.1, [], 0, ())).bind fun r4 =>
  (spec_l1Cur_sureTable_l_2 k (r4.1, r4.2.1, r4.2.2.1, r4.2.2.2.1, r4.2.2.2.2.1, 0, ())).bind fun r5 =>
  some r5.2 := by kernel_rfl
theorem spec_l1Cur_pick.eq (k : Nat) (c_code : List Int) (c_at : Int) (c_seed : Int) (n : Int) : spec_l1Cur_pick (k + 1) ((c_code, c_at, c_seed), n) =
  cond (decide (n ≤ 1))
  (some (0, (c_code, c_at, c_seed)))
  ((spec_l1Cur_next k (c_code, c_at, c_seed)).bind fun r1 =>
   cond (decide (n > 200))
   ((spec_l1Cur_next k r1.2).bind fun r2 =>
    cond (n != 0)
    (some (((w64 ((w64 (r1.1 * 256)) + r2.1)).tmod n), r2.2))
    (none))
   (cond (n != 0)
    (some ((r1.1.tmod n), r1.2))
    (none))) := by kernel_rfl
theorem spec_l1Cur_next.eq (k : Nat) (c_code : List Int) (c_at : Int) (c_seed : Int) : spec_l1Cur_next (k + 1) (c_code, c_at, c_seed) =
  cond (decide (c_at < (c_code.length : Int)))
  (cond (inB c_at c_code.length)
   (cond (decide ((w64 (c_at + 1)) ≤ (c_code.length : Int)))
    (some ((w64 (c_code.getD c_at.toNat default)), (c_code, (w64 (c_at + 1)), (IntKind.u64.wrap ((IntKind.u64.wrap ((IntKind.u64.wrap (c_seed * 6364136223846793005)) + (IntKind.u64.wrap (w64 (c_code.getD c_at.toNat default))))) + 1442695040888963407)))))
    (some ((w64 (andI .u64 (shrI .u64 (IntKind.u64.wrap ((IntKind.u64.wrap ((IntKind.u64.wrap (c_seed * 6364136223846793005)) + (IntKind.u64.wrap (w64 (c_code.getD c_at.toNat default))))) + 1442695040888963407)) 40) 255)), (c_code, (w64 (c_at + 1)), (IntKind.u64.wrap ((IntKind.u64.wrap ((IntKind.u64.wrap (c_seed * 6364136223846793005)) + (IntKind.u64.wrap (w64 (c_code.getD c_at.toNat default))))) + 1442695040888963407))))))
   (none))
  (cond (decide ((w64 (c_at + 1)) ≤ (c_code.length : Int)))
   (some (0, (c_code, (w64 (c_at + 1)), (IntKind.u64.wrap ((IntKind.u64.wrap ((IntKind.u64.wrap (c_seed * 6364136223846793005)) + 0)) + 1442695040888963407)))))
   (some ((w64 (andI .u64 (shrI .u64 (IntKind.u64.wrap ((IntKind.u64.wrap ((IntKind.u64.wrap (c_seed * 6364136223846793005)) + 0)) + 1442695040888963407)) 40) 255)), (c_code, (w64 (c_at + 1)), (IntKind.u64.wrap ((IntKind.u64.wrap ((IntKind.u64.wrap (c_seed * 6364136223846793005)) + 0)) + 1442695040888963407)))))) := by kernel_rfl
theorem spec_l1Cur_one.eq (k : Nat) (c_code : List Int) (c_at : Int) (c_seed : Int) (n : Int) : spec_l1Cur_one (k + 1) ((c_code, c_at, c_seed), n) =
  (spec_l1Cur_pick k ((c_code, c_at, c_seed), n)).bind fun r1 =>
  some ((r1.1 == 0), r1.2) := by kernel_rfl
theorem spec_l1Cur_sureTable_l.eq (k : Nat) (c_code : List Int) (c_at : Int) (c_seed : Int) (t2_States : Int) (t2_Tints : Int) (t2_Rows : List (Int × (ByteArray × Int))) (t_States : Int) (t_Tints : Int) (t_Rows : List (Int × (ByteArray × Int))) (undo : Bool) (pairs : List Int) (k_ : Int) : spec_l1Cur_sureTable_l (k + 1) ((c_code, c_at, c_seed), (t2_States, t2_Tints, t2_Rows), (t_States, t_Tints, t_Rows), undo, pairs, k_, ()) =
  cond (decide (k_ < (w64 (t_States * t_Tints))))
  ((spec_l1Cur_pick k ((c_code, c_at, c_seed), (w64 (k_ + 1)))).bind fun r1 =>
   cond ((decide ((0 : Int) ≤ r1.1)) && (decide (r1.1 ≤ (pairs.length : Int))))
   ((spec_l1Own k (pairs.take r1.1.toNat)).bind fun r2 =>
    cond (fits (r2.length + 1) 8)
    (cond ((decide ((0 : Int) ≤ r1.1)) && (decide (r1.1 ≤ (pairs.length : Int))))
     (cond (fits ((r2 ++ [k_]).length + ((pairs.drop r1.1.toNat).take (pairs.length - r1.1.toNat)).length) 8)
      (spec_l1Cur_sureTable_l k (r1.2, (t2_States, t2_Tints, t2_Rows), (t_States, t_Tints, t_Rows), undo, ((r2 ++ [k_]) ++ ((pairs.drop r1.1.toNat).take (pairs.length - r1.1.toNat))), (w64 (k_ + 1)), ()))
      (none))
     (none))
    (none))
   (none))
  (some ((c_code, c_at, c_seed), (t2_States, t2_Tints, t2_Rows), (t_States, t_Tints, t_Rows), undo, pairs, ())) := by kernel_rfl
theorem spec_l1Own.eq (k : Nat) (l : List Int) : spec_l1Own (k + 1) l =
  cond (fits (0 + l.length) 8)
  (some ([] ++ l))
  (none) := by kernel_rfl
theorem spec_l1Cur_sureTable_l_2.eq (k : Nat) (c_code : List Int) (c_at : Int) (c_seed : Int) (t2_States : Int) (t2_Tints : Int) (t2_Rows : List (Int × (ByteArray × Int))) (t_States : Int) (t_Tints : Int) (t_Rows : List (Int × (ByteArray × Int))) (undo : Bool) (pairs : List Int) (k_ : Int) : spec_l1Cur_sureTable_l_2 (k + 1) ((c_code, c_at, c_seed), (t2_States, t2_Tints, t2_Rows), (t_States, t_Tints, t_Rows), undo, pairs, k_, ()) =
  cond (decide (k_ < (w64 (t_States * t_Tints))))
  (cond (inB k_ pairs.length)
   (cond (!undo)
    ((spec_l1Cur_pick k ((c_code, c_at, c_seed), (w64 (t_States * t_Tints)))).bind fun r1 =>
     cond (t_Tints != 0)
     ((spec_l1Cur_of k (r1.2, [(bs [76]), (bs [82]), (bs [78]), (bs [85])])).bind fun r2 =>
      cond (t_Tints != 0)
      (cond (fits (t_Rows.length + 1) 32)
       (spec_l1Cur_sureTable_l_2 k (r2.2, (t2_States, t2_Tints, t2_Rows), (t_States, t_Tints, (t_Rows ++ [((r1.1.tmod t_Tints), (r2.1, (w64 (r1.1.tdiv t_Tints))))])), undo, pairs, (w64 (k_ + 1)), ()))
       (none))
      (none))
     (none))
    (cond (t_Tints != 0)
     ((spec_l1Cur_of k ((c_code, c_at, c_seed), [(bs [76]), (bs [82]), (bs [78]), (bs [85])])).bind fun r3 =>
      cond (t_Tints != 0)
      (cond (fits (t_Rows.length + 1) 32)
       (spec_l1Cur_sureTable_l_2 k (r3.2, (t2_States, t2_Tints, t2_Rows), (t_States, t_Tints, (t_Rows ++ [(((pairs.getD k_.toNat default).tmod t_Tints), (r3.1, (w64 ((pairs.getD k_.toNat default).tdiv t_Tints))))])), undo, pairs, (w64 (k_ + 1)), ()))
       (none))
      (none))
     (none)))
   (none))
  (some ((t2_States, t2_Tints, t2_Rows), (t_States, t_Tints, t_Rows), (c_code, c_at, c_seed))) := by kernel_rfl
theorem spec_l1Cur_of.eq (k : Nat) (c_code : List Int) (c_at : Int) (c_seed : Int) (list : List ByteArray) : spec_l1Cur_of (k + 1) ((c_code, c_at, c_seed), list) =
  (spec_l1Cur_pick k ((c_code, c_at, c_seed), (list.length : Int))).bind fun r1 =>
  cond (inB r1.1 list.length)
  (some ((list.getD r1.1.toNat default), r1.2))
  (none) := by kernel_rfl
theorem spec_l1Cur_among.eq (k : Nat) (c_code : List Int) (c_at : Int) (c_seed : Int) (list : List Int) : spec_l1Cur_among (k + 1) ((c_code, c_at, c_seed), list) =
  (spec_l1Cur_pick k ((c_code, c_at, c_seed), (list.length : Int))).bind fun r1 =>
  cond (inB r1.1 list.length)
  (some ((list.getD r1.1.toNat default), r1.2))
  (none) := by kernel_rfl
theorem spec_l1Cur_order.eq (k : Nat) (c_code : List Int) (c_at : Int) (c_seed : Int) (n : Int) : spec_l1Cur_order (k + 1) ((c_code, c_at, c_seed), n) =
  (spec_l1Cur_order_l k ((c_code, c_at, c_seed), n, [], 0, ())).bind fun r1 =>
  (spec_l1Cur_one k (r1.1, 10)).bind fun r2 =>
  cond r2.1
  (cond (decide ((r1.2.1.length : Int) > 0))
   ((spec_l1Cur_among k (r2.2, [(-1), 0, 1, 4])).bind fun r3 =>
    cond (inB 0 r1.2.1.length)
    (some ((r1.2.1.set 0 r3.1), r3.2))
    (none))
   (some (r1.2.1, r2.2)))
  (some (r1.2.1, r2.2)) := by kernel_rfl
theorem spec_l1Cur_order_l.eq (k : Nat) (c_code : List Int) (c_at : Int) (c_seed : Int) (n : Int) (out : List Int) (i : Int) : spec_l1Cur_order_l (k + 1) ((c_code, c_at, c_seed), n, out, i, ()) =
  (spec_l1Least k (5, n)).bind fun r1 =>
  cond (decide (i < r1))
  ((spec_l1Cur_pick k ((c_code, c_at, c_seed), (w64 ((out.length : Int) + 1)))).bind fun r2 =>
   cond ((decide ((0 : Int) ≤ r2.1)) && (decide (r2.1 ≤ (out.length : Int))))
   ((spec_l1Own k (out.take r2.1.toNat)).bind fun r3 =>
    cond (fits (r3.length + 1) 8)
    (cond ((decide ((0 : Int) ≤ r2.1)) && (decide (r2.1 ≤ (out.length : Int))))
     (cond (fits ((r3 ++ [i]).length + ((out.drop r2.1.toNat).take (out.length - r2.1.toNat)).length) 8)
      (spec_l1Cur_order_l k (r2.2, n, ((r3 ++ [i]) ++ ((out.drop r2.1.toNat).take (out.length - r2.1.toNat))), (w64 (i + 1)), ()))
      (none))
     (none))
    (none))
   (none))
  (some ((c_code, c_at, c_seed), out, ())) := by kernel_rfl
theorem spec_l1Least.eq (k : Nat) (a : Int) (b : Int) : spec_l1Least (k + 1) (a, b) =
  cond (decide (a < b))
  (some a)
  (some b) := by kernel_rfl
theorem impl_RenameStates.eq (k : Nat) (t_States : Int) (t_Tints : Int) (t_Rows : List (Int × (ByteArray × Int))) (order : List Int) : impl_RenameStates (k + 1) ((t_States, t_Tints, t_Rows), order) =
  (impl_IsTable k (t_States, t_Tints, t_Rows)).bind fun r1 =>
  cond (!r1)
  (some ((0, 0, []), false))
  ((impl_isOrder k (order, t_States)).bind fun r2 =>
   cond (!r2)
   (some ((0, 0, []), false))
   ((impl_Table_renamed k ((t_States, t_Tints, t_Rows), order, ())).bind fun r3 =>
    some (r3, true))) := by kernel_rfl
theorem impl_IsTable.eq (k : Nat) (t_States : Int) (t_Tints : Int) (t_Rows : List (Int × (ByteArray × Int))) : impl_IsTable (k + 1) (t_States, t_Tints, t_Rows) =
  (impl_isShape k (t_States, t_Tints)).bind fun r1 =>
  cond r1
  (cond ((t_Rows.length : Int) == (w64 (t_States * t_Tints)))
   ((slices_ContainsFunc k (t_Rows, (t_States, t_Tints, ()))).bind fun r2 =>
    some (!r2))
   (some false))
  (some false) := by kernel_rfl
theorem impl_isShape.eq (k : Nat) (states : Int) (tints : Int) : impl_isShape (k + 1) (states, tints) =
  (impl_within k (states, 1, 4)).bind fun r1 =>
  cond r1
  ((impl_within k (tints, 1, 4)).bind fun r2 =>
   some r2)
  (some false) := by kernel_rfl
theorem impl_within.eq (k : Nat) (n : Int) (low : Int) (high : Int) : impl_within (k + 1) (n, low, high) =
  cond (decide (low ≤ n))
  (some (decide (n ≤ high)))
  (some false) := by kernel_rfl
theorem slices_ContainsFunc.eq (k : Nat) (s : List (Int × (ByteArray × Int))) (f_0 : Int) (f_01 : Int) : slices_ContainsFunc (k + 1) (s, (f_0, f_01, ())) =
  (slices_IndexFunc k (s, (f_0, f_01, ()))).bind fun r1 =>
  some (decide (r1 ≥ 0)) := by kernel_rfl
theorem slices_IndexFunc.eq (k : Nat) (s : List (Int × (ByteArray × Int))) (f_0 : Int) (f_01 : Int) : slices_IndexFunc (k + 1) (s, (f_0, f_01, ())) =
  (slices_IndexFunc_l k (s, (f_0, f_01, ()), (s.length : Int), 0)).bind fun r1 =>
  r1.elim
  (fun r2 => some r2)
  (fun r3 => some (-1)) := by kernel_rfl
theorem slices_IndexFunc_l.eq (k : Nat) (s : List (Int × (ByteArray × Int))) (f_0 : Int) (f_01 : Int) (t7 : Int) (t8 : Int) : slices_IndexFunc_l (k + 1) (s, (f_0, f_01, ()), t7, t8) =
  cond (decide (t8 < t7))
  (cond (inB t8 s.length)
   ((impl_IsTable_1 k ((s.getD t8.toNat default), (f_0, f_01, s))).bind fun r1 =>
    cond r1
    (some (.inl t8))
    (slices_IndexFunc_l k (s, (f_0, f_01, ()), t7, (w64 (t8 + 1)))))
   (none))
  (some (.inr ())) := by kernel_rfl
theorem impl_IsTable_1.eq (k : Nat) (r_Paint : Int) (r_Turn : ByteArray) (r_Next : Int) (t1_0 : Int) (t1_1 : Int) (t1_2 : List (Int × (ByteArray × Int))) : impl_IsTable_1 (k + 1) ((r_Paint, r_Turn, r_Next), (t1_0, t1_1, t1_2)) =
  (impl_Table_isTint k ((t1_0, t1_1, t1_2), r_Paint)).bind fun r1 =>
  cond (!r1)
  (some true)
  ((impl_Table_isState k ((t1_0, t1_1, t1_2), r_Next)).bind fun r2 =>
   cond (!r2)
   (some true)
   (cond ((r_Turn.size : Int) != 1)
    (some true)
    ((strings_Contains k ((bs [76, 82, 78, 85]), r_Turn)).bind fun r3 =>
     some (!r3)))) := by kernel_rfl
theorem impl_Table_isTint.eq (k : Nat) (t_States : Int) (t_Tints : Int) (t_Rows : List (Int × (ByteArray × Int))) (tint : Int) : impl_Table_isTint (k + 1) ((t_States, t_Tints, t_Rows), tint) =
  (impl_within k (tint, 0, (w64 (t_Tints - 1)))).bind fun r1 =>
  some r1 := by kernel_rfl
theorem impl_Table_isState.eq (k : Nat) (t_States : Int) (t_Tints : Int) (t_Rows : List (Int × (ByteArray × Int))) (state : Int) : impl_Table_isState (k + 1) ((t_States, t_Tints, t_Rows), state) =
  (impl_within k (state, 0, (w64 (t_States - 1)))).bind fun r1 =>
  some r1 := by kernel_rfl
theorem strings_Contains.eq (k : Nat) (d : ByteArray × ByteArray) : strings_Contains (k + 1) d = (fun d => strContains1 d.1 d.2) d := by kernel_rfl
theorem impl_isOrder.eq (k : Nat) (order : List Int) (n : Int) : impl_isOrder (k + 1) (order, n) =
  cond ((order.length : Int) == n)
  ((impl_areWithin k (order, 0, (w64 (n - 1)))).bind fun r1 =>
   cond r1
   ((impl_areDifferent k order).bind fun r2 =>
    some r2)
   (some false))
  (some false) := by kernel_rfl
theorem impl_areWithin.eq (k : Nat) (list : List Int) (low : Int) (high : Int) : impl_areWithin (k + 1) (list, low, high) =
  (slices_ContainsFunc_2 k (list, (low, high))).bind fun r1 =>
  some (!r1) := by kernel_rfl
theorem slices_ContainsFunc_2.eq (k : Nat) (s : List Int) (f_0 : Int) (f_1 : Int) : slices_ContainsFunc_2 (k + 1) (s, (f_0, f_1)) =
  (slices_IndexFunc_2 k (s, (f_0, f_1))).bind fun r1 =>
  some (decide (r1 ≥ 0)) := by kernel_rfl
theorem slices_IndexFunc_2.eq (k : Nat) (s : List Int) (f_0 : Int) (f_1 : Int) : slices_IndexFunc_2 (k + 1) (s, (f_0, f_1)) =
  (slices_IndexFunc_2_l k (s, (f_0, f_1), (s.length : Int), 0)).bind fun r1 =>
  r1.elim
  (fun r2 => some r2)
  (fun r3 => some (-1)) := by kernel_rfl
theorem slices_IndexFunc_2_l.eq (k : Nat) (s : List Int) (f_0 : Int) (f_1 : Int) (t7 : Int) (t8 : Int) : slices_IndexFunc_2_l (k + 1) (s, (f_0, f_1), t7, t8) =
  cond (decide (t8 < t7))
  (cond (inB t8 s.length)
   ((impl_areWithin_1 k ((s.getD t8.toNat default), f_0, f_1)).bind fun r1 =>
    cond r1
    (some (.inl t8))
    (slices_IndexFunc_2_l k (s, (f_0, f_1), t7, (w64 (t8 + 1)))))
   (none))
  (some (.inr ())) := by kernel_rfl
theorem impl_areWithin_1.eq (k : Nat) (n : Int) (t1_0 : Int) (t2_0 : Int) : impl_areWithin_1 (k + 1) (n, t1_0, t2_0) =
  (impl_within k (n, t1_0, t2_0)).bind fun r1 =>
  some (!r1) := by kernel_rfl
theorem impl_areDifferent.eq (k : Nat) (list : List Int) : impl_areDifferent (k + 1) list =
  (impl_areDifferent_l k (list, (), (list.length : Int), 0)).bind fun r1 =>
  r1.elim
  (fun r2 => some r2)
  (fun r3 => some true) := by kernel_rfl
theorem impl_areDifferent_l.eq (k : Nat) (list : List Int) (t6 : Int) (t7 : Int) : impl_areDifferent_l (k + 1) (list, (), t6, t7) =
  cond (decide (t7 < t6))
  (cond (inB t7 list.length)
   (cond ((decide ((0 : Int) ≤ t7)) && (decide (t7 ≤ (list.length : Int))))
    ((slices_Contains k ((list.take t7.toNat), (list.getD t7.toNat default))).bind fun r1 =>
     cond r1
     (some (.inl false))
     (impl_areDifferent_l k (list, (), t6, (w64 (t7 + 1)))))
    (none))
   (none))
  (some (.inr ())) := by kernel_rfl
theorem slices_Contains.eq (k : Nat) (s : List Int) (v : Int) : slices_Contains (k + 1) (s, v) =
  (slices_Index k (s, v)).bind fun r1 =>
  some (decide (r1 ≥ 0)) := by kernel_rfl
theorem slices_Index.eq (k : Nat) (s : List Int) (v : Int) : slices_Index (k + 1) (s, v) =
  (slices_Index_l k (s, v, (s.length : Int), 0)).bind fun r1 =>
  r1.elim
  (fun r2 => some r2)
  (fun r3 => some (-1)) := by kernel_rfl
theorem slices_Index_l.eq (k : Nat) (s : List Int) (v : Int) (t7 : Int) (t8 : Int) : slices_Index_l (k + 1) (s, v, t7, t8) =
  cond (decide (t8 < t7))
  (cond (inB t8 s.length)
   (cond (v == (s.getD t8.toNat default))
    (some (.inl t8))
    (slices_Index_l k (s, v, t7, (w64 (t8 + 1)))))
   (none))
  (some (.inr ())) := by kernel_rfl
theorem impl_Table_renamed.eq (k : Nat) (t_States : Int) (t_Tints : Int) (t_Rows : List (Int × (ByteArray × Int))) (state_0 : List Int) : impl_Table_renamed (k + 1) ((t_States, t_Tints, t_Rows), state_0, ()) =
  (impl_Table_own k (t_States, t_Tints, t_Rows)).bind fun r1 =>
  (impl_Table_renamed_l k (state_0, (), (t_States, t_Tints, t_Rows), (0, 0, []), r1, (), (t_Rows.length : Int), 0)).bind fun r2 =>
  some r2.2 := by kernel_rfl
theorem impl_Table_own.eq (k : Nat) (t_States : Int) (t_Tints : Int) (t_Rows : List (Int × (ByteArray × Int))) : impl_Table_own (k + 1) (t_States, t_Tints, t_Rows) =
  (slices_Clone k t_Rows).bind fun r1 =>
  some (t_States, t_Tints, r1) := by kernel_rfl
theorem slices_Clone.eq (k : Nat) (d : List (Int × (ByteArray × Int))) : slices_Clone (k + 1) d = (fun d => cloneB (s := (.pair (.int .i64) (.pair .str (.int .i64)))) 32 d) d := by kernel_rfl
theorem impl_Table_renamed_l.eq (k : Nat) (state_0 : List Int) (t_States : Int) (t_Tints : Int) (t_Rows : List (Int × (ByteArray × Int))) (t6_States : Int) (t6_Tints : Int) (t6_Rows : List (Int × (ByteArray × Int))) (out_States : Int) (out_Tints : Int) (out_Rows : List (Int × (ByteArray × Int))) (t14 : Int) (t15 : Int) : impl_Table_renamed_l (k + 1) (state_0, (), (t_States, t_Tints, t_Rows), (t6_States, t6_Tints, t6_Rows), (out_States, out_Tints, out_Rows), (), t14, t15) =
  cond (decide (t15 < t14))
  (cond (inB t15 t_Rows.length)
   (cond (t_Tints != 0)
    ((impl_RenameStates_1 k ((w64 (t15.tdiv t_Tints)), state_0)).bind fun r1 =>
     cond (t_Tints != 0)
     ((impl_same k (t15.tmod t_Tints)).bind fun r2 =>
      (impl_same k ((t_Rows.getD t15.toNat default).1)).bind fun r3 =>
      (impl_RenameStates_1 k ((t_Rows.getD t15.toNat default).2.2, state_0)).bind fun r4 =>
      cond (inB (w64 ((w64 (r1 * t_Tints)) + r2)) out_Rows.length)
      (impl_Table_renamed_l k (state_0, (), (t_States, t_Tints, t_Rows), (t6_States, t6_Tints, t6_Rows), (out_States, out_Tints, (out_Rows.set ((w64 ((w64 (r1 * t_Tints)) + r2)).toNat) (r3, ((t_Rows.getD t15.toNat default).2.1, r4)))), (), t14, (w64 (t15 + 1))))
      (none))
     (none))
    (none))
   (none))
  (some ((t6_States, t6_Tints, t6_Rows), (out_States, out_Tints, out_Rows))) := by kernel_rfl
theorem impl_RenameStates_1.eq (k : Nat) (n : Int) (t1_0 : List Int) : impl_RenameStates_1 (k + 1) (n, t1_0) =
  cond (inB n t1_0.length)
  (some (t1_0.getD n.toNat default))
  (none) := by kernel_rfl
theorem impl_same.eq (k : Nat) (n : Int) : impl_same (k + 1) n =
  some n := by kernel_rfl
theorem spec_RenameStates.eq (k : Nat) (t_States : Int) (t_Tints : Int) (t_Rows : List (Int × (ByteArray × Int))) (order : List Int) : spec_RenameStates (k + 1) ((t_States, t_Tints, t_Rows), order) =
  (spec_taGood k (t_States, t_Tints, t_Rows)).bind fun r1 =>
  cond (!r1)
  (some ((0, 0, []), false))
  ((spec_taOrder k (t_States, order)).bind fun r2 =>
   cond (!r2)
   (some ((0, 0, []), false))
   (cond (((decide ((0 : Int) ≤ (t_Rows.length : Int))) && (decide ((t_Rows.length : Int) ≤ (t_Rows.length : Int)))) && (fits (t_Rows.length : Int).toNat 32))
    ((spec_RenameStates_l k (order, (t_States, t_Tints, t_Rows), (0, 0, []), (t_States, t_Tints, (List.replicate (t_Rows.length : Int).toNat (0, (ByteArray.empty, 0)))), (), (t_Rows.length : Int), 0)).bind fun r3 =>
     some (r3.2, true))
    (none))) := by kernel_rfl
theorem spec_taGood.eq (k : Nat) (t_States : Int) (t_Tints : Int) (t_Rows : List (Int × (ByteArray × Int))) : spec_taGood (k + 1) (t_States, t_Tints, t_Rows) =
  (spec_l1In k (t_States, 1, 4)).bind fun r1 =>
  cond (!r1)
  (some false)
  ((spec_l1In k (t_Tints, 1, 4)).bind fun r2 =>
   cond (!r2)
   (some false)
   (cond ((t_Rows.length : Int) != (w64 (t_States * t_Tints)))
    (some false)
    ((spec_taGood_l k ((t_States, t_Tints, t_Rows), (), (t_Rows.length : Int), 0)).bind fun r3 =>
     r3.elim
     (fun r4 => some r4)
     (fun r5 => some true)))) := by kernel_rfl
theorem spec_l1In.eq (k : Nat) (n : Int) (lo : Int) (hi : Int) : spec_l1In (k + 1) (n, lo, hi) =
  cond (decide (n ≥ lo))
  (some (decide (n ≤ hi)))
  (some false) := by kernel_rfl
theorem spec_taGood_l.eq (k : Nat) (t_States : Int) (t_Tints : Int) (t_Rows : List (Int × (ByteArray × Int))) (t28 : Int) (t29 : Int) : spec_taGood_l (k + 1) ((t_States, t_Tints, t_Rows), (), t28, t29) =
  cond (decide (t29 < t28))
  (cond (inB t29 t_Rows.length)
   ((spec_l1In k ((t_Rows.getD t29.toNat default).1, 0, (w64 (t_Tints - 1)))).bind fun r1 =>
    cond (!r1)
    (some (.inl false))
    ((spec_taSign k ((t_Rows.getD t29.toNat default).2.1)).bind fun r2 =>
     cond (!r2)
     (some (.inl false))
     ((spec_l1In k ((t_Rows.getD t29.toNat default).2.2, 0, (w64 (t_States - 1)))).bind fun r3 =>
      cond (!r3)
      (some (.inl false))
      (spec_taGood_l k ((t_States, t_Tints, t_Rows), (), t28, (w64 (t29 + 1)))))))
   (none))
  (some (.inr ())) := by kernel_rfl
theorem spec_taSign.eq (k : Nat) (s : ByteArray) : spec_taSign (k + 1) s =
  cond ((s.size : Int) == 1)
  ((spec_woRule k s).bind fun r1 =>
   some r1)
  (some false) := by kernel_rfl
theorem spec_woRule.eq (k : Nat) (rule : ByteArray) : spec_woRule (k + 1) rule =
  (spec_l1In k ((rule.size : Int), 1, 6)).bind fun r1 =>
  cond (!r1)
  (some false)
  ((spec_woRule_l k (rule, 0)).bind fun r2 =>
   r2.elim
   (fun r3 => some r3)
   (fun r4 => some true)) := by kernel_rfl
theorem spec_woRule_l.eq (k : Nat) (rule : ByteArray) (i : Int) : spec_woRule_l (k + 1) (rule, i) =
  cond (decide (i < (rule.size : Int)))
  (cond (inB i rule.size)
   (cond ((bt rule i.toNat) == 76)
    (spec_woRule_l k (rule, (w64 (i + 1))))
    (cond ((bt rule i.toNat) == 82)
     (spec_woRule_l k (rule, (w64 (i + 1))))
     (cond ((bt rule i.toNat) == 78)
      (spec_woRule_l k (rule, (w64 (i + 1))))
      (cond ((bt rule i.toNat) == 85)
       (spec_woRule_l k (rule, (w64 (i + 1))))
       (some (.inl false))))))
   (none))
  (some (.inr ())) := by kernel_rfl
theorem spec_taOrder.eq (k : Nat) (n : Int) (order : List Int) : spec_taOrder (k + 1) (n, order) =
  cond ((order.length : Int) != n)
  (some false)
  ((spec_l1All k (order, 0, (w64 (n - 1)))).bind fun r1 =>
   cond (!r1)
   (some false)
   ((spec_taOrder_l k (order, (), (order.length : Int), 0)).bind fun r2 =>
    r2.elim
    (fun r3 => some r3)
    (fun r4 => some true))) := by kernel_rfl
theorem spec_l1All.eq (k : Nat) (l : List Int) (lo : Int) (hi : Int) : spec_l1All (k + 1) (l, lo, hi) =
  (spec_l1All_l k (lo, hi, l, (l.length : Int), 0)).bind fun r1 =>
  r1.elim
  (fun r2 => some r2)
  (fun r3 => some true) := by kernel_rfl
theorem spec_l1All_l.eq (k : Nat) (lo : Int) (hi : Int) (t9 : List Int) (t10 : Int) (t11 : Int) : spec_l1All_l (k + 1) (lo, hi, t9, t10, t11) =
  cond (decide (t11 < t10))
  (cond (inB t11 t9.length)
   ((spec_l1In k ((t9.getD t11.toNat default), lo, hi)).bind fun r1 =>
    cond (!r1)
    (some (.inl false))
    (spec_l1All_l k (lo, hi, t9, t10, (w64 (t11 + 1)))))
   (none))
  (some (.inr ())) := by kernel_rfl
theorem spec_taOrder_l.eq (k : Nat) (order : List Int) (t19 : Int) (t20 : Int) : spec_taOrder_l (k + 1) (order, (), t19, t20) =
  cond (decide (t20 < t19))
  (cond (inB t20 order.length)
   (cond ((decide ((0 : Int) ≤ t20)) && (decide (t20 ≤ (order.length : Int))))
    ((spec_l1Has k ((order.take t20.toNat), (order.getD t20.toNat default))).bind fun r1 =>
     cond r1
     (some (.inl false))
     (spec_taOrder_l k (order, (), t19, (w64 (t20 + 1)))))
    (none))
   (none))
  (some (.inr ())) := by kernel_rfl
theorem spec_l1Has.eq (k : Nat) (l : List Int) (n : Int) : spec_l1Has (k + 1) (l, n) =
  (spec_l1Has_l k (n, l, (l.length : Int), 0)).bind fun r1 =>
  r1.elim
  (fun r2 => some r2)
  (fun r3 => some false) := by kernel_rfl
theorem spec_l1Has_l.eq (k : Nat) (n : Int) (t7 : List Int) (t8 : Int) (t9 : Int) : spec_l1Has_l (k + 1) (n, t7, t8, t9) =
  cond (decide (t9 < t8))
  (cond (inB t9 t7.length)
   (cond ((t7.getD t9.toNat default) == n)
    (some (.inl true))
    (spec_l1Has_l k (n, t7, t8, (w64 (t9 + 1)))))
   (none))
  (some (.inr ())) := by kernel_rfl
theorem spec_RenameStates_l.eq (k : Nat) (order : List Int) (t_States : Int) (t_Tints : Int) (t_Rows : List (Int × (ByteArray × Int))) (t4_States : Int) (t4_Tints : Int) (t4_Rows : List (Int × (ByteArray × Int))) (out_States : Int) (out_Tints : Int) (out_Rows : List (Int × (ByteArray × Int))) (t31 : Int) (t32 : Int) : spec_RenameStates_l (k + 1) (order, (t_States, t_Tints, t_Rows), (t4_States, t4_Tints, t4_Rows), (out_States, out_Tints, out_Rows), (), t31, t32) =
  cond (decide (t32 < t31))
  (cond (inB t32 t_Rows.length)
   (cond (t_Tints != 0)
    (cond (inB (w64 (t32.tdiv t_Tints)) order.length)
     (cond (t_Tints != 0)
      (cond (inB (t_Rows.getD t32.toNat default).2.2 order.length)
       (cond (inB (w64 ((w64 ((order.getD ((w64 (t32.tdiv t_Tints)).toNat) default) * t_Tints)) + (t32.tmod t_Tints))) out_Rows.length)
        (spec_RenameStates_l k (order, (t_States, t_Tints, t_Rows), (t4_States, t4_Tints, t4_Rows), (out_States, out_Tints, (out_Rows.set ((w64 ((w64 ((order.getD ((w64 (t32.tdiv t_Tints)).toNat) default) * t_Tints)) + (t32.tmod t_Tints))).toNat) ((t_Rows.getD t32.toNat default).1, ((t_Rows.getD t32.toNat default).2.1, (order.getD ((t_Rows.getD t32.toNat default).2.2.toNat) default))))), (), t31, (w64 (t32 + 1))))
        (none))
       (none))
      (none))
     (none))
    (none))
   (none))
  (some ((t4_States, t4_Tints, t4_Rows), (out_States, out_Tints, out_Rows))) := by kernel_rfl
theorem spec_DrawRenameTints.eq (k : Nat) (code : List Int) : spec_DrawRenameTints (k + 1) code =
  (spec_l1Cur_table k (code, 0, 0)).bind fun r1 =>
  (spec_l1Cur_order k (r1.2, r1.1.2.1)).bind fun r2 =>
  some (r1.1, r2.1) := by kernel_rfl
theorem impl_RenameTints.eq (k : Nat) (t_States : Int) (t_Tints : Int) (t_Rows : List (Int × (ByteArray × Int))) (order : List Int) : impl_RenameTints (k + 1) ((t_States, t_Tints, t_Rows), order) =
  (impl_IsTable k (t_States, t_Tints, t_Rows)).bind fun r1 =>
  cond (!r1)
  (some ((0, 0, []), false))
  ((impl_isOrder k (order, t_Tints)).bind fun r2 =>
   cond (!r2)
   (some ((0, 0, []), false))
   ((impl_Table_renamed_2 k ((t_States, t_Tints, t_Rows), (), order)).bind fun r3 =>
    some (r3, true))) := by kernel_rfl
theorem impl_Table_renamed_2.eq (k : Nat) (t_States : Int) (t_Tints : Int) (t_Rows : List (Int × (ByteArray × Int))) (tint_0 : List Int) : impl_Table_renamed_2 (k + 1) ((t_States, t_Tints, t_Rows), (), tint_0) =
  (impl_Table_own k (t_States, t_Tints, t_Rows)).bind fun r1 =>
  (impl_Table_renamed_2_l k ((), tint_0, (t_States, t_Tints, t_Rows), (0, 0, []), r1, (), (t_Rows.length : Int), 0)).bind fun r2 =>
  some r2.2 := by kernel_rfl
theorem impl_Table_renamed_2_l.eq (k : Nat) (tint_0 : List Int) (t_States : Int) (t_Tints : Int) (t_Rows : List (Int × (ByteArray × Int))) (t6_States : Int) (t6_Tints : Int) (t6_Rows : List (Int × (ByteArray × Int))) (out_States : Int) (out_Tints : Int) (out_Rows : List (Int × (ByteArray × Int))) (t14 : Int) (t15 : Int) : impl_Table_renamed_2_l (k + 1) ((), tint_0, (t_States, t_Tints, t_Rows), (t6_States, t6_Tints, t6_Rows), (out_States, out_Tints, out_Rows), (), t14, t15) =
  cond (decide (t15 < t14))
  (cond (inB t15 t_Rows.length)
   (cond (t_Tints != 0)
    ((impl_same k (w64 (t15.tdiv t_Tints))).bind fun r1 =>
     cond (t_Tints != 0)
     ((impl_RenameTints_1 k ((t15.tmod t_Tints), tint_0)).bind fun r2 =>
      (impl_RenameTints_1 k ((t_Rows.getD t15.toNat default).1, tint_0)).bind fun r3 =>
      (impl_same k ((t_Rows.getD t15.toNat default).2.2)).bind fun r4 =>
      cond (inB (w64 ((w64 (r1 * t_Tints)) + r2)) out_Rows.length)
      (impl_Table_renamed_2_l k ((), tint_0, (t_States, t_Tints, t_Rows), (t6_States, t6_Tints, t6_Rows), (out_States, out_Tints, (out_Rows.set ((w64 ((w64 (r1 * t_Tints)) + r2)).toNat) (r3, ((t_Rows.getD t15.toNat default).2.1, r4)))), (), t14, (w64 (t15 + 1))))
      (none))
     (none))
    (none))
   (none))
  (some ((t6_States, t6_Tints, t6_Rows), (out_States, out_Tints, out_Rows))) := by kernel_rfl
theorem impl_RenameTints_1.eq (k : Nat) (n : Int) (t1_0 : List Int) : impl_RenameTints_1 (k + 1) (n, t1_0) =
  cond (inB n t1_0.length)
  (some (t1_0.getD n.toNat default))
  (none) := by kernel_rfl
theorem spec_RenameTints.eq (k : Nat) (t_States : Int) (t_Tints : Int) (t_Rows : List (Int × (ByteArray × Int))) (order : List Int) : spec_RenameTints (k + 1) ((t_States, t_Tints, t_Rows), order) =
  (spec_taGood k (t_States, t_Tints, t_Rows)).bind fun r1 =>
  cond (!r1)
  (some ((0, 0, []), false))
  ((spec_taOrder k (t_Tints, order)).bind fun r2 =>
   cond (!r2)
   (some ((0, 0, []), false))
   (cond (((decide ((0 : Int) ≤ (t_Rows.length : Int))) && (decide ((t_Rows.length : Int) ≤ (t_Rows.length : Int)))) && (fits (t_Rows.length : Int).toNat 32))
    ((spec_RenameTints_l k (order, (t_States, t_Tints, t_Rows), (0, 0, []), (t_States, t_Tints, (List.replicate (t_Rows.length : Int).toNat (0, (ByteArray.empty, 0)))), (), (t_Rows.length : Int), 0)).bind fun r3 =>
     some (r3.2, true))
    (none))) := by kernel_rfl
theorem spec_RenameTints_l.eq (k : Nat) (order : List Int) (t_States : Int) (t_Tints : Int) (t_Rows : List (Int × (ByteArray × Int))) (t4_States : Int) (t4_Tints : Int) (t4_Rows : List (Int × (ByteArray × Int))) (out_States : Int) (out_Tints : Int) (out_Rows : List (Int × (ByteArray × Int))) (t31 : Int) (t32 : Int) : spec_RenameTints_l (k + 1) (order, (t_States, t_Tints, t_Rows), (t4_States, t4_Tints, t4_Rows), (out_States, out_Tints, out_Rows), (), t31, t32) =
  cond (decide (t32 < t31))
  (cond (inB t32 t_Rows.length)
   (cond (t_Tints != 0)
    (cond (t_Tints != 0)
     (cond (inB (t32.tmod t_Tints) order.length)
      (cond (inB (t_Rows.getD t32.toNat default).1 order.length)
       (cond (inB (w64 ((w64 ((w64 (t32.tdiv t_Tints)) * t_Tints)) + (order.getD ((t32.tmod t_Tints).toNat) default))) out_Rows.length)
        (spec_RenameTints_l k (order, (t_States, t_Tints, t_Rows), (t4_States, t4_Tints, t4_Rows), (out_States, out_Tints, (out_Rows.set ((w64 ((w64 ((w64 (t32.tdiv t_Tints)) * t_Tints)) + (order.getD ((t32.tmod t_Tints).toNat) default))).toNat) ((order.getD ((t_Rows.getD t32.toNat default).1.toNat) default), (t_Rows.getD t32.toNat default).2))), (), t31, (w64 (t32 + 1))))
        (none))
       (none))
      (none))
     (none))
    (none))
   (none))
  (some ((t4_States, t4_Tints, t4_Rows), (out_States, out_Tints, out_Rows))) := by kernel_rfl
theorem laws_dTable.eq (k : Nat) (a_States : Int) (a_Tints : Int) (a_Rows : List (Int × (ByteArray × Int))) (b_States : Int) (b_Tints : Int) (b_Rows : List (Int × (ByteArray × Int))) : laws_dTable (k + 1) ((a_States, a_Tints, a_Rows), (b_States, b_Tints, b_Rows)) =
  cond (a_States != b_States)
  (some false)
  (cond (a_Tints != b_Tints)
   (some false)
   (cond ((a_Rows.length : Int) != (b_Rows.length : Int))
    (some false)
    ((laws_dTable_l k ((a_States, a_Tints, a_Rows), (b_States, b_Tints, b_Rows), (a_Rows.length : Int), 0)).bind fun r1 =>
     r1.elim
     (fun r2 => some r2)
     (fun r3 => some true)))) := by kernel_rfl
theorem laws_dTable_l.eq (k : Nat) (a_States : Int) (a_Tints : Int) (a_Rows : List (Int × (ByteArray × Int))) (b_States : Int) (b_Tints : Int) (b_Rows : List (Int × (ByteArray × Int))) (t29 : Int) (t30 : Int) : laws_dTable_l (k + 1) ((a_States, a_Tints, a_Rows), (b_States, b_Tints, b_Rows), t29, t30) =
  cond (decide (t30 < t29))
  (cond (inB t30 a_Rows.length)
   (cond (inB t30 b_Rows.length)
    (cond (!(((a_Rows.getD t30.toNat default).1 == (b_Rows.getD t30.toNat default).1) && (((a_Rows.getD t30.toNat default).2.1 == (b_Rows.getD t30.toNat default).2.1) && (((a_Rows.getD t30.toNat default).2.2 == (b_Rows.getD t30.toNat default).2.2) && true))))
     (some (.inl false))
     (laws_dTable_l k ((a_States, a_Tints, a_Rows), (b_States, b_Tints, b_Rows), t29, (w64 (t30 + 1)))))
    (none))
   (none))
  (some (.inr ())) := by kernel_rfl
theorem spec_IsTable.eq (k : Nat) (t_States : Int) (t_Tints : Int) (t_Rows : List (Int × (ByteArray × Int))) : spec_IsTable (k + 1) (t_States, t_Tints, t_Rows) =
  (spec_taGood k (t_States, t_Tints, t_Rows)).bind fun r1 =>
  some r1 := by kernel_rfl
theorem laws_FnTablesNamed_c.eq (k : Nat) (more : List Int) (t_States : Int) (t_Tints : Int) (t_Rows : List (Int × (ByteArray × Int))) (order : List Int) (renamed_States : Int) (renamed_Tints : Int) (renamed_Rows : List (Int × (ByteArray × Int))) (ok : Bool) (u_States : Int) (u_Tints : Int) (u_Rows : List (Int × (ByteArray × Int))) (tints : List Int) (painted_States : Int) (painted_Tints : Int) (painted_Rows : List (Int × (ByteArray × Int))) (one : Bool) : laws_FnTablesNamed_c (k + 1) (more, (t_States, t_Tints, t_Rows), order, (renamed_States, renamed_Tints, renamed_Rows), ok, (u_States, u_Tints, u_Rows), tints, (painted_States, painted_Tints, painted_Rows), one) =
  cond ok
  (cond (((decide ((0 : Int) ≤ (order.length : Int))) && (decide ((order.length : Int) ≤ (order.length : Int)))) && (fits (order.length : Int).toNat 8))
   ((laws_FnTablesNamed_c_l k (more, (t_States, t_Tints, t_Rows), (renamed_States, renamed_Tints, renamed_Rows), (u_States, u_Tints, u_Rows), tints, (painted_States, painted_Tints, painted_Rows), one, (List.replicate (order.length : Int).toNat 0), order, (order.length : Int), 0)).bind fun r1 =>
    (impl_RenameStates k (r1.2.2.1, r1.2.2.2.2.2.2.2)).bind fun r2 =>
    (impl_CanUndo k r1.2.1).bind fun r3 =>
    (impl_CanUndo k r1.2.2.1).bind fun r4 =>
    cond (!r2.2)
    (some false)
    ((laws_dTable k (r2.1, r1.2.1)).bind fun r5 =>
     cond (!r5)
     (some false)
     (cond (!r3.2)
      (some false)
      (cond (!r4.2)
       (some false)
       (cond (!(r3.1 == r4.1))
        (some false)
        ((impl_IsTable k r1.2.2.1).bind fun r6 =>
         cond (!r6)
         (some false)
         ((laws_FnTablesNamed_c_c k (r1.1, r1.2.2.2.1, r1.2.2.2.2.1, r1.2.2.2.2.2.1, r1.2.2.2.2.2.2.1)).bind fun r7 =>
          some r7)))))))
   (none))
  ((laws_FnTablesNamed_c_c k (more, (u_States, u_Tints, u_Rows), tints, (painted_States, painted_Tints, painted_Rows), one)).bind fun r8 =>
   some r8) := by kernel_rfl
theorem laws_FnTablesNamed_c_l.eq (k : Nat) (more : List Int) (t_States : Int) (t_Tints : Int) (t_Rows : List (Int × (ByteArray × Int))) (renamed_States : Int) (renamed_Tints : Int) (renamed_Rows : List (Int × (ByteArray × Int))) (u_States : Int) (u_Tints : Int) (u_Rows : List (Int × (ByteArray × Int))) (tints : List Int) (painted_States : Int) (painted_Tints : Int) (painted_Rows : List (Int × (ByteArray × Int))) (one : Bool) (back : List Int) (t164 : List Int) (t165 : Int) (t166 : Int) : laws_FnTablesNamed_c_l (k + 1) (more, (t_States, t_Tints, t_Rows), (renamed_States, renamed_Tints, renamed_Rows), (u_States, u_Tints, u_Rows), tints, (painted_States, painted_Tints, painted_Rows), one, back, t164, t165, t166) =
  cond (decide (t166 < t165))
  (cond (inB t166 t164.length)
   (cond (inB (t164.getD t166.toNat default) back.length)
    (laws_FnTablesNamed_c_l k (more, (t_States, t_Tints, t_Rows), (renamed_States, renamed_Tints, renamed_Rows), (u_States, u_Tints, u_Rows), tints, (painted_States, painted_Tints, painted_Rows), one, (back.set ((t164.getD t166.toNat default).toNat) t166), t164, t165, (w64 (t166 + 1))))
    (none))
   (none))
  (some (more, (t_States, t_Tints, t_Rows), (renamed_States, renamed_Tints, renamed_Rows), (u_States, u_Tints, u_Rows), tints, (painted_States, painted_Tints, painted_Rows), one, back)) := by kernel_rfl
theorem impl_CanUndo.eq (k : Nat) (t_States : Int) (t_Tints : Int) (t_Rows : List (Int × (ByteArray × Int))) : impl_CanUndo (k + 1) (t_States, t_Tints, t_Rows) =
  (impl_IsTable k (t_States, t_Tints, t_Rows)).bind fun r1 =>
  cond (!r1)
  (some (false, false))
  ((impl_Table_canUndo k (t_States, t_Tints, t_Rows)).bind fun r2 =>
   some (r2, true)) := by kernel_rfl
theorem impl_Table_canUndo.eq (k : Nat) (t_States : Int) (t_Tints : Int) (t_Rows : List (Int × (ByteArray × Int))) : impl_Table_canUndo (k + 1) (t_States, t_Tints, t_Rows) =
  (impl_Table_canUndo_l k ((t_States, t_Tints, t_Rows), (), (t_Rows.length : Int), 0)).bind fun r1 =>
  r1.elim
  (fun r2 => some r2)
  (fun r3 => some true) := by kernel_rfl
theorem impl_Table_canUndo_l.eq (k : Nat) (t_States : Int) (t_Tints : Int) (t_Rows : List (Int × (ByteArray × Int))) (t7 : Int) (t8 : Int) : impl_Table_canUndo_l (k + 1) ((t_States, t_Tints, t_Rows), (), t7, t8) =
  cond (decide (t8 < t7))
  (cond (inB t8 t_Rows.length)
   ((impl_Table_before k ((t_States, t_Tints, t_Rows), (t_Rows.getD t8.toNat default).1, (t_Rows.getD t8.toNat default).2.2)).bind fun r1 =>
    cond (r1 != t8)
    (some (.inl false))
    (impl_Table_canUndo_l k ((t_States, t_Tints, t_Rows), (), t7, (w64 (t8 + 1)))))
   (none))
  (some (.inr ())) := by kernel_rfl
theorem impl_Table_before.eq (k : Nat) (t_States : Int) (t_Tints : Int) (t_Rows : List (Int × (ByteArray × Int))) (paint : Int) (next_ : Int) : impl_Table_before (k + 1) ((t_States, t_Tints, t_Rows), paint, next_) =
  (slices_IndexFunc_3 k (t_Rows, (paint, next_))).bind fun r1 =>
  some r1 := by kernel_rfl
theorem slices_IndexFunc_3.eq (k : Nat) (s : List (Int × (ByteArray × Int))) (f_0 : Int) (f_1 : Int) : slices_IndexFunc_3 (k + 1) (s, (f_0, f_1)) =
  (slices_IndexFunc_3_l k (s, (f_0, f_1), (s.length : Int), 0)).bind fun r1 =>
  r1.elim
  (fun r2 => some r2)
  (fun r3 => some (-1)) := by kernel_rfl
theorem slices_IndexFunc_3_l.eq (k : Nat) (s : List (Int × (ByteArray × Int))) (f_0 : Int) (f_1 : Int) (t7 : Int) (t8 : Int) : slices_IndexFunc_3_l (k + 1) (s, (f_0, f_1), t7, t8) =
  cond (decide (t8 < t7))
  (cond (inB t8 s.length)
   ((impl_Table_before_1 k ((s.getD t8.toNat default), f_0, f_1)).bind fun r1 =>
    cond r1
    (some (.inl t8))
    (slices_IndexFunc_3_l k (s, (f_0, f_1), t7, (w64 (t8 + 1)))))
   (none))
  (some (.inr ())) := by kernel_rfl
theorem impl_Table_before_1.eq (k : Nat) (r_Paint : Int) (r_Turn : ByteArray) (r_Next : Int) (t1_0 : Int) (t2_0 : Int) : impl_Table_before_1 (k + 1) ((r_Paint, r_Turn, r_Next), t1_0, t2_0) =
  cond (r_Paint == t1_0)
  (some (r_Next == t2_0))
  (some false) := by kernel_rfl
theorem laws_FnTablesNamed_c_c.eq (k : Nat) (more : List Int) (u_States : Int) (u_Tints : Int) (u_Rows : List (Int × (ByteArray × Int))) (tints : List Int) (painted_States : Int) (painted_Tints : Int) (painted_Rows : List (Int × (ByteArray × Int))) (one : Bool) : laws_FnTablesNamed_c_c (k + 1) (more, (u_States, u_Tints, u_Rows), tints, (painted_States, painted_Tints, painted_Rows), one) =
  cond one
  (cond (((decide ((0 : Int) ≤ (tints.length : Int))) && (decide ((tints.length : Int) ≤ (tints.length : Int)))) && (fits (tints.length : Int).toNat 8))
   ((laws_FnTablesNamed_c_c_l k (more, (u_States, u_Tints, u_Rows), (painted_States, painted_Tints, painted_Rows), (List.replicate (tints.length : Int).toNat 0), tints, (tints.length : Int), 0)).bind fun r1 =>
    (impl_RenameTints k r1.2.2).bind fun r2 =>
    cond (!r2.2)
    (some false)
    ((laws_dTable k (r2.1, r1.2.1)).bind fun r3 =>
     cond (!r3)
     (some false)
     ((impl_IsTable k r1.2.2.1).bind fun r4 =>
      cond (!r4)
      (some false)
      ((laws_FnTablesNamed_c_c_c k r1.1).bind fun r5 =>
       some r5))))
   (none))
  ((laws_FnTablesNamed_c_c_c k more).bind fun r6 =>
   some r6) := by kernel_rfl
theorem laws_FnTablesNamed_c_c_l.eq (k : Nat) (more : List Int) (u_States : Int) (u_Tints : Int) (u_Rows : List (Int × (ByteArray × Int))) (painted_States : Int) (painted_Tints : Int) (painted_Rows : List (Int × (ByteArray × Int))) (back : List Int) (t222 : List Int) (t223 : Int) (t224 : Int) : laws_FnTablesNamed_c_c_l (k + 1) (more, (u_States, u_Tints, u_Rows), (painted_States, painted_Tints, painted_Rows), back, t222, t223, t224) =
  cond (decide (t224 < t223))
  (cond (inB t224 t222.length)
   (cond (inB (t222.getD t224.toNat default) back.length)
    (laws_FnTablesNamed_c_c_l k (more, (u_States, u_Tints, u_Rows), (painted_States, painted_Tints, painted_Rows), (back.set ((t222.getD t224.toNat default).toNat) t224), t222, t223, (w64 (t224 + 1))))
    (none))
   (none))
  (some (more, (u_States, u_Tints, u_Rows), (painted_States, painted_Tints, painted_Rows), back)) := by kernel_rfl
theorem laws_FnTablesNamed_c_c_c.eq (k : Nat) (more : List Int) : laws_FnTablesNamed_c_c_c (k + 1) more =
  (spec_DrawMirrorTable k more).bind fun r1 =>
  (impl_MirrorTable k r1).bind fun r2 =>
  (spec_MirrorTable k r1).bind fun r3 =>
  (impl_StatesReached k r1).bind fun r4 =>
  (spec_StatesReached k r1).bind fun r5 =>
  (impl_CanUndo k r1).bind fun r6 =>
  (spec_CanUndo k r1).bind fun r7 =>
  (impl_TableText k r1).bind fun r8 =>
  (spec_TableText k r1).bind fun r9 =>
  (spec_DrawEmptyScene k more).bind fun r10 =>
  (impl_EmptyScene k r10).bind fun r11 =>
  (spec_EmptyScene k r10).bind fun r12 =>
  (spec_DrawRowOf k more).bind fun r13 =>
  (impl_RowOf k r13).bind fun r14 =>
  (spec_RowOf k r13).bind fun r15 =>
  (spec_DrawCountTables k more).bind fun r16 =>
  (impl_CountTables k r16).bind fun r17 =>
  (spec_CountTables k r16).bind fun r18 =>
  (impl_CountUndoable k r16).bind fun r19 =>
  (spec_CountUndoable k r16).bind fun r20 =>
  (spec_DrawParseTable k more).bind fun r21 =>
  (impl_ParseTable k r21).bind fun r22 =>
  (spec_ParseTable k r21).bind fun r23 =>
  cond (!(r2.2 == r3.2))
  (some false)
  ((laws_dTable k (r2.1, r3.1)).bind fun r24 =>
   cond (!r24)
   (some false)
   (cond (!(r4.2 == r5.2))
    (some false)
    ((laws_dSame k (r4.1, r5.1)).bind fun r25 =>
     cond (!r25)
     (some false)
     (cond (!(r6.2 == r7.2))
      (some false)
      (cond (!(r6.1 == r7.1))
       (some false)
       (cond (!(r8.2 == r9.2))
        (some false)
        (cond (!(strEq r8.1 r9.1))
         (some false)
         (cond (!(r11.2 == r12.2))
          (some false)
          ((laws_dScene k (r11.1, r12.1)).bind fun r26 =>
           cond (!r26)
           (some false)
           (cond (!(r14.2 == r15.2))
            (some false)
            (cond (!((r14.1.1 == r15.1.1) && ((r14.1.2.1 == r15.1.2.1) && ((r14.1.2.2 == r15.1.2.2) && true))))
             (some false)
             (cond (!(r17.2 == r18.2))
              (some false)
              (cond (r17.1 != r18.1)
               (some false)
               (cond (!(r19.2 == r20.2))
                (some false)
                (cond (r19.1 != r20.1)
                 (some false)
                 (cond (!(r22.2 == r23.2))
                  (some false)
                  ((laws_dTable k (r22.1, r23.1)).bind fun r27 =>
                   cond (!r27)
                   (some false)
                   ((impl_IsTable k r1).bind fun r28 =>
                    cond (!(r2.2 == r28))
                    (some false)
                    (cond (!(r4.2 == r2.2))
                     (some false)
                     (cond (!(r6.2 == r2.2))
                      (some false)
                      (cond (!(r8.2 == r2.2))
                       (some false)
                       (cond (!(r19.2 == r17.2))
                        (some false)
                        ((laws_FnTablesNamed_c_c_c_c k (r1, r2.1, r2.2, r4.1, r8.1, r11.1, r11.2, r17.1, r17.2, r19.1, r21, r22.1, r22.2)).bind fun r29 =>
                         some r29))))))))))))))))))))))) := by kernel_rfl
theorem spec_DrawMirrorTable.eq (k : Nat) (code : List Int) : spec_DrawMirrorTable (k + 1) code =
  (spec_DrawIsTable k code).bind fun r1 =>
  some r1 := by kernel_rfl
theorem spec_DrawIsTable.eq (k : Nat) (code : List Int) : spec_DrawIsTable (k + 1) code =
  (spec_l1Cur_table k (code, 0, 0)).bind fun r1 =>
  some r1.1 := by kernel_rfl
theorem impl_MirrorTable.eq (k : Nat) (t_States : Int) (t_Tints : Int) (t_Rows : List (Int × (ByteArray × Int))) : impl_MirrorTable (k + 1) (t_States, t_Tints, t_Rows) =
  (impl_IsTable k (t_States, t_Tints, t_Rows)).bind fun r1 =>
  cond (!r1)
  (some ((0, 0, []), false))
  ((impl_Table_own k (t_States, t_Tints, t_Rows)).bind fun r2 =>
   (impl_MirrorTable_l k ((0, 0, []), r2, (), (r2.2.2.length : Int), 0)).bind fun r3 =>
   some (r3.2, true)) := by kernel_rfl
theorem impl_MirrorTable_l.eq (k : Nat) (t2_States : Int) (t2_Tints : Int) (t2_Rows : List (Int × (ByteArray × Int))) (out_States : Int) (out_Tints : Int) (out_Rows : List (Int × (ByteArray × Int))) (t15 : Int) (t16 : Int) : impl_MirrorTable_l (k + 1) ((t2_States, t2_Tints, t2_Rows), (out_States, out_Tints, out_Rows), (), t15, t16) =
  cond (decide (t16 < t15))
  (cond (inB t16 out_Rows.length)
   ((impl_other k ((out_Rows.getD t16.toNat default).2.1)).bind fun r1 =>
    cond (inB t16 out_Rows.length)
    (impl_MirrorTable_l k ((t2_States, t2_Tints, t2_Rows), (out_States, out_Tints, (out_Rows.set t16.toNat ((out_Rows.getD t16.toNat default).1, (r1, (out_Rows.getD t16.toNat default).2.2)))), (), t15, (w64 (t16 + 1))))
    (none))
   (none))
  (some ((t2_States, t2_Tints, t2_Rows), (out_States, out_Tints, out_Rows))) := by kernel_rfl
theorem impl_other.eq (k : Nat) (d : ByteArray) : impl_other (k + 1) d = (fun d => otherB 76 82 d) d := by kernel_rfl
theorem spec_MirrorTable.eq (k : Nat) (t_States : Int) (t_Tints : Int) (t_Rows : List (Int × (ByteArray × Int))) : spec_MirrorTable (k + 1) (t_States, t_Tints, t_Rows) =
  (spec_taGood k (t_States, t_Tints, t_Rows)).bind fun r1 =>
  cond (!r1)
  (some ((0, 0, []), false))
  ((spec_MirrorTable_l k ((0, 0, []), (t_States, t_Tints, []), t_Rows, (t_Rows.length : Int), 0)).bind fun r2 =>
   some (r2.2, true)) := by kernel_rfl
theorem spec_MirrorTable_l.eq (k : Nat) (t2_States : Int) (t2_Tints : Int) (t2_Rows : List (Int × (ByteArray × Int))) (out_States : Int) (out_Tints : Int) (out_Rows : List (Int × (ByteArray × Int))) (t17 : List (Int × (ByteArray × Int))) (t18 : Int) (t19 : Int) : spec_MirrorTable_l (k + 1) ((t2_States, t2_Tints, t2_Rows), (out_States, out_Tints, out_Rows), t17, t18, t19) =
  cond (decide (t19 < t18))
  (cond (inB t19 t17.length)
   ((spec_woOther k ((t17.getD t19.toNat default).2.1)).bind fun r1 =>
    cond (fits (out_Rows.length + 1) 32)
    (spec_MirrorTable_l k ((t2_States, t2_Tints, t2_Rows), (out_States, out_Tints, (out_Rows ++ [((t17.getD t19.toNat default).1, (r1, (t17.getD t19.toNat default).2.2))])), t17, t18, (w64 (t19 + 1))))
    (none))
   (none))
  (some ((t2_States, t2_Tints, t2_Rows), (out_States, out_Tints, out_Rows))) := by kernel_rfl
theorem spec_woOther.eq (k : Nat) (rule : ByteArray) : spec_woOther (k + 1) rule =
  (spec_woOther_l k (rule, ByteArray.empty, 0)).bind fun r1 =>
  some r1 := by kernel_rfl
theorem spec_woOther_l.eq (k : Nat) (rule : ByteArray) (out : ByteArray) (i : Int) : spec_woOther_l (k + 1) (rule, out, i) =
  cond (decide (i < (rule.size : Int)))
  (cond (inB i rule.size)
   (cond ((bt rule i.toNat) == 76)
    (cond (fitS out (bs [82]))
     (spec_woOther_l k (rule, (out ++ (bs [82])), (w64 (i + 1))))
     (none))
    (cond ((bt rule i.toNat) == 82)
     (cond (fitS out (bs [76]))
      (spec_woOther_l k (rule, (out ++ (bs [76])), (w64 (i + 1))))
      (none))
     (cond (((decide ((0 : Int) ≤ (w64 (i + 1)))) && (decide ((w64 (i + 1)) ≤ (rule.size : Int)))) && ((decide ((0 : Int) ≤ i)) && (decide (i ≤ (w64 (i + 1))))))
      (cond (fitS out (rule.extract i.toNat ((w64 (i + 1)).toNat)))
       (spec_woOther_l k (rule, (out ++ (rule.extract i.toNat ((w64 (i + 1)).toNat))), (w64 (i + 1))))
       (none))
      (none))))
   (none))
  (some out) := by kernel_rfl
theorem impl_StatesReached.eq (k : Nat) (t_States : Int) (t_Tints : Int) (t_Rows : List (Int × (ByteArray × Int))) : impl_StatesReached (k + 1) (t_States, t_Tints, t_Rows) =
  (impl_IsTable k (t_States, t_Tints, t_Rows)).bind fun r1 =>
  cond (!r1)
  (some ([], false))
  ((impl_StatesReached_l k ((t_States, t_Tints, t_Rows), [0], 0)).bind fun r2 =>
   (slices_Sort k r2).bind fun r3 =>
   some (r3.2, true)) := by kernel_rfl
theorem impl_StatesReached_l.eq (k : Nat) (t_States : Int) (t_Tints : Int) (t_Rows : List (Int × (ByteArray × Int))) (out : List Int) (i : Int) : impl_StatesReached_l (k + 1) ((t_States, t_Tints, t_Rows), out, i) =
  cond (decide (i < (out.length : Int)))
  ((impl_StatesReached_l_l k ((t_States, t_Tints, t_Rows), out, i, t_Tints, 0)).bind fun r1 =>
   impl_StatesReached_l k (r1.1, r1.2.1, (w64 (r1.2.2 + 1))))
  (some out) := by kernel_rfl
theorem impl_StatesReached_l_l.eq (k : Nat) (t_States : Int) (t_Tints : Int) (t_Rows : List (Int × (ByteArray × Int))) (out : List Int) (i : Int) (t19 : Int) (t20 : Int) : impl_StatesReached_l_l (k + 1) ((t_States, t_Tints, t_Rows), out, i, t19, t20) =
  cond (decide (t20 < t19))
  (cond (inB i out.length)
   ((impl_Table_row k ((t_States, t_Tints, t_Rows), (out.getD i.toNat default), t20)).bind fun r1 =>
    (slices_Contains k (out, r1.2.2)).bind fun r2 =>
    cond (!r2)
    (cond (fits (out.length + 1) 8)
     (impl_StatesReached_l_l k ((t_States, t_Tints, t_Rows), (out ++ [r1.2.2]), i, t19, (w64 (t20 + 1))))
     (none))
    (impl_StatesReached_l_l k ((t_States, t_Tints, t_Rows), out, i, t19, (w64 (t20 + 1)))))
   (none))
  (some ((t_States, t_Tints, t_Rows), out, i)) := by kernel_rfl
theorem impl_Table_row.eq (k : Nat) (t_States : Int) (t_Tints : Int) (t_Rows : List (Int × (ByteArray × Int))) (state : Int) (tint : Int) : impl_Table_row (k + 1) ((t_States, t_Tints, t_Rows), state, tint) =
  cond (inB (w64 ((w64 (state * t_Tints)) + tint)) t_Rows.length)
  (some (t_Rows.getD ((w64 ((w64 (state * t_Tints)) + tint)).toNat) default))
  (none) := by kernel_rfl
theorem slices_Sort.eq (k : Nat) (x : List Int) : slices_Sort (k + 1) x =
  (bits_Len k (IntKind.u64.wrap (x.length : Int))).bind fun r1 =>
  (slices_pdqsortOrdered k (x, 0, (x.length : Int), r1)).bind fun r2 =>
  some ((), r2.2) := by kernel_rfl
theorem bits_Len.eq (k : Nat) (x : Int) : bits_Len (k + 1) x =
  (bits_Len64 k x).bind fun r1 =>
  some r1 := by kernel_rfl
end Go.Proofs.YtcmebphcoamohaaGreatDoorS
