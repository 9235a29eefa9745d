/- What each function computes (printed by wip/sim/gen.py). -/
import Derived.Test.YtdgfpdbfcpbgfaaTab
namespace Go.Proofs.YtdgfpdbfcpbgfaaS
open Go Go.Proofs
set_option maxRecDepth 100000
set_option linter.unusedVariables false
theorem impl_UndoScene.eq (k : Nat) (s_TableStates : Int) (s_TableTints : Int) (s_TableRows : List (Int × (ByteArray × Int))) (s_Width : Int) (s_Height : Int) (s_Cells : ByteArray) (s_X : Int) (s_Y : Int) (s_Way : Int) (s_State : Int) : impl_UndoScene (k + 1) (s_TableStates, s_TableTints, s_TableRows, s_Width, s_Height, s_Cells, s_X, s_Y, s_Way, s_State) =
  (impl_IsScene k (s_TableStates, s_TableTints, s_TableRows, s_Width, s_Height, s_Cells, s_X, s_Y, s_Way, s_State)).bind fun r1 =>
  cond (!r1)
  (some ((0, 0, [], 0, 0, ByteArray.empty, 0, 0, 0, 0), false))
  ((impl_Table_canUndo k (s_TableStates, s_TableTints, s_TableRows)).bind fun r2 =>
   cond (!r2)
   (some ((0, 0, [], 0, 0, ByteArray.empty, 0, 0, 0, 0), false))
   ((impl_Scene_world k (s_TableStates, s_TableTints, s_TableRows, s_Width, s_Height, s_Cells, s_X, s_Y, s_Way, s_State)).bind fun r3 =>
    (impl_World_gone k (r3, (-1))).bind fun r4 =>
    (impl_World_colour k r4).bind fun r5 =>
    (impl_Table_before k ((s_TableStates, s_TableTints, s_TableRows), r5, s_State)).bind fun r6 =>
    cond (inB r6 s_TableRows.length)
    (cond (inB 0 ((s_TableRows.getD r6.toNat default).2.1.size))
     ((impl_quarters k (bt (s_TableRows.getD r6.toNat default).2.1 0)).bind fun r7 =>
      (impl_World_at k (r4.1, r4.2.1, r4.2.2.1, r4.2.2.2.1, r4.2.2.2.2.1, r4.2.2.2.2.2.1, ((w64 ((w64 (r4.2.2.2.2.2.2 + 4)) - r7)).tmod 4))).bind fun r8 =>
      cond (s_TableTints != 0)
      ((impl_painted k (r4.2.2.2.1, r8, (r6.tmod s_TableTints))).bind fun r9 =>
       cond (s_TableTints != 0)
       ((impl_Scene_with k ((s_TableStates, s_TableTints, s_TableRows, s_Width, s_Height, s_Cells, s_X, s_Y, s_Way, (w64 (r6.tdiv s_TableTints))), (r4.1, r4.2.1, r4.2.2.1, r9, r4.2.2.2.2.1, r4.2.2.2.2.2.1, ((w64 ((w64 (r4.2.2.2.2.2.2 + 4)) - r7)).tmod 4)))).bind fun r10 =>
        (impl_Scene_own k r10).bind fun r11 =>
        some (r11, true))
       (none))
      (none))
     (none))
    (none))) := by kernel_rfl
theorem impl_Table_canUndo.eq (k : Nat) (t_States : Int) (t_Tints : Int) (t_Rows : List (Int × (ByteArray × Int))) : impl_Table_canUndo (k + 1) (t_States, t_Tints, t_Rows) =
  (impl_Table_canUndo_l k ((t_States, t_Tints, t_Rows), (), (t_Rows.length : Int), 0)).bind fun r1 =>
  r1.elim
  (fun r2 => some r2)
  (fun r3 => some true) := by kernel_rfl
theorem impl_Table_canUndo_l.eq (k : Nat) (t_States : Int) (t_Tints : Int) (t_Rows : List (Int × (ByteArray × Int))) (t7 : Int) (t8 : Int) : impl_Table_canUndo_l (k + 1) ((t_States, t_Tints, t_Rows), (), t7, t8) =
  cond (decide (t8 < t7))
  (cond (inB t8 t_Rows.length)
   ((impl_Table_before k ((t_States, t_Tints, t_Rows), (t_Rows.getD t8.toNat default).1, (t_Rows.getD t8.toNat default).2.2)).bind fun r1 =>
    cond (r1 != t8)
    (some (.inl false))
    (impl_Table_canUndo_l k ((t_States, t_Tints, t_Rows), (), t7, (w64 (t8 + 1)))))
   (none))
  (some (.inr ())) := by kernel_rfl
theorem impl_Table_before.eq (k : Nat) (t_States : Int) (t_Tints : Int) (t_Rows : List (Int × (ByteArray × Int))) (paint : Int) (next_ : Int) : impl_Table_before (k + 1) ((t_States, t_Tints, t_Rows), paint, next_) =
  (slices_IndexFunc_2 k (t_Rows, (paint, next_))).bind fun r1 =>
  some r1 := by kernel_rfl
theorem slices_IndexFunc_2.eq (k : Nat) (s : List (Int × (ByteArray × Int))) (f_0 : Int) (f_1 : Int) : slices_IndexFunc_2 (k + 1) (s, (f_0, f_1)) =
  (slices_IndexFunc_2_l k (s, (f_0, f_1), (s.length : Int), 0)).bind fun r1 =>
  r1.elim
  (fun r2 => some r2)
  (fun r3 => some (-1)) := by kernel_rfl
theorem slices_IndexFunc_2_l.eq (k : Nat) (s : List (Int × (ByteArray × Int))) (f_0 : Int) (f_1 : Int) (t7 : Int) (t8 : Int) : slices_IndexFunc_2_l (k + 1) (s, (f_0, f_1), t7, t8) =
  cond (decide (t8 < t7))
  (cond (inB t8 s.length)
   ((impl_Table_before_1 k ((s.getD t8.toNat default), f_0, f_1)).bind fun r1 =>
    cond r1
    (some (.inl t8))
    (slices_IndexFunc_2_l k (s, (f_0, f_1), t7, (w64 (t8 + 1)))))
   (none))
  (some (.inr ())) := by kernel_rfl
theorem impl_Table_before_1.eq (k : Nat) (r_Paint : Int) (r_Turn : ByteArray) (r_Next : Int) (t1_0 : Int) (t2_0 : Int) : impl_Table_before_1 (k + 1) ((r_Paint, r_Turn, r_Next), t1_0, t2_0) =
  cond (r_Paint == t1_0)
  (some (r_Next == t2_0))
  (some false) := by kernel_rfl
end Go.Proofs.YtdgfpdbfcpbgfaaS
