/- What each function computes (printed by wip/sim/gen.py). -/
import Derived.Test.YtiaagflfiphioaaDoorTab
namespace Go.Proofs.YtiaagflfiphioaaDoorS
open Go Go.Proofs
set_option maxRecDepth 100000
set_option linter.unusedVariables false
theorem laws_FnExactLoopOfScene.eq (k : Nat) (aS_TableStates : Int) (aS_TableTints : Int) (aS_TableRows : List (Int × (ByteArray × Int))) (aS_Width : Int) (aS_Height : Int) (aS_Cells : ByteArray) (aS_X : Int) (aS_Y : Int) (aS_Way : Int) (aS_State : Int) : laws_FnExactLoopOfScene (k + 1) (aS_TableStates, aS_TableTints, aS_TableRows, aS_Width, aS_Height, aS_Cells, aS_X, aS_Y, aS_Way, aS_State) =
  (laws_szScene k ((aS_TableStates, aS_TableTints, aS_TableRows, aS_Width, aS_Height, aS_Cells, aS_X, aS_Y, aS_Way, aS_State), 1048576)).bind fun r1 =>
  cond (decide (r1 < 0))
  (some true)
  ((laws_toScene k (aS_TableStates, aS_TableTints, aS_TableRows, aS_Width, aS_Height, aS_Cells, aS_X, aS_Y, aS_Way, aS_State)).bind fun r2 =>
   (spec_LoopOfScene k r2).bind fun r3 =>
   (laws_toScene k (aS_TableStates, aS_TableTints, aS_TableRows, aS_Width, aS_Height, aS_Cells, aS_X, aS_Y, aS_Way, aS_State)).bind fun r4 =>
   (impl_LoopOfScene k r4).bind fun r5 =>
   cond (r5.1 != r3.1)
   (some false)
   (cond (r5.2.1 != r3.2.1)
    (some false)
    (cond (!(r5.2.2 == r3.2.2))
     (some false)
     ((laws_toScene k (aS_TableStates, aS_TableTints, aS_TableRows, aS_Width, aS_Height, aS_Cells, aS_X, aS_Y, aS_Way, aS_State)).bind fun r6 =>
      (laws_eqScene k (r4, r6)).bind fun r7 =>
      cond (!r7)
      (some false)
      (some true))))) := by kernel_rfl
theorem laws_szScene.eq (k : Nat) (a_TableStates : Int) (a_TableTints : Int) (a_TableRows : List (Int × (ByteArray × Int))) (a_Width : Int) (a_Height : Int) (a_Cells : ByteArray) (a_X : Int) (a_Y : Int) (a_Way : Int) (a_State : Int) (left : Int) : laws_szScene (k + 1) ((a_TableStates, a_TableTints, a_TableRows, a_Width, a_Height, a_Cells, a_X, a_Y, a_Way, a_State), left) =
  (laws_szTable k ((a_TableStates, a_TableTints, a_TableRows), left)).bind fun r1 =>
  cond (decide (r1 < 0))
  (some (-1))
  (cond (decide ((w64 (r1 - (a_Cells.size : Int))) < 0))
   (some (-1))
   (some (w64 (r1 - (a_Cells.size : Int))))) := by kernel_rfl
theorem laws_szTable.eq (k : Nat) (a_States : Int) (a_Tints : Int) (a_Rows : List (Int × (ByteArray × Int))) (left : Int) : laws_szTable (k + 1) ((a_States, a_Tints, a_Rows), left) =
  (laws_szRowS k (a_Rows, left)).bind fun r1 =>
  cond (decide (r1 < 0))
  (some (-1))
  (some r1) := by kernel_rfl
theorem laws_szRowS.eq (k : Nat) (a : List (Int × (ByteArray × Int))) (left : Int) : laws_szRowS (k + 1) (a, left) =
  cond (decide ((w64 (left - (a.length : Int))) < 0))
  (some (-1))
  ((laws_szRowS_l k (a, (w64 (left - (a.length : Int))), 0)).bind fun r1 =>
   r1.elim
   (fun r2 => some r2)
   (fun r3 => some r3)) := by kernel_rfl
theorem laws_szRowS_l.eq (k : Nat) (a : List (Int × (ByteArray × Int))) (left : Int) (i : Int) : laws_szRowS_l (k + 1) (a, left, i) =
  cond (decide (i < (a.length : Int)))
  (cond (inB i a.length)
   ((laws_szRow k ((a.getD i.toNat default), left)).bind fun r1 =>
    cond (decide (r1 < 0))
    (some (.inl (-1)))
    (laws_szRowS_l k (a, r1, (w64 (i + 1)))))
   (none))
  (some (.inr left)) := by kernel_rfl
theorem laws_szRow.eq (k : Nat) (a_Paint : Int) (a_Turn : ByteArray) (a_Next : Int) (left : Int) : laws_szRow (k + 1) ((a_Paint, a_Turn, a_Next), left) =
  cond (decide ((w64 (left - (a_Turn.size : Int))) < 0))
  (some (-1))
  (some (w64 (left - (a_Turn.size : Int)))) := by kernel_rfl
theorem laws_toScene.eq (k : Nat) (a_TableStates : Int) (a_TableTints : Int) (a_TableRows : List (Int × (ByteArray × Int))) (a_Width : Int) (a_Height : Int) (a_Cells : ByteArray) (a_X : Int) (a_Y : Int) (a_Way : Int) (a_State : Int) : laws_toScene (k + 1) (a_TableStates, a_TableTints, a_TableRows, a_Width, a_Height, a_Cells, a_X, a_Y, a_Way, a_State) =
  (laws_toTable k (a_TableStates, a_TableTints, a_TableRows)).bind fun r1 =>
  some (r1.1, r1.2.1, r1.2.2, a_Width, a_Height, a_Cells, a_X, a_Y, a_Way, a_State) := by kernel_rfl
theorem laws_toTable.eq (k : Nat) (a_States : Int) (a_Tints : Int) (a_Rows : List (Int × (ByteArray × Int))) : laws_toTable (k + 1) (a_States, a_Tints, a_Rows) =
  (laws_toRowS k a_Rows).bind fun r1 =>
  some (a_States, a_Tints, r1) := by kernel_rfl
theorem laws_toRowS.eq (k : Nat) (a : List (Int × (ByteArray × Int))) : laws_toRowS (k + 1) a =
  cond (((decide ((0 : Int) ≤ (a.length : Int))) && (decide ((a.length : Int) ≤ (a.length : Int)))) && (fits (a.length : Int).toNat 32))
  ((laws_toRowS_l k (a, (List.replicate (a.length : Int).toNat (0, (ByteArray.empty, 0))), 0)).bind fun r1 =>
   some r1)
  (none) := by kernel_rfl
theorem laws_toRowS_l.eq (k : Nat) (a : List (Int × (ByteArray × Int))) (out : List (Int × (ByteArray × Int))) (i : Int) : laws_toRowS_l (k + 1) (a, out, i) =
  cond (decide (i < (a.length : Int)))
  (cond (inB i a.length)
   ((laws_toRow k (a.getD i.toNat default)).bind fun r1 =>
    cond (inB i out.length)
    (laws_toRowS_l k (a, (out.set i.toNat r1), (w64 (i + 1))))
    (none))
   (none))
  (some out) := by kernel_rfl
theorem laws_toRow.eq (k : Nat) (a_Paint : Int) (a_Turn : ByteArray) (a_Next : Int) : laws_toRow (k + 1) (a_Paint, a_Turn, a_Next) =
  some (a_Paint, a_Turn, a_Next) := by kernel_rfl
theorem spec_LoopOfScene.eq (k : Nat) (s_TableStates : Int) (s_TableTints : Int) (s_TableRows : List (Int × (ByteArray × Int))) (s_Width : Int) (s_Height : Int) (s_Cells : ByteArray) (s_X : Int) (s_Y : Int) (s_Way : Int) (s_State : Int) : spec_LoopOfScene (k + 1) (s_TableStates, s_TableTints, s_TableRows, s_Width, s_Height, s_Cells, s_X, s_Y, s_Way, s_State) =
  (spec_taScene k (s_TableStates, s_TableTints, s_TableRows, s_Width, s_Height, s_Cells, s_X, s_Y, s_Way, s_State)).bind fun r1 =>
  cond (!r1)
  (some (0, 0, false))
  ((spec_taOwn k (s_TableStates, s_TableTints, s_TableRows, s_Width, s_Height, s_Cells, s_X, s_Y, s_Way, s_State)).bind fun r2 =>
   (spec_LoopOfScene_l k ([(s_TableStates, s_TableTints, s_Width, s_Height, s_Cells, s_X, s_Y, s_Way, s_State, ())], r2, 1)).bind fun r3 =>
   r3.elim
   (fun r4 => some r4)
   (fun r5 => some (0, 0, false))) := by kernel_rfl
theorem spec_taScene.eq (k : Nat) (s_TableStates : Int) (s_TableTints : Int) (s_TableRows : List (Int × (ByteArray × Int))) (s_Width : Int) (s_Height : Int) (s_Cells : ByteArray) (s_X : Int) (s_Y : Int) (s_Way : Int) (s_State : Int) : spec_taScene (k + 1) (s_TableStates, s_TableTints, s_TableRows, s_Width, s_Height, s_Cells, s_X, s_Y, s_Way, s_State) =
  (spec_taGood k (s_TableStates, s_TableTints, s_TableRows)).bind fun r1 =>
  cond (!r1)
  (some false)
  ((spec_l1In k (s_Width, 1, 9)).bind fun r2 =>
   cond (!r2)
   (some false)
   ((spec_l1In k (s_Height, 1, 9)).bind fun r3 =>
    cond (!r3)
    (some false)
    (cond ((s_Cells.size : Int) != (w64 (s_Width * s_Height)))
     (some false)
     ((spec_taScene_l k ((s_TableStates, s_TableTints, s_TableRows, s_Width, s_Height, s_Cells, s_X, s_Y, s_Way, s_State), 0)).bind fun r4 =>
      r4.elim
      (fun r5 => some r5)
      (fun r6 => (spec_l1In k (r6.2.2.2.2.2.2.1, 0, (w64 (r6.2.2.2.1 - 1)))).bind fun r7 =>
       cond r7
       ((spec_l1In k (r6.2.2.2.2.2.2.2.1, 0, (w64 (r6.2.2.2.2.1 - 1)))).bind fun r8 =>
        cond r8
        ((spec_l1In k (r6.2.2.2.2.2.2.2.2.1, 0, 3)).bind fun r9 =>
         cond r9
         ((spec_l1In k (r6.2.2.2.2.2.2.2.2.2, 0, (w64 (r6.1 - 1)))).bind fun r10 =>
          some r10)
         (some false))
        (some false))
       (some false)))))) := by kernel_rfl
theorem spec_taGood.eq (k : Nat) (t_States : Int) (t_Tints : Int) (t_Rows : List (Int × (ByteArray × Int))) : spec_taGood (k + 1) (t_States, t_Tints, t_Rows) =
  (spec_l1In k (t_States, 1, 4)).bind fun r1 =>
  cond (!r1)
  (some false)
  ((spec_l1In k (t_Tints, 1, 4)).bind fun r2 =>
   cond (!r2)
   (some false)
   (cond ((t_Rows.length : Int) != (w64 (t_States * t_Tints)))
    (some false)
    ((spec_taGood_l k ((t_States, t_Tints, t_Rows), (), (t_Rows.length : Int), 0)).bind fun r3 =>
     r3.elim
     (fun r4 => some r4)
     (fun r5 => some true)))) := by kernel_rfl
theorem spec_l1In.eq (k : Nat) (n : Int) (lo : Int) (hi : Int) : spec_l1In (k + 1) (n, lo, hi) =
  cond (decide (n ≥ lo))
  (some (decide (n ≤ hi)))
  (some false) := by kernel_rfl
theorem spec_taGood_l.eq (k : Nat) (t_States : Int) (t_Tints : Int) (t_Rows : List (Int × (ByteArray × Int))) (t28 : Int) (t29 : Int) : spec_taGood_l (k + 1) ((t_States, t_Tints, t_Rows), (), t28, t29) =
  cond (decide (t29 < t28))
  (cond (inB t29 t_Rows.length)
   ((spec_l1In k ((t_Rows.getD t29.toNat default).1, 0, (w64 (t_Tints - 1)))).bind fun r1 =>
    cond (!r1)
    (some (.inl false))
    ((spec_taSign k ((t_Rows.getD t29.toNat default).2.1)).bind fun r2 =>
     cond (!r2)
     (some (.inl false))
     ((spec_l1In k ((t_Rows.getD t29.toNat default).2.2, 0, (w64 (t_States - 1)))).bind fun r3 =>
      cond (!r3)
      (some (.inl false))
      (spec_taGood_l k ((t_States, t_Tints, t_Rows), (), t28, (w64 (t29 + 1)))))))
   (none))
  (some (.inr ())) := by kernel_rfl
theorem spec_taSign.eq (k : Nat) (s : ByteArray) : spec_taSign (k + 1) s =
  cond ((s.size : Int) == 1)
  ((spec_woRule k s).bind fun r1 =>
   some r1)
  (some false) := by kernel_rfl
theorem spec_woRule.eq (k : Nat) (rule : ByteArray) : spec_woRule (k + 1) rule =
  (spec_l1In k ((rule.size : Int), 1, 6)).bind fun r1 =>
  cond (!r1)
  (some false)
  ((spec_woRule_l k (rule, 0)).bind fun r2 =>
   r2.elim
   (fun r3 => some r3)
   (fun r4 => some true)) := by kernel_rfl
theorem spec_woRule_l.eq (k : Nat) (rule : ByteArray) (i : Int) : spec_woRule_l (k + 1) (rule, i) =
  cond (decide (i < (rule.size : Int)))
  (cond (inB i rule.size)
   (cond ((bt rule i.toNat) == 76)
    (spec_woRule_l k (rule, (w64 (i + 1))))
    (cond ((bt rule i.toNat) == 82)
     (spec_woRule_l k (rule, (w64 (i + 1))))
     (cond ((bt rule i.toNat) == 78)
      (spec_woRule_l k (rule, (w64 (i + 1))))
      (cond ((bt rule i.toNat) == 85)
       (spec_woRule_l k (rule, (w64 (i + 1))))
       (some (.inl false))))))
   (none))
  (some (.inr ())) := by kernel_rfl
theorem spec_taScene_l.eq (k : Nat) (s_TableStates : Int) (s_TableTints : Int) (s_TableRows : List (Int × (ByteArray × Int))) (s_Width : Int) (s_Height : Int) (s_Cells : ByteArray) (s_X : Int) (s_Y : Int) (s_Way : Int) (s_State : Int) (i : Int) : spec_taScene_l (k + 1) ((s_TableStates, s_TableTints, s_TableRows, s_Width, s_Height, s_Cells, s_X, s_Y, s_Way, s_State), i) =
  cond (decide (i < (s_Cells.size : Int)))
  (cond (inB i s_Cells.size)
   ((spec_l1In k ((w64 ((w64 (bt s_Cells i.toNat)) - 48)), 0, (w64 (s_TableTints - 1)))).bind fun r1 =>
    cond (!r1)
    (some (.inl false))
    (spec_taScene_l k ((s_TableStates, s_TableTints, s_TableRows, s_Width, s_Height, s_Cells, s_X, s_Y, s_Way, s_State), (w64 (i + 1)))))
   (none))
  (some (.inr (s_TableStates, s_TableTints, s_TableRows, s_Width, s_Height, s_Cells, s_X, s_Y, s_Way, s_State))) := by kernel_rfl
theorem spec_taOwn.eq (k : Nat) (s_TableStates : Int) (s_TableTints : Int) (s_TableRows : List (Int × (ByteArray × Int))) (s_Width : Int) (s_Height : Int) (s_Cells : ByteArray) (s_X : Int) (s_Y : Int) (s_Way : Int) (s_State : Int) : spec_taOwn (k + 1) (s_TableStates, s_TableTints, s_TableRows, s_Width, s_Height, s_Cells, s_X, s_Y, s_Way, s_State) =
  cond (fits (0 + s_TableRows.length) 32)
  (some (s_TableStates, s_TableTints, ([] ++ s_TableRows), s_Width, s_Height, s_Cells, s_X, s_Y, s_Way, s_State))
  (none) := by kernel_rfl
theorem spec_LoopOfScene_l.eq (k : Nat) (scenes : List (Int × Int × Int × Int × ByteArray × Int × Int × Int × Int × Unit)) (now_TableStates : Int) (now_TableTints : Int) (now_TableRows : List (Int × (ByteArray × Int))) (now_Width : Int) (now_Height : Int) (now_Cells : ByteArray) (now_X : Int) (now_Y : Int) (now_Way : Int) (now_State : Int) (steps : Int) : spec_LoopOfScene_l (k + 1) (scenes, (now_TableStates, now_TableTints, now_TableRows, now_Width, now_Height, now_Cells, now_X, now_Y, now_Way, now_State), steps) =
  cond (decide (steps ≤ 600))
  ((spec_taStep k (now_TableStates, now_TableTints, now_TableRows, now_Width, now_Height, now_Cells, now_X, now_Y, now_Way, now_State)).bind fun r1 =>
   (spec_LoopOfScene_l_l k (scenes, r1.2, steps, (), (scenes.length : Int), 0)).bind fun r2 =>
   r2.elim
   (fun r3 => some (.inl r3))
   (fun r4 => cond (fits (r4.1.length + 1) 104)
    (spec_LoopOfScene_l k ((r4.1 ++ [(r4.2.1.1, r4.2.1.2.1, r4.2.1.2.2.2.1, r4.2.1.2.2.2.2.1, r4.2.1.2.2.2.2.2.1, r4.2.1.2.2.2.2.2.2.1, r4.2.1.2.2.2.2.2.2.2.1, r4.2.1.2.2.2.2.2.2.2.2.1, r4.2.1.2.2.2.2.2.2.2.2.2, ())]), r4.2.1, (w64 (r4.2.2 + 1))))
    (none)))
  (some (.inr ())) := by kernel_rfl
theorem spec_taStep.eq (k : Nat) (s_TableStates : Int) (s_TableTints : Int) (s_TableRows : List (Int × (ByteArray × Int))) (s_Width : Int) (s_Height : Int) (s_Cells : ByteArray) (s_X : Int) (s_Y : Int) (s_Way : Int) (s_State : Int) : spec_taStep (k + 1) (s_TableStates, s_TableTints, s_TableRows, s_Width, s_Height, s_Cells, s_X, s_Y, s_Way, s_State) =
  cond (inB (w64 ((w64 (s_Y * s_Width)) + s_X)) s_Cells.size)
  (cond (inB (w64 ((w64 (s_State * s_TableTints)) + (w64 (w8 ((bt s_Cells ((w64 ((w64 (s_Y * s_Width)) + s_X)).toNat)) - 48))))) s_TableRows.length)
   (cond (inB 0 ((s_TableRows.getD ((w64 ((w64 (s_State * s_TableTints)) + (w64 (w8 ((bt s_Cells ((w64 ((w64 (s_Y * s_Width)) + s_X)).toNat)) - 48))))).toNat) default).2.1.size))
    ((spec_woTurn k (bt (s_TableRows.getD ((w64 ((w64 (s_State * s_TableTints)) + (w64 (w8 ((bt s_Cells ((w64 ((w64 (s_Y * s_Width)) + s_X)).toNat)) - 48))))).toNat) default).2.1 0)).bind fun r1 =>
     (spec_taPaint k ((s_TableStates, s_TableTints, s_TableRows, s_Width, s_Height, s_Cells, s_X, s_Y, ((w64 (s_Way + r1)).tmod 4), s_State), (s_TableRows.getD ((w64 ((w64 (s_State * s_TableTints)) + (w64 (w8 ((bt s_Cells ((w64 ((w64 (s_Y * s_Width)) + s_X)).toNat)) - 48))))).toNat) default).1)).bind fun r2 =>
     (spec_taGo k ((r2.2.1, r2.2.2.1, r2.2.2.2.1, r2.2.2.2.2.1, r2.2.2.2.2.2.1, r2.2.2.2.2.2.2.1, r2.2.2.2.2.2.2.2.1, r2.2.2.2.2.2.2.2.2.1, r2.2.2.2.2.2.2.2.2.2.1, (s_TableRows.getD ((w64 ((w64 (s_State * s_TableTints)) + (w64 (w8 ((bt s_Cells ((w64 ((w64 (s_Y * s_Width)) + s_X)).toNat)) - 48))))).toNat) default).2.2), 1)).bind fun r3 =>
     some ((), r3.2))
    (none))
   (none))
  (none) := by kernel_rfl
theorem spec_woTurn.eq (k : Nat) (sign : Int) : spec_woTurn (k + 1) sign =
  cond (sign == 82)
  (some 1)
  (cond (sign == 85)
   (some 2)
   (cond (sign == 76)
    (some 3)
    (some 0))) := by kernel_rfl
theorem spec_taPaint.eq (k : Nat) (s_TableStates : Int) (s_TableTints : Int) (s_TableRows : List (Int × (ByteArray × Int))) (s_Width : Int) (s_Height : Int) (s_Cells : ByteArray) (s_X : Int) (s_Y : Int) (s_Way : Int) (s_State : Int) (tint : Int) : spec_taPaint (k + 1) ((s_TableStates, s_TableTints, s_TableRows, s_Width, s_Height, s_Cells, s_X, s_Y, s_Way, s_State), tint) =
  cond (inB (w64 ((w64 (s_Y * s_Width)) + s_X)) s_Cells.size)
  (cond ((decide ((0 : Int) ≤ (w64 ((w64 (s_Y * s_Width)) + s_X)))) && (decide ((w64 ((w64 (s_Y * s_Width)) + s_X)) ≤ (s_Cells.size : Int))))
   ((spec_l1Num k tint).bind fun r1 =>
    cond (fitS (s_Cells.extract 0 ((w64 ((w64 (s_Y * s_Width)) + s_X)).toNat)) r1)
    (cond ((decide ((0 : Int) ≤ (w64 ((w64 ((w64 (s_Y * s_Width)) + s_X)) + 1)))) && (decide ((w64 ((w64 ((w64 (s_Y * s_Width)) + s_X)) + 1)) ≤ (s_Cells.size : Int))))
     (cond (fitS ((s_Cells.extract 0 ((w64 ((w64 (s_Y * s_Width)) + s_X)).toNat)) ++ r1) (s_Cells.extract ((w64 ((w64 ((w64 (s_Y * s_Width)) + s_X)) + 1)).toNat) s_Cells.size))
      (some ((w64 (w8 ((bt s_Cells ((w64 ((w64 (s_Y * s_Width)) + s_X)).toNat)) - 48))), (s_TableStates, s_TableTints, s_TableRows, s_Width, s_Height, (((s_Cells.extract 0 ((w64 ((w64 (s_Y * s_Width)) + s_X)).toNat)) ++ r1) ++ (s_Cells.extract ((w64 ((w64 ((w64 (s_Y * s_Width)) + s_X)) + 1)).toNat) s_Cells.size)), s_X, s_Y, s_Way, s_State)))
      (none))
     (none))
    (none))
   (none))
  (none) := by kernel_rfl
theorem spec_l1Num.eq (k : Nat) (n : Int) : spec_l1Num (k + 1) n =
  cond (decide (n < 10))
  (some (ofBytes [(w8 (w64 (48 + n)))]))
  ((spec_l1Num k (w64 (n.tdiv 10))).bind fun r1 =>
   cond (fitS r1 (ofBytes [(w8 (w64 (48 + (n.tmod 10))))]))
   (some (r1 ++ (ofBytes [(w8 (w64 (48 + (n.tmod 10))))])))
   (none)) := by kernel_rfl
theorem spec_taGo.eq (k : Nat) (s_TableStates : Int) (s_TableTints : Int) (s_TableRows : List (Int × (ByteArray × Int))) (s_Width : Int) (s_Height : Int) (s_Cells : ByteArray) (s_X : Int) (s_Y : Int) (s_Way : Int) (s_State : Int) (cells : Int) : spec_taGo (k + 1) ((s_TableStates, s_TableTints, s_TableRows, s_Width, s_Height, s_Cells, s_X, s_Y, s_Way, s_State), cells) =
  cond (s_Way == 0)
  ((spec_l1Mod k ((w64 (s_Y - cells)), s_Height)).bind fun r1 =>
   some ((), (s_TableStates, s_TableTints, s_TableRows, s_Width, s_Height, s_Cells, s_X, r1, s_Way, s_State)))
  (cond (s_Way == 1)
   ((spec_l1Mod k ((w64 (s_X + cells)), s_Width)).bind fun r2 =>
    some ((), (s_TableStates, s_TableTints, s_TableRows, s_Width, s_Height, s_Cells, r2, s_Y, s_Way, s_State)))
   (cond (s_Way == 2)
    ((spec_l1Mod k ((w64 (s_Y + cells)), s_Height)).bind fun r3 =>
     some ((), (s_TableStates, s_TableTints, s_TableRows, s_Width, s_Height, s_Cells, s_X, r3, s_Way, s_State)))
    ((spec_l1Mod k ((w64 (s_X - cells)), s_Width)).bind fun r4 =>
     some ((), (s_TableStates, s_TableTints, s_TableRows, s_Width, s_Height, s_Cells, r4, s_Y, s_Way, s_State))))) := by kernel_rfl
theorem spec_l1Mod.eq (k : Nat) (n : Int) (m : Int) : spec_l1Mod (k + 1) (n, m) =
  cond (m != 0)
  (cond (m != 0)
   (some ((w64 ((n.tmod m) + m)).tmod m))
   (none))
  (none) := by kernel_rfl
theorem spec_LoopOfScene_l_l.eq (k : Nat) (scenes : List (Int × Int × Int × Int × ByteArray × Int × Int × Int × Int × Unit)) (now_TableStates : Int) (now_TableTints : Int) (now_TableRows : List (Int × (ByteArray × Int))) (now_Width : Int) (now_Height : Int) (now_Cells : ByteArray) (now_X : Int) (now_Y : Int) (now_Way : Int) (now_State : Int) (steps : Int) (t23 : Int) (t24 : Int) : spec_LoopOfScene_l_l (k + 1) (scenes, (now_TableStates, now_TableTints, now_TableRows, now_Width, now_Height, now_Cells, now_X, now_Y, now_Way, now_State), steps, (), t23, t24) =
  cond (decide (t24 < t23))
  (cond (inB t24 scenes.length)
   ((spec_taSame k ((now_TableStates, now_TableTints, now_TableRows, now_Width, now_Height, now_Cells, now_X, now_Y, now_Way, now_State), ((List.getD scenes t24.toNat default).1, (List.getD scenes t24.toNat default).2.1, (), (List.getD scenes t24.toNat default).2.2.1, (List.getD scenes t24.toNat default).2.2.2.1, (List.getD scenes t24.toNat default).2.2.2.2.1, (List.getD scenes t24.toNat default).2.2.2.2.2.1, (List.getD scenes t24.toNat default).2.2.2.2.2.2.1, (List.getD scenes t24.toNat default).2.2.2.2.2.2.2.1, (List.getD scenes t24.toNat default).2.2.2.2.2.2.2.2.1))).bind fun r1 =>
    cond r1
    (some (.inl (t24, (w64 (steps - t24)), true)))
    (spec_LoopOfScene_l_l k (scenes, (now_TableStates, now_TableTints, now_TableRows, now_Width, now_Height, now_Cells, now_X, now_Y, now_Way, now_State), steps, (), t23, (w64 (t24 + 1)))))
   (none))
  (some (.inr (scenes, (now_TableStates, now_TableTints, now_TableRows, now_Width, now_Height, now_Cells, now_X, now_Y, now_Way, now_State), steps))) := by kernel_rfl
theorem spec_taSame.eq (k : Nat) (a_TableStates : Int) (a_TableTints : Int) (a_TableRows : List (Int × (ByteArray × Int))) (a_Width : Int) (a_Height : Int) (a_Cells : ByteArray) (a_X : Int) (a_Y : Int) (a_Way : Int) (a_State : Int) (b_TableStates : Int) (b_TableTints : Int) (b_Width : Int) (b_Height : Int) (b_Cells : ByteArray) (b_X : Int) (b_Y : Int) (b_Way : Int) (b_State : Int) : spec_taSame (k + 1) ((a_TableStates, a_TableTints, a_TableRows, a_Width, a_Height, a_Cells, a_X, a_Y, a_Way, a_State), (b_TableStates, b_TableTints, (), b_Width, b_Height, b_Cells, b_X, b_Y, b_Way, b_State)) =
  cond (strEq a_Cells b_Cells)
  (cond (a_X == b_X)
   (cond (a_Y == b_Y)
    (cond (a_Way == b_Way)
     (some (a_State == b_State))
     (some false))
    (some false))
   (some false))
  (some false) := by kernel_rfl
theorem impl_LoopOfScene.eq (k : Nat) (s_TableStates : Int) (s_TableTints : Int) (s_TableRows : List (Int × (ByteArray × Int))) (s_Width : Int) (s_Height : Int) (s_Cells : ByteArray) (s_X : Int) (s_Y : Int) (s_Way : Int) (s_State : Int) : impl_LoopOfScene (k + 1) (s_TableStates, s_TableTints, s_TableRows, s_Width, s_Height, s_Cells, s_X, s_Y, s_Way, s_State) =
  (impl_IsScene k (s_TableStates, s_TableTints, s_TableRows, s_Width, s_Height, s_Cells, s_X, s_Y, s_Way, s_State)).bind fun r1 =>
  cond (!r1)
  (some (0, 0, false))
  ((impl_LoopOfScene_l k ((s_TableStates, s_TableTints, s_TableRows, s_Width, s_Height, s_Cells, s_X, s_Y, s_Way, s_State), [], 0)).bind fun r2 =>
   r2.elim
   (fun r3 => some r3)
   (fun r4 => some (0, 0, false))) := by kernel_rfl
theorem impl_IsScene.eq (k : Nat) (s_TableStates : Int) (s_TableTints : Int) (s_TableRows : List (Int × (ByteArray × Int))) (s_Width : Int) (s_Height : Int) (s_Cells : ByteArray) (s_X : Int) (s_Y : Int) (s_Way : Int) (s_State : Int) : impl_IsScene (k + 1) (s_TableStates, s_TableTints, s_TableRows, s_Width, s_Height, s_Cells, s_X, s_Y, s_Way, s_State) =
  (impl_IsTable k (s_TableStates, s_TableTints, s_TableRows)).bind fun r1 =>
  cond r1
  ((impl_isSize k (s_Width, s_Height)).bind fun r2 =>
   cond r2
   ((impl_areCells k (s_Cells, (w64 (s_Width * s_Height)), s_TableTints)).bind fun r3 =>
    cond r3
    ((impl_isAnt k (s_Width, s_Height, s_X, s_Y, s_Way)).bind fun r4 =>
     cond r4
     ((impl_Table_isState k ((s_TableStates, s_TableTints, s_TableRows), s_State)).bind fun r5 =>
      some r5)
     (some false))
    (some false))
   (some false))
  (some false) := by kernel_rfl
theorem impl_IsTable.eq (k : Nat) (t_States : Int) (t_Tints : Int) (t_Rows : List (Int × (ByteArray × Int))) : impl_IsTable (k + 1) (t_States, t_Tints, t_Rows) =
  (impl_isShape k (t_States, t_Tints)).bind fun r1 =>
  cond r1
  (cond ((t_Rows.length : Int) == (w64 (t_States * t_Tints)))
   ((slices_ContainsFunc k (t_Rows, (t_States, t_Tints, ()))).bind fun r2 =>
    some (!r2))
   (some false))
  (some false) := by kernel_rfl
theorem impl_isShape.eq (k : Nat) (states : Int) (tints : Int) : impl_isShape (k + 1) (states, tints) =
  (impl_within k (states, 1, 4)).bind fun r1 =>
  cond r1
  ((impl_within k (tints, 1, 4)).bind fun r2 =>
   some r2)
  (some false) := by kernel_rfl
theorem impl_within.eq (k : Nat) (n : Int) (low : Int) (high : Int) : impl_within (k + 1) (n, low, high) =
  cond (decide (low ≤ n))
  (some (decide (n ≤ high)))
  (some false) := by kernel_rfl
theorem slices_ContainsFunc.eq (k : Nat) (s : List (Int × (ByteArray × Int))) (f_0 : Int) (f_01 : Int) : slices_ContainsFunc (k + 1) (s, (f_0, f_01, ())) =
  (slices_IndexFunc k (s, (f_0, f_01, ()))).bind fun r1 =>
  some (decide (r1 ≥ 0)) := by kernel_rfl
theorem slices_IndexFunc.eq (k : Nat) (s : List (Int × (ByteArray × Int))) (f_0 : Int) (f_01 : Int) : slices_IndexFunc (k + 1) (s, (f_0, f_01, ())) =
  (slices_IndexFunc_l k (s, (f_0, f_01, ()), (s.length : Int), 0)).bind fun r1 =>
  r1.elim
  (fun r2 => some r2)
  (fun r3 => some (-1)) := by kernel_rfl
theorem slices_IndexFunc_l.eq (k : Nat) (s : List (Int × (ByteArray × Int))) (f_0 : Int) (f_01 : Int) (t7 : Int) (t8 : Int) : slices_IndexFunc_l (k + 1) (s, (f_0, f_01, ()), t7, t8) =
  cond (decide (t8 < t7))
  (cond (inB t8 s.length)
   ((impl_IsTable_1 k ((s.getD t8.toNat default), (f_0, f_01, s))).bind fun r1 =>
    cond r1
    (some (.inl t8))
    (slices_IndexFunc_l k (s, (f_0, f_01, ()), t7, (w64 (t8 + 1)))))
   (none))
  (some (.inr ())) := by kernel_rfl
theorem impl_IsTable_1.eq (k : Nat) (r_Paint : Int) (r_Turn : ByteArray) (r_Next : Int) (t1_0 : Int) (t1_1 : Int) (t1_2 : List (Int × (ByteArray × Int))) : impl_IsTable_1 (k + 1) ((r_Paint, r_Turn, r_Next), (t1_0, t1_1, t1_2)) =
  (impl_Table_isTint k ((t1_0, t1_1, t1_2), r_Paint)).bind fun r1 =>
  cond (!r1)
  (some true)
  ((impl_Table_isState k ((t1_0, t1_1, t1_2), r_Next)).bind fun r2 =>
   cond (!r2)
   (some true)
   (cond ((r_Turn.size : Int) != 1)
    (some true)
    ((strings_Contains k ((bs [76, 82, 78, 85]), r_Turn)).bind fun r3 =>
     some (!r3)))) := by kernel_rfl
theorem impl_Table_isTint.eq (k : Nat) (t_States : Int) (t_Tints : Int) (t_Rows : List (Int × (ByteArray × Int))) (tint : Int) : impl_Table_isTint (k + 1) ((t_States, t_Tints, t_Rows), tint) =
  (impl_within k (tint, 0, (w64 (t_Tints - 1)))).bind fun r1 =>
  some r1 := by kernel_rfl
theorem impl_Table_isState.eq (k : Nat) (t_States : Int) (t_Tints : Int) (t_Rows : List (Int × (ByteArray × Int))) (state : Int) : impl_Table_isState (k + 1) ((t_States, t_Tints, t_Rows), state) =
  (impl_within k (state, 0, (w64 (t_States - 1)))).bind fun r1 =>
  some r1 := by kernel_rfl
theorem strings_Contains.eq (k : Nat) (d : ByteArray × ByteArray) : strings_Contains (k + 1) d = (fun d => strContains1 d.1 d.2) d := by kernel_rfl
theorem impl_isSize.eq (k : Nat) (width : Int) (height : Int) : impl_isSize (k + 1) (width, height) =
  (impl_within k (width, 1, 9)).bind fun r1 =>
  cond r1
  ((impl_within k (height, 1, 9)).bind fun r2 =>
   some r2)
  (some false) := by kernel_rfl
theorem impl_areCells.eq (k : Nat) (cells : ByteArray) (many : Int) (tints : Int) : impl_areCells (k + 1) (cells, many, tints) =
  (impl_areCells_l k (cells, many, tints, (cells.size : Int), 0)).bind fun r1 =>
  r1.elim
  (fun r2 => some r2)
  (fun r3 => some ((r3.1.size : Int) == r3.2)) := by kernel_rfl
theorem impl_areCells_l.eq (k : Nat) (cells : ByteArray) (many : Int) (tints : Int) (t9 : Int) (t10 : Int) : impl_areCells_l (k + 1) (cells, many, tints, t9, t10) =
  cond (decide (t10 < t9))
  (cond (inB t10 cells.size)
   ((impl_within k ((w64 ((w64 (bt cells t10.toNat)) - 48)), 0, (w64 (tints - 1)))).bind fun r1 =>
    cond (!r1)
    (some (.inl false))
    (impl_areCells_l k (cells, many, tints, t9, (w64 (t10 + 1)))))
   (none))
  (some (.inr (cells, many))) := by kernel_rfl
theorem impl_isAnt.eq (k : Nat) (width : Int) (height : Int) (x : Int) (y : Int) (way : Int) : impl_isAnt (k + 1) (width, height, x, y, way) =
  (impl_within k (x, 0, (w64 (width - 1)))).bind fun r1 =>
  cond r1
  ((impl_within k (y, 0, (w64 (height - 1)))).bind fun r2 =>
   cond r2
   ((impl_isWay k way).bind fun r3 =>
    some r3)
   (some false))
  (some false) := by kernel_rfl
theorem impl_isWay.eq (k : Nat) (way : Int) : impl_isWay (k + 1) way =
  (impl_within k (way, 0, 3)).bind fun r1 =>
  some r1 := by kernel_rfl
theorem impl_LoopOfScene_l.eq (k : Nat) (s_TableStates : Int) (s_TableTints : Int) (s_TableRows : List (Int × (ByteArray × Int))) (s_Width : Int) (s_Height : Int) (s_Cells : ByteArray) (s_X : Int) (s_Y : Int) (s_Way : Int) (s_State : Int) (seen : List (ByteArray × Int)) (t14 : Int) : impl_LoopOfScene_l (k + 1) ((s_TableStates, s_TableTints, s_TableRows, s_Width, s_Height, s_Cells, s_X, s_Y, s_Way, s_State), seen, t14) =
  cond (decide (t14 < 601))
  ((impl_listText k ((bs [44]), [s_X, s_Y, s_Way, s_State])).bind fun r1 =>
   cond (fitS s_Cells r1)
   (cond (mhas (K := ByteArray) (α := Int) (Sh.eqT .str) seen (s_Cells ++ r1))
    (some (.inl ((mget (K := ByteArray) (α := Int) (Sh.eqT .str) seen (s_Cells ++ r1) 0), (w64 (t14 - (mget (K := ByteArray) (α := Int) (Sh.eqT .str) seen (s_Cells ++ r1) 0))), true)))
    ((impl_Scene_step k (s_TableStates, s_TableTints, s_TableRows, s_Width, s_Height, s_Cells, s_X, s_Y, s_Way, s_State)).bind fun r2 =>
     impl_LoopOfScene_l k (r2, (mput (K := ByteArray) (α := Int) (Sh.eqT .str) seen (s_Cells ++ r1) t14), (w64 (t14 + 1)))))
   (none))
  (some (.inr ())) := by kernel_rfl
theorem impl_listText.eq (k : Nat) (by_ : ByteArray) (list : List Int) : impl_listText (k + 1) (by_, list) =
  (impl_listText_l k (by_, [], list, (list.length : Int), 0)).bind fun r1 =>
  (strings_Join k (r1.2, r1.1)).bind fun r2 =>
  some r2 := by kernel_rfl
theorem impl_listText_l.eq (k : Nat) (by_ : ByteArray) (parts : List ByteArray) (t9 : List Int) (t10 : Int) (t11 : Int) : impl_listText_l (k + 1) (by_, parts, t9, t10, t11) =
  cond (decide (t11 < t10))
  (cond (inB t11 t9.length)
   ((strconv_Itoa k (t9.getD t11.toNat default)).bind fun r1 =>
    cond (fits (parts.length + 1) 16)
    (impl_listText_l k (by_, (parts ++ [r1]), t9, t10, (w64 (t11 + 1))))
    (none))
   (none))
  (some (by_, parts)) := by kernel_rfl
theorem strconv_Itoa.eq (k : Nat) (d : Int) : strconv_Itoa (k + 1) d = (fun d => itoaAll d) d := by kernel_rfl
theorem strings_Join.eq (k : Nat) (d : List ByteArray × ByteArray) : strings_Join (k + 1) d = (fun d => joinS d.1 d.2) d := by kernel_rfl
theorem impl_Scene_step.eq (k : Nat) (s_TableStates : Int) (s_TableTints : Int) (s_TableRows : List (Int × (ByteArray × Int))) (s_Width : Int) (s_Height : Int) (s_Cells : ByteArray) (s_X : Int) (s_Y : Int) (s_Way : Int) (s_State : Int) : impl_Scene_step (k + 1) (s_TableStates, s_TableTints, s_TableRows, s_Width, s_Height, s_Cells, s_X, s_Y, s_Way, s_State) =
  (impl_Scene_world k (s_TableStates, s_TableTints, s_TableRows, s_Width, s_Height, s_Cells, s_X, s_Y, s_Way, s_State)).bind fun r1 =>
  (impl_World_colour k r1).bind fun r2 =>
  (impl_Table_row k ((s_TableStates, s_TableTints, s_TableRows), s_State, r2)).bind fun r3 =>
  cond (inB 0 r3.2.1.size)
  ((impl_quarters k (bt r3.2.1 0)).bind fun r4 =>
   (impl_World_at k (r1.1, r1.2.1, r1.2.2.1, r1.2.2.2.1, r1.2.2.2.2.1, r1.2.2.2.2.2.1, ((w64 (r1.2.2.2.2.2.2 + r4)).tmod 4))).bind fun r5 =>
   (impl_painted k (r1.2.2.2.1, r5, r3.1)).bind fun r6 =>
   (impl_World_gone k ((r1.1, r1.2.1, r1.2.2.1, r6, r1.2.2.2.2.1, r1.2.2.2.2.2.1, ((w64 (r1.2.2.2.2.2.2 + r4)).tmod 4)), 1)).bind fun r7 =>
   (impl_Scene_with k ((s_TableStates, s_TableTints, s_TableRows, s_Width, s_Height, s_Cells, s_X, s_Y, s_Way, r3.2.2), r7)).bind fun r8 =>
   some r8)
  (none) := by kernel_rfl
theorem impl_Scene_world.eq (k : Nat) (s_TableStates : Int) (s_TableTints : Int) (s_TableRows : List (Int × (ByteArray × Int))) (s_Width : Int) (s_Height : Int) (s_Cells : ByteArray) (s_X : Int) (s_Y : Int) (s_Way : Int) (s_State : Int) : impl_Scene_world (k + 1) (s_TableStates, s_TableTints, s_TableRows, s_Width, s_Height, s_Cells, s_X, s_Y, s_Way, s_State) =
  some (ByteArray.empty, s_Width, s_Height, s_Cells, s_X, s_Y, s_Way) := by kernel_rfl
theorem impl_World_colour.eq (k : Nat) (w_Rule : ByteArray) (w_Width : Int) (w_Height : Int) (w_Cells : ByteArray) (w_X : Int) (w_Y : Int) (w_Way : Int) : impl_World_colour (k + 1) (w_Rule, w_Width, w_Height, w_Cells, w_X, w_Y, w_Way) =
  (impl_World_at k (w_Rule, w_Width, w_Height, w_Cells, w_X, w_Y, w_Way)).bind fun r1 =>
  cond (inB r1 w_Cells.size)
  (some (w64 (w8 ((bt w_Cells r1.toNat) - 48))))
  (none) := by kernel_rfl
theorem impl_World_at.eq (k : Nat) (w_Rule : ByteArray) (w_Width : Int) (w_Height : Int) (w_Cells : ByteArray) (w_X : Int) (w_Y : Int) (w_Way : Int) : impl_World_at (k + 1) (w_Rule, w_Width, w_Height, w_Cells, w_X, w_Y, w_Way) =
  some (w64 ((w64 (w_Y * w_Width)) + w_X)) := by kernel_rfl
theorem impl_Table_row.eq (k : Nat) (t_States : Int) (t_Tints : Int) (t_Rows : List (Int × (ByteArray × Int))) (state : Int) (tint : Int) : impl_Table_row (k + 1) ((t_States, t_Tints, t_Rows), state, tint) =
  cond (inB (w64 ((w64 (state * t_Tints)) + tint)) t_Rows.length)
  (some (t_Rows.getD ((w64 ((w64 (state * t_Tints)) + tint)).toNat) default))
  (none) := by kernel_rfl
theorem impl_quarters.eq (k : Nat) (sign : Int) : impl_quarters (k + 1) sign =
  cond (sign == 76)
  (some 3)
  (cond (sign == 82)
   (some 1)
   (cond (sign == 85)
    (some 2)
    (some 0))) := by kernel_rfl
theorem impl_painted.eq (k : Nat) (cells : ByteArray) (k_ : Int) (tint : Int) : impl_painted (k + 1) (cells, k_, tint) =
  cond (inB k_ ((bytesOf cells).length))
  (some (ofBytes ((bytesOf cells).set k_.toNat (w8 (w64 (48 + tint))))))
  (none) := by kernel_rfl
theorem impl_World_gone.eq (k : Nat) (w_Rule : ByteArray) (w_Width : Int) (w_Height : Int) (w_Cells : ByteArray) (w_X : Int) (w_Y : Int) (w_Way : Int) (by_ : Int) : impl_World_gone (k + 1) ((w_Rule, w_Width, w_Height, w_Cells, w_X, w_Y, w_Way), by_) =
  (impl_ahead k w_Way).bind fun r1 =>
  cond (w_Width != 0)
  (cond (w_Height != 0)
   (some (w_Rule, w_Width, w_Height, w_Cells, ((w64 ((w64 (w_X + (w64 (by_ * r1.1)))) + w_Width)).tmod w_Width), ((w64 ((w64 (w_Y + (w64 (by_ * r1.2)))) + w_Height)).tmod w_Height), w_Way))
   (none))
  (none) := by kernel_rfl
theorem impl_ahead.eq (k : Nat) (way : Int) : impl_ahead (k + 1) way =
  cond (inB way 4)
  (cond (inB way 4)
   (some ((([0, 1, 0, (-1)] : List Int).getD way.toNat default), (([(-1), 0, 1, 0] : List Int).getD way.toNat default)))
   (none))
  (none) := by kernel_rfl
theorem impl_Scene_with.eq (k : Nat) (s_TableStates : Int) (s_TableTints : Int) (s_TableRows : List (Int × (ByteArray × Int))) (s_Width : Int) (s_Height : Int) (s_Cells : ByteArray) (s_X : Int) (s_Y : Int) (s_Way : Int) (s_State : Int) (w_Rule : ByteArray) (w_Width : Int) (w_Height : Int) (w_Cells : ByteArray) (w_X : Int) (w_Y : Int) (w_Way : Int) : impl_Scene_with (k + 1) ((s_TableStates, s_TableTints, s_TableRows, s_Width, s_Height, s_Cells, s_X, s_Y, s_Way, s_State), (w_Rule, w_Width, w_Height, w_Cells, w_X, w_Y, w_Way)) =
  some (s_TableStates, s_TableTints, s_TableRows, s_Width, s_Height, w_Cells, w_X, w_Y, w_Way, s_State) := by kernel_rfl
theorem laws_eqScene.eq (k : Nat) (a_TableStates : Int) (a_TableTints : Int) (a_TableRows : List (Int × (ByteArray × Int))) (a_Width : Int) (a_Height : Int) (a_Cells : ByteArray) (a_X : Int) (a_Y : Int) (a_Way : Int) (a_State : Int) (b_TableStates : Int) (b_TableTints : Int) (b_TableRows : List (Int × (ByteArray × Int))) (b_Width : Int) (b_Height : Int) (b_Cells : ByteArray) (b_X : Int) (b_Y : Int) (b_Way : Int) (b_State : Int) : laws_eqScene (k + 1) ((a_TableStates, a_TableTints, a_TableRows, a_Width, a_Height, a_Cells, a_X, a_Y, a_Way, a_State), (b_TableStates, b_TableTints, b_TableRows, b_Width, b_Height, b_Cells, b_X, b_Y, b_Way, b_State)) =
  (laws_eqTable k ((a_TableStates, a_TableTints, a_TableRows), (b_TableStates, b_TableTints, b_TableRows))).bind fun r1 =>
  cond (!r1)
  (some false)
  (cond (a_Width != b_Width)
   (some false)
   (cond (a_Height != b_Height)
    (some false)
    (cond (!(strEq a_Cells b_Cells))
     (some false)
     (cond (a_X != b_X)
      (some false)
      (cond (a_Y != b_Y)
       (some false)
       (cond (a_Way != b_Way)
        (some false)
        (cond (a_State != b_State)
         (some false)
         (some true)))))))) := by kernel_rfl
theorem laws_eqTable.eq (k : Nat) (a_States : Int) (a_Tints : Int) (a_Rows : List (Int × (ByteArray × Int))) (b_States : Int) (b_Tints : Int) (b_Rows : List (Int × (ByteArray × Int))) : laws_eqTable (k + 1) ((a_States, a_Tints, a_Rows), (b_States, b_Tints, b_Rows)) =
  cond (a_States != b_States)
  (some false)
  (cond (a_Tints != b_Tints)
   (some false)
   ((laws_eqRowS k (a_Rows, b_Rows)).bind fun r1 =>
    cond (!r1)
    (some false)
    (some true))) := by kernel_rfl
theorem laws_eqRowS.eq (k : Nat) (a : List (Int × (ByteArray × Int))) (b : List (Int × (ByteArray × Int))) : laws_eqRowS (k + 1) (a, b) =
  cond ((a.length : Int) != (b.length : Int))
  (some false)
  ((laws_eqRowS_l k (a, b, 0)).bind fun r1 =>
   r1.elim
   (fun r2 => some r2)
   (fun r3 => some true)) := by kernel_rfl
theorem laws_eqRowS_l.eq (k : Nat) (a : List (Int × (ByteArray × Int))) (b : List (Int × (ByteArray × Int))) (i : Int) : laws_eqRowS_l (k + 1) (a, b, i) =
  cond (decide (i < (a.length : Int)))
  (cond (inB i a.length)
   (cond (inB i b.length)
    ((laws_eqRow k ((a.getD i.toNat default), (b.getD i.toNat default))).bind fun r1 =>
     cond (!r1)
     (some (.inl false))
     (laws_eqRowS_l k (a, b, (w64 (i + 1)))))
    (none))
   (none))
  (some (.inr ())) := by kernel_rfl
theorem laws_eqRow.eq (k : Nat) (a_Paint : Int) (a_Turn : ByteArray) (a_Next : Int) (b_Paint : Int) (b_Turn : ByteArray) (b_Next : Int) : laws_eqRow (k + 1) ((a_Paint, a_Turn, a_Next), (b_Paint, b_Turn, b_Next)) =
  cond (a_Paint != b_Paint)
  (some false)
  (cond (!(strEq a_Turn b_Turn))
   (some false)
   (cond (a_Next != b_Next)
    (some false)
    (some true))) := by kernel_rfl
end Go.Proofs.YtiaagflfiphioaaDoorS
