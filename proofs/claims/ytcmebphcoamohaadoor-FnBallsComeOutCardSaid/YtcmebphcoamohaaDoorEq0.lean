/- What each function computes (printed by wip/sim/gen.py). -/
import Derived.Test.YtcmebphcoamohaaDoorTab
namespace Go.Proofs.YtcmebphcoamohaaDoorS
open Go Go.Proofs
set_option maxRecDepth 100000
set_option linter.unusedVariables false
theorem laws_FnBallsComeOut.eq (k : Nat) (code : List Int) (more : List Int) : laws_FnBallsComeOut (k + 1) (code, more) =
  (laws_big k (code, more)).bind fun r1 =>
  cond r1
  (some true)
  ((spec_DrawExitOf k code).bind fun r2 =>
   (impl_ExitOf k r2).bind fun r3 =>
   (spec_ExitOf k r2).bind fun r4 =>
   (impl_MazeAfterBall k r2).bind fun r5 =>
   (spec_MazeAfterBall k r2).bind fun r6 =>
   (impl_HitsOfBall k r2).bind fun r7 =>
   (spec_HitsOfBall k r2).bind fun r8 =>
   (impl_HitCell k r2).bind fun r9 =>
   (spec_HitCell k r2).bind fun r10 =>
   cond (!(r3.2 == r4.2))
   (some false)
   (cond (r3.1 != r4.1)
    (some false)
    (cond (!(r5.2 == r6.2))
     (some false)
     (cond (!((r5.1.1 == r6.1.1) && ((r5.1.2.1 == r6.1.2.1) && ((r5.1.2.2.1 == r6.1.2.2.1) && ((r5.1.2.2.2 == r6.1.2.2.2) && true)))))
      (some false)
      (cond (!(r7.2 == r8.2))
       (some false)
       (cond (r7.1 != r8.1)
        (some false)
        (cond (!(r9.2.2 == r10.2.2))
         (some false)
         (cond (!((r9.1.1 == r10.1.1) && ((r9.1.2.1 == r10.1.2.1) && ((r9.1.2.2.1 == r10.1.2.2.1) && ((r9.1.2.2.2 == r10.1.2.2.2) && true)))))
          (some false)
          (cond (!((r9.2.1.1 == r10.2.1.1) && ((r9.2.1.2.1 == r10.2.1.2.1) && ((r9.2.1.2.2 == r10.2.1.2.2) && true))))
           (some false)
           (cond (!(r5.2 == r3.2))
            (some false)
            (cond (!(r7.2 == r3.2))
             (some false)
             ((impl_IsBall k r2).bind fun r11 =>
              (spec_IsBall k r2).bind fun r12 =>
              cond (!(r11 == r12))
              (some false)
              (cond r3.2
               ((impl_IsBall k r2).bind fun r13 =>
                cond (!r13)
                (some false)
                (cond r9.2.2
                 ((impl_IsBall k (r9.1, r9.2.1)).bind fun r14 =>
                  cond (!r14)
                  (some false)
                  ((laws_FnBallsComeOut_c k (more, r2.1, r2.2, r3.1, r3.2, r5.1, r7.1, r9.1, r9.2.1, r9.2.2)).bind fun r15 =>
                   some r15))
                 ((laws_FnBallsComeOut_c k (more, r2.1, r2.2, r3.1, r3.2, r5.1, r7.1, r9.1, r9.2.1, r9.2.2)).bind fun r16 =>
                  some r16)))
               (cond r9.2.2
                ((impl_IsBall k (r9.1, r9.2.1)).bind fun r17 =>
                 cond (!r17)
                 (some false)
                 ((laws_FnBallsComeOut_c k (more, r2.1, r2.2, r3.1, r3.2, r5.1, r7.1, r9.1, r9.2.1, r9.2.2)).bind fun r18 =>
                  some r18))
                ((laws_FnBallsComeOut_c k (more, r2.1, r2.2, r3.1, r3.2, r5.1, r7.1, r9.1, r9.2.1, r9.2.2)).bind fun r19 =>
                 some r19))))))))))))))) := by kernel_rfl
theorem laws_big.eq (k : Nat) (code : List Int) (more : List Int) : laws_big (k + 1) (code, more) =
  cond (decide ((code.length : Int) > 1048576))
  (some true)
  (some (decide ((more.length : Int) > (w64 (1048576 - (code.length : Int)))))) := by kernel_rfl
theorem spec_DrawExitOf.eq (k : Nat) (code : List Int) : spec_DrawExitOf (k + 1) code =
  (spec_DrawIsBall k code).bind fun r1 =>
  some r1 := by kernel_rfl
theorem spec_DrawIsBall.eq (k : Nat) (code : List Int) : spec_DrawIsBall (k + 1) code =
  (spec_l1Cur_ball k (code, 0, 0)).bind fun r1 =>
  some r1.1 := by kernel_rfl
theorem spec_l1Cur_ball.eq (k : Nat) (c_code : List Int) (c_at : Int) (c_seed : Int) : spec_l1Cur_ball (k + 1) (c_code, c_at, c_seed) =
  (spec_l1Cur_maze k (c_code, c_at, c_seed)).bind fun r1 =>
  (spec_miGood k r1.1).bind fun r2 =>
  cond (!r2)
  ((spec_l1Cur_among k (r1.2, [(-1), 0, 9, 4611686018427387904])).bind fun r3 =>
   (spec_l1Cur_pick k (r3.2, 3)).bind fun r4 =>
   (spec_l1Cur_pick k (r4.2, 6)).bind fun r5 =>
   some ((r1.1, (r3.1, r4.1, (w64 (r5.1 - 1)))), r5.2))
  ((spec_l1Cur_one k (r1.2, 14)).bind fun r6 =>
   cond r6.1
   ((spec_l1Cur_among k (r6.2, [(-1), 0, 9, 4611686018427387904])).bind fun r7 =>
    (spec_l1Cur_pick k (r7.2, 3)).bind fun r8 =>
    (spec_l1Cur_pick k (r8.2, 6)).bind fun r9 =>
    some ((r1.1, (r7.1, r8.1, (w64 (r9.1 - 1)))), r9.2))
   ((spec_l1Cur_pick k (r6.2, r1.1.1)).bind fun r10 =>
    (spec_l1Cur_pick k (r10.2, r1.1.2.1)).bind fun r11 =>
    (spec_l1Cur_pick k (r11.2, 4)).bind fun r12 =>
    some ((r1.1, (r10.1, r11.1, r12.1)), r12.2))) := by kernel_rfl
theorem spec_l1Cur_maze.eq (k : Nat) (c_code : List Int) (c_at : Int) (c_seed : Int) : spec_l1Cur_maze (k + 1) (c_code, c_at, c_seed) =
  (spec_l1Cur_sureMaze k ((c_code, c_at, c_seed), 5)).bind fun r1 =>
  (spec_l1Cur_pick k (r1.2, 16)).bind fun r2 =>
  cond (r2.1 == 0)
  ((spec_l1Cur_among k (r2.2, [(-1), 0, 1, 9, 10, 4611686018427387904])).bind fun r3 =>
   some ((r3.1, r1.1.2.1, r1.1.2.2.1, r1.1.2.2.2), r3.2))
  (cond (r2.1 == 1)
   ((spec_l1Cur_of k (r2.2, [(bs [46]), (bs [120]), (bs [90])])).bind fun r4 =>
    cond (fitS r1.1.2.2.1 r4.1)
    (some ((r1.1.1, r1.1.2.1, (r1.1.2.2.1 ++ r4.1), r1.1.2.2.2), r4.2))
    (none))
   (cond (r2.1 == 2)
    ((spec_l1Cur_spoilt k (r2.2, r1.1.2.2.1, (bs [90, 83, 46, 120]))).bind fun r5 =>
     some ((r1.1.1, r1.1.2.1, r5.1, r1.1.2.2.2), r5.2))
    (some (r1.1, r2.2)))) := by kernel_rfl
theorem spec_l1Cur_sureMaze.eq (k : Nat) (c_code : List Int) (c_at : Int) (c_seed : Int) (most : Int) : spec_l1Cur_sureMaze (k + 1) ((c_code, c_at, c_seed), most) =
  (spec_l1Cur_pick k ((c_code, c_at, c_seed), most)).bind fun r1 =>
  (spec_l1Cur_pick k (r1.2, most)).bind fun r2 =>
  (spec_l1Cur_one k (r2.2, 2)).bind fun r3 =>
  (spec_l1Cur_sureMaze_l k (r3.2, (0, 0, ByteArray.empty, false), ((w64 (1 + r1.1)), (w64 (1 + r2.1)), ByteArray.empty, r3.1), ())).bind fun r4 =>
  some r4.2 := by kernel_rfl
theorem spec_l1Cur_pick.eq (k : Nat) (c_code : List Int) (c_at : Int) (c_seed : Int) (n : Int) : spec_l1Cur_pick (k + 1) ((c_code, c_at, c_seed), n) =
  cond (decide (n ≤ 1))
  (some (0, (c_code, c_at, c_seed)))
  ((spec_l1Cur_next k (c_code, c_at, c_seed)).bind fun r1 =>
   cond (decide (n > 200))
   ((spec_l1Cur_next k r1.2).bind fun r2 =>
    cond (n != 0)
    (some (((w64 ((w64 (r1.1 * 256)) + r2.1)).tmod n), r2.2))
    (none))
   (cond (n != 0)
    (some ((r1.1.tmod n), r1.2))
    (none))) := by kernel_rfl
theorem spec_l1Cur_next.eq (k : Nat) (c_code : List Int) (c_at : Int) (c_seed : Int) : spec_l1Cur_next (k + 1) (c_code, c_at, c_seed) =
  cond (decide (c_at < (c_code.length : Int)))
  (cond (inB c_at c_code.length)
   (cond (decide ((w64 (c_at + 1)) ≤ (c_code.length : Int)))
    (some ((w64 (c_code.getD c_at.toNat default)), (c_code, (w64 (c_at + 1)), (IntKind.u64.wrap ((IntKind.u64.wrap ((IntKind.u64.wrap (c_seed * 6364136223846793005)) + (IntKind.u64.wrap (w64 (c_code.getD c_at.toNat default))))) + 1442695040888963407)))))
    (some ((w64 (andI .u64 (shrI .u64 (IntKind.u64.wrap ((IntKind.u64.wrap ((IntKind.u64.wrap (c_seed * 6364136223846793005)) + (IntKind.u64.wrap (w64 (c_code.getD c_at.toNat default))))) + 1442695040888963407)) 40) 255)), (c_code, (w64 (c_at + 1)), (IntKind.u64.wrap ((IntKind.u64.wrap ((IntKind.u64.wrap (c_seed * 6364136223846793005)) + (IntKind.u64.wrap (w64 (c_code.getD c_at.toNat default))))) + 1442695040888963407))))))
   (none))
  (cond (decide ((w64 (c_at + 1)) ≤ (c_code.length : Int)))
   (some (0, (c_code, (w64 (c_at + 1)), (IntKind.u64.wrap ((IntKind.u64.wrap ((IntKind.u64.wrap (c_seed * 6364136223846793005)) + 0)) + 1442695040888963407)))))
   (some ((w64 (andI .u64 (shrI .u64 (IntKind.u64.wrap ((IntKind.u64.wrap ((IntKind.u64.wrap (c_seed * 6364136223846793005)) + 0)) + 1442695040888963407)) 40) 255)), (c_code, (w64 (c_at + 1)), (IntKind.u64.wrap ((IntKind.u64.wrap ((IntKind.u64.wrap (c_seed * 6364136223846793005)) + 0)) + 1442695040888963407)))))) := by kernel_rfl
theorem spec_l1Cur_one.eq (k : Nat) (c_code : List Int) (c_at : Int) (c_seed : Int) (n : Int) : spec_l1Cur_one (k + 1) ((c_code, c_at, c_seed), n) =
  (spec_l1Cur_pick k ((c_code, c_at, c_seed), n)).bind fun r1 =>
  some ((r1.1 == 0), r1.2) := by kernel_rfl
theorem spec_l1Cur_sureMaze_l.eq (k : Nat) (c_code : List Int) (c_at : Int) (c_seed : Int) (t4_Width : Int) (t4_Height : Int) (t4_Cells : ByteArray) (t4_Turns : Bool) (m_Width : Int) (m_Height : Int) (m_Cells : ByteArray) (m_Turns : Bool) : spec_l1Cur_sureMaze_l (k + 1) ((c_code, c_at, c_seed), (t4_Width, t4_Height, t4_Cells, t4_Turns), (m_Width, m_Height, m_Cells, m_Turns), ()) =
  cond (decide ((m_Cells.size : Int) < (w64 (m_Width * m_Height))))
  ((spec_l1Cur_of k ((c_code, c_at, c_seed), [(bs [46]), (bs [90]), (bs [83])])).bind fun r1 =>
   cond (fitS m_Cells r1.1)
   (spec_l1Cur_sureMaze_l k (r1.2, (t4_Width, t4_Height, t4_Cells, t4_Turns), (m_Width, m_Height, (m_Cells ++ r1.1), m_Turns), ()))
   (none))
  (some ((t4_Width, t4_Height, t4_Cells, t4_Turns), (m_Width, m_Height, m_Cells, m_Turns), (c_code, c_at, c_seed))) := by kernel_rfl
theorem spec_l1Cur_of.eq (k : Nat) (c_code : List Int) (c_at : Int) (c_seed : Int) (list : List ByteArray) : spec_l1Cur_of (k + 1) ((c_code, c_at, c_seed), list) =
  (spec_l1Cur_pick k ((c_code, c_at, c_seed), (list.length : Int))).bind fun r1 =>
  cond (inB r1.1 list.length)
  (some ((list.getD r1.1.toNat default), r1.2))
  (none) := by kernel_rfl
theorem spec_l1Cur_among.eq (k : Nat) (c_code : List Int) (c_at : Int) (c_seed : Int) (list : List Int) : spec_l1Cur_among (k + 1) ((c_code, c_at, c_seed), list) =
  (spec_l1Cur_pick k ((c_code, c_at, c_seed), (list.length : Int))).bind fun r1 =>
  cond (inB r1.1 list.length)
  (some ((list.getD r1.1.toNat default), r1.2))
  (none) := by kernel_rfl
theorem spec_l1Cur_spoilt.eq (k : Nat) (c_code : List Int) (c_at : Int) (c_seed : Int) (t : ByteArray) (with_ : ByteArray) : spec_l1Cur_spoilt (k + 1) ((c_code, c_at, c_seed), t, with_) =
  (spec_l1Cur_pick k ((c_code, c_at, c_seed), 2)).bind fun r1 =>
  (spec_l1Cur_spoilt_l k (r1.2, t, with_, (w64 (1 + r1.1)), ())).bind fun r2 =>
  some r2 := by kernel_rfl
theorem spec_l1Cur_spoilt_l.eq (k : Nat) (c_code : List Int) (c_at : Int) (c_seed : Int) (t : ByteArray) (with_ : ByteArray) (n : Int) : spec_l1Cur_spoilt_l (k + 1) ((c_code, c_at, c_seed), t, with_, n, ()) =
  cond (decide (n > 0))
  (cond (decide ((t.size : Int) > 0))
   ((spec_l1Cur_pick k ((c_code, c_at, c_seed), (t.size : Int))).bind fun r1 =>
    (spec_l1Cur_pick k (r1.2, (with_.size : Int))).bind fun r2 =>
    cond (inB r2.1 with_.size)
    ((spec_l1Cur_pick k (r2.2, 3)).bind fun r3 =>
     cond (r3.1 == 0)
     (cond ((decide ((0 : Int) ≤ r1.1)) && (decide (r1.1 ≤ (t.size : Int))))
      (cond (fitS (t.extract 0 r1.1.toNat) (ofBytes [(bt with_ r2.1.toNat)]))
       (cond ((decide ((0 : Int) ≤ r1.1)) && (decide (r1.1 ≤ (t.size : Int))))
        (cond (fitS ((t.extract 0 r1.1.toNat) ++ (ofBytes [(bt with_ r2.1.toNat)])) (t.extract r1.1.toNat t.size))
         (spec_l1Cur_spoilt_l k (r3.2, (((t.extract 0 r1.1.toNat) ++ (ofBytes [(bt with_ r2.1.toNat)])) ++ (t.extract r1.1.toNat t.size)), with_, (w64 (n - 1)), ()))
         (none))
        (none))
       (none))
      (none))
     (cond (r3.1 == 1)
      (cond ((decide ((0 : Int) ≤ r1.1)) && (decide (r1.1 ≤ (t.size : Int))))
       (cond (fitS (t.extract 0 r1.1.toNat) (ofBytes [(bt with_ r2.1.toNat)]))
        (cond ((decide ((0 : Int) ≤ (w64 (r1.1 + 1)))) && (decide ((w64 (r1.1 + 1)) ≤ (t.size : Int))))
         (cond (fitS ((t.extract 0 r1.1.toNat) ++ (ofBytes [(bt with_ r2.1.toNat)])) (t.extract ((w64 (r1.1 + 1)).toNat) t.size))
          (spec_l1Cur_spoilt_l k (r3.2, (((t.extract 0 r1.1.toNat) ++ (ofBytes [(bt with_ r2.1.toNat)])) ++ (t.extract ((w64 (r1.1 + 1)).toNat) t.size)), with_, (w64 (n - 1)), ()))
          (none))
         (none))
        (none))
       (none))
      (cond ((decide ((0 : Int) ≤ r1.1)) && (decide (r1.1 ≤ (t.size : Int))))
       (cond ((decide ((0 : Int) ≤ (w64 (r1.1 + 1)))) && (decide ((w64 (r1.1 + 1)) ≤ (t.size : Int))))
        (cond (fitS (t.extract 0 r1.1.toNat) (t.extract ((w64 (r1.1 + 1)).toNat) t.size))
         (spec_l1Cur_spoilt_l k (r3.2, ((t.extract 0 r1.1.toNat) ++ (t.extract ((w64 (r1.1 + 1)).toNat) t.size)), with_, (w64 (n - 1)), ()))
         (none))
        (none))
       (none))))
    (none))
   (some (t, (c_code, c_at, c_seed))))
  (some (t, (c_code, c_at, c_seed))) := by kernel_rfl
theorem spec_miGood.eq (k : Nat) (m_Width : Int) (m_Height : Int) (m_Cells : ByteArray) (m_Turns : Bool) : spec_miGood (k + 1) (m_Width, m_Height, m_Cells, m_Turns) =
  (spec_l1In k (m_Width, 1, 9)).bind fun r1 =>
  cond (!r1)
  (some false)
  ((spec_l1In k (m_Height, 1, 9)).bind fun r2 =>
   cond (!r2)
   (some false)
   (cond ((m_Cells.size : Int) != (w64 (m_Width * m_Height)))
    (some false)
    ((spec_miGood_l k ((m_Width, m_Height, m_Cells, m_Turns), 0)).bind fun r3 =>
     r3.elim
     (fun r4 => some r4)
     (fun r5 => some true)))) := by kernel_rfl
theorem spec_l1In.eq (k : Nat) (n : Int) (lo : Int) (hi : Int) : spec_l1In (k + 1) (n, lo, hi) =
  cond (decide (n ≥ lo))
  (some (decide (n ≤ hi)))
  (some false) := by kernel_rfl
theorem spec_miGood_l.eq (k : Nat) (m_Width : Int) (m_Height : Int) (m_Cells : ByteArray) (m_Turns : Bool) (i : Int) : spec_miGood_l (k + 1) ((m_Width, m_Height, m_Cells, m_Turns), i) =
  cond (decide (i < (m_Cells.size : Int)))
  (cond (inB i m_Cells.size)
   (cond ((bt m_Cells i.toNat) != 46)
    (cond (inB i m_Cells.size)
     (cond ((bt m_Cells i.toNat) != 90)
      (cond (inB i m_Cells.size)
       (cond ((bt m_Cells i.toNat) != 83)
        (some (.inl false))
        (spec_miGood_l k ((m_Width, m_Height, m_Cells, m_Turns), (w64 (i + 1)))))
       (none))
      (spec_miGood_l k ((m_Width, m_Height, m_Cells, m_Turns), (w64 (i + 1)))))
     (none))
    (spec_miGood_l k ((m_Width, m_Height, m_Cells, m_Turns), (w64 (i + 1)))))
   (none))
  (some (.inr ())) := by kernel_rfl
theorem impl_ExitOf.eq (k : Nat) (m_Width : Int) (m_Height : Int) (m_Cells : ByteArray) (m_Turns : Bool) (b_X : Int) (b_Y : Int) (b_Way : Int) : impl_ExitOf (k + 1) ((m_Width, m_Height, m_Cells, m_Turns), (b_X, b_Y, b_Way)) =
  (impl_passOf k ((m_Width, m_Height, m_Cells, m_Turns), (b_X, b_Y, b_Way))).bind fun r1 =>
  some (r1.1.2.2.2.2.1, r1.2) := by kernel_rfl
theorem impl_passOf.eq (k : Nat) (m_Width : Int) (m_Height : Int) (m_Cells : ByteArray) (m_Turns : Bool) (b_X : Int) (b_Y : Int) (b_Way : Int) : impl_passOf (k + 1) ((m_Width, m_Height, m_Cells, m_Turns), (b_X, b_Y, b_Way)) =
  (impl_IsBall k ((m_Width, m_Height, m_Cells, m_Turns), (b_X, b_Y, b_Way))).bind fun r1 =>
  cond (!r1)
  (some ((0, 0, ByteArray.empty, false, 0, 0, 0), false))
  ((impl_Maze_pass k ((m_Width, m_Height, m_Cells, m_Turns), (b_X, b_Y, b_Way))).bind fun r2 =>
   some r2) := by kernel_rfl
theorem impl_IsBall.eq (k : Nat) (m_Width : Int) (m_Height : Int) (m_Cells : ByteArray) (m_Turns : Bool) (b_X : Int) (b_Y : Int) (b_Way : Int) : impl_IsBall (k + 1) ((m_Width, m_Height, m_Cells, m_Turns), (b_X, b_Y, b_Way)) =
  (impl_IsMaze k (m_Width, m_Height, m_Cells, m_Turns)).bind fun r1 =>
  cond r1
  ((impl_isAnt k (m_Width, m_Height, b_X, b_Y, b_Way)).bind fun r2 =>
   some r2)
  (some false) := by kernel_rfl
theorem impl_IsMaze.eq (k : Nat) (m_Width : Int) (m_Height : Int) (m_Cells : ByteArray) (m_Turns : Bool) : impl_IsMaze (k + 1) (m_Width, m_Height, m_Cells, m_Turns) =
  (impl_isSize k (m_Width, m_Height)).bind fun r1 =>
  cond r1
  (cond ((m_Cells.size : Int) == (w64 (m_Width * m_Height)))
   ((strings_Trim k (m_Cells, (bs [46, 90, 83]))).bind fun r2 =>
    some (strEq r2 ByteArray.empty))
   (some false))
  (some false) := by kernel_rfl
theorem impl_isSize.eq (k : Nat) (width : Int) (height : Int) : impl_isSize (k + 1) (width, height) =
  (impl_within k (width, 1, 9)).bind fun r1 =>
  cond r1
  ((impl_within k (height, 1, 9)).bind fun r2 =>
   some r2)
  (some false) := by kernel_rfl
theorem impl_within.eq (k : Nat) (n : Int) (low : Int) (high : Int) : impl_within (k + 1) (n, low, high) =
  cond (decide (low ≤ n))
  (some (decide (n ≤ high)))
  (some false) := by kernel_rfl
theorem strings_Trim.eq (k : Nat) (d : ByteArray × ByteArray) : strings_Trim (k + 1) d = (fun d => strTrim d.1 d.2) d := by kernel_rfl
theorem impl_isAnt.eq (k : Nat) (width : Int) (height : Int) (x : Int) (y : Int) (way : Int) : impl_isAnt (k + 1) (width, height, x, y, way) =
  (impl_within k (x, 0, (w64 (width - 1)))).bind fun r1 =>
  cond r1
  ((impl_within k (y, 0, (w64 (height - 1)))).bind fun r2 =>
   cond r2
   ((impl_isWay k way).bind fun r3 =>
    some r3)
   (some false))
  (some false) := by kernel_rfl
theorem impl_isWay.eq (k : Nat) (way : Int) : impl_isWay (k + 1) way =
  (impl_within k (way, 0, 3)).bind fun r1 =>
  some r1 := by kernel_rfl
theorem impl_Maze_pass.eq (k : Nat) (m_Width : Int) (m_Height : Int) (m_Cells : ByteArray) (m_Turns : Bool) (b_X : Int) (b_Y : Int) (b_Way : Int) : impl_Maze_pass (k + 1) ((m_Width, m_Height, m_Cells, m_Turns), (b_X, b_Y, b_Way)) =
  cond (!m_Turns)
  ((impl_Maze_pass_l k ((m_Width, m_Height, m_Cells, m_Turns), (b_X, b_Y, b_Way), (0, 0, ByteArray.empty, false, 0, 0, 0), (m_Width, m_Height, m_Cells, m_Turns, 0, 0, 0), (w64 (4 * (m_Cells.size : Int))))).bind fun r1 =>
   r1.elim
   (fun r2 => some r2)
   (fun r3 => some ((0, 0, ByteArray.empty, false, 0, 0, 0), false)))
  ((impl_Maze_pass_l k ((m_Width, m_Height, m_Cells, m_Turns), (b_X, b_Y, b_Way), (0, 0, ByteArray.empty, false, 0, 0, 0), (m_Width, m_Height, m_Cells, m_Turns, 0, 0, 0), 1000000)).bind fun r4 =>
   r4.elim
   (fun r5 => some r5)
   (fun r6 => some ((0, 0, ByteArray.empty, false, 0, 0, 0), false))) := by kernel_rfl
theorem impl_Maze_pass_l.eq (k : Nat) (m_Width : Int) (m_Height : Int) (m_Cells : ByteArray) (m_Turns : Bool) (b_X : Int) (b_Y : Int) (b_Way : Int) (t4_mazeWidth : Int) (t4_mazeHeight : Int) (t4_mazeCells : ByteArray) (t4_mazeTurns : Bool) (t4_end : Int) (t4_hits : Int) (t4_cells : Int) (out_mazeWidth : Int) (out_mazeHeight : Int) (out_mazeCells : ByteArray) (out_mazeTurns : Bool) (out_end : Int) (out_hits : Int) (out_cells : Int) (most : Int) : impl_Maze_pass_l (k + 1) ((m_Width, m_Height, m_Cells, m_Turns), (b_X, b_Y, b_Way), (t4_mazeWidth, t4_mazeHeight, t4_mazeCells, t4_mazeTurns, t4_end, t4_hits, t4_cells), (out_mazeWidth, out_mazeHeight, out_mazeCells, out_mazeTurns, out_end, out_hits, out_cells), most) =
  cond (decide (out_cells < most))
  ((impl_Maze_hit k ((out_mazeWidth, out_mazeHeight, out_mazeCells, out_mazeTurns), (b_X, b_Y, b_Way))).bind fun r1 =>
   (impl_bit k r1.2.2.1).bind fun r2 =>
   cond r1.2.2.2
   (impl_Maze_pass_l k ((m_Width, m_Height, m_Cells, m_Turns), r1.2.1, (t4_mazeWidth, t4_mazeHeight, t4_mazeCells, t4_mazeTurns, t4_end, t4_hits, t4_cells), (r1.1.1, r1.1.2.1, r1.1.2.2.1, r1.1.2.2.2, out_end, (w64 (out_hits + r2)), (w64 (out_cells + 1))), most))
   ((impl_ahead k r1.2.1.2.2).bind fun r3 =>
    (impl_Maze_pass_l_l k ((m_Width, m_Height, m_Cells, m_Turns), (t4_mazeWidth, t4_mazeHeight, t4_mazeCells, t4_mazeTurns, t4_end, t4_hits, t4_cells), (r1.1.1, r1.1.2.1, r1.1.2.2.1, r1.1.2.2.2, out_end, (w64 (out_hits + r2)), (w64 (out_cells + 1))), ((w64 (r1.2.1.1 - r3.1)), (w64 (r1.2.1.2.1 - r3.2)), ((w64 (r1.2.1.2.2 + 2)).tmod 4)))).bind fun r4 =>
    some (.inl (r4.2, true))))
  (some (.inr (t4_mazeWidth, t4_mazeHeight, t4_mazeCells, t4_mazeTurns, t4_end, t4_hits, t4_cells))) := by kernel_rfl
theorem impl_Maze_hit.eq (k : Nat) (m_Width : Int) (m_Height : Int) (m_Cells : ByteArray) (m_Turns : Bool) (b_X : Int) (b_Y : Int) (b_Way : Int) : impl_Maze_hit (k + 1) ((m_Width, m_Height, m_Cells, m_Turns), (b_X, b_Y, b_Way)) =
  cond (inB (w64 ((w64 (b_Y * m_Width)) + b_X)) m_Cells.size)
  (cond ((bt m_Cells ((w64 ((w64 (b_Y * m_Width)) + b_X)).toNat)) == 90)
   (cond (inB b_Way 4)
    (cond m_Turns
     (cond ((bt m_Cells ((w64 ((w64 (b_Y * m_Width)) + b_X)).toNat)) != 46)
      (cond (inB (w64 ((w64 (b_Y * m_Width)) + b_X)) ((bytesOf m_Cells).length))
       ((impl_ahead k (([1, 0, 3, 2] : List Int).getD b_Way.toNat default)).bind fun r1 =>
        (impl_within k ((w64 (b_X + r1.1)), 0, (w64 (m_Width - 1)))).bind fun r2 =>
        cond r2
        ((impl_within k ((w64 (b_Y + r1.2)), 0, (w64 (m_Height - 1)))).bind fun r3 =>
         some ((m_Width, m_Height, (ofBytes ((bytesOf m_Cells).set ((w64 ((w64 (b_Y * m_Width)) + b_X)).toNat) (w8 (173 - (bt m_Cells ((w64 ((w64 (b_Y * m_Width)) + b_X)).toNat)))))), m_Turns), ((w64 (b_X + r1.1)), (w64 (b_Y + r1.2)), (([1, 0, 3, 2] : List Int).getD b_Way.toNat default)), ((bt m_Cells ((w64 ((w64 (b_Y * m_Width)) + b_X)).toNat)) != 46), r3))
        (some ((m_Width, m_Height, (ofBytes ((bytesOf m_Cells).set ((w64 ((w64 (b_Y * m_Width)) + b_X)).toNat) (w8 (173 - (bt m_Cells ((w64 ((w64 (b_Y * m_Width)) + b_X)).toNat)))))), m_Turns), ((w64 (b_X + r1.1)), (w64 (b_Y + r1.2)), (([1, 0, 3, 2] : List Int).getD b_Way.toNat default)), ((bt m_Cells ((w64 ((w64 (b_Y * m_Width)) + b_X)).toNat)) != 46), false)))
       (none))
      ((impl_ahead k (([1, 0, 3, 2] : List Int).getD b_Way.toNat default)).bind fun r4 =>
       (impl_within k ((w64 (b_X + r4.1)), 0, (w64 (m_Width - 1)))).bind fun r5 =>
       cond r5
       ((impl_within k ((w64 (b_Y + r4.2)), 0, (w64 (m_Height - 1)))).bind fun r6 =>
        some ((m_Width, m_Height, m_Cells, m_Turns), ((w64 (b_X + r4.1)), (w64 (b_Y + r4.2)), (([1, 0, 3, 2] : List Int).getD b_Way.toNat default)), ((bt m_Cells ((w64 ((w64 (b_Y * m_Width)) + b_X)).toNat)) != 46), r6))
       (some ((m_Width, m_Height, m_Cells, m_Turns), ((w64 (b_X + r4.1)), (w64 (b_Y + r4.2)), (([1, 0, 3, 2] : List Int).getD b_Way.toNat default)), ((bt m_Cells ((w64 ((w64 (b_Y * m_Width)) + b_X)).toNat)) != 46), false))))
     ((impl_ahead k (([1, 0, 3, 2] : List Int).getD b_Way.toNat default)).bind fun r7 =>
      (impl_within k ((w64 (b_X + r7.1)), 0, (w64 (m_Width - 1)))).bind fun r8 =>
      cond r8
      ((impl_within k ((w64 (b_Y + r7.2)), 0, (w64 (m_Height - 1)))).bind fun r9 =>
       some ((m_Width, m_Height, m_Cells, m_Turns), ((w64 (b_X + r7.1)), (w64 (b_Y + r7.2)), (([1, 0, 3, 2] : List Int).getD b_Way.toNat default)), ((bt m_Cells ((w64 ((w64 (b_Y * m_Width)) + b_X)).toNat)) != 46), r9))
      (some ((m_Width, m_Height, m_Cells, m_Turns), ((w64 (b_X + r7.1)), (w64 (b_Y + r7.2)), (([1, 0, 3, 2] : List Int).getD b_Way.toNat default)), ((bt m_Cells ((w64 ((w64 (b_Y * m_Width)) + b_X)).toNat)) != 46), false))))
    (none))
   (cond ((bt m_Cells ((w64 ((w64 (b_Y * m_Width)) + b_X)).toNat)) == 83)
    (cond (inB b_Way 4)
     (cond m_Turns
      (cond ((bt m_Cells ((w64 ((w64 (b_Y * m_Width)) + b_X)).toNat)) != 46)
       (cond (inB (w64 ((w64 (b_Y * m_Width)) + b_X)) ((bytesOf m_Cells).length))
        ((impl_ahead k (([3, 2, 1, 0] : List Int).getD b_Way.toNat default)).bind fun r10 =>
         (impl_within k ((w64 (b_X + r10.1)), 0, (w64 (m_Width - 1)))).bind fun r11 =>
         cond r11
         ((impl_within k ((w64 (b_Y + r10.2)), 0, (w64 (m_Height - 1)))).bind fun r12 =>
          some ((m_Width, m_Height, (ofBytes ((bytesOf m_Cells).set ((w64 ((w64 (b_Y * m_Width)) + b_X)).toNat) (w8 (173 - (bt m_Cells ((w64 ((w64 (b_Y * m_Width)) + b_X)).toNat)))))), m_Turns), ((w64 (b_X + r10.1)), (w64 (b_Y + r10.2)), (([3, 2, 1, 0] : List Int).getD b_Way.toNat default)), ((bt m_Cells ((w64 ((w64 (b_Y * m_Width)) + b_X)).toNat)) != 46), r12))
         (some ((m_Width, m_Height, (ofBytes ((bytesOf m_Cells).set ((w64 ((w64 (b_Y * m_Width)) + b_X)).toNat) (w8 (173 - (bt m_Cells ((w64 ((w64 (b_Y * m_Width)) + b_X)).toNat)))))), m_Turns), ((w64 (b_X + r10.1)), (w64 (b_Y + r10.2)), (([3, 2, 1, 0] : List Int).getD b_Way.toNat default)), ((bt m_Cells ((w64 ((w64 (b_Y * m_Width)) + b_X)).toNat)) != 46), false)))
        (none))
       ((impl_ahead k (([3, 2, 1, 0] : List Int).getD b_Way.toNat default)).bind fun r13 =>
        (impl_within k ((w64 (b_X + r13.1)), 0, (w64 (m_Width - 1)))).bind fun r14 =>
        cond r14
        ((impl_within k ((w64 (b_Y + r13.2)), 0, (w64 (m_Height - 1)))).bind fun r15 =>
         some ((m_Width, m_Height, m_Cells, m_Turns), ((w64 (b_X + r13.1)), (w64 (b_Y + r13.2)), (([3, 2, 1, 0] : List Int).getD b_Way.toNat default)), ((bt m_Cells ((w64 ((w64 (b_Y * m_Width)) + b_X)).toNat)) != 46), r15))
        (some ((m_Width, m_Height, m_Cells, m_Turns), ((w64 (b_X + r13.1)), (w64 (b_Y + r13.2)), (([3, 2, 1, 0] : List Int).getD b_Way.toNat default)), ((bt m_Cells ((w64 ((w64 (b_Y * m_Width)) + b_X)).toNat)) != 46), false))))
      ((impl_ahead k (([3, 2, 1, 0] : List Int).getD b_Way.toNat default)).bind fun r16 =>
       (impl_within k ((w64 (b_X + r16.1)), 0, (w64 (m_Width - 1)))).bind fun r17 =>
       cond r17
       ((impl_within k ((w64 (b_Y + r16.2)), 0, (w64 (m_Height - 1)))).bind fun r18 =>
        some ((m_Width, m_Height, m_Cells, m_Turns), ((w64 (b_X + r16.1)), (w64 (b_Y + r16.2)), (([3, 2, 1, 0] : List Int).getD b_Way.toNat default)), ((bt m_Cells ((w64 ((w64 (b_Y * m_Width)) + b_X)).toNat)) != 46), r18))
       (some ((m_Width, m_Height, m_Cells, m_Turns), ((w64 (b_X + r16.1)), (w64 (b_Y + r16.2)), (([3, 2, 1, 0] : List Int).getD b_Way.toNat default)), ((bt m_Cells ((w64 ((w64 (b_Y * m_Width)) + b_X)).toNat)) != 46), false))))
     (none))
    (cond m_Turns
     (cond ((bt m_Cells ((w64 ((w64 (b_Y * m_Width)) + b_X)).toNat)) != 46)
      (cond (inB (w64 ((w64 (b_Y * m_Width)) + b_X)) ((bytesOf m_Cells).length))
       ((impl_ahead k b_Way).bind fun r19 =>
        (impl_within k ((w64 (b_X + r19.1)), 0, (w64 (m_Width - 1)))).bind fun r20 =>
        cond r20
        ((impl_within k ((w64 (b_Y + r19.2)), 0, (w64 (m_Height - 1)))).bind fun r21 =>
         some ((m_Width, m_Height, (ofBytes ((bytesOf m_Cells).set ((w64 ((w64 (b_Y * m_Width)) + b_X)).toNat) (w8 (173 - (bt m_Cells ((w64 ((w64 (b_Y * m_Width)) + b_X)).toNat)))))), m_Turns), ((w64 (b_X + r19.1)), (w64 (b_Y + r19.2)), b_Way), ((bt m_Cells ((w64 ((w64 (b_Y * m_Width)) + b_X)).toNat)) != 46), r21))
        (some ((m_Width, m_Height, (ofBytes ((bytesOf m_Cells).set ((w64 ((w64 (b_Y * m_Width)) + b_X)).toNat) (w8 (173 - (bt m_Cells ((w64 ((w64 (b_Y * m_Width)) + b_X)).toNat)))))), m_Turns), ((w64 (b_X + r19.1)), (w64 (b_Y + r19.2)), b_Way), ((bt m_Cells ((w64 ((w64 (b_Y * m_Width)) + b_X)).toNat)) != 46), false)))
       (none))
      ((impl_ahead k b_Way).bind fun r22 =>
       (impl_within k ((w64 (b_X + r22.1)), 0, (w64 (m_Width - 1)))).bind fun r23 =>
       cond r23
       ((impl_within k ((w64 (b_Y + r22.2)), 0, (w64 (m_Height - 1)))).bind fun r24 =>
        some ((m_Width, m_Height, m_Cells, m_Turns), ((w64 (b_X + r22.1)), (w64 (b_Y + r22.2)), b_Way), ((bt m_Cells ((w64 ((w64 (b_Y * m_Width)) + b_X)).toNat)) != 46), r24))
       (some ((m_Width, m_Height, m_Cells, m_Turns), ((w64 (b_X + r22.1)), (w64 (b_Y + r22.2)), b_Way), ((bt m_Cells ((w64 ((w64 (b_Y * m_Width)) + b_X)).toNat)) != 46), false))))
     ((impl_ahead k b_Way).bind fun r25 =>
      (impl_within k ((w64 (b_X + r25.1)), 0, (w64 (m_Width - 1)))).bind fun r26 =>
      cond r26
      ((impl_within k ((w64 (b_Y + r25.2)), 0, (w64 (m_Height - 1)))).bind fun r27 =>
       some ((m_Width, m_Height, m_Cells, m_Turns), ((w64 (b_X + r25.1)), (w64 (b_Y + r25.2)), b_Way), ((bt m_Cells ((w64 ((w64 (b_Y * m_Width)) + b_X)).toNat)) != 46), r27))
      (some ((m_Width, m_Height, m_Cells, m_Turns), ((w64 (b_X + r25.1)), (w64 (b_Y + r25.2)), b_Way), ((bt m_Cells ((w64 ((w64 (b_Y * m_Width)) + b_X)).toNat)) != 46), false))))))
  (none) := by kernel_rfl
theorem impl_ahead.eq (k : Nat) (way : Int) : impl_ahead (k + 1) way =
  cond (inB way 4)
  (cond (inB way 4)
   (some ((([0, 1, 0, (-1)] : List Int).getD way.toNat default), (([(-1), 0, 1, 0] : List Int).getD way.toNat default)))
   (none))
  (none) := by kernel_rfl
theorem impl_bit.eq (k : Nat) (b : Bool) : impl_bit (k + 1) b =
  cond b
  (some 1)
  (some 0) := by kernel_rfl
theorem impl_Maze_pass_l_l.eq (k : Nat) (m_Width : Int) (m_Height : Int) (m_Cells : ByteArray) (m_Turns : Bool) (t4_mazeWidth : Int) (t4_mazeHeight : Int) (t4_mazeCells : ByteArray) (t4_mazeTurns : Bool) (t4_end : Int) (t4_hits : Int) (t4_cells : Int) (out_mazeWidth : Int) (out_mazeHeight : Int) (out_mazeCells : ByteArray) (out_mazeTurns : Bool) (out_end : Int) (out_hits : Int) (out_cells : Int) (back_X : Int) (back_Y : Int) (back_Way : Int) : impl_Maze_pass_l_l (k + 1) ((m_Width, m_Height, m_Cells, m_Turns), (t4_mazeWidth, t4_mazeHeight, t4_mazeCells, t4_mazeTurns, t4_end, t4_hits, t4_cells), (out_mazeWidth, out_mazeHeight, out_mazeCells, out_mazeTurns, out_end, out_hits, out_cells), (back_X, back_Y, back_Way)) =
  (impl_Maze_entry k ((m_Width, m_Height, m_Cells, m_Turns), out_end)).bind fun r1 =>
  cond (!((r1.1 == back_X) && ((r1.2.1 == back_Y) && ((r1.2.2 == back_Way) && true))))
  (impl_Maze_pass_l_l k ((m_Width, m_Height, m_Cells, m_Turns), (t4_mazeWidth, t4_mazeHeight, t4_mazeCells, t4_mazeTurns, t4_end, t4_hits, t4_cells), (out_mazeWidth, out_mazeHeight, out_mazeCells, out_mazeTurns, (w64 (out_end + 1)), out_hits, out_cells), (back_X, back_Y, back_Way)))
  (some ((t4_mazeWidth, t4_mazeHeight, t4_mazeCells, t4_mazeTurns, t4_end, t4_hits, t4_cells), (out_mazeWidth, out_mazeHeight, out_mazeCells, out_mazeTurns, out_end, out_hits, out_cells))) := by kernel_rfl
theorem impl_Maze_entry.eq (k : Nat) (m_Width : Int) (m_Height : Int) (m_Cells : ByteArray) (m_Turns : Bool) (k_ : Int) : impl_Maze_entry (k + 1) ((m_Width, m_Height, m_Cells, m_Turns), k_) =
  cond (decide (k_ < m_Width))
  (some (k_, 0, 2))
  (cond (decide (k_ < (w64 (m_Width + m_Height))))
   (some ((w64 (m_Width - 1)), (w64 (k_ - m_Width)), 3))
   (cond (decide (k_ < (w64 ((w64 (2 * m_Width)) + m_Height))))
    (some ((w64 ((w64 ((w64 ((w64 (2 * m_Width)) + m_Height)) - 1)) - k_)), (w64 (m_Height - 1)), 0))
    ((impl_Maze_ends k (m_Width, m_Height, m_Cells, m_Turns)).bind fun r1 =>
     some (0, (w64 ((w64 (r1 - 1)) - k_)), 1)))) := by kernel_rfl
theorem impl_Maze_ends.eq (k : Nat) (m_Width : Int) (m_Height : Int) (m_Cells : ByteArray) (m_Turns : Bool) : impl_Maze_ends (k + 1) (m_Width, m_Height, m_Cells, m_Turns) =
  some (w64 (2 * (w64 (m_Width + m_Height)))) := by kernel_rfl
theorem spec_ExitOf.eq (k : Nat) (m_Width : Int) (m_Height : Int) (m_Cells : ByteArray) (m_Turns : Bool) (b_X : Int) (b_Y : Int) (b_Way : Int) : spec_ExitOf (k + 1) ((m_Width, m_Height, m_Cells, m_Turns), (b_X, b_Y, b_Way)) =
  (spec_miBall k ((m_Width, m_Height, m_Cells, m_Turns), (b_X, b_Y, b_Way))).bind fun r1 =>
  cond (!r1)
  (some (0, false))
  ((spec_miRun k ((m_Width, m_Height, m_Cells, m_Turns), (b_X, b_Y, b_Way))).bind fun r2 =>
   some (r2.2.1, r2.2.2.2.2)) := by kernel_rfl
theorem spec_miBall.eq (k : Nat) (m_Width : Int) (m_Height : Int) (m_Cells : ByteArray) (m_Turns : Bool) (b_X : Int) (b_Y : Int) (b_Way : Int) : spec_miBall (k + 1) ((m_Width, m_Height, m_Cells, m_Turns), (b_X, b_Y, b_Way)) =
  (spec_miGood k (m_Width, m_Height, m_Cells, m_Turns)).bind fun r1 =>
  cond r1
  ((spec_l1In k (b_X, 0, (w64 (m_Width - 1)))).bind fun r2 =>
   cond r2
   ((spec_l1In k (b_Y, 0, (w64 (m_Height - 1)))).bind fun r3 =>
    cond r3
    ((spec_l1In k (b_Way, 0, 3)).bind fun r4 =>
     some r4)
    (some false))
   (some false))
  (some false) := by kernel_rfl
theorem spec_miRun.eq (k : Nat) (m_Width : Int) (m_Height : Int) (m_Cells : ByteArray) (m_Turns : Bool) (b_X : Int) (b_Y : Int) (b_Way : Int) : spec_miRun (k + 1) ((m_Width, m_Height, m_Cells, m_Turns), (b_X, b_Y, b_Way)) =
  (spec_miRun_l k ((m_Width, m_Height, m_Cells, m_Turns), (b_X, b_Y, b_Way), (0, 0, ByteArray.empty, false), (m_Width, m_Height, m_Cells, m_Turns), (b_X, b_Y, b_Way), 0, 0)).bind fun r1 =>
  some r1 := by kernel_rfl
theorem spec_miRun_l.eq (k : Nat) (m_Width : Int) (m_Height : Int) (m_Cells : ByteArray) (m_Turns : Bool) (b_X : Int) (b_Y : Int) (b_Way : Int) (t4_Width : Int) (t4_Height : Int) (t4_Cells : ByteArray) (t4_Turns : Bool) (now_Width : Int) (now_Height : Int) (now_Cells : ByteArray) (now_Turns : Bool) (at_X : Int) (at_Y : Int) (at_Way : Int) (hits : Int) (cells : Int) : spec_miRun_l (k + 1) ((m_Width, m_Height, m_Cells, m_Turns), (b_X, b_Y, b_Way), (t4_Width, t4_Height, t4_Cells, t4_Turns), (now_Width, now_Height, now_Cells, now_Turns), (at_X, at_Y, at_Way), hits, cells) =
  (spec_miAt k ((now_Width, now_Height, now_Cells, now_Turns), (at_X, at_Y, at_Way))).bind fun r1 =>
  cond (r1 != 46)
  ((spec_miHit k ((now_Width, now_Height, now_Cells, now_Turns), (at_X, at_Y, at_Way))).bind fun r2 =>
   (spec_miBall k r2).bind fun r3 =>
   cond (!r3)
   ((spec_miOut k ((m_Width, m_Height, m_Cells, m_Turns), r2.2)).bind fun r4 =>
    some (r2.1, r4, (w64 (hits + 1)), (w64 (cells + 1)), true))
   (cond ((r2.2.1 == b_X) && ((r2.2.2.1 == b_Y) && ((r2.2.2.2 == b_Way) && true)))
    (cond (strEq r2.1.2.2.1 m_Cells)
     (some ((0, 0, ByteArray.empty, false), 0, 0, 0, false))
     (spec_miRun_l k ((m_Width, m_Height, m_Cells, m_Turns), (b_X, b_Y, b_Way), (t4_Width, t4_Height, t4_Cells, t4_Turns), r2.1, r2.2, (w64 (hits + 1)), (w64 (cells + 1)))))
    (spec_miRun_l k ((m_Width, m_Height, m_Cells, m_Turns), (b_X, b_Y, b_Way), (t4_Width, t4_Height, t4_Cells, t4_Turns), r2.1, r2.2, (w64 (hits + 1)), (w64 (cells + 1))))))
  ((spec_miHit k ((now_Width, now_Height, now_Cells, now_Turns), (at_X, at_Y, at_Way))).bind fun r5 =>
   (spec_miBall k r5).bind fun r6 =>
   cond (!r6)
   ((spec_miOut k ((m_Width, m_Height, m_Cells, m_Turns), r5.2)).bind fun r7 =>
    some (r5.1, r7, hits, (w64 (cells + 1)), true))
   (cond ((r5.2.1 == b_X) && ((r5.2.2.1 == b_Y) && ((r5.2.2.2 == b_Way) && true)))
    (cond (strEq r5.1.2.2.1 m_Cells)
     (some ((0, 0, ByteArray.empty, false), 0, 0, 0, false))
     (spec_miRun_l k ((m_Width, m_Height, m_Cells, m_Turns), (b_X, b_Y, b_Way), (t4_Width, t4_Height, t4_Cells, t4_Turns), r5.1, r5.2, hits, (w64 (cells + 1)))))
    (spec_miRun_l k ((m_Width, m_Height, m_Cells, m_Turns), (b_X, b_Y, b_Way), (t4_Width, t4_Height, t4_Cells, t4_Turns), r5.1, r5.2, hits, (w64 (cells + 1)))))) := by kernel_rfl
theorem spec_miAt.eq (k : Nat) (m_Width : Int) (m_Height : Int) (m_Cells : ByteArray) (m_Turns : Bool) (b_X : Int) (b_Y : Int) (b_Way : Int) : spec_miAt (k + 1) ((m_Width, m_Height, m_Cells, m_Turns), (b_X, b_Y, b_Way)) =
  cond (inB (w64 ((w64 (b_Y * m_Width)) + b_X)) m_Cells.size)
  (some (bt m_Cells ((w64 ((w64 (b_Y * m_Width)) + b_X)).toNat)))
  (none) := by kernel_rfl
theorem spec_miHit.eq (k : Nat) (m_Width : Int) (m_Height : Int) (m_Cells : ByteArray) (m_Turns : Bool) (b_X : Int) (b_Y : Int) (b_Way : Int) : spec_miHit (k + 1) ((m_Width, m_Height, m_Cells, m_Turns), (b_X, b_Y, b_Way)) =
  cond (inB (w64 ((w64 (b_Y * m_Width)) + b_X)) m_Cells.size)
  (cond ((bt m_Cells ((w64 ((w64 (b_Y * m_Width)) + b_X)).toNat)) == 90)
   (cond m_Turns
    (cond ((bt m_Cells ((w64 ((w64 (b_Y * m_Width)) + b_X)).toNat)) != 46)
     (cond ((decide ((0 : Int) ≤ (w64 ((w64 (b_Y * m_Width)) + b_X)))) && (decide ((w64 ((w64 (b_Y * m_Width)) + b_X)) ≤ (m_Cells.size : Int))))
      (cond (fitS (m_Cells.extract 0 ((w64 ((w64 (b_Y * m_Width)) + b_X)).toNat)) (bs [83]))
       (cond ((decide ((0 : Int) ≤ (w64 ((w64 ((w64 (b_Y * m_Width)) + b_X)) + 1)))) && (decide ((w64 ((w64 ((w64 (b_Y * m_Width)) + b_X)) + 1)) ≤ (m_Cells.size : Int))))
        (cond (fitS ((m_Cells.extract 0 ((w64 ((w64 (b_Y * m_Width)) + b_X)).toNat)) ++ (bs [83])) (m_Cells.extract ((w64 ((w64 ((w64 (b_Y * m_Width)) + b_X)) + 1)).toNat) m_Cells.size))
         (cond ((xorI .i64 b_Way 1) == 0)
          (some ((m_Width, m_Height, (((m_Cells.extract 0 ((w64 ((w64 (b_Y * m_Width)) + b_X)).toNat)) ++ (bs [83])) ++ (m_Cells.extract ((w64 ((w64 ((w64 (b_Y * m_Width)) + b_X)) + 1)).toNat) m_Cells.size)), m_Turns), (b_X, (w64 (b_Y - 1)), (xorI .i64 b_Way 1))))
          (cond ((xorI .i64 b_Way 1) == 1)
           (some ((m_Width, m_Height, (((m_Cells.extract 0 ((w64 ((w64 (b_Y * m_Width)) + b_X)).toNat)) ++ (bs [83])) ++ (m_Cells.extract ((w64 ((w64 ((w64 (b_Y * m_Width)) + b_X)) + 1)).toNat) m_Cells.size)), m_Turns), ((w64 (b_X + 1)), b_Y, (xorI .i64 b_Way 1))))
           (cond ((xorI .i64 b_Way 1) == 2)
            (some ((m_Width, m_Height, (((m_Cells.extract 0 ((w64 ((w64 (b_Y * m_Width)) + b_X)).toNat)) ++ (bs [83])) ++ (m_Cells.extract ((w64 ((w64 ((w64 (b_Y * m_Width)) + b_X)) + 1)).toNat) m_Cells.size)), m_Turns), (b_X, (w64 (b_Y + 1)), (xorI .i64 b_Way 1))))
            (some ((m_Width, m_Height, (((m_Cells.extract 0 ((w64 ((w64 (b_Y * m_Width)) + b_X)).toNat)) ++ (bs [83])) ++ (m_Cells.extract ((w64 ((w64 ((w64 (b_Y * m_Width)) + b_X)) + 1)).toNat) m_Cells.size)), m_Turns), ((w64 (b_X - 1)), b_Y, (xorI .i64 b_Way 1)))))))
         (none))
        (none))
       (none))
      (none))
     (cond ((xorI .i64 b_Way 1) == 0)
      (some ((m_Width, m_Height, m_Cells, m_Turns), (b_X, (w64 (b_Y - 1)), (xorI .i64 b_Way 1))))
      (cond ((xorI .i64 b_Way 1) == 1)
       (some ((m_Width, m_Height, m_Cells, m_Turns), ((w64 (b_X + 1)), b_Y, (xorI .i64 b_Way 1))))
       (cond ((xorI .i64 b_Way 1) == 2)
        (some ((m_Width, m_Height, m_Cells, m_Turns), (b_X, (w64 (b_Y + 1)), (xorI .i64 b_Way 1))))
        (some ((m_Width, m_Height, m_Cells, m_Turns), ((w64 (b_X - 1)), b_Y, (xorI .i64 b_Way 1))))))))
    (cond ((xorI .i64 b_Way 1) == 0)
     (some ((m_Width, m_Height, m_Cells, m_Turns), (b_X, (w64 (b_Y - 1)), (xorI .i64 b_Way 1))))
     (cond ((xorI .i64 b_Way 1) == 1)
      (some ((m_Width, m_Height, m_Cells, m_Turns), ((w64 (b_X + 1)), b_Y, (xorI .i64 b_Way 1))))
      (cond ((xorI .i64 b_Way 1) == 2)
       (some ((m_Width, m_Height, m_Cells, m_Turns), (b_X, (w64 (b_Y + 1)), (xorI .i64 b_Way 1))))
       (some ((m_Width, m_Height, m_Cells, m_Turns), ((w64 (b_X - 1)), b_Y, (xorI .i64 b_Way 1))))))))
   (cond ((bt m_Cells ((w64 ((w64 (b_Y * m_Width)) + b_X)).toNat)) == 83)
    (cond m_Turns
     (cond ((bt m_Cells ((w64 ((w64 (b_Y * m_Width)) + b_X)).toNat)) != 46)
      (cond ((decide ((0 : Int) ≤ (w64 ((w64 (b_Y * m_Width)) + b_X)))) && (decide ((w64 ((w64 (b_Y * m_Width)) + b_X)) ≤ (m_Cells.size : Int))))
       (cond (fitS (m_Cells.extract 0 ((w64 ((w64 (b_Y * m_Width)) + b_X)).toNat)) (bs [90]))
        (cond ((decide ((0 : Int) ≤ (w64 ((w64 ((w64 (b_Y * m_Width)) + b_X)) + 1)))) && (decide ((w64 ((w64 ((w64 (b_Y * m_Width)) + b_X)) + 1)) ≤ (m_Cells.size : Int))))
         (cond (fitS ((m_Cells.extract 0 ((w64 ((w64 (b_Y * m_Width)) + b_X)).toNat)) ++ (bs [90])) (m_Cells.extract ((w64 ((w64 ((w64 (b_Y * m_Width)) + b_X)) + 1)).toNat) m_Cells.size))
          (cond ((w64 (3 - b_Way)) == 0)
           (some ((m_Width, m_Height, (((m_Cells.extract 0 ((w64 ((w64 (b_Y * m_Width)) + b_X)).toNat)) ++ (bs [90])) ++ (m_Cells.extract ((w64 ((w64 ((w64 (b_Y * m_Width)) + b_X)) + 1)).toNat) m_Cells.size)), m_Turns), (b_X, (w64 (b_Y - 1)), (w64 (3 - b_Way)))))
           (cond ((w64 (3 - b_Way)) == 1)
            (some ((m_Width, m_Height, (((m_Cells.extract 0 ((w64 ((w64 (b_Y * m_Width)) + b_X)).toNat)) ++ (bs [90])) ++ (m_Cells.extract ((w64 ((w64 ((w64 (b_Y * m_Width)) + b_X)) + 1)).toNat) m_Cells.size)), m_Turns), ((w64 (b_X + 1)), b_Y, (w64 (3 - b_Way)))))
            (cond ((w64 (3 - b_Way)) == 2)
             (some ((m_Width, m_Height, (((m_Cells.extract 0 ((w64 ((w64 (b_Y * m_Width)) + b_X)).toNat)) ++ (bs [90])) ++ (m_Cells.extract ((w64 ((w64 ((w64 (b_Y * m_Width)) + b_X)) + 1)).toNat) m_Cells.size)), m_Turns), (b_X, (w64 (b_Y + 1)), (w64 (3 - b_Way)))))
             (some ((m_Width, m_Height, (((m_Cells.extract 0 ((w64 ((w64 (b_Y * m_Width)) + b_X)).toNat)) ++ (bs [90])) ++ (m_Cells.extract ((w64 ((w64 ((w64 (b_Y * m_Width)) + b_X)) + 1)).toNat) m_Cells.size)), m_Turns), ((w64 (b_X - 1)), b_Y, (w64 (3 - b_Way))))))))
          (none))
         (none))
        (none))
       (none))
      (cond ((w64 (3 - b_Way)) == 0)
       (some ((m_Width, m_Height, m_Cells, m_Turns), (b_X, (w64 (b_Y - 1)), (w64 (3 - b_Way)))))
       (cond ((w64 (3 - b_Way)) == 1)
        (some ((m_Width, m_Height, m_Cells, m_Turns), ((w64 (b_X + 1)), b_Y, (w64 (3 - b_Way)))))
        (cond ((w64 (3 - b_Way)) == 2)
         (some ((m_Width, m_Height, m_Cells, m_Turns), (b_X, (w64 (b_Y + 1)), (w64 (3 - b_Way)))))
         (some ((m_Width, m_Height, m_Cells, m_Turns), ((w64 (b_X - 1)), b_Y, (w64 (3 - b_Way)))))))))
     (cond ((w64 (3 - b_Way)) == 0)
      (some ((m_Width, m_Height, m_Cells, m_Turns), (b_X, (w64 (b_Y - 1)), (w64 (3 - b_Way)))))
      (cond ((w64 (3 - b_Way)) == 1)
       (some ((m_Width, m_Height, m_Cells, m_Turns), ((w64 (b_X + 1)), b_Y, (w64 (3 - b_Way)))))
       (cond ((w64 (3 - b_Way)) == 2)
        (some ((m_Width, m_Height, m_Cells, m_Turns), (b_X, (w64 (b_Y + 1)), (w64 (3 - b_Way)))))
        (some ((m_Width, m_Height, m_Cells, m_Turns), ((w64 (b_X - 1)), b_Y, (w64 (3 - b_Way)))))))))
    (cond m_Turns
     (cond ((bt m_Cells ((w64 ((w64 (b_Y * m_Width)) + b_X)).toNat)) != 46)
      (cond ((decide ((0 : Int) ≤ (w64 ((w64 (b_Y * m_Width)) + b_X)))) && (decide ((w64 ((w64 (b_Y * m_Width)) + b_X)) ≤ (m_Cells.size : Int))))
       (cond (fitS (m_Cells.extract 0 ((w64 ((w64 (b_Y * m_Width)) + b_X)).toNat)) (bs [46]))
        (cond ((decide ((0 : Int) ≤ (w64 ((w64 ((w64 (b_Y * m_Width)) + b_X)) + 1)))) && (decide ((w64 ((w64 ((w64 (b_Y * m_Width)) + b_X)) + 1)) ≤ (m_Cells.size : Int))))
         (cond (fitS ((m_Cells.extract 0 ((w64 ((w64 (b_Y * m_Width)) + b_X)).toNat)) ++ (bs [46])) (m_Cells.extract ((w64 ((w64 ((w64 (b_Y * m_Width)) + b_X)) + 1)).toNat) m_Cells.size))
          (cond (b_Way == 0)
           (some ((m_Width, m_Height, (((m_Cells.extract 0 ((w64 ((w64 (b_Y * m_Width)) + b_X)).toNat)) ++ (bs [46])) ++ (m_Cells.extract ((w64 ((w64 ((w64 (b_Y * m_Width)) + b_X)) + 1)).toNat) m_Cells.size)), m_Turns), (b_X, (w64 (b_Y - 1)), b_Way)))
           (cond (b_Way == 1)
            (some ((m_Width, m_Height, (((m_Cells.extract 0 ((w64 ((w64 (b_Y * m_Width)) + b_X)).toNat)) ++ (bs [46])) ++ (m_Cells.extract ((w64 ((w64 ((w64 (b_Y * m_Width)) + b_X)) + 1)).toNat) m_Cells.size)), m_Turns), ((w64 (b_X + 1)), b_Y, b_Way)))
            (cond (b_Way == 2)
             (some ((m_Width, m_Height, (((m_Cells.extract 0 ((w64 ((w64 (b_Y * m_Width)) + b_X)).toNat)) ++ (bs [46])) ++ (m_Cells.extract ((w64 ((w64 ((w64 (b_Y * m_Width)) + b_X)) + 1)).toNat) m_Cells.size)), m_Turns), (b_X, (w64 (b_Y + 1)), b_Way)))
             (some ((m_Width, m_Height, (((m_Cells.extract 0 ((w64 ((w64 (b_Y * m_Width)) + b_X)).toNat)) ++ (bs [46])) ++ (m_Cells.extract ((w64 ((w64 ((w64 (b_Y * m_Width)) + b_X)) + 1)).toNat) m_Cells.size)), m_Turns), ((w64 (b_X - 1)), b_Y, b_Way))))))
          (none))
         (none))
        (none))
       (none))
      (cond (b_Way == 0)
       (some ((m_Width, m_Height, m_Cells, m_Turns), (b_X, (w64 (b_Y - 1)), b_Way)))
       (cond (b_Way == 1)
        (some ((m_Width, m_Height, m_Cells, m_Turns), ((w64 (b_X + 1)), b_Y, b_Way)))
        (cond (b_Way == 2)
         (some ((m_Width, m_Height, m_Cells, m_Turns), (b_X, (w64 (b_Y + 1)), b_Way)))
         (some ((m_Width, m_Height, m_Cells, m_Turns), ((w64 (b_X - 1)), b_Y, b_Way)))))))
     (cond (b_Way == 0)
      (some ((m_Width, m_Height, m_Cells, m_Turns), (b_X, (w64 (b_Y - 1)), b_Way)))
      (cond (b_Way == 1)
       (some ((m_Width, m_Height, m_Cells, m_Turns), ((w64 (b_X + 1)), b_Y, b_Way)))
       (cond (b_Way == 2)
        (some ((m_Width, m_Height, m_Cells, m_Turns), (b_X, (w64 (b_Y + 1)), b_Way)))
        (some ((m_Width, m_Height, m_Cells, m_Turns), ((w64 (b_X - 1)), b_Y, b_Way)))))))))
  (none) := by kernel_rfl
theorem spec_miOut.eq (k : Nat) (m_Width : Int) (m_Height : Int) (m_Cells : ByteArray) (m_Turns : Bool) (b_X : Int) (b_Y : Int) (b_Way : Int) : spec_miOut (k + 1) ((m_Width, m_Height, m_Cells, m_Turns), (b_X, b_Y, b_Way)) =
  cond (decide (b_Y < 0))
  (some b_X)
  (cond (decide (b_X ≥ m_Width))
   (some (w64 (m_Width + b_Y)))
   (cond (decide (b_Y ≥ m_Height))
    (some (w64 ((w64 ((w64 ((w64 (2 * m_Width)) + m_Height)) - 1)) - b_X)))
    ((spec_miEnds k (m_Width, m_Height, m_Cells, m_Turns)).bind fun r1 =>
     some (w64 ((w64 (r1 - 1)) - b_Y))))) := by kernel_rfl
theorem spec_miEnds.eq (k : Nat) (m_Width : Int) (m_Height : Int) (m_Cells : ByteArray) (m_Turns : Bool) : spec_miEnds (k + 1) (m_Width, m_Height, m_Cells, m_Turns) =
  some (w64 (2 * (w64 (m_Width + m_Height)))) := by kernel_rfl
theorem impl_MazeAfterBall.eq (k : Nat) (m_Width : Int) (m_Height : Int) (m_Cells : ByteArray) (m_Turns : Bool) (b_X : Int) (b_Y : Int) (b_Way : Int) : impl_MazeAfterBall (k + 1) ((m_Width, m_Height, m_Cells, m_Turns), (b_X, b_Y, b_Way)) =
  (impl_passOf k ((m_Width, m_Height, m_Cells, m_Turns), (b_X, b_Y, b_Way))).bind fun r1 =>
  some ((r1.1.1, r1.1.2.1, r1.1.2.2.1, r1.1.2.2.2.1), r1.2) := by kernel_rfl
theorem spec_MazeAfterBall.eq (k : Nat) (m_Width : Int) (m_Height : Int) (m_Cells : ByteArray) (m_Turns : Bool) (b_X : Int) (b_Y : Int) (b_Way : Int) : spec_MazeAfterBall (k + 1) ((m_Width, m_Height, m_Cells, m_Turns), (b_X, b_Y, b_Way)) =
  (spec_miBall k ((m_Width, m_Height, m_Cells, m_Turns), (b_X, b_Y, b_Way))).bind fun r1 =>
  cond (!r1)
  (some ((0, 0, ByteArray.empty, false), false))
  ((spec_miRun k ((m_Width, m_Height, m_Cells, m_Turns), (b_X, b_Y, b_Way))).bind fun r2 =>
   some (r2.1, r2.2.2.2.2)) := by kernel_rfl
theorem impl_HitsOfBall.eq (k : Nat) (m_Width : Int) (m_Height : Int) (m_Cells : ByteArray) (m_Turns : Bool) (b_X : Int) (b_Y : Int) (b_Way : Int) : impl_HitsOfBall (k + 1) ((m_Width, m_Height, m_Cells, m_Turns), (b_X, b_Y, b_Way)) =
  (impl_passOf k ((m_Width, m_Height, m_Cells, m_Turns), (b_X, b_Y, b_Way))).bind fun r1 =>
  some (r1.1.2.2.2.2.2.1, r1.2) := by kernel_rfl
theorem spec_HitsOfBall.eq (k : Nat) (m_Width : Int) (m_Height : Int) (m_Cells : ByteArray) (m_Turns : Bool) (b_X : Int) (b_Y : Int) (b_Way : Int) : spec_HitsOfBall (k + 1) ((m_Width, m_Height, m_Cells, m_Turns), (b_X, b_Y, b_Way)) =
  (spec_miBall k ((m_Width, m_Height, m_Cells, m_Turns), (b_X, b_Y, b_Way))).bind fun r1 =>
  cond (!r1)
  (some (0, false))
  ((spec_miRun k ((m_Width, m_Height, m_Cells, m_Turns), (b_X, b_Y, b_Way))).bind fun r2 =>
   some (r2.2.2.1, r2.2.2.2.2)) := by kernel_rfl
theorem impl_HitCell.eq (k : Nat) (m_Width : Int) (m_Height : Int) (m_Cells : ByteArray) (m_Turns : Bool) (b_X : Int) (b_Y : Int) (b_Way : Int) : impl_HitCell (k + 1) ((m_Width, m_Height, m_Cells, m_Turns), (b_X, b_Y, b_Way)) =
  (impl_IsBall k ((m_Width, m_Height, m_Cells, m_Turns), (b_X, b_Y, b_Way))).bind fun r1 =>
  cond (!r1)
  (some ((0, 0, ByteArray.empty, false), (0, 0, 0), false))
  ((impl_Maze_hit k ((m_Width, m_Height, m_Cells, m_Turns), (b_X, b_Y, b_Way))).bind fun r2 =>
   cond (!r2.2.2.2)
   (some ((0, 0, ByteArray.empty, false), (0, 0, 0), false))
   (some (r2.1, r2.2.1, true))) := by kernel_rfl
theorem spec_HitCell.eq (k : Nat) (m_Width : Int) (m_Height : Int) (m_Cells : ByteArray) (m_Turns : Bool) (b_X : Int) (b_Y : Int) (b_Way : Int) : spec_HitCell (k + 1) ((m_Width, m_Height, m_Cells, m_Turns), (b_X, b_Y, b_Way)) =
  (spec_miBall k ((m_Width, m_Height, m_Cells, m_Turns), (b_X, b_Y, b_Way))).bind fun r1 =>
  cond (!r1)
  (some ((0, 0, ByteArray.empty, false), (0, 0, 0), false))
  ((spec_miHit k ((m_Width, m_Height, m_Cells, m_Turns), (b_X, b_Y, b_Way))).bind fun r2 =>
   (spec_miBall k r2).bind fun r3 =>
   cond (!r3)
   (some ((0, 0, ByteArray.empty, false), (0, 0, 0), false))
   (some (r2.1, r2.2, true))) := by kernel_rfl
theorem spec_IsBall.eq (k : Nat) (m_Width : Int) (m_Height : Int) (m_Cells : ByteArray) (m_Turns : Bool) (b_X : Int) (b_Y : Int) (b_Way : Int) : spec_IsBall (k + 1) ((m_Width, m_Height, m_Cells, m_Turns), (b_X, b_Y, b_Way)) =
  (spec_miBall k ((m_Width, m_Height, m_Cells, m_Turns), (b_X, b_Y, b_Way))).bind fun r1 =>
  some r1 := by kernel_rfl
theorem laws_FnBallsComeOut_c.eq (k : Nat) (more : List Int) (m_Width : Int) (m_Height : Int) (m_Cells : ByteArray) (m_Turns : Bool) (b_X : Int) (b_Y : Int) (b_Way : Int) (out : Int) (ok : Bool) (after_Width : Int) (after_Height : Int) (after_Cells : ByteArray) (after_Turns : Bool) (hits : Int) (maze_Width : Int) (maze_Height : Int) (maze_Cells : ByteArray) (maze_Turns : Bool) (ball_X : Int) (ball_Y : Int) (ball_Way : Int) (five : Bool) : laws_FnBallsComeOut_c (k + 1) (more, (m_Width, m_Height, m_Cells, m_Turns), (b_X, b_Y, b_Way), out, ok, (after_Width, after_Height, after_Cells, after_Turns), hits, (maze_Width, maze_Height, maze_Cells, maze_Turns), (ball_X, ball_Y, ball_Way), five) =
  cond five
  ((impl_ExitOf k ((maze_Width, maze_Height, maze_Cells, maze_Turns), (ball_X, ball_Y, ball_Way))).bind fun r1 =>
   (impl_MazeAfterBall k ((maze_Width, maze_Height, maze_Cells, maze_Turns), (ball_X, ball_Y, ball_Way))).bind fun r2 =>
   (impl_HitsOfBall k ((maze_Width, maze_Height, maze_Cells, maze_Turns), (ball_X, ball_Y, ball_Way))).bind fun r3 =>
   cond (inB (w64 ((w64 (b_Y * m_Width)) + b_X)) m_Cells.size)
   (cond ((bt m_Cells ((w64 ((w64 (b_Y * m_Width)) + b_X)).toNat)) != 46)
    (cond (!(r1.2 == ok))
     (some false)
     (cond ok
      (cond (r1.1 != out)
       (some false)
       (cond (!r2.2)
        (some false)
        (cond (!((r2.1.1 == after_Width) && ((r2.1.2.1 == after_Height) && ((r2.1.2.2.1 == after_Cells) && ((r2.1.2.2.2 == after_Turns) && true)))))
         (some false)
         (cond (!r3.2)
          (some false)
          (cond (r3.1 != (w64 (hits - 1)))
           (some false)
           ((laws_FnBallsComeOut_c_c k (more, (m_Width, m_Height, m_Cells, m_Turns), out, ok, (after_Width, after_Height, after_Cells, after_Turns))).bind fun r4 =>
            some r4))))))
      ((laws_FnBallsComeOut_c_c k (more, (m_Width, m_Height, m_Cells, m_Turns), out, ok, (after_Width, after_Height, after_Cells, after_Turns))).bind fun r5 =>
       some r5)))
    (cond (!(r1.2 == ok))
     (some false)
     (cond ok
      (cond (r1.1 != out)
       (some false)
       (cond (!r2.2)
        (some false)
        (cond (!((r2.1.1 == after_Width) && ((r2.1.2.1 == after_Height) && ((r2.1.2.2.1 == after_Cells) && ((r2.1.2.2.2 == after_Turns) && true)))))
         (some false)
         (cond (!r3.2)
          (some false)
          (cond (r3.1 != (w64 (hits - 0)))
           (some false)
           ((laws_FnBallsComeOut_c_c k (more, (m_Width, m_Height, m_Cells, m_Turns), out, ok, (after_Width, after_Height, after_Cells, after_Turns))).bind fun r6 =>
            some r6))))))
      ((laws_FnBallsComeOut_c_c k (more, (m_Width, m_Height, m_Cells, m_Turns), out, ok, (after_Width, after_Height, after_Cells, after_Turns))).bind fun r7 =>
       some r7))))
   (none))
  ((laws_FnBallsComeOut_c_c k (more, (m_Width, m_Height, m_Cells, m_Turns), out, ok, (after_Width, after_Height, after_Cells, after_Turns))).bind fun r8 =>
   some r8) := by kernel_rfl
theorem laws_FnBallsComeOut_c_c.eq (k : Nat) (more : List Int) (m_Width : Int) (m_Height : Int) (m_Cells : ByteArray) (m_Turns : Bool) (out : Int) (ok : Bool) (after_Width : Int) (after_Height : Int) (after_Cells : ByteArray) (after_Turns : Bool) : laws_FnBallsComeOut_c_c (k + 1) (more, (m_Width, m_Height, m_Cells, m_Turns), out, ok, (after_Width, after_Height, after_Cells, after_Turns)) =
  cond ok
  (cond (!m_Turns)
   (cond (!((after_Width == m_Width) && ((after_Height == m_Height) && ((after_Cells == m_Cells) && ((after_Turns == m_Turns) && true)))))
    (some false)
    ((impl_EntryOf k ((m_Width, m_Height, m_Cells, m_Turns), out)).bind fun r1 =>
     (impl_ExitOf k ((m_Width, m_Height, m_Cells, m_Turns), r1.1)).bind fun r2 =>
     (impl_ExitTable k (m_Width, m_Height, m_Cells, m_Turns)).bind fun r3 =>
     cond (!r1.2)
     (some false)
     (cond (!r2.2)
      (some false)
      (cond (!r3.2)
       (some false)
       (cond (inB out r3.1.length)
        (cond ((r3.1.getD out.toNat default) != r2.1)
         (some false)
         (cond (inB r2.1 r3.1.length)
          (cond ((r3.1.getD r2.1.toNat default) != out)
           (some false)
           ((laws_FnBallsComeOut_c_c_c k more).bind fun r4 =>
            some r4))
          (none)))
        (none))))))
   ((laws_FnBallsComeOut_c_c_c k more).bind fun r5 =>
    some r5))
  ((laws_FnBallsComeOut_c_c_c k more).bind fun r6 =>
   some r6) := by kernel_rfl
theorem impl_EntryOf.eq (k : Nat) (m_Width : Int) (m_Height : Int) (m_Cells : ByteArray) (m_Turns : Bool) (k_ : Int) : impl_EntryOf (k + 1) ((m_Width, m_Height, m_Cells, m_Turns), k_) =
  (impl_isEnd k ((m_Width, m_Height, m_Cells, m_Turns), k_)).bind fun r1 =>
  cond (!r1)
  (some ((0, 0, 0), false))
  ((impl_Maze_entry k ((m_Width, m_Height, m_Cells, m_Turns), k_)).bind fun r2 =>
   some (r2, true)) := by kernel_rfl
theorem impl_isEnd.eq (k : Nat) (m_Width : Int) (m_Height : Int) (m_Cells : ByteArray) (m_Turns : Bool) (k_ : Int) : impl_isEnd (k + 1) ((m_Width, m_Height, m_Cells, m_Turns), k_) =
  (impl_IsMaze k (m_Width, m_Height, m_Cells, m_Turns)).bind fun r1 =>
  cond r1
  ((impl_Maze_ends k (m_Width, m_Height, m_Cells, m_Turns)).bind fun r2 =>
   (impl_within k (k_, 0, (w64 (r2 - 1)))).bind fun r3 =>
   some r3)
  (some false) := by kernel_rfl
theorem impl_ExitTable.eq (k : Nat) (m_Width : Int) (m_Height : Int) (m_Cells : ByteArray) (m_Turns : Bool) : impl_ExitTable (k + 1) (m_Width, m_Height, m_Cells, m_Turns) =
  (impl_IsMaze k (m_Width, m_Height, m_Cells, m_Turns)).bind fun r1 =>
  cond (!r1)
  (some ([], false))
  ((impl_Maze_ends k (m_Width, m_Height, m_Cells, m_Turns)).bind fun r2 =>
   (impl_ExitTable_l k ((m_Width, m_Height, m_Cells, m_Turns), [], r2, 0)).bind fun r3 =>
   some (r3, true)) := by kernel_rfl
theorem impl_ExitTable_l.eq (k : Nat) (m_Width : Int) (m_Height : Int) (m_Cells : ByteArray) (m_Turns : Bool) (out : List Int) (t13 : Int) (t14 : Int) : impl_ExitTable_l (k + 1) ((m_Width, m_Height, m_Cells, m_Turns), out, t13, t14) =
  cond (decide (t14 < t13))
  ((impl_Maze_entry k ((m_Width, m_Height, m_Cells, m_Turns), t14)).bind fun r1 =>
   (impl_Maze_pass k ((m_Width, m_Height, m_Cells, m_Turns), r1)).bind fun r2 =>
   cond (fits (out.length + 1) 8)
   (impl_ExitTable_l k ((m_Width, m_Height, m_Cells, m_Turns), (out ++ [r2.1.2.2.2.2.1]), t13, (w64 (t14 + 1))))
   (none))
  (some out) := by kernel_rfl
theorem laws_FnBallsComeOut_c_c_c.eq (k : Nat) (more : List Int) : laws_FnBallsComeOut_c_c_c (k + 1) more =
  (spec_DrawExitTable k more).bind fun r1 =>
  (impl_ExitTable k r1).bind fun r2 =>
  (spec_ExitTable k r1).bind fun r3 =>
  (spec_DrawEntryOf k more).bind fun r4 =>
  (impl_EntryOf k r4).bind fun r5 =>
  (spec_EntryOf k r4).bind fun r6 =>
  cond (!(r2.2 == r3.2))
  (some false)
  ((laws_dSame k (r2.1, r3.1)).bind fun r7 =>
   cond (!r7)
   (some false)
   (cond (!(r5.2 == r6.2))
    (some false)
    (cond (!((r5.1.1 == r6.1.1) && ((r5.1.2.1 == r6.1.2.1) && ((r5.1.2.2 == r6.1.2.2) && true))))
     (some false)
     ((impl_IsMaze k r1).bind fun r8 =>
      cond (!(r2.2 == r8))
      (some false)
      ((impl_IsMaze k r1).bind fun r9 =>
       (spec_IsMaze k r1).bind fun r10 =>
       cond (!(r9 == r10))
       (some false)
       (cond r2.2
        (cond ((r2.1.length : Int) != (w64 (2 * (w64 (r1.1 + r1.2.1)))))
         (some false)
         ((laws_FnBallsComeOut_c_c_c_l k (r1, r2.1, (r2.1.length : Int), (), (r2.1.length : Int), 0)).bind fun r11 =>
          r11.elim
          (fun r12 => some r12)
          (fun r13 => some true)))
        (some true))))))) := by kernel_rfl
theorem spec_DrawExitTable.eq (k : Nat) (code : List Int) : spec_DrawExitTable (k + 1) code =
  (spec_DrawIsMaze k code).bind fun r1 =>
  some r1 := by kernel_rfl
theorem spec_DrawIsMaze.eq (k : Nat) (code : List Int) : spec_DrawIsMaze (k + 1) code =
  (spec_l1Cur_maze k (code, 0, 0)).bind fun r1 =>
  some r1.1 := by kernel_rfl
theorem spec_ExitTable.eq (k : Nat) (m_Width : Int) (m_Height : Int) (m_Cells : ByteArray) (m_Turns : Bool) : spec_ExitTable (k + 1) (m_Width, m_Height, m_Cells, m_Turns) =
  (spec_miGood k (m_Width, m_Height, m_Cells, m_Turns)).bind fun r1 =>
  cond (!r1)
  (some ([], false))
  ((spec_ExitTable_l k ((m_Width, m_Height, m_Cells, m_Turns), [], 0)).bind fun r2 =>
   some (r2, true)) := by kernel_rfl
theorem spec_ExitTable_l.eq (k : Nat) (m_Width : Int) (m_Height : Int) (m_Cells : ByteArray) (m_Turns : Bool) (out : List Int) (k_ : Int) : spec_ExitTable_l (k + 1) ((m_Width, m_Height, m_Cells, m_Turns), out, k_) =
  (spec_miEnds k (m_Width, m_Height, m_Cells, m_Turns)).bind fun r1 =>
  cond (decide (k_ < r1))
  ((spec_miEntry k ((m_Width, m_Height, m_Cells, m_Turns), k_)).bind fun r2 =>
   (spec_miRun k ((m_Width, m_Height, m_Cells, m_Turns), r2)).bind fun r3 =>
   cond (fits (out.length + 1) 8)
   (spec_ExitTable_l k ((m_Width, m_Height, m_Cells, m_Turns), (out ++ [r3.2.1]), (w64 (k_ + 1))))
   (none))
  (some out) := by kernel_rfl
theorem spec_miEntry.eq (k : Nat) (m_Width : Int) (m_Height : Int) (m_Cells : ByteArray) (m_Turns : Bool) (k_ : Int) : spec_miEntry (k + 1) ((m_Width, m_Height, m_Cells, m_Turns), k_) =
  cond (decide (k_ < m_Width))
  (some (k_, 0, 2))
  (cond (decide (k_ < (w64 (m_Width + m_Height))))
   (some ((w64 (m_Width - 1)), (w64 (k_ - m_Width)), 3))
   (cond (decide (k_ < (w64 ((w64 (2 * m_Width)) + m_Height))))
    (some ((w64 ((w64 ((w64 ((w64 (2 * m_Width)) + m_Height)) - 1)) - k_)), (w64 (m_Height - 1)), 0))
    ((spec_miEnds k (m_Width, m_Height, m_Cells, m_Turns)).bind fun r1 =>
     some (0, (w64 ((w64 (r1 - 1)) - k_)), 1)))) := by kernel_rfl
theorem spec_DrawEntryOf.eq (k : Nat) (code : List Int) : spec_DrawEntryOf (k + 1) code =
  (spec_l1Cur_end k (code, 0, 0)).bind fun r1 =>
  some r1.1 := by kernel_rfl
theorem spec_l1Cur_end.eq (k : Nat) (c_code : List Int) (c_at : Int) (c_seed : Int) : spec_l1Cur_end (k + 1) (c_code, c_at, c_seed) =
  (spec_l1Cur_maze k (c_code, c_at, c_seed)).bind fun r1 =>
  (spec_miGood k r1.1).bind fun r2 =>
  cond (!r2)
  ((spec_l1Cur_among k (r1.2, [(-1), 0, 36, 4611686018427387904])).bind fun r3 =>
   some ((r1.1, r3.1), r3.2))
  ((spec_l1Cur_one k (r1.2, 14)).bind fun r4 =>
   cond r4.1
   ((spec_l1Cur_among k (r4.2, [(-1), 0, 36, 4611686018427387904])).bind fun r5 =>
    some ((r1.1, r5.1), r5.2))
   ((spec_miEnds k r1.1).bind fun r6 =>
    (spec_l1Cur_pick k (r4.2, r6)).bind fun r7 =>
    some ((r1.1, r7.1), r7.2))) := by kernel_rfl
theorem spec_EntryOf.eq (k : Nat) (m_Width : Int) (m_Height : Int) (m_Cells : ByteArray) (m_Turns : Bool) (k_ : Int) : spec_EntryOf (k + 1) ((m_Width, m_Height, m_Cells, m_Turns), k_) =
  (spec_miEnd k ((m_Width, m_Height, m_Cells, m_Turns), k_)).bind fun r1 =>
  cond (!r1)
  (some ((0, 0, 0), false))
  ((spec_miEntry k ((m_Width, m_Height, m_Cells, m_Turns), k_)).bind fun r2 =>
   some (r2, true)) := by kernel_rfl
theorem spec_miEnd.eq (k : Nat) (m_Width : Int) (m_Height : Int) (m_Cells : ByteArray) (m_Turns : Bool) (k_ : Int) : spec_miEnd (k + 1) ((m_Width, m_Height, m_Cells, m_Turns), k_) =
  (spec_miGood k (m_Width, m_Height, m_Cells, m_Turns)).bind fun r1 =>
  cond r1
  ((spec_miEnds k (m_Width, m_Height, m_Cells, m_Turns)).bind fun r2 =>
   (spec_l1In k (k_, 0, (w64 (r2 - 1)))).bind fun r3 =>
   some r3)
  (some false) := by kernel_rfl
theorem laws_dSame.eq (k : Nat) (a : List Int) (b : List Int) : laws_dSame (k + 1) (a, b) =
  cond ((a.length : Int) != (b.length : Int))
  (some false)
  ((laws_dSame_l k (a, b, (a.length : Int), 0)).bind fun r1 =>
   r1.elim
   (fun r2 => some r2)
   (fun r3 => some true)) := by kernel_rfl
theorem laws_dSame_l.eq (k : Nat) (a : List Int) (b : List Int) (t12 : Int) (t13 : Int) : laws_dSame_l (k + 1) (a, b, t12, t13) =
  cond (decide (t13 < t12))
  (cond (inB t13 a.length)
   (cond (inB t13 b.length)
    (cond ((a.getD t13.toNat default) != (b.getD t13.toNat default))
     (some (.inl false))
     (laws_dSame_l k (a, b, t12, (w64 (t13 + 1)))))
    (none))
   (none))
  (some (.inr ())) := by kernel_rfl
theorem spec_IsMaze.eq (k : Nat) (m_Width : Int) (m_Height : Int) (m_Cells : ByteArray) (m_Turns : Bool) : spec_IsMaze (k + 1) (m_Width, m_Height, m_Cells, m_Turns) =
  (spec_miGood k (m_Width, m_Height, m_Cells, m_Turns)).bind fun r1 =>
  some r1 := by kernel_rfl
end Go.Proofs.YtcmebphcoamohaaDoorS
