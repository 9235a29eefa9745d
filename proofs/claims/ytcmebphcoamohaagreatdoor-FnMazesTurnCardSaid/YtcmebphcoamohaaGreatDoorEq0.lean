/- What each function computes (printed by wip/sim/gen.py). -/
import Derived.Test.YtcmebphcoamohaaGreatDoorTab
namespace Go.Proofs.YtcmebphcoamohaaGreatDoorS
open Go Go.Proofs
set_option maxRecDepth 100000
set_option linter.unusedVariables false
theorem laws_FnMazesTurn.eq (k : Nat) (code : List Int) (more : List Int) : laws_FnMazesTurn (k + 1) (code, more) =
  (laws_big k (code, more)).bind fun r1 =>
  cond r1
  (some true)
  ((spec_DrawTurnMaze k code).bind fun r2 =>
   (impl_TurnMaze k r2).bind fun r3 =>
   (spec_TurnMaze k r2).bind fun r4 =>
   (impl_MirrorMaze k r2).bind fun r5 =>
   (spec_MirrorMaze k r2).bind fun r6 =>
   (impl_CountMirrors k r2).bind fun r7 =>
   (spec_CountMirrors k r2).bind fun r8 =>
   (impl_MazeText k r2).bind fun r9 =>
   (spec_MazeText k r2).bind fun r10 =>
   cond (!(r3.2 == r4.2))
   (some false)
   (cond (!((r3.1.1 == r4.1.1) && ((r3.1.2.1 == r4.1.2.1) && ((r3.1.2.2.1 == r4.1.2.2.1) && ((r3.1.2.2.2 == r4.1.2.2.2) && true)))))
    (some false)
    (cond (!(r5.2 == r6.2))
     (some false)
     (cond (!((r5.1.1 == r6.1.1) && ((r5.1.2.1 == r6.1.2.1) && ((r5.1.2.2.1 == r6.1.2.2.1) && ((r5.1.2.2.2 == r6.1.2.2.2) && true)))))
      (some false)
      (cond (!(r7.2.2 == r8.2.2))
       (some false)
       (cond (r7.1 != r8.1)
        (some false)
        (cond (r7.2.1 != r8.2.1)
         (some false)
         (cond (!(r9.2 == r10.2))
          (some false)
          (cond (!(strEq r9.1 r10.1))
           (some false)
           ((impl_IsMaze k r2).bind fun r11 =>
            cond (!(r3.2 == r11))
            (some false)
            (cond (!(r5.2 == r3.2))
             (some false)
             (cond (!(r7.2.2 == r3.2))
              (some false)
              (cond (!(r9.2 == r3.2))
               (some false)
               ((laws_FnMazesTurn_c k (more, r2, r3.1, r3.2, r5.1, r7.1, r7.2.1, r9.1)).bind fun r12 =>
                some r12)))))))))))))) := by kernel_rfl
theorem laws_big.eq (k : Nat) (code : List Int) (more : List Int) : laws_big (k + 1) (code, more) =
  cond (decide ((code.length : Int) > 1048576))
  (some true)
  (some (decide ((more.length : Int) > (w64 (1048576 - (code.length : Int)))))) := by kernel_rfl
theorem spec_DrawTurnMaze.eq (k : Nat) (code : List Int) : spec_DrawTurnMaze (k + 1) code =
  (spec_DrawIsMaze k code).bind fun r1 =>
  some r1 := by kernel_rfl
theorem spec_DrawIsMaze.eq (k : Nat) (code : List Int) : spec_DrawIsMaze (k + 1) code =
  (spec_l1Cur_maze k (code, 0, 0)).bind fun r1 =>
  some r1.1 := by kernel_rfl
theorem spec_l1Cur_maze.eq (k : Nat) (c_code : List Int) (c_at : Int) (c_seed : Int) : spec_l1Cur_maze (k + 1) (c_code, c_at, c_seed) =
  (spec_l1Cur_sureMaze k ((c_code, c_at, c_seed), 5)).bind fun r1 =>
  (spec_l1Cur_pick k (r1.2, 16)).bind fun r2 =>
  cond (r2.1 == 0)
  ((spec_l1Cur_among k (r2.2, [(-1), 0, 1, 9, 10, 4611686018427387904])).bind fun r3 =>
   some ((r3.1, r1.1.2.1, r1.1.2.2.1, r1.1.2.2.2), r3.2))
  (cond (r2.1 == 1)
   ((spec_l1Cur_of k (r2.2, [(bs [46]), (bs [120]), (bs [90])])).bind fun r4 =>
    cond (fitS r1.1.2.2.1 r4.1)
    (some ((r1.1.1, r1.1.2.1, (r1.1.2.2.1 ++ r4.1), r1.1.2.2.2), r4.2))
    (none))
   (cond (r2.1 == 2)
    ((spec_l1Cur_spoilt k (r2.2, r1.1.2.2.1, (bs [90, 83, 46, 120]))).bind fun r5 =>
     some ((r1.1.1, r1.1.2.1, r5.1, r1.1.2.2.2), r5.2))
    (some (r1.1, r2.2)))) := by kernel_rfl
theorem spec_l1Cur_sureMaze.eq (k : Nat) (c_code : List Int) (c_at : Int) (c_seed : Int) (most : Int) : spec_l1Cur_sureMaze (k + 1) ((c_code, c_at, c_seed), most) =
  (spec_l1Cur_pick k ((c_code, c_at, c_seed), most)).bind fun r1 =>
  (spec_l1Cur_pick k (r1.2, most)).bind fun r2 =>
  (spec_l1Cur_one k (r2.2, 2)).bind fun r3 =>
  (spec_l1Cur_sureMaze_l k (r3.2, (0, 0, ByteArray.empty, false), ((w64 (1 + r1.1)), (w64 (1 + r2.1)), ByteArray.empty, r3.1), ())).bind fun r4 =>
  some r4.2 := by kernel_rfl
theorem spec_l1Cur_pick.eq (k : Nat) (c_code : List Int) (c_at : Int) (c_seed : Int) (n : Int) : spec_l1Cur_pick (k + 1) ((c_code, c_at, c_seed), n) =
  cond (decide (n ≤ 1))
  (some (0, (c_code, c_at, c_seed)))
  ((spec_l1Cur_next k (c_code, c_at, c_seed)).bind fun r1 =>
   cond (decide (n > 200))
   ((spec_l1Cur_next k r1.2).bind fun r2 =>
    cond (n != 0)
    (some (((w64 ((w64 (r1.1 * 256)) + r2.1)).tmod n), r2.2))
    (none))
   (cond (n != 0)
    (some ((r1.1.tmod n), r1.2))
    (none))) := by kernel_rfl
theorem spec_l1Cur_next.eq (k : Nat) (c_code : List Int) (c_at : Int) (c_seed : Int) : spec_l1Cur_next (k + 1) (c_code, c_at, c_seed) =
  cond (decide (c_at < (c_code.length : Int)))
  (cond (inB c_at c_code.length)
   (cond (decide ((w64 (c_at + 1)) ≤ (c_code.length : Int)))
    (some ((w64 (c_code.getD c_at.toNat default)), (c_code, (w64 (c_at + 1)), (IntKind.u64.wrap ((IntKind.u64.wrap ((IntKind.u64.wrap (c_seed * 6364136223846793005)) + (IntKind.u64.wrap (w64 (c_code.getD c_at.toNat default))))) + 1442695040888963407)))))
    (some ((w64 (andI .u64 (shrI .u64 (IntKind.u64.wrap ((IntKind.u64.wrap ((IntKind.u64.wrap (c_seed * 6364136223846793005)) + (IntKind.u64.wrap (w64 (c_code.getD c_at.toNat default))))) + 1442695040888963407)) 40) 255)), (c_code, (w64 (c_at + 1)), (IntKind.u64.wrap ((IntKind.u64.wrap ((IntKind.u64.wrap (c_seed * 6364136223846793005)) + (IntKind.u64.wrap (w64 (c_code.getD c_at.toNat default))))) + 1442695040888963407))))))
   (none))
  (cond (decide ((w64 (c_at + 1)) ≤ (c_code.length : Int)))
   (some (0, (c_code, (w64 (c_at + 1)), (IntKind.u64.wrap ((IntKind.u64.wrap ((IntKind.u64.wrap (c_seed * 6364136223846793005)) + 0)) + 1442695040888963407)))))
   (some ((w64 (andI .u64 (shrI .u64 (IntKind.u64.wrap ((IntKind.u64.wrap ((IntKind.u64.wrap (c_seed * 6364136223846793005)) + 0)) + 1442695040888963407)) 40) 255)), (c_code, (w64 (c_at + 1)), (IntKind.u64.wrap ((IntKind.u64.wrap ((IntKind.u64.wrap (c_seed * 6364136223846793005)) + 0)) + 1442695040888963407)))))) := by kernel_rfl
theorem spec_l1Cur_one.eq (k : Nat) (c_code : List Int) (c_at : Int) (c_seed : Int) (n : Int) : spec_l1Cur_one (k + 1) ((c_code, c_at, c_seed), n) =
  (spec_l1Cur_pick k ((c_code, c_at, c_seed), n)).bind fun r1 =>
  some ((r1.1 == 0), r1.2) := by kernel_rfl
theorem spec_l1Cur_sureMaze_l.eq (k : Nat) (c_code : List Int) (c_at : Int) (c_seed : Int) (t4_Width : Int) (t4_Height : Int) (t4_Cells : ByteArray) (t4_Turns : Bool) (m_Width : Int) (m_Height : Int) (m_Cells : ByteArray) (m_Turns : Bool) : spec_l1Cur_sureMaze_l (k + 1) ((c_code, c_at, c_seed), (t4_Width, t4_Height, t4_Cells, t4_Turns), (m_Width, m_Height, m_Cells, m_Turns), ()) =
  cond (decide ((m_Cells.size : Int) < (w64 (m_Width * m_Height))))
  ((spec_l1Cur_of k ((c_code, c_at, c_seed), [(bs [46]), (bs [90]), (bs [83])])).bind fun r1 =>
   cond (fitS m_Cells r1.1)
   (spec_l1Cur_sureMaze_l k (r1.2, (t4_Width, t4_Height, t4_Cells, t4_Turns), (m_Width, m_Height, (m_Cells ++ r1.1), m_Turns), ()))
   (none))
  (some ((t4_Width, t4_Height, t4_Cells, t4_Turns), (m_Width, m_Height, m_Cells, m_Turns), (c_code, c_at, c_seed))) := by kernel_rfl
theorem spec_l1Cur_of.eq (k : Nat) (c_code : List Int) (c_at : Int) (c_seed : Int) (list : List ByteArray) : spec_l1Cur_of (k + 1) ((c_code, c_at, c_seed), list) =
  (spec_l1Cur_pick k ((c_code, c_at, c_seed), (list.length : Int))).bind fun r1 =>
  cond (inB r1.1 list.length)
  (some ((list.getD r1.1.toNat default), r1.2))
  (none) := by kernel_rfl
theorem spec_l1Cur_among.eq (k : Nat) (c_code : List Int) (c_at : Int) (c_seed : Int) (list : List Int) : spec_l1Cur_among (k + 1) ((c_code, c_at, c_seed), list) =
  (spec_l1Cur_pick k ((c_code, c_at, c_seed), (list.length : Int))).bind fun r1 =>
  cond (inB r1.1 list.length)
  (some ((list.getD r1.1.toNat default), r1.2))
  (none) := by kernel_rfl
theorem spec_l1Cur_spoilt.eq (k : Nat) (c_code : List Int) (c_at : Int) (c_seed : Int) (t : ByteArray) (with_ : ByteArray) : spec_l1Cur_spoilt (k + 1) ((c_code, c_at, c_seed), t, with_) =
  (spec_l1Cur_pick k ((c_code, c_at, c_seed), 2)).bind fun r1 =>
  (spec_l1Cur_spoilt_l k (r1.2, t, with_, (w64 (1 + r1.1)), ())).bind fun r2 =>
  some r2 := by kernel_rfl
theorem spec_l1Cur_spoilt_l.eq (k : Nat) (c_code : List Int) (c_at : Int) (c_seed : Int) (t : ByteArray) (with_ : ByteArray) (n : Int) : spec_l1Cur_spoilt_l (k + 1) ((c_code, c_at, c_seed), t, with_, n, ()) =
  cond (decide (n > 0))
  (cond (decide ((t.size : Int) > 0))
   ((spec_l1Cur_pick k ((c_code, c_at, c_seed), (t.size : Int))).bind fun r1 =>
    (spec_l1Cur_pick k (r1.2, (with_.size : Int))).bind fun r2 =>
    cond (inB r2.1 with_.size)
    ((spec_l1Cur_pick k (r2.2, 3)).bind fun r3 =>
     cond (r3.1 == 0)
     (cond ((decide ((0 : Int) ≤ r1.1)) && (decide (r1.1 ≤ (t.size : Int))))
      (cond (fitS (t.extract 0 r1.1.toNat) (ofBytes [(bt with_ r2.1.toNat)]))
       (cond ((decide ((0 : Int) ≤ r1.1)) && (decide (r1.1 ≤ (t.size : Int))))
        (cond (fitS ((t.extract 0 r1.1.toNat) ++ (ofBytes [(bt with_ r2.1.toNat)])) (t.extract r1.1.toNat t.size))
         (spec_l1Cur_spoilt_l k (r3.2, (((t.extract 0 r1.1.toNat) ++ (ofBytes [(bt with_ r2.1.toNat)])) ++ (t.extract r1.1.toNat t.size)), with_, (w64 (n - 1)), ()))
         (none))
        (none))
       (none))
      (none))
     (cond (r3.1 == 1)
      (cond ((decide ((0 : Int) ≤ r1.1)) && (decide (r1.1 ≤ (t.size : Int))))
       (cond (fitS (t.extract 0 r1.1.toNat) (ofBytes [(bt with_ r2.1.toNat)]))
        (cond ((decide ((0 : Int) ≤ (w64 (r1.1 + 1)))) && (decide ((w64 (r1.1 + 1)) ≤ (t.size : Int))))
         (cond (fitS ((t.extract 0 r1.1.toNat) ++ (ofBytes [(bt with_ r2.1.toNat)])) (t.extract ((w64 (r1.1 + 1)).toNat) t.size))
          (spec_l1Cur_spoilt_l k (r3.2, (((t.extract 0 r1.1.toNat) ++ (ofBytes [(bt with_ r2.1.toNat)])) ++ (t.extract ((w64 (r1.1 + 1)).toNat) t.size)), with_, (w64 (n - 1)), ()))
          (none))
         (none))
        (none))
       (none))
      (cond ((decide ((0 : Int) ≤ r1.1)) && (decide (r1.1 ≤ (t.size : Int))))
       (cond ((decide ((0 : Int) ≤ (w64 (r1.1 + 1)))) && (decide ((w64 (r1.1 + 1)) ≤ (t.size : Int))))
        (cond (fitS (t.extract 0 r1.1.toNat) (t.extract ((w64 (r1.1 + 1)).toNat) t.size))
         (spec_l1Cur_spoilt_l k (r3.2, ((t.extract 0 r1.1.toNat) ++ (t.extract ((w64 (r1.1 + 1)).toNat) t.size)), with_, (w64 (n - 1)), ()))
         (none))
        (none))
       (none))))
    (none))
   (some (t, (c_code, c_at, c_seed))))
  (some (t, (c_code, c_at, c_seed))) := by kernel_rfl
theorem impl_TurnMaze.eq (k : Nat) (m_Width : Int) (m_Height : Int) (m_Cells : ByteArray) (m_Turns : Bool) : impl_TurnMaze (k + 1) (m_Width, m_Height, m_Cells, m_Turns) =
  (impl_IsMaze k (m_Width, m_Height, m_Cells, m_Turns)).bind fun r1 =>
  cond (!r1)
  (some ((0, 0, ByteArray.empty, false), false))
  ((impl_moved k (m_Cells, m_Width, m_Height, m_Width, m_Height)).bind fun r2 =>
   (impl_exchanged k r2).bind fun r3 =>
   some ((m_Height, m_Width, r3, m_Turns), true)) := by kernel_rfl
theorem impl_IsMaze.eq (k : Nat) (m_Width : Int) (m_Height : Int) (m_Cells : ByteArray) (m_Turns : Bool) : impl_IsMaze (k + 1) (m_Width, m_Height, m_Cells, m_Turns) =
  (impl_isSize k (m_Width, m_Height)).bind fun r1 =>
  cond r1
  (cond ((m_Cells.size : Int) == (w64 (m_Width * m_Height)))
   ((strings_Trim k (m_Cells, (bs [46, 90, 83]))).bind fun r2 =>
    some (strEq r2 ByteArray.empty))
   (some false))
  (some false) := by kernel_rfl
theorem impl_isSize.eq (k : Nat) (width : Int) (height : Int) : impl_isSize (k + 1) (width, height) =
  (impl_within k (width, 1, 9)).bind fun r1 =>
  cond r1
  ((impl_within k (height, 1, 9)).bind fun r2 =>
   some r2)
  (some false) := by kernel_rfl
theorem impl_within.eq (k : Nat) (n : Int) (low : Int) (high : Int) : impl_within (k + 1) (n, low, high) =
  cond (decide (low ≤ n))
  (some (decide (n ≤ high)))
  (some false) := by kernel_rfl
theorem strings_Trim.eq (k : Nat) (d : ByteArray × ByteArray) : strings_Trim (k + 1) d = (fun d => strTrim d.1 d.2) d := by kernel_rfl
theorem impl_moved.eq (k : Nat) (cells : ByteArray) (from_ : Int) (width : Int) (height : Int) (to_0 : Int) : impl_moved (k + 1) (cells, from_, width, height, to_0) =
  cond (((decide ((0 : Int) ≤ (w64 (width * height)))) && (decide ((w64 (width * height)) ≤ (w64 (width * height))))) && (fits (w64 (width * height)).toNat 1))
  ((impl_moved_l k (cells, from_, width, to_0, (List.replicate (w64 (width * height)).toNat 0), (cells.size : Int), 0)).bind fun r1 =>
   some (ofBytes r1))
  (none) := by kernel_rfl
theorem impl_moved_l.eq (k : Nat) (cells : ByteArray) (from_ : Int) (width : Int) (to_0 : Int) (out : List Int) (t20 : Int) (t21 : Int) : impl_moved_l (k + 1) (cells, from_, width, to_0, out, t20, t21) =
  cond (decide (t21 < t20))
  (cond (from_ != 0)
   (cond (from_ != 0)
    ((impl_TurnMaze_1 k ((t21.tmod from_), (w64 (t21.tdiv from_)), to_0)).bind fun r1 =>
     cond (inB t21 cells.size)
     (cond (inB (w64 ((w64 (r1.2 * width)) + r1.1)) out.length)
      (impl_moved_l k (cells, from_, width, to_0, (out.set ((w64 ((w64 (r1.2 * width)) + r1.1)).toNat) (bt cells t21.toNat)), t20, (w64 (t21 + 1))))
      (none))
     (none))
    (none))
   (none))
  (some out) := by kernel_rfl
theorem impl_TurnMaze_1.eq (k : Nat) (x : Int) (y : Int) (t2_0 : Int) : impl_TurnMaze_1 (k + 1) (x, y, t2_0) =
  some ((w64 ((w64 (t2_0 - 1)) - y)), x) := by kernel_rfl
theorem impl_exchanged.eq (k : Nat) (d : ByteArray) : impl_exchanged (k + 1) d = (fun d => otherB 90 83 d) d := by kernel_rfl
theorem spec_TurnMaze.eq (k : Nat) (m_Width : Int) (m_Height : Int) (m_Cells : ByteArray) (m_Turns : Bool) : spec_TurnMaze (k + 1) (m_Width, m_Height, m_Cells, m_Turns) =
  (spec_miGood k (m_Width, m_Height, m_Cells, m_Turns)).bind fun r1 =>
  cond (!r1)
  (some ((0, 0, ByteArray.empty, false), false))
  ((spec_TurnMaze_l k ((m_Width, m_Height, m_Cells, m_Turns), (0, 0, ByteArray.empty, false), (m_Height, m_Width, ByteArray.empty, m_Turns), 0)).bind fun r2 =>
   some (r2.2, true)) := by kernel_rfl
theorem spec_miGood.eq (k : Nat) (m_Width : Int) (m_Height : Int) (m_Cells : ByteArray) (m_Turns : Bool) : spec_miGood (k + 1) (m_Width, m_Height, m_Cells, m_Turns) =
  (spec_l1In k (m_Width, 1, 9)).bind fun r1 =>
  cond (!r1)
  (some false)
  ((spec_l1In k (m_Height, 1, 9)).bind fun r2 =>
   cond (!r2)
   (some false)
   (cond ((m_Cells.size : Int) != (w64 (m_Width * m_Height)))
    (some false)
    ((spec_miGood_l k ((m_Width, m_Height, m_Cells, m_Turns), 0)).bind fun r3 =>
     r3.elim
     (fun r4 => some r4)
     (fun r5 => some true)))) := by kernel_rfl
theorem spec_l1In.eq (k : Nat) (n : Int) (lo : Int) (hi : Int) : spec_l1In (k + 1) (n, lo, hi) =
  cond (decide (n ≥ lo))
  (some (decide (n ≤ hi)))
  (some false) := by kernel_rfl
theorem spec_miGood_l.eq (k : Nat) (m_Width : Int) (m_Height : Int) (m_Cells : ByteArray) (m_Turns : Bool) (i : Int) : spec_miGood_l (k + 1) ((m_Width, m_Height, m_Cells, m_Turns), i) =
  cond (decide (i < (m_Cells.size : Int)))
  (cond (inB i m_Cells.size)
   (cond ((bt m_Cells i.toNat) != 46)
    (cond (inB i m_Cells.size)
     (cond ((bt m_Cells i.toNat) != 90)
      (cond (inB i m_Cells.size)
       (cond ((bt m_Cells i.toNat) != 83)
        (some (.inl false))
        (spec_miGood_l k ((m_Width, m_Height, m_Cells, m_Turns), (w64 (i + 1)))))
       (none))
      (spec_miGood_l k ((m_Width, m_Height, m_Cells, m_Turns), (w64 (i + 1)))))
     (none))
    (spec_miGood_l k ((m_Width, m_Height, m_Cells, m_Turns), (w64 (i + 1)))))
   (none))
  (some (.inr ())) := by kernel_rfl
theorem spec_TurnMaze_l.eq (k : Nat) (m_Width : Int) (m_Height : Int) (m_Cells : ByteArray) (m_Turns : Bool) (t2_Width : Int) (t2_Height : Int) (t2_Cells : ByteArray) (t2_Turns : Bool) (out_Width : Int) (out_Height : Int) (out_Cells : ByteArray) (out_Turns : Bool) (y : Int) : spec_TurnMaze_l (k + 1) ((m_Width, m_Height, m_Cells, m_Turns), (t2_Width, t2_Height, t2_Cells, t2_Turns), (out_Width, out_Height, out_Cells, out_Turns), y) =
  cond (decide (y < out_Height))
  ((spec_TurnMaze_l_l k ((m_Width, m_Height, m_Cells, m_Turns), (t2_Width, t2_Height, t2_Cells, t2_Turns), (out_Width, out_Height, out_Cells, out_Turns), y, 0)).bind fun r1 =>
   spec_TurnMaze_l k (r1.1, r1.2.1, r1.2.2.1, (w64 (r1.2.2.2 + 1))))
  (some ((t2_Width, t2_Height, t2_Cells, t2_Turns), (out_Width, out_Height, out_Cells, out_Turns))) := by kernel_rfl
theorem spec_TurnMaze_l_l.eq (k : Nat) (m_Width : Int) (m_Height : Int) (m_Cells : ByteArray) (m_Turns : Bool) (t2_Width : Int) (t2_Height : Int) (t2_Cells : ByteArray) (t2_Turns : Bool) (out_Width : Int) (out_Height : Int) (out_Cells : ByteArray) (out_Turns : Bool) (y : Int) (x : Int) : spec_TurnMaze_l_l (k + 1) ((m_Width, m_Height, m_Cells, m_Turns), (t2_Width, t2_Height, t2_Cells, t2_Turns), (out_Width, out_Height, out_Cells, out_Turns), y, x) =
  cond (decide (x < out_Width))
  (cond (inB (w64 ((w64 ((w64 ((w64 (m_Height - 1)) - x)) * m_Width)) + y)) m_Cells.size)
   ((spec_miOther k (bt m_Cells ((w64 ((w64 ((w64 ((w64 (m_Height - 1)) - x)) * m_Width)) + y)).toNat))).bind fun r1 =>
    cond (fitS out_Cells r1)
    (spec_TurnMaze_l_l k ((m_Width, m_Height, m_Cells, m_Turns), (t2_Width, t2_Height, t2_Cells, t2_Turns), (out_Width, out_Height, (out_Cells ++ r1), out_Turns), y, (w64 (x + 1))))
    (none))
   (none))
  (some ((m_Width, m_Height, m_Cells, m_Turns), (t2_Width, t2_Height, t2_Cells, t2_Turns), (out_Width, out_Height, out_Cells, out_Turns), y)) := by kernel_rfl
theorem spec_miOther.eq (k : Nat) (sign : Int) : spec_miOther (k + 1) sign =
  cond (sign == 90)
  (some (bs [83]))
  (cond (sign == 83)
   (some (bs [90]))
   (some (bs [46]))) := by kernel_rfl
theorem impl_MirrorMaze.eq (k : Nat) (m_Width : Int) (m_Height : Int) (m_Cells : ByteArray) (m_Turns : Bool) : impl_MirrorMaze (k + 1) (m_Width, m_Height, m_Cells, m_Turns) =
  (impl_IsMaze k (m_Width, m_Height, m_Cells, m_Turns)).bind fun r1 =>
  cond (!r1)
  (some ((0, 0, ByteArray.empty, false), false))
  ((impl_moved_2 k (m_Cells, m_Width, m_Width, m_Height, (m_Width, m_Height, m_Cells, m_Turns))).bind fun r2 =>
   (impl_exchanged k r2).bind fun r3 =>
   some ((m_Width, m_Height, r3, m_Turns), true)) := by kernel_rfl
theorem impl_moved_2.eq (k : Nat) (cells : ByteArray) (from_ : Int) (width : Int) (height : Int) (to_0 : Int) (to_01 : Int) (to_02 : ByteArray) (to_03 : Bool) : impl_moved_2 (k + 1) (cells, from_, width, height, (to_0, to_01, to_02, to_03)) =
  cond (((decide ((0 : Int) ≤ (w64 (width * height)))) && (decide ((w64 (width * height)) ≤ (w64 (width * height))))) && (fits (w64 (width * height)).toNat 1))
  ((impl_moved_2_l k (cells, from_, width, (to_0, to_01, to_02, to_03), (List.replicate (w64 (width * height)).toNat 0), (cells.size : Int), 0)).bind fun r1 =>
   some (ofBytes r1))
  (none) := by kernel_rfl
theorem impl_moved_2_l.eq (k : Nat) (cells : ByteArray) (from_ : Int) (width : Int) (to_0 : Int) (to_01 : Int) (to_02 : ByteArray) (to_03 : Bool) (out : List Int) (t20 : Int) (t21 : Int) : impl_moved_2_l (k + 1) (cells, from_, width, (to_0, to_01, to_02, to_03), out, t20, t21) =
  cond (decide (t21 < t20))
  (cond (from_ != 0)
   (cond (from_ != 0)
    ((impl_MirrorMaze_1 k ((t21.tmod from_), (w64 (t21.tdiv from_)), (to_0, to_01, to_02, to_03))).bind fun r1 =>
     cond (inB t21 cells.size)
     (cond (inB (w64 ((w64 (r1.2 * width)) + r1.1)) out.length)
      (impl_moved_2_l k (cells, from_, width, (to_0, to_01, to_02, to_03), (out.set ((w64 ((w64 (r1.2 * width)) + r1.1)).toNat) (bt cells t21.toNat)), t20, (w64 (t21 + 1))))
      (none))
     (none))
    (none))
   (none))
  (some out) := by kernel_rfl
theorem impl_MirrorMaze_1.eq (k : Nat) (x : Int) (y : Int) (t2_0 : Int) (t2_1 : Int) (t2_2 : ByteArray) (t2_3 : Bool) : impl_MirrorMaze_1 (k + 1) (x, y, (t2_0, t2_1, t2_2, t2_3)) =
  some ((w64 ((w64 (t2_0 - 1)) - x)), y) := by kernel_rfl
theorem spec_MirrorMaze.eq (k : Nat) (m_Width : Int) (m_Height : Int) (m_Cells : ByteArray) (m_Turns : Bool) : spec_MirrorMaze (k + 1) (m_Width, m_Height, m_Cells, m_Turns) =
  (spec_miGood k (m_Width, m_Height, m_Cells, m_Turns)).bind fun r1 =>
  cond (!r1)
  (some ((0, 0, ByteArray.empty, false), false))
  ((spec_MirrorMaze_l k ((m_Width, m_Height, m_Cells, m_Turns), (0, 0, ByteArray.empty, false), (m_Width, m_Height, ByteArray.empty, m_Turns), 0)).bind fun r2 =>
   some (r2.2, true)) := by kernel_rfl
theorem spec_MirrorMaze_l.eq (k : Nat) (m_Width : Int) (m_Height : Int) (m_Cells : ByteArray) (m_Turns : Bool) (t2_Width : Int) (t2_Height : Int) (t2_Cells : ByteArray) (t2_Turns : Bool) (out_Width : Int) (out_Height : Int) (out_Cells : ByteArray) (out_Turns : Bool) (y : Int) : spec_MirrorMaze_l (k + 1) ((m_Width, m_Height, m_Cells, m_Turns), (t2_Width, t2_Height, t2_Cells, t2_Turns), (out_Width, out_Height, out_Cells, out_Turns), y) =
  cond (decide (y < m_Height))
  ((spec_MirrorMaze_l_l k ((m_Width, m_Height, m_Cells, m_Turns), (t2_Width, t2_Height, t2_Cells, t2_Turns), (out_Width, out_Height, out_Cells, out_Turns), y, (w64 (m_Width - 1)))).bind fun r1 =>
   spec_MirrorMaze_l k (r1.1, r1.2.1, r1.2.2.1, (w64 (r1.2.2.2 + 1))))
  (some ((t2_Width, t2_Height, t2_Cells, t2_Turns), (out_Width, out_Height, out_Cells, out_Turns))) := by kernel_rfl
theorem spec_MirrorMaze_l_l.eq (k : Nat) (m_Width : Int) (m_Height : Int) (m_Cells : ByteArray) (m_Turns : Bool) (t2_Width : Int) (t2_Height : Int) (t2_Cells : ByteArray) (t2_Turns : Bool) (out_Width : Int) (out_Height : Int) (out_Cells : ByteArray) (out_Turns : Bool) (y : Int) (x : Int) : spec_MirrorMaze_l_l (k + 1) ((m_Width, m_Height, m_Cells, m_Turns), (t2_Width, t2_Height, t2_Cells, t2_Turns), (out_Width, out_Height, out_Cells, out_Turns), y, x) =
  cond (decide (x ≥ 0))
  (cond (inB (w64 ((w64 (y * m_Width)) + x)) m_Cells.size)
   ((spec_miOther k (bt m_Cells ((w64 ((w64 (y * m_Width)) + x)).toNat))).bind fun r1 =>
    cond (fitS out_Cells r1)
    (spec_MirrorMaze_l_l k ((m_Width, m_Height, m_Cells, m_Turns), (t2_Width, t2_Height, t2_Cells, t2_Turns), (out_Width, out_Height, (out_Cells ++ r1), out_Turns), y, (w64 (x - 1))))
    (none))
   (none))
  (some ((m_Width, m_Height, m_Cells, m_Turns), (t2_Width, t2_Height, t2_Cells, t2_Turns), (out_Width, out_Height, out_Cells, out_Turns), y)) := by kernel_rfl
theorem impl_CountMirrors.eq (k : Nat) (m_Width : Int) (m_Height : Int) (m_Cells : ByteArray) (m_Turns : Bool) : impl_CountMirrors (k + 1) (m_Width, m_Height, m_Cells, m_Turns) =
  (impl_IsMaze k (m_Width, m_Height, m_Cells, m_Turns)).bind fun r1 =>
  cond (!r1)
  (some (0, 0, false))
  ((strings_Count k (m_Cells, (bs [90]))).bind fun r2 =>
   (strings_Count k (m_Cells, (bs [83]))).bind fun r3 =>
   some (r2, r3, true)) := by kernel_rfl
theorem strings_Count.eq (k : Nat) (d : ByteArray × ByteArray) : strings_Count (k + 1) d = (fun d => strCount1 d.1 d.2) d := by kernel_rfl
theorem spec_CountMirrors.eq (k : Nat) (m_Width : Int) (m_Height : Int) (m_Cells : ByteArray) (m_Turns : Bool) : spec_CountMirrors (k + 1) (m_Width, m_Height, m_Cells, m_Turns) =
  (spec_miGood k (m_Width, m_Height, m_Cells, m_Turns)).bind fun r1 =>
  cond (!r1)
  (some (0, 0, false))
  ((spec_CountMirrors_l k ((m_Width, m_Height, m_Cells, m_Turns), 0, 0, 0)).bind fun r2 =>
   some (r2.1, r2.2, true)) := by kernel_rfl
theorem spec_CountMirrors_l.eq (k : Nat) (m_Width : Int) (m_Height : Int) (m_Cells : ByteArray) (m_Turns : Bool) (z : Int) (s : Int) (i : Int) : spec_CountMirrors_l (k + 1) ((m_Width, m_Height, m_Cells, m_Turns), z, s, i) =
  cond (decide (i < (m_Cells.size : Int)))
  (cond (inB i m_Cells.size)
   (cond ((bt m_Cells i.toNat) == 90)
    (cond (inB i m_Cells.size)
     (cond ((bt m_Cells i.toNat) == 83)
      (spec_CountMirrors_l k ((m_Width, m_Height, m_Cells, m_Turns), (w64 (z + 1)), (w64 (s + 1)), (w64 (i + 1))))
      (spec_CountMirrors_l k ((m_Width, m_Height, m_Cells, m_Turns), (w64 (z + 1)), s, (w64 (i + 1)))))
     (none))
    (cond (inB i m_Cells.size)
     (cond ((bt m_Cells i.toNat) == 83)
      (spec_CountMirrors_l k ((m_Width, m_Height, m_Cells, m_Turns), z, (w64 (s + 1)), (w64 (i + 1))))
      (spec_CountMirrors_l k ((m_Width, m_Height, m_Cells, m_Turns), z, s, (w64 (i + 1)))))
     (none)))
   (none))
  (some (z, s)) := by kernel_rfl
theorem impl_MazeText.eq (k : Nat) (m_Width : Int) (m_Height : Int) (m_Cells : ByteArray) (m_Turns : Bool) : impl_MazeText (k + 1) (m_Width, m_Height, m_Cells, m_Turns) =
  (impl_IsMaze k (m_Width, m_Height, m_Cells, m_Turns)).bind fun r1 =>
  cond (!r1)
  (some (ByteArray.empty, false))
  ((impl_listText k ((bs [120]), [m_Width, m_Height])).bind fun r2 =>
   cond (fitS r2 (bs [58]))
   (cond (fitS (r2 ++ (bs [58])) m_Cells)
    ((impl_bit k m_Turns).bind fun r3 =>
     (strings_Repeat k ((bs [33]), r3)).bind fun r4 =>
     cond (fitS ((r2 ++ (bs [58])) ++ m_Cells) r4)
     (some ((((r2 ++ (bs [58])) ++ m_Cells) ++ r4), true))
     (none))
    (none))
   (none)) := by kernel_rfl
theorem impl_listText.eq (k : Nat) (by_ : ByteArray) (list : List Int) : impl_listText (k + 1) (by_, list) =
  (impl_listText_l k (by_, [], list, (list.length : Int), 0)).bind fun r1 =>
  (strings_Join k (r1.2, r1.1)).bind fun r2 =>
  some r2 := by kernel_rfl
theorem impl_listText_l.eq (k : Nat) (by_ : ByteArray) (parts : List ByteArray) (t9 : List Int) (t10 : Int) (t11 : Int) : impl_listText_l (k + 1) (by_, parts, t9, t10, t11) =
  cond (decide (t11 < t10))
  (cond (inB t11 t9.length)
   ((strconv_Itoa k (t9.getD t11.toNat default)).bind fun r1 =>
    cond (fits (parts.length + 1) 16)
    (impl_listText_l k (by_, (parts ++ [r1]), t9, t10, (w64 (t11 + 1))))
    (none))
   (none))
  (some (by_, parts)) := by kernel_rfl
theorem strconv_Itoa.eq (k : Nat) (d : Int) : strconv_Itoa (k + 1) d = (fun d => itoaAll d) d := by kernel_rfl
theorem strings_Join.eq (k : Nat) (d : List ByteArray × ByteArray) : strings_Join (k + 1) d = (fun d => joinS d.1 d.2) d := by kernel_rfl
theorem impl_bit.eq (k : Nat) (b : Bool) : impl_bit (k + 1) b =
  cond b
  (some 1)
  (some 0) := by kernel_rfl
theorem strings_Repeat.eq (k : Nat) (d : ByteArray × Int) : strings_Repeat (k + 1) d = (fun d => strRep d.1 d.2) d := by kernel_rfl
theorem spec_MazeText.eq (k : Nat) (m_Width : Int) (m_Height : Int) (m_Cells : ByteArray) (m_Turns : Bool) : spec_MazeText (k + 1) (m_Width, m_Height, m_Cells, m_Turns) =
  (spec_miGood k (m_Width, m_Height, m_Cells, m_Turns)).bind fun r1 =>
  cond (!r1)
  (some (ByteArray.empty, false))
  ((spec_miText k (m_Width, m_Height, m_Cells, m_Turns)).bind fun r2 =>
   some (r2, true)) := by kernel_rfl
theorem spec_miText.eq (k : Nat) (m_Width : Int) (m_Height : Int) (m_Cells : ByteArray) (m_Turns : Bool) : spec_miText (k + 1) (m_Width, m_Height, m_Cells, m_Turns) =
  (spec_l1Num k m_Width).bind fun r1 =>
  cond (fitS r1 (bs [120]))
  ((spec_l1Num k m_Height).bind fun r2 =>
   cond (fitS (r1 ++ (bs [120])) r2)
   (cond (fitS ((r1 ++ (bs [120])) ++ r2) (bs [58]))
    (cond (fitS (((r1 ++ (bs [120])) ++ r2) ++ (bs [58])) m_Cells)
     (cond m_Turns
      (cond (fitS ((((r1 ++ (bs [120])) ++ r2) ++ (bs [58])) ++ m_Cells) (bs [33]))
       (some (((((r1 ++ (bs [120])) ++ r2) ++ (bs [58])) ++ m_Cells) ++ (bs [33])))
       (none))
      (some ((((r1 ++ (bs [120])) ++ r2) ++ (bs [58])) ++ m_Cells)))
     (none))
    (none))
   (none))
  (none) := by kernel_rfl
theorem spec_l1Num.eq (k : Nat) (n : Int) : spec_l1Num (k + 1) n =
  cond (decide (n < 10))
  (some (ofBytes [(w8 (w64 (48 + n)))]))
  ((spec_l1Num k (w64 (n.tdiv 10))).bind fun r1 =>
   cond (fitS r1 (ofBytes [(w8 (w64 (48 + (n.tmod 10))))]))
   (some (r1 ++ (ofBytes [(w8 (w64 (48 + (n.tmod 10))))])))
   (none)) := by kernel_rfl
theorem laws_FnMazesTurn_c.eq (k : Nat) (more : List Int) (m_Width : Int) (m_Height : Int) (m_Cells : ByteArray) (m_Turns : Bool) (turned_Width : Int) (turned_Height : Int) (turned_Cells : ByteArray) (turned_Turns : Bool) (ok : Bool) (mirror_Width : Int) (mirror_Height : Int) (mirror_Cells : ByteArray) (mirror_Turns : Bool) (z : Int) (s : Int) (text : ByteArray) : laws_FnMazesTurn_c (k + 1) (more, (m_Width, m_Height, m_Cells, m_Turns), (turned_Width, turned_Height, turned_Cells, turned_Turns), ok, (mirror_Width, mirror_Height, mirror_Cells, mirror_Turns), z, s, text) =
  cond ok
  ((impl_ExitTable k (m_Width, m_Height, m_Cells, m_Turns)).bind fun r1 =>
   (impl_ExitTable k (turned_Width, turned_Height, turned_Cells, turned_Turns)).bind fun r2 =>
   (impl_ExitTable k (mirror_Width, mirror_Height, mirror_Cells, mirror_Turns)).bind fun r3 =>
   (impl_CountMirrors k (turned_Width, turned_Height, turned_Cells, turned_Turns)).bind fun r4 =>
   (impl_MirrorMaze k (mirror_Width, mirror_Height, mirror_Cells, mirror_Turns)).bind fun r5 =>
   (impl_ParseMaze k text).bind fun r6 =>
   cond (!r1.2)
   (some false)
   (cond (!r2.2)
    (some false)
    (cond (!r3.2)
     (some false)
     (cond (!r4.2.2)
      (some false)
      (cond (r4.1 != s)
       (some false)
       (cond (r4.2.1 != z)
        (some false)
        (cond (!r5.2)
         (some false)
         (cond (!((r5.1.1 == m_Width) && ((r5.1.2.1 == m_Height) && ((r5.1.2.2.1 == m_Cells) && ((r5.1.2.2.2 == m_Turns) && true)))))
          (some false)
          (cond (!r6.2)
           (some false)
           (cond (!((r6.1.1 == m_Width) && ((r6.1.2.1 == m_Height) && ((r6.1.2.2.1 == m_Cells) && ((r6.1.2.2.2 == m_Turns) && true)))))
            (some false)
            ((laws_dCount k (m_Cells, 46)).bind fun r7 =>
             cond ((w64 (z + s)) != r7)
             (some false)
             ((laws_FnMazesTurn_c_l k (more, (m_Width, m_Height, m_Cells, m_Turns), r2.1, r3.1, (w64 (2 * (w64 (m_Width + m_Height)))), r1.1, (r1.1.length : Int), 0)).bind fun r8 =>
              r8.elim
              (fun r9 => some r9)
              (fun r10 => (laws_FnMazesTurn_c_c k r10).bind fun r11 =>
               some r11)))))))))))))
  ((laws_FnMazesTurn_c_c k more).bind fun r12 =>
   some r12) := by kernel_rfl
theorem impl_ExitTable.eq (k : Nat) (m_Width : Int) (m_Height : Int) (m_Cells : ByteArray) (m_Turns : Bool) : impl_ExitTable (k + 1) (m_Width, m_Height, m_Cells, m_Turns) =
  (impl_IsMaze k (m_Width, m_Height, m_Cells, m_Turns)).bind fun r1 =>
  cond (!r1)
  (some ([], false))
  ((impl_Maze_ends k (m_Width, m_Height, m_Cells, m_Turns)).bind fun r2 =>
   (impl_ExitTable_l k ((m_Width, m_Height, m_Cells, m_Turns), [], r2, 0)).bind fun r3 =>
   some (r3, true)) := by kernel_rfl
theorem impl_Maze_ends.eq (k : Nat) (m_Width : Int) (m_Height : Int) (m_Cells : ByteArray) (m_Turns : Bool) : impl_Maze_ends (k + 1) (m_Width, m_Height, m_Cells, m_Turns) =
  some (w64 (2 * (w64 (m_Width + m_Height)))) := by kernel_rfl
theorem impl_ExitTable_l.eq (k : Nat) (m_Width : Int) (m_Height : Int) (m_Cells : ByteArray) (m_Turns : Bool) (out : List Int) (t13 : Int) (t14 : Int) : impl_ExitTable_l (k + 1) ((m_Width, m_Height, m_Cells, m_Turns), out, t13, t14) =
  cond (decide (t14 < t13))
  ((impl_Maze_entry k ((m_Width, m_Height, m_Cells, m_Turns), t14)).bind fun r1 =>
   (impl_Maze_pass k ((m_Width, m_Height, m_Cells, m_Turns), r1)).bind fun r2 =>
   cond (fits (out.length + 1) 8)
   (impl_ExitTable_l k ((m_Width, m_Height, m_Cells, m_Turns), (out ++ [r2.1.2.2.2.2.1]), t13, (w64 (t14 + 1))))
   (none))
  (some out) := by kernel_rfl
theorem impl_Maze_entry.eq (k : Nat) (m_Width : Int) (m_Height : Int) (m_Cells : ByteArray) (m_Turns : Bool) (k_ : Int) : impl_Maze_entry (k + 1) ((m_Width, m_Height, m_Cells, m_Turns), k_) =
  cond (decide (k_ < m_Width))
  (some (k_, 0, 2))
  (cond (decide (k_ < (w64 (m_Width + m_Height))))
   (some ((w64 (m_Width - 1)), (w64 (k_ - m_Width)), 3))
   (cond (decide (k_ < (w64 ((w64 (2 * m_Width)) + m_Height))))
    (some ((w64 ((w64 ((w64 ((w64 (2 * m_Width)) + m_Height)) - 1)) - k_)), (w64 (m_Height - 1)), 0))
    ((impl_Maze_ends k (m_Width, m_Height, m_Cells, m_Turns)).bind fun r1 =>
     some (0, (w64 ((w64 (r1 - 1)) - k_)), 1)))) := by kernel_rfl
theorem impl_Maze_pass.eq (k : Nat) (m_Width : Int) (m_Height : Int) (m_Cells : ByteArray) (m_Turns : Bool) (b_X : Int) (b_Y : Int) (b_Way : Int) : impl_Maze_pass (k + 1) ((m_Width, m_Height, m_Cells, m_Turns), (b_X, b_Y, b_Way)) =
  cond (!m_Turns)
  ((impl_Maze_pass_l k ((m_Width, m_Height, m_Cells, m_Turns), (b_X, b_Y, b_Way), (0, 0, ByteArray.empty, false, 0, 0, 0), (m_Width, m_Height, m_Cells, m_Turns, 0, 0, 0), (w64 (4 * (m_Cells.size : Int))))).bind fun r1 =>
   r1.elim
   (fun r2 => some r2)
   (fun r3 => some ((0, 0, ByteArray.empty, false, 0, 0, 0), false)))
  ((impl_Maze_pass_l k ((m_Width, m_Height, m_Cells, m_Turns), (b_X, b_Y, b_Way), (0, 0, ByteArray.empty, false, 0, 0, 0), (m_Width, m_Height, m_Cells, m_Turns, 0, 0, 0), 1000000)).bind fun r4 =>
   r4.elim
   (fun r5 => some r5)
   (fun r6 => some ((0, 0, ByteArray.empty, false, 0, 0, 0), false))) := by kernel_rfl
theorem impl_Maze_pass_l.eq (k : Nat) (m_Width : Int) (m_Height : Int) (m_Cells : ByteArray) (m_Turns : Bool) (b_X : Int) (b_Y : Int) (b_Way : Int) (t4_mazeWidth : Int) (t4_mazeHeight : Int) (t4_mazeCells : ByteArray) (t4_mazeTurns : Bool) (t4_end : Int) (t4_hits : Int) (t4_cells : Int) (out_mazeWidth : Int) (out_mazeHeight : Int) (out_mazeCells : ByteArray) (out_mazeTurns : Bool) (out_end : Int) (out_hits : Int) (out_cells : Int) (most : Int) : impl_Maze_pass_l (k + 1) ((m_Width, m_Height, m_Cells, m_Turns), (b_X, b_Y, b_Way), (t4_mazeWidth, t4_mazeHeight, t4_mazeCells, t4_mazeTurns, t4_end, t4_hits, t4_cells), (out_mazeWidth, out_mazeHeight, out_mazeCells, out_mazeTurns, out_end, out_hits, out_cells), most) =
  cond (decide (out_cells < most))
  ((impl_Maze_hit k ((out_mazeWidth, out_mazeHeight, out_mazeCells, out_mazeTurns), (b_X, b_Y, b_Way))).bind fun r1 =>
   (impl_bit k r1.2.2.1).bind fun r2 =>
   cond r1.2.2.2
   (impl_Maze_pass_l k ((m_Width, m_Height, m_Cells, m_Turns), r1.2.1, (t4_mazeWidth, t4_mazeHeight, t4_mazeCells, t4_mazeTurns, t4_end, t4_hits, t4_cells), (r1.1.1, r1.1.2.1, r1.1.2.2.1, r1.1.2.2.2, out_end, (w64 (out_hits + r2)), (w64 (out_cells + 1))), most))
   ((impl_ahead k r1.2.1.2.2).bind fun r3 =>
    (impl_Maze_pass_l_l k ((m_Width, m_Height, m_Cells, m_Turns), (t4_mazeWidth, t4_mazeHeight, t4_mazeCells, t4_mazeTurns, t4_end, t4_hits, t4_cells), (r1.1.1, r1.1.2.1, r1.1.2.2.1, r1.1.2.2.2, out_end, (w64 (out_hits + r2)), (w64 (out_cells + 1))), ((w64 (r1.2.1.1 - r3.1)), (w64 (r1.2.1.2.1 - r3.2)), ((w64 (r1.2.1.2.2 + 2)).tmod 4)))).bind fun r4 =>
    some (.inl (r4.2, true))))
  (some (.inr (t4_mazeWidth, t4_mazeHeight, t4_mazeCells, t4_mazeTurns, t4_end, t4_hits, t4_cells))) := by kernel_rfl
theorem impl_Maze_hit.eq (k : Nat) (m_Width : Int) (m_Height : Int) (m_Cells : ByteArray) (m_Turns : Bool) (b_X : Int) (b_Y : Int) (b_Way : Int) : impl_Maze_hit (k + 1) ((m_Width, m_Height, m_Cells, m_Turns), (b_X, b_Y, b_Way)) =
  cond (inB (w64 ((w64 (b_Y * m_Width)) + b_X)) m_Cells.size)
  (cond ((bt m_Cells ((w64 ((w64 (b_Y * m_Width)) + b_X)).toNat)) == 90)
   (cond (inB b_Way 4)
    (cond m_Turns
     (cond ((bt m_Cells ((w64 ((w64 (b_Y * m_Width)) + b_X)).toNat)) != 46)
      (cond (inB (w64 ((w64 (b_Y * m_Width)) + b_X)) ((bytesOf m_Cells).length))
       ((impl_ahead k (([1, 0, 3, 2] : List Int).getD b_Way.toNat default)).bind fun r1 =>
        (impl_within k ((w64 (b_X + r1.1)), 0, (w64 (m_Width - 1)))).bind fun r2 =>
        cond r2
        ((impl_within k ((w64 (b_Y + r1.2)), 0, (w64 (m_Height - 1)))).bind fun r3 =>
         some ((m_Width, m_Height, (ofBytes ((bytesOf m_Cells).set ((w64 ((w64 (b_Y * m_Width)) + b_X)).toNat) (w8 (173 - (bt m_Cells ((w64 ((w64 (b_Y * m_Width)) + b_X)).toNat)))))), m_Turns), ((w64 (b_X + r1.1)), (w64 (b_Y + r1.2)), (([1, 0, 3, 2] : List Int).getD b_Way.toNat default)), ((bt m_Cells ((w64 ((w64 (b_Y * m_Width)) + b_X)).toNat)) != 46), r3))
        (some ((m_Width, m_Height, (ofBytes ((bytesOf m_Cells).set ((w64 ((w64 (b_Y * m_Width)) + b_X)).toNat) (w8 (173 - (bt m_Cells ((w64 ((w64 (b_Y * m_Width)) + b_X)).toNat)))))), m_Turns), ((w64 (b_X + r1.1)), (w64 (b_Y + r1.2)), (([1, 0, 3, 2] : List Int).getD b_Way.toNat default)), ((bt m_Cells ((w64 ((w64 (b_Y * m_Width)) + b_X)).toNat)) != 46), false)))
       (none))
      ((impl_ahead k (([1, 0, 3, 2] : List Int).getD b_Way.toNat default)).bind fun r4 =>
       (impl_within k ((w64 (b_X + r4.1)), 0, (w64 (m_Width - 1)))).bind fun r5 =>
       cond r5
       ((impl_within k ((w64 (b_Y + r4.2)), 0, (w64 (m_Height - 1)))).bind fun r6 =>
        some ((m_Width, m_Height, m_Cells, m_Turns), ((w64 (b_X + r4.1)), (w64 (b_Y + r4.2)), (([1, 0, 3, 2] : List Int).getD b_Way.toNat default)), ((bt m_Cells ((w64 ((w64 (b_Y * m_Width)) + b_X)).toNat)) != 46), r6))
       (some ((m_Width, m_Height, m_Cells, m_Turns), ((w64 (b_X + r4.1)), (w64 (b_Y + r4.2)), (([1, 0, 3, 2] : List Int).getD b_Way.toNat default)), ((bt m_Cells ((w64 ((w64 (b_Y * m_Width)) + b_X)).toNat)) != 46), false))))
     ((impl_ahead k (([1, 0, 3, 2] : List Int).getD b_Way.toNat default)).bind fun r7 =>
      (impl_within k ((w64 (b_X + r7.1)), 0, (w64 (m_Width - 1)))).bind fun r8 =>
      cond r8
      ((impl_within k ((w64 (b_Y + r7.2)), 0, (w64 (m_Height - 1)))).bind fun r9 =>
       some ((m_Width, m_Height, m_Cells, m_Turns), ((w64 (b_X + r7.1)), (w64 (b_Y + r7.2)), (([1, 0, 3, 2] : List Int).getD b_Way.toNat default)), ((bt m_Cells ((w64 ((w64 (b_Y * m_Width)) + b_X)).toNat)) != 46), r9))
      (some ((m_Width, m_Height, m_Cells, m_Turns), ((w64 (b_X + r7.1)), (w64 (b_Y + r7.2)), (([1, 0, 3, 2] : List Int).getD b_Way.toNat default)), ((bt m_Cells ((w64 ((w64 (b_Y * m_Width)) + b_X)).toNat)) != 46), false))))
    (none))
   (cond ((bt m_Cells ((w64 ((w64 (b_Y * m_Width)) + b_X)).toNat)) == 83)
    (cond (inB b_Way 4)
     (cond m_Turns
      (cond ((bt m_Cells ((w64 ((w64 (b_Y * m_Width)) + b_X)).toNat)) != 46)
       (cond (inB (w64 ((w64 (b_Y * m_Width)) + b_X)) ((bytesOf m_Cells).length))
        ((impl_ahead k (([3, 2, 1, 0] : List Int).getD b_Way.toNat default)).bind fun r10 =>
         (impl_within k ((w64 (b_X + r10.1)), 0, (w64 (m_Width - 1)))).bind fun r11 =>
         cond r11
         ((impl_within k ((w64 (b_Y + r10.2)), 0, (w64 (m_Height - 1)))).bind fun r12 =>
          some ((m_Width, m_Height, (ofBytes ((bytesOf m_Cells).set ((w64 ((w64 (b_Y * m_Width)) + b_X)).toNat) (w8 (173 - (bt m_Cells ((w64 ((w64 (b_Y * m_Width)) + b_X)).toNat)))))), m_Turns), ((w64 (b_X + r10.1)), (w64 (b_Y + r10.2)), (([3, 2, 1, 0] : List Int).getD b_Way.toNat default)), ((bt m_Cells ((w64 ((w64 (b_Y * m_Width)) + b_X)).toNat)) != 46), r12))
         (some ((m_Width, m_Height, (ofBytes ((bytesOf m_Cells).set ((w64 ((w64 (b_Y * m_Width)) + b_X)).toNat) (w8 (173 - (bt m_Cells ((w64 ((w64 (b_Y * m_Width)) + b_X)).toNat)))))), m_Turns), ((w64 (b_X + r10.1)), (w64 (b_Y + r10.2)), (([3, 2, 1, 0] : List Int).getD b_Way.toNat default)), ((bt m_Cells ((w64 ((w64 (b_Y * m_Width)) + b_X)).toNat)) != 46), false)))
        (none))
       ((impl_ahead k (([3, 2, 1, 0] : List Int).getD b_Way.toNat default)).bind fun r13 =>
        (impl_within k ((w64 (b_X + r13.1)), 0, (w64 (m_Width - 1)))).bind fun r14 =>
        cond r14
        ((impl_within k ((w64 (b_Y + r13.2)), 0, (w64 (m_Height - 1)))).bind fun r15 =>
         some ((m_Width, m_Height, m_Cells, m_Turns), ((w64 (b_X + r13.1)), (w64 (b_Y + r13.2)), (([3, 2, 1, 0] : List Int).getD b_Way.toNat default)), ((bt m_Cells ((w64 ((w64 (b_Y * m_Width)) + b_X)).toNat)) != 46), r15))
        (some ((m_Width, m_Height, m_Cells, m_Turns), ((w64 (b_X + r13.1)), (w64 (b_Y + r13.2)), (([3, 2, 1, 0] : List Int).getD b_Way.toNat default)), ((bt m_Cells ((w64 ((w64 (b_Y * m_Width)) + b_X)).toNat)) != 46), false))))
      ((impl_ahead k (([3, 2, 1, 0] : List Int).getD b_Way.toNat default)).bind fun r16 =>
       (impl_within k ((w64 (b_X + r16.1)), 0, (w64 (m_Width - 1)))).bind fun r17 =>
       cond r17
       ((impl_within k ((w64 (b_Y + r16.2)), 0, (w64 (m_Height - 1)))).bind fun r18 =>
        some ((m_Width, m_Height, m_Cells, m_Turns), ((w64 (b_X + r16.1)), (w64 (b_Y + r16.2)), (([3, 2, 1, 0] : List Int).getD b_Way.toNat default)), ((bt m_Cells ((w64 ((w64 (b_Y * m_Width)) + b_X)).toNat)) != 46), r18))
       (some ((m_Width, m_Height, m_Cells, m_Turns), ((w64 (b_X + r16.1)), (w64 (b_Y + r16.2)), (([3, 2, 1, 0] : List Int).getD b_Way.toNat default)), ((bt m_Cells ((w64 ((w64 (b_Y * m_Width)) + b_X)).toNat)) != 46), false))))
     (none))
    (cond m_Turns
     (cond ((bt m_Cells ((w64 ((w64 (b_Y * m_Width)) + b_X)).toNat)) != 46)
      (cond (inB (w64 ((w64 (b_Y * m_Width)) + b_X)) ((bytesOf m_Cells).length))
       ((impl_ahead k b_Way).bind fun r19 =>
        (impl_within k ((w64 (b_X + r19.1)), 0, (w64 (m_Width - 1)))).bind fun r20 =>
        cond r20
        ((impl_within k ((w64 (b_Y + r19.2)), 0, (w64 (m_Height - 1)))).bind fun r21 =>
         some ((m_Width, m_Height, (ofBytes ((bytesOf m_Cells).set ((w64 ((w64 (b_Y * m_Width)) + b_X)).toNat) (w8 (173 - (bt m_Cells ((w64 ((w64 (b_Y * m_Width)) + b_X)).toNat)))))), m_Turns), ((w64 (b_X + r19.1)), (w64 (b_Y + r19.2)), b_Way), ((bt m_Cells ((w64 ((w64 (b_Y * m_Width)) + b_X)).toNat)) != 46), r21))
        (some ((m_Width, m_Height, (ofBytes ((bytesOf m_Cells).set ((w64 ((w64 (b_Y * m_Width)) + b_X)).toNat) (w8 (173 - (bt m_Cells ((w64 ((w64 (b_Y * m_Width)) + b_X)).toNat)))))), m_Turns), ((w64 (b_X + r19.1)), (w64 (b_Y + r19.2)), b_Way), ((bt m_Cells ((w64 ((w64 (b_Y * m_Width)) + b_X)).toNat)) != 46), false)))
       (none))
      ((impl_ahead k b_Way).bind fun r22 =>
       (impl_within k ((w64 (b_X + r22.1)), 0, (w64 (m_Width - 1)))).bind fun r23 =>
       cond r23
       ((impl_within k ((w64 (b_Y + r22.2)), 0, (w64 (m_Height - 1)))).bind fun r24 =>
        some ((m_Width, m_Height, m_Cells, m_Turns), ((w64 (b_X + r22.1)), (w64 (b_Y + r22.2)), b_Way), ((bt m_Cells ((w64 ((w64 (b_Y * m_Width)) + b_X)).toNat)) != 46), r24))
       (some ((m_Width, m_Height, m_Cells, m_Turns), ((w64 (b_X + r22.1)), (w64 (b_Y + r22.2)), b_Way), ((bt m_Cells ((w64 ((w64 (b_Y * m_Width)) + b_X)).toNat)) != 46), false))))
     ((impl_ahead k b_Way).bind fun r25 =>
      (impl_within k ((w64 (b_X + r25.1)), 0, (w64 (m_Width - 1)))).bind fun r26 =>
      cond r26
      ((impl_within k ((w64 (b_Y + r25.2)), 0, (w64 (m_Height - 1)))).bind fun r27 =>
       some ((m_Width, m_Height, m_Cells, m_Turns), ((w64 (b_X + r25.1)), (w64 (b_Y + r25.2)), b_Way), ((bt m_Cells ((w64 ((w64 (b_Y * m_Width)) + b_X)).toNat)) != 46), r27))
      (some ((m_Width, m_Height, m_Cells, m_Turns), ((w64 (b_X + r25.1)), (w64 (b_Y + r25.2)), b_Way), ((bt m_Cells ((w64 ((w64 (b_Y * m_Width)) + b_X)).toNat)) != 46), false))))))
  (none) := by kernel_rfl
theorem impl_ahead.eq (k : Nat) (way : Int) : impl_ahead (k + 1) way =
  cond (inB way 4)
  (cond (inB way 4)
   (some ((([0, 1, 0, (-1)] : List Int).getD way.toNat default), (([(-1), 0, 1, 0] : List Int).getD way.toNat default)))
   (none))
  (none) := by kernel_rfl
theorem impl_Maze_pass_l_l.eq (k : Nat) (m_Width : Int) (m_Height : Int) (m_Cells : ByteArray) (m_Turns : Bool) (t4_mazeWidth : Int) (t4_mazeHeight : Int) (t4_mazeCells : ByteArray) (t4_mazeTurns : Bool) (t4_end : Int) (t4_hits : Int) (t4_cells : Int) (out_mazeWidth : Int) (out_mazeHeight : Int) (out_mazeCells : ByteArray) (out_mazeTurns : Bool) (out_end : Int) (out_hits : Int) (out_cells : Int) (back_X : Int) (back_Y : Int) (back_Way : Int) : impl_Maze_pass_l_l (k + 1) ((m_Width, m_Height, m_Cells, m_Turns), (t4_mazeWidth, t4_mazeHeight, t4_mazeCells, t4_mazeTurns, t4_end, t4_hits, t4_cells), (out_mazeWidth, out_mazeHeight, out_mazeCells, out_mazeTurns, out_end, out_hits, out_cells), (back_X, back_Y, back_Way)) =
  (impl_Maze_entry k ((m_Width, m_Height, m_Cells, m_Turns), out_end)).bind fun r1 =>
  cond (!((r1.1 == back_X) && ((r1.2.1 == back_Y) && ((r1.2.2 == back_Way) && true))))
  (impl_Maze_pass_l_l k ((m_Width, m_Height, m_Cells, m_Turns), (t4_mazeWidth, t4_mazeHeight, t4_mazeCells, t4_mazeTurns, t4_end, t4_hits, t4_cells), (out_mazeWidth, out_mazeHeight, out_mazeCells, out_mazeTurns, (w64 (out_end + 1)), out_hits, out_cells), (back_X, back_Y, back_Way)))
  (some ((t4_mazeWidth, t4_mazeHeight, t4_mazeCells, t4_mazeTurns, t4_end, t4_hits, t4_cells), (out_mazeWidth, out_mazeHeight, out_mazeCells, out_mazeTurns, out_end, out_hits, out_cells))) := by kernel_rfl
theorem impl_ParseMaze.eq (k : Nat) (s : ByteArray) : impl_ParseMaze (k + 1) s =
  (strings_Cut k (s, (bs [58]))).bind fun r1 =>
  (strings_CutSuffix k (r1.2.1, (bs [33]))).bind fun r2 =>
  (impl_numbers k (r1.1, (bs [120]), 2, 9)).bind fun r3 =>
  cond (inB 0 r3.1.length)
  (cond (inB 1 r3.1.length)
   (cond (!r3.2)
    (some ((0, 0, ByteArray.empty, false), false))
    ((impl_IsMaze k ((r3.1.getD 0 default), (r3.1.getD 1 default), r2.1, r2.2)).bind fun r4 =>
     cond (!r4)
     (some ((0, 0, ByteArray.empty, false), false))
     (some (((r3.1.getD 0 default), (r3.1.getD 1 default), r2.1, r2.2), true))))
   (none))
  (none) := by kernel_rfl
theorem strings_Cut.eq (k : Nat) (d : ByteArray × ByteArray) : strings_Cut (k + 1) d = (fun d => strCut d.1 d.2) d := by kernel_rfl
theorem strings_CutSuffix.eq (k : Nat) (s : ByteArray) (suffix : ByteArray) : strings_CutSuffix (k + 1) (s, suffix) =
  (stringslite_CutSuffix k (s, suffix)).bind fun r1 =>
  some r1 := by kernel_rfl
theorem stringslite_CutSuffix.eq (k : Nat) (s : ByteArray) (suffix : ByteArray) : stringslite_CutSuffix (k + 1) (s, suffix) =
  (stringslite_HasSuffix k (s, suffix)).bind fun r1 =>
  cond (!r1)
  (some (s, false))
  (cond ((decide ((0 : Int) ≤ (w64 ((s.size : Int) - (suffix.size : Int))))) && (decide ((w64 ((s.size : Int) - (suffix.size : Int))) ≤ (s.size : Int))))
   (some ((s.extract 0 ((w64 ((s.size : Int) - (suffix.size : Int))).toNat)), true))
   (none)) := by kernel_rfl
theorem stringslite_HasSuffix.eq (k : Nat) (s : ByteArray) (suffix : ByteArray) : stringslite_HasSuffix (k + 1) (s, suffix) =
  cond (decide ((s.size : Int) ≥ (suffix.size : Int)))
  (cond ((decide ((0 : Int) ≤ (w64 ((s.size : Int) - (suffix.size : Int))))) && (decide ((w64 ((s.size : Int) - (suffix.size : Int))) ≤ (s.size : Int))))
   (some (strEq (s.extract ((w64 ((s.size : Int) - (suffix.size : Int))).toNat) s.size) suffix))
   (none))
  (some false) := by kernel_rfl
theorem impl_numbers.eq (k : Nat) (s : ByteArray) (by_ : ByteArray) (many : Int) (most : Int) : impl_numbers (k + 1) (s, by_, many, most) =
  (strings_Split k (s, by_)).bind fun r1 =>
  (impl_numbers_l k (many, most, [], r1, (r1.length : Int), 0)).bind fun r2 =>
  r2.elim
  (fun r3 => some r3)
  (fun r4 => cond ((r4.2.length : Int) != r4.1)
   (cond (((decide ((0 : Int) ≤ r4.1)) && (decide (r4.1 ≤ r4.1))) && (fits r4.1.toNat 8))
    (some ((List.replicate r4.1.toNat 0), false))
    (none))
   (some (r4.2, true))) := by kernel_rfl
theorem strings_Split.eq (k : Nat) (d : ByteArray × ByteArray) : strings_Split (k + 1) d = (fun d => strSplit1 d.1 d.2) d := by kernel_rfl
theorem impl_numbers_l.eq (k : Nat) (many : Int) (most : Int) (out : List Int) (t18 : List ByteArray) (t19 : Int) (t20 : Int) : impl_numbers_l (k + 1) (many, most, out, t18, t19, t20) =
  cond (decide (t20 < t19))
  (cond (inB t20 t18.length)
   ((impl_number k ((t18.getD t20.toNat default), most)).bind fun r1 =>
    cond (!r1.2)
    (cond (((decide ((0 : Int) ≤ many)) && (decide (many ≤ many))) && (fits many.toNat 8))
     (some (.inl ((List.replicate many.toNat 0), false)))
     (none))
    (cond (fits (out.length + 1) 8)
     (impl_numbers_l k (many, most, (out ++ [r1.1]), t18, t19, (w64 (t20 + 1))))
     (none)))
   (none))
  (some (.inr (many, out))) := by kernel_rfl
theorem impl_number.eq (k : Nat) (d : ByteArray × Int) : impl_number (k + 1) d = (fun d => numB d.1 d.2) d := by kernel_rfl
theorem laws_dCount.eq (k : Nat) (s : ByteArray) (sign : Int) : laws_dCount (k + 1) (s, sign) =
  (laws_dCount_l k (s, sign, 0, 0)).bind fun r1 =>
  some r1 := by kernel_rfl
theorem laws_dCount_l.eq (k : Nat) (s : ByteArray) (sign : Int) (n : Int) (i : Int) : laws_dCount_l (k + 1) (s, sign, n, i) =
  cond (decide (i < (s.size : Int)))
  (cond (inB i s.size)
   (cond ((bt s i.toNat) != sign)
    (laws_dCount_l k (s, sign, (w64 (n + 1)), (w64 (i + 1))))
    (laws_dCount_l k (s, sign, n, (w64 (i + 1)))))
   (none))
  (some n) := by kernel_rfl
theorem laws_FnMazesTurn_c_l.eq (k : Nat) (more : List Int) (m_Width : Int) (m_Height : Int) (m_Cells : ByteArray) (m_Turns : Bool) (x : List Int) (y : List Int) (n : Int) (t292 : List Int) (t293 : Int) (t294 : Int) : laws_FnMazesTurn_c_l (k + 1) (more, (m_Width, m_Height, m_Cells, m_Turns), x, y, n, t292, t293, t294) =
  cond (decide (t294 < t293))
  (cond (inB t294 t292.length)
   (cond (n != 0)
    (cond (inB ((w64 (t294 + m_Height)).tmod n) x.length)
     (cond (n != 0)
      (cond ((x.getD (((w64 (t294 + m_Height)).tmod n).toNat) default) != ((w64 ((t292.getD t294.toNat default) + m_Height)).tmod n))
       (some (.inl false))
       (cond (n != 0)
        (cond (inB ((w64 ((w64 ((w64 (m_Width - 1)) - t294)) + n)).tmod n) y.length)
         (cond (n != 0)
          (cond ((y.getD (((w64 ((w64 ((w64 (m_Width - 1)) - t294)) + n)).tmod n).toNat) default) != ((w64 ((w64 ((w64 (m_Width - 1)) - (t292.getD t294.toNat default))) + n)).tmod n))
           (some (.inl false))
           (laws_FnMazesTurn_c_l k (more, (m_Width, m_Height, m_Cells, m_Turns), x, y, n, t292, t293, (w64 (t294 + 1)))))
          (none))
         (none))
        (none)))
      (none))
     (none))
    (none))
   (none))
  (some (.inr more)) := by kernel_rfl
theorem laws_FnMazesTurn_c_c.eq (k : Nat) (more : List Int) : laws_FnMazesTurn_c_c (k + 1) more =
  (spec_DrawCountTracks k more).bind fun r1 =>
  (impl_CountTracks k r1).bind fun r2 =>
  (spec_CountTracks k r1).bind fun r3 =>
  (impl_LongestTrack k r1).bind fun r4 =>
  (spec_LongestTrack k r1).bind fun r5 =>
  (spec_DrawBallsUntilSame k more).bind fun r6 =>
  (impl_BallsUntilSame k r6).bind fun r7 =>
  (spec_BallsUntilSame k r6).bind fun r8 =>
  (spec_DrawExitsInTurn k more).bind fun r9 =>
  (impl_ExitsInTurn k r9).bind fun r10 =>
  (spec_ExitsInTurn k r9).bind fun r11 =>
  (spec_DrawParseMaze k more).bind fun r12 =>
  (impl_ParseMaze k r12).bind fun r13 =>
  (spec_ParseMaze k r12).bind fun r14 =>
  cond (!(r2.2 == r3.2))
  (some false)
  (cond (r2.1 != r3.1)
   (some false)
   (cond (!(r4.2 == r5.2))
    (some false)
    (cond (r4.1 != r5.1)
     (some false)
     (cond (!(r7.2 == r8.2))
      (some false)
      (cond (r7.1 != r8.1)
       (some false)
       (cond (!(r10.2 == r11.2))
        (some false)
        ((laws_dSame k (r10.1, r11.1)).bind fun r15 =>
         cond (!r15)
         (some false)
         (cond (!(r13.2 == r14.2))
          (some false)
          (cond (!((r13.1.1 == r14.1.1) && ((r13.1.2.1 == r14.1.2.1) && ((r13.1.2.2.1 == r14.1.2.2.1) && ((r13.1.2.2.2 == r14.1.2.2.2) && true)))))
           (some false)
           (cond (!(r4.2 == r2.2))
            (some false)
            ((impl_IsMaze k r1).bind fun r16 =>
             cond r16
             (cond (!(r2.2 == (!r1.2.2.2)))
              (some false)
              ((laws_FnMazesTurn_c_c_c k (r1, r2.1, r2.2, r4.1, r6.1, r6.2, r7.1, r7.2, r9.1, r9.2.1, r9.2.2, r10.1, r10.2, r12, r13.1, r13.2)).bind fun r17 =>
               some r17))
             (cond (!(r2.2 == false))
              (some false)
              ((laws_FnMazesTurn_c_c_c k (r1, r2.1, r2.2, r4.1, r6.1, r6.2, r7.1, r7.2, r9.1, r9.2.1, r9.2.2, r10.1, r10.2, r12, r13.1, r13.2)).bind fun r18 =>
               some r18))))))))))))) := by kernel_rfl
theorem spec_DrawCountTracks.eq (k : Nat) (code : List Int) : spec_DrawCountTracks (k + 1) code =
  (spec_l1Cur_maze k (code, 0, 0)).bind fun r1 =>
  (spec_l1Cur_one k (r1.2, 6)).bind fun r2 =>
  cond (!r2.1)
  (some (r1.1.1, r1.1.2.1, r1.1.2.2.1, false))
  (some r1.1) := by kernel_rfl
theorem impl_CountTracks.eq (k : Nat) (m_Width : Int) (m_Height : Int) (m_Cells : ByteArray) (m_Turns : Bool) : impl_CountTracks (k + 1) (m_Width, m_Height, m_Cells, m_Turns) =
  (impl_IsMaze k (m_Width, m_Height, m_Cells, m_Turns)).bind fun r1 =>
  cond (!r1)
  (some (0, false))
  (cond m_Turns
   (some (0, false))
   ((impl_Maze_ends k (m_Width, m_Height, m_Cells, m_Turns)).bind fun r2 =>
    (impl_CountTracks_l k ((m_Width, m_Height, m_Cells, m_Turns), [], 0, r2, 0)).bind fun r3 =>
    (impl_CountTracks_l_2 k (r3.1, r3.2.1, r3.2.2, (r3.1.2.2.1.size : Int), 0)).bind fun r4 =>
    some ((w64 (r4.tdiv 2)), true))) := by kernel_rfl
theorem impl_CountTracks_l.eq (k : Nat) (m_Width : Int) (m_Height : Int) (m_Cells : ByteArray) (m_Turns : Bool) (seen : List ((Int × (Int × Int)) × Bool)) (many : Int) (t18 : Int) (t19 : Int) : impl_CountTracks_l (k + 1) ((m_Width, m_Height, m_Cells, m_Turns), seen, many, t18, t19) =
  cond (decide (t19 < t18))
  ((impl_Maze_entry k ((m_Width, m_Height, m_Cells, m_Turns), t19)).bind fun r1 =>
   (impl_Maze_follow k ((m_Width, m_Height, m_Cells, m_Turns), r1, seen)).bind fun r2 =>
   impl_CountTracks_l k ((m_Width, m_Height, m_Cells, m_Turns), r2.2, many, t18, (w64 (t19 + 1))))
  (some ((m_Width, m_Height, m_Cells, m_Turns), seen, many)) := by kernel_rfl
theorem impl_Maze_follow.eq (k : Nat) (m_Width : Int) (m_Height : Int) (m_Cells : ByteArray) (m_Turns : Bool) (b_X : Int) (b_Y : Int) (b_Way : Int) (seen : List ((Int × (Int × Int)) × Bool)) : impl_Maze_follow (k + 1) ((m_Width, m_Height, m_Cells, m_Turns), (b_X, b_Y, b_Way), seen) =
  (impl_Maze_follow_l k (seen, (m_Width, m_Height, m_Cells, m_Turns), (b_X, b_Y, b_Way), 0, true, ())).bind fun r1 =>
  some r1 := by kernel_rfl
theorem impl_Maze_follow_l.eq (k : Nat) (seen : List ((Int × (Int × Int)) × Bool)) (m_Width : Int) (m_Height : Int) (m_Cells : ByteArray) (m_Turns : Bool) (b_X : Int) (b_Y : Int) (b_Way : Int) (many : Int) (isIn : Bool) : impl_Maze_follow_l (k + 1) (seen, (m_Width, m_Height, m_Cells, m_Turns), (b_X, b_Y, b_Way), many, isIn, ()) =
  cond isIn
  (cond (!(mget (K := (Int × (Int × Int))) (α := Bool) (Sh.eqT (.pair (.int .i64) (.pair (.int .i64) (.int .i64)))) seen (b_X, (b_Y, b_Way)) false))
   ((impl_Maze_hit k ((m_Width, m_Height, m_Cells, m_Turns), (b_X, b_Y, b_Way))).bind fun r1 =>
    impl_Maze_follow_l k ((mput (K := (Int × (Int × Int))) (α := Bool) (Sh.eqT (.pair (.int .i64) (.pair (.int .i64) (.int .i64)))) seen (b_X, (b_Y, b_Way)) true), (m_Width, m_Height, m_Cells, m_Turns), r1.2.1, (w64 (many + 1)), r1.2.2.2, ()))
   (some (many, seen)))
  (some (many, seen)) := by kernel_rfl
theorem impl_CountTracks_l_2.eq (k : Nat) (m_Width : Int) (m_Height : Int) (m_Cells : ByteArray) (m_Turns : Bool) (seen : List ((Int × (Int × Int)) × Bool)) (many : Int) (t31 : Int) (t32 : Int) : impl_CountTracks_l_2 (k + 1) ((m_Width, m_Height, m_Cells, m_Turns), seen, many, t31, t32) =
  cond (decide (t32 < t31))
  ((impl_CountTracks_l_2_l k ((m_Width, m_Height, m_Cells, m_Turns), seen, many, t32, t31, t32, 0)).bind fun r1 =>
   impl_CountTracks_l_2 k (r1.1, r1.2.1, r1.2.2.1, r1.2.2.2.1, (w64 (r1.2.2.2.2 + 1))))
  (some many) := by kernel_rfl
theorem impl_CountTracks_l_2_l.eq (k : Nat) (m_Width : Int) (m_Height : Int) (m_Cells : ByteArray) (m_Turns : Bool) (seen : List ((Int × (Int × Int)) × Bool)) (many : Int) (k_ : Int) (t31 : Int) (t32 : Int) (t35 : Int) : impl_CountTracks_l_2_l (k + 1) ((m_Width, m_Height, m_Cells, m_Turns), seen, many, k_, t31, t32, t35) =
  cond (decide (t35 < 4))
  (cond (m_Width != 0)
   (cond (m_Width != 0)
    ((impl_Maze_follow k ((m_Width, m_Height, m_Cells, m_Turns), ((k_.tmod m_Width), (w64 (k_.tdiv m_Width)), t35), seen)).bind fun r1 =>
     (impl_bit k (decide (r1.1 > 0))).bind fun r2 =>
     impl_CountTracks_l_2_l k ((m_Width, m_Height, m_Cells, m_Turns), r1.2, (w64 (many + r2)), k_, t31, t32, (w64 (t35 + 1))))
    (none))
   (none))
  (some ((m_Width, m_Height, m_Cells, m_Turns), seen, many, t31, t32)) := by kernel_rfl
theorem spec_CountTracks.eq (k : Nat) (m_Width : Int) (m_Height : Int) (m_Cells : ByteArray) (m_Turns : Bool) : spec_CountTracks (k + 1) (m_Width, m_Height, m_Cells, m_Turns) =
  (spec_miGood k (m_Width, m_Height, m_Cells, m_Turns)).bind fun r1 =>
  cond (!r1)
  (some (0, false))
  (cond m_Turns
   (some (0, false))
   (cond (((decide ((0 : Int) ≤ (w64 (4 * (m_Cells.size : Int))))) && (decide ((w64 (4 * (m_Cells.size : Int))) ≤ (w64 (4 * (m_Cells.size : Int)))))) && (fits (w64 (4 * (m_Cells.size : Int))).toNat 1))
    ((spec_CountTracks_l k ((m_Width, m_Height, m_Cells, m_Turns), (List.replicate (w64 (4 * (m_Cells.size : Int))).toNat false), 0)).bind fun r2 =>
     (spec_CountTracks_l_2 k (r2.1, r2.2, 0, (r2.2.length : Int), 0)).bind fun r3 =>
     some ((w64 (r3.tdiv 2)), true))
    (none))) := by kernel_rfl
theorem spec_CountTracks_l.eq (k : Nat) (m_Width : Int) (m_Height : Int) (m_Cells : ByteArray) (m_Turns : Bool) (seen : List Bool) (k_ : Int) : spec_CountTracks_l (k + 1) ((m_Width, m_Height, m_Cells, m_Turns), seen, k_) =
  (spec_miEnds k (m_Width, m_Height, m_Cells, m_Turns)).bind fun r1 =>
  cond (decide (k_ < r1))
  ((spec_miEntry k ((m_Width, m_Height, m_Cells, m_Turns), k_)).bind fun r2 =>
   (spec_CountTracks_l_l k ((m_Width, m_Height, m_Cells, m_Turns), seen, k_, r2)).bind fun r3 =>
   spec_CountTracks_l k (r3.1, r3.2.1, (w64 (r3.2.2 + 1))))
  (some ((m_Width, m_Height, m_Cells, m_Turns), seen)) := by kernel_rfl
theorem spec_miEnds.eq (k : Nat) (m_Width : Int) (m_Height : Int) (m_Cells : ByteArray) (m_Turns : Bool) : spec_miEnds (k + 1) (m_Width, m_Height, m_Cells, m_Turns) =
  some (w64 (2 * (w64 (m_Width + m_Height)))) := by kernel_rfl
theorem spec_miEntry.eq (k : Nat) (m_Width : Int) (m_Height : Int) (m_Cells : ByteArray) (m_Turns : Bool) (k_ : Int) : spec_miEntry (k + 1) ((m_Width, m_Height, m_Cells, m_Turns), k_) =
  cond (decide (k_ < m_Width))
  (some (k_, 0, 2))
  (cond (decide (k_ < (w64 (m_Width + m_Height))))
   (some ((w64 (m_Width - 1)), (w64 (k_ - m_Width)), 3))
   (cond (decide (k_ < (w64 ((w64 (2 * m_Width)) + m_Height))))
    (some ((w64 ((w64 ((w64 ((w64 (2 * m_Width)) + m_Height)) - 1)) - k_)), (w64 (m_Height - 1)), 0))
    ((spec_miEnds k (m_Width, m_Height, m_Cells, m_Turns)).bind fun r1 =>
     some (0, (w64 ((w64 (r1 - 1)) - k_)), 1)))) := by kernel_rfl
theorem spec_CountTracks_l_l.eq (k : Nat) (m_Width : Int) (m_Height : Int) (m_Cells : ByteArray) (m_Turns : Bool) (seen : List Bool) (k_ : Int) (b_X : Int) (b_Y : Int) (b_Way : Int) : spec_CountTracks_l_l (k + 1) ((m_Width, m_Height, m_Cells, m_Turns), seen, k_, (b_X, b_Y, b_Way)) =
  (spec_miBall k ((m_Width, m_Height, m_Cells, m_Turns), (b_X, b_Y, b_Way))).bind fun r1 =>
  cond r1
  ((spec_miIndex k ((m_Width, m_Height, m_Cells, m_Turns), (b_X, b_Y, b_Way))).bind fun r2 =>
   cond (inB r2 seen.length)
   ((spec_miHit k ((m_Width, m_Height, m_Cells, m_Turns), (b_X, b_Y, b_Way))).bind fun r3 =>
    spec_CountTracks_l_l k ((m_Width, m_Height, m_Cells, m_Turns), (seen.set r2.toNat true), k_, r3.2))
   (none))
  (some ((m_Width, m_Height, m_Cells, m_Turns), seen, k_)) := by kernel_rfl
theorem spec_miBall.eq (k : Nat) (m_Width : Int) (m_Height : Int) (m_Cells : ByteArray) (m_Turns : Bool) (b_X : Int) (b_Y : Int) (b_Way : Int) : spec_miBall (k + 1) ((m_Width, m_Height, m_Cells, m_Turns), (b_X, b_Y, b_Way)) =
  (spec_miGood k (m_Width, m_Height, m_Cells, m_Turns)).bind fun r1 =>
  cond r1
  ((spec_l1In k (b_X, 0, (w64 (m_Width - 1)))).bind fun r2 =>
   cond r2
   ((spec_l1In k (b_Y, 0, (w64 (m_Height - 1)))).bind fun r3 =>
    cond r3
    ((spec_l1In k (b_Way, 0, 3)).bind fun r4 =>
     some r4)
    (some false))
   (some false))
  (some false) := by kernel_rfl
theorem spec_miIndex.eq (k : Nat) (m_Width : Int) (m_Height : Int) (m_Cells : ByteArray) (m_Turns : Bool) (b_X : Int) (b_Y : Int) (b_Way : Int) : spec_miIndex (k + 1) ((m_Width, m_Height, m_Cells, m_Turns), (b_X, b_Y, b_Way)) =
  some (w64 ((w64 ((w64 ((w64 (b_Y * m_Width)) + b_X)) * 4)) + b_Way)) := by kernel_rfl
end Go.Proofs.YtcmebphcoamohaaGreatDoorS
