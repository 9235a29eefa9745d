/- What each function computes (printed by wip/sim/gen.py). -/
import Derived.Test.YtcmebphcoamohaaGreatDoorTab
namespace Go.Proofs.YtcmebphcoamohaaGreatDoorS
open Go Go.Proofs
set_option maxRecDepth 100000
set_option linter.unusedVariables false
theorem spec_miHit.eq (k : Nat) (m_Width : Int) (m_Height : Int) (m_Cells : ByteArray) (m_Turns : Bool) (b_X : Int) (b_Y : Int) (b_Way : Int) : spec_miHit (k + 1) ((m_Width, m_Height, m_Cells, m_Turns), (b_X, b_Y, b_Way)) =
  cond (inB (w64 ((w64 (b_Y * m_Width)) + b_X)) m_Cells.size)
  (cond ((bt m_Cells ((w64 ((w64 (b_Y * m_Width)) + b_X)).toNat)) == 90)
   (cond m_Turns
    (cond ((bt m_Cells ((w64 ((w64 (b_Y * m_Width)) + b_X)).toNat)) != 46)
     (cond ((decide ((0 : Int) ≤ (w64 ((w64 (b_Y * m_Width)) + b_X)))) && (decide ((w64 ((w64 (b_Y * m_Width)) + b_X)) ≤ (m_Cells.size : Int))))
      (cond (fitS (m_Cells.extract 0 ((w64 ((w64 (b_Y * m_Width)) + b_X)).toNat)) (bs [83]))
       (cond ((decide ((0 : Int) ≤ (w64 ((w64 ((w64 (b_Y * m_Width)) + b_X)) + 1)))) && (decide ((w64 ((w64 ((w64 (b_Y * m_Width)) + b_X)) + 1)) ≤ (m_Cells.size : Int))))
        (cond (fitS ((m_Cells.extract 0 ((w64 ((w64 (b_Y * m_Width)) + b_X)).toNat)) ++ (bs [83])) (m_Cells.extract ((w64 ((w64 ((w64 (b_Y * m_Width)) + b_X)) + 1)).toNat) m_Cells.size))
         (cond ((xorI .i64 b_Way 1) == 0)
          (some ((m_Width, m_Height, (((m_Cells.extract 0 ((w64 ((w64 (b_Y * m_Width)) + b_X)).toNat)) ++ (bs [83])) ++ (m_Cells.extract ((w64 ((w64 ((w64 (b_Y * m_Width)) + b_X)) + 1)).toNat) m_Cells.size)), m_Turns), (b_X, (w64 (b_Y - 1)), (xorI .i64 b_Way 1))))
          (cond ((xorI .i64 b_Way 1) == 1)
           (some ((m_Width, m_Height, (((m_Cells.extract 0 ((w64 ((w64 (b_Y * m_Width)) + b_X)).toNat)) ++ (bs [83])) ++ (m_Cells.extract ((w64 ((w64 ((w64 (b_Y * m_Width)) + b_X)) + 1)).toNat) m_Cells.size)), m_Turns), ((w64 (b_X + 1)), b_Y, (xorI .i64 b_Way 1))))
           (cond ((xorI .i64 b_Way 1) == 2)
            (some ((m_Width, m_Height, (((m_Cells.extract 0 ((w64 ((w64 (b_Y * m_Width)) + b_X)).toNat)) ++ (bs [83])) ++ (m_Cells.extract ((w64 ((w64 ((w64 (b_Y * m_Width)) + b_X)) + 1)).toNat) m_Cells.size)), m_Turns), (b_X, (w64 (b_Y + 1)), (xorI .i64 b_Way 1))))
            (some ((m_Width, m_Height, (((m_Cells.extract 0 ((w64 ((w64 (b_Y * m_Width)) + b_X)).toNat)) ++ (bs [83])) ++ (m_Cells.extract ((w64 ((w64 ((w64 (b_Y * m_Width)) + b_X)) + 1)).toNat) m_Cells.size)), m_Turns), ((w64 (b_X - 1)), b_Y, (xorI .i64 b_Way 1)))))))
         (none))
        (none))
       (none))
      (none))
     (cond ((xorI .i64 b_Way 1) == 0)
      (some ((m_Width, m_Height, m_Cells, m_Turns), (b_X, (w64 (b_Y - 1)), (xorI .i64 b_Way 1))))
      (cond ((xorI .i64 b_Way 1) == 1)
       (some ((m_Width, m_Height, m_Cells, m_Turns), ((w64 (b_X + 1)), b_Y, (xorI .i64 b_Way 1))))
       (cond ((xorI .i64 b_Way 1) == 2)
        (some ((m_Width, m_Height, m_Cells, m_Turns), (b_X, (w64 (b_Y + 1)), (xorI .i64 b_Way 1))))
        (some ((m_Width, m_Height, m_Cells, m_Turns), ((w64 (b_X - 1)), b_Y, (xorI .i64 b_Way 1))))))))
    (cond ((xorI .i64 b_Way 1) == 0)
     (some ((m_Width, m_Height, m_Cells, m_Turns), (b_X, (w64 (b_Y - 1)), (xorI .i64 b_Way 1))))
     (cond ((xorI .i64 b_Way 1) == 1)
      (some ((m_Width, m_Height, m_Cells, m_Turns), ((w64 (b_X + 1)), b_Y, (xorI .i64 b_Way 1))))
      (cond ((xorI .i64 b_Way 1) == 2)
       (some ((m_Width, m_Height, m_Cells, m_Turns), (b_X, (w64 (b_Y + 1)), (xorI .i64 b_Way 1))))
       (some ((m_Width, m_Height, m_Cells, m_Turns), ((w64 (b_X - 1)), b_Y, (xorI .i64 b_Way 1))))))))
   (cond ((bt m_Cells ((w64 ((w64 (b_Y * m_Width)) + b_X)).toNat)) == 83)
    (cond m_Turns
     (cond ((bt m_Cells ((w64 ((w64 (b_Y * m_Width)) + b_X)).toNat)) != 46)
      (cond ((decide ((0 : Int) ≤ (w64 ((w64 (b_Y * m_Width)) + b_X)))) && (decide ((w64 ((w64 (b_Y * m_Width)) + b_X)) ≤ (m_Cells.size : Int))))
       (cond (fitS (m_Cells.extract 0 ((w64 ((w64 (b_Y * m_Width)) + b_X)).toNat)) (bs [90]))
        (cond ((decide ((0 : Int) ≤ (w64 ((w64 ((w64 (b_Y * m_Width)) + b_X)) + 1)))) && (decide ((w64 ((w64 ((w64 (b_Y * m_Width)) + b_X)) + 1)) ≤ (m_Cells.size : Int))))
         (cond (fitS ((m_Cells.extract 0 ((w64 ((w64 (b_Y * m_Width)) + b_X)).toNat)) ++ (bs [90])) (m_Cells.extract ((w64 ((w64 ((w64 (b_Y * m_Width)) + b_X)) + 1)).toNat) m_Cells.size))
          (cond ((w64 (3 - b_Way)) == 0)
           (some ((m_Width, m_Height, (((m_Cells.extract 0 ((w64 ((w64 (b_Y * m_Width)) + b_X)).toNat)) ++ (bs [90])) ++ (m_Cells.extract ((w64 ((w64 ((w64 (b_Y * m_Width)) + b_X)) + 1)).toNat) m_Cells.size)), m_Turns), (b_X, (w64 (b_Y - 1)), (w64 (3 - b_Way)))))
           (cond ((w64 (3 - b_Way)) == 1)
            (some ((m_Width, m_Height, (((m_Cells.extract 0 ((w64 ((w64 (b_Y * m_Width)) + b_X)).toNat)) ++ (bs [90])) ++ (m_Cells.extract ((w64 ((w64 ((w64 (b_Y * m_Width)) + b_X)) + 1)).toNat) m_Cells.size)), m_Turns), ((w64 (b_X + 1)), b_Y, (w64 (3 - b_Way)))))
            (cond ((w64 (3 - b_Way)) == 2)
             (some ((m_Width, m_Height, (((m_Cells.extract 0 ((w64 ((w64 (b_Y * m_Width)) + b_X)).toNat)) ++ (bs [90])) ++ (m_Cells.extract ((w64 ((w64 ((w64 (b_Y * m_Width)) + b_X)) + 1)).toNat) m_Cells.size)), m_Turns), (b_X, (w64 (b_Y + 1)), (w64 (3 - b_Way)))))
             (some ((m_Width, m_Height, (((m_Cells.extract 0 ((w64 ((w64 (b_Y * m_Width)) + b_X)).toNat)) ++ (bs [90])) ++ (m_Cells.extract ((w64 ((w64 ((w64 (b_Y * m_Width)) + b_X)) + 1)).toNat) m_Cells.size)), m_Turns), ((w64 (b_X - 1)), b_Y, (w64 (3 - b_Way))))))))
          (none))
         (none))
        (none))
       (none))
      (cond ((w64 (3 - b_Way)) == 0)
       (some ((m_Width, m_Height, m_Cells, m_Turns), (b_X, (w64 (b_Y - 1)), (w64 (3 - b_Way)))))
       (cond ((w64 (3 - b_Way)) == 1)
        (some ((m_Width, m_Height, m_Cells, m_Turns), ((w64 (b_X + 1)), b_Y, (w64 (3 - b_Way)))))
        (cond ((w64 (3 - b_Way)) == 2)
         (some ((m_Width, m_Height, m_Cells, m_Turns), (b_X, (w64 (b_Y + 1)), (w64 (3 - b_Way)))))
         (some ((m_Width, m_Height, m_Cells, m_Turns), ((w64 (b_X - 1)), b_Y, (w64 (3 - b_Way)))))))))
     (cond ((w64 (3 - b_Way)) == 0)
      (some ((m_Width, m_Height, m_Cells, m_Turns), (b_X, (w64 (b_Y - 1)), (w64 (3 - b_Way)))))
      (cond ((w64 (3 - b_Way)) == 1)
       (some ((m_Width, m_Height, m_Cells, m_Turns), ((w64 (b_X + 1)), b_Y, (w64 (3 - b_Way)))))
       (cond ((w64 (3 - b_Way)) == 2)
        (some ((m_Width, m_Height, m_Cells, m_Turns), (b_X, (w64 (b_Y + 1)), (w64 (3 - b_Way)))))
        (some ((m_Width, m_Height, m_Cells, m_Turns), ((w64 (b_X - 1)), b_Y, (w64 (3 - b_Way)))))))))
    (cond m_Turns
     (cond ((bt m_Cells ((w64 ((w64 (b_Y * m_Width)) + b_X)).toNat)) != 46)
      (cond ((decide ((0 : Int) ≤ (w64 ((w64 (b_Y * m_Width)) + b_X)))) && (decide ((w64 ((w64 (b_Y * m_Width)) + b_X)) ≤ (m_Cells.size : Int))))
       (cond (fitS (m_Cells.extract 0 ((w64 ((w64 (b_Y * m_Width)) + b_X)).toNat)) (bs [46]))
        (cond ((decide ((0 : Int) ≤ (w64 ((w64 ((w64 (b_Y * m_Width)) + b_X)) + 1)))) && (decide ((w64 ((w64 ((w64 (b_Y * m_Width)) + b_X)) + 1)) ≤ (m_Cells.size : Int))))
         (cond (fitS ((m_Cells.extract 0 ((w64 ((w64 (b_Y * m_Width)) + b_X)).toNat)) ++ (bs [46])) (m_Cells.extract ((w64 ((w64 ((w64 (b_Y * m_Width)) + b_X)) + 1)).toNat) m_Cells.size))
          (cond (b_Way == 0)
           (some ((m_Width, m_Height, (((m_Cells.extract 0 ((w64 ((w64 (b_Y * m_Width)) + b_X)).toNat)) ++ (bs [46])) ++ (m_Cells.extract ((w64 ((w64 ((w64 (b_Y * m_Width)) + b_X)) + 1)).toNat) m_Cells.size)), m_Turns), (b_X, (w64 (b_Y - 1)), b_Way)))
           (cond (b_Way == 1)
            (some ((m_Width, m_Height, (((m_Cells.extract 0 ((w64 ((w64 (b_Y * m_Width)) + b_X)).toNat)) ++ (bs [46])) ++ (m_Cells.extract ((w64 ((w64 ((w64 (b_Y * m_Width)) + b_X)) + 1)).toNat) m_Cells.size)), m_Turns), ((w64 (b_X + 1)), b_Y, b_Way)))
            (cond (b_Way == 2)
             (some ((m_Width, m_Height, (((m_Cells.extract 0 ((w64 ((w64 (b_Y * m_Width)) + b_X)).toNat)) ++ (bs [46])) ++ (m_Cells.extract ((w64 ((w64 ((w64 (b_Y * m_Width)) + b_X)) + 1)).toNat) m_Cells.size)), m_Turns), (b_X, (w64 (b_Y + 1)), b_Way)))
             (some ((m_Width, m_Height, (((m_Cells.extract 0 ((w64 ((w64 (b_Y * m_Width)) + b_X)).toNat)) ++ (bs [46])) ++ (m_Cells.extract ((w64 ((w64 ((w64 (b_Y * m_Width)) + b_X)) + 1)).toNat) m_Cells.size)), m_Turns), ((w64 (b_X - 1)), b_Y, b_Way))))))
          (none))
         (none))
        (none))
       (none))
      (cond (b_Way == 0)
       (some ((m_Width, m_Height, m_Cells, m_Turns), (b_X, (w64 (b_Y - 1)), b_Way)))
       (cond (b_Way == 1)
        (some ((m_Width, m_Height, m_Cells, m_Turns), ((w64 (b_X + 1)), b_Y, b_Way)))
        (cond (b_Way == 2)
         (some ((m_Width, m_Height, m_Cells, m_Turns), (b_X, (w64 (b_Y + 1)), b_Way)))
         (some ((m_Width, m_Height, m_Cells, m_Turns), ((w64 (b_X - 1)), b_Y, b_Way)))))))
     (cond (b_Way == 0)
      (some ((m_Width, m_Height, m_Cells, m_Turns), (b_X, (w64 (b_Y - 1)), b_Way)))
      (cond (b_Way == 1)
       (some ((m_Width, m_Height, m_Cells, m_Turns), ((w64 (b_X + 1)), b_Y, b_Way)))
       (cond (b_Way == 2)
        (some ((m_Width, m_Height, m_Cells, m_Turns), (b_X, (w64 (b_Y + 1)), b_Way)))
        (some ((m_Width, m_Height, m_Cells, m_Turns), ((w64 (b_X - 1)), b_Y, b_Way)))))))))
  (none) := by kernel_rfl
theorem spec_CountTracks_l_2.eq (k : Nat) (m_Width : Int) (m_Height : Int) (m_Cells : ByteArray) (m_Turns : Bool) (seen : List Bool) (count : Int) (t47 : Int) (t48 : Int) : spec_CountTracks_l_2 (k + 1) ((m_Width, m_Height, m_Cells, m_Turns), seen, count, t47, t48) =
  cond (decide (t48 < t47))
  (cond (inB t48 seen.length)
   (cond (seen.getD t48.toNat default)
    (spec_CountTracks_l_2 k ((m_Width, m_Height, m_Cells, m_Turns), seen, count, t47, (w64 (t48 + 1))))
    (cond (m_Width != 0)
     (cond (m_Width != 0)
      ((spec_CountTracks_l_2_l k ((m_Width, m_Height, m_Cells, m_Turns), seen, (w64 (count + 1)), (((w64 (t48.tdiv 4)).tmod m_Width), (w64 ((w64 (t48.tdiv 4)).tdiv m_Width)), (t48.tmod 4)), t47, t48)).bind fun r1 =>
       spec_CountTracks_l_2 k (r1.1, r1.2.1, r1.2.2.1, r1.2.2.2.1, (w64 (r1.2.2.2.2 + 1))))
      (none))
     (none)))
   (none))
  (some count) := by kernel_rfl
theorem spec_CountTracks_l_2_l.eq (k : Nat) (m_Width : Int) (m_Height : Int) (m_Cells : ByteArray) (m_Turns : Bool) (seen : List Bool) (count : Int) (b_X : Int) (b_Y : Int) (b_Way : Int) (t47 : Int) (t48 : Int) : spec_CountTracks_l_2_l (k + 1) ((m_Width, m_Height, m_Cells, m_Turns), seen, count, (b_X, b_Y, b_Way), t47, t48) =
  (spec_miIndex k ((m_Width, m_Height, m_Cells, m_Turns), (b_X, b_Y, b_Way))).bind fun r1 =>
  cond (inB r1 seen.length)
  (cond (!(seen.getD r1.toNat default))
   ((spec_miIndex k ((m_Width, m_Height, m_Cells, m_Turns), (b_X, b_Y, b_Way))).bind fun r2 =>
    cond (inB r2 seen.length)
    ((spec_miHit k ((m_Width, m_Height, m_Cells, m_Turns), (b_X, b_Y, b_Way))).bind fun r3 =>
     spec_CountTracks_l_2_l k ((m_Width, m_Height, m_Cells, m_Turns), (seen.set r2.toNat true), count, r3.2, t47, t48))
    (none))
   (some ((m_Width, m_Height, m_Cells, m_Turns), seen, count, t47, t48)))
  (none) := by kernel_rfl
theorem impl_LongestTrack.eq (k : Nat) (m_Width : Int) (m_Height : Int) (m_Cells : ByteArray) (m_Turns : Bool) : impl_LongestTrack (k + 1) (m_Width, m_Height, m_Cells, m_Turns) =
  (impl_IsMaze k (m_Width, m_Height, m_Cells, m_Turns)).bind fun r1 =>
  cond (!r1)
  (some (0, false))
  (cond m_Turns
   (some (0, false))
   ((impl_Maze_ends k (m_Width, m_Height, m_Cells, m_Turns)).bind fun r2 =>
    (impl_LongestTrack_l k ((m_Width, m_Height, m_Cells, m_Turns), 0, r2, 0)).bind fun r3 =>
    some (r3, true))) := by kernel_rfl
theorem impl_LongestTrack_l.eq (k : Nat) (m_Width : Int) (m_Height : Int) (m_Cells : ByteArray) (m_Turns : Bool) (most : Int) (t16 : Int) (t17 : Int) : impl_LongestTrack_l (k + 1) ((m_Width, m_Height, m_Cells, m_Turns), most, t16, t17) =
  cond (decide (t17 < t16))
  ((impl_Maze_entry k ((m_Width, m_Height, m_Cells, m_Turns), t17)).bind fun r1 =>
   (impl_Maze_pass k ((m_Width, m_Height, m_Cells, m_Turns), r1)).bind fun r2 =>
   impl_LongestTrack_l k ((m_Width, m_Height, m_Cells, m_Turns), (if r2.1.2.2.2.2.2.2 > most then r2.1.2.2.2.2.2.2 else most), t16, (w64 (t17 + 1))))
  (some most) := by kernel_rfl
theorem spec_LongestTrack.eq (k : Nat) (m_Width : Int) (m_Height : Int) (m_Cells : ByteArray) (m_Turns : Bool) : spec_LongestTrack (k + 1) (m_Width, m_Height, m_Cells, m_Turns) =
  (spec_miGood k (m_Width, m_Height, m_Cells, m_Turns)).bind fun r1 =>
  cond (!r1)
  (some (0, false))
  (cond m_Turns
   (some (0, false))
   ((spec_LongestTrack_l k ((m_Width, m_Height, m_Cells, m_Turns), 0, 0)).bind fun r2 =>
    some (r2, true))) := by kernel_rfl
theorem spec_LongestTrack_l.eq (k : Nat) (m_Width : Int) (m_Height : Int) (m_Cells : ByteArray) (m_Turns : Bool) (most : Int) (k_ : Int) : spec_LongestTrack_l (k + 1) ((m_Width, m_Height, m_Cells, m_Turns), most, k_) =
  (spec_miEnds k (m_Width, m_Height, m_Cells, m_Turns)).bind fun r1 =>
  cond (decide (k_ < r1))
  ((spec_miEntry k ((m_Width, m_Height, m_Cells, m_Turns), k_)).bind fun r2 =>
   (spec_miRun k ((m_Width, m_Height, m_Cells, m_Turns), r2)).bind fun r3 =>
   (spec_l1Most k (most, r3.2.2.2.1)).bind fun r4 =>
   spec_LongestTrack_l k ((m_Width, m_Height, m_Cells, m_Turns), r4, (w64 (k_ + 1))))
  (some most) := by kernel_rfl
theorem spec_miRun.eq (k : Nat) (m_Width : Int) (m_Height : Int) (m_Cells : ByteArray) (m_Turns : Bool) (b_X : Int) (b_Y : Int) (b_Way : Int) : spec_miRun (k + 1) ((m_Width, m_Height, m_Cells, m_Turns), (b_X, b_Y, b_Way)) =
  (spec_miRun_l k ((m_Width, m_Height, m_Cells, m_Turns), (b_X, b_Y, b_Way), (0, 0, ByteArray.empty, false), (m_Width, m_Height, m_Cells, m_Turns), (b_X, b_Y, b_Way), 0, 0)).bind fun r1 =>
  some r1 := by kernel_rfl
theorem spec_miRun_l.eq (k : Nat) (m_Width : Int) (m_Height : Int) (m_Cells : ByteArray) (m_Turns : Bool) (b_X : Int) (b_Y : Int) (b_Way : Int) (t4_Width : Int) (t4_Height : Int) (t4_Cells : ByteArray) (t4_Turns : Bool) (now_Width : Int) (now_Height : Int) (now_Cells : ByteArray) (now_Turns : Bool) (at_X : Int) (at_Y : Int) (at_Way : Int) (hits : Int) (cells : Int) : spec_miRun_l (k + 1) ((m_Width, m_Height, m_Cells, m_Turns), (b_X, b_Y, b_Way), (t4_Width, t4_Height, t4_Cells, t4_Turns), (now_Width, now_Height, now_Cells, now_Turns), (at_X, at_Y, at_Way), hits, cells) =
  (spec_miAt k ((now_Width, now_Height, now_Cells, now_Turns), (at_X, at_Y, at_Way))).bind fun r1 =>
  cond (r1 != 46)
  ((spec_miHit k ((now_Width, now_Height, now_Cells, now_Turns), (at_X, at_Y, at_Way))).bind fun r2 =>
   (spec_miBall k r2).bind fun r3 =>
   cond (!r3)
   ((spec_miOut k ((m_Width, m_Height, m_Cells, m_Turns), r2.2)).bind fun r4 =>
    some (r2.1, r4, (w64 (hits + 1)), (w64 (cells + 1)), true))
   (cond ((r2.2.1 == b_X) && ((r2.2.2.1 == b_Y) && ((r2.2.2.2 == b_Way) && true)))
    (cond (strEq r2.1.2.2.1 m_Cells)
     (some ((0, 0, ByteArray.empty, false), 0, 0, 0, false))
     (spec_miRun_l k ((m_Width, m_Height, m_Cells, m_Turns), (b_X, b_Y, b_Way), (t4_Width, t4_Height, t4_Cells, t4_Turns), r2.1, r2.2, (w64 (hits + 1)), (w64 (cells + 1)))))
    (spec_miRun_l k ((m_Width, m_Height, m_Cells, m_Turns), (b_X, b_Y, b_Way), (t4_Width, t4_Height, t4_Cells, t4_Turns), r2.1, r2.2, (w64 (hits + 1)), (w64 (cells + 1))))))
  ((spec_miHit k ((now_Width, now_Height, now_Cells, now_Turns), (at_X, at_Y, at_Way))).bind fun r5 =>
   (spec_miBall k r5).bind fun r6 =>
   cond (!r6)
   ((spec_miOut k ((m_Width, m_Height, m_Cells, m_Turns), r5.2)).bind fun r7 =>
    some (r5.1, r7, hits, (w64 (cells + 1)), true))
   (cond ((r5.2.1 == b_X) && ((r5.2.2.1 == b_Y) && ((r5.2.2.2 == b_Way) && true)))
    (cond (strEq r5.1.2.2.1 m_Cells)
     (some ((0, 0, ByteArray.empty, false), 0, 0, 0, false))
     (spec_miRun_l k ((m_Width, m_Height, m_Cells, m_Turns), (b_X, b_Y, b_Way), (t4_Width, t4_Height, t4_Cells, t4_Turns), r5.1, r5.2, hits, (w64 (cells + 1)))))
    (spec_miRun_l k ((m_Width, m_Height, m_Cells, m_Turns), (b_X, b_Y, b_Way), (t4_Width, t4_Height, t4_Cells, t4_Turns), r5.1, r5.2, hits, (w64 (cells + 1)))))) := by kernel_rfl
theorem spec_miAt.eq (k : Nat) (m_Width : Int) (m_Height : Int) (m_Cells : ByteArray) (m_Turns : Bool) (b_X : Int) (b_Y : Int) (b_Way : Int) : spec_miAt (k + 1) ((m_Width, m_Height, m_Cells, m_Turns), (b_X, b_Y, b_Way)) =
  cond (inB (w64 ((w64 (b_Y * m_Width)) + b_X)) m_Cells.size)
  (some (bt m_Cells ((w64 ((w64 (b_Y * m_Width)) + b_X)).toNat)))
  (none) := by kernel_rfl
theorem spec_miOut.eq (k : Nat) (m_Width : Int) (m_Height : Int) (m_Cells : ByteArray) (m_Turns : Bool) (b_X : Int) (b_Y : Int) (b_Way : Int) : spec_miOut (k + 1) ((m_Width, m_Height, m_Cells, m_Turns), (b_X, b_Y, b_Way)) =
  cond (decide (b_Y < 0))
  (some b_X)
  (cond (decide (b_X ≥ m_Width))
   (some (w64 (m_Width + b_Y)))
   (cond (decide (b_Y ≥ m_Height))
    (some (w64 ((w64 ((w64 ((w64 (2 * m_Width)) + m_Height)) - 1)) - b_X)))
    ((spec_miEnds k (m_Width, m_Height, m_Cells, m_Turns)).bind fun r1 =>
     some (w64 ((w64 (r1 - 1)) - b_Y))))) := by kernel_rfl
theorem spec_l1Most.eq (k : Nat) (a : Int) (b : Int) : spec_l1Most (k + 1) (a, b) =
  cond (decide (a > b))
  (some a)
  (some b) := by kernel_rfl
theorem spec_DrawBallsUntilSame.eq (k : Nat) (code : List Int) : spec_DrawBallsUntilSame (k + 1) code =
  (spec_l1Cur_end k (code, 0, 0)).bind fun r1 =>
  (spec_l1Cur_one k (r1.2, 6)).bind fun r2 =>
  cond (!r2.1)
  (some ((r1.1.1.1, r1.1.1.2.1, r1.1.1.2.2.1, true), r1.1.2))
  (some r1.1) := by kernel_rfl
theorem spec_l1Cur_end.eq (k : Nat) (c_code : List Int) (c_at : Int) (c_seed : Int) : spec_l1Cur_end (k + 1) (c_code, c_at, c_seed) =
  (spec_l1Cur_maze k (c_code, c_at, c_seed)).bind fun r1 =>
  (spec_miGood k r1.1).bind fun r2 =>
  cond (!r2)
  ((spec_l1Cur_among k (r1.2, [(-1), 0, 36, 4611686018427387904])).bind fun r3 =>
   some ((r1.1, r3.1), r3.2))
  ((spec_l1Cur_one k (r1.2, 14)).bind fun r4 =>
   cond r4.1
   ((spec_l1Cur_among k (r4.2, [(-1), 0, 36, 4611686018427387904])).bind fun r5 =>
    some ((r1.1, r5.1), r5.2))
   ((spec_miEnds k r1.1).bind fun r6 =>
    (spec_l1Cur_pick k (r4.2, r6)).bind fun r7 =>
    some ((r1.1, r7.1), r7.2))) := by kernel_rfl
theorem impl_BallsUntilSame.eq (k : Nat) (m_Width : Int) (m_Height : Int) (m_Cells : ByteArray) (m_Turns : Bool) (k_ : Int) : impl_BallsUntilSame (k + 1) ((m_Width, m_Height, m_Cells, m_Turns), k_) =
  (impl_isEnd k ((m_Width, m_Height, m_Cells, m_Turns), k_)).bind fun r1 =>
  cond (!r1)
  (some (0, false))
  (cond (!m_Turns)
   (some (0, false))
   ((impl_BallsUntilSame_l k (k_, (m_Width, m_Height, m_Cells, m_Turns), (m_Width, m_Height, m_Cells, m_Turns), 1)).bind fun r2 =>
    r2.elim
    (fun r3 => some r3)
    (fun r4 => some (0, false)))) := by kernel_rfl
theorem impl_isEnd.eq (k : Nat) (m_Width : Int) (m_Height : Int) (m_Cells : ByteArray) (m_Turns : Bool) (k_ : Int) : impl_isEnd (k + 1) ((m_Width, m_Height, m_Cells, m_Turns), k_) =
  (impl_IsMaze k (m_Width, m_Height, m_Cells, m_Turns)).bind fun r1 =>
  cond r1
  ((impl_Maze_ends k (m_Width, m_Height, m_Cells, m_Turns)).bind fun r2 =>
   (impl_within k (k_, 0, (w64 (r2 - 1)))).bind fun r3 =>
   some r3)
  (some false) := by kernel_rfl
theorem impl_BallsUntilSame_l.eq (k : Nat) (k_ : Int) (m_Width : Int) (m_Height : Int) (m_Cells : ByteArray) (m_Turns : Bool) (now_Width : Int) (now_Height : Int) (now_Cells : ByteArray) (now_Turns : Bool) (balls : Int) : impl_BallsUntilSame_l (k + 1) (k_, (m_Width, m_Height, m_Cells, m_Turns), (now_Width, now_Height, now_Cells, now_Turns), balls) =
  cond (decide (balls ≤ 600))
  ((impl_Maze_entry k ((now_Width, now_Height, now_Cells, now_Turns), k_)).bind fun r1 =>
   (impl_Maze_pass k ((now_Width, now_Height, now_Cells, now_Turns), r1)).bind fun r2 =>
   cond ((r2.1.1 == m_Width) && ((r2.1.2.1 == m_Height) && ((r2.1.2.2.1 == m_Cells) && ((r2.1.2.2.2.1 == m_Turns) && true))))
   (some (.inl (balls, true)))
   (impl_BallsUntilSame_l k (k_, (m_Width, m_Height, m_Cells, m_Turns), (r2.1.1, r2.1.2.1, r2.1.2.2.1, r2.1.2.2.2.1), (w64 (balls + 1)))))
  (some (.inr ())) := by kernel_rfl
theorem spec_BallsUntilSame.eq (k : Nat) (m_Width : Int) (m_Height : Int) (m_Cells : ByteArray) (m_Turns : Bool) (k_ : Int) : spec_BallsUntilSame (k + 1) ((m_Width, m_Height, m_Cells, m_Turns), k_) =
  (spec_miEnd k ((m_Width, m_Height, m_Cells, m_Turns), k_)).bind fun r1 =>
  cond (!r1)
  (some (0, false))
  (cond (!m_Turns)
   (some (0, false))
   ((spec_BallsUntilSame_l k (k_, (m_Width, m_Height, m_Cells, m_Turns), (m_Width, m_Height, m_Cells, m_Turns), 1)).bind fun r2 =>
    r2.elim
    (fun r3 => some r3)
    (fun r4 => some (0, false)))) := by kernel_rfl
theorem spec_miEnd.eq (k : Nat) (m_Width : Int) (m_Height : Int) (m_Cells : ByteArray) (m_Turns : Bool) (k_ : Int) : spec_miEnd (k + 1) ((m_Width, m_Height, m_Cells, m_Turns), k_) =
  (spec_miGood k (m_Width, m_Height, m_Cells, m_Turns)).bind fun r1 =>
  cond r1
  ((spec_miEnds k (m_Width, m_Height, m_Cells, m_Turns)).bind fun r2 =>
   (spec_l1In k (k_, 0, (w64 (r2 - 1)))).bind fun r3 =>
   some r3)
  (some false) := by kernel_rfl
theorem spec_BallsUntilSame_l.eq (k : Nat) (k_ : Int) (m_Width : Int) (m_Height : Int) (m_Cells : ByteArray) (m_Turns : Bool) (now_Width : Int) (now_Height : Int) (now_Cells : ByteArray) (now_Turns : Bool) (balls : Int) : spec_BallsUntilSame_l (k + 1) (k_, (m_Width, m_Height, m_Cells, m_Turns), (now_Width, now_Height, now_Cells, now_Turns), balls) =
  cond (decide (balls ≤ 600))
  ((spec_miEntry k ((m_Width, m_Height, m_Cells, m_Turns), k_)).bind fun r1 =>
   (spec_miRun k ((now_Width, now_Height, now_Cells, now_Turns), r1)).bind fun r2 =>
   cond (strEq r2.1.2.2.1 m_Cells)
   (some (.inl (balls, true)))
   (spec_BallsUntilSame_l k (k_, (m_Width, m_Height, m_Cells, m_Turns), r2.1, (w64 (balls + 1)))))
  (some (.inr ())) := by kernel_rfl
theorem spec_DrawExitsInTurn.eq (k : Nat) (code : List Int) : spec_DrawExitsInTurn (k + 1) code =
  (spec_l1Cur_end k (code, 0, 0)).bind fun r1 =>
  (spec_l1Cur_among k (r1.2, [0, 1, 2, 3, 5, 8, 600, 601, (-1)])).bind fun r2 =>
  some (r1.1.1, r1.1.2, r2.1) := by kernel_rfl
theorem impl_ExitsInTurn.eq (k : Nat) (m_Width : Int) (m_Height : Int) (m_Cells : ByteArray) (m_Turns : Bool) (k_ : Int) (balls : Int) : impl_ExitsInTurn (k + 1) ((m_Width, m_Height, m_Cells, m_Turns), k_, balls) =
  (impl_isEnd k ((m_Width, m_Height, m_Cells, m_Turns), k_)).bind fun r1 =>
  cond (!r1)
  (some ([], false))
  ((impl_within k (balls, 0, 600)).bind fun r2 =>
   cond (!r2)
   (some ([], false))
   ((impl_ExitsInTurn_l k (k_, (m_Width, m_Height, m_Cells, m_Turns), [], balls, 0)).bind fun r3 =>
    some (r3, true))) := by kernel_rfl
theorem impl_ExitsInTurn_l.eq (k : Nat) (k_ : Int) (m_Width : Int) (m_Height : Int) (m_Cells : ByteArray) (m_Turns : Bool) (out : List Int) (t21 : Int) (t22 : Int) : impl_ExitsInTurn_l (k + 1) (k_, (m_Width, m_Height, m_Cells, m_Turns), out, t21, t22) =
  cond (decide (t22 < t21))
  ((impl_Maze_entry k ((m_Width, m_Height, m_Cells, m_Turns), k_)).bind fun r1 =>
   (impl_Maze_pass k ((m_Width, m_Height, m_Cells, m_Turns), r1)).bind fun r2 =>
   cond (fits (out.length + 1) 8)
   (impl_ExitsInTurn_l k (k_, (r2.1.1, r2.1.2.1, r2.1.2.2.1, r2.1.2.2.2.1), (out ++ [r2.1.2.2.2.2.1]), t21, (w64 (t22 + 1))))
   (none))
  (some out) := by kernel_rfl
theorem spec_ExitsInTurn.eq (k : Nat) (m_Width : Int) (m_Height : Int) (m_Cells : ByteArray) (m_Turns : Bool) (k_ : Int) (balls : Int) : spec_ExitsInTurn (k + 1) ((m_Width, m_Height, m_Cells, m_Turns), k_, balls) =
  (spec_miEnd k ((m_Width, m_Height, m_Cells, m_Turns), k_)).bind fun r1 =>
  cond (!r1)
  (some ([], false))
  ((spec_l1In k (balls, 0, 600)).bind fun r2 =>
   cond (!r2)
   (some ([], false))
   ((spec_ExitsInTurn_l k (k_, balls, (m_Width, m_Height, m_Cells, m_Turns), [])).bind fun r3 =>
    some (r3, true))) := by kernel_rfl
theorem spec_ExitsInTurn_l.eq (k : Nat) (k_ : Int) (balls : Int) (m_Width : Int) (m_Height : Int) (m_Cells : ByteArray) (m_Turns : Bool) (out : List Int) : spec_ExitsInTurn_l (k + 1) (k_, balls, (m_Width, m_Height, m_Cells, m_Turns), out) =
  cond (decide (balls > 0))
  ((spec_miEntry k ((m_Width, m_Height, m_Cells, m_Turns), k_)).bind fun r1 =>
   (spec_miRun k ((m_Width, m_Height, m_Cells, m_Turns), r1)).bind fun r2 =>
   cond (fits (out.length + 1) 8)
   (spec_ExitsInTurn_l k (k_, (w64 (balls - 1)), r2.1, (out ++ [r2.2.1])))
   (none))
  (some out) := by kernel_rfl
theorem spec_DrawParseMaze.eq (k : Nat) (code : List Int) : spec_DrawParseMaze (k + 1) code =
  (spec_l1Cur_sureMaze k ((code, 0, 0), 4)).bind fun r1 =>
  (spec_miText k r1.1).bind fun r2 =>
  (spec_l1Cur_one k (r1.2, 3)).bind fun r3 =>
  cond r3.1
  ((spec_l1Cur_spoilt k (r3.2, r2, (bs [49, 50, 51, 120, 90, 83, 46, 58, 33]))).bind fun r4 =>
   some r4.1)
  (some r2) := by kernel_rfl
theorem spec_ParseMaze.eq (k : Nat) (s : ByteArray) : spec_ParseMaze (k + 1) s =
  (spec_miParse k s).bind fun r1 =>
  cond (!r1.2)
  (some ((0, 0, ByteArray.empty, false), false))
  (some (r1.1, true)) := by kernel_rfl
theorem spec_miParse.eq (k : Nat) (s : ByteArray) : spec_miParse (k + 1) s =
  (spec_l1Split k (s, 58)).bind fun r1 =>
  cond (decide ((s.size : Int) > 100))
  (some ((0, 0, ByteArray.empty, false), false))
  (cond ((r1.length : Int) != 2)
   (some ((0, 0, ByteArray.empty, false), false))
   (cond (inB 0 r1.length)
    ((spec_l1Split k ((r1.getD 0 default), 120)).bind fun r2 =>
     cond ((r2.length : Int) != 2)
     (some ((0, 0, ByteArray.empty, false), false))
     (cond (inB 0 r2.length)
      ((spec_l1Read k (r2.getD 0 default)).bind fun r3 =>
       cond (inB 1 r2.length)
       ((spec_l1Read k (r2.getD 1 default)).bind fun r4 =>
        cond (inB 1 r1.length)
        (cond (decide (((r1.getD 1 default).size : Int) > 0))
         (cond (inB (w64 (((r1.getD 1 default).size : Int) - 1)) ((r1.getD 1 default).size))
          (cond ((bt (r1.getD 1 default) ((w64 (((r1.getD 1 default).size : Int) - 1)).toNat)) == 33)
           (cond ((decide ((0 : Int) ≤ (w64 (((r1.getD 1 default).size : Int) - 1)))) && (decide ((w64 (((r1.getD 1 default).size : Int) - 1)) ≤ ((r1.getD 1 default).size : Int))))
            ((spec_miGood k (r3, r4, ((r1.getD 1 default).extract 0 ((w64 (((r1.getD 1 default).size : Int) - 1)).toNat)), true)).bind fun r5 =>
             cond r5
             ((spec_miText k (r3, r4, ((r1.getD 1 default).extract 0 ((w64 (((r1.getD 1 default).size : Int) - 1)).toNat)), true)).bind fun r6 =>
              some ((r3, r4, ((r1.getD 1 default).extract 0 ((w64 (((r1.getD 1 default).size : Int) - 1)).toNat)), true), (strEq r6 s)))
             (some ((r3, r4, ((r1.getD 1 default).extract 0 ((w64 (((r1.getD 1 default).size : Int) - 1)).toNat)), true), false)))
            (none))
           ((spec_miGood k (r3, r4, (r1.getD 1 default), false)).bind fun r7 =>
            cond r7
            ((spec_miText k (r3, r4, (r1.getD 1 default), false)).bind fun r8 =>
             some ((r3, r4, (r1.getD 1 default), false), (strEq r8 s)))
            (some ((r3, r4, (r1.getD 1 default), false), false))))
          (none))
         ((spec_miGood k (r3, r4, (r1.getD 1 default), false)).bind fun r9 =>
          cond r9
          ((spec_miText k (r3, r4, (r1.getD 1 default), false)).bind fun r10 =>
           some ((r3, r4, (r1.getD 1 default), false), (strEq r10 s)))
          (some ((r3, r4, (r1.getD 1 default), false), false))))
        (none))
       (none))
      (none)))
    (none))) := by kernel_rfl
theorem spec_l1Split.eq (k : Nat) (s : ByteArray) (b : Int) : spec_l1Split (k + 1) (s, b) =
  (spec_l1Split_l k (s, b, [], 0, 0)).bind fun r1 =>
  cond ((decide ((0 : Int) ≤ r1.2.2)) && (decide (r1.2.2 ≤ (r1.1.size : Int))))
  (cond (fits (r1.2.1.length + 1) 16)
   (some (r1.2.1 ++ [(r1.1.extract r1.2.2.toNat r1.1.size)]))
   (none))
  (none) := by kernel_rfl
theorem spec_l1Split_l.eq (k : Nat) (s : ByteArray) (b : Int) (out : List ByteArray) (from_ : Int) (i : Int) : spec_l1Split_l (k + 1) (s, b, out, from_, i) =
  cond (decide (i < (s.size : Int)))
  (cond (inB i s.size)
   (cond ((bt s i.toNat) == b)
    (cond (((decide ((0 : Int) ≤ i)) && (decide (i ≤ (s.size : Int)))) && ((decide ((0 : Int) ≤ from_)) && (decide (from_ ≤ i))))
     (cond (fits (out.length + 1) 16)
      (spec_l1Split_l k (s, b, (out ++ [(s.extract from_.toNat i.toNat)]), (w64 (i + 1)), (w64 (i + 1))))
      (none))
     (none))
    (spec_l1Split_l k (s, b, out, from_, (w64 (i + 1)))))
   (none))
  (some (s, out, from_)) := by kernel_rfl
theorem spec_l1Read.eq (k : Nat) (s : ByteArray) : spec_l1Read (k + 1) s =
  (spec_l1In k ((s.size : Int), 1, 6)).bind fun r1 =>
  cond (!r1)
  (some (-1))
  (cond (inB 0 s.size)
   (cond ((bt s 0) == 48)
    (cond (decide ((s.size : Int) > 1))
     (some (-1))
     ((spec_l1Read_l k (s, 0, 0)).bind fun r2 =>
      r2.elim
      (fun r3 => some r3)
      (fun r4 => some r4)))
    ((spec_l1Read_l k (s, 0, 0)).bind fun r5 =>
     r5.elim
     (fun r6 => some r6)
     (fun r7 => some r7)))
   (none)) := by kernel_rfl
theorem spec_l1Read_l.eq (k : Nat) (s : ByteArray) (n : Int) (i : Int) : spec_l1Read_l (k + 1) (s, n, i) =
  cond (decide (i < (s.size : Int)))
  (cond (inB i s.size)
   (cond (decide ((bt s i.toNat) < 48))
    (some (.inl (-1)))
    (cond (inB i s.size)
     (cond (decide ((bt s i.toNat) > 57))
      (some (.inl (-1)))
      (cond (inB i s.size)
       (spec_l1Read_l k (s, (w64 ((w64 (10 * n)) + (w64 (w8 ((bt s i.toNat) - 48))))), (w64 (i + 1))))
       (none)))
     (none)))
   (none))
  (some (.inr n)) := by kernel_rfl
theorem laws_dSame.eq (k : Nat) (a : List Int) (b : List Int) : laws_dSame (k + 1) (a, b) =
  cond ((a.length : Int) != (b.length : Int))
  (some false)
  ((laws_dSame_l k (a, b, (a.length : Int), 0)).bind fun r1 =>
   r1.elim
   (fun r2 => some r2)
   (fun r3 => some true)) := by kernel_rfl
theorem laws_dSame_l.eq (k : Nat) (a : List Int) (b : List Int) (t12 : Int) (t13 : Int) : laws_dSame_l (k + 1) (a, b, t12, t13) =
  cond (decide (t13 < t12))
  (cond (inB t13 a.length)
   (cond (inB t13 b.length)
    (cond ((a.getD t13.toNat default) != (b.getD t13.toNat default))
     (some (.inl false))
     (laws_dSame_l k (a, b, t12, (w64 (t13 + 1)))))
    (none))
   (none))
  (some (.inr ())) := by kernel_rfl
theorem laws_FnMazesTurn_c_c_c.eq (k : Nat) (c_Width : Int) (c_Height : Int) (c_Cells : ByteArray) (c_Turns : Bool) (count : Int) (seven : Bool) (long : Int) (d_Width : Int) (d_Height : Int) (d_Cells : ByteArray) (d_Turns : Bool) (k_ : Int) (balls : Int) (eleven : Bool) (e_Width : Int) (e_Height : Int) (e_Cells : ByteArray) (e_Turns : Bool) (i : Int) (number : Int) (exits : List Int) (thirteen : Bool) (t : ByteArray) (read_Width : Int) (read_Height : Int) (read_Cells : ByteArray) (read_Turns : Bool) (fifteen : Bool) : laws_FnMazesTurn_c_c_c (k + 1) ((c_Width, c_Height, c_Cells, c_Turns), count, seven, long, (d_Width, d_Height, d_Cells, d_Turns), k_, balls, eleven, (e_Width, e_Height, e_Cells, e_Turns), i, number, exits, thirteen, t, (read_Width, read_Height, read_Cells, read_Turns), fifteen) =
  cond seven
  ((impl_TurnMaze k (c_Width, c_Height, c_Cells, c_Turns)).bind fun r1 =>
   (impl_CountTracks k r1.1).bind fun r2 =>
   (impl_LongestTrack k r1.1).bind fun r3 =>
   (impl_CountMirrors k (c_Width, c_Height, c_Cells, c_Turns)).bind fun r4 =>
   cond (!r1.2)
   (some false)
   (cond (!r2.2)
    (some false)
    (cond (r2.1 != count)
     (some false)
     (cond (!r3.2)
      (some false)
      (cond (r3.1 != long)
       (some false)
       (cond (decide (long < 1))
        (some false)
        (cond (decide (long > (w64 (2 * (c_Cells.size : Int)))))
         (some false)
         (cond (!r4.2.2)
          (some false)
          (cond (decide ((w64 (2 * count)) > (w64 (r4.1 + r4.2.1))))
           (some false)
           ((laws_FnMazesTurn_c_c_c_c k ((d_Width, d_Height, d_Cells, d_Turns), k_, balls, eleven, (e_Width, e_Height, e_Cells, e_Turns), i, number, exits, thirteen, t, (read_Width, read_Height, read_Cells, read_Turns), fifteen)).bind fun r5 =>
            some r5))))))))))
  ((laws_FnMazesTurn_c_c_c_c k ((d_Width, d_Height, d_Cells, d_Turns), k_, balls, eleven, (e_Width, e_Height, e_Cells, e_Turns), i, number, exits, thirteen, t, (read_Width, read_Height, read_Cells, read_Turns), fifteen)).bind fun r6 =>
   some r6) := by kernel_rfl
theorem laws_FnMazesTurn_c_c_c_c.eq (k : Nat) (d_Width : Int) (d_Height : Int) (d_Cells : ByteArray) (d_Turns : Bool) (k_ : Int) (balls : Int) (eleven : Bool) (e_Width : Int) (e_Height : Int) (e_Cells : ByteArray) (e_Turns : Bool) (i : Int) (number : Int) (exits : List Int) (thirteen : Bool) (t : ByteArray) (read_Width : Int) (read_Height : Int) (read_Cells : ByteArray) (read_Turns : Bool) (fifteen : Bool) : laws_FnMazesTurn_c_c_c_c (k + 1) ((d_Width, d_Height, d_Cells, d_Turns), k_, balls, eleven, (e_Width, e_Height, e_Cells, e_Turns), i, number, exits, thirteen, t, (read_Width, read_Height, read_Cells, read_Turns), fifteen) =
  cond eleven
  ((laws_FnMazesTurn_c_c_c_c_l k ((d_Width, d_Height, d_Cells, d_Turns), k_, balls, (e_Width, e_Height, e_Cells, e_Turns), i, number, exits, thirteen, t, (read_Width, read_Height, read_Cells, read_Turns), fifteen, (d_Width, d_Height, d_Cells, d_Turns), 1)).bind fun r1 =>
   r1.elim
   (fun r2 => some r2)
   (fun r3 => (laws_FnMazesTurn_c_c_c_c_c k r3).bind fun r4 =>
    some r4))
  ((laws_FnMazesTurn_c_c_c_c_c k ((e_Width, e_Height, e_Cells, e_Turns), i, number, exits, thirteen, t, (read_Width, read_Height, read_Cells, read_Turns), fifteen)).bind fun r5 =>
   some r5) := by kernel_rfl
theorem laws_FnMazesTurn_c_c_c_c_l.eq (k : Nat) (d_Width : Int) (d_Height : Int) (d_Cells : ByteArray) (d_Turns : Bool) (k_ : Int) (balls : Int) (e_Width : Int) (e_Height : Int) (e_Cells : ByteArray) (e_Turns : Bool) (i : Int) (number : Int) (exits : List Int) (thirteen : Bool) (t : ByteArray) (read_Width : Int) (read_Height : Int) (read_Cells : ByteArray) (read_Turns : Bool) (fifteen : Bool) (now_Width : Int) (now_Height : Int) (now_Cells : ByteArray) (now_Turns : Bool) (j : Int) : laws_FnMazesTurn_c_c_c_c_l (k + 1) ((d_Width, d_Height, d_Cells, d_Turns), k_, balls, (e_Width, e_Height, e_Cells, e_Turns), i, number, exits, thirteen, t, (read_Width, read_Height, read_Cells, read_Turns), fifteen, (now_Width, now_Height, now_Cells, now_Turns), j) =
  cond (decide (j ≤ balls))
  ((impl_EntryOf k ((now_Width, now_Height, now_Cells, now_Turns), k_)).bind fun r1 =>
   (impl_MazeAfterBall k ((now_Width, now_Height, now_Cells, now_Turns), r1.1)).bind fun r2 =>
   cond (!r1.2)
   (some (.inl false))
   (cond (!r2.2)
    (some (.inl false))
    (cond (!(((r2.1.1 == d_Width) && ((r2.1.2.1 == d_Height) && ((r2.1.2.2.1 == d_Cells) && ((r2.1.2.2.2 == d_Turns) && true)))) == (j == balls)))
     (some (.inl false))
     (laws_FnMazesTurn_c_c_c_c_l k ((d_Width, d_Height, d_Cells, d_Turns), k_, balls, (e_Width, e_Height, e_Cells, e_Turns), i, number, exits, thirteen, t, (read_Width, read_Height, read_Cells, read_Turns), fifteen, r2.1, (w64 (j + 1)))))))
  (some (.inr ((e_Width, e_Height, e_Cells, e_Turns), i, number, exits, thirteen, t, (read_Width, read_Height, read_Cells, read_Turns), fifteen))) := by kernel_rfl
theorem impl_EntryOf.eq (k : Nat) (m_Width : Int) (m_Height : Int) (m_Cells : ByteArray) (m_Turns : Bool) (k_ : Int) : impl_EntryOf (k + 1) ((m_Width, m_Height, m_Cells, m_Turns), k_) =
  (impl_isEnd k ((m_Width, m_Height, m_Cells, m_Turns), k_)).bind fun r1 =>
  cond (!r1)
  (some ((0, 0, 0), false))
  ((impl_Maze_entry k ((m_Width, m_Height, m_Cells, m_Turns), k_)).bind fun r2 =>
   some (r2, true)) := by kernel_rfl
theorem impl_MazeAfterBall.eq (k : Nat) (m_Width : Int) (m_Height : Int) (m_Cells : ByteArray) (m_Turns : Bool) (b_X : Int) (b_Y : Int) (b_Way : Int) : impl_MazeAfterBall (k + 1) ((m_Width, m_Height, m_Cells, m_Turns), (b_X, b_Y, b_Way)) =
  (impl_passOf k ((m_Width, m_Height, m_Cells, m_Turns), (b_X, b_Y, b_Way))).bind fun r1 =>
  some ((r1.1.1, r1.1.2.1, r1.1.2.2.1, r1.1.2.2.2.1), r1.2) := by kernel_rfl
theorem impl_passOf.eq (k : Nat) (m_Width : Int) (m_Height : Int) (m_Cells : ByteArray) (m_Turns : Bool) (b_X : Int) (b_Y : Int) (b_Way : Int) : impl_passOf (k + 1) ((m_Width, m_Height, m_Cells, m_Turns), (b_X, b_Y, b_Way)) =
  (impl_IsBall k ((m_Width, m_Height, m_Cells, m_Turns), (b_X, b_Y, b_Way))).bind fun r1 =>
  cond (!r1)
  (some ((0, 0, ByteArray.empty, false, 0, 0, 0), false))
  ((impl_Maze_pass k ((m_Width, m_Height, m_Cells, m_Turns), (b_X, b_Y, b_Way))).bind fun r2 =>
   some r2) := by kernel_rfl
theorem impl_IsBall.eq (k : Nat) (m_Width : Int) (m_Height : Int) (m_Cells : ByteArray) (m_Turns : Bool) (b_X : Int) (b_Y : Int) (b_Way : Int) : impl_IsBall (k + 1) ((m_Width, m_Height, m_Cells, m_Turns), (b_X, b_Y, b_Way)) =
  (impl_IsMaze k (m_Width, m_Height, m_Cells, m_Turns)).bind fun r1 =>
  cond r1
  ((impl_isAnt k (m_Width, m_Height, b_X, b_Y, b_Way)).bind fun r2 =>
   some r2)
  (some false) := by kernel_rfl
theorem impl_isAnt.eq (k : Nat) (width : Int) (height : Int) (x : Int) (y : Int) (way : Int) : impl_isAnt (k + 1) (width, height, x, y, way) =
  (impl_within k (x, 0, (w64 (width - 1)))).bind fun r1 =>
  cond r1
  ((impl_within k (y, 0, (w64 (height - 1)))).bind fun r2 =>
   cond r2
   ((impl_isWay k way).bind fun r3 =>
    some r3)
   (some false))
  (some false) := by kernel_rfl
theorem impl_isWay.eq (k : Nat) (way : Int) : impl_isWay (k + 1) way =
  (impl_within k (way, 0, 3)).bind fun r1 =>
  some r1 := by kernel_rfl
theorem laws_FnMazesTurn_c_c_c_c_c.eq (k : Nat) (e_Width : Int) (e_Height : Int) (e_Cells : ByteArray) (e_Turns : Bool) (i : Int) (number : Int) (exits : List Int) (thirteen : Bool) (t : ByteArray) (read_Width : Int) (read_Height : Int) (read_Cells : ByteArray) (read_Turns : Bool) (fifteen : Bool) : laws_FnMazesTurn_c_c_c_c_c (k + 1) ((e_Width, e_Height, e_Cells, e_Turns), i, number, exits, thirteen, t, (read_Width, read_Height, read_Cells, read_Turns), fifteen) =
  cond thirteen
  (cond ((exits.length : Int) != number)
   (some false)
   (cond (decide (number > 0))
    ((impl_EntryOf k ((e_Width, e_Height, e_Cells, e_Turns), i)).bind fun r1 =>
     (impl_ExitOf k ((e_Width, e_Height, e_Cells, e_Turns), r1.1)).bind fun r2 =>
     (impl_MazeAfterBall k ((e_Width, e_Height, e_Cells, e_Turns), r1.1)).bind fun r3 =>
     (impl_ExitsInTurn k (r3.1, i, (w64 (number - 1)))).bind fun r4 =>
     cond (!r1.2)
     (some false)
     (cond (!r2.2)
      (some false)
      (cond (inB 0 exits.length)
       (cond (r2.1 != (exits.getD 0 default))
        (some false)
        (cond (!r3.2)
         (some false)
         (cond (!r4.2)
          (some false)
          (cond (decide ((1 : Int) ≤ (exits.length : Int)))
           ((laws_dSame k (r4.1, ((exits.drop 1).take (exits.length - 1)))).bind fun r5 =>
            cond (!r5)
            (some false)
            ((laws_FnMazesTurn_c_c_c_c_c_c k (t, (read_Width, read_Height, read_Cells, read_Turns), fifteen)).bind fun r6 =>
             some r6))
           (none)))))
       (none))))
    ((laws_FnMazesTurn_c_c_c_c_c_c k (t, (read_Width, read_Height, read_Cells, read_Turns), fifteen)).bind fun r7 =>
     some r7)))
  ((laws_FnMazesTurn_c_c_c_c_c_c k (t, (read_Width, read_Height, read_Cells, read_Turns), fifteen)).bind fun r8 =>
   some r8) := by kernel_rfl
theorem impl_ExitOf.eq (k : Nat) (m_Width : Int) (m_Height : Int) (m_Cells : ByteArray) (m_Turns : Bool) (b_X : Int) (b_Y : Int) (b_Way : Int) : impl_ExitOf (k + 1) ((m_Width, m_Height, m_Cells, m_Turns), (b_X, b_Y, b_Way)) =
  (impl_passOf k ((m_Width, m_Height, m_Cells, m_Turns), (b_X, b_Y, b_Way))).bind fun r1 =>
  some (r1.1.2.2.2.2.1, r1.2) := by kernel_rfl
theorem laws_FnMazesTurn_c_c_c_c_c_c.eq (k : Nat) (t : ByteArray) (read_Width : Int) (read_Height : Int) (read_Cells : ByteArray) (read_Turns : Bool) (fifteen : Bool) : laws_FnMazesTurn_c_c_c_c_c_c (k + 1) (t, (read_Width, read_Height, read_Cells, read_Turns), fifteen) =
  cond fifteen
  ((impl_MazeText k (read_Width, read_Height, read_Cells, read_Turns)).bind fun r1 =>
   cond r1.2
   (some (strEq r1.1 t))
   (some false))
  (some true) := by kernel_rfl
end Go.Proofs.YtcmebphcoamohaaGreatDoorS
