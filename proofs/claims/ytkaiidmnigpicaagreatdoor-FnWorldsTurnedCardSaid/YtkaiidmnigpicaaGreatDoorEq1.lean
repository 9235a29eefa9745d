/- What each function computes (printed by wip/sim/gen.py). -/
import Derived.Test.YtkaiidmnigpicaaGreatDoorTab
namespace Go.Proofs.YtkaiidmnigpicaaGreatDoorS
open Go Go.Proofs
set_option maxRecDepth 100000
set_option linter.unusedVariables false
theorem impl_moved_3.eq (k : Nat) (cells : ByteArray) (from_ : Int) (width : Int) (height : Int) (to_0 : Int) (to_1 : ByteArray) (to_11 : Int) (to_12 : Int) (to_13 : ByteArray) (to_14 : Int) (to_15 : Int) (to_16 : Int) (to_2 : Int) : impl_moved_3 (k + 1) (cells, from_, width, height, (to_0, (to_1, to_11, to_12, to_13, to_14, to_15, to_16), to_2)) =
  cond (((decide ((0 : Int) ≤ (w64 (width * height)))) && (decide ((w64 (width * height)) ≤ (w64 (width * height))))) && (fits (w64 (width * height)).toNat 1))
  ((impl_moved_3_l k (cells, from_, width, (to_0, (to_1, to_11, to_12, to_13, to_14, to_15, to_16), to_2), (List.replicate (w64 (width * height)).toNat 0), (cells.size : Int), 0)).bind fun r1 =>
   some (ofBytes r1))
  (none) := by kernel_rfl
theorem impl_moved_3_l.eq (k : Nat) (cells : ByteArray) (from_ : Int) (width : Int) (to_0 : Int) (to_1 : ByteArray) (to_11 : Int) (to_12 : Int) (to_13 : ByteArray) (to_14 : Int) (to_15 : Int) (to_16 : Int) (to_2 : Int) (out : List Int) (t20 : Int) (t21 : Int) : impl_moved_3_l (k + 1) (cells, from_, width, (to_0, (to_1, to_11, to_12, to_13, to_14, to_15, to_16), to_2), out, t20, t21) =
  cond (decide (t21 < t20))
  (cond (from_ != 0)
   (cond (from_ != 0)
    ((impl_ShiftWorld_1 k ((t21.tmod from_), (w64 (t21.tdiv from_)), to_0, (to_1, to_11, to_12, to_13, to_14, to_15, to_16), to_2)).bind fun r1 =>
     cond (inB t21 cells.size)
     (cond (inB (w64 ((w64 (r1.2 * width)) + r1.1)) out.length)
      (impl_moved_3_l k (cells, from_, width, (to_0, (to_1, to_11, to_12, to_13, to_14, to_15, to_16), to_2), (out.set ((w64 ((w64 (r1.2 * width)) + r1.1)).toNat) (bt cells t21.toNat)), t20, (w64 (t21 + 1))))
      (none))
     (none))
    (none))
   (none))
  (some out) := by kernel_rfl
theorem impl_ShiftWorld_1.eq (k : Nat) (x : Int) (y : Int) (t2_0 : Int) (t3_0 : ByteArray) (t3_1 : Int) (t3_2 : Int) (t3_3 : ByteArray) (t3_4 : Int) (t3_5 : Int) (t3_6 : Int) (t4_0 : Int) : impl_ShiftWorld_1 (k + 1) (x, y, t2_0, (t3_0, t3_1, t3_2, t3_3, t3_4, t3_5, t3_6), t4_0) =
  cond (t3_1 != 0)
  (cond (t3_2 != 0)
   (some (((w64 (x + t2_0)).tmod t3_1), ((w64 (y + t4_0)).tmod t3_2)))
   (none))
  (none) := by kernel_rfl
theorem spec_ShiftWorld.eq (k : Nat) (w_Rule : ByteArray) (w_Width : Int) (w_Height : Int) (w_Cells : ByteArray) (w_X : Int) (w_Y : Int) (w_Way : Int) (right : Int) (down : Int) : spec_ShiftWorld (k + 1) ((w_Rule, w_Width, w_Height, w_Cells, w_X, w_Y, w_Way), right, down) =
  (spec_woCell k ((w_Rule, w_Width, w_Height, w_Cells, w_X, w_Y, w_Way), right, down)).bind fun r1 =>
  cond (!r1)
  (some ((ByteArray.empty, 0, 0, ByteArray.empty, 0, 0, 0), false))
  ((spec_woMap k ((w_Rule, w_Width, w_Height, w_Cells, w_X, w_Y, w_Way), w_Width, w_Height, (1, 0, right, 0, 1, down))).bind fun r2 =>
   some (r2, true)) := by kernel_rfl
theorem spec_woCell.eq (k : Nat) (w_Rule : ByteArray) (w_Width : Int) (w_Height : Int) (w_Cells : ByteArray) (w_X : Int) (w_Y : Int) (w_Way : Int) (x : Int) (y : Int) : spec_woCell (k + 1) ((w_Rule, w_Width, w_Height, w_Cells, w_X, w_Y, w_Way), x, y) =
  (spec_woGood k (w_Rule, w_Width, w_Height, w_Cells, w_X, w_Y, w_Way)).bind fun r1 =>
  cond r1
  ((spec_l1In k (x, 0, (w64 (w_Width - 1)))).bind fun r2 =>
   cond r2
   ((spec_l1In k (y, 0, (w64 (w_Height - 1)))).bind fun r3 =>
    some r3)
   (some false))
  (some false) := by kernel_rfl
theorem spec_DrawPaintCell.eq (k : Nat) (code : List Int) : spec_DrawPaintCell (k + 1) code =
  (spec_DrawColourAt k code).bind fun r1 =>
  (spec_l1Cur_among k ((code, 0, 0), [0, 1, 0, 1, 2, 5, (-1), 4611686018427387904])).bind fun r2 =>
  some (r1.1, r1.2.1, r1.2.2, r2.1) := by kernel_rfl
theorem impl_PaintCell.eq (k : Nat) (w_Rule : ByteArray) (w_Width : Int) (w_Height : Int) (w_Cells : ByteArray) (w_X : Int) (w_Y : Int) (w_Way : Int) (x : Int) (y : Int) (colour : Int) : impl_PaintCell (k + 1) ((w_Rule, w_Width, w_Height, w_Cells, w_X, w_Y, w_Way), x, y, colour) =
  (impl_isPlace k ((w_Rule, w_Width, w_Height, w_Cells, w_X, w_Y, w_Way), x, y)).bind fun r1 =>
  cond (!r1)
  (some ((ByteArray.empty, 0, 0, ByteArray.empty, 0, 0, 0), false))
  ((impl_within k (colour, 0, (w64 ((w_Rule.size : Int) - 1)))).bind fun r2 =>
   cond (!r2)
   (some ((ByteArray.empty, 0, 0, ByteArray.empty, 0, 0, 0), false))
   ((impl_painted k (w_Cells, (w64 ((w64 (y * w_Width)) + x)), colour)).bind fun r3 =>
    some ((w_Rule, w_Width, w_Height, r3, w_X, w_Y, w_Way), true))) := by kernel_rfl
theorem spec_PaintCell.eq (k : Nat) (w_Rule : ByteArray) (w_Width : Int) (w_Height : Int) (w_Cells : ByteArray) (w_X : Int) (w_Y : Int) (w_Way : Int) (x : Int) (y : Int) (colour : Int) : spec_PaintCell (k + 1) ((w_Rule, w_Width, w_Height, w_Cells, w_X, w_Y, w_Way), x, y, colour) =
  (spec_woCell k ((w_Rule, w_Width, w_Height, w_Cells, w_X, w_Y, w_Way), x, y)).bind fun r1 =>
  cond (!r1)
  (some ((ByteArray.empty, 0, 0, ByteArray.empty, 0, 0, 0), false))
  ((spec_l1In k (colour, 0, (w64 ((w_Rule.size : Int) - 1)))).bind fun r2 =>
   cond (!r2)
   (some ((ByteArray.empty, 0, 0, ByteArray.empty, 0, 0, 0), false))
   ((spec_woPaint k ((w_Rule, w_Width, w_Height, w_Cells, w_X, w_Y, w_Way), x, y, colour)).bind fun r3 =>
    some (r3.2, true))) := by kernel_rfl
theorem spec_DrawPlaceAnt.eq (k : Nat) (code : List Int) : spec_DrawPlaceAnt (k + 1) code =
  (spec_DrawColourAt k code).bind fun r1 =>
  (spec_l1Cur_among k ((code, 0, 0), [0, 1, 2, 3, 4, (-1)])).bind fun r2 =>
  some (r1.1, r1.2.1, r1.2.2, r2.1) := by kernel_rfl
theorem impl_PlaceAnt.eq (k : Nat) (w_Rule : ByteArray) (w_Width : Int) (w_Height : Int) (w_Cells : ByteArray) (w_X : Int) (w_Y : Int) (w_Way : Int) (x : Int) (y : Int) (way : Int) : impl_PlaceAnt (k + 1) ((w_Rule, w_Width, w_Height, w_Cells, w_X, w_Y, w_Way), x, y, way) =
  (impl_isPlace k ((w_Rule, w_Width, w_Height, w_Cells, w_X, w_Y, w_Way), x, y)).bind fun r1 =>
  cond (!r1)
  (some ((ByteArray.empty, 0, 0, ByteArray.empty, 0, 0, 0), false))
  ((impl_isWay k way).bind fun r2 =>
   cond (!r2)
   (some ((ByteArray.empty, 0, 0, ByteArray.empty, 0, 0, 0), false))
   (some ((w_Rule, w_Width, w_Height, w_Cells, x, y, way), true))) := by kernel_rfl
theorem spec_PlaceAnt.eq (k : Nat) (w_Rule : ByteArray) (w_Width : Int) (w_Height : Int) (w_Cells : ByteArray) (w_X : Int) (w_Y : Int) (w_Way : Int) (x : Int) (y : Int) (way : Int) : spec_PlaceAnt (k + 1) ((w_Rule, w_Width, w_Height, w_Cells, w_X, w_Y, w_Way), x, y, way) =
  (spec_woCell k ((w_Rule, w_Width, w_Height, w_Cells, w_X, w_Y, w_Way), x, y)).bind fun r1 =>
  cond (!r1)
  (some ((ByteArray.empty, 0, 0, ByteArray.empty, 0, 0, 0), false))
  ((spec_l1In k (way, 0, 3)).bind fun r2 =>
   cond (!r2)
   (some ((ByteArray.empty, 0, 0, ByteArray.empty, 0, 0, 0), false))
   (some ((w_Rule, w_Width, w_Height, w_Cells, x, y, way), true))) := by kernel_rfl
theorem impl_ColourAt.eq (k : Nat) (w_Rule : ByteArray) (w_Width : Int) (w_Height : Int) (w_Cells : ByteArray) (w_X : Int) (w_Y : Int) (w_Way : Int) (x : Int) (y : Int) : impl_ColourAt (k + 1) ((w_Rule, w_Width, w_Height, w_Cells, w_X, w_Y, w_Way), x, y) =
  (impl_isPlace k ((w_Rule, w_Width, w_Height, w_Cells, w_X, w_Y, w_Way), x, y)).bind fun r1 =>
  cond (!r1)
  (some (0, false))
  (cond (inB (w64 ((w64 (y * w_Width)) + x)) w_Cells.size)
   (some ((w64 (w8 ((bt w_Cells ((w64 ((w64 (y * w_Width)) + x)).toNat)) - 48))), true))
   (none)) := by kernel_rfl
theorem spec_ColourAt.eq (k : Nat) (w_Rule : ByteArray) (w_Width : Int) (w_Height : Int) (w_Cells : ByteArray) (w_X : Int) (w_Y : Int) (w_Way : Int) (x : Int) (y : Int) : spec_ColourAt (k + 1) ((w_Rule, w_Width, w_Height, w_Cells, w_X, w_Y, w_Way), x, y) =
  (spec_woCell k ((w_Rule, w_Width, w_Height, w_Cells, w_X, w_Y, w_Way), x, y)).bind fun r1 =>
  cond (!r1)
  (some (0, false))
  ((spec_woColour k ((w_Rule, w_Width, w_Height, w_Cells, w_X, w_Y, w_Way), x, y)).bind fun r2 =>
   some (r2, true)) := by kernel_rfl
theorem spec_DrawEmptyWorld.eq (k : Nat) (code : List Int) : spec_DrawEmptyWorld (k + 1) code =
  (spec_l1Cur_rule k (code, 0, 0)).bind fun r1 =>
  (spec_l1Cur_among k (r1.2, [1, 2, 3, 9, 10, 0, (-1)])).bind fun r2 =>
  (spec_l1Cur_among k (r2.2, [1, 2, 3, 9, 10, 4611686018427387904])).bind fun r3 =>
  some (r1.1, r2.1, r3.1) := by kernel_rfl
theorem impl_EmptyWorld.eq (k : Nat) (rule : ByteArray) (width : Int) (height : Int) : impl_EmptyWorld (k + 1) (rule, width, height) =
  (impl_IsRule k rule).bind fun r1 =>
  cond (!r1)
  (some ((ByteArray.empty, 0, 0, ByteArray.empty, 0, 0, 0), false))
  ((impl_isSize k (width, height)).bind fun r2 =>
   cond (!r2)
   (some ((ByteArray.empty, 0, 0, ByteArray.empty, 0, 0, 0), false))
   ((strings_Repeat k ((bs [48]), (w64 (width * height)))).bind fun r3 =>
    some ((rule, width, height, r3, 0, 0, 0), true))) := by kernel_rfl
theorem strings_Repeat.eq (k : Nat) (d : ByteArray × Int) : strings_Repeat (k + 1) d = (fun d => strRep d.1 d.2) d := by kernel_rfl
theorem spec_EmptyWorld.eq (k : Nat) (rule : ByteArray) (width : Int) (height : Int) : spec_EmptyWorld (k + 1) (rule, width, height) =
  (spec_woRule k rule).bind fun r1 =>
  cond (!r1)
  (some ((ByteArray.empty, 0, 0, ByteArray.empty, 0, 0, 0), false))
  ((spec_l1In k (width, 1, 9)).bind fun r2 =>
   cond (!r2)
   (some ((ByteArray.empty, 0, 0, ByteArray.empty, 0, 0, 0), false))
   ((spec_l1In k (height, 1, 9)).bind fun r3 =>
    cond (!r3)
    (some ((ByteArray.empty, 0, 0, ByteArray.empty, 0, 0, 0), false))
    ((spec_woZeros k (w64 (width * height))).bind fun r4 =>
     some ((rule, width, height, r4, 0, 0, 0), true)))) := by kernel_rfl
theorem impl_OtherRule.eq (k : Nat) (rule : ByteArray) : impl_OtherRule (k + 1) rule =
  (impl_IsRule k rule).bind fun r1 =>
  cond (!r1)
  (some (ByteArray.empty, false))
  ((impl_other k rule).bind fun r2 =>
   some (r2, true)) := by kernel_rfl
theorem spec_OtherRule.eq (k : Nat) (rule : ByteArray) : spec_OtherRule (k + 1) rule =
  (spec_woRule k rule).bind fun r1 =>
  cond (!r1)
  (some (ByteArray.empty, false))
  ((spec_woOther k rule).bind fun r2 =>
   some (r2, true)) := by kernel_rfl
theorem spec_DrawParseWorld.eq (k : Nat) (code : List Int) : spec_DrawParseWorld (k + 1) code =
  (spec_l1Cur_sureWorld k ((code, 0, 0), 3)).bind fun r1 =>
  (spec_woText k r1.1).bind fun r2 =>
  (spec_l1Cur_one k (r1.2, 3)).bind fun r3 =>
  cond r3.1
  ((spec_l1Cur_spoilt k (r3.2, r2, (bs [48, 49, 50, 51, 76, 82, 58, 44, 120]))).bind fun r4 =>
   some r4.1)
  (some r2) := by kernel_rfl
theorem spec_l1Cur_spoilt.eq (k : Nat) (c_code : List Int) (c_at : Int) (c_seed : Int) (t : ByteArray) (with_ : ByteArray) : spec_l1Cur_spoilt (k + 1) ((c_code, c_at, c_seed), t, with_) =
  (spec_l1Cur_pick k ((c_code, c_at, c_seed), 2)).bind fun r1 =>
  (spec_l1Cur_spoilt_l k (r1.2, t, with_, (w64 (1 + r1.1)), ())).bind fun r2 =>
  some r2 := by kernel_rfl
theorem spec_l1Cur_spoilt_l.eq (k : Nat) (c_code : List Int) (c_at : Int) (c_seed : Int) (t : ByteArray) (with_ : ByteArray) (n : Int) : spec_l1Cur_spoilt_l (k + 1) ((c_code, c_at, c_seed), t, with_, n, ()) =
  cond (decide (n > 0))
  (cond (decide ((t.size : Int) > 0))
   ((spec_l1Cur_pick k ((c_code, c_at, c_seed), (t.size : Int))).bind fun r1 =>
    (spec_l1Cur_pick k (r1.2, (with_.size : Int))).bind fun r2 =>
    cond (inB r2.1 with_.size)
    ((spec_l1Cur_pick k (r2.2, 3)).bind fun r3 =>
     cond (r3.1 == 0)
     (cond ((decide ((0 : Int) ≤ r1.1)) && (decide (r1.1 ≤ (t.size : Int))))
      (cond (fitS (t.extract 0 r1.1.toNat) (ofBytes [(bt with_ r2.1.toNat)]))
       (cond ((decide ((0 : Int) ≤ r1.1)) && (decide (r1.1 ≤ (t.size : Int))))
        (cond (fitS ((t.extract 0 r1.1.toNat) ++ (ofBytes [(bt with_ r2.1.toNat)])) (t.extract r1.1.toNat t.size))
         (spec_l1Cur_spoilt_l k (r3.2, (((t.extract 0 r1.1.toNat) ++ (ofBytes [(bt with_ r2.1.toNat)])) ++ (t.extract r1.1.toNat t.size)), with_, (w64 (n - 1)), ()))
         (none))
        (none))
       (none))
      (none))
     (cond (r3.1 == 1)
      (cond ((decide ((0 : Int) ≤ r1.1)) && (decide (r1.1 ≤ (t.size : Int))))
       (cond (fitS (t.extract 0 r1.1.toNat) (ofBytes [(bt with_ r2.1.toNat)]))
        (cond ((decide ((0 : Int) ≤ (w64 (r1.1 + 1)))) && (decide ((w64 (r1.1 + 1)) ≤ (t.size : Int))))
         (cond (fitS ((t.extract 0 r1.1.toNat) ++ (ofBytes [(bt with_ r2.1.toNat)])) (t.extract ((w64 (r1.1 + 1)).toNat) t.size))
          (spec_l1Cur_spoilt_l k (r3.2, (((t.extract 0 r1.1.toNat) ++ (ofBytes [(bt with_ r2.1.toNat)])) ++ (t.extract ((w64 (r1.1 + 1)).toNat) t.size)), with_, (w64 (n - 1)), ()))
          (none))
         (none))
        (none))
       (none))
      (cond ((decide ((0 : Int) ≤ r1.1)) && (decide (r1.1 ≤ (t.size : Int))))
       (cond ((decide ((0 : Int) ≤ (w64 (r1.1 + 1)))) && (decide ((w64 (r1.1 + 1)) ≤ (t.size : Int))))
        (cond (fitS (t.extract 0 r1.1.toNat) (t.extract ((w64 (r1.1 + 1)).toNat) t.size))
         (spec_l1Cur_spoilt_l k (r3.2, ((t.extract 0 r1.1.toNat) ++ (t.extract ((w64 (r1.1 + 1)).toNat) t.size)), with_, (w64 (n - 1)), ()))
         (none))
        (none))
       (none))))
    (none))
   (some (t, (c_code, c_at, c_seed))))
  (some (t, (c_code, c_at, c_seed))) := by kernel_rfl
theorem spec_ParseWorld.eq (k : Nat) (s : ByteArray) : spec_ParseWorld (k + 1) s =
  (spec_woParse k s).bind fun r1 =>
  some r1 := by kernel_rfl
theorem spec_woParse.eq (k : Nat) (s : ByteArray) : spec_woParse (k + 1) s =
  (spec_l1Split k (s, 58)).bind fun r1 =>
  cond (decide ((s.size : Int) > 120))
  (some ((ByteArray.empty, 0, 0, ByteArray.empty, 0, 0, 0), false))
  (cond ((r1.length : Int) != 4)
   (some ((ByteArray.empty, 0, 0, ByteArray.empty, 0, 0, 0), false))
   (cond (inB 1 r1.length)
    ((spec_l1Split k ((r1.getD 1 default), 120)).bind fun r2 =>
     cond (inB 3 r1.length)
     ((spec_l1Split k ((r1.getD 3 default), 44)).bind fun r3 =>
      cond ((r2.length : Int) != 2)
      (some ((ByteArray.empty, 0, 0, ByteArray.empty, 0, 0, 0), false))
      (cond ((r3.length : Int) != 3)
       (some ((ByteArray.empty, 0, 0, ByteArray.empty, 0, 0, 0), false))
       (cond (inB 0 r1.length)
        (cond (inB 0 r2.length)
         ((spec_l1Read k (r2.getD 0 default)).bind fun r4 =>
          cond (inB 1 r2.length)
          ((spec_l1Read k (r2.getD 1 default)).bind fun r5 =>
           cond (inB 2 r1.length)
           (cond (inB 0 r3.length)
            ((spec_l1Read k (r3.getD 0 default)).bind fun r6 =>
             cond (inB 1 r3.length)
             ((spec_l1Read k (r3.getD 1 default)).bind fun r7 =>
              cond (inB 2 r3.length)
              ((spec_l1Read k (r3.getD 2 default)).bind fun r8 =>
               (spec_woGood k ((r1.getD 0 default), r4, r5, (r1.getD 2 default), r6, r7, r8)).bind fun r9 =>
               cond (!r9)
               (some ((ByteArray.empty, 0, 0, ByteArray.empty, 0, 0, 0), false))
               (some (((r1.getD 0 default), r4, r5, (r1.getD 2 default), r6, r7, r8), true)))
              (none))
             (none))
            (none))
           (none))
          (none))
         (none))
        (none))))
     (none))
    (none))) := by kernel_rfl
theorem spec_l1Split.eq (k : Nat) (s : ByteArray) (b : Int) : spec_l1Split (k + 1) (s, b) =
  (spec_l1Split_l k (s, b, [], 0, 0)).bind fun r1 =>
  cond ((decide ((0 : Int) ≤ r1.2.2)) && (decide (r1.2.2 ≤ (r1.1.size : Int))))
  (cond (fits (r1.2.1.length + 1) 16)
   (some (r1.2.1 ++ [(r1.1.extract r1.2.2.toNat r1.1.size)]))
   (none))
  (none) := by kernel_rfl
theorem spec_l1Split_l.eq (k : Nat) (s : ByteArray) (b : Int) (out : List ByteArray) (from_ : Int) (i : Int) : spec_l1Split_l (k + 1) (s, b, out, from_, i) =
  cond (decide (i < (s.size : Int)))
  (cond (inB i s.size)
   (cond ((bt s i.toNat) == b)
    (cond (((decide ((0 : Int) ≤ i)) && (decide (i ≤ (s.size : Int)))) && ((decide ((0 : Int) ≤ from_)) && (decide (from_ ≤ i))))
     (cond (fits (out.length + 1) 16)
      (spec_l1Split_l k (s, b, (out ++ [(s.extract from_.toNat i.toNat)]), (w64 (i + 1)), (w64 (i + 1))))
      (none))
     (none))
    (spec_l1Split_l k (s, b, out, from_, (w64 (i + 1)))))
   (none))
  (some (s, out, from_)) := by kernel_rfl
theorem spec_l1Read.eq (k : Nat) (s : ByteArray) : spec_l1Read (k + 1) s =
  (spec_l1In k ((s.size : Int), 1, 6)).bind fun r1 =>
  cond (!r1)
  (some (-1))
  (cond (inB 0 s.size)
   (cond ((bt s 0) == 48)
    (cond (decide ((s.size : Int) > 1))
     (some (-1))
     ((spec_l1Read_l k (s, 0, 0)).bind fun r2 =>
      r2.elim
      (fun r3 => some r3)
      (fun r4 => some r4)))
    ((spec_l1Read_l k (s, 0, 0)).bind fun r5 =>
     r5.elim
     (fun r6 => some r6)
     (fun r7 => some r7)))
   (none)) := by kernel_rfl
theorem spec_l1Read_l.eq (k : Nat) (s : ByteArray) (n : Int) (i : Int) : spec_l1Read_l (k + 1) (s, n, i) =
  cond (decide (i < (s.size : Int)))
  (cond (inB i s.size)
   (cond (decide ((bt s i.toNat) < 48))
    (some (.inl (-1)))
    (cond (inB i s.size)
     (cond (decide ((bt s i.toNat) > 57))
      (some (.inl (-1)))
      (cond (inB i s.size)
       (spec_l1Read_l k (s, (w64 ((w64 (10 * n)) + (w64 (w8 ((bt s i.toNat) - 48))))), (w64 (i + 1))))
       (none)))
     (none)))
   (none))
  (some (.inr n)) := by kernel_rfl
theorem spec_IsRule.eq (k : Nat) (rule : ByteArray) : spec_IsRule (k + 1) rule =
  (spec_woRule k rule).bind fun r1 =>
  some r1 := by kernel_rfl
theorem laws_FnWorldsTurned_c_c_c.eq (k : Nat) (v_Rule : ByteArray) (v_Width : Int) (v_Height : Int) (v_Cells : ByteArray) (v_X : Int) (v_Y : Int) (v_Way : Int) (x : Int) (y : Int) (shifted_Rule : ByteArray) (shifted_Width : Int) (shifted_Height : Int) (shifted_Cells : ByteArray) (shifted_X : Int) (shifted_Y : Int) (shifted_Way : Int) (seven : Bool) (u_Rule : ByteArray) (u_Width : Int) (u_Height : Int) (u_Cells : ByteArray) (u_X : Int) (u_Y : Int) (u_Way : Int) (p : Int) (q : Int) (colour : Int) (painted_Rule : ByteArray) (painted_Width : Int) (painted_Height : Int) (painted_Cells : ByteArray) (painted_X : Int) (painted_Y : Int) (painted_Way : Int) (nine : Bool) (z_Rule : ByteArray) (z_Width : Int) (z_Height : Int) (z_Cells : ByteArray) (z_X : Int) (z_Y : Int) (z_Way : Int) (i : Int) (j : Int) (way : Int) (placed_Rule : ByteArray) (placed_Width : Int) (placed_Height : Int) (placed_Cells : ByteArray) (placed_X : Int) (placed_Y : Int) (placed_Way : Int) (eleven : Bool) (rule : ByteArray) (width : Int) (height : Int) (empty_Rule : ByteArray) (empty_Width : Int) (empty_Height : Int) (empty_Cells : ByteArray) (empty_X : Int) (empty_Y : Int) (empty_Way : Int) (fifteen : Bool) (other : ByteArray) (seventeen : Bool) (s : ByteArray) (read_Rule : ByteArray) (read_Width : Int) (read_Height : Int) (read_Cells : ByteArray) (read_X : Int) (read_Y : Int) (read_Way : Int) (nineteen : Bool) : laws_FnWorldsTurned_c_c_c (k + 1) ((v_Rule, v_Width, v_Height, v_Cells, v_X, v_Y, v_Way), x, y, (shifted_Rule, shifted_Width, shifted_Height, shifted_Cells, shifted_X, shifted_Y, shifted_Way), seven, (u_Rule, u_Width, u_Height, u_Cells, u_X, u_Y, u_Way), p, q, colour, (painted_Rule, painted_Width, painted_Height, painted_Cells, painted_X, painted_Y, painted_Way), nine, (z_Rule, z_Width, z_Height, z_Cells, z_X, z_Y, z_Way), i, j, way, (placed_Rule, placed_Width, placed_Height, placed_Cells, placed_X, placed_Y, placed_Way), eleven, rule, width, height, (empty_Rule, empty_Width, empty_Height, empty_Cells, empty_X, empty_Y, empty_Way), fifteen, other, seventeen, s, (read_Rule, read_Width, read_Height, read_Cells, read_X, read_Y, read_Way), nineteen) =
  cond seven
  ((impl_StepWorld k (v_Rule, v_Width, v_Height, v_Cells, v_X, v_Y, v_Way)).bind fun r1 =>
   (impl_StepWorld k (shifted_Rule, shifted_Width, shifted_Height, shifted_Cells, shifted_X, shifted_Y, shifted_Way)).bind fun r2 =>
   (impl_ShiftWorld k (r1.1, x, y)).bind fun r3 =>
   cond (v_Width != 0)
   (cond (v_Height != 0)
    ((impl_ShiftWorld k ((shifted_Rule, shifted_Width, shifted_Height, shifted_Cells, shifted_X, shifted_Y, shifted_Way), ((w64 (v_Width - x)).tmod v_Width), ((w64 (v_Height - y)).tmod v_Height))).bind fun r4 =>
     cond (!r1.2)
     (some false)
     (cond (!r2.2)
      (some false)
      (cond (!r3.2)
       (some false)
       (cond (!((r2.1.1 == r3.1.1) && ((r2.1.2.1 == r3.1.2.1) && ((r2.1.2.2.1 == r3.1.2.2.1) && ((r2.1.2.2.2.1 == r3.1.2.2.2.1) && ((r2.1.2.2.2.2.1 == r3.1.2.2.2.2.1) && ((r2.1.2.2.2.2.2.1 == r3.1.2.2.2.2.2.1) && ((r2.1.2.2.2.2.2.2 == r3.1.2.2.2.2.2.2) && true))))))))
        (some false)
        (cond (!r4.2)
         (some false)
         (cond (!((r4.1.1 == v_Rule) && ((r4.1.2.1 == v_Width) && ((r4.1.2.2.1 == v_Height) && ((r4.1.2.2.2.1 == v_Cells) && ((r4.1.2.2.2.2.1 == v_X) && ((r4.1.2.2.2.2.2.1 == v_Y) && ((r4.1.2.2.2.2.2.2 == v_Way) && true))))))))
          (some false)
          ((laws_FnWorldsTurned_c_c_c_c k ((u_Rule, u_Width, u_Height, u_Cells, u_X, u_Y, u_Way), p, q, colour, (painted_Rule, painted_Width, painted_Height, painted_Cells, painted_X, painted_Y, painted_Way), nine, (z_Rule, z_Width, z_Height, z_Cells, z_X, z_Y, z_Way), i, j, way, (placed_Rule, placed_Width, placed_Height, placed_Cells, placed_X, placed_Y, placed_Way), eleven, rule, width, height, (empty_Rule, empty_Width, empty_Height, empty_Cells, empty_X, empty_Y, empty_Way), fifteen, other, seventeen, s, (read_Rule, read_Width, read_Height, read_Cells, read_X, read_Y, read_Way), nineteen)).bind fun r5 =>
           some r5)))))))
    (none))
   (none))
  ((laws_FnWorldsTurned_c_c_c_c k ((u_Rule, u_Width, u_Height, u_Cells, u_X, u_Y, u_Way), p, q, colour, (painted_Rule, painted_Width, painted_Height, painted_Cells, painted_X, painted_Y, painted_Way), nine, (z_Rule, z_Width, z_Height, z_Cells, z_X, z_Y, z_Way), i, j, way, (placed_Rule, placed_Width, placed_Height, placed_Cells, placed_X, placed_Y, placed_Way), eleven, rule, width, height, (empty_Rule, empty_Width, empty_Height, empty_Cells, empty_X, empty_Y, empty_Way), fifteen, other, seventeen, s, (read_Rule, read_Width, read_Height, read_Cells, read_X, read_Y, read_Way), nineteen)).bind fun r6 =>
   some r6) := by kernel_rfl
theorem laws_FnWorldsTurned_c_c_c_c.eq (k : Nat) (u_Rule : ByteArray) (u_Width : Int) (u_Height : Int) (u_Cells : ByteArray) (u_X : Int) (u_Y : Int) (u_Way : Int) (p : Int) (q : Int) (colour : Int) (painted_Rule : ByteArray) (painted_Width : Int) (painted_Height : Int) (painted_Cells : ByteArray) (painted_X : Int) (painted_Y : Int) (painted_Way : Int) (nine : Bool) (z_Rule : ByteArray) (z_Width : Int) (z_Height : Int) (z_Cells : ByteArray) (z_X : Int) (z_Y : Int) (z_Way : Int) (i : Int) (j : Int) (way : Int) (placed_Rule : ByteArray) (placed_Width : Int) (placed_Height : Int) (placed_Cells : ByteArray) (placed_X : Int) (placed_Y : Int) (placed_Way : Int) (eleven : Bool) (rule : ByteArray) (width : Int) (height : Int) (empty_Rule : ByteArray) (empty_Width : Int) (empty_Height : Int) (empty_Cells : ByteArray) (empty_X : Int) (empty_Y : Int) (empty_Way : Int) (fifteen : Bool) (other : ByteArray) (seventeen : Bool) (s : ByteArray) (read_Rule : ByteArray) (read_Width : Int) (read_Height : Int) (read_Cells : ByteArray) (read_X : Int) (read_Y : Int) (read_Way : Int) (nineteen : Bool) : laws_FnWorldsTurned_c_c_c_c (k + 1) ((u_Rule, u_Width, u_Height, u_Cells, u_X, u_Y, u_Way), p, q, colour, (painted_Rule, painted_Width, painted_Height, painted_Cells, painted_X, painted_Y, painted_Way), nine, (z_Rule, z_Width, z_Height, z_Cells, z_X, z_Y, z_Way), i, j, way, (placed_Rule, placed_Width, placed_Height, placed_Cells, placed_X, placed_Y, placed_Way), eleven, rule, width, height, (empty_Rule, empty_Width, empty_Height, empty_Cells, empty_X, empty_Y, empty_Way), fifteen, other, seventeen, s, (read_Rule, read_Width, read_Height, read_Cells, read_X, read_Y, read_Way), nineteen) =
  cond nine
  ((impl_ColourAt k ((painted_Rule, painted_Width, painted_Height, painted_Cells, painted_X, painted_Y, painted_Way), p, q)).bind fun r1 =>
   (impl_ColourAt k ((u_Rule, u_Width, u_Height, u_Cells, u_X, u_Y, u_Way), p, q)).bind fun r2 =>
   (impl_PaintCell k ((painted_Rule, painted_Width, painted_Height, painted_Cells, painted_X, painted_Y, painted_Way), p, q, r2.1)).bind fun r3 =>
   cond (!r1.2)
   (some false)
   (cond (r1.1 != colour)
    (some false)
    (cond (!r2.2)
     (some false)
     (cond (!r3.2)
      (some false)
      (cond (!((r3.1.1 == u_Rule) && ((r3.1.2.1 == u_Width) && ((r3.1.2.2.1 == u_Height) && ((r3.1.2.2.2.1 == u_Cells) && ((r3.1.2.2.2.2.1 == u_X) && ((r3.1.2.2.2.2.2.1 == u_Y) && ((r3.1.2.2.2.2.2.2 == u_Way) && true))))))))
       (some false)
       ((laws_FnWorldsTurned_c_c_c_c_c k ((z_Rule, z_Width, z_Height, z_Cells, z_X, z_Y, z_Way), i, j, way, (placed_Rule, placed_Width, placed_Height, placed_Cells, placed_X, placed_Y, placed_Way), eleven, rule, width, height, (empty_Rule, empty_Width, empty_Height, empty_Cells, empty_X, empty_Y, empty_Way), fifteen, other, seventeen, s, (read_Rule, read_Width, read_Height, read_Cells, read_X, read_Y, read_Way), nineteen)).bind fun r4 =>
        some r4))))))
  ((laws_FnWorldsTurned_c_c_c_c_c k ((z_Rule, z_Width, z_Height, z_Cells, z_X, z_Y, z_Way), i, j, way, (placed_Rule, placed_Width, placed_Height, placed_Cells, placed_X, placed_Y, placed_Way), eleven, rule, width, height, (empty_Rule, empty_Width, empty_Height, empty_Cells, empty_X, empty_Y, empty_Way), fifteen, other, seventeen, s, (read_Rule, read_Width, read_Height, read_Cells, read_X, read_Y, read_Way), nineteen)).bind fun r5 =>
   some r5) := by kernel_rfl
theorem laws_FnWorldsTurned_c_c_c_c_c.eq (k : Nat) (z_Rule : ByteArray) (z_Width : Int) (z_Height : Int) (z_Cells : ByteArray) (z_X : Int) (z_Y : Int) (z_Way : Int) (i : Int) (j : Int) (way : Int) (placed_Rule : ByteArray) (placed_Width : Int) (placed_Height : Int) (placed_Cells : ByteArray) (placed_X : Int) (placed_Y : Int) (placed_Way : Int) (eleven : Bool) (rule : ByteArray) (width : Int) (height : Int) (empty_Rule : ByteArray) (empty_Width : Int) (empty_Height : Int) (empty_Cells : ByteArray) (empty_X : Int) (empty_Y : Int) (empty_Way : Int) (fifteen : Bool) (other : ByteArray) (seventeen : Bool) (s : ByteArray) (read_Rule : ByteArray) (read_Width : Int) (read_Height : Int) (read_Cells : ByteArray) (read_X : Int) (read_Y : Int) (read_Way : Int) (nineteen : Bool) : laws_FnWorldsTurned_c_c_c_c_c (k + 1) ((z_Rule, z_Width, z_Height, z_Cells, z_X, z_Y, z_Way), i, j, way, (placed_Rule, placed_Width, placed_Height, placed_Cells, placed_X, placed_Y, placed_Way), eleven, rule, width, height, (empty_Rule, empty_Width, empty_Height, empty_Cells, empty_X, empty_Y, empty_Way), fifteen, other, seventeen, s, (read_Rule, read_Width, read_Height, read_Cells, read_X, read_Y, read_Way), nineteen) =
  cond eleven
  (cond (placed_X != i)
   (some false)
   (cond (placed_Y != j)
    (some false)
    (cond (placed_Way != way)
     (some false)
     (cond (!(strEq placed_Cells z_Cells))
      (some false)
      ((laws_FnWorldsTurned_c_c_c_c_c_c k (rule, width, height, (empty_Rule, empty_Width, empty_Height, empty_Cells, empty_X, empty_Y, empty_Way), fifteen, other, seventeen, s, (read_Rule, read_Width, read_Height, read_Cells, read_X, read_Y, read_Way), nineteen)).bind fun r1 =>
       some r1)))))
  ((laws_FnWorldsTurned_c_c_c_c_c_c k (rule, width, height, (empty_Rule, empty_Width, empty_Height, empty_Cells, empty_X, empty_Y, empty_Way), fifteen, other, seventeen, s, (read_Rule, read_Width, read_Height, read_Cells, read_X, read_Y, read_Way), nineteen)).bind fun r2 =>
   some r2) := by kernel_rfl
theorem laws_FnWorldsTurned_c_c_c_c_c_c.eq (k : Nat) (rule : ByteArray) (width : Int) (height : Int) (empty_Rule : ByteArray) (empty_Width : Int) (empty_Height : Int) (empty_Cells : ByteArray) (empty_X : Int) (empty_Y : Int) (empty_Way : Int) (fifteen : Bool) (other : ByteArray) (seventeen : Bool) (s : ByteArray) (read_Rule : ByteArray) (read_Width : Int) (read_Height : Int) (read_Cells : ByteArray) (read_X : Int) (read_Y : Int) (read_Way : Int) (nineteen : Bool) : laws_FnWorldsTurned_c_c_c_c_c_c (k + 1) (rule, width, height, (empty_Rule, empty_Width, empty_Height, empty_Cells, empty_X, empty_Y, empty_Way), fifteen, other, seventeen, s, (read_Rule, read_Width, read_Height, read_Cells, read_X, read_Y, read_Way), nineteen) =
  cond fifteen
  ((impl_CountColours k (empty_Rule, empty_Width, empty_Height, empty_Cells, empty_X, empty_Y, empty_Way)).bind fun r1 =>
   cond (!r1.2)
   (some false)
   (cond (inB 0 r1.1.length)
    (cond ((r1.1.getD 0 default) != (w64 (width * height)))
     (some false)
     ((laws_FnWorldsTurned_c_c_c_c_c_c_c k (rule, other, seventeen, s, (read_Rule, read_Width, read_Height, read_Cells, read_X, read_Y, read_Way), nineteen)).bind fun r2 =>
      some r2))
    (none)))
  ((laws_FnWorldsTurned_c_c_c_c_c_c_c k (rule, other, seventeen, s, (read_Rule, read_Width, read_Height, read_Cells, read_X, read_Y, read_Way), nineteen)).bind fun r3 =>
   some r3) := by kernel_rfl
theorem impl_CountColours.eq (k : Nat) (w_Rule : ByteArray) (w_Width : Int) (w_Height : Int) (w_Cells : ByteArray) (w_X : Int) (w_Y : Int) (w_Way : Int) : impl_CountColours (k + 1) (w_Rule, w_Width, w_Height, w_Cells, w_X, w_Y, w_Way) =
  (impl_IsWorld k (w_Rule, w_Width, w_Height, w_Cells, w_X, w_Y, w_Way)).bind fun r1 =>
  cond (!r1)
  (some ([], false))
  (cond (((decide ((0 : Int) ≤ (w_Rule.size : Int))) && (decide ((w_Rule.size : Int) ≤ (w_Rule.size : Int)))) && (fits (w_Rule.size : Int).toNat 8))
   ((impl_CountColours_l k ((List.replicate (w_Rule.size : Int).toNat 0), (bytesOf w_Cells), ((bytesOf w_Cells).length : Int), 0)).bind fun r2 =>
    some (r2, true))
   (none)) := by kernel_rfl
theorem impl_CountColours_l.eq (k : Nat) (out : List Int) (t16 : List Int) (t17 : Int) (t18 : Int) : impl_CountColours_l (k + 1) (out, t16, t17, t18) =
  cond (decide (t18 < t17))
  (cond (inB t18 t16.length)
   (cond (inB (w8 ((t16.getD t18.toNat default) - 48)) out.length)
    (cond (inB (w8 ((t16.getD t18.toNat default) - 48)) out.length)
     (impl_CountColours_l k ((out.set ((w8 ((t16.getD t18.toNat default) - 48)).toNat) (w64 ((out.getD ((w8 ((t16.getD t18.toNat default) - 48)).toNat) default) + 1))), t16, t17, (w64 (t18 + 1))))
     (none))
    (none))
   (none))
  (some out) := by kernel_rfl
theorem laws_FnWorldsTurned_c_c_c_c_c_c_c.eq (k : Nat) (rule : ByteArray) (other : ByteArray) (seventeen : Bool) (s : ByteArray) (read_Rule : ByteArray) (read_Width : Int) (read_Height : Int) (read_Cells : ByteArray) (read_X : Int) (read_Y : Int) (read_Way : Int) (nineteen : Bool) : laws_FnWorldsTurned_c_c_c_c_c_c_c (k + 1) (rule, other, seventeen, s, (read_Rule, read_Width, read_Height, read_Cells, read_X, read_Y, read_Way), nineteen) =
  cond seventeen
  ((impl_OtherRule k other).bind fun r1 =>
   cond (!r1.2)
   (some false)
   (cond (!(strEq r1.1 rule))
    (some false)
    ((laws_FnWorldsTurned_c_c_c_c_c_c_c_c k (s, (read_Rule, read_Width, read_Height, read_Cells, read_X, read_Y, read_Way), nineteen)).bind fun r2 =>
     some r2)))
  ((laws_FnWorldsTurned_c_c_c_c_c_c_c_c k (s, (read_Rule, read_Width, read_Height, read_Cells, read_X, read_Y, read_Way), nineteen)).bind fun r3 =>
   some r3) := by kernel_rfl
theorem laws_FnWorldsTurned_c_c_c_c_c_c_c_c.eq (k : Nat) (s : ByteArray) (read_Rule : ByteArray) (read_Width : Int) (read_Height : Int) (read_Cells : ByteArray) (read_X : Int) (read_Y : Int) (read_Way : Int) (nineteen : Bool) : laws_FnWorldsTurned_c_c_c_c_c_c_c_c (k + 1) (s, (read_Rule, read_Width, read_Height, read_Cells, read_X, read_Y, read_Way), nineteen) =
  cond nineteen
  ((impl_WorldText k (read_Rule, read_Width, read_Height, read_Cells, read_X, read_Y, read_Way)).bind fun r1 =>
   cond r1.2
   (some (strEq r1.1 s))
   (some false))
  (some true) := by kernel_rfl
end Go.Proofs.YtkaiidmnigpicaaGreatDoorS
