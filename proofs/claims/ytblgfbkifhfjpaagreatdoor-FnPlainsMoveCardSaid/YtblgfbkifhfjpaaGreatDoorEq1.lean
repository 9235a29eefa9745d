/- What each function computes (printed by wip/sim/gen.py). -/
import Derived.Test.YtblgfbkifhfjpaaGreatDoorTab
namespace Go.Proofs.YtblgfbkifhfjpaaGreatDoorS
open Go Go.Proofs
set_option maxRecDepth 100000
set_option linter.unusedVariables false
theorem laws_FnPlainsMove_c_c_c_c.eq (k : Nat) (more : List Int) (p_Rule : ByteArray) (p_Spots : List (Int × (Int × Int))) (p_X : Int) (p_Y : Int) (p_Way : Int) (box : List Int) (picture : ByteArray) (five : Bool) : laws_FnPlainsMove_c_c_c_c (k + 1) (more, (p_Rule, p_Spots, p_X, p_Y, p_Way), box, picture, five) =
  cond (inB 1 box.length)
  (cond (inB 0 box.length)
   (cond (decide ((w64 ((box.getD 1 default) - (box.getD 0 default))) < 40))
    (cond (inB 3 box.length)
     (cond (inB 2 box.length)
      (cond (!(five == (decide ((w64 ((box.getD 3 default) - (box.getD 2 default))) < 40))))
       (some (.inl false))
       (cond five
        (cond (inB 1 box.length)
         (cond (inB 0 box.length)
          (cond (inB 3 box.length)
           (cond (inB 2 box.length)
            (cond ((picture.size : Int) != (w64 ((w64 ((w64 ((w64 ((box.getD 1 default) - (box.getD 0 default))) + 2)) * (w64 ((w64 ((box.getD 3 default) - (box.getD 2 default))) + 1)))) - 1)))
             (some (.inl false))
             ((laws_dCount k (picture, 48)).bind fun r1 =>
              cond (inB 3 box.length)
              (cond (inB 2 box.length)
               (cond ((w64 (r1 - (w64 ((box.getD 3 default) - (box.getD 2 default))))) != (p_Spots.length : Int))
                (some (.inl false))
                ((laws_FnPlainsMove_c_c_c_c_l k (more, box, picture, (w64 ((w64 ((box.getD 1 default) - (box.getD 0 default))) + 2)), p_Spots, (p_Spots.length : Int), 0)).bind fun r2 =>
                 r2.elim
                 (fun r3 => some (.inl r3))
                 (fun r4 => some (.inr r4))))
               (none))
              (none)))
            (none))
           (none))
          (none))
         (none))
        (some (.inr more))))
      (none))
     (none))
    (cond (!(five == false))
     (some (.inl false))
     (cond five
      (cond (inB 1 box.length)
       (cond (inB 0 box.length)
        (cond (inB 3 box.length)
         (cond (inB 2 box.length)
          (cond ((picture.size : Int) != (w64 ((w64 ((w64 ((w64 ((box.getD 1 default) - (box.getD 0 default))) + 2)) * (w64 ((w64 ((box.getD 3 default) - (box.getD 2 default))) + 1)))) - 1)))
           (some (.inl false))
           ((laws_dCount k (picture, 48)).bind fun r5 =>
            cond (inB 3 box.length)
            (cond (inB 2 box.length)
             (cond ((w64 (r5 - (w64 ((box.getD 3 default) - (box.getD 2 default))))) != (p_Spots.length : Int))
              (some (.inl false))
              ((laws_FnPlainsMove_c_c_c_c_l k (more, box, picture, (w64 ((w64 ((box.getD 1 default) - (box.getD 0 default))) + 2)), p_Spots, (p_Spots.length : Int), 0)).bind fun r6 =>
               r6.elim
               (fun r7 => some (.inl r7))
               (fun r8 => some (.inr r8))))
             (none))
            (none)))
          (none))
         (none))
        (none))
       (none))
      (some (.inr more)))))
   (none))
  (none) := by kernel_rfl
theorem laws_dCount.eq (k : Nat) (s : ByteArray) (sign : Int) : laws_dCount (k + 1) (s, sign) =
  (laws_dCount_l k (s, sign, 0, 0)).bind fun r1 =>
  some r1 := by kernel_rfl
theorem laws_dCount_l.eq (k : Nat) (s : ByteArray) (sign : Int) (n : Int) (i : Int) : laws_dCount_l (k + 1) (s, sign, n, i) =
  cond (decide (i < (s.size : Int)))
  (cond (inB i s.size)
   (cond ((bt s i.toNat) != sign)
    (laws_dCount_l k (s, sign, (w64 (n + 1)), (w64 (i + 1))))
    (laws_dCount_l k (s, sign, n, (w64 (i + 1)))))
   (none))
  (some n) := by kernel_rfl
theorem laws_FnPlainsMove_c_c_c_c_l.eq (k : Nat) (more : List Int) (box : List Int) (picture : ByteArray) (wide : Int) (t405 : List (Int × (Int × Int))) (t406 : Int) (t407 : Int) : laws_FnPlainsMove_c_c_c_c_l (k + 1) (more, box, picture, wide, t405, t406, t407) =
  cond (decide (t407 < t406))
  (cond (inB t407 t405.length)
   (cond (inB 2 box.length)
    (cond (inB 0 box.length)
     (cond (inB (w64 ((w64 ((w64 ((w64 ((t405.getD t407.toNat default).2.1 - (box.getD 2 default))) * wide)) + (t405.getD t407.toNat default).1)) - (box.getD 0 default))) picture.size)
      (cond ((w64 ((w64 (bt picture ((w64 ((w64 ((w64 ((w64 ((t405.getD t407.toNat default).2.1 - (box.getD 2 default))) * wide)) + (t405.getD t407.toNat default).1)) - (box.getD 0 default))).toNat))) - 48)) != (t405.getD t407.toNat default).2.2)
       (some (.inl false))
       (laws_FnPlainsMove_c_c_c_c_l k (more, box, picture, wide, t405, t406, (w64 (t407 + 1)))))
      (none))
     (none))
    (none))
   (none))
  (some (.inr more)) := by kernel_rfl
theorem laws_FnPlainsMove_c_c_2.eq (k : Nat) (more : List Int) : laws_FnPlainsMove_c_c_2 (k + 1) more =
  (spec_DrawMovePlain k more).bind fun r1 =>
  (impl_MovePlain k r1).bind fun r2 =>
  (spec_MovePlain k r1).bind fun r3 =>
  (spec_DrawPaintSpot k more).bind fun r4 =>
  (impl_PaintSpot k r4).bind fun r5 =>
  (spec_PaintSpot k r4).bind fun r6 =>
  (impl_ColourOfSpot k (r4.1, r4.2.1, r4.2.2.1)).bind fun r7 =>
  (spec_ColourOfSpot k (r4.1, r4.2.1, r4.2.2.1)).bind fun r8 =>
  (spec_DrawPlainOfWorld k more).bind fun r9 =>
  (impl_PlainOfWorld k r9).bind fun r10 =>
  (spec_PlainOfWorld k r9).bind fun r11 =>
  (spec_DrawFirstPlain k more).bind fun r12 =>
  (impl_FirstPlain k r12).bind fun r13 =>
  (spec_FirstPlain k r12).bind fun r14 =>
  (laws_FnPlainsMove_c_c_2_c k (r1.1, r1.2.1, r1.2.2, r2.1, r2.2, r3.1, r3.2, r4.1, r4.2.1, r4.2.2.1, r4.2.2.2, r5.1, r5.2, r6.1, r6.2, r7.1, r7.2, r8.1, r8.2, r9, r10.1, r10.2, r11.1, r11.2, r12, r13.1, r13.2, r14.1, r14.2)).bind fun r15 =>
  some r15 := by kernel_rfl
theorem spec_DrawMovePlain.eq (k : Nat) (code : List Int) : spec_DrawMovePlain (k + 1) code =
  (spec_l1Cur_one k ((code, 0, 0), 8)).bind fun r1 =>
  cond r1.1
  ((spec_l1Cur_plain k r1.2).bind fun r2 =>
   (spec_l1Cur_among k (r2.2, [(-1000), 1000, 1001, 0])).bind fun r3 =>
   (spec_l1Cur_among k (r3.2, [0, 998, 4611686018427387904])).bind fun r4 =>
   some (r2.1, r3.1, r4.1))
  ((spec_l1Cur_plain k r1.2).bind fun r5 =>
   (spec_l1Cur_pick k (r5.2, 11)).bind fun r6 =>
   (spec_l1Cur_pick k (r6.2, 11)).bind fun r7 =>
   some (r5.1, (w64 (r6.1 - 5)), (w64 (r7.1 - 5)))) := by kernel_rfl
theorem impl_MovePlain.eq (k : Nat) (p_Rule : ByteArray) (p_Spots : List (Int × (Int × Int))) (p_X : Int) (p_Y : Int) (p_Way : Int) (right : Int) (down : Int) : impl_MovePlain (k + 1) ((p_Rule, p_Spots, p_X, p_Y, p_Way), right, down) =
  (impl_IsPlain k (p_Rule, p_Spots, p_X, p_Y, p_Way)).bind fun r1 =>
  cond (!r1)
  (some ((ByteArray.empty, [], 0, 0, 0), false))
  ((impl_isNear k ([right, down])).bind fun r2 =>
   cond (!r2)
   (some ((ByteArray.empty, [], 0, 0, 0), false))
   ((impl_Plain_changed_3 k ((p_Rule, p_Spots, p_X, p_Y, p_Way), (right, down))).bind fun r3 =>
    some r3)) := by kernel_rfl
theorem impl_Plain_changed_3.eq (k : Nat) (p_Rule : ByteArray) (p_Spots : List (Int × (Int × Int))) (p_X : Int) (p_Y : Int) (p_Way : Int) (to_0 : Int) (to_1 : Int) : impl_Plain_changed_3 (k + 1) ((p_Rule, p_Spots, p_X, p_Y, p_Way), (to_0, to_1)) =
  (impl_MovePlain_1 k (p_X, p_Y, to_0, to_1)).bind fun r1 =>
  (impl_Plain_changed_3_l k ((to_0, to_1), (ByteArray.empty, [], 0, 0, 0), (p_Rule, [], r1.1, r1.2, p_Way), p_Spots, (p_Spots.length : Int), 0)).bind fun r2 =>
  (slices_SortFunc k (r2.2.2.1, ())).bind fun r3 =>
  (impl_whole k (r2.2.1, r3.2, r2.2.2.2.1, r2.2.2.2.2.1, r2.2.2.2.2.2)).bind fun r4 =>
  some r4 := by kernel_rfl
theorem impl_MovePlain_1.eq (k : Nat) (x : Int) (y : Int) (t2_0 : Int) (t3_0 : Int) : impl_MovePlain_1 (k + 1) (x, y, t2_0, t3_0) =
  some ((w64 (x + t2_0)), (w64 (y + t3_0))) := by kernel_rfl
theorem impl_Plain_changed_3_l.eq (k : Nat) (to_0 : Int) (to_1 : Int) (t4_Rule : ByteArray) (t4_Spots : List (Int × (Int × Int))) (t4_X : Int) (t4_Y : Int) (t4_Way : Int) (out_Rule : ByteArray) (out_Spots : List (Int × (Int × Int))) (out_X : Int) (out_Y : Int) (out_Way : Int) (t28 : List (Int × (Int × Int))) (t29 : Int) (t30 : Int) : impl_Plain_changed_3_l (k + 1) ((to_0, to_1), (t4_Rule, t4_Spots, t4_X, t4_Y, t4_Way), (out_Rule, out_Spots, out_X, out_Y, out_Way), t28, t29, t30) =
  cond (decide (t30 < t29))
  (cond (inB t30 t28.length)
   ((impl_MovePlain_1 k ((t28.getD t30.toNat default).1, (t28.getD t30.toNat default).2.1, to_0, to_1)).bind fun r1 =>
    cond (fits (out_Spots.length + 1) 24)
    (impl_Plain_changed_3_l k ((to_0, to_1), (t4_Rule, t4_Spots, t4_X, t4_Y, t4_Way), (out_Rule, (out_Spots ++ [(r1.1, (r1.2, (t28.getD t30.toNat default).2.2))]), out_X, out_Y, out_Way), t28, t29, (w64 (t30 + 1))))
    (none))
   (none))
  (some ((t4_Rule, t4_Spots, t4_X, t4_Y, t4_Way), (out_Rule, out_Spots, out_X, out_Y, out_Way))) := by kernel_rfl
theorem spec_MovePlain.eq (k : Nat) (p_Rule : ByteArray) (p_Spots : List (Int × (Int × Int))) (p_X : Int) (p_Y : Int) (p_Way : Int) (right : Int) (down : Int) : spec_MovePlain (k + 1) ((p_Rule, p_Spots, p_X, p_Y, p_Way), right, down) =
  (spec_enCell k ((p_Rule, p_Spots, p_X, p_Y, p_Way), right, down)).bind fun r1 =>
  cond (!r1)
  (some ((ByteArray.empty, [], 0, 0, 0), false))
  ((spec_enMap k ((p_Rule, p_Spots, p_X, p_Y, p_Way), (1, 0, 0, 1, right, down))).bind fun r2 =>
   cond (!r2.2)
   (some ((ByteArray.empty, [], 0, 0, 0), false))
   (some (r2.1, true))) := by kernel_rfl
theorem spec_enCell.eq (k : Nat) (p_Rule : ByteArray) (p_Spots : List (Int × (Int × Int))) (p_X : Int) (p_Y : Int) (p_Way : Int) (x : Int) (y : Int) : spec_enCell (k + 1) ((p_Rule, p_Spots, p_X, p_Y, p_Way), x, y) =
  (spec_enGood k (p_Rule, p_Spots, p_X, p_Y, p_Way)).bind fun r1 =>
  cond r1
  ((spec_enFar k x).bind fun r2 =>
   cond r2
   ((spec_enFar k y).bind fun r3 =>
    some r3)
   (some false))
  (some false) := by kernel_rfl
theorem spec_DrawPaintSpot.eq (k : Nat) (code : List Int) : spec_DrawPaintSpot (k + 1) code =
  (spec_DrawColourOfSpot k code).bind fun r1 =>
  (spec_l1Cur_pick k ((code, 0, 0), 5)).bind fun r2 =>
  (spec_l1Cur_pick k (r2.2, 9)).bind fun r3 =>
  some (r1.1, r1.2.1, r1.2.2, (w64 (r2.1 - (w64 (r3.1.tdiv 8))))) := by kernel_rfl
theorem spec_DrawColourOfSpot.eq (k : Nat) (code : List Int) : spec_DrawColourOfSpot (k + 1) code =
  (spec_l1Cur_plain k (code, 0, 0)).bind fun r1 =>
  cond (decide ((r1.1.2.1.length : Int) > 0))
  ((spec_l1Cur_one k (r1.2, 2)).bind fun r2 =>
   cond r2.1
   ((spec_l1Cur_pick k (r2.2, (r1.1.2.1.length : Int))).bind fun r3 =>
    cond (inB r3.1 r1.1.2.1.length)
    (some (r1.1, (r1.1.2.1.getD r3.1.toNat default).1, (r1.1.2.1.getD r3.1.toNat default).2.1))
    (none))
   ((spec_l1Cur_among k (r2.2, [0, 1, (-1), 2, 1000, 1001, 4611686018427387904])).bind fun r4 =>
    (spec_l1Cur_pick k (r4.2, 5)).bind fun r5 =>
    some (r1.1, r4.1, (w64 (r5.1 - 2)))))
  ((spec_l1Cur_among k (r1.2, [0, 1, (-1), 2, 1000, 1001, 4611686018427387904])).bind fun r6 =>
   (spec_l1Cur_pick k (r6.2, 5)).bind fun r7 =>
   some (r1.1, r6.1, (w64 (r7.1 - 2)))) := by kernel_rfl
theorem impl_PaintSpot.eq (k : Nat) (p_Rule : ByteArray) (p_Spots : List (Int × (Int × Int))) (p_X : Int) (p_Y : Int) (p_Way : Int) (x : Int) (y : Int) (colour : Int) : impl_PaintSpot (k + 1) ((p_Rule, p_Spots, p_X, p_Y, p_Way), x, y, colour) =
  (impl_IsPlain k (p_Rule, p_Spots, p_X, p_Y, p_Way)).bind fun r1 =>
  cond (!r1)
  (some ((ByteArray.empty, [], 0, 0, 0), false))
  ((impl_isNear k ([x, y])).bind fun r2 =>
   cond (!r2)
   (some ((ByteArray.empty, [], 0, 0, 0), false))
   ((impl_within k (colour, 0, (w64 ((p_Rule.size : Int) - 1)))).bind fun r3 =>
    cond (!r3)
    (some ((ByteArray.empty, [], 0, 0, 0), false))
    ((impl_Plain_going k (p_Rule, p_Spots, p_X, p_Y, p_Way)).bind fun r4 =>
     (impl_going_paint k (r4, x, y, colour)).bind fun r5 =>
     (impl_going_plain k r5.2).bind fun r6 =>
     (impl_whole k r6).bind fun r7 =>
     some r7))) := by kernel_rfl
theorem spec_PaintSpot.eq (k : Nat) (p_Rule : ByteArray) (p_Spots : List (Int × (Int × Int))) (p_X : Int) (p_Y : Int) (p_Way : Int) (x : Int) (y : Int) (colour : Int) : spec_PaintSpot (k + 1) ((p_Rule, p_Spots, p_X, p_Y, p_Way), x, y, colour) =
  (spec_enCell k ((p_Rule, p_Spots, p_X, p_Y, p_Way), x, y)).bind fun r1 =>
  cond (!r1)
  (some ((ByteArray.empty, [], 0, 0, 0), false))
  ((spec_l1In k (colour, 0, (w64 ((p_Rule.size : Int) - 1)))).bind fun r2 =>
   cond (!r2)
   (some ((ByteArray.empty, [], 0, 0, 0), false))
   ((spec_enPaint k (p_Spots, x, y, colour)).bind fun r3 =>
    (spec_enGood k (p_Rule, r3, p_X, p_Y, p_Way)).bind fun r4 =>
    cond (!r4)
    (some ((ByteArray.empty, [], 0, 0, 0), false))
    (some ((p_Rule, r3, p_X, p_Y, p_Way), true)))) := by kernel_rfl
theorem impl_ColourOfSpot.eq (k : Nat) (p_Rule : ByteArray) (p_Spots : List (Int × (Int × Int))) (p_X : Int) (p_Y : Int) (p_Way : Int) (x : Int) (y : Int) : impl_ColourOfSpot (k + 1) ((p_Rule, p_Spots, p_X, p_Y, p_Way), x, y) =
  (impl_IsPlain k (p_Rule, p_Spots, p_X, p_Y, p_Way)).bind fun r1 =>
  cond (!r1)
  (some (0, false))
  ((impl_isNear k ([x, y])).bind fun r2 =>
   cond (!r2)
   (some (0, false))
   ((impl_Plain_going k (p_Rule, p_Spots, p_X, p_Y, p_Way)).bind fun r3 =>
    some ((mget (K := (Int × Int)) (α := Int) (Sh.eqT (.pair (.int .i64) (.int .i64))) r3.2.1 (x, y) 0), true))) := by kernel_rfl
theorem spec_ColourOfSpot.eq (k : Nat) (p_Rule : ByteArray) (p_Spots : List (Int × (Int × Int))) (p_X : Int) (p_Y : Int) (p_Way : Int) (x : Int) (y : Int) : spec_ColourOfSpot (k + 1) ((p_Rule, p_Spots, p_X, p_Y, p_Way), x, y) =
  (spec_enCell k ((p_Rule, p_Spots, p_X, p_Y, p_Way), x, y)).bind fun r1 =>
  cond (!r1)
  (some (0, false))
  ((spec_enColour k ((p_Rule, p_Spots, p_X, p_Y, p_Way), x, y)).bind fun r2 =>
   some (r2, true)) := by kernel_rfl
theorem spec_DrawPlainOfWorld.eq (k : Nat) (code : List Int) : spec_DrawPlainOfWorld (k + 1) code =
  (spec_l1Cur_world k (code, 0, 0)).bind fun r1 =>
  some r1.1 := by kernel_rfl
theorem spec_l1Cur_world.eq (k : Nat) (c_code : List Int) (c_at : Int) (c_seed : Int) : spec_l1Cur_world (k + 1) (c_code, c_at, c_seed) =
  (spec_l1Cur_sureWorld k ((c_code, c_at, c_seed), 5)).bind fun r1 =>
  (spec_l1Cur_pick k (r1.2, 18)).bind fun r2 =>
  cond (r2.1 == 0)
  ((spec_l1Cur_rule k r2.2).bind fun r3 =>
   some ((r3.1, r1.1.2.1, r1.1.2.2.1, r1.1.2.2.2.1, r1.1.2.2.2.2.1, r1.1.2.2.2.2.2.1, r1.1.2.2.2.2.2.2), r3.2))
  (cond (r2.1 == 1)
   ((spec_l1Cur_among k (r2.2, [0, 1, 10, (-1), 4611686018427387904])).bind fun r4 =>
    some ((r1.1.1, r4.1, r1.1.2.2.1, r1.1.2.2.2.1, r1.1.2.2.2.2.1, r1.1.2.2.2.2.2.1, r1.1.2.2.2.2.2.2), r4.2))
   (cond (r2.1 == 2)
    ((spec_l1Cur_of k (r2.2, [(bs [48]), ByteArray.empty, (bs [55])])).bind fun r5 =>
     cond (fitS r1.1.2.2.2.1 r5.1)
     (some ((r1.1.1, r1.1.2.1, r1.1.2.2.1, (r1.1.2.2.2.1 ++ r5.1), r1.1.2.2.2.2.1, r1.1.2.2.2.2.2.1, r1.1.2.2.2.2.2.2), r5.2))
     (none))
    (cond (r2.1 == 3)
     ((spec_l1Cur_among k (r2.2, [(-1), 0, 9, 4611686018427387904])).bind fun r6 =>
      (spec_l1Cur_among k (r6.2, [0, 4, (-1), 3])).bind fun r7 =>
      some ((r1.1.1, r1.1.2.1, r1.1.2.2.1, r1.1.2.2.2.1, r6.1, r1.1.2.2.2.2.2.1, r7.1), r7.2))
     (some (r1.1, r2.2))))) := by kernel_rfl
theorem spec_l1Cur_sureWorld.eq (k : Nat) (c_code : List Int) (c_at : Int) (c_seed : Int) (most : Int) : spec_l1Cur_sureWorld (k + 1) ((c_code, c_at, c_seed), most) =
  (spec_l1Cur_sureRule k (c_code, c_at, c_seed)).bind fun r1 =>
  (spec_l1Cur_pick k (r1.2, most)).bind fun r2 =>
  (spec_l1Cur_pick k (r2.2, most)).bind fun r3 =>
  (spec_l1Cur_one k (r3.2, 2)).bind fun r4 =>
  (spec_l1Cur_sureWorld_l k (r4.2, (ByteArray.empty, 0, 0, ByteArray.empty, 0, 0, 0), (r1.1, (w64 (1 + r2.1)), (w64 (1 + r3.1)), ByteArray.empty, 0, 0, 0), r4.1, (w64 ((w64 (1 + r2.1)) * (w64 (1 + r3.1)))), ())).bind fun r5 =>
  (spec_l1Cur_pick k (r5.1, r5.2.2.1.2.1)).bind fun r6 =>
  (spec_l1Cur_pick k (r6.2, r5.2.2.1.2.2.1)).bind fun r7 =>
  (spec_l1Cur_pick k (r7.2, 4)).bind fun r8 =>
  some ((r5.2.2.1.1, r5.2.2.1.2.1, r5.2.2.1.2.2.1, r5.2.2.1.2.2.2.1, r6.1, r7.1, r8.1), r8.2) := by kernel_rfl
theorem spec_l1Cur_sureWorld_l.eq (k : Nat) (c_code : List Int) (c_at : Int) (c_seed : Int) (t4_Rule : ByteArray) (t4_Width : Int) (t4_Height : Int) (t4_Cells : ByteArray) (t4_X : Int) (t4_Y : Int) (t4_Way : Int) (w_Rule : ByteArray) (w_Width : Int) (w_Height : Int) (w_Cells : ByteArray) (w_X : Int) (w_Y : Int) (w_Way : Int) (blank : Bool) (k_ : Int) : spec_l1Cur_sureWorld_l (k + 1) ((c_code, c_at, c_seed), (t4_Rule, t4_Width, t4_Height, t4_Cells, t4_X, t4_Y, t4_Way), (w_Rule, w_Width, w_Height, w_Cells, w_X, w_Y, w_Way), blank, k_, ()) =
  cond (decide (k_ > 0))
  (cond blank
   (cond (fitS w_Cells (bs [48]))
    (spec_l1Cur_sureWorld_l k ((c_code, c_at, c_seed), (t4_Rule, t4_Width, t4_Height, t4_Cells, t4_X, t4_Y, t4_Way), (w_Rule, w_Width, w_Height, (w_Cells ++ (bs [48])), w_X, w_Y, w_Way), blank, (w64 (k_ - 1)), ()))
    (none))
   ((spec_l1Cur_pick k ((c_code, c_at, c_seed), (w_Rule.size : Int))).bind fun r1 =>
    (spec_l1Num k r1.1).bind fun r2 =>
    cond (fitS w_Cells r2)
    (spec_l1Cur_sureWorld_l k (r1.2, (t4_Rule, t4_Width, t4_Height, t4_Cells, t4_X, t4_Y, t4_Way), (w_Rule, w_Width, w_Height, (w_Cells ++ r2), w_X, w_Y, w_Way), blank, (w64 (k_ - 1)), ()))
    (none)))
  (some ((c_code, c_at, c_seed), (t4_Rule, t4_Width, t4_Height, t4_Cells, t4_X, t4_Y, t4_Way), (w_Rule, w_Width, w_Height, w_Cells, w_X, w_Y, w_Way), ())) := by kernel_rfl
theorem spec_l1Cur_rule.eq (k : Nat) (c_code : List Int) (c_at : Int) (c_seed : Int) : spec_l1Cur_rule (k + 1) (c_code, c_at, c_seed) =
  (spec_l1Cur_one k ((c_code, c_at, c_seed), 12)).bind fun r1 =>
  cond r1.1
  ((spec_l1Cur_of k (r1.2, [ByteArray.empty, (bs [76, 82, 76, 82, 76, 82, 76]), (bs [88]), (bs [108, 114]), (bs [76, 32, 82])])).bind fun r2 =>
   some r2)
  ((spec_l1Cur_sureRule k r1.2).bind fun r3 =>
   some r3) := by kernel_rfl
theorem impl_PlainOfWorld.eq (k : Nat) (w_Rule : ByteArray) (w_Width : Int) (w_Height : Int) (w_Cells : ByteArray) (w_X : Int) (w_Y : Int) (w_Way : Int) : impl_PlainOfWorld (k + 1) (w_Rule, w_Width, w_Height, w_Cells, w_X, w_Y, w_Way) =
  (impl_IsWorld k (w_Rule, w_Width, w_Height, w_Cells, w_X, w_Y, w_Way)).bind fun r1 =>
  cond (!r1)
  (some ((ByteArray.empty, [], 0, 0, 0), false))
  ((impl_PlainOfWorld_l k ((w_Rule, w_Width, w_Height, w_Cells, w_X, w_Y, w_Way), (ByteArray.empty, [], 0, 0, 0), (w_Rule, [], w_X, w_Y, w_Way), (w_Cells.size : Int), 0)).bind fun r2 =>
   some (r2.2, true)) := by kernel_rfl
theorem impl_IsWorld.eq (k : Nat) (w_Rule : ByteArray) (w_Width : Int) (w_Height : Int) (w_Cells : ByteArray) (w_X : Int) (w_Y : Int) (w_Way : Int) : impl_IsWorld (k + 1) (w_Rule, w_Width, w_Height, w_Cells, w_X, w_Y, w_Way) =
  (impl_IsRule k w_Rule).bind fun r1 =>
  cond r1
  ((impl_isSize k (w_Width, w_Height)).bind fun r2 =>
   cond r2
   ((impl_areCells k (w_Cells, (w64 (w_Width * w_Height)), (w_Rule.size : Int))).bind fun r3 =>
    cond r3
    ((impl_isAnt k (w_Width, w_Height, w_X, w_Y, w_Way)).bind fun r4 =>
     some r4)
    (some false))
   (some false))
  (some false) := by kernel_rfl
theorem impl_isSize.eq (k : Nat) (width : Int) (height : Int) : impl_isSize (k + 1) (width, height) =
  (impl_within k (width, 1, 9)).bind fun r1 =>
  cond r1
  ((impl_within k (height, 1, 9)).bind fun r2 =>
   some r2)
  (some false) := by kernel_rfl
theorem impl_areCells.eq (k : Nat) (cells : ByteArray) (many : Int) (tints : Int) : impl_areCells (k + 1) (cells, many, tints) =
  (impl_areCells_l k (cells, many, tints, (cells.size : Int), 0)).bind fun r1 =>
  r1.elim
  (fun r2 => some r2)
  (fun r3 => some ((r3.1.size : Int) == r3.2)) := by kernel_rfl
theorem impl_areCells_l.eq (k : Nat) (cells : ByteArray) (many : Int) (tints : Int) (t9 : Int) (t10 : Int) : impl_areCells_l (k + 1) (cells, many, tints, t9, t10) =
  cond (decide (t10 < t9))
  (cond (inB t10 cells.size)
   ((impl_within k ((w64 ((w64 (bt cells t10.toNat)) - 48)), 0, (w64 (tints - 1)))).bind fun r1 =>
    cond (!r1)
    (some (.inl false))
    (impl_areCells_l k (cells, many, tints, t9, (w64 (t10 + 1)))))
   (none))
  (some (.inr (cells, many))) := by kernel_rfl
theorem impl_isAnt.eq (k : Nat) (width : Int) (height : Int) (x : Int) (y : Int) (way : Int) : impl_isAnt (k + 1) (width, height, x, y, way) =
  (impl_within k (x, 0, (w64 (width - 1)))).bind fun r1 =>
  cond r1
  ((impl_within k (y, 0, (w64 (height - 1)))).bind fun r2 =>
   cond r2
   ((impl_isWay k way).bind fun r3 =>
    some r3)
   (some false))
  (some false) := by kernel_rfl
theorem impl_PlainOfWorld_l.eq (k : Nat) (w_Rule : ByteArray) (w_Width : Int) (w_Height : Int) (w_Cells : ByteArray) (w_X : Int) (w_Y : Int) (w_Way : Int) (t2_Rule : ByteArray) (t2_Spots : List (Int × (Int × Int))) (t2_X : Int) (t2_Y : Int) (t2_Way : Int) (p_Rule : ByteArray) (p_Spots : List (Int × (Int × Int))) (p_X : Int) (p_Y : Int) (p_Way : Int) (t22 : Int) (t23 : Int) : impl_PlainOfWorld_l (k + 1) ((w_Rule, w_Width, w_Height, w_Cells, w_X, w_Y, w_Way), (t2_Rule, t2_Spots, t2_X, t2_Y, t2_Way), (p_Rule, p_Spots, p_X, p_Y, p_Way), t22, t23) =
  cond (decide (t23 < t22))
  (cond (inB t23 w_Cells.size)
   (cond (decide ((w64 (w8 ((bt w_Cells t23.toNat) - 48))) > 0))
    (cond (w_Width != 0)
     (cond (w_Width != 0)
      (cond (fits (p_Spots.length + 1) 24)
       (impl_PlainOfWorld_l k ((w_Rule, w_Width, w_Height, w_Cells, w_X, w_Y, w_Way), (t2_Rule, t2_Spots, t2_X, t2_Y, t2_Way), (p_Rule, (p_Spots ++ [((t23.tmod w_Width), ((w64 (t23.tdiv w_Width)), (w64 (w8 ((bt w_Cells t23.toNat) - 48)))))]), p_X, p_Y, p_Way), t22, (w64 (t23 + 1))))
       (none))
      (none))
     (none))
    (impl_PlainOfWorld_l k ((w_Rule, w_Width, w_Height, w_Cells, w_X, w_Y, w_Way), (t2_Rule, t2_Spots, t2_X, t2_Y, t2_Way), (p_Rule, p_Spots, p_X, p_Y, p_Way), t22, (w64 (t23 + 1)))))
   (none))
  (some ((t2_Rule, t2_Spots, t2_X, t2_Y, t2_Way), (p_Rule, p_Spots, p_X, p_Y, p_Way))) := by kernel_rfl
theorem spec_PlainOfWorld.eq (k : Nat) (w_Rule : ByteArray) (w_Width : Int) (w_Height : Int) (w_Cells : ByteArray) (w_X : Int) (w_Y : Int) (w_Way : Int) : spec_PlainOfWorld (k + 1) (w_Rule, w_Width, w_Height, w_Cells, w_X, w_Y, w_Way) =
  (spec_woGood k (w_Rule, w_Width, w_Height, w_Cells, w_X, w_Y, w_Way)).bind fun r1 =>
  cond (!r1)
  (some ((ByteArray.empty, [], 0, 0, 0), false))
  ((spec_PlainOfWorld_l k ((w_Rule, w_Width, w_Height, w_Cells, w_X, w_Y, w_Way), (ByteArray.empty, [], 0, 0, 0), (w_Rule, [], w_X, w_Y, w_Way), 0)).bind fun r2 =>
   some (r2.2, true)) := by kernel_rfl
theorem spec_woGood.eq (k : Nat) (w_Rule : ByteArray) (w_Width : Int) (w_Height : Int) (w_Cells : ByteArray) (w_X : Int) (w_Y : Int) (w_Way : Int) : spec_woGood (k + 1) (w_Rule, w_Width, w_Height, w_Cells, w_X, w_Y, w_Way) =
  (spec_woRule k w_Rule).bind fun r1 =>
  cond (!r1)
  (some false)
  ((spec_l1In k (w_Width, 1, 9)).bind fun r2 =>
   cond (!r2)
   (some false)
   ((spec_l1In k (w_Height, 1, 9)).bind fun r3 =>
    cond (!r3)
    (some false)
    (cond ((w_Cells.size : Int) != (w64 (w_Width * w_Height)))
     (some false)
     ((spec_woGood_l k ((w_Rule, w_Width, w_Height, w_Cells, w_X, w_Y, w_Way), 0)).bind fun r4 =>
      r4.elim
      (fun r5 => some r5)
      (fun r6 => (spec_l1In k (r6.2.2.2.2.1, 0, (w64 (r6.2.1 - 1)))).bind fun r7 =>
       cond r7
       ((spec_l1In k (r6.2.2.2.2.2.1, 0, (w64 (r6.2.2.1 - 1)))).bind fun r8 =>
        cond r8
        ((spec_l1In k (r6.2.2.2.2.2.2, 0, 3)).bind fun r9 =>
         some r9)
        (some false))
       (some false)))))) := by kernel_rfl
theorem spec_woGood_l.eq (k : Nat) (w_Rule : ByteArray) (w_Width : Int) (w_Height : Int) (w_Cells : ByteArray) (w_X : Int) (w_Y : Int) (w_Way : Int) (i : Int) : spec_woGood_l (k + 1) ((w_Rule, w_Width, w_Height, w_Cells, w_X, w_Y, w_Way), i) =
  cond (decide (i < (w_Cells.size : Int)))
  (cond (inB i w_Cells.size)
   ((spec_l1In k ((w64 ((w64 (bt w_Cells i.toNat)) - 48)), 0, (w64 ((w_Rule.size : Int) - 1)))).bind fun r1 =>
    cond (!r1)
    (some (.inl false))
    (spec_woGood_l k ((w_Rule, w_Width, w_Height, w_Cells, w_X, w_Y, w_Way), (w64 (i + 1)))))
   (none))
  (some (.inr (w_Rule, w_Width, w_Height, w_Cells, w_X, w_Y, w_Way))) := by kernel_rfl
theorem spec_PlainOfWorld_l.eq (k : Nat) (w_Rule : ByteArray) (w_Width : Int) (w_Height : Int) (w_Cells : ByteArray) (w_X : Int) (w_Y : Int) (w_Way : Int) (t2_Rule : ByteArray) (t2_Spots : List (Int × (Int × Int))) (t2_X : Int) (t2_Y : Int) (t2_Way : Int) (out_Rule : ByteArray) (out_Spots : List (Int × (Int × Int))) (out_X : Int) (out_Y : Int) (out_Way : Int) (y : Int) : spec_PlainOfWorld_l (k + 1) ((w_Rule, w_Width, w_Height, w_Cells, w_X, w_Y, w_Way), (t2_Rule, t2_Spots, t2_X, t2_Y, t2_Way), (out_Rule, out_Spots, out_X, out_Y, out_Way), y) =
  cond (decide (y < w_Height))
  ((spec_PlainOfWorld_l_l k ((w_Rule, w_Width, w_Height, w_Cells, w_X, w_Y, w_Way), (t2_Rule, t2_Spots, t2_X, t2_Y, t2_Way), (out_Rule, out_Spots, out_X, out_Y, out_Way), y, 0)).bind fun r1 =>
   spec_PlainOfWorld_l k (r1.1, r1.2.1, r1.2.2.1, (w64 (r1.2.2.2 + 1))))
  (some ((t2_Rule, t2_Spots, t2_X, t2_Y, t2_Way), (out_Rule, out_Spots, out_X, out_Y, out_Way))) := by kernel_rfl
theorem spec_PlainOfWorld_l_l.eq (k : Nat) (w_Rule : ByteArray) (w_Width : Int) (w_Height : Int) (w_Cells : ByteArray) (w_X : Int) (w_Y : Int) (w_Way : Int) (t2_Rule : ByteArray) (t2_Spots : List (Int × (Int × Int))) (t2_X : Int) (t2_Y : Int) (t2_Way : Int) (out_Rule : ByteArray) (out_Spots : List (Int × (Int × Int))) (out_X : Int) (out_Y : Int) (out_Way : Int) (y : Int) (x : Int) : spec_PlainOfWorld_l_l (k + 1) ((w_Rule, w_Width, w_Height, w_Cells, w_X, w_Y, w_Way), (t2_Rule, t2_Spots, t2_X, t2_Y, t2_Way), (out_Rule, out_Spots, out_X, out_Y, out_Way), y, x) =
  cond (decide (x < w_Width))
  ((spec_woColour k ((w_Rule, w_Width, w_Height, w_Cells, w_X, w_Y, w_Way), x, y)).bind fun r1 =>
   cond (decide (r1 > 0))
   (cond (fits (out_Spots.length + 1) 24)
    (spec_PlainOfWorld_l_l k ((w_Rule, w_Width, w_Height, w_Cells, w_X, w_Y, w_Way), (t2_Rule, t2_Spots, t2_X, t2_Y, t2_Way), (out_Rule, (out_Spots ++ [(x, (y, r1))]), out_X, out_Y, out_Way), y, (w64 (x + 1))))
    (none))
   (spec_PlainOfWorld_l_l k ((w_Rule, w_Width, w_Height, w_Cells, w_X, w_Y, w_Way), (t2_Rule, t2_Spots, t2_X, t2_Y, t2_Way), (out_Rule, out_Spots, out_X, out_Y, out_Way), y, (w64 (x + 1)))))
  (some ((w_Rule, w_Width, w_Height, w_Cells, w_X, w_Y, w_Way), (t2_Rule, t2_Spots, t2_X, t2_Y, t2_Way), (out_Rule, out_Spots, out_X, out_Y, out_Way), y)) := by kernel_rfl
theorem spec_woColour.eq (k : Nat) (w_Rule : ByteArray) (w_Width : Int) (w_Height : Int) (w_Cells : ByteArray) (w_X : Int) (w_Y : Int) (w_Way : Int) (x : Int) (y : Int) : spec_woColour (k + 1) ((w_Rule, w_Width, w_Height, w_Cells, w_X, w_Y, w_Way), x, y) =
  cond (inB (w64 ((w64 (y * w_Width)) + x)) w_Cells.size)
  (some (w64 (w8 ((bt w_Cells ((w64 ((w64 (y * w_Width)) + x)).toNat)) - 48))))
  (none) := by kernel_rfl
theorem spec_DrawFirstPlain.eq (k : Nat) (code : List Int) : spec_DrawFirstPlain (k + 1) code =
  (spec_l1Cur_rule k (code, 0, 0)).bind fun r1 =>
  some r1.1 := by kernel_rfl
theorem impl_FirstPlain.eq (k : Nat) (rule : ByteArray) : impl_FirstPlain (k + 1) rule =
  (impl_IsRule k rule).bind fun r1 =>
  cond (!r1)
  (some ((ByteArray.empty, [], 0, 0, 0), false))
  (some ((rule, [], 0, 0, 0), true)) := by kernel_rfl
theorem spec_FirstPlain.eq (k : Nat) (rule : ByteArray) : spec_FirstPlain (k + 1) rule =
  (spec_woRule k rule).bind fun r1 =>
  cond (!r1)
  (some ((ByteArray.empty, [], 0, 0, 0), false))
  (some ((rule, [], 0, 0, 0), true)) := by kernel_rfl
theorem laws_FnPlainsMove_c_c_2_c.eq (k : Nat) (q_Rule : ByteArray) (q_Spots : List (Int × (Int × Int))) (q_X : Int) (q_Y : Int) (q_Way : Int) (x : Int) (y : Int) (moved_Rule : ByteArray) (moved_Spots : List (Int × (Int × Int))) (moved_X : Int) (moved_Y : Int) (moved_Way : Int) (seven : Bool) (due_Rule : ByteArray) (due_Spots : List (Int × (Int × Int))) (due_X : Int) (due_Y : Int) (due_Way : Int) (eight : Bool) (r_Rule : ByteArray) (r_Spots : List (Int × (Int × Int))) (r_X : Int) (r_Y : Int) (r_Way : Int) (u : Int) (v : Int) (colour : Int) (painted_Rule : ByteArray) (painted_Spots : List (Int × (Int × Int))) (painted_X : Int) (painted_Y : Int) (painted_Way : Int) (nine : Bool) (own_Rule : ByteArray) (own_Spots : List (Int × (Int × Int))) (own_X : Int) (own_Y : Int) (own_Way : Int) (ten : Bool) (c : Int) (eleven : Bool) (list : Int) (twelve : Bool) (w_Rule : ByteArray) (w_Width : Int) (w_Height : Int) (w_Cells : ByteArray) (w_X : Int) (w_Y : Int) (w_Way : Int) (laid_Rule : ByteArray) (laid_Spots : List (Int × (Int × Int))) (laid_X : Int) (laid_Y : Int) (laid_Way : Int) (thirteen : Bool) (rows_Rule : ByteArray) (rows_Spots : List (Int × (Int × Int))) (rows_X : Int) (rows_Y : Int) (rows_Way : Int) (fourteen : Bool) (rule : ByteArray) (first_Rule : ByteArray) (first_Spots : List (Int × (Int × Int))) (first_X : Int) (first_Y : Int) (first_Way : Int) (fifteen : Bool) (fresh_Rule : ByteArray) (fresh_Spots : List (Int × (Int × Int))) (fresh_X : Int) (fresh_Y : Int) (fresh_Way : Int) (sixteen : Bool) : laws_FnPlainsMove_c_c_2_c (k + 1) ((q_Rule, q_Spots, q_X, q_Y, q_Way), x, y, (moved_Rule, moved_Spots, moved_X, moved_Y, moved_Way), seven, (due_Rule, due_Spots, due_X, due_Y, due_Way), eight, (r_Rule, r_Spots, r_X, r_Y, r_Way), u, v, colour, (painted_Rule, painted_Spots, painted_X, painted_Y, painted_Way), nine, (own_Rule, own_Spots, own_X, own_Y, own_Way), ten, c, eleven, list, twelve, (w_Rule, w_Width, w_Height, w_Cells, w_X, w_Y, w_Way), (laid_Rule, laid_Spots, laid_X, laid_Y, laid_Way), thirteen, (rows_Rule, rows_Spots, rows_X, rows_Y, rows_Way), fourteen, rule, (first_Rule, first_Spots, first_X, first_Y, first_Way), fifteen, (fresh_Rule, fresh_Spots, fresh_X, fresh_Y, fresh_Way), sixteen) =
  cond (!(seven == eight))
  (some false)
  ((laws_dPlain k ((moved_Rule, moved_Spots, moved_X, moved_Y, moved_Way), (due_Rule, due_Spots, due_X, due_Y, due_Way))).bind fun r1 =>
   cond (!r1)
   (some false)
   (cond (!(nine == ten))
    (some false)
    ((laws_dPlain k ((painted_Rule, painted_Spots, painted_X, painted_Y, painted_Way), (own_Rule, own_Spots, own_X, own_Y, own_Way))).bind fun r2 =>
     cond (!r2)
     (some false)
     (cond (!(eleven == twelve))
      (some false)
      (cond (c != list)
       (some false)
       (cond (!(thirteen == fourteen))
        (some false)
        ((laws_dPlain k ((laid_Rule, laid_Spots, laid_X, laid_Y, laid_Way), (rows_Rule, rows_Spots, rows_X, rows_Y, rows_Way))).bind fun r3 =>
         cond (!r3)
         (some false)
         (cond (!(fifteen == sixteen))
          (some false)
          ((laws_dPlain k ((first_Rule, first_Spots, first_X, first_Y, first_Way), (fresh_Rule, fresh_Spots, fresh_X, fresh_Y, fresh_Way))).bind fun r4 =>
           cond (!r4)
           (some false)
           ((impl_IsRule k rule).bind fun r5 =>
            cond (!(fifteen == r5))
            (some false)
            ((impl_IsWorld k (w_Rule, w_Width, w_Height, w_Cells, w_X, w_Y, w_Way)).bind fun r6 =>
             cond (!(thirteen == r6))
             (some false)
             ((laws_FnPlainsMove_c_c_2_c_c k ((q_Rule, q_Spots, q_X, q_Y, q_Way), x, y, (moved_Rule, moved_Spots, moved_X, moved_Y, moved_Way), seven, (r_Rule, r_Spots, r_X, r_Y, r_Way), u, v, colour, (painted_Rule, painted_Spots, painted_X, painted_Y, painted_Way), nine, c, eleven, (w_Rule, w_Width, w_Height, w_Cells, w_X, w_Y, w_Way), (laid_Rule, laid_Spots, laid_X, laid_Y, laid_Way), thirteen)).bind fun r7 =>
              some r7)))))))))))) := by kernel_rfl
theorem laws_FnPlainsMove_c_c_2_c_c.eq (k : Nat) (q_Rule : ByteArray) (q_Spots : List (Int × (Int × Int))) (q_X : Int) (q_Y : Int) (q_Way : Int) (x : Int) (y : Int) (moved_Rule : ByteArray) (moved_Spots : List (Int × (Int × Int))) (moved_X : Int) (moved_Y : Int) (moved_Way : Int) (seven : Bool) (r_Rule : ByteArray) (r_Spots : List (Int × (Int × Int))) (r_X : Int) (r_Y : Int) (r_Way : Int) (u : Int) (v : Int) (colour : Int) (painted_Rule : ByteArray) (painted_Spots : List (Int × (Int × Int))) (painted_X : Int) (painted_Y : Int) (painted_Way : Int) (nine : Bool) (c : Int) (eleven : Bool) (w_Rule : ByteArray) (w_Width : Int) (w_Height : Int) (w_Cells : ByteArray) (w_X : Int) (w_Y : Int) (w_Way : Int) (laid_Rule : ByteArray) (laid_Spots : List (Int × (Int × Int))) (laid_X : Int) (laid_Y : Int) (laid_Way : Int) (thirteen : Bool) : laws_FnPlainsMove_c_c_2_c_c (k + 1) ((q_Rule, q_Spots, q_X, q_Y, q_Way), x, y, (moved_Rule, moved_Spots, moved_X, moved_Y, moved_Way), seven, (r_Rule, r_Spots, r_X, r_Y, r_Way), u, v, colour, (painted_Rule, painted_Spots, painted_X, painted_Y, painted_Way), nine, c, eleven, (w_Rule, w_Width, w_Height, w_Cells, w_X, w_Y, w_Way), (laid_Rule, laid_Spots, laid_X, laid_Y, laid_Way), thirteen) =
  cond seven
  ((impl_MovePlain k ((moved_Rule, moved_Spots, moved_X, moved_Y, moved_Way), (w64 (0 - x)), (w64 (0 - y)))).bind fun r1 =>
   cond (!r1.2)
   (some false)
   ((laws_dPlain k (r1.1, (q_Rule, q_Spots, q_X, q_Y, q_Way))).bind fun r2 =>
    cond (!r2)
    (some false)
    ((laws_FnPlainsMove_c_c_2_c_c_c k ((r_Rule, r_Spots, r_X, r_Y, r_Way), u, v, colour, (painted_Rule, painted_Spots, painted_X, painted_Y, painted_Way), nine, c, eleven, (w_Rule, w_Width, w_Height, w_Cells, w_X, w_Y, w_Way), (laid_Rule, laid_Spots, laid_X, laid_Y, laid_Way), thirteen)).bind fun r3 =>
     some r3)))
  ((laws_FnPlainsMove_c_c_2_c_c_c k ((r_Rule, r_Spots, r_X, r_Y, r_Way), u, v, colour, (painted_Rule, painted_Spots, painted_X, painted_Y, painted_Way), nine, c, eleven, (w_Rule, w_Width, w_Height, w_Cells, w_X, w_Y, w_Way), (laid_Rule, laid_Spots, laid_X, laid_Y, laid_Way), thirteen)).bind fun r4 =>
   some r4) := by kernel_rfl
theorem laws_FnPlainsMove_c_c_2_c_c_c.eq (k : Nat) (r_Rule : ByteArray) (r_Spots : List (Int × (Int × Int))) (r_X : Int) (r_Y : Int) (r_Way : Int) (u : Int) (v : Int) (colour : Int) (painted_Rule : ByteArray) (painted_Spots : List (Int × (Int × Int))) (painted_X : Int) (painted_Y : Int) (painted_Way : Int) (nine : Bool) (c : Int) (eleven : Bool) (w_Rule : ByteArray) (w_Width : Int) (w_Height : Int) (w_Cells : ByteArray) (w_X : Int) (w_Y : Int) (w_Way : Int) (laid_Rule : ByteArray) (laid_Spots : List (Int × (Int × Int))) (laid_X : Int) (laid_Y : Int) (laid_Way : Int) (thirteen : Bool) : laws_FnPlainsMove_c_c_2_c_c_c (k + 1) ((r_Rule, r_Spots, r_X, r_Y, r_Way), u, v, colour, (painted_Rule, painted_Spots, painted_X, painted_Y, painted_Way), nine, c, eleven, (w_Rule, w_Width, w_Height, w_Cells, w_X, w_Y, w_Way), (laid_Rule, laid_Spots, laid_X, laid_Y, laid_Way), thirteen) =
  cond nine
  ((impl_ColourOfSpot k ((painted_Rule, painted_Spots, painted_X, painted_Y, painted_Way), u, v)).bind fun r1 =>
   (impl_PaintSpot k ((painted_Rule, painted_Spots, painted_X, painted_Y, painted_Way), u, v, c)).bind fun r2 =>
   cond (!eleven)
   (some false)
   (cond (!r1.2)
    (some false)
    (cond (r1.1 != colour)
     (some false)
     (cond (!r2.2)
      (some false)
      ((laws_dPlain k (r2.1, (r_Rule, r_Spots, r_X, r_Y, r_Way))).bind fun r3 =>
       cond (!r3)
       (some false)
       ((laws_FnPlainsMove_c_c_2_c_c_c_c k ((w_Rule, w_Width, w_Height, w_Cells, w_X, w_Y, w_Way), (laid_Rule, laid_Spots, laid_X, laid_Y, laid_Way), thirteen)).bind fun r4 =>
        some r4))))))
  ((laws_FnPlainsMove_c_c_2_c_c_c_c k ((w_Rule, w_Width, w_Height, w_Cells, w_X, w_Y, w_Way), (laid_Rule, laid_Spots, laid_X, laid_Y, laid_Way), thirteen)).bind fun r5 =>
   some r5) := by kernel_rfl
theorem laws_FnPlainsMove_c_c_2_c_c_c_c.eq (k : Nat) (w_Rule : ByteArray) (w_Width : Int) (w_Height : Int) (w_Cells : ByteArray) (w_X : Int) (w_Y : Int) (w_Way : Int) (laid_Rule : ByteArray) (laid_Spots : List (Int × (Int × Int))) (laid_X : Int) (laid_Y : Int) (laid_Way : Int) (thirteen : Bool) : laws_FnPlainsMove_c_c_2_c_c_c_c (k + 1) ((w_Rule, w_Width, w_Height, w_Cells, w_X, w_Y, w_Way), (laid_Rule, laid_Spots, laid_X, laid_Y, laid_Way), thirteen) =
  cond thirteen
  ((laws_dCount k (w_Cells, 48)).bind fun r1 =>
   cond ((laid_Spots.length : Int) != r1)
   (some false)
   (cond (laid_X != w_X)
    (some false)
    (cond (laid_Y != w_Y)
     (some false)
     (cond (laid_Way != w_Way)
      (some false)
      ((laws_FnPlainsMove_c_c_2_c_c_c_c_c k ((w_Rule, w_Width, w_Height, w_Cells, w_X, w_Y, w_Way), (laid_Rule, laid_Spots, laid_X, laid_Y, laid_Way), thirteen)).bind fun r2 =>
       some r2)))))
  ((laws_FnPlainsMove_c_c_2_c_c_c_c_c k ((w_Rule, w_Width, w_Height, w_Cells, w_X, w_Y, w_Way), (laid_Rule, laid_Spots, laid_X, laid_Y, laid_Way), thirteen)).bind fun r3 =>
   some r3) := by kernel_rfl
theorem laws_FnPlainsMove_c_c_2_c_c_c_c_c.eq (k : Nat) (w_Rule : ByteArray) (w_Width : Int) (w_Height : Int) (w_Cells : ByteArray) (w_X : Int) (w_Y : Int) (w_Way : Int) (laid_Rule : ByteArray) (laid_Spots : List (Int × (Int × Int))) (laid_X : Int) (laid_Y : Int) (laid_Way : Int) (thirteen : Bool) : laws_FnPlainsMove_c_c_2_c_c_c_c_c (k + 1) ((w_Rule, w_Width, w_Height, w_Cells, w_X, w_Y, w_Way), (laid_Rule, laid_Spots, laid_X, laid_Y, laid_Way), thirteen) =
  cond thirteen
  (cond (decide (w_X > 0))
   (cond (decide (w_X < (w64 (w_Width - 1))))
    (cond (decide (w_Y > 0))
     (cond (decide (w_Y < (w64 (w_Height - 1))))
      ((impl_StepWorld k (w_Rule, w_Width, w_Height, w_Cells, w_X, w_Y, w_Way)).bind fun r1 =>
       (impl_StepPlain k (laid_Rule, laid_Spots, laid_X, laid_Y, laid_Way)).bind fun r2 =>
       (impl_PlainOfWorld k r1.1).bind fun r3 =>
       cond (!r1.2)
       (some false)
       (cond (!r2.2)
        (some false)
        (cond (!r3.2)
         (some false)
         ((laws_dPlain k (r2.1, r3.1)).bind fun r4 =>
          cond (!r4)
          (some false)
          (some true)))))
      (some true))
     (some true))
    (some true))
   (some true))
  (some true) := by kernel_rfl
theorem impl_StepWorld.eq (k : Nat) (w_Rule : ByteArray) (w_Width : Int) (w_Height : Int) (w_Cells : ByteArray) (w_X : Int) (w_Y : Int) (w_Way : Int) : impl_StepWorld (k + 1) (w_Rule, w_Width, w_Height, w_Cells, w_X, w_Y, w_Way) =
  (impl_WorldAfter k ((w_Rule, w_Width, w_Height, w_Cells, w_X, w_Y, w_Way), 1)).bind fun r1 =>
  some r1 := by kernel_rfl
theorem impl_WorldAfter.eq (k : Nat) (w_Rule : ByteArray) (w_Width : Int) (w_Height : Int) (w_Cells : ByteArray) (w_X : Int) (w_Y : Int) (w_Way : Int) (steps : Int) : impl_WorldAfter (k + 1) ((w_Rule, w_Width, w_Height, w_Cells, w_X, w_Y, w_Way), steps) =
  (impl_isGoing k ((w_Rule, w_Width, w_Height, w_Cells, w_X, w_Y, w_Way), steps)).bind fun r1 =>
  cond (!r1)
  (some ((ByteArray.empty, 0, 0, ByteArray.empty, 0, 0, 0), false))
  ((impl_WorldAfter_l k ((w_Rule, w_Width, w_Height, w_Cells, w_X, w_Y, w_Way), (ByteArray.empty, 0, 0, ByteArray.empty, 0, 0, 0), steps, 0)).bind fun r2 =>
   some (r2.1, true)) := by kernel_rfl
theorem impl_isGoing.eq (k : Nat) (w_Rule : ByteArray) (w_Width : Int) (w_Height : Int) (w_Cells : ByteArray) (w_X : Int) (w_Y : Int) (w_Way : Int) (steps : Int) : impl_isGoing (k + 1) ((w_Rule, w_Width, w_Height, w_Cells, w_X, w_Y, w_Way), steps) =
  (impl_IsWorld k (w_Rule, w_Width, w_Height, w_Cells, w_X, w_Y, w_Way)).bind fun r1 =>
  cond r1
  ((impl_within k (steps, 0, 3000)).bind fun r2 =>
   some r2)
  (some false) := by kernel_rfl
theorem impl_WorldAfter_l.eq (k : Nat) (w_Rule : ByteArray) (w_Width : Int) (w_Height : Int) (w_Cells : ByteArray) (w_X : Int) (w_Y : Int) (w_Way : Int) (t4_Rule : ByteArray) (t4_Width : Int) (t4_Height : Int) (t4_Cells : ByteArray) (t4_X : Int) (t4_Y : Int) (t4_Way : Int) (t11 : Int) (t12 : Int) : impl_WorldAfter_l (k + 1) ((w_Rule, w_Width, w_Height, w_Cells, w_X, w_Y, w_Way), (t4_Rule, t4_Width, t4_Height, t4_Cells, t4_X, t4_Y, t4_Way), t11, t12) =
  cond (decide (t12 < t11))
  ((impl_World_step k (w_Rule, w_Width, w_Height, w_Cells, w_X, w_Y, w_Way)).bind fun r1 =>
   impl_WorldAfter_l k (r1, (t4_Rule, t4_Width, t4_Height, t4_Cells, t4_X, t4_Y, t4_Way), t11, (w64 (t12 + 1))))
  (some ((w_Rule, w_Width, w_Height, w_Cells, w_X, w_Y, w_Way), (t4_Rule, t4_Width, t4_Height, t4_Cells, t4_X, t4_Y, t4_Way))) := by kernel_rfl
theorem impl_World_step.eq (k : Nat) (w_Rule : ByteArray) (w_Width : Int) (w_Height : Int) (w_Cells : ByteArray) (w_X : Int) (w_Y : Int) (w_Way : Int) : impl_World_step (k + 1) (w_Rule, w_Width, w_Height, w_Cells, w_X, w_Y, w_Way) =
  (impl_World_colour k (w_Rule, w_Width, w_Height, w_Cells, w_X, w_Y, w_Way)).bind fun r1 =>
  cond (inB r1 w_Rule.size)
  ((impl_quarters k (bt w_Rule r1.toNat)).bind fun r2 =>
   (impl_World_at k (w_Rule, w_Width, w_Height, w_Cells, w_X, w_Y, ((w64 (w_Way + r2)).tmod 4))).bind fun r3 =>
   cond ((w_Rule.size : Int) != 0)
   ((impl_painted k (w_Cells, r3, ((w64 (r1 + 1)).tmod (w_Rule.size : Int)))).bind fun r4 =>
    (impl_World_gone k ((w_Rule, w_Width, w_Height, r4, w_X, w_Y, ((w64 (w_Way + r2)).tmod 4)), 1)).bind fun r5 =>
    some r5)
   (none))
  (none) := by kernel_rfl
theorem impl_World_colour.eq (k : Nat) (w_Rule : ByteArray) (w_Width : Int) (w_Height : Int) (w_Cells : ByteArray) (w_X : Int) (w_Y : Int) (w_Way : Int) : impl_World_colour (k + 1) (w_Rule, w_Width, w_Height, w_Cells, w_X, w_Y, w_Way) =
  (impl_World_at k (w_Rule, w_Width, w_Height, w_Cells, w_X, w_Y, w_Way)).bind fun r1 =>
  cond (inB r1 w_Cells.size)
  (some (w64 (w8 ((bt w_Cells r1.toNat) - 48))))
  (none) := by kernel_rfl
theorem impl_World_at.eq (k : Nat) (w_Rule : ByteArray) (w_Width : Int) (w_Height : Int) (w_Cells : ByteArray) (w_X : Int) (w_Y : Int) (w_Way : Int) : impl_World_at (k + 1) (w_Rule, w_Width, w_Height, w_Cells, w_X, w_Y, w_Way) =
  some (w64 ((w64 (w_Y * w_Width)) + w_X)) := by kernel_rfl
theorem impl_painted.eq (k : Nat) (cells : ByteArray) (k_ : Int) (tint : Int) : impl_painted (k + 1) (cells, k_, tint) =
  cond (inB k_ ((bytesOf cells).length))
  (some (ofBytes ((bytesOf cells).set k_.toNat (w8 (w64 (48 + tint))))))
  (none) := by kernel_rfl
theorem impl_World_gone.eq (k : Nat) (w_Rule : ByteArray) (w_Width : Int) (w_Height : Int) (w_Cells : ByteArray) (w_X : Int) (w_Y : Int) (w_Way : Int) (by_ : Int) : impl_World_gone (k + 1) ((w_Rule, w_Width, w_Height, w_Cells, w_X, w_Y, w_Way), by_) =
  (impl_ahead k w_Way).bind fun r1 =>
  cond (w_Width != 0)
  (cond (w_Height != 0)
   (some (w_Rule, w_Width, w_Height, w_Cells, ((w64 ((w64 (w_X + (w64 (by_ * r1.1)))) + w_Width)).tmod w_Width), ((w64 ((w64 (w_Y + (w64 (by_ * r1.2)))) + w_Height)).tmod w_Height), w_Way))
   (none))
  (none) := by kernel_rfl
theorem impl_StepPlain.eq (k : Nat) (p_Rule : ByteArray) (p_Spots : List (Int × (Int × Int))) (p_X : Int) (p_Y : Int) (p_Way : Int) : impl_StepPlain (k + 1) (p_Rule, p_Spots, p_X, p_Y, p_Way) =
  (impl_PlainAfter k ((p_Rule, p_Spots, p_X, p_Y, p_Way), 1)).bind fun r1 =>
  some r1 := by kernel_rfl
end Go.Proofs.YtblgfbkifhfjpaaGreatDoorS
