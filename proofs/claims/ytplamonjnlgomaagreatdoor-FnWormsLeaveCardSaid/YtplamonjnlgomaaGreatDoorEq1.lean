/- What each function computes (printed by wip/sim/gen.py). -/
import Derived.Test.YtplamonjnlgomaaGreatDoorTab
namespace Go.Proofs.YtplamonjnlgomaaGreatDoorS
open Go Go.Proofs
set_option maxRecDepth 100000
set_option linter.unusedVariables false
theorem laws_FnWormsLeave_c.eq (k : Nat) (more : List Int) (w_Width : Int) (w_Height : Int) (w_Right : ByteArray) (w_Down : ByteArray) (w_X : Int) (w_Y : Int) (w_Way : Int) (odd : List Int) (ok : Bool) (pieces : Int) (tastes : List ByteArray) (most : Int) (left : Int) (text : ByteArray) : laws_FnWormsLeave_c (k + 1) (more, (w_Width, w_Height, w_Right, w_Down, w_X, w_Y, w_Way), odd, ok, pieces, tastes, most, left, text) =
  cond ok
  ((laws_FnWormsLeave_c_l k (more, (w_Width, w_Height, w_Right, w_Down, w_X, w_Y, w_Way), odd, pieces, tastes, most, left, text, (w64 (w_Width * w_Height)), 0, 0)).bind fun r1 =>
   r1.elim
   (fun r2 => some r2)
   (fun r3 => (impl_ParseWorm k r3.2.2.2.2.2.2.2.1).bind fun r4 =>
    cond (r3.2.2.2.2.2.2.2.2.2 != (w64 (2 * r3.2.2.2.2.2.2.1)))
    (some false)
    (cond (((r3.2.2.1.length : Int).tmod 2) != 0)
     (some false)
     (cond (decide (r3.2.2.2.1 < 1))
      (some false)
      (cond (decide (r3.2.2.2.1 > r3.2.2.2.2.2.2.2.2.1))
       (some false)
       (cond (decide (r3.2.2.2.1 < (w64 (r3.2.2.2.2.2.2.2.2.1 - r3.2.2.2.2.2.2.1))))
        (some false)
        (cond (!r4.2)
         (some false)
         (cond (!((r4.1.1 == r3.2.1.1) && ((r4.1.2.1 == r3.2.1.2.1) && ((r4.1.2.2.1 == r3.2.1.2.2.1) && ((r4.1.2.2.2.1 == r3.2.1.2.2.2.1) && ((r4.1.2.2.2.2.1 == r3.2.1.2.2.2.2.1) && ((r4.1.2.2.2.2.2.1 == r3.2.1.2.2.2.2.2.1) && ((r4.1.2.2.2.2.2.2 == r3.2.1.2.2.2.2.2.2) && true))))))))
          (some false)
          (cond (decide ((r3.2.2.2.2.1.length : Int) < 1))
           (some false)
           ((laws_FnWormsLeave_c_l_2 k (r3.1, r3.2.1, r3.2.2.2.2.1, r3.2.2.2.2.2.1, [(bs [76, 78, 82]), (bs [76, 82, 78]), (bs [78, 76, 82]), (bs [78, 82, 76]), (bs [82, 76, 78]), (bs [82, 78, 76])], 6, 0)).bind fun r5 =>
            r5.elim
            (fun r6 => some r6)
            (fun r7 => (laws_FnWormsLeave_c_c k r7).bind fun r8 =>
             some r8)))))))))))
  ((laws_FnWormsLeave_c_c k more).bind fun r9 =>
   some r9) := by kernel_rfl
theorem laws_FnWormsLeave_c_l.eq (k : Nat) (more : List Int) (w_Width : Int) (w_Height : Int) (w_Right : ByteArray) (w_Down : ByteArray) (w_X : Int) (w_Y : Int) (w_Way : Int) (odd : List Int) (pieces : Int) (tastes : List ByteArray) (most : Int) (left : Int) (text : ByteArray) (n : Int) (sum : Int) (i : Int) : laws_FnWormsLeave_c_l (k + 1) (more, (w_Width, w_Height, w_Right, w_Down, w_X, w_Y, w_Way), odd, pieces, tastes, most, left, text, n, sum, i) =
  cond (decide (i < n))
  (cond (w_Width != 0)
   (cond (w_Width != 0)
    ((impl_LinesAt k ((w_Width, w_Height, w_Right, w_Down, w_X, w_Y, w_Way), (i.tmod w_Width), (w64 (i.tdiv w_Width)))).bind fun r1 =>
     cond (!r1.2)
     (some (.inl false))
     (cond (decide (r1.1 < 0))
      (some (.inl false))
      (cond (decide (r1.1 > 4))
       (some (.inl false))
       ((laws_dHas k (odd, i)).bind fun r2 =>
        cond (!(r2 == ((r1.1.tmod 2) == 1)))
        (some (.inl false))
        (laws_FnWormsLeave_c_l k (more, (w_Width, w_Height, w_Right, w_Down, w_X, w_Y, w_Way), odd, pieces, tastes, most, left, text, n, (w64 (sum + r1.1)), (w64 (i + 1))))))))
    (none))
   (none))
  (some (.inr (more, (w_Width, w_Height, w_Right, w_Down, w_X, w_Y, w_Way), odd, pieces, tastes, most, left, text, n, sum))) := by kernel_rfl
theorem impl_LinesAt.eq (k : Nat) (w_Width : Int) (w_Height : Int) (w_Right : ByteArray) (w_Down : ByteArray) (w_X : Int) (w_Y : Int) (w_Way : Int) (x : Int) (y : Int) : impl_LinesAt (k + 1) ((w_Width, w_Height, w_Right, w_Down, w_X, w_Y, w_Way), x, y) =
  (impl_IsWorm k (w_Width, w_Height, w_Right, w_Down, w_X, w_Y, w_Way)).bind fun r1 =>
  cond (!r1)
  (some (0, false))
  ((impl_isAnt k (w_Width, w_Height, x, y, 0)).bind fun r2 =>
   cond (!r2)
   (some (0, false))
   ((impl_Worm_linesAt k ((w_Width, w_Height, w_Right, w_Down, w_X, w_Y, w_Way), (w64 ((w64 (y * w_Width)) + x)))).bind fun r3 =>
    some (r3, true))) := by kernel_rfl
theorem laws_dHas.eq (k : Nat) (a : List Int) (n : Int) : laws_dHas (k + 1) (a, n) =
  (laws_dHas_l k (n, a, (a.length : Int), 0)).bind fun r1 =>
  r1.elim
  (fun r2 => some r2)
  (fun r3 => some false) := by kernel_rfl
theorem laws_dHas_l.eq (k : Nat) (n : Int) (t7 : List Int) (t8 : Int) (t9 : Int) : laws_dHas_l (k + 1) (n, t7, t8, t9) =
  cond (decide (t9 < t8))
  (cond (inB t9 t7.length)
   (cond ((t7.getD t9.toNat default) == n)
    (some (.inl true))
    (laws_dHas_l k (n, t7, t8, (w64 (t9 + 1)))))
   (none))
  (some (.inr ())) := by kernel_rfl
theorem impl_ParseWorm.eq (k : Nat) (s : ByteArray) : impl_ParseWorm (k + 1) s =
  (strings_Split k (s, (bs [58]))).bind fun r1 =>
  cond ((r1.length : Int) != 4)
  (some ((0, 0, ByteArray.empty, ByteArray.empty, 0, 0, 0), false))
  (cond (inB 0 r1.length)
   ((impl_numbers k ((r1.getD 0 default), (bs [120]), 2, 6)).bind fun r2 =>
    cond (inB 3 r1.length)
    ((impl_numbers k ((r1.getD 3 default), (bs [44]), 3, 6)).bind fun r3 =>
     cond (inB 0 r2.1.length)
     (cond (inB 1 r2.1.length)
      (cond (inB 1 r1.length)
       (cond (inB 2 r1.length)
        (cond (inB 0 r3.1.length)
         (cond (inB 1 r3.1.length)
          (cond (inB 2 r3.1.length)
           (cond (!r2.2)
            (some ((0, 0, ByteArray.empty, ByteArray.empty, 0, 0, 0), false))
            (cond (!r3.2)
             (some ((0, 0, ByteArray.empty, ByteArray.empty, 0, 0, 0), false))
             ((impl_IsWorm k ((r2.1.getD 0 default), (r2.1.getD 1 default), (r1.getD 1 default), (r1.getD 2 default), (r3.1.getD 0 default), (r3.1.getD 1 default), (r3.1.getD 2 default))).bind fun r4 =>
              cond (!r4)
              (some ((0, 0, ByteArray.empty, ByteArray.empty, 0, 0, 0), false))
              (some (((r2.1.getD 0 default), (r2.1.getD 1 default), (r1.getD 1 default), (r1.getD 2 default), (r3.1.getD 0 default), (r3.1.getD 1 default), (r3.1.getD 2 default)), true)))))
           (none))
          (none))
         (none))
        (none))
       (none))
      (none))
     (none))
    (none))
   (none)) := by kernel_rfl
theorem strings_Split.eq (k : Nat) (d : ByteArray × ByteArray) : strings_Split (k + 1) d = (fun d => strSplit1 d.1 d.2) d := by kernel_rfl
theorem impl_numbers.eq (k : Nat) (s : ByteArray) (by_ : ByteArray) (many : Int) (most : Int) : impl_numbers (k + 1) (s, by_, many, most) =
  (strings_Split k (s, by_)).bind fun r1 =>
  (impl_numbers_l k (many, most, [], r1, (r1.length : Int), 0)).bind fun r2 =>
  r2.elim
  (fun r3 => some r3)
  (fun r4 => cond ((r4.2.length : Int) != r4.1)
   (cond (((decide ((0 : Int) ≤ r4.1)) && (decide (r4.1 ≤ r4.1))) && (fits r4.1.toNat 8))
    (some ((List.replicate r4.1.toNat 0), false))
    (none))
   (some (r4.2, true))) := by kernel_rfl
theorem impl_numbers_l.eq (k : Nat) (many : Int) (most : Int) (out : List Int) (t18 : List ByteArray) (t19 : Int) (t20 : Int) : impl_numbers_l (k + 1) (many, most, out, t18, t19, t20) =
  cond (decide (t20 < t19))
  (cond (inB t20 t18.length)
   ((impl_number k ((t18.getD t20.toNat default), most)).bind fun r1 =>
    cond (!r1.2)
    (cond (((decide ((0 : Int) ≤ many)) && (decide (many ≤ many))) && (fits many.toNat 8))
     (some (.inl ((List.replicate many.toNat 0), false)))
     (none))
    (cond (fits (out.length + 1) 8)
     (impl_numbers_l k (many, most, (out ++ [r1.1]), t18, t19, (w64 (t20 + 1))))
     (none)))
   (none))
  (some (.inr (many, out))) := by kernel_rfl
theorem impl_number.eq (k : Nat) (d : ByteArray × Int) : impl_number (k + 1) d = (fun d => numB d.1 d.2) d := by kernel_rfl
theorem laws_FnWormsLeave_c_l_2.eq (k : Nat) (more : List Int) (w_Width : Int) (w_Height : Int) (w_Right : ByteArray) (w_Down : ByteArray) (w_X : Int) (w_Y : Int) (w_Way : Int) (tastes : List ByteArray) (most : Int) (t317 : List ByteArray) (t318 : Int) (t319 : Int) : laws_FnWormsLeave_c_l_2 (k + 1) (more, (w_Width, w_Height, w_Right, w_Down, w_X, w_Y, w_Way), tastes, most, t317, t318, t319) =
  cond (decide (t319 < t318))
  (cond (inB t319 t317.length)
   ((impl_LifeOf k ((w_Width, w_Height, w_Right, w_Down, w_X, w_Y, w_Way), (t317.getD t319.toNat default))).bind fun r1 =>
    cond (!r1.2)
    (some (.inl false))
    (cond (decide (r1.1 > most))
     (some (.inl false))
     ((laws_dText k (tastes, (t317.getD t319.toNat default))).bind fun r2 =>
      cond (!((r1.1 == most) == r2))
      (some (.inl false))
      (laws_FnWormsLeave_c_l_2 k (more, (w_Width, w_Height, w_Right, w_Down, w_X, w_Y, w_Way), tastes, most, t317, t318, (w64 (t319 + 1)))))))
   (none))
  (some (.inr more)) := by kernel_rfl
theorem impl_LifeOf.eq (k : Nat) (w_Width : Int) (w_Height : Int) (w_Right : ByteArray) (w_Down : ByteArray) (w_X : Int) (w_Y : Int) (w_Way : Int) (taste : ByteArray) : impl_LifeOf (k + 1) ((w_Width, w_Height, w_Right, w_Down, w_X, w_Y, w_Way), taste) =
  (impl_MealsOfWorm k ((w_Width, w_Height, w_Right, w_Down, w_X, w_Y, w_Way), taste)).bind fun r1 =>
  some ((r1.1.size : Int), r1.2) := by kernel_rfl
theorem impl_MealsOfWorm.eq (k : Nat) (w_Width : Int) (w_Height : Int) (w_Right : ByteArray) (w_Down : ByteArray) (w_X : Int) (w_Y : Int) (w_Way : Int) (taste : ByteArray) : impl_MealsOfWorm (k + 1) ((w_Width, w_Height, w_Right, w_Down, w_X, w_Y, w_Way), taste) =
  (impl_isTasting k ((w_Width, w_Height, w_Right, w_Down, w_X, w_Y, w_Way), taste)).bind fun r1 =>
  cond (!r1)
  (some (ByteArray.empty, false))
  ((impl_Worm_life k ((w_Width, w_Height, w_Right, w_Down, w_X, w_Y, w_Way), taste)).bind fun r2 =>
   some (r2.2.2, true)) := by kernel_rfl
theorem impl_isTasting.eq (k : Nat) (w_Width : Int) (w_Height : Int) (w_Right : ByteArray) (w_Down : ByteArray) (w_X : Int) (w_Y : Int) (w_Way : Int) (taste : ByteArray) : impl_isTasting (k + 1) ((w_Width, w_Height, w_Right, w_Down, w_X, w_Y, w_Way), taste) =
  (impl_IsWorm k (w_Width, w_Height, w_Right, w_Down, w_X, w_Y, w_Way)).bind fun r1 =>
  cond r1
  ((impl_IsTaste k taste).bind fun r2 =>
   some r2)
  (some false) := by kernel_rfl
theorem impl_IsTaste.eq (k : Nat) (taste : ByteArray) : impl_IsTaste (k + 1) taste =
  (impl_tastes k ()).bind fun r1 =>
  (slices_Contains k (r1, taste)).bind fun r2 =>
  some r2 := by kernel_rfl
theorem slices_Contains.eq (k : Nat) (s : List ByteArray) (v : ByteArray) : slices_Contains (k + 1) (s, v) =
  (slices_Index k (s, v)).bind fun r1 =>
  some (decide (r1 ≥ 0)) := by kernel_rfl
theorem slices_Index.eq (k : Nat) (s : List ByteArray) (v : ByteArray) : slices_Index (k + 1) (s, v) =
  (slices_Index_l k (s, v, (s.length : Int), 0)).bind fun r1 =>
  r1.elim
  (fun r2 => some r2)
  (fun r3 => some (-1)) := by kernel_rfl
theorem slices_Index_l.eq (k : Nat) (s : List ByteArray) (v : ByteArray) (t7 : Int) (t8 : Int) : slices_Index_l (k + 1) (s, v, t7, t8) =
  cond (decide (t8 < t7))
  (cond (inB t8 s.length)
   (cond (strEq v (s.getD t8.toNat default))
    (some (.inl t8))
    (slices_Index_l k (s, v, t7, (w64 (t8 + 1)))))
   (none))
  (some (.inr ())) := by kernel_rfl
theorem laws_dText.eq (k : Nat) (a : List ByteArray) (s : ByteArray) : laws_dText (k + 1) (a, s) =
  (laws_dText_l k (s, a, (a.length : Int), 0)).bind fun r1 =>
  r1.elim
  (fun r2 => some r2)
  (fun r3 => some false) := by kernel_rfl
theorem laws_dText_l.eq (k : Nat) (s : ByteArray) (t7 : List ByteArray) (t8 : Int) (t9 : Int) : laws_dText_l (k + 1) (s, t7, t8, t9) =
  cond (decide (t9 < t8))
  (cond (inB t9 t7.length)
   (cond (strEq (t7.getD t9.toNat default) s)
    (some (.inl true))
    (laws_dText_l k (s, t7, t8, (w64 (t9 + 1)))))
   (none))
  (some (.inr ())) := by kernel_rfl
theorem laws_FnWormsLeave_c_c.eq (k : Nat) (more : List Int) : laws_FnWormsLeave_c_c (k + 1) more =
  (spec_DrawShiftWorm k more).bind fun r1 =>
  (impl_ShiftWorm k r1).bind fun r2 =>
  (spec_ShiftWorm k r1).bind fun r3 =>
  (spec_DrawGiveBack k more).bind fun r4 =>
  (impl_GiveBack k r4).bind fun r5 =>
  (spec_GiveBack k r4).bind fun r6 =>
  (spec_DrawFreshWorm k more).bind fun r7 =>
  (impl_FreshWorm k r7).bind fun r8 =>
  (spec_FreshWorm k r7).bind fun r9 =>
  (spec_DrawLinesAt k more).bind fun r10 =>
  (impl_LinesAt k r10).bind fun r11 =>
  (spec_LinesAt k r10).bind fun r12 =>
  (spec_DrawParseWorm k more).bind fun r13 =>
  (impl_ParseWorm k r13).bind fun r14 =>
  (spec_ParseWorm k r13).bind fun r15 =>
  (laws_FnWormsLeave_c_c_c k (r1.1, r1.2.1, r1.2.2, r2.1, r2.2, r3.1, r3.2, r4.1, r4.2, r5.1, r5.2, r6.1, r6.2, r7.1, r7.2, r8.1, r8.2, r9.1, r9.2, r11.1, r11.2, r12.1, r12.2, r13, r14.1, r14.2, r15.1, r15.2)).bind fun r16 =>
  some r16 := by kernel_rfl
theorem spec_DrawShiftWorm.eq (k : Nat) (code : List Int) : spec_DrawShiftWorm (k + 1) code =
  (spec_l1Cur_worm k (code, 0, 0)).bind fun r1 =>
  (spec_l1Cur_pick k (r1.2, 6)).bind fun r2 =>
  (spec_l1Cur_pick k (r2.2, 9)).bind fun r3 =>
  (spec_l1Cur_pick k (r3.2, 6)).bind fun r4 =>
  some (r1.1, (w64 (r2.1 - (w64 (r3.1.tdiv 8)))), r4.1) := by kernel_rfl
theorem impl_ShiftWorm.eq (k : Nat) (w_Width : Int) (w_Height : Int) (w_Right : ByteArray) (w_Down : ByteArray) (w_X : Int) (w_Y : Int) (w_Way : Int) (right : Int) (down : Int) : impl_ShiftWorm (k + 1) ((w_Width, w_Height, w_Right, w_Down, w_X, w_Y, w_Way), right, down) =
  (impl_IsWorm k (w_Width, w_Height, w_Right, w_Down, w_X, w_Y, w_Way)).bind fun r1 =>
  cond (!r1)
  (some ((0, 0, ByteArray.empty, ByteArray.empty, 0, 0, 0), false))
  ((impl_isAnt k (w_Width, w_Height, right, down, 0)).bind fun r2 =>
   cond (!r2)
   (some ((0, 0, ByteArray.empty, ByteArray.empty, 0, 0, 0), false))
   ((impl_moved k (w_Right, w_Width, w_Width, w_Height, (right, (w_Width, w_Height, w_Right, w_Down, w_X, w_Y, w_Way), down))).bind fun r3 =>
    (impl_moved k (w_Down, w_Width, w_Width, w_Height, (right, (w_Width, w_Height, w_Right, w_Down, w_X, w_Y, w_Way), down))).bind fun r4 =>
    (impl_ShiftWorm_1 k (w_X, w_Y, right, (w_Width, w_Height, r3, r4, w_X, w_Y, w_Way), down)).bind fun r5 =>
    some ((w_Width, w_Height, r3, r4, r5.1, r5.2, w_Way), true))) := by kernel_rfl
theorem impl_moved.eq (k : Nat) (cells : ByteArray) (from_ : Int) (width : Int) (height : Int) (to_0 : Int) (to_1 : Int) (to_11 : Int) (to_12 : ByteArray) (to_13 : ByteArray) (to_14 : Int) (to_15 : Int) (to_16 : Int) (to_2 : Int) : impl_moved (k + 1) (cells, from_, width, height, (to_0, (to_1, to_11, to_12, to_13, to_14, to_15, to_16), to_2)) =
  cond (((decide ((0 : Int) ≤ (w64 (width * height)))) && (decide ((w64 (width * height)) ≤ (w64 (width * height))))) && (fits (w64 (width * height)).toNat 1))
  ((impl_moved_l k (cells, from_, width, (to_0, (to_1, to_11, to_12, to_13, to_14, to_15, to_16), to_2), (List.replicate (w64 (width * height)).toNat 0), (cells.size : Int), 0)).bind fun r1 =>
   some (ofBytes r1))
  (none) := by kernel_rfl
theorem impl_moved_l.eq (k : Nat) (cells : ByteArray) (from_ : Int) (width : Int) (to_0 : Int) (to_1 : Int) (to_11 : Int) (to_12 : ByteArray) (to_13 : ByteArray) (to_14 : Int) (to_15 : Int) (to_16 : Int) (to_2 : Int) (out : List Int) (t20 : Int) (t21 : Int) : impl_moved_l (k + 1) (cells, from_, width, (to_0, (to_1, to_11, to_12, to_13, to_14, to_15, to_16), to_2), out, t20, t21) =
  cond (decide (t21 < t20))
  (cond (from_ != 0)
   (cond (from_ != 0)
    ((impl_ShiftWorm_1 k ((t21.tmod from_), (w64 (t21.tdiv from_)), to_0, (to_1, to_11, to_12, to_13, to_14, to_15, to_16), to_2)).bind fun r1 =>
     cond (inB t21 cells.size)
     (cond (inB (w64 ((w64 (r1.2 * width)) + r1.1)) out.length)
      (impl_moved_l k (cells, from_, width, (to_0, (to_1, to_11, to_12, to_13, to_14, to_15, to_16), to_2), (out.set ((w64 ((w64 (r1.2 * width)) + r1.1)).toNat) (bt cells t21.toNat)), t20, (w64 (t21 + 1))))
      (none))
     (none))
    (none))
   (none))
  (some out) := by kernel_rfl
theorem impl_ShiftWorm_1.eq (k : Nat) (x : Int) (y : Int) (t2_0 : Int) (t3_0 : Int) (t3_1 : Int) (t3_2 : ByteArray) (t3_3 : ByteArray) (t3_4 : Int) (t3_5 : Int) (t3_6 : Int) (t4_0 : Int) : impl_ShiftWorm_1 (k + 1) (x, y, t2_0, (t3_0, t3_1, t3_2, t3_3, t3_4, t3_5, t3_6), t4_0) =
  cond (t3_0 != 0)
  (cond (t3_1 != 0)
   (some (((w64 (x + t2_0)).tmod t3_0), ((w64 (y + t4_0)).tmod t3_1)))
   (none))
  (none) := by kernel_rfl
theorem spec_ShiftWorm.eq (k : Nat) (w_Width : Int) (w_Height : Int) (w_Right : ByteArray) (w_Down : ByteArray) (w_X : Int) (w_Y : Int) (w_Way : Int) (right : Int) (down : Int) : spec_ShiftWorm (k + 1) ((w_Width, w_Height, w_Right, w_Down, w_X, w_Y, w_Way), right, down) =
  (spec_wmGood k (w_Width, w_Height, w_Right, w_Down, w_X, w_Y, w_Way)).bind fun r1 =>
  cond (!r1)
  (some ((0, 0, ByteArray.empty, ByteArray.empty, 0, 0, 0), false))
  ((spec_l1In k (right, 0, (w64 (w_Width - 1)))).bind fun r2 =>
   cond (!r2)
   (some ((0, 0, ByteArray.empty, ByteArray.empty, 0, 0, 0), false))
   ((spec_l1In k (down, 0, (w64 (w_Height - 1)))).bind fun r3 =>
    cond (!r3)
    (some ((0, 0, ByteArray.empty, ByteArray.empty, 0, 0, 0), false))
    ((spec_ShiftWorm_l k (right, down, (w_Width, w_Height, w_Right, w_Down, w_X, w_Y, w_Way), (0, 0, ByteArray.empty, ByteArray.empty, 0, 0, 0), (w_Width, w_Height, ByteArray.empty, ByteArray.empty, 0, 0, w_Way), 0)).bind fun r4 =>
     cond (r4.2.2.1.1 != 0)
     (cond (r4.2.2.1.2.1 != 0)
      (some ((r4.2.2.2.2.1, r4.2.2.2.2.2.1, r4.2.2.2.2.2.2.1, r4.2.2.2.2.2.2.2.1, ((w64 (r4.2.2.1.2.2.2.2.1 + r4.1)).tmod r4.2.2.1.1), ((w64 (r4.2.2.1.2.2.2.2.2.1 + r4.2.1)).tmod r4.2.2.1.2.1), r4.2.2.2.2.2.2.2.2.2.2), true))
      (none))
     (none)))) := by kernel_rfl
theorem spec_ShiftWorm_l.eq (k : Nat) (right : Int) (down : Int) (w_Width : Int) (w_Height : Int) (w_Right : ByteArray) (w_Down : ByteArray) (w_X : Int) (w_Y : Int) (w_Way : Int) (t6_Width : Int) (t6_Height : Int) (t6_Right : ByteArray) (t6_Down : ByteArray) (t6_X : Int) (t6_Y : Int) (t6_Way : Int) (out_Width : Int) (out_Height : Int) (out_Right : ByteArray) (out_Down : ByteArray) (out_X : Int) (out_Y : Int) (out_Way : Int) (i : Int) : spec_ShiftWorm_l (k + 1) (right, down, (w_Width, w_Height, w_Right, w_Down, w_X, w_Y, w_Way), (t6_Width, t6_Height, t6_Right, t6_Down, t6_X, t6_Y, t6_Way), (out_Width, out_Height, out_Right, out_Down, out_X, out_Y, out_Way), i) =
  cond (decide (i < (w_Right.size : Int)))
  (cond (w_Width != 0)
   ((spec_l1Mod k ((w64 ((w64 (i.tdiv w_Width)) - down)), w_Height)).bind fun r1 =>
    cond (w_Width != 0)
    ((spec_l1Mod k ((w64 ((i.tmod w_Width) - right)), w_Width)).bind fun r2 =>
     cond (((decide ((0 : Int) ≤ (w64 ((w64 ((w64 (r1 * w_Width)) + r2)) + 1)))) && (decide ((w64 ((w64 ((w64 (r1 * w_Width)) + r2)) + 1)) ≤ (w_Right.size : Int)))) && ((decide ((0 : Int) ≤ (w64 ((w64 (r1 * w_Width)) + r2)))) && (decide ((w64 ((w64 (r1 * w_Width)) + r2)) ≤ (w64 ((w64 ((w64 (r1 * w_Width)) + r2)) + 1))))))
     (cond (fitS out_Right (w_Right.extract ((w64 ((w64 (r1 * w_Width)) + r2)).toNat) ((w64 ((w64 ((w64 (r1 * w_Width)) + r2)) + 1)).toNat)))
      (cond (((decide ((0 : Int) ≤ (w64 ((w64 ((w64 (r1 * w_Width)) + r2)) + 1)))) && (decide ((w64 ((w64 ((w64 (r1 * w_Width)) + r2)) + 1)) ≤ (w_Down.size : Int)))) && ((decide ((0 : Int) ≤ (w64 ((w64 (r1 * w_Width)) + r2)))) && (decide ((w64 ((w64 (r1 * w_Width)) + r2)) ≤ (w64 ((w64 ((w64 (r1 * w_Width)) + r2)) + 1))))))
       (cond (fitS out_Down (w_Down.extract ((w64 ((w64 (r1 * w_Width)) + r2)).toNat) ((w64 ((w64 ((w64 (r1 * w_Width)) + r2)) + 1)).toNat)))
        (spec_ShiftWorm_l k (right, down, (w_Width, w_Height, w_Right, w_Down, w_X, w_Y, w_Way), (t6_Width, t6_Height, t6_Right, t6_Down, t6_X, t6_Y, t6_Way), (out_Width, out_Height, (out_Right ++ (w_Right.extract ((w64 ((w64 (r1 * w_Width)) + r2)).toNat) ((w64 ((w64 ((w64 (r1 * w_Width)) + r2)) + 1)).toNat))), (out_Down ++ (w_Down.extract ((w64 ((w64 (r1 * w_Width)) + r2)).toNat) ((w64 ((w64 ((w64 (r1 * w_Width)) + r2)) + 1)).toNat))), out_X, out_Y, out_Way), (w64 (i + 1))))
        (none))
       (none))
      (none))
     (none))
    (none))
   (none))
  (some (right, down, (w_Width, w_Height, w_Right, w_Down, w_X, w_Y, w_Way), (t6_Width, t6_Height, t6_Right, t6_Down, t6_X, t6_Y, t6_Way), (out_Width, out_Height, out_Right, out_Down, out_X, out_Y, out_Way))) := by kernel_rfl
theorem spec_DrawGiveBack.eq (k : Nat) (code : List Int) : spec_DrawGiveBack (k + 1) code =
  (spec_l1Cur_eater k (code, 0, 0)).bind fun r1 =>
  (spec_wmAsked k r1.1).bind fun r2 =>
  cond r2
  ((spec_l1Cur_one k (r1.2, 4)).bind fun r3 =>
   cond (!r3.1)
   ((spec_wmEat k r1.1).bind fun r4 =>
    cond (!(strEq r4.1 ByteArray.empty))
    (some (r4.2, r1.1.1.2.2.2.2.2.2))
    ((spec_l1Cur_pick k (r3.2, 6)).bind fun r5 =>
     some (r4.2, (w64 (r5.1 - 1)))))
   ((spec_l1Cur_pick k (r3.2, 6)).bind fun r6 =>
    some (r1.1.1, (w64 (r6.1 - 1)))))
  ((spec_l1Cur_pick k (r1.2, 6)).bind fun r7 =>
   some (r1.1.1, (w64 (r7.1 - 1)))) := by kernel_rfl
theorem spec_l1Cur_eater.eq (k : Nat) (c_code : List Int) (c_at : Int) (c_seed : Int) : spec_l1Cur_eater (k + 1) (c_code, c_at, c_seed) =
  (spec_l1Cur_one k ((c_code, c_at, c_seed), 16)).bind fun r1 =>
  cond r1.1
  ((spec_l1Cur_worm k r1.2).bind fun r2 =>
   (spec_l1Cur_of k (r2.2, [ByteArray.empty, (bs [76, 78, 78]), (bs [76, 78, 82, 85]), (bs [108, 110, 114]), (bs [76, 78])])).bind fun r3 =>
   some ((r2.1, r3.1), r3.2))
  ((spec_l1Cur_worm k r1.2).bind fun r4 =>
   (spec_l1Cur_taste k r4.2).bind fun r5 =>
   some ((r4.1, r5.1), r5.2)) := by kernel_rfl
theorem spec_wmAsked.eq (k : Nat) (w_Width : Int) (w_Height : Int) (w_Right : ByteArray) (w_Down : ByteArray) (w_X : Int) (w_Y : Int) (w_Way : Int) (taste : ByteArray) : spec_wmAsked (k + 1) ((w_Width, w_Height, w_Right, w_Down, w_X, w_Y, w_Way), taste) =
  (spec_wmGood k (w_Width, w_Height, w_Right, w_Down, w_X, w_Y, w_Way)).bind fun r1 =>
  cond r1
  ((spec_wmTaste k taste).bind fun r2 =>
   some r2)
  (some false) := by kernel_rfl
theorem spec_wmTaste.eq (k : Nat) (taste : ByteArray) : spec_wmTaste (k + 1) taste =
  (spec_wmTastes k ()).bind fun r1 =>
  (spec_wmTaste_l k (taste, r1, (r1.length : Int), 0)).bind fun r2 =>
  r2.elim
  (fun r3 => some r3)
  (fun r4 => some false) := by kernel_rfl
theorem spec_wmTaste_l.eq (k : Nat) (taste : ByteArray) (t5 : List ByteArray) (t6 : Int) (t7 : Int) : spec_wmTaste_l (k + 1) (taste, t5, t6, t7) =
  cond (decide (t7 < t6))
  (cond (inB t7 t5.length)
   (cond (strEq (t5.getD t7.toNat default) taste)
    (some (.inl true))
    (spec_wmTaste_l k (taste, t5, t6, (w64 (t7 + 1)))))
   (none))
  (some (.inr ())) := by kernel_rfl
theorem impl_GiveBack.eq (k : Nat) (w_Width : Int) (w_Height : Int) (w_Right : ByteArray) (w_Down : ByteArray) (w_X : Int) (w_Y : Int) (w_Way : Int) (way : Int) : impl_GiveBack (k + 1) ((w_Width, w_Height, w_Right, w_Down, w_X, w_Y, w_Way), way) =
  (impl_IsWorm k (w_Width, w_Height, w_Right, w_Down, w_X, w_Y, w_Way)).bind fun r1 =>
  cond (!r1)
  (some ((0, 0, ByteArray.empty, ByteArray.empty, 0, 0, 0), false))
  ((impl_isWay k way).bind fun r2 =>
   cond (!r2)
   (some ((0, 0, ByteArray.empty, ByteArray.empty, 0, 0, 0), false))
   (cond (way == ((w64 (w_Way + 2)).tmod 4))
    (some ((0, 0, ByteArray.empty, ByteArray.empty, 0, 0, 0), false))
    ((impl_Worm_node k (w_Width, w_Height, w_Right, w_Down, w_X, w_Y, w_Way)).bind fun r3 =>
     (impl_Worm_beside k ((w_Width, w_Height, w_Right, w_Down, w_X, w_Y, w_Way), r3, ((w64 (w_Way + 2)).tmod 4))).bind fun r4 =>
     (impl_Worm_there k ((w_Width, w_Height, w_Right, w_Down, w_X, w_Y, w_Way), r4, w_Way)).bind fun r5 =>
     cond r5
     (some ((0, 0, ByteArray.empty, ByteArray.empty, 0, 0, 0), false))
     ((impl_Worm_made k ((w_Width, w_Height, w_Right, w_Down, w_X, w_Y, w_Way), r4, w_Way, 1)).bind fun r6 =>
      cond (w_Width != 0)
      (cond (w_Width != 0)
       (some ((r6.1, r6.2.1, r6.2.2.1, r6.2.2.2.1, (r4.tmod w_Width), (w64 (r4.tdiv w_Width)), way), true))
       (none))
      (none))))) := by kernel_rfl
theorem spec_GiveBack.eq (k : Nat) (w_Width : Int) (w_Height : Int) (w_Right : ByteArray) (w_Down : ByteArray) (w_X : Int) (w_Y : Int) (w_Way : Int) (way : Int) : spec_GiveBack (k + 1) ((w_Width, w_Height, w_Right, w_Down, w_X, w_Y, w_Way), way) =
  (spec_wmGood k (w_Width, w_Height, w_Right, w_Down, w_X, w_Y, w_Way)).bind fun r1 =>
  cond (!r1)
  (some ((0, 0, ByteArray.empty, ByteArray.empty, 0, 0, 0), false))
  ((spec_l1In k (way, 0, 3)).bind fun r2 =>
   cond (!r2)
   (some ((0, 0, ByteArray.empty, ByteArray.empty, 0, 0, 0), false))
   (cond (way == ((w64 (w_Way + 2)).tmod 4))
    (some ((0, 0, ByteArray.empty, ByteArray.empty, 0, 0, 0), false))
    ((spec_wmHas k ((w_Width, w_Height, w_Right, w_Down, w_X, w_Y, w_Way), w_X, w_Y, ((w64 (w_Way + 2)).tmod 4))).bind fun r3 =>
     cond r3
     (some ((0, 0, ByteArray.empty, ByteArray.empty, 0, 0, 0), false))
     ((spec_wmSet k ((w_Width, w_Height, w_Right, w_Down, w_X, w_Y, w_Way), w_X, w_Y, ((w64 (w_Way + 2)).tmod 4), (bs [49]))).bind fun r4 =>
      (spec_wmGo k (r4.2, r4.2.2.2.2.2.2.2, (-1))).bind fun r5 =>
      some ((r5.2.1, r5.2.2.1, r5.2.2.2.1, r5.2.2.2.2.1, r5.2.2.2.2.2.1, r5.2.2.2.2.2.2.1, way), true))))) := by kernel_rfl
theorem spec_DrawFreshWorm.eq (k : Nat) (code : List Int) : spec_DrawFreshWorm (k + 1) code =
  (spec_l1Cur_among k ((code, 0, 0), [3, 4, 5, 6, 2, 7, (-1)])).bind fun r1 =>
  (spec_l1Cur_among k (r1.2, [3, 4, 5, 6, 2, 7, 4611686018427387904])).bind fun r2 =>
  some (r1.1, r2.1) := by kernel_rfl
theorem impl_FreshWorm.eq (k : Nat) (width : Int) (height : Int) : impl_FreshWorm (k + 1) (width, height) =
  (impl_isGrid k (width, height)).bind fun r1 =>
  cond (!r1)
  (some ((0, 0, ByteArray.empty, ByteArray.empty, 0, 0, 0), false))
  ((strings_Repeat k ((bs [49]), (w64 (width * height)))).bind fun r2 =>
   some ((width, height, r2, r2, 0, 0, 0), true)) := by kernel_rfl
theorem strings_Repeat.eq (k : Nat) (d : ByteArray × Int) : strings_Repeat (k + 1) d = (fun d => strRep d.1 d.2) d := by kernel_rfl
theorem spec_FreshWorm.eq (k : Nat) (width : Int) (height : Int) : spec_FreshWorm (k + 1) (width, height) =
  (spec_l1In k (width, 3, 6)).bind fun r1 =>
  cond (!r1)
  (some ((0, 0, ByteArray.empty, ByteArray.empty, 0, 0, 0), false))
  ((spec_l1In k (height, 3, 6)).bind fun r2 =>
   cond (!r2)
   (some ((0, 0, ByteArray.empty, ByteArray.empty, 0, 0, 0), false))
   ((spec_wmOnes k (w64 (width * height))).bind fun r3 =>
    (spec_wmOnes k (w64 (width * height))).bind fun r4 =>
    some ((width, height, r3, r4, 0, 0, 0), true))) := by kernel_rfl
theorem spec_DrawLinesAt.eq (k : Nat) (code : List Int) : spec_DrawLinesAt (k + 1) code =
  (spec_l1Cur_worm k (code, 0, 0)).bind fun r1 =>
  (spec_l1Cur_pick k (r1.2, 6)).bind fun r2 =>
  (spec_l1Cur_pick k (r2.2, 9)).bind fun r3 =>
  (spec_l1Cur_pick k (r3.2, 6)).bind fun r4 =>
  (spec_l1Cur_pick k (r4.2, 9)).bind fun r5 =>
  some (r1.1, (w64 (r2.1 - (w64 (r3.1.tdiv 8)))), (w64 (r4.1 - (w64 (r5.1.tdiv 8))))) := by kernel_rfl
theorem spec_LinesAt.eq (k : Nat) (w_Width : Int) (w_Height : Int) (w_Right : ByteArray) (w_Down : ByteArray) (w_X : Int) (w_Y : Int) (w_Way : Int) (x : Int) (y : Int) : spec_LinesAt (k + 1) ((w_Width, w_Height, w_Right, w_Down, w_X, w_Y, w_Way), x, y) =
  (spec_wmGood k (w_Width, w_Height, w_Right, w_Down, w_X, w_Y, w_Way)).bind fun r1 =>
  cond (!r1)
  (some (0, false))
  ((spec_l1In k (x, 0, (w64 (w_Width - 1)))).bind fun r2 =>
   cond (!r2)
   (some (0, false))
   ((spec_l1In k (y, 0, (w64 (w_Height - 1)))).bind fun r3 =>
    cond (!r3)
    (some (0, false))
    ((spec_wmAt k ((w_Width, w_Height, w_Right, w_Down, w_X, w_Y, w_Way), x, y)).bind fun r4 =>
     some (r4, true)))) := by kernel_rfl
theorem spec_DrawParseWorm.eq (k : Nat) (code : List Int) : spec_DrawParseWorm (k + 1) code =
  (spec_l1Cur_sureWorm k (code, 0, 0)).bind fun r1 =>
  (spec_wmText k r1.1).bind fun r2 =>
  (spec_l1Cur_one k (r1.2, 3)).bind fun r3 =>
  cond r3.1
  ((spec_l1Cur_spoilt k (r3.2, r2, (bs [48, 49, 50, 51, 120, 58, 44]))).bind fun r4 =>
   some r4.1)
  (some r2) := by kernel_rfl
theorem spec_ParseWorm.eq (k : Nat) (s : ByteArray) : spec_ParseWorm (k + 1) s =
  (spec_wmParse k s).bind fun r1 =>
  cond (!r1.2)
  (some ((0, 0, ByteArray.empty, ByteArray.empty, 0, 0, 0), false))
  (some (r1.1, true)) := by kernel_rfl
theorem spec_wmParse.eq (k : Nat) (s : ByteArray) : spec_wmParse (k + 1) s =
  (spec_l1Split k (s, 58)).bind fun r1 =>
  cond (decide ((s.size : Int) > 100))
  (some ((0, 0, ByteArray.empty, ByteArray.empty, 0, 0, 0), false))
  (cond ((r1.length : Int) != 4)
   (some ((0, 0, ByteArray.empty, ByteArray.empty, 0, 0, 0), false))
   (cond (inB 0 r1.length)
    ((spec_l1Split k ((r1.getD 0 default), 120)).bind fun r2 =>
     cond (inB 3 r1.length)
     ((spec_l1Split k ((r1.getD 3 default), 44)).bind fun r3 =>
      cond ((r2.length : Int) != 2)
      (some ((0, 0, ByteArray.empty, ByteArray.empty, 0, 0, 0), false))
      (cond ((r3.length : Int) != 3)
       (some ((0, 0, ByteArray.empty, ByteArray.empty, 0, 0, 0), false))
       (cond (inB 0 r2.length)
        ((spec_l1Read k (r2.getD 0 default)).bind fun r4 =>
         cond (inB 1 r2.length)
         ((spec_l1Read k (r2.getD 1 default)).bind fun r5 =>
          cond (inB 1 r1.length)
          (cond (inB 2 r1.length)
           (cond (inB 0 r3.length)
            ((spec_l1Read k (r3.getD 0 default)).bind fun r6 =>
             cond (inB 1 r3.length)
             ((spec_l1Read k (r3.getD 1 default)).bind fun r7 =>
              cond (inB 2 r3.length)
              ((spec_l1Read k (r3.getD 2 default)).bind fun r8 =>
               (spec_wmGood k (r4, r5, (r1.getD 1 default), (r1.getD 2 default), r6, r7, r8)).bind fun r9 =>
               cond r9
               ((spec_wmText k (r4, r5, (r1.getD 1 default), (r1.getD 2 default), r6, r7, r8)).bind fun r10 =>
                some ((r4, r5, (r1.getD 1 default), (r1.getD 2 default), r6, r7, r8), (strEq r10 s)))
               (some ((r4, r5, (r1.getD 1 default), (r1.getD 2 default), r6, r7, r8), false)))
              (none))
             (none))
            (none))
           (none))
          (none))
         (none))
        (none))))
     (none))
    (none))) := by kernel_rfl
theorem spec_l1Split.eq (k : Nat) (s : ByteArray) (b : Int) : spec_l1Split (k + 1) (s, b) =
  (spec_l1Split_l k (s, b, [], 0, 0)).bind fun r1 =>
  cond ((decide ((0 : Int) ≤ r1.2.2)) && (decide (r1.2.2 ≤ (r1.1.size : Int))))
  (cond (fits (r1.2.1.length + 1) 16)
   (some (r1.2.1 ++ [(r1.1.extract r1.2.2.toNat r1.1.size)]))
   (none))
  (none) := by kernel_rfl
theorem spec_l1Split_l.eq (k : Nat) (s : ByteArray) (b : Int) (out : List ByteArray) (from_ : Int) (i : Int) : spec_l1Split_l (k + 1) (s, b, out, from_, i) =
  cond (decide (i < (s.size : Int)))
  (cond (inB i s.size)
   (cond ((bt s i.toNat) == b)
    (cond (((decide ((0 : Int) ≤ i)) && (decide (i ≤ (s.size : Int)))) && ((decide ((0 : Int) ≤ from_)) && (decide (from_ ≤ i))))
     (cond (fits (out.length + 1) 16)
      (spec_l1Split_l k (s, b, (out ++ [(s.extract from_.toNat i.toNat)]), (w64 (i + 1)), (w64 (i + 1))))
      (none))
     (none))
    (spec_l1Split_l k (s, b, out, from_, (w64 (i + 1)))))
   (none))
  (some (s, out, from_)) := by kernel_rfl
theorem spec_l1Read.eq (k : Nat) (s : ByteArray) : spec_l1Read (k + 1) s =
  (spec_l1In k ((s.size : Int), 1, 6)).bind fun r1 =>
  cond (!r1)
  (some (-1))
  (cond (inB 0 s.size)
   (cond ((bt s 0) == 48)
    (cond (decide ((s.size : Int) > 1))
     (some (-1))
     ((spec_l1Read_l k (s, 0, 0)).bind fun r2 =>
      r2.elim
      (fun r3 => some r3)
      (fun r4 => some r4)))
    ((spec_l1Read_l k (s, 0, 0)).bind fun r5 =>
     r5.elim
     (fun r6 => some r6)
     (fun r7 => some r7)))
   (none)) := by kernel_rfl
theorem spec_l1Read_l.eq (k : Nat) (s : ByteArray) (n : Int) (i : Int) : spec_l1Read_l (k + 1) (s, n, i) =
  cond (decide (i < (s.size : Int)))
  (cond (inB i s.size)
   (cond (decide ((bt s i.toNat) < 48))
    (some (.inl (-1)))
    (cond (inB i s.size)
     (cond (decide ((bt s i.toNat) > 57))
      (some (.inl (-1)))
      (cond (inB i s.size)
       (spec_l1Read_l k (s, (w64 ((w64 (10 * n)) + (w64 (w8 ((bt s i.toNat) - 48))))), (w64 (i + 1))))
       (none)))
     (none)))
   (none))
  (some (.inr n)) := by kernel_rfl
theorem laws_FnWormsLeave_c_c_c.eq (k : Nat) (v_Width : Int) (v_Height : Int) (v_Right : ByteArray) (v_Down : ByteArray) (v_X : Int) (v_Y : Int) (v_Way : Int) (x : Int) (y : Int) (shifted_Width : Int) (shifted_Height : Int) (shifted_Right : ByteArray) (shifted_Down : ByteArray) (shifted_X : Int) (shifted_Y : Int) (shifted_Way : Int) (nine : Bool) (due_Width : Int) (due_Height : Int) (due_Right : ByteArray) (due_Down : ByteArray) (due_X : Int) (due_Y : Int) (due_Way : Int) (ten : Bool) (g_Width : Int) (g_Height : Int) (g_Right : ByteArray) (g_Down : ByteArray) (g_X : Int) (g_Y : Int) (g_Way : Int) (way : Int) (given_Width : Int) (given_Height : Int) (given_Right : ByteArray) (given_Down : ByteArray) (given_X : Int) (given_Y : Int) (given_Way : Int) (eleven : Bool) (own_Width : Int) (own_Height : Int) (own_Right : ByteArray) (own_Down : ByteArray) (own_X : Int) (own_Y : Int) (own_Way : Int) (twelve : Bool) (a : Int) (b : Int) (fresh_Width : Int) (fresh_Height : Int) (fresh_Right : ByteArray) (fresh_Down : ByteArray) (fresh_X : Int) (fresh_Y : Int) (fresh_Way : Int) (thirteen : Bool) (list_Width : Int) (list_Height : Int) (list_Right : ByteArray) (list_Down : ByteArray) (list_X : Int) (list_Y : Int) (list_Way : Int) (fourteen : Bool) (lines : Int) (fifteen : Bool) (rows : Int) (sixteen : Bool) (s : ByteArray) (read_Width : Int) (read_Height : Int) (read_Right : ByteArray) (read_Down : ByteArray) (read_X : Int) (read_Y : Int) (read_Way : Int) (seventeen : Bool) (parsed_Width : Int) (parsed_Height : Int) (parsed_Right : ByteArray) (parsed_Down : ByteArray) (parsed_X : Int) (parsed_Y : Int) (parsed_Way : Int) (eighteen : Bool) : laws_FnWormsLeave_c_c_c (k + 1) ((v_Width, v_Height, v_Right, v_Down, v_X, v_Y, v_Way), x, y, (shifted_Width, shifted_Height, shifted_Right, shifted_Down, shifted_X, shifted_Y, shifted_Way), nine, (due_Width, due_Height, due_Right, due_Down, due_X, due_Y, due_Way), ten, (g_Width, g_Height, g_Right, g_Down, g_X, g_Y, g_Way), way, (given_Width, given_Height, given_Right, given_Down, given_X, given_Y, given_Way), eleven, (own_Width, own_Height, own_Right, own_Down, own_X, own_Y, own_Way), twelve, a, b, (fresh_Width, fresh_Height, fresh_Right, fresh_Down, fresh_X, fresh_Y, fresh_Way), thirteen, (list_Width, list_Height, list_Right, list_Down, list_X, list_Y, list_Way), fourteen, lines, fifteen, rows, sixteen, s, (read_Width, read_Height, read_Right, read_Down, read_X, read_Y, read_Way), seventeen, (parsed_Width, parsed_Height, parsed_Right, parsed_Down, parsed_X, parsed_Y, parsed_Way), eighteen) =
  cond (!(nine == ten))
  (some false)
  (cond (!((shifted_Width == due_Width) && ((shifted_Height == due_Height) && ((shifted_Right == due_Right) && ((shifted_Down == due_Down) && ((shifted_X == due_X) && ((shifted_Y == due_Y) && ((shifted_Way == due_Way) && true))))))))
   (some false)
   (cond (!(eleven == twelve))
    (some false)
    (cond (!((given_Width == own_Width) && ((given_Height == own_Height) && ((given_Right == own_Right) && ((given_Down == own_Down) && ((given_X == own_X) && ((given_Y == own_Y) && ((given_Way == own_Way) && true))))))))
     (some false)
     (cond (!(thirteen == fourteen))
      (some false)
      (cond (!((fresh_Width == list_Width) && ((fresh_Height == list_Height) && ((fresh_Right == list_Right) && ((fresh_Down == list_Down) && ((fresh_X == list_X) && ((fresh_Y == list_Y) && ((fresh_Way == list_Way) && true))))))))
       (some false)
       (cond (!(fifteen == sixteen))
        (some false)
        (cond (lines != rows)
         (some false)
         (cond (!(seventeen == eighteen))
          (some false)
          (cond (!((read_Width == parsed_Width) && ((read_Height == parsed_Height) && ((read_Right == parsed_Right) && ((read_Down == parsed_Down) && ((read_X == parsed_X) && ((read_Y == parsed_Y) && ((read_Way == parsed_Way) && true))))))))
           (some false)
           ((laws_FnWormsLeave_c_c_c_c k ((v_Width, v_Height, v_Right, v_Down, v_X, v_Y, v_Way), x, y, (shifted_Width, shifted_Height, shifted_Right, shifted_Down, shifted_X, shifted_Y, shifted_Way), nine, (g_Width, g_Height, g_Right, g_Down, g_X, g_Y, g_Way), way, (given_Width, given_Height, given_Right, given_Down, given_X, given_Y, given_Way), eleven, a, b, (fresh_Width, fresh_Height, fresh_Right, fresh_Down, fresh_X, fresh_Y, fresh_Way), thirteen, s, (read_Width, read_Height, read_Right, read_Down, read_X, read_Y, read_Way), seventeen)).bind fun r1 =>
            some r1)))))))))) := by kernel_rfl
theorem laws_FnWormsLeave_c_c_c_c.eq (k : Nat) (v_Width : Int) (v_Height : Int) (v_Right : ByteArray) (v_Down : ByteArray) (v_X : Int) (v_Y : Int) (v_Way : Int) (x : Int) (y : Int) (shifted_Width : Int) (shifted_Height : Int) (shifted_Right : ByteArray) (shifted_Down : ByteArray) (shifted_X : Int) (shifted_Y : Int) (shifted_Way : Int) (nine : Bool) (g_Width : Int) (g_Height : Int) (g_Right : ByteArray) (g_Down : ByteArray) (g_X : Int) (g_Y : Int) (g_Way : Int) (way : Int) (given_Width : Int) (given_Height : Int) (given_Right : ByteArray) (given_Down : ByteArray) (given_X : Int) (given_Y : Int) (given_Way : Int) (eleven : Bool) (a : Int) (b : Int) (fresh_Width : Int) (fresh_Height : Int) (fresh_Right : ByteArray) (fresh_Down : ByteArray) (fresh_X : Int) (fresh_Y : Int) (fresh_Way : Int) (thirteen : Bool) (s : ByteArray) (read_Width : Int) (read_Height : Int) (read_Right : ByteArray) (read_Down : ByteArray) (read_X : Int) (read_Y : Int) (read_Way : Int) (seventeen : Bool) : laws_FnWormsLeave_c_c_c_c (k + 1) ((v_Width, v_Height, v_Right, v_Down, v_X, v_Y, v_Way), x, y, (shifted_Width, shifted_Height, shifted_Right, shifted_Down, shifted_X, shifted_Y, shifted_Way), nine, (g_Width, g_Height, g_Right, g_Down, g_X, g_Y, g_Way), way, (given_Width, given_Height, given_Right, given_Down, given_X, given_Y, given_Way), eleven, a, b, (fresh_Width, fresh_Height, fresh_Right, fresh_Down, fresh_X, fresh_Y, fresh_Way), thirteen, s, (read_Width, read_Height, read_Right, read_Down, read_X, read_Y, read_Way), seventeen) =
  cond nine
  (cond (v_Width != 0)
   (cond (v_Height != 0)
    ((impl_ShiftWorm k ((shifted_Width, shifted_Height, shifted_Right, shifted_Down, shifted_X, shifted_Y, shifted_Way), ((w64 (v_Width - x)).tmod v_Width), ((w64 (v_Height - y)).tmod v_Height))).bind fun r1 =>
     (impl_LifeOf k ((v_Width, v_Height, v_Right, v_Down, v_X, v_Y, v_Way), (bs [76, 78, 82]))).bind fun r2 =>
     (impl_LifeOf k ((shifted_Width, shifted_Height, shifted_Right, shifted_Down, shifted_X, shifted_Y, shifted_Way), (bs [76, 78, 82]))).bind fun r3 =>
     cond (!r1.2)
     (some false)
     (cond (!((r1.1.1 == v_Width) && ((r1.1.2.1 == v_Height) && ((r1.1.2.2.1 == v_Right) && ((r1.1.2.2.2.1 == v_Down) && ((r1.1.2.2.2.2.1 == v_X) && ((r1.1.2.2.2.2.2.1 == v_Y) && ((r1.1.2.2.2.2.2.2 == v_Way) && true))))))))
      (some false)
      (cond (!r2.2)
       (some false)
       (cond (!r3.2)
        (some false)
        (cond (r2.1 != r3.1)
         (some false)
         ((laws_FnWormsLeave_c_c_c_c_c k ((g_Width, g_Height, g_Right, g_Down, g_X, g_Y, g_Way), way, (given_Width, given_Height, given_Right, given_Down, given_X, given_Y, given_Way), eleven, a, b, (fresh_Width, fresh_Height, fresh_Right, fresh_Down, fresh_X, fresh_Y, fresh_Way), thirteen, s, (read_Width, read_Height, read_Right, read_Down, read_X, read_Y, read_Way), seventeen)).bind fun r4 =>
          some r4))))))
    (none))
   (none))
  ((laws_FnWormsLeave_c_c_c_c_c k ((g_Width, g_Height, g_Right, g_Down, g_X, g_Y, g_Way), way, (given_Width, given_Height, given_Right, given_Down, given_X, given_Y, given_Way), eleven, a, b, (fresh_Width, fresh_Height, fresh_Right, fresh_Down, fresh_X, fresh_Y, fresh_Way), thirteen, s, (read_Width, read_Height, read_Right, read_Down, read_X, read_Y, read_Way), seventeen)).bind fun r5 =>
   some r5) := by kernel_rfl
theorem laws_FnWormsLeave_c_c_c_c_c.eq (k : Nat) (g_Width : Int) (g_Height : Int) (g_Right : ByteArray) (g_Down : ByteArray) (g_X : Int) (g_Y : Int) (g_Way : Int) (way : Int) (given_Width : Int) (given_Height : Int) (given_Right : ByteArray) (given_Down : ByteArray) (given_X : Int) (given_Y : Int) (given_Way : Int) (eleven : Bool) (a : Int) (b : Int) (fresh_Width : Int) (fresh_Height : Int) (fresh_Right : ByteArray) (fresh_Down : ByteArray) (fresh_X : Int) (fresh_Y : Int) (fresh_Way : Int) (thirteen : Bool) (s : ByteArray) (read_Width : Int) (read_Height : Int) (read_Right : ByteArray) (read_Down : ByteArray) (read_X : Int) (read_Y : Int) (read_Way : Int) (seventeen : Bool) : laws_FnWormsLeave_c_c_c_c_c (k + 1) ((g_Width, g_Height, g_Right, g_Down, g_X, g_Y, g_Way), way, (given_Width, given_Height, given_Right, given_Down, given_X, given_Y, given_Way), eleven, a, b, (fresh_Width, fresh_Height, fresh_Right, fresh_Down, fresh_X, fresh_Y, fresh_Way), thirteen, s, (read_Width, read_Height, read_Right, read_Down, read_X, read_Y, read_Way), seventeen) =
  cond eleven
  ((impl_LinesLeft k (g_Width, g_Height, g_Right, g_Down, g_X, g_Y, g_Way)).bind fun r1 =>
   (impl_LinesLeft k (given_Width, given_Height, given_Right, given_Down, given_X, given_Y, given_Way)).bind fun r2 =>
   cond (!r1.2)
   (some false)
   (cond (!r2.2)
    (some false)
    (cond (r2.1 != (w64 (r1.1 + 1)))
     (some false)
     (cond (given_Way != way)
      (some false)
      ((laws_FnWormsLeave_c_c_c_c_c_c k (a, b, (fresh_Width, fresh_Height, fresh_Right, fresh_Down, fresh_X, fresh_Y, fresh_Way), thirteen, s, (read_Width, read_Height, read_Right, read_Down, read_X, read_Y, read_Way), seventeen)).bind fun r3 =>
       some r3)))))
  ((laws_FnWormsLeave_c_c_c_c_c_c k (a, b, (fresh_Width, fresh_Height, fresh_Right, fresh_Down, fresh_X, fresh_Y, fresh_Way), thirteen, s, (read_Width, read_Height, read_Right, read_Down, read_X, read_Y, read_Way), seventeen)).bind fun r4 =>
   some r4) := by kernel_rfl
theorem laws_FnWormsLeave_c_c_c_c_c_c.eq (k : Nat) (a : Int) (b : Int) (fresh_Width : Int) (fresh_Height : Int) (fresh_Right : ByteArray) (fresh_Down : ByteArray) (fresh_X : Int) (fresh_Y : Int) (fresh_Way : Int) (thirteen : Bool) (s : ByteArray) (read_Width : Int) (read_Height : Int) (read_Right : ByteArray) (read_Down : ByteArray) (read_X : Int) (read_Y : Int) (read_Way : Int) (seventeen : Bool) : laws_FnWormsLeave_c_c_c_c_c_c (k + 1) (a, b, (fresh_Width, fresh_Height, fresh_Right, fresh_Down, fresh_X, fresh_Y, fresh_Way), thirteen, s, (read_Width, read_Height, read_Right, read_Down, read_X, read_Y, read_Way), seventeen) =
  cond thirteen
  ((impl_LinesLeft k (fresh_Width, fresh_Height, fresh_Right, fresh_Down, fresh_X, fresh_Y, fresh_Way)).bind fun r1 =>
   (impl_PiecesLeft k (fresh_Width, fresh_Height, fresh_Right, fresh_Down, fresh_X, fresh_Y, fresh_Way)).bind fun r2 =>
   (impl_OddNodes k (fresh_Width, fresh_Height, fresh_Right, fresh_Down, fresh_X, fresh_Y, fresh_Way)).bind fun r3 =>
   cond (!r1.2)
   (some false)
   (cond (r1.1 != (w64 ((w64 (2 * a)) * b)))
    (some false)
    (cond (!r2.2)
     (some false)
     (cond (r2.1 != 1)
      (some false)
      (cond (!r3.2)
       (some false)
       (cond ((r3.1.length : Int) != 0)
        (some false)
        ((laws_FnWormsLeave_c_c_c_c_c_c_c k (s, (read_Width, read_Height, read_Right, read_Down, read_X, read_Y, read_Way), seventeen)).bind fun r4 =>
         some r4)))))))
  ((laws_FnWormsLeave_c_c_c_c_c_c_c k (s, (read_Width, read_Height, read_Right, read_Down, read_X, read_Y, read_Way), seventeen)).bind fun r5 =>
   some r5) := by kernel_rfl
theorem laws_FnWormsLeave_c_c_c_c_c_c_c.eq (k : Nat) (s : ByteArray) (read_Width : Int) (read_Height : Int) (read_Right : ByteArray) (read_Down : ByteArray) (read_X : Int) (read_Y : Int) (read_Way : Int) (seventeen : Bool) : laws_FnWormsLeave_c_c_c_c_c_c_c (k + 1) (s, (read_Width, read_Height, read_Right, read_Down, read_X, read_Y, read_Way), seventeen) =
  cond seventeen
  ((impl_WormText k (read_Width, read_Height, read_Right, read_Down, read_X, read_Y, read_Way)).bind fun r1 =>
   cond r1.2
   (some (strEq r1.1 s))
   (some false))
  (some true) := by kernel_rfl
end Go.Proofs.YtplamonjnlgomaaGreatDoorS
