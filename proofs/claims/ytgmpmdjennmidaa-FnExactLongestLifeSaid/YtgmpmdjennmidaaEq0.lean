/- What each function computes (printed by wip/sim/gen.py). -/
import Derived.Test.YtgmpmdjennmidaaTab
namespace Go.Proofs.YtgmpmdjennmidaaS
open Go Go.Proofs
set_option maxRecDepth 100000
set_option linter.unusedVariables false
theorem laws_FnExactLongestLife.eq (k : Nat) (aW_Width : Int) (aW_Height : Int) (aW_Right : ByteArray) (aW_Down : ByteArray) (aW_X : Int) (aW_Y : Int) (aW_Way : Int) : laws_FnExactLongestLife (k + 1) (aW_Width, aW_Height, aW_Right, aW_Down, aW_X, aW_Y, aW_Way) =
  (laws_szWorm k ((aW_Width, aW_Height, aW_Right, aW_Down, aW_X, aW_Y, aW_Way), 1048576)).bind fun r1 =>
  cond (decide (r1 < 0))
  (some true)
  ((laws_toWorm k (aW_Width, aW_Height, aW_Right, aW_Down, aW_X, aW_Y, aW_Way)).bind fun r2 =>
   (spec_LongestLife k r2).bind fun r3 =>
   (laws_toWorm k (aW_Width, aW_Height, aW_Right, aW_Down, aW_X, aW_Y, aW_Way)).bind fun r4 =>
   (impl_LongestLife k r4).bind fun r5 =>
   (laws_eqStringS k (r5.1, r3.1)).bind fun r6 =>
   cond (!r6)
   (some false)
   (cond (r5.2.1 != r3.2.1)
    (some false)
    (cond (!(r5.2.2 == r3.2.2))
     (some false)
     ((laws_markStringS k (r5.1, 1)).bind fun r7 =>
      (laws_heldStringS k (r7.2, 1)).bind fun r8 =>
      cond (decide (r8 < 0))
      (some false)
      (cond (r8 != r7.1)
       (some false)
       ((laws_toWorm k (aW_Width, aW_Height, aW_Right, aW_Down, aW_X, aW_Y, aW_Way)).bind fun r9 =>
        (impl_LongestLife k r9).bind fun r10 =>
        (laws_eqStringS k (r10.1, r3.1)).bind fun r11 =>
        cond (!r11)
        (some false)
        (cond (r10.2.1 != r3.2.1)
         (some false)
         (cond (!(r10.2.2 == r3.2.2))
          (some false)
          ((laws_heldStringS k (r7.2, 1)).bind fun r12 =>
           cond (decide (r12 < 0))
           (some false)
           (cond (r12 != r7.1)
            (some false)
            (some true))))))))))) := by kernel_rfl
theorem laws_szWorm.eq (k : Nat) (a_Width : Int) (a_Height : Int) (a_Right : ByteArray) (a_Down : ByteArray) (a_X : Int) (a_Y : Int) (a_Way : Int) (left : Int) : laws_szWorm (k + 1) ((a_Width, a_Height, a_Right, a_Down, a_X, a_Y, a_Way), left) =
  cond (decide ((w64 (left - (a_Right.size : Int))) < 0))
  (some (-1))
  (cond (decide ((w64 ((w64 (left - (a_Right.size : Int))) - (a_Down.size : Int))) < 0))
   (some (-1))
   (some (w64 ((w64 (left - (a_Right.size : Int))) - (a_Down.size : Int))))) := by kernel_rfl
theorem laws_toWorm.eq (k : Nat) (a_Width : Int) (a_Height : Int) (a_Right : ByteArray) (a_Down : ByteArray) (a_X : Int) (a_Y : Int) (a_Way : Int) : laws_toWorm (k + 1) (a_Width, a_Height, a_Right, a_Down, a_X, a_Y, a_Way) =
  some (a_Width, a_Height, a_Right, a_Down, a_X, a_Y, a_Way) := by kernel_rfl
theorem spec_LongestLife.eq (k : Nat) (w_Width : Int) (w_Height : Int) (w_Right : ByteArray) (w_Down : ByteArray) (w_X : Int) (w_Y : Int) (w_Way : Int) : spec_LongestLife (k + 1) (w_Width, w_Height, w_Right, w_Down, w_X, w_Y, w_Way) =
  (spec_wmGood k (w_Width, w_Height, w_Right, w_Down, w_X, w_Y, w_Way)).bind fun r1 =>
  cond (!r1)
  (some ([], 0, false))
  ((spec_wmTastes k ()).bind fun r2 =>
   (spec_LongestLife_l k ((w_Width, w_Height, w_Right, w_Down, w_X, w_Y, w_Way), [], (-1), r2, (r2.length : Int), 0)).bind fun r3 =>
   some (r3.1, r3.2, true)) := by kernel_rfl
theorem spec_wmGood.eq (k : Nat) (w_Width : Int) (w_Height : Int) (w_Right : ByteArray) (w_Down : ByteArray) (w_X : Int) (w_Y : Int) (w_Way : Int) : spec_wmGood (k + 1) (w_Width, w_Height, w_Right, w_Down, w_X, w_Y, w_Way) =
  (spec_l1In k (w_Width, 3, 6)).bind fun r1 =>
  cond (!r1)
  (some false)
  ((spec_l1In k (w_Height, 3, 6)).bind fun r2 =>
   cond (!r2)
   (some false)
   (cond ((w_Right.size : Int) != (w64 (w_Width * w_Height)))
    (some false)
    (cond ((w_Down.size : Int) != (w_Right.size : Int))
     (some false)
     ((spec_wmGood_l k ((w_Width, w_Height, w_Right, w_Down, w_X, w_Y, w_Way), 0)).bind fun r3 =>
      r3.elim
      (fun r4 => some r4)
      (fun r5 => (spec_l1In k (r5.2.2.2.2.1, 0, (w64 (r5.1 - 1)))).bind fun r6 =>
       cond r6
       ((spec_l1In k (r5.2.2.2.2.2.1, 0, (w64 (r5.2.1 - 1)))).bind fun r7 =>
        cond r7
        ((spec_l1In k (r5.2.2.2.2.2.2, 0, 3)).bind fun r8 =>
         some r8)
        (some false))
       (some false)))))) := by kernel_rfl
theorem spec_l1In.eq (k : Nat) (n : Int) (lo : Int) (hi : Int) : spec_l1In (k + 1) (n, lo, hi) =
  cond (decide (n ≥ lo))
  (some (decide (n ≤ hi)))
  (some false) := by kernel_rfl
theorem spec_wmGood_l.eq (k : Nat) (w_Width : Int) (w_Height : Int) (w_Right : ByteArray) (w_Down : ByteArray) (w_X : Int) (w_Y : Int) (w_Way : Int) (i : Int) : spec_wmGood_l (k + 1) ((w_Width, w_Height, w_Right, w_Down, w_X, w_Y, w_Way), i) =
  cond (decide (i < (w_Right.size : Int)))
  (cond (inB i w_Right.size)
   (cond ((bt w_Right i.toNat) != 48)
    (cond (inB i w_Right.size)
     (cond ((bt w_Right i.toNat) != 49)
      (some (.inl false))
      (cond (inB i w_Down.size)
       (cond ((bt w_Down i.toNat) != 48)
        (cond (inB i w_Down.size)
         (cond ((bt w_Down i.toNat) != 49)
          (some (.inl false))
          (spec_wmGood_l k ((w_Width, w_Height, w_Right, w_Down, w_X, w_Y, w_Way), (w64 (i + 1)))))
         (none))
        (spec_wmGood_l k ((w_Width, w_Height, w_Right, w_Down, w_X, w_Y, w_Way), (w64 (i + 1)))))
       (none)))
     (none))
    (cond (inB i w_Down.size)
     (cond ((bt w_Down i.toNat) != 48)
      (cond (inB i w_Down.size)
       (cond ((bt w_Down i.toNat) != 49)
        (some (.inl false))
        (spec_wmGood_l k ((w_Width, w_Height, w_Right, w_Down, w_X, w_Y, w_Way), (w64 (i + 1)))))
       (none))
      (spec_wmGood_l k ((w_Width, w_Height, w_Right, w_Down, w_X, w_Y, w_Way), (w64 (i + 1)))))
     (none)))
   (none))
  (some (.inr (w_Width, w_Height, w_Right, w_Down, w_X, w_Y, w_Way))) := by kernel_rfl
theorem spec_wmTastes.eq (k : Nat)  : spec_wmTastes (k + 1) () =
  some ([(bs [76, 78, 82]), (bs [76, 82, 78]), (bs [78, 76, 82]), (bs [78, 82, 76]), (bs [82, 76, 78]), (bs [82, 78, 76])]) := by kernel_rfl
theorem spec_LongestLife_l.eq (k : Nat) (w_Width : Int) (w_Height : Int) (w_Right : ByteArray) (w_Down : ByteArray) (w_X : Int) (w_Y : Int) (w_Way : Int) (out : List ByteArray) (most : Int) (t15 : List ByteArray) (t16 : Int) (t17 : Int) : spec_LongestLife_l (k + 1) ((w_Width, w_Height, w_Right, w_Down, w_X, w_Y, w_Way), out, most, t15, t16, t17) =
  cond (decide (t17 < t16))
  (cond (inB t17 t15.length)
   ((spec_wmLife k ((w_Width, w_Height, w_Right, w_Down, w_X, w_Y, w_Way), (t15.getD t17.toNat default))).bind fun r1 =>
    cond (decide ((r1.2.1.size : Int) > most))
    (cond ((r1.2.1.size : Int) == (r1.2.1.size : Int))
     (cond (fits 1 16)
      (spec_LongestLife_l k ((w_Width, w_Height, w_Right, w_Down, w_X, w_Y, w_Way), [(t15.getD t17.toNat default)], (r1.2.1.size : Int), t15, t16, (w64 (t17 + 1))))
      (none))
     (spec_LongestLife_l k ((w_Width, w_Height, w_Right, w_Down, w_X, w_Y, w_Way), [], (r1.2.1.size : Int), t15, t16, (w64 (t17 + 1)))))
    (cond ((r1.2.1.size : Int) == most)
     (cond (fits (out.length + 1) 16)
      (spec_LongestLife_l k ((w_Width, w_Height, w_Right, w_Down, w_X, w_Y, w_Way), (out ++ [(t15.getD t17.toNat default)]), most, t15, t16, (w64 (t17 + 1))))
      (none))
     (spec_LongestLife_l k ((w_Width, w_Height, w_Right, w_Down, w_X, w_Y, w_Way), out, most, t15, t16, (w64 (t17 + 1))))))
   (none))
  (some (out, most)) := by kernel_rfl
theorem spec_wmLife.eq (k : Nat) (w_Width : Int) (w_Height : Int) (w_Right : ByteArray) (w_Down : ByteArray) (w_X : Int) (w_Y : Int) (w_Way : Int) (taste : ByteArray) : spec_wmLife (k + 1) ((w_Width, w_Height, w_Right, w_Down, w_X, w_Y, w_Way), taste) =
  (spec_wmLife_l k (taste, (w_Width, w_Height, w_Right, w_Down, w_X, w_Y, w_Way), (0, 0, ByteArray.empty, ByteArray.empty, 0, 0, 0), ByteArray.empty, [(w64 ((w64 (w_Y * w_Width)) + w_X))])).bind fun r1 =>
  some r1 := by kernel_rfl
theorem spec_wmLife_l.eq (k : Nat) (taste : ByteArray) (w_Width : Int) (w_Height : Int) (w_Right : ByteArray) (w_Down : ByteArray) (w_X : Int) (w_Y : Int) (w_Way : Int) (t4_Width : Int) (t4_Height : Int) (t4_Right : ByteArray) (t4_Down : ByteArray) (t4_X : Int) (t4_Y : Int) (t4_Way : Int) (signs : ByteArray) (track : List Int) : spec_wmLife_l (k + 1) (taste, (w_Width, w_Height, w_Right, w_Down, w_X, w_Y, w_Way), (t4_Width, t4_Height, t4_Right, t4_Down, t4_X, t4_Y, t4_Way), signs, track) =
  (spec_wmEat k ((w_Width, w_Height, w_Right, w_Down, w_X, w_Y, w_Way), taste)).bind fun r1 =>
  cond (strEq r1.1 ByteArray.empty)
  (some (r1.2, signs, track))
  (cond (fitS signs r1.1)
   (cond (fits (track.length + 1) 8)
    (spec_wmLife_l k (taste, r1.2, (t4_Width, t4_Height, t4_Right, t4_Down, t4_X, t4_Y, t4_Way), (signs ++ r1.1), (track ++ [(w64 ((w64 (r1.2.2.2.2.2.2.1 * r1.2.1)) + r1.2.2.2.2.2.1))])))
    (none))
   (none)) := by kernel_rfl
theorem spec_wmEat.eq (k : Nat) (w_Width : Int) (w_Height : Int) (w_Right : ByteArray) (w_Down : ByteArray) (w_X : Int) (w_Y : Int) (w_Way : Int) (taste : ByteArray) : spec_wmEat (k + 1) ((w_Width, w_Height, w_Right, w_Down, w_X, w_Y, w_Way), taste) =
  (spec_wmEat_l k ((w_Width, w_Height, w_Right, w_Down, w_X, w_Y, w_Way), taste, (taste, 0), ())).bind fun r1 =>
  r1.elim
  (fun r2 => some r2)
  (fun r3 => some (ByteArray.empty, r3)) := by kernel_rfl
theorem spec_wmEat_l.eq (k : Nat) (w_Width : Int) (w_Height : Int) (w_Right : ByteArray) (w_Down : ByteArray) (w_X : Int) (w_Y : Int) (w_Way : Int) (taste : ByteArray) (t8s : ByteArray) (t8i : Nat) : spec_wmEat_l (k + 1) ((w_Width, w_Height, w_Right, w_Down, w_X, w_Y, w_Way), taste, (t8s, t8i), ()) =
  cond (decide (t8i < t8s.size))
  (cond (inB (t8i : Int) taste.size)
   ((spec_woTurn k (bt taste ((t8i : Int).toNat))).bind fun r1 =>
    (spec_wmHas k ((w_Width, w_Height, w_Right, w_Down, w_X, w_Y, w_Way), w_X, w_Y, ((w64 (w_Way + r1)).tmod 4))).bind fun r2 =>
    cond r2
    ((spec_wmSet k ((w_Width, w_Height, w_Right, w_Down, w_X, w_Y, w_Way), w_X, w_Y, ((w64 (w_Way + r1)).tmod 4), (bs [48]))).bind fun r3 =>
     (spec_wmGo k ((r3.2.1, r3.2.2.1, r3.2.2.2.1, r3.2.2.2.2.1, r3.2.2.2.2.2.1, r3.2.2.2.2.2.2.1, ((w64 (w_Way + r1)).tmod 4)), ((w64 (w_Way + r1)).tmod 4), 1)).bind fun r4 =>
     cond (((decide ((0 : Int) ≤ (w64 ((t8i : Int) + 1)))) && (decide ((w64 ((t8i : Int) + 1)) ≤ (taste.size : Int)))) && ((decide ((0 : Int) ≤ (t8i : Int))) && (decide ((t8i : Int) ≤ (w64 ((t8i : Int) + 1))))))
     (some (.inl ((taste.extract ((t8i : Int).toNat) ((w64 ((t8i : Int) + 1)).toNat)), r4.2)))
     (none))
    (spec_wmEat_l k ((w_Width, w_Height, w_Right, w_Down, w_X, w_Y, w_Way), taste, (t8s, (runeEnd t8s t8i)), ())))
   (none))
  (some (.inr (w_Width, w_Height, w_Right, w_Down, w_X, w_Y, w_Way))) := by kernel_rfl
theorem spec_woTurn.eq (k : Nat) (sign : Int) : spec_woTurn (k + 1) sign =
  cond (sign == 82)
  (some 1)
  (cond (sign == 85)
   (some 2)
   (cond (sign == 76)
    (some 3)
    (some 0))) := by kernel_rfl
theorem spec_wmHas.eq (k : Nat) (w_Width : Int) (w_Height : Int) (w_Right : ByteArray) (w_Down : ByteArray) (w_X : Int) (w_Y : Int) (w_Way : Int) (x : Int) (y : Int) (way : Int) : spec_wmHas (k + 1) ((w_Width, w_Height, w_Right, w_Down, w_X, w_Y, w_Way), x, y, way) =
  (spec_wmLine k ((w_Width, w_Height, w_Right, w_Down, w_X, w_Y, w_Way), x, y, way)).bind fun r1 =>
  cond r1.1
  (cond (inB r1.2 w_Down.size)
   (some ((bt w_Down r1.2.toNat) == 49))
   (none))
  (cond (inB r1.2 w_Right.size)
   (some ((bt w_Right r1.2.toNat) == 49))
   (none)) := by kernel_rfl
theorem spec_wmLine.eq (k : Nat) (w_Width : Int) (w_Height : Int) (w_Right : ByteArray) (w_Down : ByteArray) (w_X : Int) (w_Y : Int) (w_Way : Int) (x : Int) (y : Int) (way : Int) : spec_wmLine (k + 1) ((w_Width, w_Height, w_Right, w_Down, w_X, w_Y, w_Way), x, y, way) =
  cond (way == 0)
  ((spec_l1Mod k ((w64 (y - 1)), w_Height)).bind fun r1 =>
   some (true, (w64 ((w64 (r1 * w_Width)) + x))))
  (cond (way == 1)
   (some (false, (w64 ((w64 (y * w_Width)) + x))))
   (cond (way == 2)
    (some (true, (w64 ((w64 (y * w_Width)) + x))))
    ((spec_l1Mod k ((w64 (x - 1)), w_Width)).bind fun r2 =>
     some (false, (w64 ((w64 (y * w_Width)) + r2)))))) := by kernel_rfl
theorem spec_l1Mod.eq (k : Nat) (n : Int) (m : Int) : spec_l1Mod (k + 1) (n, m) =
  cond (m != 0)
  (cond (m != 0)
   (some ((w64 ((n.tmod m) + m)).tmod m))
   (none))
  (none) := by kernel_rfl
theorem spec_wmSet.eq (k : Nat) (w_Width : Int) (w_Height : Int) (w_Right : ByteArray) (w_Down : ByteArray) (w_X : Int) (w_Y : Int) (w_Way : Int) (x : Int) (y : Int) (way : Int) (sign : ByteArray) : spec_wmSet (k + 1) ((w_Width, w_Height, w_Right, w_Down, w_X, w_Y, w_Way), x, y, way, sign) =
  (spec_wmLine k ((w_Width, w_Height, w_Right, w_Down, w_X, w_Y, w_Way), x, y, way)).bind fun r1 =>
  cond r1.1
  (cond ((decide ((0 : Int) ≤ r1.2)) && (decide (r1.2 ≤ (w_Down.size : Int))))
   (cond (fitS (w_Down.extract 0 r1.2.toNat) sign)
    (cond ((decide ((0 : Int) ≤ (w64 (r1.2 + 1)))) && (decide ((w64 (r1.2 + 1)) ≤ (w_Down.size : Int))))
     (cond (fitS ((w_Down.extract 0 r1.2.toNat) ++ sign) (w_Down.extract ((w64 (r1.2 + 1)).toNat) w_Down.size))
      (some ((), (w_Width, w_Height, w_Right, (((w_Down.extract 0 r1.2.toNat) ++ sign) ++ (w_Down.extract ((w64 (r1.2 + 1)).toNat) w_Down.size)), w_X, w_Y, w_Way)))
      (none))
     (none))
    (none))
   (none))
  (cond ((decide ((0 : Int) ≤ r1.2)) && (decide (r1.2 ≤ (w_Right.size : Int))))
   (cond (fitS (w_Right.extract 0 r1.2.toNat) sign)
    (cond ((decide ((0 : Int) ≤ (w64 (r1.2 + 1)))) && (decide ((w64 (r1.2 + 1)) ≤ (w_Right.size : Int))))
     (cond (fitS ((w_Right.extract 0 r1.2.toNat) ++ sign) (w_Right.extract ((w64 (r1.2 + 1)).toNat) w_Right.size))
      (some ((), (w_Width, w_Height, (((w_Right.extract 0 r1.2.toNat) ++ sign) ++ (w_Right.extract ((w64 (r1.2 + 1)).toNat) w_Right.size)), w_Down, w_X, w_Y, w_Way)))
      (none))
     (none))
    (none))
   (none)) := by kernel_rfl
theorem spec_wmGo.eq (k : Nat) (w_Width : Int) (w_Height : Int) (w_Right : ByteArray) (w_Down : ByteArray) (w_X : Int) (w_Y : Int) (w_Way : Int) (way : Int) (nodes : Int) : spec_wmGo (k + 1) ((w_Width, w_Height, w_Right, w_Down, w_X, w_Y, w_Way), way, nodes) =
  cond (way == 0)
  ((spec_l1Mod k ((w64 (w_Y - nodes)), w_Height)).bind fun r1 =>
   some ((), (w_Width, w_Height, w_Right, w_Down, w_X, r1, w_Way)))
  (cond (way == 1)
   ((spec_l1Mod k ((w64 (w_X + nodes)), w_Width)).bind fun r2 =>
    some ((), (w_Width, w_Height, w_Right, w_Down, r2, w_Y, w_Way)))
   (cond (way == 2)
    ((spec_l1Mod k ((w64 (w_Y + nodes)), w_Height)).bind fun r3 =>
     some ((), (w_Width, w_Height, w_Right, w_Down, w_X, r3, w_Way)))
    ((spec_l1Mod k ((w64 (w_X - nodes)), w_Width)).bind fun r4 =>
     some ((), (w_Width, w_Height, w_Right, w_Down, r4, w_Y, w_Way))))) := by kernel_rfl
theorem impl_LongestLife.eq (k : Nat) (w_Width : Int) (w_Height : Int) (w_Right : ByteArray) (w_Down : ByteArray) (w_X : Int) (w_Y : Int) (w_Way : Int) : impl_LongestLife (k + 1) (w_Width, w_Height, w_Right, w_Down, w_X, w_Y, w_Way) =
  (impl_IsWorm k (w_Width, w_Height, w_Right, w_Down, w_X, w_Y, w_Way)).bind fun r1 =>
  cond (!r1)
  (some ([], 0, false))
  ((impl_tastes k ()).bind fun r2 =>
   (impl_LongestLife_l k ((w_Width, w_Height, w_Right, w_Down, w_X, w_Y, w_Way), [], (-1), r2, (r2.length : Int), 0)).bind fun r3 =>
   some (r3.1, r3.2, true)) := by kernel_rfl
theorem impl_IsWorm.eq (k : Nat) (w_Width : Int) (w_Height : Int) (w_Right : ByteArray) (w_Down : ByteArray) (w_X : Int) (w_Y : Int) (w_Way : Int) : impl_IsWorm (k + 1) (w_Width, w_Height, w_Right, w_Down, w_X, w_Y, w_Way) =
  (impl_isGrid k (w_Width, w_Height)).bind fun r1 =>
  cond r1
  ((impl_areCells k (w_Right, (w64 (w_Width * w_Height)), 2)).bind fun r2 =>
   cond r2
   ((impl_areCells k (w_Down, (w64 (w_Width * w_Height)), 2)).bind fun r3 =>
    cond r3
    ((impl_isAnt k (w_Width, w_Height, w_X, w_Y, w_Way)).bind fun r4 =>
     some r4)
    (some false))
   (some false))
  (some false) := by kernel_rfl
theorem impl_isGrid.eq (k : Nat) (width : Int) (height : Int) : impl_isGrid (k + 1) (width, height) =
  (impl_within k (width, 3, 6)).bind fun r1 =>
  cond r1
  ((impl_within k (height, 3, 6)).bind fun r2 =>
   some r2)
  (some false) := by kernel_rfl
theorem impl_within.eq (k : Nat) (n : Int) (low : Int) (high : Int) : impl_within (k + 1) (n, low, high) =
  cond (decide (low ≤ n))
  (some (decide (n ≤ high)))
  (some false) := by kernel_rfl
theorem impl_areCells.eq (k : Nat) (cells : ByteArray) (many : Int) (tints : Int) : impl_areCells (k + 1) (cells, many, tints) =
  (impl_areCells_l k (cells, many, tints, (cells.size : Int), 0)).bind fun r1 =>
  r1.elim
  (fun r2 => some r2)
  (fun r3 => some ((r3.1.size : Int) == r3.2)) := by kernel_rfl
theorem impl_areCells_l.eq (k : Nat) (cells : ByteArray) (many : Int) (tints : Int) (t9 : Int) (t10 : Int) : impl_areCells_l (k + 1) (cells, many, tints, t9, t10) =
  cond (decide (t10 < t9))
  (cond (inB t10 cells.size)
   ((impl_within k ((w64 ((w64 (bt cells t10.toNat)) - 48)), 0, (w64 (tints - 1)))).bind fun r1 =>
    cond (!r1)
    (some (.inl false))
    (impl_areCells_l k (cells, many, tints, t9, (w64 (t10 + 1)))))
   (none))
  (some (.inr (cells, many))) := by kernel_rfl
theorem impl_isAnt.eq (k : Nat) (width : Int) (height : Int) (x : Int) (y : Int) (way : Int) : impl_isAnt (k + 1) (width, height, x, y, way) =
  (impl_within k (x, 0, (w64 (width - 1)))).bind fun r1 =>
  cond r1
  ((impl_within k (y, 0, (w64 (height - 1)))).bind fun r2 =>
   cond r2
   ((impl_isWay k way).bind fun r3 =>
    some r3)
   (some false))
  (some false) := by kernel_rfl
theorem impl_isWay.eq (k : Nat) (way : Int) : impl_isWay (k + 1) way =
  (impl_within k (way, 0, 3)).bind fun r1 =>
  some r1 := by kernel_rfl
theorem impl_tastes.eq (k : Nat)  : impl_tastes (k + 1) () =
  some ([(bs [76, 78, 82]), (bs [76, 82, 78]), (bs [78, 76, 82]), (bs [78, 82, 76]), (bs [82, 76, 78]), (bs [82, 78, 76])]) := by kernel_rfl
theorem impl_LongestLife_l.eq (k : Nat) (w_Width : Int) (w_Height : Int) (w_Right : ByteArray) (w_Down : ByteArray) (w_X : Int) (w_Y : Int) (w_Way : Int) (out : List ByteArray) (most : Int) (t16 : List ByteArray) (t17 : Int) (t18 : Int) : impl_LongestLife_l (k + 1) ((w_Width, w_Height, w_Right, w_Down, w_X, w_Y, w_Way), out, most, t16, t17, t18) =
  cond (decide (t18 < t17))
  (cond (inB t18 t16.length)
   ((impl_Worm_life k ((w_Width, w_Height, w_Right, w_Down, w_X, w_Y, w_Way), (t16.getD t18.toNat default))).bind fun r1 =>
    cond (decide ((r1.2.2.size : Int) > most))
    (cond ((r1.2.2.size : Int) == (r1.2.2.size : Int))
     (cond (fits 1 16)
      (impl_LongestLife_l k ((w_Width, w_Height, w_Right, w_Down, w_X, w_Y, w_Way), [(t16.getD t18.toNat default)], (r1.2.2.size : Int), t16, t17, (w64 (t18 + 1))))
      (none))
     (impl_LongestLife_l k ((w_Width, w_Height, w_Right, w_Down, w_X, w_Y, w_Way), [], (r1.2.2.size : Int), t16, t17, (w64 (t18 + 1)))))
    (cond ((r1.2.2.size : Int) == most)
     (cond (fits (out.length + 1) 16)
      (impl_LongestLife_l k ((w_Width, w_Height, w_Right, w_Down, w_X, w_Y, w_Way), (out ++ [(t16.getD t18.toNat default)]), most, t16, t17, (w64 (t18 + 1))))
      (none))
     (impl_LongestLife_l k ((w_Width, w_Height, w_Right, w_Down, w_X, w_Y, w_Way), out, most, t16, t17, (w64 (t18 + 1))))))
   (none))
  (some (out, most)) := by kernel_rfl
theorem impl_Worm_life.eq (k : Nat) (w_Width : Int) (w_Height : Int) (w_Right : ByteArray) (w_Down : ByteArray) (w_X : Int) (w_Y : Int) (w_Way : Int) (taste : ByteArray) : impl_Worm_life (k + 1) ((w_Width, w_Height, w_Right, w_Down, w_X, w_Y, w_Way), taste) =
  (impl_Worm_node k (w_Width, w_Height, w_Right, w_Down, w_X, w_Y, w_Way)).bind fun r1 =>
  (impl_Worm_life_l k (taste, (w_Width, w_Height, w_Right, w_Down, w_X, w_Y, w_Way), (0, 0, ByteArray.empty, ByteArray.empty, 0, 0, 0), [r1], [])).bind fun r2 =>
  some r2 := by kernel_rfl
theorem impl_Worm_node.eq (k : Nat) (w_Width : Int) (w_Height : Int) (w_Right : ByteArray) (w_Down : ByteArray) (w_X : Int) (w_Y : Int) (w_Way : Int) : impl_Worm_node (k + 1) (w_Width, w_Height, w_Right, w_Down, w_X, w_Y, w_Way) =
  (impl_Worm_world k (w_Width, w_Height, w_Right, w_Down, w_X, w_Y, w_Way)).bind fun r1 =>
  (impl_World_at k r1).bind fun r2 =>
  some r2 := by kernel_rfl
theorem impl_Worm_world.eq (k : Nat) (w_Width : Int) (w_Height : Int) (w_Right : ByteArray) (w_Down : ByteArray) (w_X : Int) (w_Y : Int) (w_Way : Int) : impl_Worm_world (k + 1) (w_Width, w_Height, w_Right, w_Down, w_X, w_Y, w_Way) =
  some (ByteArray.empty, w_Width, w_Height, ByteArray.empty, w_X, w_Y, w_Way) := by kernel_rfl
theorem impl_World_at.eq (k : Nat) (w_Rule : ByteArray) (w_Width : Int) (w_Height : Int) (w_Cells : ByteArray) (w_X : Int) (w_Y : Int) (w_Way : Int) : impl_World_at (k + 1) (w_Rule, w_Width, w_Height, w_Cells, w_X, w_Y, w_Way) =
  some (w64 ((w64 (w_Y * w_Width)) + w_X)) := by kernel_rfl
theorem impl_Worm_life_l.eq (k : Nat) (taste : ByteArray) (w_Width : Int) (w_Height : Int) (w_Right : ByteArray) (w_Down : ByteArray) (w_X : Int) (w_Y : Int) (w_Way : Int) (t4_Width : Int) (t4_Height : Int) (t4_Right : ByteArray) (t4_Down : ByteArray) (t4_X : Int) (t4_Y : Int) (t4_Way : Int) (nodes : List Int) (meals : List Int) : impl_Worm_life_l (k + 1) (taste, (w_Width, w_Height, w_Right, w_Down, w_X, w_Y, w_Way), (t4_Width, t4_Height, t4_Right, t4_Down, t4_X, t4_Y, t4_Way), nodes, meals) =
  (impl_Worm_eat k ((w_Width, w_Height, w_Right, w_Down, w_X, w_Y, w_Way), taste)).bind fun r1 =>
  cond (!r1.2.2)
  (some ((w_Width, w_Height, w_Right, w_Down, w_X, w_Y, w_Way), nodes, (ofBytes meals)))
  ((impl_Worm_node k r1.1).bind fun r2 =>
   cond (fits (nodes.length + 1) 8)
   (cond (fits (meals.length + 1) 1)
    (impl_Worm_life_l k (taste, r1.1, (t4_Width, t4_Height, t4_Right, t4_Down, t4_X, t4_Y, t4_Way), (nodes ++ [r2]), (meals ++ [r1.2.1])))
    (none))
   (none)) := by kernel_rfl
theorem impl_Worm_eat.eq (k : Nat) (w_Width : Int) (w_Height : Int) (w_Right : ByteArray) (w_Down : ByteArray) (w_X : Int) (w_Y : Int) (w_Way : Int) (taste : ByteArray) : impl_Worm_eat (k + 1) ((w_Width, w_Height, w_Right, w_Down, w_X, w_Y, w_Way), taste) =
  (impl_Worm_node k (w_Width, w_Height, w_Right, w_Down, w_X, w_Y, w_Way)).bind fun r1 =>
  (impl_Worm_eat_l k ((w_Width, w_Height, w_Right, w_Down, w_X, w_Y, w_Way), (0, 0, ByteArray.empty, ByteArray.empty, 0, 0, 0), r1, (bytesOf taste), ((bytesOf taste).length : Int), 0)).bind fun r2 =>
  r2.elim
  (fun r3 => some r3)
  (fun r4 => some ((0, 0, ByteArray.empty, ByteArray.empty, 0, 0, 0), 0, false)) := by kernel_rfl
theorem impl_Worm_eat_l.eq (k : Nat) (w_Width : Int) (w_Height : Int) (w_Right : ByteArray) (w_Down : ByteArray) (w_X : Int) (w_Y : Int) (w_Way : Int) (t4_Width : Int) (t4_Height : Int) (t4_Right : ByteArray) (t4_Down : ByteArray) (t4_X : Int) (t4_Y : Int) (t4_Way : Int) (node : Int) (t16 : List Int) (t17 : Int) (t18 : Int) : impl_Worm_eat_l (k + 1) ((w_Width, w_Height, w_Right, w_Down, w_X, w_Y, w_Way), (t4_Width, t4_Height, t4_Right, t4_Down, t4_X, t4_Y, t4_Way), node, t16, t17, t18) =
  cond (decide (t18 < t17))
  (cond (inB t18 t16.length)
   ((impl_quarters k (t16.getD t18.toNat default)).bind fun r1 =>
    (impl_Worm_there k ((w_Width, w_Height, w_Right, w_Down, w_X, w_Y, w_Way), node, ((w64 (w_Way + r1)).tmod 4))).bind fun r2 =>
    cond r2
    ((impl_Worm_made k ((w_Width, w_Height, w_Right, w_Down, w_X, w_Y, w_Way), node, ((w64 (w_Way + r1)).tmod 4), 0)).bind fun r3 =>
     (impl_Worm_beside k ((w_Width, w_Height, w_Right, w_Down, w_X, w_Y, w_Way), node, ((w64 (w_Way + r1)).tmod 4))).bind fun r4 =>
     cond (w_Width != 0)
     (cond (w_Width != 0)
      (some (.inl ((r3.1, r3.2.1, r3.2.2.1, r3.2.2.2.1, (r4.tmod w_Width), (w64 (r4.tdiv w_Width)), ((w64 (w_Way + r1)).tmod 4)), (t16.getD t18.toNat default), true)))
      (none))
     (none))
    (impl_Worm_eat_l k ((w_Width, w_Height, w_Right, w_Down, w_X, w_Y, w_Way), (t4_Width, t4_Height, t4_Right, t4_Down, t4_X, t4_Y, t4_Way), node, t16, t17, (w64 (t18 + 1)))))
   (none))
  (some (.inr (t4_Width, t4_Height, t4_Right, t4_Down, t4_X, t4_Y, t4_Way))) := by kernel_rfl
theorem impl_quarters.eq (k : Nat) (sign : Int) : impl_quarters (k + 1) sign =
  cond (sign == 76)
  (some 3)
  (cond (sign == 82)
   (some 1)
   (cond (sign == 85)
    (some 2)
    (some 0))) := by kernel_rfl
theorem impl_Worm_there.eq (k : Nat) (w_Width : Int) (w_Height : Int) (w_Right : ByteArray) (w_Down : ByteArray) (w_X : Int) (w_Y : Int) (w_Way : Int) (node : Int) (way : Int) : impl_Worm_there (k + 1) ((w_Width, w_Height, w_Right, w_Down, w_X, w_Y, w_Way), node, way) =
  (impl_Worm_line k ((w_Width, w_Height, w_Right, w_Down, w_X, w_Y, w_Way), node, way)).bind fun r1 =>
  cond r1.1
  (cond (inB r1.2 w_Right.size)
   (some ((bt w_Right r1.2.toNat) == 49))
   (none))
  (cond (inB r1.2 w_Down.size)
   (some ((bt w_Down r1.2.toNat) == 49))
   (none)) := by kernel_rfl
theorem impl_Worm_line.eq (k : Nat) (w_Width : Int) (w_Height : Int) (w_Right : ByteArray) (w_Down : ByteArray) (w_X : Int) (w_Y : Int) (w_Way : Int) (node : Int) (way : Int) : impl_Worm_line (k + 1) ((w_Width, w_Height, w_Right, w_Down, w_X, w_Y, w_Way), node, way) =
  cond (way == 0)
  ((impl_Worm_beside k ((w_Width, w_Height, w_Right, w_Down, w_X, w_Y, w_Way), node, 0)).bind fun r1 =>
   some (false, r1))
  (cond (way == 1)
   (some (true, node))
   (cond (way == 2)
    (some (false, node))
    ((impl_Worm_beside k ((w_Width, w_Height, w_Right, w_Down, w_X, w_Y, w_Way), node, 3)).bind fun r2 =>
     some (true, r2)))) := by kernel_rfl
theorem impl_Worm_beside.eq (k : Nat) (w_Width : Int) (w_Height : Int) (w_Right : ByteArray) (w_Down : ByteArray) (w_X : Int) (w_Y : Int) (w_Way : Int) (node : Int) (way : Int) : impl_Worm_beside (k + 1) ((w_Width, w_Height, w_Right, w_Down, w_X, w_Y, w_Way), node, way) =
  cond (w_Width != 0)
  (cond (w_Width != 0)
   ((impl_World_gone k ((ByteArray.empty, w_Width, w_Height, ByteArray.empty, (node.tmod w_Width), (w64 (node.tdiv w_Width)), way), 1)).bind fun r1 =>
    (impl_World_at k r1).bind fun r2 =>
    some r2)
   (none))
  (none) := by kernel_rfl
theorem impl_World_gone.eq (k : Nat) (w_Rule : ByteArray) (w_Width : Int) (w_Height : Int) (w_Cells : ByteArray) (w_X : Int) (w_Y : Int) (w_Way : Int) (by_ : Int) : impl_World_gone (k + 1) ((w_Rule, w_Width, w_Height, w_Cells, w_X, w_Y, w_Way), by_) =
  (impl_ahead k w_Way).bind fun r1 =>
  cond (w_Width != 0)
  (cond (w_Height != 0)
   (some (w_Rule, w_Width, w_Height, w_Cells, ((w64 ((w64 (w_X + (w64 (by_ * r1.1)))) + w_Width)).tmod w_Width), ((w64 ((w64 (w_Y + (w64 (by_ * r1.2)))) + w_Height)).tmod w_Height), w_Way))
   (none))
  (none) := by kernel_rfl
theorem impl_ahead.eq (k : Nat) (way : Int) : impl_ahead (k + 1) way =
  cond (inB way 4)
  (cond (inB way 4)
   (some ((([0, 1, 0, (-1)] : List Int).getD way.toNat default), (([(-1), 0, 1, 0] : List Int).getD way.toNat default)))
   (none))
  (none) := by kernel_rfl
theorem impl_Worm_made.eq (k : Nat) (w_Width : Int) (w_Height : Int) (w_Right : ByteArray) (w_Down : ByteArray) (w_X : Int) (w_Y : Int) (w_Way : Int) (node : Int) (way : Int) (there : Int) : impl_Worm_made (k + 1) ((w_Width, w_Height, w_Right, w_Down, w_X, w_Y, w_Way), node, way, there) =
  (impl_Worm_line k ((w_Width, w_Height, w_Right, w_Down, w_X, w_Y, w_Way), node, way)).bind fun r1 =>
  cond r1.1
  ((impl_painted k (w_Right, r1.2, there)).bind fun r2 =>
   some (w_Width, w_Height, r2, w_Down, w_X, w_Y, w_Way))
  ((impl_painted k (w_Down, r1.2, there)).bind fun r3 =>
   some (w_Width, w_Height, w_Right, r3, w_X, w_Y, w_Way)) := by kernel_rfl
theorem impl_painted.eq (k : Nat) (cells : ByteArray) (k_ : Int) (tint : Int) : impl_painted (k + 1) (cells, k_, tint) =
  cond (inB k_ ((bytesOf cells).length))
  (some (ofBytes ((bytesOf cells).set k_.toNat (w8 (w64 (48 + tint))))))
  (none) := by kernel_rfl
theorem laws_eqStringS.eq (k : Nat) (a : List ByteArray) (b : List ByteArray) : laws_eqStringS (k + 1) (a, b) =
  cond ((a.length : Int) != (b.length : Int))
  (some false)
  ((laws_eqStringS_l k (a, b, 0)).bind fun r1 =>
   r1.elim
   (fun r2 => some r2)
   (fun r3 => some true)) := by kernel_rfl
theorem laws_eqStringS_l.eq (k : Nat) (a : List ByteArray) (b : List ByteArray) (i : Int) : laws_eqStringS_l (k + 1) (a, b, i) =
  cond (decide (i < (a.length : Int)))
  (cond (inB i a.length)
   (cond (inB i b.length)
    (cond (!(strEq (a.getD i.toNat default) (b.getD i.toNat default)))
     (some (.inl false))
     (laws_eqStringS_l k (a, b, (w64 (i + 1)))))
    (none))
   (none))
  (some (.inr ())) := by kernel_rfl
theorem laws_markStringS.eq (k : Nat) (a : List ByteArray) (k_ : Int) : laws_markStringS (k + 1) (a, k_) =
  (laws_markStringS_l k (a, k_, 0, ())).bind fun r1 =>
  some r1 := by kernel_rfl
theorem laws_markStringS_l.eq (k : Nat) (a : List ByteArray) (k_ : Int) (i : Int) : laws_markStringS_l (k + 1) (a, k_, i, ()) =
  cond (decide (i < (a.length : Int)))
  ((laws_markText k k_).bind fun r1 =>
   cond (inB i a.length)
   (laws_markStringS_l k ((a.set i.toNat r1), (w64 (k_ + 1)), (w64 (i + 1)), ()))
   (none))
  (some (k_, a)) := by kernel_rfl
theorem laws_markText.eq (k : Nat) (k_ : Int) : laws_markText (k + 1) k_ =
  cond (decide (k_ ≤ 0))
  (some (bs [109, 48]))
  ((laws_markText_l k (k_, ByteArray.empty)).bind fun r1 =>
   cond (fitS (bs [109]) r1)
   (some ((bs [109]) ++ r1))
   (none)) := by kernel_rfl
theorem laws_markText_l.eq (k : Nat) (k_ : Int) (out : ByteArray) : laws_markText_l (k + 1) (k_, out) =
  cond (decide (k_ > 0))
  (cond (fitS (ofBytes [(w8 (w64 (48 + (k_.tmod 10))))]) out)
   (laws_markText_l k ((w64 (k_.tdiv 10)), ((ofBytes [(w8 (w64 (48 + (k_.tmod 10))))]) ++ out)))
   (none))
  (some out) := by kernel_rfl
theorem laws_heldStringS.eq (k : Nat) (a : List ByteArray) (k_ : Int) : laws_heldStringS (k + 1) (a, k_) =
  (laws_heldStringS_l k (a, k_, 0)).bind fun r1 =>
  r1.elim
  (fun r2 => some r2)
  (fun r3 => some r3) := by kernel_rfl
theorem laws_heldStringS_l.eq (k : Nat) (a : List ByteArray) (k_ : Int) (i : Int) : laws_heldStringS_l (k + 1) (a, k_, i) =
  cond (decide (i < (a.length : Int)))
  (cond (inB i a.length)
   ((laws_markText k k_).bind fun r1 =>
    cond (!(strEq (a.getD i.toNat default) r1))
    (some (.inl (-1)))
    (laws_heldStringS_l k (a, (w64 (k_ + 1)), (w64 (i + 1)))))
   (none))
  (some (.inr k_)) := by kernel_rfl
theorem laws_FnExactTrackOfWorm.eq (k : Nat) (aW_Width : Int) (aW_Height : Int) (aW_Right : ByteArray) (aW_Down : ByteArray) (aW_X : Int) (aW_Y : Int) (aW_Way : Int) (aTaste : ByteArray) : laws_FnExactTrackOfWorm (k + 1) ((aW_Width, aW_Height, aW_Right, aW_Down, aW_X, aW_Y, aW_Way), aTaste) =
  cond (decide ((aTaste.size : Int) > 1048576))
  (some true)
  ((laws_szWorm k ((aW_Width, aW_Height, aW_Right, aW_Down, aW_X, aW_Y, aW_Way), 1048576)).bind fun r1 =>
   cond (decide (r1 < 0))
   (some true)
   ((laws_toWorm k (aW_Width, aW_Height, aW_Right, aW_Down, aW_X, aW_Y, aW_Way)).bind fun r2 =>
    (spec_TrackOfWorm k (r2, aTaste)).bind fun r3 =>
    (laws_toWorm k (aW_Width, aW_Height, aW_Right, aW_Down, aW_X, aW_Y, aW_Way)).bind fun r4 =>
    (impl_TrackOfWorm k (r4, aTaste)).bind fun r5 =>
    (laws_eqIntS k (r5.1, r3.1)).bind fun r6 =>
    cond (!r6)
    (some false)
    (cond (!(r5.2 == r3.2))
     (some false)
     ((laws_markIntS k (r5.1, 1)).bind fun r7 =>
      (laws_heldIntS k (r7.2, 1)).bind fun r8 =>
      cond (decide (r8 < 0))
      (some false)
      (cond (r8 != r7.1)
       (some false)
       ((laws_toWorm k (aW_Width, aW_Height, aW_Right, aW_Down, aW_X, aW_Y, aW_Way)).bind fun r9 =>
        (impl_TrackOfWorm k (r9, aTaste)).bind fun r10 =>
        (laws_eqIntS k (r10.1, r3.1)).bind fun r11 =>
        cond (!r11)
        (some false)
        (cond (!(r10.2 == r3.2))
         (some false)
         ((laws_heldIntS k (r7.2, 1)).bind fun r12 =>
          cond (decide (r12 < 0))
          (some false)
          (cond (r12 != r7.1)
           (some false)
           (some true)))))))))) := by kernel_rfl
theorem spec_TrackOfWorm.eq (k : Nat) (w_Width : Int) (w_Height : Int) (w_Right : ByteArray) (w_Down : ByteArray) (w_X : Int) (w_Y : Int) (w_Way : Int) (taste : ByteArray) : spec_TrackOfWorm (k + 1) ((w_Width, w_Height, w_Right, w_Down, w_X, w_Y, w_Way), taste) =
  (spec_wmAsked k ((w_Width, w_Height, w_Right, w_Down, w_X, w_Y, w_Way), taste)).bind fun r1 =>
  cond (!r1)
  (some ([], false))
  ((spec_wmLife k ((w_Width, w_Height, w_Right, w_Down, w_X, w_Y, w_Way), taste)).bind fun r2 =>
   some (r2.2.2, true)) := by kernel_rfl
theorem spec_wmAsked.eq (k : Nat) (w_Width : Int) (w_Height : Int) (w_Right : ByteArray) (w_Down : ByteArray) (w_X : Int) (w_Y : Int) (w_Way : Int) (taste : ByteArray) : spec_wmAsked (k + 1) ((w_Width, w_Height, w_Right, w_Down, w_X, w_Y, w_Way), taste) =
  (spec_wmGood k (w_Width, w_Height, w_Right, w_Down, w_X, w_Y, w_Way)).bind fun r1 =>
  cond r1
  ((spec_wmTaste k taste).bind fun r2 =>
   some r2)
  (some false) := by kernel_rfl
theorem spec_wmTaste.eq (k : Nat) (taste : ByteArray) : spec_wmTaste (k + 1) taste =
  (spec_wmTastes k ()).bind fun r1 =>
  (spec_wmTaste_l k (taste, r1, (r1.length : Int), 0)).bind fun r2 =>
  r2.elim
  (fun r3 => some r3)
  (fun r4 => some false) := by kernel_rfl
theorem spec_wmTaste_l.eq (k : Nat) (taste : ByteArray) (t5 : List ByteArray) (t6 : Int) (t7 : Int) : spec_wmTaste_l (k + 1) (taste, t5, t6, t7) =
  cond (decide (t7 < t6))
  (cond (inB t7 t5.length)
   (cond (strEq (t5.getD t7.toNat default) taste)
    (some (.inl true))
    (spec_wmTaste_l k (taste, t5, t6, (w64 (t7 + 1)))))
   (none))
  (some (.inr ())) := by kernel_rfl
theorem impl_TrackOfWorm.eq (k : Nat) (w_Width : Int) (w_Height : Int) (w_Right : ByteArray) (w_Down : ByteArray) (w_X : Int) (w_Y : Int) (w_Way : Int) (taste : ByteArray) : impl_TrackOfWorm (k + 1) ((w_Width, w_Height, w_Right, w_Down, w_X, w_Y, w_Way), taste) =
  (impl_isTasting k ((w_Width, w_Height, w_Right, w_Down, w_X, w_Y, w_Way), taste)).bind fun r1 =>
  cond (!r1)
  (some ([], false))
  ((impl_Worm_life k ((w_Width, w_Height, w_Right, w_Down, w_X, w_Y, w_Way), taste)).bind fun r2 =>
   some (r2.2.1, true)) := by kernel_rfl
theorem impl_isTasting.eq (k : Nat) (w_Width : Int) (w_Height : Int) (w_Right : ByteArray) (w_Down : ByteArray) (w_X : Int) (w_Y : Int) (w_Way : Int) (taste : ByteArray) : impl_isTasting (k + 1) ((w_Width, w_Height, w_Right, w_Down, w_X, w_Y, w_Way), taste) =
  (impl_IsWorm k (w_Width, w_Height, w_Right, w_Down, w_X, w_Y, w_Way)).bind fun r1 =>
  cond r1
  ((impl_IsTaste k taste).bind fun r2 =>
   some r2)
  (some false) := by kernel_rfl
theorem impl_IsTaste.eq (k : Nat) (taste : ByteArray) : impl_IsTaste (k + 1) taste =
  (impl_tastes k ()).bind fun r1 =>
  (slices_Contains k (r1, taste)).bind fun r2 =>
  some r2 := by kernel_rfl
theorem slices_Contains.eq (k : Nat) (s : List ByteArray) (v : ByteArray) : slices_Contains (k + 1) (s, v) =
  (slices_Index k (s, v)).bind fun r1 =>
  some (decide (r1 ≥ 0)) := by kernel_rfl
theorem slices_Index.eq (k : Nat) (s : List ByteArray) (v : ByteArray) : slices_Index (k + 1) (s, v) =
  (slices_Index_l k (s, v, (s.length : Int), 0)).bind fun r1 =>
  r1.elim
  (fun r2 => some r2)
  (fun r3 => some (-1)) := by kernel_rfl
theorem slices_Index_l.eq (k : Nat) (s : List ByteArray) (v : ByteArray) (t7 : Int) (t8 : Int) : slices_Index_l (k + 1) (s, v, t7, t8) =
  cond (decide (t8 < t7))
  (cond (inB t8 s.length)
   (cond (strEq v (s.getD t8.toNat default))
    (some (.inl t8))
    (slices_Index_l k (s, v, t7, (w64 (t8 + 1)))))
   (none))
  (some (.inr ())) := by kernel_rfl
theorem laws_eqIntS.eq (k : Nat) (a : List Int) (b : List Int) : laws_eqIntS (k + 1) (a, b) =
  cond ((a.length : Int) != (b.length : Int))
  (some false)
  ((laws_eqIntS_l k (a, b, 0)).bind fun r1 =>
   r1.elim
   (fun r2 => some r2)
   (fun r3 => some true)) := by kernel_rfl
theorem laws_eqIntS_l.eq (k : Nat) (a : List Int) (b : List Int) (i : Int) : laws_eqIntS_l (k + 1) (a, b, i) =
  cond (decide (i < (a.length : Int)))
  (cond (inB i a.length)
   (cond (inB i b.length)
    (cond ((a.getD i.toNat default) != (b.getD i.toNat default))
     (some (.inl false))
     (laws_eqIntS_l k (a, b, (w64 (i + 1)))))
    (none))
   (none))
  (some (.inr ())) := by kernel_rfl
theorem laws_markIntS.eq (k : Nat) (a : List Int) (k_ : Int) : laws_markIntS (k + 1) (a, k_) =
  (laws_markIntS_l k (a, k_, 0, ())).bind fun r1 =>
  some r1 := by kernel_rfl
theorem laws_markIntS_l.eq (k : Nat) (a : List Int) (k_ : Int) (i : Int) : laws_markIntS_l (k + 1) (a, k_, i, ()) =
  cond (decide (i < (a.length : Int)))
  (cond (inB i a.length)
   (laws_markIntS_l k ((a.set i.toNat k_), (w64 (k_ + 1)), (w64 (i + 1)), ()))
   (none))
  (some (k_, a)) := by kernel_rfl
theorem laws_heldIntS.eq (k : Nat) (a : List Int) (k_ : Int) : laws_heldIntS (k + 1) (a, k_) =
  (laws_heldIntS_l k (a, k_, 0)).bind fun r1 =>
  r1.elim
  (fun r2 => some r2)
  (fun r3 => some r3) := by kernel_rfl
theorem laws_heldIntS_l.eq (k : Nat) (a : List Int) (k_ : Int) (i : Int) : laws_heldIntS_l (k + 1) (a, k_, i) =
  cond (decide (i < (a.length : Int)))
  (cond (inB i a.length)
   (cond ((a.getD i.toNat default) != k_)
    (some (.inl (-1)))
    (laws_heldIntS_l k (a, (w64 (k_ + 1)), (w64 (i + 1)))))
   (none))
  (some (.inr k_)) := by kernel_rfl
end Go.Proofs.YtgmpmdjennmidaaS
