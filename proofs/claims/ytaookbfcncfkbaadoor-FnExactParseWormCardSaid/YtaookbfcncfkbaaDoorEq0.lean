/- What each function computes (printed by wip/sim/gen.py). -/
import Derived.Test.YtaookbfcncfkbaaDoorTab
namespace Go.Proofs.YtaookbfcncfkbaaDoorS
open Go Go.Proofs
set_option maxRecDepth 100000
set_option linter.unusedVariables false
theorem laws_FnExactParseWorm.eq (k : Nat) (aS : ByteArray) : laws_FnExactParseWorm (k + 1) aS =
  cond (decide ((aS.size : Int) > 1048576))
  (some true)
  ((spec_ParseWorm k aS).bind fun r1 =>
   (impl_ParseWorm k aS).bind fun r2 =>
   (laws_eqWorm k (r2.1, r1.1)).bind fun r3 =>
   cond (!r3)
   (some false)
   (cond (!(r2.2 == r1.2))
    (some false)
    (some true))) := by kernel_rfl
theorem spec_ParseWorm.eq (k : Nat) (s : ByteArray) : spec_ParseWorm (k + 1) s =
  (spec_wmParse k s).bind fun r1 =>
  cond (!r1.2)
  (some ((0, 0, ByteArray.empty, ByteArray.empty, 0, 0, 0), false))
  (some (r1.1, true)) := by kernel_rfl
theorem spec_wmParse.eq (k : Nat) (s : ByteArray) : spec_wmParse (k + 1) s =
  (spec_l1Split k (s, 58)).bind fun r1 =>
  cond (decide ((s.size : Int) > 100))
  (some ((0, 0, ByteArray.empty, ByteArray.empty, 0, 0, 0), false))
  (cond ((r1.length : Int) != 4)
   (some ((0, 0, ByteArray.empty, ByteArray.empty, 0, 0, 0), false))
   (cond (inB 0 r1.length)
    ((spec_l1Split k ((r1.getD 0 default), 120)).bind fun r2 =>
     cond (inB 3 r1.length)
     ((spec_l1Split k ((r1.getD 3 default), 44)).bind fun r3 =>
      cond ((r2.length : Int) != 2)
      (some ((0, 0, ByteArray.empty, ByteArray.empty, 0, 0, 0), false))
      (cond ((r3.length : Int) != 3)
       (some ((0, 0, ByteArray.empty, ByteArray.empty, 0, 0, 0), false))
       (cond (inB 0 r2.length)
        ((spec_l1Read k (r2.getD 0 default)).bind fun r4 =>
         cond (inB 1 r2.length)
         ((spec_l1Read k (r2.getD 1 default)).bind fun r5 =>
          cond (inB 1 r1.length)
          (cond (inB 2 r1.length)
           (cond (inB 0 r3.length)
            ((spec_l1Read k (r3.getD 0 default)).bind fun r6 =>
             cond (inB 1 r3.length)
             ((spec_l1Read k (r3.getD 1 default)).bind fun r7 =>
              cond (inB 2 r3.length)
              ((spec_l1Read k (r3.getD 2 default)).bind fun r8 =>
               (spec_wmGood k (r4, r5, (r1.getD 1 default), (r1.getD 2 default), r6, r7, r8)).bind fun r9 =>
               cond r9
               ((spec_wmText k (r4, r5, (r1.getD 1 default), (r1.getD 2 default), r6, r7, r8)).bind fun r10 =>
                some ((r4, r5, (r1.getD 1 default), (r1.getD 2 default), r6, r7, r8), (strEq r10 s)))
               (some ((r4, r5, (r1.getD 1 default), (r1.getD 2 default), r6, r7, r8), false)))
              (none))
             (none))
            (none))
           (none))
          (none))
         (none))
        (none))))
     (none))
    (none))) := by kernel_rfl
theorem spec_l1Split.eq (k : Nat) (s : ByteArray) (b : Int) : spec_l1Split (k + 1) (s, b) =
  (spec_l1Split_l k (s, b, [], 0, 0)).bind fun r1 =>
  cond ((decide ((0 : Int) ≤ r1.2.2)) && (decide (r1.2.2 ≤ (r1.1.size : Int))))
  (cond (fits (r1.2.1.length + 1) 16)
   (some (r1.2.1 ++ [(r1.1.extract r1.2.2.toNat r1.1.size)]))
   (none))
  (none) := by kernel_rfl
theorem spec_l1Split_l.eq (k : Nat) (s : ByteArray) (b : Int) (out : List ByteArray) (from_ : Int) (i : Int) : spec_l1Split_l (k + 1) (s, b, out, from_, i) =
  cond (decide (i < (s.size : Int)))
  (cond (inB i s.size)
   (cond ((bt s i.toNat) == b)
    (cond (((decide ((0 : Int) ≤ i)) && (decide (i ≤ (s.size : Int)))) && ((decide ((0 : Int) ≤ from_)) && (decide (from_ ≤ i))))
     (cond (fits (out.length + 1) 16)
      (spec_l1Split_l k (s, b, (out ++ [(s.extract from_.toNat i.toNat)]), (w64 (i + 1)), (w64 (i + 1))))
      (none))
     (none))
    (spec_l1Split_l k (s, b, out, from_, (w64 (i + 1)))))
   (none))
  (some (s, out, from_)) := by kernel_rfl
theorem spec_l1Read.eq (k : Nat) (s : ByteArray) : spec_l1Read (k + 1) s =
  (spec_l1In k ((s.size : Int), 1, 6)).bind fun r1 =>
  cond (!r1)
  (some (-1))
  (cond (inB 0 s.size)
   (cond ((bt s 0) == 48)
    (cond (decide ((s.size : Int) > 1))
     (some (-1))
     ((spec_l1Read_l k (s, 0, 0)).bind fun r2 =>
      r2.elim
      (fun r3 => some r3)
      (fun r4 => some r4)))
    ((spec_l1Read_l k (s, 0, 0)).bind fun r5 =>
     r5.elim
     (fun r6 => some r6)
     (fun r7 => some r7)))
   (none)) := by kernel_rfl
theorem spec_l1In.eq (k : Nat) (n : Int) (lo : Int) (hi : Int) : spec_l1In (k + 1) (n, lo, hi) =
  cond (decide (n ≥ lo))
  (some (decide (n ≤ hi)))
  (some false) := by kernel_rfl
theorem spec_l1Read_l.eq (k : Nat) (s : ByteArray) (n : Int) (i : Int) : spec_l1Read_l (k + 1) (s, n, i) =
  cond (decide (i < (s.size : Int)))
  (cond (inB i s.size)
   (cond (decide ((bt s i.toNat) < 48))
    (some (.inl (-1)))
    (cond (inB i s.size)
     (cond (decide ((bt s i.toNat) > 57))
      (some (.inl (-1)))
      (cond (inB i s.size)
       (spec_l1Read_l k (s, (w64 ((w64 (10 * n)) + (w64 (w8 ((bt s i.toNat) - 48))))), (w64 (i + 1))))
       (none)))
     (none)))
   (none))
  (some (.inr n)) := by kernel_rfl
theorem spec_wmGood.eq (k : Nat) (w_Width : Int) (w_Height : Int) (w_Right : ByteArray) (w_Down : ByteArray) (w_X : Int) (w_Y : Int) (w_Way : Int) : spec_wmGood (k + 1) (w_Width, w_Height, w_Right, w_Down, w_X, w_Y, w_Way) =
  (spec_l1In k (w_Width, 3, 6)).bind fun r1 =>
  cond (!r1)
  (some false)
  ((spec_l1In k (w_Height, 3, 6)).bind fun r2 =>
   cond (!r2)
   (some false)
   (cond ((w_Right.size : Int) != (w64 (w_Width * w_Height)))
    (some false)
    (cond ((w_Down.size : Int) != (w_Right.size : Int))
     (some false)
     ((spec_wmGood_l k ((w_Width, w_Height, w_Right, w_Down, w_X, w_Y, w_Way), 0)).bind fun r3 =>
      r3.elim
      (fun r4 => some r4)
      (fun r5 => (spec_l1In k (r5.2.2.2.2.1, 0, (w64 (r5.1 - 1)))).bind fun r6 =>
       cond r6
       ((spec_l1In k (r5.2.2.2.2.2.1, 0, (w64 (r5.2.1 - 1)))).bind fun r7 =>
        cond r7
        ((spec_l1In k (r5.2.2.2.2.2.2, 0, 3)).bind fun r8 =>
         some r8)
        (some false))
       (some false)))))) := by kernel_rfl
theorem spec_wmGood_l.eq (k : Nat) (w_Width : Int) (w_Height : Int) (w_Right : ByteArray) (w_Down : ByteArray) (w_X : Int) (w_Y : Int) (w_Way : Int) (i : Int) : spec_wmGood_l (k + 1) ((w_Width, w_Height, w_Right, w_Down, w_X, w_Y, w_Way), i) =
  cond (decide (i < (w_Right.size : Int)))
  (cond (inB i w_Right.size)
   (cond ((bt w_Right i.toNat) != 48)
    (cond (inB i w_Right.size)
     (cond ((bt w_Right i.toNat) != 49)
      (some (.inl false))
      (cond (inB i w_Down.size)
       (cond ((bt w_Down i.toNat) != 48)
        (cond (inB i w_Down.size)
         (cond ((bt w_Down i.toNat) != 49)
          (some (.inl false))
          (spec_wmGood_l k ((w_Width, w_Height, w_Right, w_Down, w_X, w_Y, w_Way), (w64 (i + 1)))))
         (none))
        (spec_wmGood_l k ((w_Width, w_Height, w_Right, w_Down, w_X, w_Y, w_Way), (w64 (i + 1)))))
       (none)))
     (none))
    (cond (inB i w_Down.size)
     (cond ((bt w_Down i.toNat) != 48)
      (cond (inB i w_Down.size)
       (cond ((bt w_Down i.toNat) != 49)
        (some (.inl false))
        (spec_wmGood_l k ((w_Width, w_Height, w_Right, w_Down, w_X, w_Y, w_Way), (w64 (i + 1)))))
       (none))
      (spec_wmGood_l k ((w_Width, w_Height, w_Right, w_Down, w_X, w_Y, w_Way), (w64 (i + 1)))))
     (none)))
   (none))
  (some (.inr (w_Width, w_Height, w_Right, w_Down, w_X, w_Y, w_Way))) := by kernel_rfl
theorem spec_wmText.eq (k : Nat) (w_Width : Int) (w_Height : Int) (w_Right : ByteArray) (w_Down : ByteArray) (w_X : Int) (w_Y : Int) (w_Way : Int) : spec_wmText (k + 1) (w_Width, w_Height, w_Right, w_Down, w_X, w_Y, w_Way) =
  (spec_l1Num k w_Width).bind fun r1 =>
  cond (fitS r1 (bs [120]))
  ((spec_l1Num k w_Height).bind fun r2 =>
   cond (fitS (r1 ++ (bs [120])) r2)
   (cond (fitS ((r1 ++ (bs [120])) ++ r2) (bs [58]))
    (cond (fitS (((r1 ++ (bs [120])) ++ r2) ++ (bs [58])) w_Right)
     (cond (fitS ((((r1 ++ (bs [120])) ++ r2) ++ (bs [58])) ++ w_Right) (bs [58]))
      (cond (fitS (((((r1 ++ (bs [120])) ++ r2) ++ (bs [58])) ++ w_Right) ++ (bs [58])) w_Down)
       (cond (fitS ((((((r1 ++ (bs [120])) ++ r2) ++ (bs [58])) ++ w_Right) ++ (bs [58])) ++ w_Down) (bs [58]))
        ((spec_l1Num k w_X).bind fun r3 =>
         cond (fitS (((((((r1 ++ (bs [120])) ++ r2) ++ (bs [58])) ++ w_Right) ++ (bs [58])) ++ w_Down) ++ (bs [58])) r3)
         (cond (fitS ((((((((r1 ++ (bs [120])) ++ r2) ++ (bs [58])) ++ w_Right) ++ (bs [58])) ++ w_Down) ++ (bs [58])) ++ r3) (bs [44]))
          ((spec_l1Num k w_Y).bind fun r4 =>
           cond (fitS (((((((((r1 ++ (bs [120])) ++ r2) ++ (bs [58])) ++ w_Right) ++ (bs [58])) ++ w_Down) ++ (bs [58])) ++ r3) ++ (bs [44])) r4)
           (cond (fitS ((((((((((r1 ++ (bs [120])) ++ r2) ++ (bs [58])) ++ w_Right) ++ (bs [58])) ++ w_Down) ++ (bs [58])) ++ r3) ++ (bs [44])) ++ r4) (bs [44]))
            ((spec_l1Num k w_Way).bind fun r5 =>
             cond (fitS (((((((((((r1 ++ (bs [120])) ++ r2) ++ (bs [58])) ++ w_Right) ++ (bs [58])) ++ w_Down) ++ (bs [58])) ++ r3) ++ (bs [44])) ++ r4) ++ (bs [44])) r5)
             (some ((((((((((((r1 ++ (bs [120])) ++ r2) ++ (bs [58])) ++ w_Right) ++ (bs [58])) ++ w_Down) ++ (bs [58])) ++ r3) ++ (bs [44])) ++ r4) ++ (bs [44])) ++ r5))
             (none))
            (none))
           (none))
          (none))
         (none))
        (none))
       (none))
      (none))
     (none))
    (none))
   (none))
  (none) := by kernel_rfl
theorem spec_l1Num.eq (k : Nat) (n : Int) : spec_l1Num (k + 1) n =
  cond (decide (n < 10))
  (some (ofBytes [(w8 (w64 (48 + n)))]))
  ((spec_l1Num k (w64 (n.tdiv 10))).bind fun r1 =>
   cond (fitS r1 (ofBytes [(w8 (w64 (48 + (n.tmod 10))))]))
   (some (r1 ++ (ofBytes [(w8 (w64 (48 + (n.tmod 10))))])))
   (none)) := by kernel_rfl
theorem impl_ParseWorm.eq (k : Nat) (s : ByteArray) : impl_ParseWorm (k + 1) s =
  (strings_Split k (s, (bs [58]))).bind fun r1 =>
  cond ((r1.length : Int) != 4)
  (some ((0, 0, ByteArray.empty, ByteArray.empty, 0, 0, 0), false))
  (cond (inB 0 r1.length)
   ((impl_numbers k ((r1.getD 0 default), (bs [120]), 2, 6)).bind fun r2 =>
    cond (inB 3 r1.length)
    ((impl_numbers k ((r1.getD 3 default), (bs [44]), 3, 6)).bind fun r3 =>
     cond (inB 0 r2.1.length)
     (cond (inB 1 r2.1.length)
      (cond (inB 1 r1.length)
       (cond (inB 2 r1.length)
        (cond (inB 0 r3.1.length)
         (cond (inB 1 r3.1.length)
          (cond (inB 2 r3.1.length)
           (cond (!r2.2)
            (some ((0, 0, ByteArray.empty, ByteArray.empty, 0, 0, 0), false))
            (cond (!r3.2)
             (some ((0, 0, ByteArray.empty, ByteArray.empty, 0, 0, 0), false))
             ((impl_IsWorm k ((r2.1.getD 0 default), (r2.1.getD 1 default), (r1.getD 1 default), (r1.getD 2 default), (r3.1.getD 0 default), (r3.1.getD 1 default), (r3.1.getD 2 default))).bind fun r4 =>
              cond (!r4)
              (some ((0, 0, ByteArray.empty, ByteArray.empty, 0, 0, 0), false))
              (some (((r2.1.getD 0 default), (r2.1.getD 1 default), (r1.getD 1 default), (r1.getD 2 default), (r3.1.getD 0 default), (r3.1.getD 1 default), (r3.1.getD 2 default)), true)))))
           (none))
          (none))
         (none))
        (none))
       (none))
      (none))
     (none))
    (none))
   (none)) := by kernel_rfl
theorem strings_Split.eq (k : Nat) (d : ByteArray × ByteArray) : strings_Split (k + 1) d = (fun d => strSplit1 d.1 d.2) d := by kernel_rfl
theorem impl_numbers.eq (k : Nat) (s : ByteArray) (by_ : ByteArray) (many : Int) (most : Int) : impl_numbers (k + 1) (s, by_, many, most) =
  (strings_Split k (s, by_)).bind fun r1 =>
  (impl_numbers_l k (many, most, [], r1, (r1.length : Int), 0)).bind fun r2 =>
  r2.elim
  (fun r3 => some r3)
  (fun r4 => cond ((r4.2.length : Int) != r4.1)
   (cond (((decide ((0 : Int) ≤ r4.1)) && (decide (r4.1 ≤ r4.1))) && (fits r4.1.toNat 8))
    (some ((List.replicate r4.1.toNat 0), false))
    (none))
   (some (r4.2, true))) := by kernel_rfl
theorem impl_numbers_l.eq (k : Nat) (many : Int) (most : Int) (out : List Int) (t18 : List ByteArray) (t19 : Int) (t20 : Int) : impl_numbers_l (k + 1) (many, most, out, t18, t19, t20) =
  cond (decide (t20 < t19))
  (cond (inB t20 t18.length)
   ((impl_number k ((t18.getD t20.toNat default), most)).bind fun r1 =>
    cond (!r1.2)
    (cond (((decide ((0 : Int) ≤ many)) && (decide (many ≤ many))) && (fits many.toNat 8))
     (some (.inl ((List.replicate many.toNat 0), false)))
     (none))
    (cond (fits (out.length + 1) 8)
     (impl_numbers_l k (many, most, (out ++ [r1.1]), t18, t19, (w64 (t20 + 1))))
     (none)))
   (none))
  (some (.inr (many, out))) := by kernel_rfl
theorem impl_number.eq (k : Nat) (d : ByteArray × Int) : impl_number (k + 1) d = (fun d => numB d.1 d.2) d := by kernel_rfl
theorem impl_IsWorm.eq (k : Nat) (w_Width : Int) (w_Height : Int) (w_Right : ByteArray) (w_Down : ByteArray) (w_X : Int) (w_Y : Int) (w_Way : Int) : impl_IsWorm (k + 1) (w_Width, w_Height, w_Right, w_Down, w_X, w_Y, w_Way) =
  (impl_isGrid k (w_Width, w_Height)).bind fun r1 =>
  cond r1
  ((impl_areCells k (w_Right, (w64 (w_Width * w_Height)), 2)).bind fun r2 =>
   cond r2
   ((impl_areCells k (w_Down, (w64 (w_Width * w_Height)), 2)).bind fun r3 =>
    cond r3
    ((impl_isAnt k (w_Width, w_Height, w_X, w_Y, w_Way)).bind fun r4 =>
     some r4)
    (some false))
   (some false))
  (some false) := by kernel_rfl
theorem impl_isGrid.eq (k : Nat) (width : Int) (height : Int) : impl_isGrid (k + 1) (width, height) =
  (impl_within k (width, 3, 6)).bind fun r1 =>
  cond r1
  ((impl_within k (height, 3, 6)).bind fun r2 =>
   some r2)
  (some false) := by kernel_rfl
theorem impl_within.eq (k : Nat) (n : Int) (low : Int) (high : Int) : impl_within (k + 1) (n, low, high) =
  cond (decide (low ≤ n))
  (some (decide (n ≤ high)))
  (some false) := by kernel_rfl
theorem impl_areCells.eq (k : Nat) (cells : ByteArray) (many : Int) (tints : Int) : impl_areCells (k + 1) (cells, many, tints) =
  (impl_areCells_l k (cells, many, tints, (cells.size : Int), 0)).bind fun r1 =>
  r1.elim
  (fun r2 => some r2)
  (fun r3 => some ((r3.1.size : Int) == r3.2)) := by kernel_rfl
theorem impl_areCells_l.eq (k : Nat) (cells : ByteArray) (many : Int) (tints : Int) (t9 : Int) (t10 : Int) : impl_areCells_l (k + 1) (cells, many, tints, t9, t10) =
  cond (decide (t10 < t9))
  (cond (inB t10 cells.size)
   ((impl_within k ((w64 ((w64 (bt cells t10.toNat)) - 48)), 0, (w64 (tints - 1)))).bind fun r1 =>
    cond (!r1)
    (some (.inl false))
    (impl_areCells_l k (cells, many, tints, t9, (w64 (t10 + 1)))))
   (none))
  (some (.inr (cells, many))) := by kernel_rfl
theorem impl_isAnt.eq (k : Nat) (width : Int) (height : Int) (x : Int) (y : Int) (way : Int) : impl_isAnt (k + 1) (width, height, x, y, way) =
  (impl_within k (x, 0, (w64 (width - 1)))).bind fun r1 =>
  cond r1
  ((impl_within k (y, 0, (w64 (height - 1)))).bind fun r2 =>
   cond r2
   ((impl_isWay k way).bind fun r3 =>
    some r3)
   (some false))
  (some false) := by kernel_rfl
theorem impl_isWay.eq (k : Nat) (way : Int) : impl_isWay (k + 1) way =
  (impl_within k (way, 0, 3)).bind fun r1 =>
  some r1 := by kernel_rfl
theorem laws_eqWorm.eq (k : Nat) (a_Width : Int) (a_Height : Int) (a_Right : ByteArray) (a_Down : ByteArray) (a_X : Int) (a_Y : Int) (a_Way : Int) (b_Width : Int) (b_Height : Int) (b_Right : ByteArray) (b_Down : ByteArray) (b_X : Int) (b_Y : Int) (b_Way : Int) : laws_eqWorm (k + 1) ((a_Width, a_Height, a_Right, a_Down, a_X, a_Y, a_Way), (b_Width, b_Height, b_Right, b_Down, b_X, b_Y, b_Way)) =
  cond (a_Width != b_Width)
  (some false)
  (cond (a_Height != b_Height)
   (some false)
   (cond (!(strEq a_Right b_Right))
    (some false)
    (cond (!(strEq a_Down b_Down))
     (some false)
     (cond (a_X != b_X)
      (some false)
      (cond (a_Y != b_Y)
       (some false)
       (cond (a_Way != b_Way)
        (some false)
        (some true))))))) := by kernel_rfl
end Go.Proofs.YtaookbfcncfkbaaDoorS
