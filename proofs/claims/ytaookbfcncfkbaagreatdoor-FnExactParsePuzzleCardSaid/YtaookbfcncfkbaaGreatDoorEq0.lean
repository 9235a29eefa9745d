/- What each function computes (printed by wip/sim/gen.py). -/
import Derived.Test.YtaookbfcncfkbaaGreatDoorTab
namespace Go.Proofs.YtaookbfcncfkbaaGreatDoorS
open Go Go.Proofs
set_option maxRecDepth 100000
set_option linter.unusedVariables false
theorem laws_FnExactParsePuzzle.eq (k : Nat) (aS : ByteArray) : laws_FnExactParsePuzzle (k + 1) aS =
  cond (decide ((aS.size : Int) > 1048576))
  (some true)
  ((spec_ParsePuzzle k aS).bind fun r1 =>
   (impl_ParsePuzzle k aS).bind fun r2 =>
   (laws_eqPuzzle k (r2.1, r1.1)).bind fun r3 =>
   cond (!r3)
   (some false)
   (cond (!(r2.2 == r1.2))
    (some false)
    ((laws_markPuzzle k (r2.1, 1)).bind fun r4 =>
     (laws_heldPuzzle k ((r2.1.1, r2.1.2.1, r2.1.2.2.1, r4.2.2.2.2), 1)).bind fun r5 =>
     cond (decide (r5 < 0))
     (some false)
     (cond (r5 != r4.1)
      (some false)
      ((impl_ParsePuzzle k aS).bind fun r6 =>
       (laws_eqPuzzle k (r6.1, r1.1)).bind fun r7 =>
       cond (!r7)
       (some false)
       (cond (!(r6.2 == r1.2))
        (some false)
        ((laws_heldPuzzle k ((r2.1.1, r2.1.2.1, r2.1.2.2.1, r4.2.2.2.2), 1)).bind fun r8 =>
         cond (decide (r8 < 0))
         (some false)
         (cond (r8 != r4.1)
          (some false)
          (some true))))))))) := by kernel_rfl
theorem spec_ParsePuzzle.eq (k : Nat) (s : ByteArray) : spec_ParsePuzzle (k + 1) s =
  (spec_pzParse k s).bind fun r1 =>
  cond (!r1.2)
  (some ((ByteArray.empty, 0, 0, []), false))
  (some (r1.1, true)) := by kernel_rfl
theorem spec_pzParse.eq (k : Nat) (s : ByteArray) : spec_pzParse (k + 1) s =
  cond (decide ((s.size : Int) > 100))
  (some ((ByteArray.empty, 0, 0, []), false))
  ((spec_l1Split k (s, 58)).bind fun r1 =>
   cond ((r1.length : Int) != 3)
   (some ((ByteArray.empty, 0, 0, []), false))
   (cond (inB 1 r1.length)
    ((spec_l1Split k ((r1.getD 1 default), 120)).bind fun r2 =>
     cond ((r2.length : Int) != 2)
     (some ((ByteArray.empty, 0, 0, []), false))
     (cond (inB 0 r1.length)
      (cond (inB 0 r2.length)
       ((spec_l1Read k (r2.getD 0 default)).bind fun r3 =>
        cond (inB 1 r2.length)
        ((spec_l1Read k (r2.getD 1 default)).bind fun r4 =>
         cond (inB 2 r1.length)
         (cond (decide (((r1.getD 2 default).size : Int) > 0))
          (cond (inB 2 r1.length)
           ((spec_l1Split k ((r1.getD 2 default), 44)).bind fun r5 =>
            (spec_pzParse_l k (s, (ByteArray.empty, 0, 0, []), ((r1.getD 0 default), r3, r4, []), r5, (r5.length : Int), 0)).bind fun r6 =>
            r6.elim
            (fun r7 => some r7)
            (fun r8 => (spec_pzGood k r8.2.2).bind fun r9 =>
             cond r9
             ((spec_pzText k r8.2.2).bind fun r10 =>
              some (r8.2.2, (strEq r10 r8.1)))
             (some (r8.2.2, false))))
           (none))
          ((spec_pzGood k ((r1.getD 0 default), r3, r4, [])).bind fun r11 =>
           cond r11
           ((spec_pzText k ((r1.getD 0 default), r3, r4, [])).bind fun r12 =>
            some (((r1.getD 0 default), r3, r4, []), (strEq r12 s)))
           (some (((r1.getD 0 default), r3, r4, []), false))))
         (none))
        (none))
       (none))
      (none)))
    (none))) := by kernel_rfl
theorem spec_l1Split.eq (k : Nat) (s : ByteArray) (b : Int) : spec_l1Split (k + 1) (s, b) =
  (spec_l1Split_l k (s, b, [], 0, 0)).bind fun r1 =>
  cond ((decide ((0 : Int) ≤ r1.2.2)) && (decide (r1.2.2 ≤ (r1.1.size : Int))))
  (cond (fits (r1.2.1.length + 1) 16)
   (some (r1.2.1 ++ [(r1.1.extract r1.2.2.toNat r1.1.size)]))
   (none))
  (none) := by kernel_rfl
theorem spec_l1Split_l.eq (k : Nat) (s : ByteArray) (b : Int) (out : List ByteArray) (from_ : Int) (i : Int) : spec_l1Split_l (k + 1) (s, b, out, from_, i) =
  cond (decide (i < (s.size : Int)))
  (cond (inB i s.size)
   (cond ((bt s i.toNat) == b)
    (cond (((decide ((0 : Int) ≤ i)) && (decide (i ≤ (s.size : Int)))) && ((decide ((0 : Int) ≤ from_)) && (decide (from_ ≤ i))))
     (cond (fits (out.length + 1) 16)
      (spec_l1Split_l k (s, b, (out ++ [(s.extract from_.toNat i.toNat)]), (w64 (i + 1)), (w64 (i + 1))))
      (none))
     (none))
    (spec_l1Split_l k (s, b, out, from_, (w64 (i + 1)))))
   (none))
  (some (s, out, from_)) := by kernel_rfl
theorem spec_l1Read.eq (k : Nat) (s : ByteArray) : spec_l1Read (k + 1) s =
  (spec_l1In k ((s.size : Int), 1, 6)).bind fun r1 =>
  cond (!r1)
  (some (-1))
  (cond (inB 0 s.size)
   (cond ((bt s 0) == 48)
    (cond (decide ((s.size : Int) > 1))
     (some (-1))
     ((spec_l1Read_l k (s, 0, 0)).bind fun r2 =>
      r2.elim
      (fun r3 => some r3)
      (fun r4 => some r4)))
    ((spec_l1Read_l k (s, 0, 0)).bind fun r5 =>
     r5.elim
     (fun r6 => some r6)
     (fun r7 => some r7)))
   (none)) := by kernel_rfl
theorem spec_l1In.eq (k : Nat) (n : Int) (lo : Int) (hi : Int) : spec_l1In (k + 1) (n, lo, hi) =
  cond (decide (n ≥ lo))
  (some (decide (n ≤ hi)))
  (some false) := by kernel_rfl
theorem spec_l1Read_l.eq (k : Nat) (s : ByteArray) (n : Int) (i : Int) : spec_l1Read_l (k + 1) (s, n, i) =
  cond (decide (i < (s.size : Int)))
  (cond (inB i s.size)
   (cond (decide ((bt s i.toNat) < 48))
    (some (.inl (-1)))
    (cond (inB i s.size)
     (cond (decide ((bt s i.toNat) > 57))
      (some (.inl (-1)))
      (cond (inB i s.size)
       (spec_l1Read_l k (s, (w64 ((w64 (10 * n)) + (w64 (w8 ((bt s i.toNat) - 48))))), (w64 (i + 1))))
       (none)))
     (none)))
   (none))
  (some (.inr n)) := by kernel_rfl
theorem spec_pzParse_l.eq (k : Nat) (s : ByteArray) (t2_Rule : ByteArray) (t2_Width : Int) (t2_Height : Int) (t2_Clues : List (Int × (Int × Int))) (p_Rule : ByteArray) (p_Width : Int) (p_Height : Int) (p_Clues : List (Int × (Int × Int))) (t48 : List ByteArray) (t49 : Int) (t50 : Int) : spec_pzParse_l (k + 1) (s, (t2_Rule, t2_Width, t2_Height, t2_Clues), (p_Rule, p_Width, p_Height, p_Clues), t48, t49, t50) =
  cond (decide (t50 < t49))
  (cond (inB t50 t48.length)
   ((spec_l1Split k ((t48.getD t50.toNat default), 46)).bind fun r1 =>
    cond ((r1.length : Int) != 3)
    (some (.inl ((ByteArray.empty, 0, 0, []), false)))
    (cond (inB 0 r1.length)
     ((spec_l1Read k (r1.getD 0 default)).bind fun r2 =>
      cond (inB 1 r1.length)
      ((spec_l1Read k (r1.getD 1 default)).bind fun r3 =>
       cond (inB 2 r1.length)
       ((spec_l1Read k (r1.getD 2 default)).bind fun r4 =>
        cond (fits (p_Clues.length + 1) 24)
        (spec_pzParse_l k (s, (t2_Rule, t2_Width, t2_Height, t2_Clues), (p_Rule, p_Width, p_Height, (p_Clues ++ [(r2, (r3, r4))])), t48, t49, (w64 (t50 + 1))))
        (none))
       (none))
      (none))
     (none)))
   (none))
  (some (.inr (s, (t2_Rule, t2_Width, t2_Height, t2_Clues), (p_Rule, p_Width, p_Height, p_Clues)))) := by kernel_rfl
theorem spec_pzGood.eq (k : Nat) (p_Rule : ByteArray) (p_Width : Int) (p_Height : Int) (p_Clues : List (Int × (Int × Int))) : spec_pzGood (k + 1) (p_Rule, p_Width, p_Height, p_Clues) =
  (spec_pzSize k (p_Rule, p_Width, p_Height)).bind fun r1 =>
  cond (!r1)
  (some false)
  (cond (decide ((p_Clues.length : Int) > 6))
   (some false)
   ((spec_pzGood_l k ((p_Rule, p_Width, p_Height, p_Clues), (), (p_Clues.length : Int), 0)).bind fun r2 =>
    r2.elim
    (fun r3 => some r3)
    (fun r4 => some true))) := by kernel_rfl
theorem spec_pzSize.eq (k : Nat) (rule : ByteArray) (width : Int) (height : Int) : spec_pzSize (k + 1) (rule, width, height) =
  (spec_woRule k rule).bind fun r1 =>
  cond r1
  ((spec_l1In k (width, 1, 9)).bind fun r2 =>
   cond r2
   ((spec_l1In k (height, 1, 9)).bind fun r3 =>
    cond r3
    (cond (decide ((w64 (width * height)) ≤ 9))
     ((spec_pzPower k (rule, (w64 (width * height)))).bind fun r4 =>
      some (decide (r4 > 0)))
     (some false))
    (some false))
   (some false))
  (some false) := by kernel_rfl
theorem spec_woRule.eq (k : Nat) (rule : ByteArray) : spec_woRule (k + 1) rule =
  (spec_l1In k ((rule.size : Int), 1, 6)).bind fun r1 =>
  cond (!r1)
  (some false)
  ((spec_woRule_l k (rule, 0)).bind fun r2 =>
   r2.elim
   (fun r3 => some r3)
   (fun r4 => some true)) := by kernel_rfl
theorem spec_woRule_l.eq (k : Nat) (rule : ByteArray) (i : Int) : spec_woRule_l (k + 1) (rule, i) =
  cond (decide (i < (rule.size : Int)))
  (cond (inB i rule.size)
   (cond ((bt rule i.toNat) == 76)
    (spec_woRule_l k (rule, (w64 (i + 1))))
    (cond ((bt rule i.toNat) == 82)
     (spec_woRule_l k (rule, (w64 (i + 1))))
     (cond ((bt rule i.toNat) == 78)
      (spec_woRule_l k (rule, (w64 (i + 1))))
      (cond ((bt rule i.toNat) == 85)
       (spec_woRule_l k (rule, (w64 (i + 1))))
       (some (.inl false))))))
   (none))
  (some (.inr ())) := by kernel_rfl
theorem spec_pzPower.eq (k : Nat) (rule : ByteArray) (cells : Int) : spec_pzPower (k + 1) (rule, cells) =
  (spec_pzPower_l k (rule, cells, 1)).bind fun r1 =>
  r1.elim
  (fun r2 => some r2)
  (fun r3 => some r3) := by kernel_rfl
theorem spec_pzPower_l.eq (k : Nat) (rule : ByteArray) (cells : Int) (n : Int) : spec_pzPower_l (k + 1) (rule, cells, n) =
  cond (decide (cells > 0))
  (cond (decide ((w64 (n * (rule.size : Int))) > 300))
   (some (.inl 0))
   (spec_pzPower_l k (rule, (w64 (cells - 1)), (w64 (n * (rule.size : Int))))))
  (some (.inr n)) := by kernel_rfl
theorem spec_pzGood_l.eq (k : Nat) (p_Rule : ByteArray) (p_Width : Int) (p_Height : Int) (p_Clues : List (Int × (Int × Int))) (t21 : Int) (t22 : Int) : spec_pzGood_l (k + 1) ((p_Rule, p_Width, p_Height, p_Clues), (), t21, t22) =
  cond (decide (t22 < t21))
  (cond (inB t22 p_Clues.length)
   ((spec_pzClue k (p_Rule, (w64 (p_Width * p_Height)), (p_Clues.getD t22.toNat default))).bind fun r1 =>
    cond (!r1)
    (some (.inl false))
    (spec_pzGood_l k ((p_Rule, p_Width, p_Height, p_Clues), (), t21, (w64 (t22 + 1)))))
   (none))
  (some (.inr ())) := by kernel_rfl
theorem spec_pzClue.eq (k : Nat) (rule : ByteArray) (cells : Int) (c_Kind : Int) (c_A : Int) (c_B : Int) : spec_pzClue (k + 1) (rule, cells, (c_Kind, c_A, c_B)) =
  cond (c_Kind == 0)
  ((spec_l1In k (c_A, 0, (w64 (cells - 1)))).bind fun r1 =>
   cond r1
   ((spec_l1In k (c_B, 0, (w64 ((rule.size : Int) - 1)))).bind fun r2 =>
    some r2)
   (some false))
  (cond (c_Kind == 1)
   ((spec_l1In k (c_A, 0, 50)).bind fun r3 =>
    cond r3
    ((spec_l1In k (c_B, 0, (w64 (cells - 1)))).bind fun r4 =>
     some r4)
    (some false))
   (cond (c_Kind == 2)
    ((spec_l1In k (c_A, 0, 50)).bind fun r5 =>
     cond r5
     ((spec_l1In k (c_B, 0, 3)).bind fun r6 =>
      some r6)
     (some false))
    (cond (c_Kind == 3)
     ((spec_l1In k (c_A, 0, 50)).bind fun r7 =>
      cond r7
      ((spec_l1In k (c_B, 0, cells)).bind fun r8 =>
       some r8)
      (some false))
     (cond (c_Kind == 4)
      ((spec_l1In k (c_A, 0, 100)).bind fun r9 =>
       cond r9
       (some (c_B == 0))
       (some false))
      (some false))))) := by kernel_rfl
theorem spec_pzText.eq (k : Nat) (p_Rule : ByteArray) (p_Width : Int) (p_Height : Int) (p_Clues : List (Int × (Int × Int))) : spec_pzText (k + 1) (p_Rule, p_Width, p_Height, p_Clues) =
  cond (fitS p_Rule (bs [58]))
  ((spec_l1Num k p_Width).bind fun r1 =>
   cond (fitS (p_Rule ++ (bs [58])) r1)
   (cond (fitS ((p_Rule ++ (bs [58])) ++ r1) (bs [120]))
    ((spec_l1Num k p_Height).bind fun r2 =>
     cond (fitS (((p_Rule ++ (bs [58])) ++ r1) ++ (bs [120])) r2)
     (cond (fitS ((((p_Rule ++ (bs [58])) ++ r1) ++ (bs [120])) ++ r2) (bs [58]))
      ((spec_pzText_l k ((((((p_Rule ++ (bs [58])) ++ r1) ++ (bs [120])) ++ r2) ++ (bs [58])), p_Clues, (p_Clues.length : Int), 0)).bind fun r3 =>
       some r3)
      (none))
     (none))
    (none))
   (none))
  (none) := by kernel_rfl
theorem spec_l1Num.eq (k : Nat) (n : Int) : spec_l1Num (k + 1) n =
  cond (decide (n < 10))
  (some (ofBytes [(w8 (w64 (48 + n)))]))
  ((spec_l1Num k (w64 (n.tdiv 10))).bind fun r1 =>
   cond (fitS r1 (ofBytes [(w8 (w64 (48 + (n.tmod 10))))]))
   (some (r1 ++ (ofBytes [(w8 (w64 (48 + (n.tmod 10))))])))
   (none)) := by kernel_rfl
theorem spec_pzText_l.eq (k : Nat) (out : ByteArray) (t20 : List (Int × (Int × Int))) (t21 : Int) (t22 : Int) : spec_pzText_l (k + 1) (out, t20, t21, t22) =
  cond (decide (t22 < t21))
  (cond (inB t22 t20.length)
   (cond (decide (t22 > 0))
    (cond (fitS out (bs [44]))
     ((spec_l1Num k ((t20.getD t22.toNat default).1)).bind fun r1 =>
      cond (fitS r1 (bs [46]))
      ((spec_l1Num k ((t20.getD t22.toNat default).2.1)).bind fun r2 =>
       cond (fitS (r1 ++ (bs [46])) r2)
       (cond (fitS ((r1 ++ (bs [46])) ++ r2) (bs [46]))
        ((spec_l1Num k ((t20.getD t22.toNat default).2.2)).bind fun r3 =>
         cond (fitS (((r1 ++ (bs [46])) ++ r2) ++ (bs [46])) r3)
         (cond (fitS (out ++ (bs [44])) ((((r1 ++ (bs [46])) ++ r2) ++ (bs [46])) ++ r3))
          (spec_pzText_l k (((out ++ (bs [44])) ++ ((((r1 ++ (bs [46])) ++ r2) ++ (bs [46])) ++ r3)), t20, t21, (w64 (t22 + 1))))
          (none))
         (none))
        (none))
       (none))
      (none))
     (none))
    ((spec_l1Num k ((t20.getD t22.toNat default).1)).bind fun r4 =>
     cond (fitS r4 (bs [46]))
     ((spec_l1Num k ((t20.getD t22.toNat default).2.1)).bind fun r5 =>
      cond (fitS (r4 ++ (bs [46])) r5)
      (cond (fitS ((r4 ++ (bs [46])) ++ r5) (bs [46]))
       ((spec_l1Num k ((t20.getD t22.toNat default).2.2)).bind fun r6 =>
        cond (fitS (((r4 ++ (bs [46])) ++ r5) ++ (bs [46])) r6)
        (cond (fitS out ((((r4 ++ (bs [46])) ++ r5) ++ (bs [46])) ++ r6))
         (spec_pzText_l k ((out ++ ((((r4 ++ (bs [46])) ++ r5) ++ (bs [46])) ++ r6)), t20, t21, (w64 (t22 + 1))))
         (none))
        (none))
       (none))
      (none))
     (none)))
   (none))
  (some out) := by kernel_rfl
theorem impl_ParsePuzzle.eq (k : Nat) (s : ByteArray) : impl_ParsePuzzle (k + 1) s =
  (strings_Split k (s, (bs [58]))).bind fun r1 =>
  cond ((r1.length : Int) != 3)
  (some ((ByteArray.empty, 0, 0, []), false))
  (cond (inB 1 r1.length)
   ((impl_numbers k ((r1.getD 1 default), (bs [120]), 2, 9)).bind fun r2 =>
    cond (inB 0 r1.length)
    (cond (inB 0 r2.1.length)
     (cond (inB 1 r2.1.length)
      (cond (inB 2 r1.length)
       ((strings_FieldsFunc k ((r1.getD 2 default), ())).bind fun r3 =>
        (impl_ParsePuzzle_l k (s, (ByteArray.empty, 0, 0, []), r2.2, ((r1.getD 0 default), (r2.1.getD 0 default), (r2.1.getD 1 default), []), r3, (r3.length : Int), 0)).bind fun r4 =>
        cond (!r4.2.2.1)
        (some ((ByteArray.empty, 0, 0, []), false))
        ((impl_IsPuzzle k r4.2.2.2).bind fun r5 =>
         cond (!r5)
         (some ((ByteArray.empty, 0, 0, []), false))
         ((impl_puzzleText k r4.2.2.2).bind fun r6 =>
          cond (!(strEq r6 r4.1))
          (some ((ByteArray.empty, 0, 0, []), false))
          (some (r4.2.2.2, true)))))
       (none))
      (none))
     (none))
    (none))
   (none)) := by kernel_rfl
theorem strings_Split.eq (k : Nat) (d : ByteArray × ByteArray) : strings_Split (k + 1) d = (fun d => strSplit1 d.1 d.2) d := by kernel_rfl
theorem impl_numbers.eq (k : Nat) (s : ByteArray) (by_ : ByteArray) (many : Int) (most : Int) : impl_numbers (k + 1) (s, by_, many, most) =
  (strings_Split k (s, by_)).bind fun r1 =>
  (impl_numbers_l k (many, most, [], r1, (r1.length : Int), 0)).bind fun r2 =>
  r2.elim
  (fun r3 => some r3)
  (fun r4 => cond ((r4.2.length : Int) != r4.1)
   (cond (((decide ((0 : Int) ≤ r4.1)) && (decide (r4.1 ≤ r4.1))) && (fits r4.1.toNat 8))
    (some ((List.replicate r4.1.toNat 0), false))
    (none))
   (some (r4.2, true))) := by kernel_rfl
theorem impl_numbers_l.eq (k : Nat) (many : Int) (most : Int) (out : List Int) (t18 : List ByteArray) (t19 : Int) (t20 : Int) : impl_numbers_l (k + 1) (many, most, out, t18, t19, t20) =
  cond (decide (t20 < t19))
  (cond (inB t20 t18.length)
   ((impl_number k ((t18.getD t20.toNat default), most)).bind fun r1 =>
    cond (!r1.2)
    (cond (((decide ((0 : Int) ≤ many)) && (decide (many ≤ many))) && (fits many.toNat 8))
     (some (.inl ((List.replicate many.toNat 0), false)))
     (none))
    (cond (fits (out.length + 1) 8)
     (impl_numbers_l k (many, most, (out ++ [r1.1]), t18, t19, (w64 (t20 + 1))))
     (none)))
   (none))
  (some (.inr (many, out))) := by kernel_rfl
theorem impl_number.eq (k : Nat) (d : ByteArray × Int) : impl_number (k + 1) d = (fun d => numB d.1 d.2) d := by kernel_rfl
theorem strings_FieldsFunc.eq (k : Nat) (s : ByteArray) : strings_FieldsFunc (k + 1) (s, ()) =
  cond (fits 32 16)
  ((strings_FieldsFunc_l k (s, (), [], (-1), (s, 0))).bind fun r1 =>
   cond (decide (r1.2.2 ≥ 0))
   (cond (fits (r1.2.1.length + 1) 16)
    (cond (((decide ((0 : Int) ≤ ((r1.2.1 ++ [(r1.2.2, (r1.1.size : Int))]).length : Int))) && (decide (((r1.2.1 ++ [(r1.2.2, (r1.1.size : Int))]).length : Int) ≤ ((r1.2.1 ++ [(r1.2.2, (r1.1.size : Int))]).length : Int)))) && (fits ((r1.2.1 ++ [(r1.2.2, (r1.1.size : Int))]).length : Int).toNat 16))
     ((strings_FieldsFunc_l_2 k (r1.1, (List.replicate ((r1.2.1 ++ [(r1.2.2, (r1.1.size : Int))]).length : Int).toNat ByteArray.empty), (r1.2.1 ++ [(r1.2.2, (r1.1.size : Int))]), ((r1.2.1 ++ [(r1.2.2, (r1.1.size : Int))]).length : Int), 0)).bind fun r2 =>
      some r2)
     (none))
    (none))
   (cond (((decide ((0 : Int) ≤ (r1.2.1.length : Int))) && (decide ((r1.2.1.length : Int) ≤ (r1.2.1.length : Int)))) && (fits (r1.2.1.length : Int).toNat 16))
    ((strings_FieldsFunc_l_2 k (r1.1, (List.replicate (r1.2.1.length : Int).toNat ByteArray.empty), r1.2.1, (r1.2.1.length : Int), 0)).bind fun r3 =>
     some r3)
    (none)))
  (none) := by kernel_rfl
theorem strings_FieldsFunc_l.eq (k : Nat) (s : ByteArray) (spans : List (Int × Int)) (start : Int) (t14s : ByteArray) (t14i : Nat) : strings_FieldsFunc_l (k + 1) (s, (), spans, start, (t14s, t14i)) =
  cond (decide (t14i < t14s.size))
  ((impl_ParsePuzzle_1 k (runeAt t14s t14i)).bind fun r1 =>
   cond r1
   (cond (decide (start ≥ 0))
    (cond (fits (spans.length + 1) 16)
     (strings_FieldsFunc_l k (s, (), (spans ++ [(start, (t14i : Int))]), (xorI .i64 (-1) start), (t14s, (runeEnd t14s t14i))))
     (none))
    (strings_FieldsFunc_l k (s, (), spans, start, (t14s, (runeEnd t14s t14i)))))
   (cond (decide (start < 0))
    (strings_FieldsFunc_l k (s, (), spans, (t14i : Int), (t14s, (runeEnd t14s t14i))))
    (strings_FieldsFunc_l k (s, (), spans, start, (t14s, (runeEnd t14s t14i))))))
  (some (s, spans, start)) := by kernel_rfl
theorem impl_ParsePuzzle_1.eq (k : Nat) (r : Int) : impl_ParsePuzzle_1 (k + 1) r =
  some (r == 44) := by kernel_rfl
theorem strings_FieldsFunc_l_2.eq (k : Nat) (s : ByteArray) (a : List ByteArray) (t47 : List (Int × Int)) (t48 : Int) (t49 : Int) : strings_FieldsFunc_l_2 (k + 1) (s, a, t47, t48, t49) =
  cond (decide (t49 < t48))
  (cond (inB t49 t47.length)
   (cond (((decide ((0 : Int) ≤ (t47.getD t49.toNat default).2)) && (decide ((t47.getD t49.toNat default).2 ≤ (s.size : Int)))) && ((decide ((0 : Int) ≤ (t47.getD t49.toNat default).1)) && (decide ((t47.getD t49.toNat default).1 ≤ (t47.getD t49.toNat default).2))))
    (cond (inB t49 a.length)
     (strings_FieldsFunc_l_2 k (s, (a.set t49.toNat (s.extract ((t47.getD t49.toNat default).1.toNat) ((t47.getD t49.toNat default).2.toNat))), t47, t48, (w64 (t49 + 1))))
     (none))
    (none))
   (none))
  (some a) := by kernel_rfl
theorem impl_ParsePuzzle_l.eq (k : Nat) (s : ByteArray) (t2_Rule : ByteArray) (t2_Width : Int) (t2_Height : Int) (t2_Clues : List (Int × (Int × Int))) (ok : Bool) (p_Rule : ByteArray) (p_Width : Int) (p_Height : Int) (p_Clues : List (Int × (Int × Int))) (t38 : List ByteArray) (t39 : Int) (t40 : Int) : impl_ParsePuzzle_l (k + 1) (s, (t2_Rule, t2_Width, t2_Height, t2_Clues), ok, (p_Rule, p_Width, p_Height, p_Clues), t38, t39, t40) =
  cond (decide (t40 < t39))
  (cond (inB t40 t38.length)
   ((impl_numbers k ((t38.getD t40.toNat default), (bs [46]), 3, 100)).bind fun r1 =>
    cond (inB 0 r1.1.length)
    (cond (inB 1 r1.1.length)
     (cond (inB 2 r1.1.length)
      (cond (fits (p_Clues.length + 1) 24)
       (cond ok
        (impl_ParsePuzzle_l k (s, (t2_Rule, t2_Width, t2_Height, t2_Clues), r1.2, (p_Rule, p_Width, p_Height, (p_Clues ++ [((r1.1.getD 0 default), ((r1.1.getD 1 default), (r1.1.getD 2 default)))])), t38, t39, (w64 (t40 + 1))))
        (impl_ParsePuzzle_l k (s, (t2_Rule, t2_Width, t2_Height, t2_Clues), false, (p_Rule, p_Width, p_Height, (p_Clues ++ [((r1.1.getD 0 default), ((r1.1.getD 1 default), (r1.1.getD 2 default)))])), t38, t39, (w64 (t40 + 1)))))
       (none))
      (none))
     (none))
    (none))
   (none))
  (some (s, (t2_Rule, t2_Width, t2_Height, t2_Clues), ok, (p_Rule, p_Width, p_Height, p_Clues))) := by kernel_rfl
theorem impl_IsPuzzle.eq (k : Nat) (p_Rule : ByteArray) (p_Width : Int) (p_Height : Int) (p_Clues : List (Int × (Int × Int))) : impl_IsPuzzle (k + 1) (p_Rule, p_Width, p_Height, p_Clues) =
  (impl_CountBoards k (p_Rule, p_Width, p_Height)).bind fun r1 =>
  cond (!r1.2)
  (some false)
  (cond (decide ((p_Clues.length : Int) > 6))
   (some false)
   ((slices_ContainsFunc k (p_Clues, (p_Rule, p_Width, p_Height, ()))).bind fun r2 =>
    some (!r2))) := by kernel_rfl
theorem impl_CountBoards.eq (k : Nat) (rule : ByteArray) (width : Int) (height : Int) : impl_CountBoards (k + 1) (rule, width, height) =
  (impl_isHidden k (rule, width, height)).bind fun r1 =>
  cond (!r1)
  (some (0, false))
  ((impl_boards k ((rule.size : Int), (w64 (width * height)), 300)).bind fun r2 =>
   cond (decide (r2 > 300))
   (some (0, false))
   (some (r2, true))) := by kernel_rfl
theorem impl_isHidden.eq (k : Nat) (rule : ByteArray) (width : Int) (height : Int) : impl_isHidden (k + 1) (rule, width, height) =
  (impl_IsRule k rule).bind fun r1 =>
  cond r1
  ((impl_isSize k (width, height)).bind fun r2 =>
   cond r2
   (some (decide ((w64 (width * height)) ≤ 9)))
   (some false))
  (some false) := by kernel_rfl
theorem impl_IsRule.eq (k : Nat) (rule : ByteArray) : impl_IsRule (k + 1) rule =
  (impl_within k ((rule.size : Int), 1, 6)).bind fun r1 =>
  cond r1
  ((strings_Trim k (rule, (bs [76, 82, 78, 85]))).bind fun r2 =>
   some (strEq r2 ByteArray.empty))
  (some false) := by kernel_rfl
theorem impl_within.eq (k : Nat) (n : Int) (low : Int) (high : Int) : impl_within (k + 1) (n, low, high) =
  cond (decide (low ≤ n))
  (some (decide (n ≤ high)))
  (some false) := by kernel_rfl
theorem strings_Trim.eq (k : Nat) (d : ByteArray × ByteArray) : strings_Trim (k + 1) d = (fun d => strTrim d.1 d.2) d := by kernel_rfl
theorem impl_isSize.eq (k : Nat) (width : Int) (height : Int) : impl_isSize (k + 1) (width, height) =
  (impl_within k (width, 1, 9)).bind fun r1 =>
  cond r1
  ((impl_within k (height, 1, 9)).bind fun r2 =>
   some r2)
  (some false) := by kernel_rfl
theorem impl_boards.eq (k : Nat) (colours : Int) (cells : Int) (most : Int) : impl_boards (k + 1) (colours, cells, most) =
  (impl_boards_l k (colours, most, 1, cells, 0)).bind fun r1 =>
  some r1 := by kernel_rfl
theorem impl_boards_l.eq (k : Nat) (colours : Int) (most : Int) (all : Int) (t8 : Int) (t9 : Int) : impl_boards_l (k + 1) (colours, most, all, t8, t9) =
  cond (decide (t9 < t8))
  (impl_boards_l k (colours, most, (if (w64 (most + 1)) < (w64 (all * colours)) then (w64 (most + 1)) else (w64 (all * colours))), t8, (w64 (t9 + 1))))
  (some all) := by kernel_rfl
theorem slices_ContainsFunc.eq (k : Nat) (s : List (Int × (Int × Int))) (f_0 : ByteArray) (f_01 : Int) (f_02 : Int) : slices_ContainsFunc (k + 1) (s, (f_0, f_01, f_02, ())) =
  (slices_IndexFunc k (s, (f_0, f_01, f_02, ()))).bind fun r1 =>
  some (decide (r1 ≥ 0)) := by kernel_rfl
theorem slices_IndexFunc.eq (k : Nat) (s : List (Int × (Int × Int))) (f_0 : ByteArray) (f_01 : Int) (f_02 : Int) : slices_IndexFunc (k + 1) (s, (f_0, f_01, f_02, ())) =
  (slices_IndexFunc_l k (s, (f_0, f_01, f_02, ()), (s.length : Int), 0)).bind fun r1 =>
  r1.elim
  (fun r2 => some r2)
  (fun r3 => some (-1)) := by kernel_rfl
theorem slices_IndexFunc_l.eq (k : Nat) (s : List (Int × (Int × Int))) (f_0 : ByteArray) (f_01 : Int) (f_02 : Int) (t7 : Int) (t8 : Int) : slices_IndexFunc_l (k + 1) (s, (f_0, f_01, f_02, ()), t7, t8) =
  cond (decide (t8 < t7))
  (cond (inB t8 s.length)
   ((impl_IsPuzzle_1 k ((s.getD t8.toNat default), (f_0, f_01, f_02, s))).bind fun r1 =>
    cond r1
    (some (.inl t8))
    (slices_IndexFunc_l k (s, (f_0, f_01, f_02, ()), t7, (w64 (t8 + 1)))))
   (none))
  (some (.inr ())) := by kernel_rfl
theorem impl_IsPuzzle_1.eq (k : Nat) (c_Kind : Int) (c_A : Int) (c_B : Int) (t1_0 : ByteArray) (t1_1 : Int) (t1_2 : Int) (t1_3 : List (Int × (Int × Int))) : impl_IsPuzzle_1 (k + 1) ((c_Kind, c_A, c_B), (t1_0, t1_1, t1_2, t1_3)) =
  (impl_IsClue k (t1_0, (w64 (t1_1 * t1_2)), (c_Kind, c_A, c_B))).bind fun r1 =>
  some (!r1) := by kernel_rfl
theorem impl_IsClue.eq (k : Nat) (rule : ByteArray) (cells : Int) (c_Kind : Int) (c_A : Int) (c_B : Int) : impl_IsClue (k + 1) (rule, cells, (c_Kind, c_A, c_B)) =
  (impl_IsRule k rule).bind fun r1 =>
  cond (!r1)
  (some false)
  ((impl_within k (cells, 1, 9)).bind fun r2 =>
   cond (!r2)
   (some false)
   ((impl_within k (c_A, 0, 50)).bind fun r3 =>
    cond (c_Kind == 0)
    ((impl_within k (c_A, 0, (w64 (cells - 1)))).bind fun r4 =>
     cond r4
     ((impl_within k (c_B, 0, (w64 ((rule.size : Int) - 1)))).bind fun r5 =>
      some r5)
     (some false))
    (cond (c_Kind == 1)
     (cond r3
      ((impl_within k (c_B, 0, (w64 (cells - 1)))).bind fun r6 =>
       some r6)
      (some false))
     (cond (c_Kind == 2)
      (cond r3
       ((impl_isWay k c_B).bind fun r7 =>
        some r7)
       (some false))
      (cond (c_Kind == 3)
       (cond r3
        ((impl_within k (c_B, 0, cells)).bind fun r8 =>
         some r8)
        (some false))
       (cond (c_Kind == 4)
        ((impl_within k (c_A, 0, 100)).bind fun r9 =>
         cond r9
         (some (c_B == 0))
         (some false))
        (some false))))))) := by kernel_rfl
theorem impl_isWay.eq (k : Nat) (way : Int) : impl_isWay (k + 1) way =
  (impl_within k (way, 0, 3)).bind fun r1 =>
  some r1 := by kernel_rfl
theorem impl_puzzleText.eq (k : Nat) (p_Rule : ByteArray) (p_Width : Int) (p_Height : Int) (p_Clues : List (Int × (Int × Int))) : impl_puzzleText (k + 1) (p_Rule, p_Width, p_Height, p_Clues) =
  (impl_puzzleText_l k ((p_Rule, p_Width, p_Height, p_Clues), [], (), (p_Clues.length : Int), 0)).bind fun r1 =>
  cond (fitS r1.1.1 (bs [58]))
  ((strconv_Itoa k r1.1.2.1).bind fun r2 =>
   cond (fitS (r1.1.1 ++ (bs [58])) r2)
   (cond (fitS ((r1.1.1 ++ (bs [58])) ++ r2) (bs [120]))
    ((strconv_Itoa k r1.1.2.2.1).bind fun r3 =>
     cond (fitS (((r1.1.1 ++ (bs [58])) ++ r2) ++ (bs [120])) r3)
     (cond (fitS ((((r1.1.1 ++ (bs [58])) ++ r2) ++ (bs [120])) ++ r3) (bs [58]))
      ((strings_Join k (r1.2, (bs [44]))).bind fun r4 =>
       cond (fitS (((((r1.1.1 ++ (bs [58])) ++ r2) ++ (bs [120])) ++ r3) ++ (bs [58])) r4)
       (some ((((((r1.1.1 ++ (bs [58])) ++ r2) ++ (bs [120])) ++ r3) ++ (bs [58])) ++ r4))
       (none))
      (none))
     (none))
    (none))
   (none))
  (none) := by kernel_rfl
theorem impl_puzzleText_l.eq (k : Nat) (p_Rule : ByteArray) (p_Width : Int) (p_Height : Int) (p_Clues : List (Int × (Int × Int))) (parts : List ByteArray) (t9 : Int) (t10 : Int) : impl_puzzleText_l (k + 1) ((p_Rule, p_Width, p_Height, p_Clues), parts, (), t9, t10) =
  cond (decide (t10 < t9))
  (cond (inB t10 p_Clues.length)
   ((impl_listText k ((bs [46]), [(p_Clues.getD t10.toNat default).1, (p_Clues.getD t10.toNat default).2.1, (p_Clues.getD t10.toNat default).2.2])).bind fun r1 =>
    cond (fits (parts.length + 1) 16)
    (impl_puzzleText_l k ((p_Rule, p_Width, p_Height, p_Clues), (parts ++ [r1]), (), t9, (w64 (t10 + 1))))
    (none))
   (none))
  (some ((p_Rule, p_Width, p_Height, p_Clues), parts)) := by kernel_rfl
theorem impl_listText.eq (k : Nat) (by_ : ByteArray) (list : List Int) : impl_listText (k + 1) (by_, list) =
  (impl_listText_l k (by_, [], list, (list.length : Int), 0)).bind fun r1 =>
  (strings_Join k (r1.2, r1.1)).bind fun r2 =>
  some r2 := by kernel_rfl
theorem impl_listText_l.eq (k : Nat) (by_ : ByteArray) (parts : List ByteArray) (t9 : List Int) (t10 : Int) (t11 : Int) : impl_listText_l (k + 1) (by_, parts, t9, t10, t11) =
  cond (decide (t11 < t10))
  (cond (inB t11 t9.length)
   ((strconv_Itoa k (t9.getD t11.toNat default)).bind fun r1 =>
    cond (fits (parts.length + 1) 16)
    (impl_listText_l k (by_, (parts ++ [r1]), t9, t10, (w64 (t11 + 1))))
    (none))
   (none))
  (some (by_, parts)) := by kernel_rfl
theorem strconv_Itoa.eq (k : Nat) (d : Int) : strconv_Itoa (k + 1) d = (fun d => itoaAll d) d := by kernel_rfl
theorem strings_Join.eq (k : Nat) (d : List ByteArray × ByteArray) : strings_Join (k + 1) d = (fun d => joinS d.1 d.2) d := by kernel_rfl
theorem laws_eqPuzzle.eq (k : Nat) (a_Rule : ByteArray) (a_Width : Int) (a_Height : Int) (a_Clues : List (Int × (Int × Int))) (b_Rule : ByteArray) (b_Width : Int) (b_Height : Int) (b_Clues : List (Int × (Int × Int))) : laws_eqPuzzle (k + 1) ((a_Rule, a_Width, a_Height, a_Clues), (b_Rule, b_Width, b_Height, b_Clues)) =
  cond (!(strEq a_Rule b_Rule))
  (some false)
  (cond (a_Width != b_Width)
   (some false)
   (cond (a_Height != b_Height)
    (some false)
    ((laws_eqClueS k (a_Clues, b_Clues)).bind fun r1 =>
     cond (!r1)
     (some false)
     (some true)))) := by kernel_rfl
theorem laws_eqClueS.eq (k : Nat) (a : List (Int × (Int × Int))) (b : List (Int × (Int × Int))) : laws_eqClueS (k + 1) (a, b) =
  cond ((a.length : Int) != (b.length : Int))
  (some false)
  ((laws_eqClueS_l k (a, b, 0)).bind fun r1 =>
   r1.elim
   (fun r2 => some r2)
   (fun r3 => some true)) := by kernel_rfl
theorem laws_eqClueS_l.eq (k : Nat) (a : List (Int × (Int × Int))) (b : List (Int × (Int × Int))) (i : Int) : laws_eqClueS_l (k + 1) (a, b, i) =
  cond (decide (i < (a.length : Int)))
  (cond (inB i a.length)
   (cond (inB i b.length)
    ((laws_eqClue k ((a.getD i.toNat default), (b.getD i.toNat default))).bind fun r1 =>
     cond (!r1)
     (some (.inl false))
     (laws_eqClueS_l k (a, b, (w64 (i + 1)))))
    (none))
   (none))
  (some (.inr ())) := by kernel_rfl
theorem laws_eqClue.eq (k : Nat) (a_Kind : Int) (a_A : Int) (a_B : Int) (b_Kind : Int) (b_A : Int) (b_B : Int) : laws_eqClue (k + 1) ((a_Kind, a_A, a_B), (b_Kind, b_A, b_B)) =
  cond (a_Kind != b_Kind)
  (some false)
  (cond (a_A != b_A)
   (some false)
   (cond (a_B != b_B)
    (some false)
    (some true))) := by kernel_rfl
theorem laws_markPuzzle.eq (k : Nat) (a_Rule : ByteArray) (a_Width : Int) (a_Height : Int) (a_Clues : List (Int × (Int × Int))) (k_ : Int) : laws_markPuzzle (k + 1) ((a_Rule, a_Width, a_Height, a_Clues), k_) =
  (laws_markClueS k (a_Clues, k_)).bind fun r1 =>
  some (r1.1, (a_Rule, a_Width, a_Height, r1.2)) := by kernel_rfl
theorem laws_markClueS.eq (k : Nat) (a : List (Int × (Int × Int))) (k_ : Int) : laws_markClueS (k + 1) (a, k_) =
  (laws_markClueS_l k (a, k_, 0, ())).bind fun r1 =>
  some r1 := by kernel_rfl
theorem laws_markClueS_l.eq (k : Nat) (a : List (Int × (Int × Int))) (k_ : Int) (i : Int) : laws_markClueS_l (k + 1) (a, k_, i, ()) =
  cond (decide (i < (a.length : Int)))
  (cond (inB i a.length)
   (cond (inB i ((a.set i.toNat (k_, (a.getD i.toNat default).2)).length))
    (cond (inB i (((a.set i.toNat (k_, (a.getD i.toNat default).2)).set i.toNat (((a.set i.toNat (k_, (a.getD i.toNat default).2)).getD i.toNat default).1, ((w64 (k_ + 1)), ((a.set i.toNat (k_, (a.getD i.toNat default).2)).getD i.toNat default).2.2))).length))
     (laws_markClueS_l k ((((a.set i.toNat (k_, (a.getD i.toNat default).2)).set i.toNat (((a.set i.toNat (k_, (a.getD i.toNat default).2)).getD i.toNat default).1, ((w64 (k_ + 1)), ((a.set i.toNat (k_, (a.getD i.toNat default).2)).getD i.toNat default).2.2))).set i.toNat ((((a.set i.toNat (k_, (a.getD i.toNat default).2)).set i.toNat (((a.set i.toNat (k_, (a.getD i.toNat default).2)).getD i.toNat default).1, ((w64 (k_ + 1)), ((a.set i.toNat (k_, (a.getD i.toNat default).2)).getD i.toNat default).2.2))).getD i.toNat default).1, ((((a.set i.toNat (k_, (a.getD i.toNat default).2)).set i.toNat (((a.set i.toNat (k_, (a.getD i.toNat default).2)).getD i.toNat default).1, ((w64 (k_ + 1)), ((a.set i.toNat (k_, (a.getD i.toNat default).2)).getD i.toNat default).2.2))).getD i.toNat default).2.1, (w64 ((w64 (k_ + 1)) + 1))))), (w64 ((w64 ((w64 (k_ + 1)) + 1)) + 1)), (w64 (i + 1)), ()))
     (none))
    (none))
   (none))
  (some (k_, a)) := by kernel_rfl
theorem laws_heldPuzzle.eq (k : Nat) (a_Rule : ByteArray) (a_Width : Int) (a_Height : Int) (a_Clues : List (Int × (Int × Int))) (k_ : Int) : laws_heldPuzzle (k + 1) ((a_Rule, a_Width, a_Height, a_Clues), k_) =
  (laws_heldClueS k (a_Clues, k_)).bind fun r1 =>
  cond (decide (r1 < 0))
  (some (-1))
  (some r1) := by kernel_rfl
theorem laws_heldClueS.eq (k : Nat) (a : List (Int × (Int × Int))) (k_ : Int) : laws_heldClueS (k + 1) (a, k_) =
  (laws_heldClueS_l k (a, k_, 0)).bind fun r1 =>
  r1.elim
  (fun r2 => some r2)
  (fun r3 => some r3) := by kernel_rfl
theorem laws_heldClueS_l.eq (k : Nat) (a : List (Int × (Int × Int))) (k_ : Int) (i : Int) : laws_heldClueS_l (k + 1) (a, k_, i) =
  cond (decide (i < (a.length : Int)))
  (cond (inB i a.length)
   (cond ((a.getD i.toNat default).1 != k_)
    (some (.inl (-1)))
    (cond (inB i a.length)
     (cond ((a.getD i.toNat default).2.1 != (w64 (k_ + 1)))
      (some (.inl (-1)))
      (cond (inB i a.length)
       (cond ((a.getD i.toNat default).2.2 != (w64 ((w64 (k_ + 1)) + 1)))
        (some (.inl (-1)))
        (laws_heldClueS_l k (a, (w64 ((w64 ((w64 (k_ + 1)) + 1)) + 1)), (w64 (i + 1)))))
       (none)))
     (none)))
   (none))
  (some (.inr k_)) := by kernel_rfl
end Go.Proofs.YtaookbfcncfkbaaGreatDoorS
