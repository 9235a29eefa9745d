/- What each function computes (printed by wip/sim/gen.py). -/
import Derived.Test.YtplamonjnlgomaaGreatDoorTab
namespace Go.Proofs.YtplamonjnlgomaaGreatDoorS
open Go Go.Proofs
set_option maxRecDepth 100000
set_option linter.unusedVariables false
theorem slices_IndexFunc_4_l.eq (k : Nat) (s : List ByteArray) (f_0 : ByteArray) (f_01 : Int) (f_02 : Int) (f_03 : List (Int × (Int × Int))) (f_1 : List (Int × (Int × Int))) (t7 : Int) (t8 : Int) : slices_IndexFunc_4_l (k + 1) (s, ((f_0, f_01, f_02, f_03), f_1), t7, t8) =
  cond (decide (t8 < t7))
  (cond (inB t8 s.length)
   ((impl_Puzzle_with_1_2 k ((s.getD t8.toNat default), (f_0, f_01, f_02, f_03), f_1)).bind fun r1 =>
    cond r1
    (some (.inl t8))
    (slices_IndexFunc_4_l k (s, ((f_0, f_01, f_02, f_03), f_1), t7, (w64 (t8 + 1)))))
   (none))
  (some (.inr ())) := by kernel_rfl
theorem impl_Puzzle_with_1_2.eq (k : Nat) (cells : ByteArray) (t1_0 : ByteArray) (t1_1 : Int) (t1_2 : Int) (t1_3 : List (Int × (Int × Int))) (t2_0 : List (Int × (Int × Int))) : impl_Puzzle_with_1_2 (k + 1) (cells, (t1_0, t1_1, t1_2, t1_3), t2_0) =
  (slices_ContainsFunc_2 k (t2_0, (t1_0, t1_1, t1_2, cells, 0, 0, 0))).bind fun r1 =>
  some r1 := by kernel_rfl
theorem slices_DeleteFunc_2_l.eq (k : Nat) (s : List ByteArray) (del_0 : ByteArray) (del_01 : Int) (del_02 : Int) (del_03 : List (Int × (Int × Int))) (del_1 : List (Int × (Int × Int))) (i : Int) (j : Int) : slices_DeleteFunc_2_l (k + 1) (s, ((del_0, del_01, del_02, del_03), del_1), i, j) =
  cond (decide (j < (s.length : Int)))
  (cond (inB j s.length)
   ((impl_Puzzle_with_1_2 k ((s.getD j.toNat default), (del_0, del_01, del_02, del_03), del_1)).bind fun r1 =>
    cond (!r1)
    (cond (inB i s.length)
     (slices_DeleteFunc_2_l k ((s.set i.toNat (s.getD j.toNat default)), ((del_0, del_01, del_02, del_03), del_1), (w64 (i + 1)), (w64 (j + 1))))
     (none))
    (slices_DeleteFunc_2_l k (s, ((del_0, del_01, del_02, del_03), del_1), i, (w64 (j + 1)))))
   (none))
  (some (s, i)) := by kernel_rfl
theorem spec_NeedlessClues.eq (k : Nat) (p_Rule : ByteArray) (p_Width : Int) (p_Height : Int) (p_Clues : List (Int × (Int × Int))) : spec_NeedlessClues (k + 1) (p_Rule, p_Width, p_Height, p_Clues) =
  (spec_pzGood k (p_Rule, p_Width, p_Height, p_Clues)).bind fun r1 =>
  cond (!r1)
  (some ([], false))
  ((spec_pzAll k (p_Rule, p_Width, p_Height, p_Clues)).bind fun r2 =>
   (spec_NeedlessClues_l k ((p_Rule, p_Width, p_Height, p_Clues), [], (r2.length : Int), (p_Clues.length : Int), 0)).bind fun r3 =>
   some (r3, true)) := by kernel_rfl
theorem spec_NeedlessClues_l.eq (k : Nat) (p_Rule : ByteArray) (p_Width : Int) (p_Height : Int) (p_Clues : List (Int × (Int × Int))) (out : List Int) (count : Int) (t15 : Int) (t16 : Int) : spec_NeedlessClues_l (k + 1) ((p_Rule, p_Width, p_Height, p_Clues), out, count, t15, t16) =
  cond (decide (t16 < t15))
  ((spec_pzWithout k (p_Clues, t16)).bind fun r1 =>
   (spec_pzWith_2 k ((p_Rule, p_Width, p_Height, p_Clues), r1)).bind fun r2 =>
   (spec_pzAll k r2).bind fun r3 =>
   cond ((r3.length : Int) == count)
   (cond (fits (out.length + 1) 8)
    (spec_NeedlessClues_l k ((p_Rule, p_Width, p_Height, p_Clues), (out ++ [t16]), count, t15, (w64 (t16 + 1))))
    (none))
   (spec_NeedlessClues_l k ((p_Rule, p_Width, p_Height, p_Clues), out, count, t15, (w64 (t16 + 1)))))
  (some out) := by kernel_rfl
theorem spec_pzWithout.eq (k : Nat) (clues : List (Int × (Int × Int))) (k_ : Int) : spec_pzWithout (k + 1) (clues, k_) =
  cond ((decide ((0 : Int) ≤ k_)) && (decide (k_ ≤ (clues.length : Int))))
  (cond (fits (0 + (clues.take k_.toNat).length) 24)
   (cond ((decide ((0 : Int) ≤ (w64 (k_ + 1)))) && (decide ((w64 (k_ + 1)) ≤ (clues.length : Int))))
    (cond (fits (([] ++ (clues.take k_.toNat)).length + ((clues.drop ((w64 (k_ + 1)).toNat)).take (clues.length - (w64 (k_ + 1)).toNat)).length) 24)
     (some (([] ++ (clues.take k_.toNat)) ++ ((clues.drop ((w64 (k_ + 1)).toNat)).take (clues.length - (w64 (k_ + 1)).toNat))))
     (none))
    (none))
   (none))
  (none) := by kernel_rfl
theorem spec_pzWith_2.eq (k : Nat) (p_Rule : ByteArray) (p_Width : Int) (p_Height : Int) (p_Clues : List (Int × (Int × Int))) (clues : List (Int × (Int × Int))) : spec_pzWith_2 (k + 1) ((p_Rule, p_Width, p_Height, p_Clues), clues) =
  some (p_Rule, p_Width, p_Height, clues) := by kernel_rfl
theorem impl_LeftByClues.eq (k : Nat) (p_Rule : ByteArray) (p_Width : Int) (p_Height : Int) (p_Clues : List (Int × (Int × Int))) : impl_LeftByClues (k + 1) (p_Rule, p_Width, p_Height, p_Clues) =
  (impl_IsPuzzle k (p_Rule, p_Width, p_Height, p_Clues)).bind fun r1 =>
  cond (!r1)
  (some ([], false))
  ((impl_LeftByClues_l k ((p_Rule, p_Width, p_Height, p_Clues), [], (w64 ((p_Clues.length : Int) + 1)), 0)).bind fun r2 =>
   some (r2, true)) := by kernel_rfl
theorem impl_LeftByClues_l.eq (k : Nat) (p_Rule : ByteArray) (p_Width : Int) (p_Height : Int) (p_Clues : List (Int × (Int × Int))) (out : List Int) (t13 : Int) (t14 : Int) : impl_LeftByClues_l (k + 1) ((p_Rule, p_Width, p_Height, p_Clues), out, t13, t14) =
  cond (decide (t14 < t13))
  (cond ((decide ((0 : Int) ≤ t14)) && (decide (t14 ≤ (p_Clues.length : Int))))
   ((impl_Puzzle_with_2 k ((p_Rule, p_Width, p_Height, p_Clues), (p_Clues.take t14.toNat))).bind fun r1 =>
    cond (fits (out.length + 1) 8)
    (impl_LeftByClues_l k ((p_Rule, p_Width, p_Height, p_Clues), (out ++ [(r1.length : Int)]), t13, (w64 (t14 + 1))))
    (none))
   (none))
  (some out) := by kernel_rfl
theorem spec_LeftByClues.eq (k : Nat) (p_Rule : ByteArray) (p_Width : Int) (p_Height : Int) (p_Clues : List (Int × (Int × Int))) : spec_LeftByClues (k + 1) (p_Rule, p_Width, p_Height, p_Clues) =
  (spec_pzGood k (p_Rule, p_Width, p_Height, p_Clues)).bind fun r1 =>
  cond (!r1)
  (some ([], false))
  ((spec_LeftByClues_l k ((p_Rule, p_Width, p_Height, p_Clues), [], 0)).bind fun r2 =>
   some (r2, true)) := by kernel_rfl
theorem spec_LeftByClues_l.eq (k : Nat) (p_Rule : ByteArray) (p_Width : Int) (p_Height : Int) (p_Clues : List (Int × (Int × Int))) (out : List Int) (k_ : Int) : spec_LeftByClues_l (k + 1) ((p_Rule, p_Width, p_Height, p_Clues), out, k_) =
  cond (decide (k_ ≤ (p_Clues.length : Int)))
  (cond ((decide ((0 : Int) ≤ k_)) && (decide (k_ ≤ (p_Clues.length : Int))))
   ((spec_pzWith_2 k ((p_Rule, p_Width, p_Height, p_Clues), (p_Clues.take k_.toNat))).bind fun r1 =>
    (spec_pzAll k r1).bind fun r2 =>
    cond (fits (out.length + 1) 8)
    (spec_LeftByClues_l k ((p_Rule, p_Width, p_Height, p_Clues), (out ++ [(r2.length : Int)]), (w64 (k_ + 1))))
    (none))
   (none))
  (some out) := by kernel_rfl
theorem impl_BestClue.eq (k : Nat) (p_Rule : ByteArray) (p_Width : Int) (p_Height : Int) (p_Clues : List (Int × (Int × Int))) : impl_BestClue (k + 1) (p_Rule, p_Width, p_Height, p_Clues) =
  (impl_IsPuzzle k (p_Rule, p_Width, p_Height, p_Clues)).bind fun r1 =>
  cond (!r1)
  (some (0, false))
  (cond ((p_Clues.length : Int) == 0)
   (some (0, false))
   ((impl_BestClue_l k ((p_Rule, p_Width, p_Height, p_Clues), 0, (-1), (p_Clues.length : Int), 0)).bind fun r2 =>
    some (r2, true))) := by kernel_rfl
theorem impl_BestClue_l.eq (k : Nat) (p_Rule : ByteArray) (p_Width : Int) (p_Height : Int) (p_Clues : List (Int × (Int × Int))) (best : Int) (fewest : Int) (t19 : Int) (t20 : Int) : impl_BestClue_l (k + 1) ((p_Rule, p_Width, p_Height, p_Clues), best, fewest, t19, t20) =
  cond (decide (t20 < t19))
  (cond (((decide ((0 : Int) ≤ (w64 (t20 + 1)))) && (decide ((w64 (t20 + 1)) ≤ (p_Clues.length : Int)))) && ((decide ((0 : Int) ≤ t20)) && (decide (t20 ≤ (w64 (t20 + 1))))))
   ((impl_Puzzle_with_2 k ((p_Rule, p_Width, p_Height, p_Clues), ((p_Clues.drop t20.toNat).take ((w64 (t20 + 1)).toNat - t20.toNat)))).bind fun r1 =>
    cond (decide (fewest < 0))
    (impl_BestClue_l k ((p_Rule, p_Width, p_Height, p_Clues), t20, (r1.length : Int), t19, (w64 (t20 + 1))))
    (cond (decide ((r1.length : Int) < fewest))
     (impl_BestClue_l k ((p_Rule, p_Width, p_Height, p_Clues), t20, (r1.length : Int), t19, (w64 (t20 + 1))))
     (impl_BestClue_l k ((p_Rule, p_Width, p_Height, p_Clues), best, fewest, t19, (w64 (t20 + 1))))))
   (none))
  (some best) := by kernel_rfl
theorem spec_BestClue.eq (k : Nat) (p_Rule : ByteArray) (p_Width : Int) (p_Height : Int) (p_Clues : List (Int × (Int × Int))) : spec_BestClue (k + 1) (p_Rule, p_Width, p_Height, p_Clues) =
  (spec_pzGood k (p_Rule, p_Width, p_Height, p_Clues)).bind fun r1 =>
  cond (!r1)
  (some (0, false))
  (cond ((p_Clues.length : Int) == 0)
   (some (0, false))
   ((spec_BestClue_l k ((p_Rule, p_Width, p_Height, p_Clues), 0, 0, (p_Clues.length : Int), 0)).bind fun r2 =>
    some (r2, true))) := by kernel_rfl
theorem spec_BestClue_l.eq (k : Nat) (p_Rule : ByteArray) (p_Width : Int) (p_Height : Int) (p_Clues : List (Int × (Int × Int))) (best : Int) (least : Int) (t19 : Int) (t20 : Int) : spec_BestClue_l (k + 1) ((p_Rule, p_Width, p_Height, p_Clues), best, least, t19, t20) =
  cond (decide (t20 < t19))
  (cond (((decide ((0 : Int) ≤ (w64 (t20 + 1)))) && (decide ((w64 (t20 + 1)) ≤ (p_Clues.length : Int)))) && ((decide ((0 : Int) ≤ t20)) && (decide (t20 ≤ (w64 (t20 + 1))))))
   ((spec_pzWith_2 k ((p_Rule, p_Width, p_Height, p_Clues), ((p_Clues.drop t20.toNat).take ((w64 (t20 + 1)).toNat - t20.toNat)))).bind fun r1 =>
    (spec_pzAll k r1).bind fun r2 =>
    cond (t20 == 0)
    (spec_BestClue_l k ((p_Rule, p_Width, p_Height, p_Clues), t20, (r2.length : Int), t19, (w64 (t20 + 1))))
    (cond (decide ((r2.length : Int) < least))
     (spec_BestClue_l k ((p_Rule, p_Width, p_Height, p_Clues), t20, (r2.length : Int), t19, (w64 (t20 + 1))))
     (spec_BestClue_l k ((p_Rule, p_Width, p_Height, p_Clues), best, least, t19, (w64 (t20 + 1))))))
   (none))
  (some best) := by kernel_rfl
theorem impl_PuzzleText.eq (k : Nat) (p_Rule : ByteArray) (p_Width : Int) (p_Height : Int) (p_Clues : List (Int × (Int × Int))) : impl_PuzzleText (k + 1) (p_Rule, p_Width, p_Height, p_Clues) =
  (impl_IsPuzzle k (p_Rule, p_Width, p_Height, p_Clues)).bind fun r1 =>
  cond (!r1)
  (some (ByteArray.empty, false))
  ((impl_puzzleText k (p_Rule, p_Width, p_Height, p_Clues)).bind fun r2 =>
   some (r2, true)) := by kernel_rfl
theorem impl_puzzleText.eq (k : Nat) (p_Rule : ByteArray) (p_Width : Int) (p_Height : Int) (p_Clues : List (Int × (Int × Int))) : impl_puzzleText (k + 1) (p_Rule, p_Width, p_Height, p_Clues) =
  (impl_puzzleText_l k ((p_Rule, p_Width, p_Height, p_Clues), [], (), (p_Clues.length : Int), 0)).bind fun r1 =>
  cond (fitS r1.1.1 (bs [58]))
  ((strconv_Itoa k r1.1.2.1).bind fun r2 =>
   cond (fitS (r1.1.1 ++ (bs [58])) r2)
   (cond (fitS ((r1.1.1 ++ (bs [58])) ++ r2) (bs [120]))
    ((strconv_Itoa k r1.1.2.2.1).bind fun r3 =>
     cond (fitS (((r1.1.1 ++ (bs [58])) ++ r2) ++ (bs [120])) r3)
     (cond (fitS ((((r1.1.1 ++ (bs [58])) ++ r2) ++ (bs [120])) ++ r3) (bs [58]))
      ((strings_Join k (r1.2, (bs [44]))).bind fun r4 =>
       cond (fitS (((((r1.1.1 ++ (bs [58])) ++ r2) ++ (bs [120])) ++ r3) ++ (bs [58])) r4)
       (some ((((((r1.1.1 ++ (bs [58])) ++ r2) ++ (bs [120])) ++ r3) ++ (bs [58])) ++ r4))
       (none))
      (none))
     (none))
    (none))
   (none))
  (none) := by kernel_rfl
theorem impl_puzzleText_l.eq (k : Nat) (p_Rule : ByteArray) (p_Width : Int) (p_Height : Int) (p_Clues : List (Int × (Int × Int))) (parts : List ByteArray) (t9 : Int) (t10 : Int) : impl_puzzleText_l (k + 1) ((p_Rule, p_Width, p_Height, p_Clues), parts, (), t9, t10) =
  cond (decide (t10 < t9))
  (cond (inB t10 p_Clues.length)
   ((impl_listText k ((bs [46]), [(p_Clues.getD t10.toNat default).1, (p_Clues.getD t10.toNat default).2.1, (p_Clues.getD t10.toNat default).2.2])).bind fun r1 =>
    cond (fits (parts.length + 1) 16)
    (impl_puzzleText_l k ((p_Rule, p_Width, p_Height, p_Clues), (parts ++ [r1]), (), t9, (w64 (t10 + 1))))
    (none))
   (none))
  (some ((p_Rule, p_Width, p_Height, p_Clues), parts)) := by kernel_rfl
theorem impl_listText.eq (k : Nat) (by_ : ByteArray) (list : List Int) : impl_listText (k + 1) (by_, list) =
  (impl_listText_l k (by_, [], list, (list.length : Int), 0)).bind fun r1 =>
  (strings_Join k (r1.2, r1.1)).bind fun r2 =>
  some r2 := by kernel_rfl
theorem impl_listText_l.eq (k : Nat) (by_ : ByteArray) (parts : List ByteArray) (t9 : List Int) (t10 : Int) (t11 : Int) : impl_listText_l (k + 1) (by_, parts, t9, t10, t11) =
  cond (decide (t11 < t10))
  (cond (inB t11 t9.length)
   ((strconv_Itoa k (t9.getD t11.toNat default)).bind fun r1 =>
    cond (fits (parts.length + 1) 16)
    (impl_listText_l k (by_, (parts ++ [r1]), t9, t10, (w64 (t11 + 1))))
    (none))
   (none))
  (some (by_, parts)) := by kernel_rfl
theorem strconv_Itoa.eq (k : Nat) (d : Int) : strconv_Itoa (k + 1) d = (fun d => itoaAll d) d := by kernel_rfl
theorem strings_Join.eq (k : Nat) (d : List ByteArray × ByteArray) : strings_Join (k + 1) d = (fun d => joinS d.1 d.2) d := by kernel_rfl
theorem spec_PuzzleText.eq (k : Nat) (p_Rule : ByteArray) (p_Width : Int) (p_Height : Int) (p_Clues : List (Int × (Int × Int))) : spec_PuzzleText (k + 1) (p_Rule, p_Width, p_Height, p_Clues) =
  (spec_pzGood k (p_Rule, p_Width, p_Height, p_Clues)).bind fun r1 =>
  cond (!r1)
  (some (ByteArray.empty, false))
  ((spec_pzText k (p_Rule, p_Width, p_Height, p_Clues)).bind fun r2 =>
   some (r2, true)) := by kernel_rfl
theorem spec_pzText.eq (k : Nat) (p_Rule : ByteArray) (p_Width : Int) (p_Height : Int) (p_Clues : List (Int × (Int × Int))) : spec_pzText (k + 1) (p_Rule, p_Width, p_Height, p_Clues) =
  cond (fitS p_Rule (bs [58]))
  ((spec_l1Num k p_Width).bind fun r1 =>
   cond (fitS (p_Rule ++ (bs [58])) r1)
   (cond (fitS ((p_Rule ++ (bs [58])) ++ r1) (bs [120]))
    ((spec_l1Num k p_Height).bind fun r2 =>
     cond (fitS (((p_Rule ++ (bs [58])) ++ r1) ++ (bs [120])) r2)
     (cond (fitS ((((p_Rule ++ (bs [58])) ++ r1) ++ (bs [120])) ++ r2) (bs [58]))
      ((spec_pzText_l k ((((((p_Rule ++ (bs [58])) ++ r1) ++ (bs [120])) ++ r2) ++ (bs [58])), p_Clues, (p_Clues.length : Int), 0)).bind fun r3 =>
       some r3)
      (none))
     (none))
    (none))
   (none))
  (none) := by kernel_rfl
theorem spec_pzText_l.eq (k : Nat) (out : ByteArray) (t20 : List (Int × (Int × Int))) (t21 : Int) (t22 : Int) : spec_pzText_l (k + 1) (out, t20, t21, t22) =
  cond (decide (t22 < t21))
  (cond (inB t22 t20.length)
   (cond (decide (t22 > 0))
    (cond (fitS out (bs [44]))
     ((spec_l1Num k ((t20.getD t22.toNat default).1)).bind fun r1 =>
      cond (fitS r1 (bs [46]))
      ((spec_l1Num k ((t20.getD t22.toNat default).2.1)).bind fun r2 =>
       cond (fitS (r1 ++ (bs [46])) r2)
       (cond (fitS ((r1 ++ (bs [46])) ++ r2) (bs [46]))
        ((spec_l1Num k ((t20.getD t22.toNat default).2.2)).bind fun r3 =>
         cond (fitS (((r1 ++ (bs [46])) ++ r2) ++ (bs [46])) r3)
         (cond (fitS (out ++ (bs [44])) ((((r1 ++ (bs [46])) ++ r2) ++ (bs [46])) ++ r3))
          (spec_pzText_l k (((out ++ (bs [44])) ++ ((((r1 ++ (bs [46])) ++ r2) ++ (bs [46])) ++ r3)), t20, t21, (w64 (t22 + 1))))
          (none))
         (none))
        (none))
       (none))
      (none))
     (none))
    ((spec_l1Num k ((t20.getD t22.toNat default).1)).bind fun r4 =>
     cond (fitS r4 (bs [46]))
     ((spec_l1Num k ((t20.getD t22.toNat default).2.1)).bind fun r5 =>
      cond (fitS (r4 ++ (bs [46])) r5)
      (cond (fitS ((r4 ++ (bs [46])) ++ r5) (bs [46]))
       ((spec_l1Num k ((t20.getD t22.toNat default).2.2)).bind fun r6 =>
        cond (fitS (((r4 ++ (bs [46])) ++ r5) ++ (bs [46])) r6)
        (cond (fitS out ((((r4 ++ (bs [46])) ++ r5) ++ (bs [46])) ++ r6))
         (spec_pzText_l k ((out ++ ((((r4 ++ (bs [46])) ++ r5) ++ (bs [46])) ++ r6)), t20, t21, (w64 (t22 + 1))))
         (none))
        (none))
       (none))
      (none))
     (none)))
   (none))
  (some out) := by kernel_rfl
theorem laws_dTexts.eq (k : Nat) (a : List ByteArray) (b : List ByteArray) : laws_dTexts (k + 1) (a, b) =
  cond ((a.length : Int) != (b.length : Int))
  (some false)
  ((laws_dTexts_l k (a, b, (a.length : Int), 0)).bind fun r1 =>
   r1.elim
   (fun r2 => some r2)
   (fun r3 => some true)) := by kernel_rfl
theorem laws_dTexts_l.eq (k : Nat) (a : List ByteArray) (b : List ByteArray) (t12 : Int) (t13 : Int) : laws_dTexts_l (k + 1) (a, b, t12, t13) =
  cond (decide (t13 < t12))
  (cond (inB t13 a.length)
   (cond (inB t13 b.length)
    (cond (!(strEq (a.getD t13.toNat default) (b.getD t13.toNat default)))
     (some (.inl false))
     (laws_dTexts_l k (a, b, t12, (w64 (t13 + 1)))))
    (none))
   (none))
  (some (.inr ())) := by kernel_rfl
theorem laws_dSame.eq (k : Nat) (a : List Int) (b : List Int) : laws_dSame (k + 1) (a, b) =
  cond ((a.length : Int) != (b.length : Int))
  (some false)
  ((laws_dSame_l k (a, b, (a.length : Int), 0)).bind fun r1 =>
   r1.elim
   (fun r2 => some r2)
   (fun r3 => some true)) := by kernel_rfl
theorem laws_dSame_l.eq (k : Nat) (a : List Int) (b : List Int) (t12 : Int) (t13 : Int) : laws_dSame_l (k + 1) (a, b, t12, t13) =
  cond (decide (t13 < t12))
  (cond (inB t13 a.length)
   (cond (inB t13 b.length)
    (cond ((a.getD t13.toNat default) != (b.getD t13.toNat default))
     (some (.inl false))
     (laws_dSame_l k (a, b, t12, (w64 (t13 + 1)))))
    (none))
   (none))
  (some (.inr ())) := by kernel_rfl
theorem spec_IsPuzzle.eq (k : Nat) (p_Rule : ByteArray) (p_Width : Int) (p_Height : Int) (p_Clues : List (Int × (Int × Int))) : spec_IsPuzzle (k + 1) (p_Rule, p_Width, p_Height, p_Clues) =
  (spec_pzGood k (p_Rule, p_Width, p_Height, p_Clues)).bind fun r1 =>
  some r1 := by kernel_rfl
theorem laws_FnBoardsGuessed_l.eq (k : Nat) (more : List Int) (p_Rule : ByteArray) (p_Width : Int) (p_Height : Int) (p_Clues : List (Int × (Int × Int))) (all : List ByteArray) (count : Int) (sure : ByteArray) (needless : List Int) (left : List Int) (best : Int) (text : ByteArray) (n : Int) (t400 : Int) (t401 : Int) : laws_FnBoardsGuessed_l (k + 1) (more, (p_Rule, p_Width, p_Height, p_Clues), all, count, sure, needless, left, best, text, n, (), t400, t401) =
  cond (decide (t401 < t400))
  (cond (inB t401 all.length)
   (cond (decide (t401 > 0))
    (cond (inB (w64 (t401 - 1)) all.length)
     (cond (!(strLess (all.getD ((w64 (t401 - 1)).toNat) default) (all.getD t401.toNat default)))
      (some (.inl false))
      (cond (((all.getD t401.toNat default).size : Int) != n)
       (some (.inl false))
       ((laws_FnBoardsGuessed_l_l k (more, (p_Rule, p_Width, p_Height, p_Clues), all, count, sure, needless, left, best, text, n, (all.getD t401.toNat default), (p_Rule, p_Width, p_Height, (all.getD t401.toNat default), 0, 0, 0), (), t400, t401, (), (p_Clues.length : Int), 0)).bind fun r1 =>
        r1.elim
        (fun r2 => some (.inl r2))
        (fun r3 => (laws_FnBoardsGuessed_l_l_2 k (r3.1, r3.2.1, r3.2.2.1, r3.2.2.2.1, r3.2.2.2.2.1, r3.2.2.2.2.2.1, r3.2.2.2.2.2.2.1, r3.2.2.2.2.2.2.2.1, r3.2.2.2.2.2.2.2.2.1, r3.2.2.2.2.2.2.2.2.2.1, r3.2.2.2.2.2.2.2.2.2.2.1, 0, (), r3.2.2.2.2.2.2.2.2.2.2.2.2.1, r3.2.2.2.2.2.2.2.2.2.2.2.2.2)).bind fun r4 =>
         r4.elim
         (fun r5 => some (.inl r5))
         (fun r6 => laws_FnBoardsGuessed_l k (r6.1, r6.2.1, r6.2.2.1, r6.2.2.2.1, r6.2.2.2.2.1, r6.2.2.2.2.2.1, r6.2.2.2.2.2.2.1, r6.2.2.2.2.2.2.2.1, r6.2.2.2.2.2.2.2.2.1, r6.2.2.2.2.2.2.2.2.2.1, (), r6.2.2.2.2.2.2.2.2.2.2.2.1, (w64 (r6.2.2.2.2.2.2.2.2.2.2.2.2 + 1))))))))
     (none))
    (cond (((all.getD t401.toNat default).size : Int) != n)
     (some (.inl false))
     ((laws_FnBoardsGuessed_l_l k (more, (p_Rule, p_Width, p_Height, p_Clues), all, count, sure, needless, left, best, text, n, (all.getD t401.toNat default), (p_Rule, p_Width, p_Height, (all.getD t401.toNat default), 0, 0, 0), (), t400, t401, (), (p_Clues.length : Int), 0)).bind fun r7 =>
      r7.elim
      (fun r8 => some (.inl r8))
      (fun r9 => (laws_FnBoardsGuessed_l_l_2 k (r9.1, r9.2.1, r9.2.2.1, r9.2.2.2.1, r9.2.2.2.2.1, r9.2.2.2.2.2.1, r9.2.2.2.2.2.2.1, r9.2.2.2.2.2.2.2.1, r9.2.2.2.2.2.2.2.2.1, r9.2.2.2.2.2.2.2.2.2.1, r9.2.2.2.2.2.2.2.2.2.2.1, 0, (), r9.2.2.2.2.2.2.2.2.2.2.2.2.1, r9.2.2.2.2.2.2.2.2.2.2.2.2.2)).bind fun r10 =>
       r10.elim
       (fun r11 => some (.inl r11))
       (fun r12 => laws_FnBoardsGuessed_l k (r12.1, r12.2.1, r12.2.2.1, r12.2.2.2.1, r12.2.2.2.2.1, r12.2.2.2.2.2.1, r12.2.2.2.2.2.2.1, r12.2.2.2.2.2.2.2.1, r12.2.2.2.2.2.2.2.2.1, r12.2.2.2.2.2.2.2.2.2.1, (), r12.2.2.2.2.2.2.2.2.2.2.2.1, (w64 (r12.2.2.2.2.2.2.2.2.2.2.2.2 + 1))))))))
   (none))
  (some (.inr (more, (p_Rule, p_Width, p_Height, p_Clues), count, needless, left, best, text))) := by kernel_rfl
theorem laws_FnBoardsGuessed_l_l.eq (k : Nat) (more : List Int) (p_Rule : ByteArray) (p_Width : Int) (p_Height : Int) (p_Clues : List (Int × (Int × Int))) (all : List ByteArray) (count : Int) (sure : ByteArray) (needless : List Int) (left : List Int) (best : Int) (text : ByteArray) (n : Int) (cells : ByteArray) (w_Rule : ByteArray) (w_Width : Int) (w_Height : Int) (w_Cells : ByteArray) (w_X : Int) (w_Y : Int) (w_Way : Int) (t400 : Int) (t401 : Int) (t433 : Int) (t434 : Int) : laws_FnBoardsGuessed_l_l (k + 1) (more, (p_Rule, p_Width, p_Height, p_Clues), all, count, sure, needless, left, best, text, n, cells, (w_Rule, w_Width, w_Height, w_Cells, w_X, w_Y, w_Way), (), t400, t401, (), t433, t434) =
  cond (decide (t434 < t433))
  (cond (inB t434 p_Clues.length)
   ((impl_DoesFit k ((p_Clues.getD t434.toNat default), (w_Rule, w_Width, w_Height, w_Cells, w_X, w_Y, w_Way))).bind fun r1 =>
    cond (!r1.2)
    (some (.inl false))
    (cond (!r1.1)
     (some (.inl false))
     (laws_FnBoardsGuessed_l_l k (more, (p_Rule, p_Width, p_Height, p_Clues), all, count, sure, needless, left, best, text, n, cells, (w_Rule, w_Width, w_Height, w_Cells, w_X, w_Y, w_Way), (), t400, t401, (), t433, (w64 (t434 + 1))))))
   (none))
  (some (.inr (more, (p_Rule, p_Width, p_Height, p_Clues), all, count, sure, needless, left, best, text, n, cells, (), t400, t401))) := by kernel_rfl
theorem impl_DoesFit.eq (k : Nat) (c_Kind : Int) (c_A : Int) (c_B : Int) (w_Rule : ByteArray) (w_Width : Int) (w_Height : Int) (w_Cells : ByteArray) (w_X : Int) (w_Y : Int) (w_Way : Int) : impl_DoesFit (k + 1) ((c_Kind, c_A, c_B), (w_Rule, w_Width, w_Height, w_Cells, w_X, w_Y, w_Way)) =
  (impl_isHiddenWorld k (w_Rule, w_Width, w_Height, w_Cells, w_X, w_Y, w_Way)).bind fun r1 =>
  cond (!r1)
  (some (false, false))
  ((impl_IsClue k (w_Rule, (w_Cells.size : Int), (c_Kind, c_A, c_B))).bind fun r2 =>
   cond (!r2)
   (some (false, false))
   ((impl_Clue_fits k ((c_Kind, c_A, c_B), (w_Rule, w_Width, w_Height, w_Cells, w_X, w_Y, w_Way))).bind fun r3 =>
    some (r3, true))) := by kernel_rfl
theorem impl_isHiddenWorld.eq (k : Nat) (w_Rule : ByteArray) (w_Width : Int) (w_Height : Int) (w_Cells : ByteArray) (w_X : Int) (w_Y : Int) (w_Way : Int) : impl_isHiddenWorld (k + 1) (w_Rule, w_Width, w_Height, w_Cells, w_X, w_Y, w_Way) =
  (impl_CountBoards k (w_Rule, w_Width, w_Height)).bind fun r1 =>
  cond (!r1.2)
  (some false)
  ((impl_IsWorld k (w_Rule, w_Width, w_Height, w_Cells, w_X, w_Y, w_Way)).bind fun r2 =>
   cond r2
   ((impl_World_at k (w_Rule, w_Width, w_Height, w_Cells, w_X, w_Y, w_Way)).bind fun r3 =>
    cond (r3 == 0)
    (some (w_Way == 0))
    (some false))
   (some false)) := by kernel_rfl
theorem impl_IsWorld.eq (k : Nat) (w_Rule : ByteArray) (w_Width : Int) (w_Height : Int) (w_Cells : ByteArray) (w_X : Int) (w_Y : Int) (w_Way : Int) : impl_IsWorld (k + 1) (w_Rule, w_Width, w_Height, w_Cells, w_X, w_Y, w_Way) =
  (impl_IsRule k w_Rule).bind fun r1 =>
  cond r1
  ((impl_isSize k (w_Width, w_Height)).bind fun r2 =>
   cond r2
   ((impl_areCells k (w_Cells, (w64 (w_Width * w_Height)), (w_Rule.size : Int))).bind fun r3 =>
    cond r3
    ((impl_isAnt k (w_Width, w_Height, w_X, w_Y, w_Way)).bind fun r4 =>
     some r4)
    (some false))
   (some false))
  (some false) := by kernel_rfl
theorem impl_areCells.eq (k : Nat) (cells : ByteArray) (many : Int) (tints : Int) : impl_areCells (k + 1) (cells, many, tints) =
  (impl_areCells_l k (cells, many, tints, (cells.size : Int), 0)).bind fun r1 =>
  r1.elim
  (fun r2 => some r2)
  (fun r3 => some ((r3.1.size : Int) == r3.2)) := by kernel_rfl
theorem impl_areCells_l.eq (k : Nat) (cells : ByteArray) (many : Int) (tints : Int) (t9 : Int) (t10 : Int) : impl_areCells_l (k + 1) (cells, many, tints, t9, t10) =
  cond (decide (t10 < t9))
  (cond (inB t10 cells.size)
   ((impl_within k ((w64 ((w64 (bt cells t10.toNat)) - 48)), 0, (w64 (tints - 1)))).bind fun r1 =>
    cond (!r1)
    (some (.inl false))
    (impl_areCells_l k (cells, many, tints, t9, (w64 (t10 + 1)))))
   (none))
  (some (.inr (cells, many))) := by kernel_rfl
theorem impl_isAnt.eq (k : Nat) (width : Int) (height : Int) (x : Int) (y : Int) (way : Int) : impl_isAnt (k + 1) (width, height, x, y, way) =
  (impl_within k (x, 0, (w64 (width - 1)))).bind fun r1 =>
  cond r1
  ((impl_within k (y, 0, (w64 (height - 1)))).bind fun r2 =>
   cond r2
   ((impl_isWay k way).bind fun r3 =>
    some r3)
   (some false))
  (some false) := by kernel_rfl
theorem laws_FnBoardsGuessed_l_l_2.eq (k : Nat) (more : List Int) (p_Rule : ByteArray) (p_Width : Int) (p_Height : Int) (p_Clues : List (Int × (Int × Int))) (all : List ByteArray) (count : Int) (sure : ByteArray) (needless : List Int) (left : List Int) (best : Int) (text : ByteArray) (n : Int) (cells : ByteArray) (k_ : Int) (t400 : Int) (t401 : Int) : laws_FnBoardsGuessed_l_l_2 (k + 1) (more, (p_Rule, p_Width, p_Height, p_Clues), all, count, sure, needless, left, best, text, n, cells, k_, (), t400, t401) =
  cond (decide (k_ < n))
  (cond (inB k_ sure.size)
   (cond ((bt sure k_.toNat) != 63)
    (cond (inB k_ sure.size)
     (cond (inB k_ cells.size)
      (cond ((bt sure k_.toNat) != (bt cells k_.toNat))
       (some (.inl false))
       (laws_FnBoardsGuessed_l_l_2 k (more, (p_Rule, p_Width, p_Height, p_Clues), all, count, sure, needless, left, best, text, n, cells, (w64 (k_ + 1)), (), t400, t401)))
      (none))
     (none))
    (laws_FnBoardsGuessed_l_l_2 k (more, (p_Rule, p_Width, p_Height, p_Clues), all, count, sure, needless, left, best, text, n, cells, (w64 (k_ + 1)), (), t400, t401)))
   (none))
  (some (.inr (more, (p_Rule, p_Width, p_Height, p_Clues), all, count, sure, needless, left, best, text, n, (), t400, t401))) := by kernel_rfl
theorem laws_FnBoardsGuessed_l_2.eq (k : Nat) (more : List Int) (p_Rule : ByteArray) (p_Width : Int) (p_Height : Int) (p_Clues : List (Int × (Int × Int))) (count : Int) (needless : List Int) (left : List Int) (best : Int) (text : ByteArray) (t472 : Int) (t473 : Int) : laws_FnBoardsGuessed_l_2 (k + 1) (more, (p_Rule, p_Width, p_Height, p_Clues), count, needless, left, best, text, t472, t473) =
  cond (decide (t473 < t472))
  ((impl_DropClue k ((p_Rule, p_Width, p_Height, p_Clues), t473)).bind fun r1 =>
   (impl_CountSolutions k r1.1).bind fun r2 =>
   cond (!r1.2)
   (some (.inl false))
   (cond (!r2.2)
    (some (.inl false))
    ((laws_dHas k (needless, t473)).bind fun r3 =>
     cond (!(r3 == (r2.1 == count)))
     (some (.inl false))
     (cond (inB (w64 (t473 + 1)) left.length)
      (cond (inB t473 left.length)
       (cond (decide ((left.getD ((w64 (t473 + 1)).toNat) default) > (left.getD t473.toNat default)))
        (some (.inl false))
        (cond (decide (best < 0))
         (some (.inl false))
         (cond (decide (best ≥ (p_Clues.length : Int)))
          (some (.inl false))
          (laws_FnBoardsGuessed_l_2 k (more, (p_Rule, p_Width, p_Height, p_Clues), count, needless, left, best, text, t472, (w64 (t473 + 1)))))))
       (none))
      (none)))))
  (some (.inr (more, (p_Rule, p_Width, p_Height, p_Clues), text))) := by kernel_rfl
theorem impl_DropClue.eq (k : Nat) (p_Rule : ByteArray) (p_Width : Int) (p_Height : Int) (p_Clues : List (Int × (Int × Int))) (k_ : Int) : impl_DropClue (k + 1) ((p_Rule, p_Width, p_Height, p_Clues), k_) =
  (impl_IsPuzzle k (p_Rule, p_Width, p_Height, p_Clues)).bind fun r1 =>
  cond (!r1)
  (some ((ByteArray.empty, 0, 0, []), false))
  ((impl_within k (k_, 0, (w64 ((p_Clues.length : Int) - 1)))).bind fun r2 =>
   cond (!r2)
   (some ((ByteArray.empty, 0, 0, []), false))
   ((impl_dropped k (p_Clues, k_)).bind fun r3 =>
    (impl_Puzzle_changed k ((p_Rule, p_Width, p_Height, p_Clues), r3)).bind fun r4 =>
    some (r4, true))) := by kernel_rfl
theorem impl_Puzzle_changed.eq (k : Nat) (p_Rule : ByteArray) (p_Width : Int) (p_Height : Int) (p_Clues : List (Int × (Int × Int))) (clues : List (Int × (Int × Int))) : impl_Puzzle_changed (k + 1) ((p_Rule, p_Width, p_Height, p_Clues), clues) =
  some (p_Rule, p_Width, p_Height, clues) := by kernel_rfl
theorem laws_dHas.eq (k : Nat) (a : List Int) (n : Int) : laws_dHas (k + 1) (a, n) =
  (laws_dHas_l k (n, a, (a.length : Int), 0)).bind fun r1 =>
  r1.elim
  (fun r2 => some r2)
  (fun r3 => some false) := by kernel_rfl
theorem laws_dHas_l.eq (k : Nat) (n : Int) (t7 : List Int) (t8 : Int) (t9 : Int) : laws_dHas_l (k + 1) (n, t7, t8, t9) =
  cond (decide (t9 < t8))
  (cond (inB t9 t7.length)
   (cond ((t7.getD t9.toNat default) == n)
    (some (.inl true))
    (laws_dHas_l k (n, t7, t8, (w64 (t9 + 1)))))
   (none))
  (some (.inr ())) := by kernel_rfl
theorem impl_ParsePuzzle.eq (k : Nat) (s : ByteArray) : impl_ParsePuzzle (k + 1) s =
  (strings_Split k (s, (bs [58]))).bind fun r1 =>
  cond ((r1.length : Int) != 3)
  (some ((ByteArray.empty, 0, 0, []), false))
  (cond (inB 1 r1.length)
   ((impl_numbers k ((r1.getD 1 default), (bs [120]), 2, 9)).bind fun r2 =>
    cond (inB 0 r1.length)
    (cond (inB 0 r2.1.length)
     (cond (inB 1 r2.1.length)
      (cond (inB 2 r1.length)
       ((strings_FieldsFunc k ((r1.getD 2 default), ())).bind fun r3 =>
        (impl_ParsePuzzle_l k (s, (ByteArray.empty, 0, 0, []), r2.2, ((r1.getD 0 default), (r2.1.getD 0 default), (r2.1.getD 1 default), []), r3, (r3.length : Int), 0)).bind fun r4 =>
        cond (!r4.2.2.1)
        (some ((ByteArray.empty, 0, 0, []), false))
        ((impl_IsPuzzle k r4.2.2.2).bind fun r5 =>
         cond (!r5)
         (some ((ByteArray.empty, 0, 0, []), false))
         ((impl_puzzleText k r4.2.2.2).bind fun r6 =>
          cond (!(strEq r6 r4.1))
          (some ((ByteArray.empty, 0, 0, []), false))
          (some (r4.2.2.2, true)))))
       (none))
      (none))
     (none))
    (none))
   (none)) := by kernel_rfl
theorem strings_Split.eq (k : Nat) (d : ByteArray × ByteArray) : strings_Split (k + 1) d = (fun d => strSplit1 d.1 d.2) d := by kernel_rfl
theorem impl_numbers.eq (k : Nat) (s : ByteArray) (by_ : ByteArray) (many : Int) (most : Int) : impl_numbers (k + 1) (s, by_, many, most) =
  (strings_Split k (s, by_)).bind fun r1 =>
  (impl_numbers_l k (many, most, [], r1, (r1.length : Int), 0)).bind fun r2 =>
  r2.elim
  (fun r3 => some r3)
  (fun r4 => cond ((r4.2.length : Int) != r4.1)
   (cond (((decide ((0 : Int) ≤ r4.1)) && (decide (r4.1 ≤ r4.1))) && (fits r4.1.toNat 8))
    (some ((List.replicate r4.1.toNat 0), false))
    (none))
   (some (r4.2, true))) := by kernel_rfl
theorem impl_numbers_l.eq (k : Nat) (many : Int) (most : Int) (out : List Int) (t18 : List ByteArray) (t19 : Int) (t20 : Int) : impl_numbers_l (k + 1) (many, most, out, t18, t19, t20) =
  cond (decide (t20 < t19))
  (cond (inB t20 t18.length)
   ((impl_number k ((t18.getD t20.toNat default), most)).bind fun r1 =>
    cond (!r1.2)
    (cond (((decide ((0 : Int) ≤ many)) && (decide (many ≤ many))) && (fits many.toNat 8))
     (some (.inl ((List.replicate many.toNat 0), false)))
     (none))
    (cond (fits (out.length + 1) 8)
     (impl_numbers_l k (many, most, (out ++ [r1.1]), t18, t19, (w64 (t20 + 1))))
     (none)))
   (none))
  (some (.inr (many, out))) := by kernel_rfl
theorem impl_number.eq (k : Nat) (d : ByteArray × Int) : impl_number (k + 1) d = (fun d => numB d.1 d.2) d := by kernel_rfl
theorem strings_FieldsFunc.eq (k : Nat) (s : ByteArray) : strings_FieldsFunc (k + 1) (s, ()) =
  cond (fits 32 16)
  ((strings_FieldsFunc_l k (s, (), [], (-1), (s, 0))).bind fun r1 =>
   cond (decide (r1.2.2 ≥ 0))
   (cond (fits (r1.2.1.length + 1) 16)
    (cond (((decide ((0 : Int) ≤ ((r1.2.1 ++ [(r1.2.2, (r1.1.size : Int))]).length : Int))) && (decide (((r1.2.1 ++ [(r1.2.2, (r1.1.size : Int))]).length : Int) ≤ ((r1.2.1 ++ [(r1.2.2, (r1.1.size : Int))]).length : Int)))) && (fits ((r1.2.1 ++ [(r1.2.2, (r1.1.size : Int))]).length : Int).toNat 16))
     ((strings_FieldsFunc_l_2 k (r1.1, (List.replicate ((r1.2.1 ++ [(r1.2.2, (r1.1.size : Int))]).length : Int).toNat ByteArray.empty), (r1.2.1 ++ [(r1.2.2, (r1.1.size : Int))]), ((r1.2.1 ++ [(r1.2.2, (r1.1.size : Int))]).length : Int), 0)).bind fun r2 =>
      some r2)
     (none))
    (none))
   (cond (((decide ((0 : Int) ≤ (r1.2.1.length : Int))) && (decide ((r1.2.1.length : Int) ≤ (r1.2.1.length : Int)))) && (fits (r1.2.1.length : Int).toNat 16))
    ((strings_FieldsFunc_l_2 k (r1.1, (List.replicate (r1.2.1.length : Int).toNat ByteArray.empty), r1.2.1, (r1.2.1.length : Int), 0)).bind fun r3 =>
     some r3)
    (none)))
  (none) := by kernel_rfl
theorem strings_FieldsFunc_l.eq (k : Nat) (s : ByteArray) (spans : List (Int × Int)) (start : Int) (t14s : ByteArray) (t14i : Nat) : strings_FieldsFunc_l (k + 1) (s, (), spans, start, (t14s, t14i)) =
  cond (decide (t14i < t14s.size))
  ((impl_ParsePuzzle_1 k (runeAt t14s t14i)).bind fun r1 =>
   cond r1
   (cond (decide (start ≥ 0))
    (cond (fits (spans.length + 1) 16)
     (strings_FieldsFunc_l k (s, (), (spans ++ [(start, (t14i : Int))]), (xorI .i64 (-1) start), (t14s, (runeEnd t14s t14i))))
     (none))
    (strings_FieldsFunc_l k (s, (), spans, start, (t14s, (runeEnd t14s t14i)))))
   (cond (decide (start < 0))
    (strings_FieldsFunc_l k (s, (), spans, (t14i : Int), (t14s, (runeEnd t14s t14i))))
    (strings_FieldsFunc_l k (s, (), spans, start, (t14s, (runeEnd t14s t14i))))))
  (some (s, spans, start)) := by kernel_rfl
theorem impl_ParsePuzzle_1.eq (k : Nat) (r : Int) : impl_ParsePuzzle_1 (k + 1) r =
  some (r == 44) := by kernel_rfl
theorem strings_FieldsFunc_l_2.eq (k : Nat) (s : ByteArray) (a : List ByteArray) (t47 : List (Int × Int)) (t48 : Int) (t49 : Int) : strings_FieldsFunc_l_2 (k + 1) (s, a, t47, t48, t49) =
  cond (decide (t49 < t48))
  (cond (inB t49 t47.length)
   (cond (((decide ((0 : Int) ≤ (t47.getD t49.toNat default).2)) && (decide ((t47.getD t49.toNat default).2 ≤ (s.size : Int)))) && ((decide ((0 : Int) ≤ (t47.getD t49.toNat default).1)) && (decide ((t47.getD t49.toNat default).1 ≤ (t47.getD t49.toNat default).2))))
    (cond (inB t49 a.length)
     (strings_FieldsFunc_l_2 k (s, (a.set t49.toNat (s.extract ((t47.getD t49.toNat default).1.toNat) ((t47.getD t49.toNat default).2.toNat))), t47, t48, (w64 (t49 + 1))))
     (none))
    (none))
   (none))
  (some a) := by kernel_rfl
theorem impl_ParsePuzzle_l.eq (k : Nat) (s : ByteArray) (t2_Rule : ByteArray) (t2_Width : Int) (t2_Height : Int) (t2_Clues : List (Int × (Int × Int))) (ok : Bool) (p_Rule : ByteArray) (p_Width : Int) (p_Height : Int) (p_Clues : List (Int × (Int × Int))) (t38 : List ByteArray) (t39 : Int) (t40 : Int) : impl_ParsePuzzle_l (k + 1) (s, (t2_Rule, t2_Width, t2_Height, t2_Clues), ok, (p_Rule, p_Width, p_Height, p_Clues), t38, t39, t40) =
  cond (decide (t40 < t39))
  (cond (inB t40 t38.length)
   ((impl_numbers k ((t38.getD t40.toNat default), (bs [46]), 3, 100)).bind fun r1 =>
    cond (inB 0 r1.1.length)
    (cond (inB 1 r1.1.length)
     (cond (inB 2 r1.1.length)
      (cond (fits (p_Clues.length + 1) 24)
       (cond ok
        (impl_ParsePuzzle_l k (s, (t2_Rule, t2_Width, t2_Height, t2_Clues), r1.2, (p_Rule, p_Width, p_Height, (p_Clues ++ [((r1.1.getD 0 default), ((r1.1.getD 1 default), (r1.1.getD 2 default)))])), t38, t39, (w64 (t40 + 1))))
        (impl_ParsePuzzle_l k (s, (t2_Rule, t2_Width, t2_Height, t2_Clues), false, (p_Rule, p_Width, p_Height, (p_Clues ++ [((r1.1.getD 0 default), ((r1.1.getD 1 default), (r1.1.getD 2 default)))])), t38, t39, (w64 (t40 + 1)))))
       (none))
      (none))
     (none))
    (none))
   (none))
  (some (s, (t2_Rule, t2_Width, t2_Height, t2_Clues), ok, (p_Rule, p_Width, p_Height, p_Clues))) := by kernel_rfl
theorem laws_dPuzzle.eq (k : Nat) (a_Rule : ByteArray) (a_Width : Int) (a_Height : Int) (a_Clues : List (Int × (Int × Int))) (b_Rule : ByteArray) (b_Width : Int) (b_Height : Int) (b_Clues : List (Int × (Int × Int))) : laws_dPuzzle (k + 1) ((a_Rule, a_Width, a_Height, a_Clues), (b_Rule, b_Width, b_Height, b_Clues)) =
  cond (!(strEq a_Rule b_Rule))
  (some false)
  (cond (a_Width != b_Width)
   (some false)
   (cond (a_Height != b_Height)
    (some false)
    (cond ((a_Clues.length : Int) != (b_Clues.length : Int))
     (some false)
     ((laws_dPuzzle_l k ((a_Rule, a_Width, a_Height, a_Clues), (b_Rule, b_Width, b_Height, b_Clues), (a_Clues.length : Int), 0)).bind fun r1 =>
      r1.elim
      (fun r2 => some r2)
      (fun r3 => some true))))) := by kernel_rfl
theorem laws_dPuzzle_l.eq (k : Nat) (a_Rule : ByteArray) (a_Width : Int) (a_Height : Int) (a_Clues : List (Int × (Int × Int))) (b_Rule : ByteArray) (b_Width : Int) (b_Height : Int) (b_Clues : List (Int × (Int × Int))) (t36 : Int) (t37 : Int) : laws_dPuzzle_l (k + 1) ((a_Rule, a_Width, a_Height, a_Clues), (b_Rule, b_Width, b_Height, b_Clues), t36, t37) =
  cond (decide (t37 < t36))
  (cond (inB t37 a_Clues.length)
   (cond (inB t37 b_Clues.length)
    (cond (!(((a_Clues.getD t37.toNat default).1 == (b_Clues.getD t37.toNat default).1) && (((a_Clues.getD t37.toNat default).2.1 == (b_Clues.getD t37.toNat default).2.1) && (((a_Clues.getD t37.toNat default).2.2 == (b_Clues.getD t37.toNat default).2.2) && true))))
     (some (.inl false))
     (laws_dPuzzle_l k ((a_Rule, a_Width, a_Height, a_Clues), (b_Rule, b_Width, b_Height, b_Clues), t36, (w64 (t37 + 1)))))
    (none))
   (none))
  (some (.inr ())) := by kernel_rfl
theorem spec_DrawParsePuzzle.eq (k : Nat) (code : List Int) : spec_DrawParsePuzzle (k + 1) code =
  (spec_l1Cur_surePuzzle k ((code, 0, 0), 4)).bind fun r1 =>
  (spec_pzText k r1.1).bind fun r2 =>
  (spec_l1Cur_one k (r1.2, 3)).bind fun r3 =>
  cond r3.1
  ((spec_l1Cur_spoilt k (r3.2, r2, (bs [48, 49, 50, 51, 52, 53, 54, 46, 44, 58, 76, 82, 120]))).bind fun r4 =>
   some r4.1)
  (some r2) := by kernel_rfl
theorem spec_l1Cur_spoilt.eq (k : Nat) (c_code : List Int) (c_at : Int) (c_seed : Int) (t : ByteArray) (with_ : ByteArray) : spec_l1Cur_spoilt (k + 1) ((c_code, c_at, c_seed), t, with_) =
  (spec_l1Cur_pick k ((c_code, c_at, c_seed), 2)).bind fun r1 =>
  (spec_l1Cur_spoilt_l k (r1.2, t, with_, (w64 (1 + r1.1)), ())).bind fun r2 =>
  some r2 := by kernel_rfl
theorem spec_l1Cur_spoilt_l.eq (k : Nat) (c_code : List Int) (c_at : Int) (c_seed : Int) (t : ByteArray) (with_ : ByteArray) (n : Int) : spec_l1Cur_spoilt_l (k + 1) ((c_code, c_at, c_seed), t, with_, n, ()) =
  cond (decide (n > 0))
  (cond (decide ((t.size : Int) > 0))
   ((spec_l1Cur_pick k ((c_code, c_at, c_seed), (t.size : Int))).bind fun r1 =>
    (spec_l1Cur_pick k (r1.2, (with_.size : Int))).bind fun r2 =>
    cond (inB r2.1 with_.size)
    ((spec_l1Cur_pick k (r2.2, 3)).bind fun r3 =>
     cond (r3.1 == 0)
     (cond ((decide ((0 : Int) ≤ r1.1)) && (decide (r1.1 ≤ (t.size : Int))))
      (cond (fitS (t.extract 0 r1.1.toNat) (ofBytes [(bt with_ r2.1.toNat)]))
       (cond ((decide ((0 : Int) ≤ r1.1)) && (decide (r1.1 ≤ (t.size : Int))))
        (cond (fitS ((t.extract 0 r1.1.toNat) ++ (ofBytes [(bt with_ r2.1.toNat)])) (t.extract r1.1.toNat t.size))
         (spec_l1Cur_spoilt_l k (r3.2, (((t.extract 0 r1.1.toNat) ++ (ofBytes [(bt with_ r2.1.toNat)])) ++ (t.extract r1.1.toNat t.size)), with_, (w64 (n - 1)), ()))
         (none))
        (none))
       (none))
      (none))
     (cond (r3.1 == 1)
      (cond ((decide ((0 : Int) ≤ r1.1)) && (decide (r1.1 ≤ (t.size : Int))))
       (cond (fitS (t.extract 0 r1.1.toNat) (ofBytes [(bt with_ r2.1.toNat)]))
        (cond ((decide ((0 : Int) ≤ (w64 (r1.1 + 1)))) && (decide ((w64 (r1.1 + 1)) ≤ (t.size : Int))))
         (cond (fitS ((t.extract 0 r1.1.toNat) ++ (ofBytes [(bt with_ r2.1.toNat)])) (t.extract ((w64 (r1.1 + 1)).toNat) t.size))
          (spec_l1Cur_spoilt_l k (r3.2, (((t.extract 0 r1.1.toNat) ++ (ofBytes [(bt with_ r2.1.toNat)])) ++ (t.extract ((w64 (r1.1 + 1)).toNat) t.size)), with_, (w64 (n - 1)), ()))
          (none))
         (none))
        (none))
       (none))
      (cond ((decide ((0 : Int) ≤ r1.1)) && (decide (r1.1 ≤ (t.size : Int))))
       (cond ((decide ((0 : Int) ≤ (w64 (r1.1 + 1)))) && (decide ((w64 (r1.1 + 1)) ≤ (t.size : Int))))
        (cond (fitS (t.extract 0 r1.1.toNat) (t.extract ((w64 (r1.1 + 1)).toNat) t.size))
         (spec_l1Cur_spoilt_l k (r3.2, ((t.extract 0 r1.1.toNat) ++ (t.extract ((w64 (r1.1 + 1)).toNat) t.size)), with_, (w64 (n - 1)), ()))
         (none))
        (none))
       (none))))
    (none))
   (some (t, (c_code, c_at, c_seed))))
  (some (t, (c_code, c_at, c_seed))) := by kernel_rfl
theorem spec_ParsePuzzle.eq (k : Nat) (s : ByteArray) : spec_ParsePuzzle (k + 1) s =
  (spec_pzParse k s).bind fun r1 =>
  cond (!r1.2)
  (some ((ByteArray.empty, 0, 0, []), false))
  (some (r1.1, true)) := by kernel_rfl
theorem spec_pzParse.eq (k : Nat) (s : ByteArray) : spec_pzParse (k + 1) s =
  cond (decide ((s.size : Int) > 100))
  (some ((ByteArray.empty, 0, 0, []), false))
  ((spec_l1Split k (s, 58)).bind fun r1 =>
   cond ((r1.length : Int) != 3)
   (some ((ByteArray.empty, 0, 0, []), false))
   (cond (inB 1 r1.length)
    ((spec_l1Split k ((r1.getD 1 default), 120)).bind fun r2 =>
     cond ((r2.length : Int) != 2)
     (some ((ByteArray.empty, 0, 0, []), false))
     (cond (inB 0 r1.length)
      (cond (inB 0 r2.length)
       ((spec_l1Read k (r2.getD 0 default)).bind fun r3 =>
        cond (inB 1 r2.length)
        ((spec_l1Read k (r2.getD 1 default)).bind fun r4 =>
         cond (inB 2 r1.length)
         (cond (decide (((r1.getD 2 default).size : Int) > 0))
          (cond (inB 2 r1.length)
           ((spec_l1Split k ((r1.getD 2 default), 44)).bind fun r5 =>
            (spec_pzParse_l k (s, (ByteArray.empty, 0, 0, []), ((r1.getD 0 default), r3, r4, []), r5, (r5.length : Int), 0)).bind fun r6 =>
            r6.elim
            (fun r7 => some r7)
            (fun r8 => (spec_pzGood k r8.2.2).bind fun r9 =>
             cond r9
             ((spec_pzText k r8.2.2).bind fun r10 =>
              some (r8.2.2, (strEq r10 r8.1)))
             (some (r8.2.2, false))))
           (none))
          ((spec_pzGood k ((r1.getD 0 default), r3, r4, [])).bind fun r11 =>
           cond r11
           ((spec_pzText k ((r1.getD 0 default), r3, r4, [])).bind fun r12 =>
            some (((r1.getD 0 default), r3, r4, []), (strEq r12 s)))
           (some (((r1.getD 0 default), r3, r4, []), false))))
         (none))
        (none))
       (none))
      (none)))
    (none))) := by kernel_rfl
theorem spec_l1Split.eq (k : Nat) (s : ByteArray) (b : Int) : spec_l1Split (k + 1) (s, b) =
  (spec_l1Split_l k (s, b, [], 0, 0)).bind fun r1 =>
  cond ((decide ((0 : Int) ≤ r1.2.2)) && (decide (r1.2.2 ≤ (r1.1.size : Int))))
  (cond (fits (r1.2.1.length + 1) 16)
   (some (r1.2.1 ++ [(r1.1.extract r1.2.2.toNat r1.1.size)]))
   (none))
  (none) := by kernel_rfl
theorem spec_l1Split_l.eq (k : Nat) (s : ByteArray) (b : Int) (out : List ByteArray) (from_ : Int) (i : Int) : spec_l1Split_l (k + 1) (s, b, out, from_, i) =
  cond (decide (i < (s.size : Int)))
  (cond (inB i s.size)
   (cond ((bt s i.toNat) == b)
    (cond (((decide ((0 : Int) ≤ i)) && (decide (i ≤ (s.size : Int)))) && ((decide ((0 : Int) ≤ from_)) && (decide (from_ ≤ i))))
     (cond (fits (out.length + 1) 16)
      (spec_l1Split_l k (s, b, (out ++ [(s.extract from_.toNat i.toNat)]), (w64 (i + 1)), (w64 (i + 1))))
      (none))
     (none))
    (spec_l1Split_l k (s, b, out, from_, (w64 (i + 1)))))
   (none))
  (some (s, out, from_)) := by kernel_rfl
theorem spec_l1Read.eq (k : Nat) (s : ByteArray) : spec_l1Read (k + 1) s =
  (spec_l1In k ((s.size : Int), 1, 6)).bind fun r1 =>
  cond (!r1)
  (some (-1))
  (cond (inB 0 s.size)
   (cond ((bt s 0) == 48)
    (cond (decide ((s.size : Int) > 1))
     (some (-1))
     ((spec_l1Read_l k (s, 0, 0)).bind fun r2 =>
      r2.elim
      (fun r3 => some r3)
      (fun r4 => some r4)))
    ((spec_l1Read_l k (s, 0, 0)).bind fun r5 =>
     r5.elim
     (fun r6 => some r6)
     (fun r7 => some r7)))
   (none)) := by kernel_rfl
theorem spec_l1Read_l.eq (k : Nat) (s : ByteArray) (n : Int) (i : Int) : spec_l1Read_l (k + 1) (s, n, i) =
  cond (decide (i < (s.size : Int)))
  (cond (inB i s.size)
   (cond (decide ((bt s i.toNat) < 48))
    (some (.inl (-1)))
    (cond (inB i s.size)
     (cond (decide ((bt s i.toNat) > 57))
      (some (.inl (-1)))
      (cond (inB i s.size)
       (spec_l1Read_l k (s, (w64 ((w64 (10 * n)) + (w64 (w8 ((bt s i.toNat) - 48))))), (w64 (i + 1))))
       (none)))
     (none)))
   (none))
  (some (.inr n)) := by kernel_rfl
theorem spec_pzParse_l.eq (k : Nat) (s : ByteArray) (t2_Rule : ByteArray) (t2_Width : Int) (t2_Height : Int) (t2_Clues : List (Int × (Int × Int))) (p_Rule : ByteArray) (p_Width : Int) (p_Height : Int) (p_Clues : List (Int × (Int × Int))) (t48 : List ByteArray) (t49 : Int) (t50 : Int) : spec_pzParse_l (k + 1) (s, (t2_Rule, t2_Width, t2_Height, t2_Clues), (p_Rule, p_Width, p_Height, p_Clues), t48, t49, t50) =
  cond (decide (t50 < t49))
  (cond (inB t50 t48.length)
   ((spec_l1Split k ((t48.getD t50.toNat default), 46)).bind fun r1 =>
    cond ((r1.length : Int) != 3)
    (some (.inl ((ByteArray.empty, 0, 0, []), false)))
    (cond (inB 0 r1.length)
     ((spec_l1Read k (r1.getD 0 default)).bind fun r2 =>
      cond (inB 1 r1.length)
      ((spec_l1Read k (r1.getD 1 default)).bind fun r3 =>
       cond (inB 2 r1.length)
       ((spec_l1Read k (r1.getD 2 default)).bind fun r4 =>
        cond (fits (p_Clues.length + 1) 24)
        (spec_pzParse_l k (s, (t2_Rule, t2_Width, t2_Height, t2_Clues), (p_Rule, p_Width, p_Height, (p_Clues ++ [(r2, (r3, r4))])), t48, t49, (w64 (t50 + 1))))
        (none))
       (none))
      (none))
     (none)))
   (none))
  (some (.inr (s, (t2_Rule, t2_Width, t2_Height, t2_Clues), (p_Rule, p_Width, p_Height, p_Clues)))) := by kernel_rfl
end Go.Proofs.YtplamonjnlgomaaGreatDoorS
