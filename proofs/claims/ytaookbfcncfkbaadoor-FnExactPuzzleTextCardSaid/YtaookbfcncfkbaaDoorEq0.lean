/- What each function computes (printed by wip/sim/gen.py). -/
import Derived.Test.YtaookbfcncfkbaaDoorTab
namespace Go.Proofs.YtaookbfcncfkbaaDoorS
open Go Go.Proofs
set_option maxRecDepth 100000
set_option linter.unusedVariables false
theorem laws_FnExactPuzzleText.eq (k : Nat) (aP_Rule : ByteArray) (aP_Width : Int) (aP_Height : Int) (aP_Clues : List (Int × (Int × Int))) : laws_FnExactPuzzleText (k + 1) (aP_Rule, aP_Width, aP_Height, aP_Clues) =
  (laws_szPuzzle k ((aP_Rule, aP_Width, aP_Height, aP_Clues), 1048576)).bind fun r1 =>
  cond (decide (r1 < 0))
  (some true)
  ((laws_toPuzzle k (aP_Rule, aP_Width, aP_Height, aP_Clues)).bind fun r2 =>
   (spec_PuzzleText k r2).bind fun r3 =>
   (laws_toPuzzle k (aP_Rule, aP_Width, aP_Height, aP_Clues)).bind fun r4 =>
   (impl_PuzzleText k r4).bind fun r5 =>
   cond (!(strEq r5.1 r3.1))
   (some false)
   (cond (!(r5.2 == r3.2))
    (some false)
    ((laws_toPuzzle k (aP_Rule, aP_Width, aP_Height, aP_Clues)).bind fun r6 =>
     (laws_eqPuzzle k (r4, r6)).bind fun r7 =>
     cond (!r7)
     (some false)
     (some true)))) := by kernel_rfl
theorem laws_szPuzzle.eq (k : Nat) (a_Rule : ByteArray) (a_Width : Int) (a_Height : Int) (a_Clues : List (Int × (Int × Int))) (left : Int) : laws_szPuzzle (k + 1) ((a_Rule, a_Width, a_Height, a_Clues), left) =
  cond (decide ((w64 (left - (a_Rule.size : Int))) < 0))
  (some (-1))
  ((laws_szClueS k (a_Clues, (w64 (left - (a_Rule.size : Int))))).bind fun r1 =>
   cond (decide (r1 < 0))
   (some (-1))
   (some r1)) := by kernel_rfl
theorem laws_szClueS.eq (k : Nat) (a : List (Int × (Int × Int))) (left : Int) : laws_szClueS (k + 1) (a, left) =
  cond (decide ((w64 (left - (a.length : Int))) < 0))
  (some (-1))
  (some (w64 (left - (a.length : Int)))) := by kernel_rfl
theorem laws_toPuzzle.eq (k : Nat) (a_Rule : ByteArray) (a_Width : Int) (a_Height : Int) (a_Clues : List (Int × (Int × Int))) : laws_toPuzzle (k + 1) (a_Rule, a_Width, a_Height, a_Clues) =
  (laws_toClueS k a_Clues).bind fun r1 =>
  some (a_Rule, a_Width, a_Height, r1) := by kernel_rfl
theorem laws_toClueS.eq (k : Nat) (a : List (Int × (Int × Int))) : laws_toClueS (k + 1) a =
  cond (((decide ((0 : Int) ≤ (a.length : Int))) && (decide ((a.length : Int) ≤ (a.length : Int)))) && (fits (a.length : Int).toNat 24))
  ((laws_toClueS_l k (a, (List.replicate (a.length : Int).toNat (0, (0, 0))), 0)).bind fun r1 =>
   some r1)
  (none) := by kernel_rfl
theorem laws_toClueS_l.eq (k : Nat) (a : List (Int × (Int × Int))) (out : List (Int × (Int × Int))) (i : Int) : laws_toClueS_l (k + 1) (a, out, i) =
  cond (decide (i < (a.length : Int)))
  (cond (inB i a.length)
   ((laws_toClue k (a.getD i.toNat default)).bind fun r1 =>
    cond (inB i out.length)
    (laws_toClueS_l k (a, (out.set i.toNat r1), (w64 (i + 1))))
    (none))
   (none))
  (some out) := by kernel_rfl
theorem laws_toClue.eq (k : Nat) (a_Kind : Int) (a_A : Int) (a_B : Int) : laws_toClue (k + 1) (a_Kind, a_A, a_B) =
  some (a_Kind, a_A, a_B) := by kernel_rfl
theorem spec_PuzzleText.eq (k : Nat) (p_Rule : ByteArray) (p_Width : Int) (p_Height : Int) (p_Clues : List (Int × (Int × Int))) : spec_PuzzleText (k + 1) (p_Rule, p_Width, p_Height, p_Clues) =
  (spec_pzGood k (p_Rule, p_Width, p_Height, p_Clues)).bind fun r1 =>
  cond (!r1)
  (some (ByteArray.empty, false))
  ((spec_pzText k (p_Rule, p_Width, p_Height, p_Clues)).bind fun r2 =>
   some (r2, true)) := by kernel_rfl
theorem spec_pzGood.eq (k : Nat) (p_Rule : ByteArray) (p_Width : Int) (p_Height : Int) (p_Clues : List (Int × (Int × Int))) : spec_pzGood (k + 1) (p_Rule, p_Width, p_Height, p_Clues) =
  (spec_pzSize k (p_Rule, p_Width, p_Height)).bind fun r1 =>
  cond (!r1)
  (some false)
  (cond (decide ((p_Clues.length : Int) > 6))
   (some false)
   ((spec_pzGood_l k ((p_Rule, p_Width, p_Height, p_Clues), (), (p_Clues.length : Int), 0)).bind fun r2 =>
    r2.elim
    (fun r3 => some r3)
    (fun r4 => some true))) := by kernel_rfl
theorem spec_pzSize.eq (k : Nat) (rule : ByteArray) (width : Int) (height : Int) : spec_pzSize (k + 1) (rule, width, height) =
  (spec_woRule k rule).bind fun r1 =>
  cond r1
  ((spec_l1In k (width, 1, 9)).bind fun r2 =>
   cond r2
   ((spec_l1In k (height, 1, 9)).bind fun r3 =>
    cond r3
    (cond (decide ((w64 (width * height)) ≤ 9))
     ((spec_pzPower k (rule, (w64 (width * height)))).bind fun r4 =>
      some (decide (r4 > 0)))
     (some false))
    (some false))
   (some false))
  (some false) := by kernel_rfl
theorem spec_woRule.eq (k : Nat) (rule : ByteArray) : spec_woRule (k + 1) rule =
  (spec_l1In k ((rule.size : Int), 1, 6)).bind fun r1 =>
  cond (!r1)
  (some false)
  ((spec_woRule_l k (rule, 0)).bind fun r2 =>
   r2.elim
   (fun r3 => some r3)
   (fun r4 => some true)) := by kernel_rfl
theorem spec_l1In.eq (k : Nat) (n : Int) (lo : Int) (hi : Int) : spec_l1In (k + 1) (n, lo, hi) =
  cond (decide (n ≥ lo))
  (some (decide (n ≤ hi)))
  (some false) := by kernel_rfl
theorem spec_woRule_l.eq (k : Nat) (rule : ByteArray) (i : Int) : spec_woRule_l (k + 1) (rule, i) =
  cond (decide (i < (rule.size : Int)))
  (cond (inB i rule.size)
   (cond ((bt rule i.toNat) == 76)
    (spec_woRule_l k (rule, (w64 (i + 1))))
    (cond ((bt rule i.toNat) == 82)
     (spec_woRule_l k (rule, (w64 (i + 1))))
     (cond ((bt rule i.toNat) == 78)
      (spec_woRule_l k (rule, (w64 (i + 1))))
      (cond ((bt rule i.toNat) == 85)
       (spec_woRule_l k (rule, (w64 (i + 1))))
       (some (.inl false))))))
   (none))
  (some (.inr ())) := by kernel_rfl
theorem spec_pzPower.eq (k : Nat) (rule : ByteArray) (cells : Int) : spec_pzPower (k + 1) (rule, cells) =
  (spec_pzPower_l k (rule, cells, 1)).bind fun r1 =>
  r1.elim
  (fun r2 => some r2)
  (fun r3 => some r3) := by kernel_rfl
theorem spec_pzPower_l.eq (k : Nat) (rule : ByteArray) (cells : Int) (n : Int) : spec_pzPower_l (k + 1) (rule, cells, n) =
  cond (decide (cells > 0))
  (cond (decide ((w64 (n * (rule.size : Int))) > 300))
   (some (.inl 0))
   (spec_pzPower_l k (rule, (w64 (cells - 1)), (w64 (n * (rule.size : Int))))))
  (some (.inr n)) := by kernel_rfl
theorem spec_pzGood_l.eq (k : Nat) (p_Rule : ByteArray) (p_Width : Int) (p_Height : Int) (p_Clues : List (Int × (Int × Int))) (t21 : Int) (t22 : Int) : spec_pzGood_l (k + 1) ((p_Rule, p_Width, p_Height, p_Clues), (), t21, t22) =
  cond (decide (t22 < t21))
  (cond (inB t22 p_Clues.length)
   ((spec_pzClue k (p_Rule, (w64 (p_Width * p_Height)), (p_Clues.getD t22.toNat default))).bind fun r1 =>
    cond (!r1)
    (some (.inl false))
    (spec_pzGood_l k ((p_Rule, p_Width, p_Height, p_Clues), (), t21, (w64 (t22 + 1)))))
   (none))
  (some (.inr ())) := by kernel_rfl
theorem spec_pzClue.eq (k : Nat) (rule : ByteArray) (cells : Int) (c_Kind : Int) (c_A : Int) (c_B : Int) : spec_pzClue (k + 1) (rule, cells, (c_Kind, c_A, c_B)) =
  cond (c_Kind == 0)
  ((spec_l1In k (c_A, 0, (w64 (cells - 1)))).bind fun r1 =>
   cond r1
   ((spec_l1In k (c_B, 0, (w64 ((rule.size : Int) - 1)))).bind fun r2 =>
    some r2)
   (some false))
  (cond (c_Kind == 1)
   ((spec_l1In k (c_A, 0, 50)).bind fun r3 =>
    cond r3
    ((spec_l1In k (c_B, 0, (w64 (cells - 1)))).bind fun r4 =>
     some r4)
    (some false))
   (cond (c_Kind == 2)
    ((spec_l1In k (c_A, 0, 50)).bind fun r5 =>
     cond r5
     ((spec_l1In k (c_B, 0, 3)).bind fun r6 =>
      some r6)
     (some false))
    (cond (c_Kind == 3)
     ((spec_l1In k (c_A, 0, 50)).bind fun r7 =>
      cond r7
      ((spec_l1In k (c_B, 0, cells)).bind fun r8 =>
       some r8)
      (some false))
     (cond (c_Kind == 4)
      ((spec_l1In k (c_A, 0, 100)).bind fun r9 =>
       cond r9
       (some (c_B == 0))
       (some false))
      (some false))))) := by kernel_rfl
theorem spec_pzText.eq (k : Nat) (p_Rule : ByteArray) (p_Width : Int) (p_Height : Int) (p_Clues : List (Int × (Int × Int))) : spec_pzText (k + 1) (p_Rule, p_Width, p_Height, p_Clues) =
  cond (fitS p_Rule (bs [58]))
  ((spec_l1Num k p_Width).bind fun r1 =>
   cond (fitS (p_Rule ++ (bs [58])) r1)
   (cond (fitS ((p_Rule ++ (bs [58])) ++ r1) (bs [120]))
    ((spec_l1Num k p_Height).bind fun r2 =>
     cond (fitS (((p_Rule ++ (bs [58])) ++ r1) ++ (bs [120])) r2)
     (cond (fitS ((((p_Rule ++ (bs [58])) ++ r1) ++ (bs [120])) ++ r2) (bs [58]))
      ((spec_pzText_l k ((((((p_Rule ++ (bs [58])) ++ r1) ++ (bs [120])) ++ r2) ++ (bs [58])), p_Clues, (p_Clues.length : Int), 0)).bind fun r3 =>
       some r3)
      (none))
     (none))
    (none))
   (none))
  (none) := by kernel_rfl
theorem spec_l1Num.eq (k : Nat) (n : Int) : spec_l1Num (k + 1) n =
  cond (decide (n < 10))
  (some (ofBytes [(w8 (w64 (48 + n)))]))
  ((spec_l1Num k (w64 (n.tdiv 10))).bind fun r1 =>
   cond (fitS r1 (ofBytes [(w8 (w64 (48 + (n.tmod 10))))]))
   (some (r1 ++ (ofBytes [(w8 (w64 (48 + (n.tmod 10))))])))
   (none)) := by kernel_rfl
theorem spec_pzText_l.eq (k : Nat) (out : ByteArray) (t20 : List (Int × (Int × Int))) (t21 : Int) (t22 : Int) : spec_pzText_l (k + 1) (out, t20, t21, t22) =
  cond (decide (t22 < t21))
  (cond (inB t22 t20.length)
   (cond (decide (t22 > 0))
    (cond (fitS out (bs [44]))
     ((spec_l1Num k ((t20.getD t22.toNat default).1)).bind fun r1 =>
      cond (fitS r1 (bs [46]))
      ((spec_l1Num k ((t20.getD t22.toNat default).2.1)).bind fun r2 =>
       cond (fitS (r1 ++ (bs [46])) r2)
       (cond (fitS ((r1 ++ (bs [46])) ++ r2) (bs [46]))
        ((spec_l1Num k ((t20.getD t22.toNat default).2.2)).bind fun r3 =>
         cond (fitS (((r1 ++ (bs [46])) ++ r2) ++ (bs [46])) r3)
         (cond (fitS (out ++ (bs [44])) ((((r1 ++ (bs [46])) ++ r2) ++ (bs [46])) ++ r3))
          (spec_pzText_l k (((out ++ (bs [44])) ++ ((((r1 ++ (bs [46])) ++ r2) ++ (bs [46])) ++ r3)), t20, t21, (w64 (t22 + 1))))
          (none))
         (none))
        (none))
       (none))
      (none))
     (none))
    ((spec_l1Num k ((t20.getD t22.toNat default).1)).bind fun r4 =>
     cond (fitS r4 (bs [46]))
     ((spec_l1Num k ((t20.getD t22.toNat default).2.1)).bind fun r5 =>
      cond (fitS (r4 ++ (bs [46])) r5)
      (cond (fitS ((r4 ++ (bs [46])) ++ r5) (bs [46]))
       ((spec_l1Num k ((t20.getD t22.toNat default).2.2)).bind fun r6 =>
        cond (fitS (((r4 ++ (bs [46])) ++ r5) ++ (bs [46])) r6)
        (cond (fitS out ((((r4 ++ (bs [46])) ++ r5) ++ (bs [46])) ++ r6))
         (spec_pzText_l k ((out ++ ((((r4 ++ (bs [46])) ++ r5) ++ (bs [46])) ++ r6)), t20, t21, (w64 (t22 + 1))))
         (none))
        (none))
       (none))
      (none))
     (none)))
   (none))
  (some out) := by kernel_rfl
theorem impl_PuzzleText.eq (k : Nat) (p_Rule : ByteArray) (p_Width : Int) (p_Height : Int) (p_Clues : List (Int × (Int × Int))) : impl_PuzzleText (k + 1) (p_Rule, p_Width, p_Height, p_Clues) =
  (impl_IsPuzzle k (p_Rule, p_Width, p_Height, p_Clues)).bind fun r1 =>
  cond (!r1)
  (some (ByteArray.empty, false))
  ((impl_puzzleText k (p_Rule, p_Width, p_Height, p_Clues)).bind fun r2 =>
   some (r2, true)) := by kernel_rfl
theorem impl_IsPuzzle.eq (k : Nat) (p_Rule : ByteArray) (p_Width : Int) (p_Height : Int) (p_Clues : List (Int × (Int × Int))) : impl_IsPuzzle (k + 1) (p_Rule, p_Width, p_Height, p_Clues) =
  (impl_CountBoards k (p_Rule, p_Width, p_Height)).bind fun r1 =>
  cond (!r1.2)
  (some false)
  (cond (decide ((p_Clues.length : Int) > 6))
   (some false)
   ((slices_ContainsFunc k (p_Clues, (p_Rule, p_Width, p_Height, ()))).bind fun r2 =>
    some (!r2))) := by kernel_rfl
theorem impl_CountBoards.eq (k : Nat) (rule : ByteArray) (width : Int) (height : Int) : impl_CountBoards (k + 1) (rule, width, height) =
  (impl_isHidden k (rule, width, height)).bind fun r1 =>
  cond (!r1)
  (some (0, false))
  ((impl_boards k ((rule.size : Int), (w64 (width * height)), 300)).bind fun r2 =>
   cond (decide (r2 > 300))
   (some (0, false))
   (some (r2, true))) := by kernel_rfl
theorem impl_isHidden.eq (k : Nat) (rule : ByteArray) (width : Int) (height : Int) : impl_isHidden (k + 1) (rule, width, height) =
  (impl_IsRule k rule).bind fun r1 =>
  cond r1
  ((impl_isSize k (width, height)).bind fun r2 =>
   cond r2
   (some (decide ((w64 (width * height)) ≤ 9)))
   (some false))
  (some false) := by kernel_rfl
theorem impl_IsRule.eq (k : Nat) (rule : ByteArray) : impl_IsRule (k + 1) rule =
  (impl_within k ((rule.size : Int), 1, 6)).bind fun r1 =>
  cond r1
  ((strings_Trim k (rule, (bs [76, 82, 78, 85]))).bind fun r2 =>
   some (strEq r2 ByteArray.empty))
  (some false) := by kernel_rfl
theorem impl_within.eq (k : Nat) (n : Int) (low : Int) (high : Int) : impl_within (k + 1) (n, low, high) =
  cond (decide (low ≤ n))
  (some (decide (n ≤ high)))
  (some false) := by kernel_rfl
theorem strings_Trim.eq (k : Nat) (d : ByteArray × ByteArray) : strings_Trim (k + 1) d = (fun d => strTrim d.1 d.2) d := by kernel_rfl
theorem impl_isSize.eq (k : Nat) (width : Int) (height : Int) : impl_isSize (k + 1) (width, height) =
  (impl_within k (width, 1, 9)).bind fun r1 =>
  cond r1
  ((impl_within k (height, 1, 9)).bind fun r2 =>
   some r2)
  (some false) := by kernel_rfl
theorem impl_boards.eq (k : Nat) (colours : Int) (cells : Int) (most : Int) : impl_boards (k + 1) (colours, cells, most) =
  (impl_boards_l k (colours, most, 1, cells, 0)).bind fun r1 =>
  some r1 := by kernel_rfl
theorem impl_boards_l.eq (k : Nat) (colours : Int) (most : Int) (all : Int) (t8 : Int) (t9 : Int) : impl_boards_l (k + 1) (colours, most, all, t8, t9) =
  cond (decide (t9 < t8))
  (impl_boards_l k (colours, most, (if (w64 (most + 1)) < (w64 (all * colours)) then (w64 (most + 1)) else (w64 (all * colours))), t8, (w64 (t9 + 1))))
  (some all) := by kernel_rfl
theorem slices_ContainsFunc.eq (k : Nat) (s : List (Int × (Int × Int))) (f_0 : ByteArray) (f_01 : Int) (f_02 : Int) : slices_ContainsFunc (k + 1) (s, (f_0, f_01, f_02, ())) =
  (slices_IndexFunc k (s, (f_0, f_01, f_02, ()))).bind fun r1 =>
  some (decide (r1 ≥ 0)) := by kernel_rfl
theorem slices_IndexFunc.eq (k : Nat) (s : List (Int × (Int × Int))) (f_0 : ByteArray) (f_01 : Int) (f_02 : Int) : slices_IndexFunc (k + 1) (s, (f_0, f_01, f_02, ())) =
  (slices_IndexFunc_l k (s, (f_0, f_01, f_02, ()), (s.length : Int), 0)).bind fun r1 =>
  r1.elim
  (fun r2 => some r2)
  (fun r3 => some (-1)) := by kernel_rfl
theorem slices_IndexFunc_l.eq (k : Nat) (s : List (Int × (Int × Int))) (f_0 : ByteArray) (f_01 : Int) (f_02 : Int) (t7 : Int) (t8 : Int) : slices_IndexFunc_l (k + 1) (s, (f_0, f_01, f_02, ()), t7, t8) =
  cond (decide (t8 < t7))
  (cond (inB t8 s.length)
   ((impl_IsPuzzle_1 k ((s.getD t8.toNat default), (f_0, f_01, f_02, s))).bind fun r1 =>
    cond r1
    (some (.inl t8))
    (slices_IndexFunc_l k (s, (f_0, f_01, f_02, ()), t7, (w64 (t8 + 1)))))
   (none))
  (some (.inr ())) := by kernel_rfl
theorem impl_IsPuzzle_1.eq (k : Nat) (c_Kind : Int) (c_A : Int) (c_B : Int) (t1_0 : ByteArray) (t1_1 : Int) (t1_2 : Int) (t1_3 : List (Int × (Int × Int))) : impl_IsPuzzle_1 (k + 1) ((c_Kind, c_A, c_B), (t1_0, t1_1, t1_2, t1_3)) =
  (impl_IsClue k (t1_0, (w64 (t1_1 * t1_2)), (c_Kind, c_A, c_B))).bind fun r1 =>
  some (!r1) := by kernel_rfl
theorem impl_IsClue.eq (k : Nat) (rule : ByteArray) (cells : Int) (c_Kind : Int) (c_A : Int) (c_B : Int) : impl_IsClue (k + 1) (rule, cells, (c_Kind, c_A, c_B)) =
  (impl_IsRule k rule).bind fun r1 =>
  cond (!r1)
  (some false)
  ((impl_within k (cells, 1, 9)).bind fun r2 =>
   cond (!r2)
   (some false)
   ((impl_within k (c_A, 0, 50)).bind fun r3 =>
    cond (c_Kind == 0)
    ((impl_within k (c_A, 0, (w64 (cells - 1)))).bind fun r4 =>
     cond r4
     ((impl_within k (c_B, 0, (w64 ((rule.size : Int) - 1)))).bind fun r5 =>
      some r5)
     (some false))
    (cond (c_Kind == 1)
     (cond r3
      ((impl_within k (c_B, 0, (w64 (cells - 1)))).bind fun r6 =>
       some r6)
      (some false))
     (cond (c_Kind == 2)
      (cond r3
       ((impl_isWay k c_B).bind fun r7 =>
        some r7)
       (some false))
      (cond (c_Kind == 3)
       (cond r3
        ((impl_within k (c_B, 0, cells)).bind fun r8 =>
         some r8)
        (some false))
       (cond (c_Kind == 4)
        ((impl_within k (c_A, 0, 100)).bind fun r9 =>
         cond r9
         (some (c_B == 0))
         (some false))
        (some false))))))) := by kernel_rfl
theorem impl_isWay.eq (k : Nat) (way : Int) : impl_isWay (k + 1) way =
  (impl_within k (way, 0, 3)).bind fun r1 =>
  some r1 := by kernel_rfl
theorem impl_puzzleText.eq (k : Nat) (p_Rule : ByteArray) (p_Width : Int) (p_Height : Int) (p_Clues : List (Int × (Int × Int))) : impl_puzzleText (k + 1) (p_Rule, p_Width, p_Height, p_Clues) =
  (impl_puzzleText_l k ((p_Rule, p_Width, p_Height, p_Clues), [], (), (p_Clues.length : Int), 0)).bind fun r1 =>
  cond (fitS r1.1.1 (bs [58]))
  ((strconv_Itoa k r1.1.2.1).bind fun r2 =>
   cond (fitS (r1.1.1 ++ (bs [58])) r2)
   (cond (fitS ((r1.1.1 ++ (bs [58])) ++ r2) (bs [120]))
    ((strconv_Itoa k r1.1.2.2.1).bind fun r3 =>
     cond (fitS (((r1.1.1 ++ (bs [58])) ++ r2) ++ (bs [120])) r3)
     (cond (fitS ((((r1.1.1 ++ (bs [58])) ++ r2) ++ (bs [120])) ++ r3) (bs [58]))
      ((strings_Join k (r1.2, (bs [44]))).bind fun r4 =>
       cond (fitS (((((r1.1.1 ++ (bs [58])) ++ r2) ++ (bs [120])) ++ r3) ++ (bs [58])) r4)
       (some ((((((r1.1.1 ++ (bs [58])) ++ r2) ++ (bs [120])) ++ r3) ++ (bs [58])) ++ r4))
       (none))
      (none))
     (none))
    (none))
   (none))
  (none) := by kernel_rfl
theorem impl_puzzleText_l.eq (k : Nat) (p_Rule : ByteArray) (p_Width : Int) (p_Height : Int) (p_Clues : List (Int × (Int × Int))) (parts : List ByteArray) (t9 : Int) (t10 : Int) : impl_puzzleText_l (k + 1) ((p_Rule, p_Width, p_Height, p_Clues), parts, (), t9, t10) =
  cond (decide (t10 < t9))
  (cond (inB t10 p_Clues.length)
   ((impl_listText k ((bs [46]), [(p_Clues.getD t10.toNat default).1, (p_Clues.getD t10.toNat default).2.1, (p_Clues.getD t10.toNat default).2.2])).bind fun r1 =>
    cond (fits (parts.length + 1) 16)
    (impl_puzzleText_l k ((p_Rule, p_Width, p_Height, p_Clues), (parts ++ [r1]), (), t9, (w64 (t10 + 1))))
    (none))
   (none))
  (some ((p_Rule, p_Width, p_Height, p_Clues), parts)) := by kernel_rfl
theorem impl_listText.eq (k : Nat) (by_ : ByteArray) (list : List Int) : impl_listText (k + 1) (by_, list) =
  (impl_listText_l k (by_, [], list, (list.length : Int), 0)).bind fun r1 =>
  (strings_Join k (r1.2, r1.1)).bind fun r2 =>
  some r2 := by kernel_rfl
theorem impl_listText_l.eq (k : Nat) (by_ : ByteArray) (parts : List ByteArray) (t9 : List Int) (t10 : Int) (t11 : Int) : impl_listText_l (k + 1) (by_, parts, t9, t10, t11) =
  cond (decide (t11 < t10))
  (cond (inB t11 t9.length)
   ((strconv_Itoa k (t9.getD t11.toNat default)).bind fun r1 =>
    cond (fits (parts.length + 1) 16)
    (impl_listText_l k (by_, (parts ++ [r1]), t9, t10, (w64 (t11 + 1))))
    (none))
   (none))
  (some (by_, parts)) := by kernel_rfl
theorem strconv_Itoa.eq (k : Nat) (d : Int) : strconv_Itoa (k + 1) d = (fun d => itoaAll d) d := by kernel_rfl
theorem strings_Join.eq (k : Nat) (d : List ByteArray × ByteArray) : strings_Join (k + 1) d = (fun d => joinS d.1 d.2) d := by kernel_rfl
theorem laws_eqPuzzle.eq (k : Nat) (a_Rule : ByteArray) (a_Width : Int) (a_Height : Int) (a_Clues : List (Int × (Int × Int))) (b_Rule : ByteArray) (b_Width : Int) (b_Height : Int) (b_Clues : List (Int × (Int × Int))) : laws_eqPuzzle (k + 1) ((a_Rule, a_Width, a_Height, a_Clues), (b_Rule, b_Width, b_Height, b_Clues)) =
  cond (!(strEq a_Rule b_Rule))
  (some false)
  (cond (a_Width != b_Width)
   (some false)
   (cond (a_Height != b_Height)
    (some false)
    ((laws_eqClueS k (a_Clues, b_Clues)).bind fun r1 =>
     cond (!r1)
     (some false)
     (some true)))) := by kernel_rfl
theorem laws_eqClueS.eq (k : Nat) (a : List (Int × (Int × Int))) (b : List (Int × (Int × Int))) : laws_eqClueS (k + 1) (a, b) =
  cond ((a.length : Int) != (b.length : Int))
  (some false)
  ((laws_eqClueS_l k (a, b, 0)).bind fun r1 =>
   r1.elim
   (fun r2 => some r2)
   (fun r3 => some true)) := by kernel_rfl
theorem laws_eqClueS_l.eq (k : Nat) (a : List (Int × (Int × Int))) (b : List (Int × (Int × Int))) (i : Int) : laws_eqClueS_l (k + 1) (a, b, i) =
  cond (decide (i < (a.length : Int)))
  (cond (inB i a.length)
   (cond (inB i b.length)
    ((laws_eqClue k ((a.getD i.toNat default), (b.getD i.toNat default))).bind fun r1 =>
     cond (!r1)
     (some (.inl false))
     (laws_eqClueS_l k (a, b, (w64 (i + 1)))))
    (none))
   (none))
  (some (.inr ())) := by kernel_rfl
theorem laws_eqClue.eq (k : Nat) (a_Kind : Int) (a_A : Int) (a_B : Int) (b_Kind : Int) (b_A : Int) (b_B : Int) : laws_eqClue (k + 1) ((a_Kind, a_A, a_B), (b_Kind, b_A, b_B)) =
  cond (a_Kind != b_Kind)
  (some false)
  (cond (a_A != b_A)
   (some false)
   (cond (a_B != b_B)
    (some false)
    (some true))) := by kernel_rfl
end Go.Proofs.YtaookbfcncfkbaaDoorS
