/- What each function computes (printed by wip/sim/gen.py). -/
import Derived.Test.YthobhonnicadaaaDoorTab
namespace Go.Proofs.YthobhonnicadaaaDoorS
open Go Go.Proofs
set_option maxRecDepth 100000
set_option linter.unusedVariables false
theorem laws_FnExactDropClue.eq (k : Nat) (aP_Rule : ByteArray) (aP_Width : Int) (aP_Height : Int) (aP_Clues : List (Int × (Int × Int))) (aK : Int) : laws_FnExactDropClue (k + 1) ((aP_Rule, aP_Width, aP_Height, aP_Clues), aK) =
  (laws_szPuzzle k ((aP_Rule, aP_Width, aP_Height, aP_Clues), 1048576)).bind fun r1 =>
  cond (decide (r1 < 0))
  (some true)
  ((laws_toPuzzle k (aP_Rule, aP_Width, aP_Height, aP_Clues)).bind fun r2 =>
   (spec_DropClue k (r2, aK)).bind fun r3 =>
   (laws_toPuzzle k (aP_Rule, aP_Width, aP_Height, aP_Clues)).bind fun r4 =>
   (impl_DropClue k (r4, aK)).bind fun r5 =>
   (laws_eqPuzzle k (r5.1, r3.1)).bind fun r6 =>
   cond (!r6)
   (some false)
   (cond (!(r5.2 == r3.2))
    (some false)
    ((laws_toPuzzle k (aP_Rule, aP_Width, aP_Height, aP_Clues)).bind fun r7 =>
     (laws_eqPuzzle k (r4, r7)).bind fun r8 =>
     cond (!r8)
     (some false)
     ((laws_markPuzzle k (r4, 1)).bind fun r9 =>
      cond (decide (r9.1 < 0))
      (some false)
      ((laws_eqPuzzle k (r5.1, r3.1)).bind fun r10 =>
       cond (!r10)
       (some false)
       (cond (!(r5.2 == r3.2))
        (some false)
        ((laws_markPuzzle k (r5.1, 1)).bind fun r11 =>
         (laws_heldPuzzle k ((r5.1.1, r5.1.2.1, r5.1.2.2.1, r11.2.2.2.2), 1)).bind fun r12 =>
         cond (decide (r12 < 0))
         (some false)
         (cond (r12 != r11.1)
          (some false)
          ((laws_toPuzzle k (aP_Rule, aP_Width, aP_Height, aP_Clues)).bind fun r13 =>
           (impl_DropClue k (r13, aK)).bind fun r14 =>
           (laws_eqPuzzle k (r14.1, r3.1)).bind fun r15 =>
           cond (!r15)
           (some false)
           (cond (!(r14.2 == r3.2))
            (some false)
            ((laws_heldPuzzle k ((r5.1.1, r5.1.2.1, r5.1.2.2.1, r11.2.2.2.2), 1)).bind fun r16 =>
             cond (decide (r16 < 0))
             (some false)
             (cond (r16 != r11.1)
              (some false)
              (some true))))))))))))) := by kernel_rfl
theorem laws_szPuzzle.eq (k : Nat) (a_Rule : ByteArray) (a_Width : Int) (a_Height : Int) (a_Clues : List (Int × (Int × Int))) (left : Int) : laws_szPuzzle (k + 1) ((a_Rule, a_Width, a_Height, a_Clues), left) =
  cond (decide ((w64 (left - (a_Rule.size : Int))) < 0))
  (some (-1))
  ((laws_szClueS k (a_Clues, (w64 (left - (a_Rule.size : Int))))).bind fun r1 =>
   cond (decide (r1 < 0))
   (some (-1))
   (some r1)) := by kernel_rfl
theorem laws_szClueS.eq (k : Nat) (a : List (Int × (Int × Int))) (left : Int) : laws_szClueS (k + 1) (a, left) =
  cond (decide ((w64 (left - (a.length : Int))) < 0))
  (some (-1))
  (some (w64 (left - (a.length : Int)))) := by kernel_rfl
theorem laws_toPuzzle.eq (k : Nat) (a_Rule : ByteArray) (a_Width : Int) (a_Height : Int) (a_Clues : List (Int × (Int × Int))) : laws_toPuzzle (k + 1) (a_Rule, a_Width, a_Height, a_Clues) =
  (laws_toClueS k a_Clues).bind fun r1 =>
  some (a_Rule, a_Width, a_Height, r1) := by kernel_rfl
theorem laws_toClueS.eq (k : Nat) (a : List (Int × (Int × Int))) : laws_toClueS (k + 1) a =
  cond (((decide ((0 : Int) ≤ (a.length : Int))) && (decide ((a.length : Int) ≤ (a.length : Int)))) && (fits (a.length : Int).toNat 24))
  ((laws_toClueS_l k (a, (List.replicate (a.length : Int).toNat (0, (0, 0))), 0)).bind fun r1 =>
   some r1)
  (none) := by kernel_rfl
theorem laws_toClueS_l.eq (k : Nat) (a : List (Int × (Int × Int))) (out : List (Int × (Int × Int))) (i : Int) : laws_toClueS_l (k + 1) (a, out, i) =
  cond (decide (i < (a.length : Int)))
  (cond (inB i a.length)
   ((laws_toClue k (a.getD i.toNat default)).bind fun r1 =>
    cond (inB i out.length)
    (laws_toClueS_l k (a, (out.set i.toNat r1), (w64 (i + 1))))
    (none))
   (none))
  (some out) := by kernel_rfl
theorem laws_toClue.eq (k : Nat) (a_Kind : Int) (a_A : Int) (a_B : Int) : laws_toClue (k + 1) (a_Kind, a_A, a_B) =
  some (a_Kind, a_A, a_B) := by kernel_rfl
theorem spec_DropClue.eq (k : Nat) (p_Rule : ByteArray) (p_Width : Int) (p_Height : Int) (p_Clues : List (Int × (Int × Int))) (k_ : Int) : spec_DropClue (k + 1) ((p_Rule, p_Width, p_Height, p_Clues), k_) =
  (spec_pzGood k (p_Rule, p_Width, p_Height, p_Clues)).bind fun r1 =>
  cond (!r1)
  (some ((ByteArray.empty, 0, 0, []), false))
  ((spec_l1In k (k_, 0, (w64 ((p_Clues.length : Int) - 1)))).bind fun r2 =>
   cond (!r2)
   (some ((ByteArray.empty, 0, 0, []), false))
   ((spec_pzWithout k (p_Clues, k_)).bind fun r3 =>
    (spec_pzWith k ((p_Rule, p_Width, p_Height, p_Clues), r3)).bind fun r4 =>
    some (r4, true))) := by kernel_rfl
theorem spec_pzGood.eq (k : Nat) (p_Rule : ByteArray) (p_Width : Int) (p_Height : Int) (p_Clues : List (Int × (Int × Int))) : spec_pzGood (k + 1) (p_Rule, p_Width, p_Height, p_Clues) =
  (spec_pzSize k (p_Rule, p_Width, p_Height)).bind fun r1 =>
  cond (!r1)
  (some false)
  (cond (decide ((p_Clues.length : Int) > 6))
   (some false)
   ((spec_pzGood_l k ((p_Rule, p_Width, p_Height, p_Clues), (), (p_Clues.length : Int), 0)).bind fun r2 =>
    r2.elim
    (fun r3 => some r3)
    (fun r4 => some true))) := by kernel_rfl
theorem spec_pzSize.eq (k : Nat) (rule : ByteArray) (width : Int) (height : Int) : spec_pzSize (k + 1) (rule, width, height) =
  (spec_woRule k rule).bind fun r1 =>
  cond r1
  ((spec_l1In k (width, 1, 9)).bind fun r2 =>
   cond r2
   ((spec_l1In k (height, 1, 9)).bind fun r3 =>
    cond r3
    (cond (decide ((w64 (width * height)) ≤ 9))
     ((spec_pzPower k (rule, (w64 (width * height)))).bind fun r4 =>
      some (decide (r4 > 0)))
     (some false))
    (some false))
   (some false))
  (some false) := by kernel_rfl
theorem spec_woRule.eq (k : Nat) (rule : ByteArray) : spec_woRule (k + 1) rule =
  (spec_l1In k ((rule.size : Int), 1, 6)).bind fun r1 =>
  cond (!r1)
  (some false)
  ((spec_woRule_l k (rule, 0)).bind fun r2 =>
   r2.elim
   (fun r3 => some r3)
   (fun r4 => some true)) := by kernel_rfl
theorem spec_l1In.eq (k : Nat) (n : Int) (lo : Int) (hi : Int) : spec_l1In (k + 1) (n, lo, hi) =
  cond (decide (n ≥ lo))
  (some (decide (n ≤ hi)))
  (some false) := by kernel_rfl
theorem spec_woRule_l.eq (k : Nat) (rule : ByteArray) (i : Int) : spec_woRule_l (k + 1) (rule, i) =
  cond (decide (i < (rule.size : Int)))
  (cond (inB i rule.size)
   (cond ((bt rule i.toNat) == 76)
    (spec_woRule_l k (rule, (w64 (i + 1))))
    (cond ((bt rule i.toNat) == 82)
     (spec_woRule_l k (rule, (w64 (i + 1))))
     (cond ((bt rule i.toNat) == 78)
      (spec_woRule_l k (rule, (w64 (i + 1))))
      (cond ((bt rule i.toNat) == 85)
       (spec_woRule_l k (rule, (w64 (i + 1))))
       (some (.inl false))))))
   (none))
  (some (.inr ())) := by kernel_rfl
theorem spec_pzPower.eq (k : Nat) (rule : ByteArray) (cells : Int) : spec_pzPower (k + 1) (rule, cells) =
  (spec_pzPower_l k (rule, cells, 1)).bind fun r1 =>
  r1.elim
  (fun r2 => some r2)
  (fun r3 => some r3) := by kernel_rfl
theorem spec_pzPower_l.eq (k : Nat) (rule : ByteArray) (cells : Int) (n : Int) : spec_pzPower_l (k + 1) (rule, cells, n) =
  cond (decide (cells > 0))
  (cond (decide ((w64 (n * (rule.size : Int))) > 300))
   (some (.inl 0))
   (spec_pzPower_l k (rule, (w64 (cells - 1)), (w64 (n * (rule.size : Int))))))
  (some (.inr n)) := by kernel_rfl
theorem spec_pzGood_l.eq (k : Nat) (p_Rule : ByteArray) (p_Width : Int) (p_Height : Int) (p_Clues : List (Int × (Int × Int))) (t21 : Int) (t22 : Int) : spec_pzGood_l (k + 1) ((p_Rule, p_Width, p_Height, p_Clues), (), t21, t22) =
  cond (decide (t22 < t21))
  (cond (inB t22 p_Clues.length)
   ((spec_pzClue k (p_Rule, (w64 (p_Width * p_Height)), (p_Clues.getD t22.toNat default))).bind fun r1 =>
    cond (!r1)
    (some (.inl false))
    (spec_pzGood_l k ((p_Rule, p_Width, p_Height, p_Clues), (), t21, (w64 (t22 + 1)))))
   (none))
  (some (.inr ())) := by kernel_rfl
theorem spec_pzClue.eq (k : Nat) (rule : ByteArray) (cells : Int) (c_Kind : Int) (c_A : Int) (c_B : Int) : spec_pzClue (k + 1) (rule, cells, (c_Kind, c_A, c_B)) =
  cond (c_Kind == 0)
  ((spec_l1In k (c_A, 0, (w64 (cells - 1)))).bind fun r1 =>
   cond r1
   ((spec_l1In k (c_B, 0, (w64 ((rule.size : Int) - 1)))).bind fun r2 =>
    some r2)
   (some false))
  (cond (c_Kind == 1)
   ((spec_l1In k (c_A, 0, 50)).bind fun r3 =>
    cond r3
    ((spec_l1In k (c_B, 0, (w64 (cells - 1)))).bind fun r4 =>
     some r4)
    (some false))
   (cond (c_Kind == 2)
    ((spec_l1In k (c_A, 0, 50)).bind fun r5 =>
     cond r5
     ((spec_l1In k (c_B, 0, 3)).bind fun r6 =>
      some r6)
     (some false))
    (cond (c_Kind == 3)
     ((spec_l1In k (c_A, 0, 50)).bind fun r7 =>
      cond r7
      ((spec_l1In k (c_B, 0, cells)).bind fun r8 =>
       some r8)
      (some false))
     (cond (c_Kind == 4)
      ((spec_l1In k (c_A, 0, 100)).bind fun r9 =>
       cond r9
       (some (c_B == 0))
       (some false))
      (some false))))) := by kernel_rfl
theorem spec_pzWithout.eq (k : Nat) (clues : List (Int × (Int × Int))) (k_ : Int) : spec_pzWithout (k + 1) (clues, k_) =
  cond ((decide ((0 : Int) ≤ k_)) && (decide (k_ ≤ (clues.length : Int))))
  (cond (fits (0 + (clues.take k_.toNat).length) 24)
   (cond ((decide ((0 : Int) ≤ (w64 (k_ + 1)))) && (decide ((w64 (k_ + 1)) ≤ (clues.length : Int))))
    (cond (fits (([] ++ (clues.take k_.toNat)).length + ((clues.drop ((w64 (k_ + 1)).toNat)).take (clues.length - (w64 (k_ + 1)).toNat)).length) 24)
     (some (([] ++ (clues.take k_.toNat)) ++ ((clues.drop ((w64 (k_ + 1)).toNat)).take (clues.length - (w64 (k_ + 1)).toNat))))
     (none))
    (none))
   (none))
  (none) := by kernel_rfl
theorem spec_pzWith.eq (k : Nat) (p_Rule : ByteArray) (p_Width : Int) (p_Height : Int) (p_Clues : List (Int × (Int × Int))) (clues : List (Int × (Int × Int))) : spec_pzWith (k + 1) ((p_Rule, p_Width, p_Height, p_Clues), clues) =
  some (p_Rule, p_Width, p_Height, clues) := by kernel_rfl
theorem impl_DropClue.eq (k : Nat) (p_Rule : ByteArray) (p_Width : Int) (p_Height : Int) (p_Clues : List (Int × (Int × Int))) (k_ : Int) : impl_DropClue (k + 1) ((p_Rule, p_Width, p_Height, p_Clues), k_) =
  (impl_IsPuzzle k (p_Rule, p_Width, p_Height, p_Clues)).bind fun r1 =>
  cond (!r1)
  (some ((ByteArray.empty, 0, 0, []), false))
  ((impl_within k (k_, 0, (w64 ((p_Clues.length : Int) - 1)))).bind fun r2 =>
   cond (!r2)
   (some ((ByteArray.empty, 0, 0, []), false))
   ((impl_dropped k (p_Clues, k_)).bind fun r3 =>
    (impl_Puzzle_changed k ((p_Rule, p_Width, p_Height, p_Clues), r3)).bind fun r4 =>
    some (r4, true))) := by kernel_rfl
theorem impl_IsPuzzle.eq (k : Nat) (p_Rule : ByteArray) (p_Width : Int) (p_Height : Int) (p_Clues : List (Int × (Int × Int))) : impl_IsPuzzle (k + 1) (p_Rule, p_Width, p_Height, p_Clues) =
  (impl_CountBoards k (p_Rule, p_Width, p_Height)).bind fun r1 =>
  cond (!r1.2)
  (some false)
  (cond (decide ((p_Clues.length : Int) > 6))
   (some false)
   ((slices_ContainsFunc k (p_Clues, (p_Rule, p_Width, p_Height, ()))).bind fun r2 =>
    some (!r2))) := by kernel_rfl
theorem impl_CountBoards.eq (k : Nat) (rule : ByteArray) (width : Int) (height : Int) : impl_CountBoards (k + 1) (rule, width, height) =
  (impl_isHidden k (rule, width, height)).bind fun r1 =>
  cond (!r1)
  (some (0, false))
  ((impl_boards k ((rule.size : Int), (w64 (width * height)), 300)).bind fun r2 =>
   cond (decide (r2 > 300))
   (some (0, false))
   (some (r2, true))) := by kernel_rfl
theorem impl_isHidden.eq (k : Nat) (rule : ByteArray) (width : Int) (height : Int) : impl_isHidden (k + 1) (rule, width, height) =
  (impl_IsRule k rule).bind fun r1 =>
  cond r1
  ((impl_isSize k (width, height)).bind fun r2 =>
   cond r2
   (some (decide ((w64 (width * height)) ≤ 9)))
   (some false))
  (some false) := by kernel_rfl
theorem impl_IsRule.eq (k : Nat) (rule : ByteArray) : impl_IsRule (k + 1) rule =
  (impl_within k ((rule.size : Int), 1, 6)).bind fun r1 =>
  cond r1
  ((strings_Trim k (rule, (bs [76, 82, 78, 85]))).bind fun r2 =>
   some (strEq r2 ByteArray.empty))
  (some false) := by kernel_rfl
theorem impl_within.eq (k : Nat) (n : Int) (low : Int) (high : Int) : impl_within (k + 1) (n, low, high) =
  cond (decide (low ≤ n))
  (some (decide (n ≤ high)))
  (some false) := by kernel_rfl
theorem strings_Trim.eq (k : Nat) (d : ByteArray × ByteArray) : strings_Trim (k + 1) d = (fun d => strTrim d.1 d.2) d := by kernel_rfl
theorem impl_isSize.eq (k : Nat) (width : Int) (height : Int) : impl_isSize (k + 1) (width, height) =
  (impl_within k (width, 1, 9)).bind fun r1 =>
  cond r1
  ((impl_within k (height, 1, 9)).bind fun r2 =>
   some r2)
  (some false) := by kernel_rfl
theorem impl_boards.eq (k : Nat) (colours : Int) (cells : Int) (most : Int) : impl_boards (k + 1) (colours, cells, most) =
  (impl_boards_l k (colours, most, 1, cells, 0)).bind fun r1 =>
  some r1 := by kernel_rfl
theorem impl_boards_l.eq (k : Nat) (colours : Int) (most : Int) (all : Int) (t8 : Int) (t9 : Int) : impl_boards_l (k + 1) (colours, most, all, t8, t9) =
  cond (decide (t9 < t8))
  (impl_boards_l k (colours, most, (if (w64 (most + 1)) < (w64 (all * colours)) then (w64 (most + 1)) else (w64 (all * colours))), t8, (w64 (t9 + 1))))
  (some all) := by kernel_rfl
theorem slices_ContainsFunc.eq (k : Nat) (s : List (Int × (Int × Int))) (f_0 : ByteArray) (f_01 : Int) (f_02 : Int) : slices_ContainsFunc (k + 1) (s, (f_0, f_01, f_02, ())) =
  (slices_IndexFunc k (s, (f_0, f_01, f_02, ()))).bind fun r1 =>
  some (decide (r1 ≥ 0)) := by kernel_rfl
theorem slices_IndexFunc.eq (k : Nat) (s : List (Int × (Int × Int))) (f_0 : ByteArray) (f_01 : Int) (f_02 : Int) : slices_IndexFunc (k + 1) (s, (f_0, f_01, f_02, ())) =
  (slices_IndexFunc_l k (s, (f_0, f_01, f_02, ()), (s.length : Int), 0)).bind fun r1 =>
  r1.elim
  (fun r2 => some r2)
  (fun r3 => some (-1)) := by kernel_rfl
theorem slices_IndexFunc_l.eq (k : Nat) (s : List (Int × (Int × Int))) (f_0 : ByteArray) (f_01 : Int) (f_02 : Int) (t7 : Int) (t8 : Int) : slices_IndexFunc_l (k + 1) (s, (f_0, f_01, f_02, ()), t7, t8) =
  cond (decide (t8 < t7))
  (cond (inB t8 s.length)
   ((impl_IsPuzzle_1 k ((s.getD t8.toNat default), (f_0, f_01, f_02, s))).bind fun r1 =>
    cond r1
    (some (.inl t8))
    (slices_IndexFunc_l k (s, (f_0, f_01, f_02, ()), t7, (w64 (t8 + 1)))))
   (none))
  (some (.inr ())) := by kernel_rfl
theorem impl_IsPuzzle_1.eq (k : Nat) (c_Kind : Int) (c_A : Int) (c_B : Int) (t1_0 : ByteArray) (t1_1 : Int) (t1_2 : Int) (t1_3 : List (Int × (Int × Int))) : impl_IsPuzzle_1 (k + 1) ((c_Kind, c_A, c_B), (t1_0, t1_1, t1_2, t1_3)) =
  (impl_IsClue k (t1_0, (w64 (t1_1 * t1_2)), (c_Kind, c_A, c_B))).bind fun r1 =>
  some (!r1) := by kernel_rfl
theorem impl_IsClue.eq (k : Nat) (rule : ByteArray) (cells : Int) (c_Kind : Int) (c_A : Int) (c_B : Int) : impl_IsClue (k + 1) (rule, cells, (c_Kind, c_A, c_B)) =
  (impl_IsRule k rule).bind fun r1 =>
  cond (!r1)
  (some false)
  ((impl_within k (cells, 1, 9)).bind fun r2 =>
   cond (!r2)
   (some false)
   ((impl_within k (c_A, 0, 50)).bind fun r3 =>
    cond (c_Kind == 0)
    ((impl_within k (c_A, 0, (w64 (cells - 1)))).bind fun r4 =>
     cond r4
     ((impl_within k (c_B, 0, (w64 ((rule.size : Int) - 1)))).bind fun r5 =>
      some r5)
     (some false))
    (cond (c_Kind == 1)
     (cond r3
      ((impl_within k (c_B, 0, (w64 (cells - 1)))).bind fun r6 =>
       some r6)
      (some false))
     (cond (c_Kind == 2)
      (cond r3
       ((impl_isWay k c_B).bind fun r7 =>
        some r7)
       (some false))
      (cond (c_Kind == 3)
       (cond r3
        ((impl_within k (c_B, 0, cells)).bind fun r8 =>
         some r8)
        (some false))
       (cond (c_Kind == 4)
        ((impl_within k (c_A, 0, 100)).bind fun r9 =>
         cond r9
         (some (c_B == 0))
         (some false))
        (some false))))))) := by kernel_rfl
theorem impl_isWay.eq (k : Nat) (way : Int) : impl_isWay (k + 1) way =
  (impl_within k (way, 0, 3)).bind fun r1 =>
  some r1 := by kernel_rfl
theorem impl_dropped.eq (k : Nat) (clues : List (Int × (Int × Int))) (k_ : Int) : impl_dropped (k + 1) (clues, k_) =
  (slices_Clone k clues).bind fun r1 =>
  (slices_Delete k (r1, k_, (w64 (k_ + 1)))).bind fun r2 =>
  some r2 := by kernel_rfl
theorem slices_Clone.eq (k : Nat) (d : List (Int × (Int × Int))) : slices_Clone (k + 1) d = (fun d => cloneB (s := (.pair (.int .i64) (.pair (.int .i64) (.int .i64)))) 24 d) d := by kernel_rfl
theorem slices_Delete.eq (k : Nat) (d : List (Int × (Int × Int)) × Int × Int) : slices_Delete (k + 1) d = (fun d => delB (s := (.pair (.int .i64) (.pair (.int .i64) (.int .i64)))) d.1 d.2.1 d.2.2) d := by kernel_rfl
theorem impl_Puzzle_changed.eq (k : Nat) (p_Rule : ByteArray) (p_Width : Int) (p_Height : Int) (p_Clues : List (Int × (Int × Int))) (clues : List (Int × (Int × Int))) : impl_Puzzle_changed (k + 1) ((p_Rule, p_Width, p_Height, p_Clues), clues) =
  some (p_Rule, p_Width, p_Height, clues) := by kernel_rfl
theorem laws_eqPuzzle.eq (k : Nat) (a_Rule : ByteArray) (a_Width : Int) (a_Height : Int) (a_Clues : List (Int × (Int × Int))) (b_Rule : ByteArray) (b_Width : Int) (b_Height : Int) (b_Clues : List (Int × (Int × Int))) : laws_eqPuzzle (k + 1) ((a_Rule, a_Width, a_Height, a_Clues), (b_Rule, b_Width, b_Height, b_Clues)) =
  cond (!(strEq a_Rule b_Rule))
  (some false)
  (cond (a_Width != b_Width)
   (some false)
   (cond (a_Height != b_Height)
    (some false)
    ((laws_eqClueS k (a_Clues, b_Clues)).bind fun r1 =>
     cond (!r1)
     (some false)
     (some true)))) := by kernel_rfl
theorem laws_eqClueS.eq (k : Nat) (a : List (Int × (Int × Int))) (b : List (Int × (Int × Int))) : laws_eqClueS (k + 1) (a, b) =
  cond ((a.length : Int) != (b.length : Int))
  (some false)
  ((laws_eqClueS_l k (a, b, 0)).bind fun r1 =>
   r1.elim
   (fun r2 => some r2)
   (fun r3 => some true)) := by kernel_rfl
theorem laws_eqClueS_l.eq (k : Nat) (a : List (Int × (Int × Int))) (b : List (Int × (Int × Int))) (i : Int) : laws_eqClueS_l (k + 1) (a, b, i) =
  cond (decide (i < (a.length : Int)))
  (cond (inB i a.length)
   (cond (inB i b.length)
    ((laws_eqClue k ((a.getD i.toNat default), (b.getD i.toNat default))).bind fun r1 =>
     cond (!r1)
     (some (.inl false))
     (laws_eqClueS_l k (a, b, (w64 (i + 1)))))
    (none))
   (none))
  (some (.inr ())) := by kernel_rfl
theorem laws_eqClue.eq (k : Nat) (a_Kind : Int) (a_A : Int) (a_B : Int) (b_Kind : Int) (b_A : Int) (b_B : Int) : laws_eqClue (k + 1) ((a_Kind, a_A, a_B), (b_Kind, b_A, b_B)) =
  cond (a_Kind != b_Kind)
  (some false)
  (cond (a_A != b_A)
   (some false)
   (cond (a_B != b_B)
    (some false)
    (some true))) := by kernel_rfl
theorem laws_markPuzzle.eq (k : Nat) (a_Rule : ByteArray) (a_Width : Int) (a_Height : Int) (a_Clues : List (Int × (Int × Int))) (k_ : Int) : laws_markPuzzle (k + 1) ((a_Rule, a_Width, a_Height, a_Clues), k_) =
  (laws_markClueS k (a_Clues, k_)).bind fun r1 =>
  some (r1.1, (a_Rule, a_Width, a_Height, r1.2)) := by kernel_rfl
theorem laws_markClueS.eq (k : Nat) (a : List (Int × (Int × Int))) (k_ : Int) : laws_markClueS (k + 1) (a, k_) =
  (laws_markClueS_l k (a, k_, 0, ())).bind fun r1 =>
  some r1 := by kernel_rfl
theorem laws_markClueS_l.eq (k : Nat) (a : List (Int × (Int × Int))) (k_ : Int) (i : Int) : laws_markClueS_l (k + 1) (a, k_, i, ()) =
  cond (decide (i < (a.length : Int)))
  (cond (inB i a.length)
   (cond (inB i ((a.set i.toNat (k_, (a.getD i.toNat default).2)).length))
    (cond (inB i (((a.set i.toNat (k_, (a.getD i.toNat default).2)).set i.toNat (((a.set i.toNat (k_, (a.getD i.toNat default).2)).getD i.toNat default).1, ((w64 (k_ + 1)), ((a.set i.toNat (k_, (a.getD i.toNat default).2)).getD i.toNat default).2.2))).length))
     (laws_markClueS_l k ((((a.set i.toNat (k_, (a.getD i.toNat default).2)).set i.toNat (((a.set i.toNat (k_, (a.getD i.toNat default).2)).getD i.toNat default).1, ((w64 (k_ + 1)), ((a.set i.toNat (k_, (a.getD i.toNat default).2)).getD i.toNat default).2.2))).set i.toNat ((((a.set i.toNat (k_, (a.getD i.toNat default).2)).set i.toNat (((a.set i.toNat (k_, (a.getD i.toNat default).2)).getD i.toNat default).1, ((w64 (k_ + 1)), ((a.set i.toNat (k_, (a.getD i.toNat default).2)).getD i.toNat default).2.2))).getD i.toNat default).1, ((((a.set i.toNat (k_, (a.getD i.toNat default).2)).set i.toNat (((a.set i.toNat (k_, (a.getD i.toNat default).2)).getD i.toNat default).1, ((w64 (k_ + 1)), ((a.set i.toNat (k_, (a.getD i.toNat default).2)).getD i.toNat default).2.2))).getD i.toNat default).2.1, (w64 ((w64 (k_ + 1)) + 1))))), (w64 ((w64 ((w64 (k_ + 1)) + 1)) + 1)), (w64 (i + 1)), ()))
     (none))
    (none))
   (none))
  (some (k_, a)) := by kernel_rfl
theorem laws_heldPuzzle.eq (k : Nat) (a_Rule : ByteArray) (a_Width : Int) (a_Height : Int) (a_Clues : List (Int × (Int × Int))) (k_ : Int) : laws_heldPuzzle (k + 1) ((a_Rule, a_Width, a_Height, a_Clues), k_) =
  (laws_heldClueS k (a_Clues, k_)).bind fun r1 =>
  cond (decide (r1 < 0))
  (some (-1))
  (some r1) := by kernel_rfl
theorem laws_heldClueS.eq (k : Nat) (a : List (Int × (Int × Int))) (k_ : Int) : laws_heldClueS (k + 1) (a, k_) =
  (laws_heldClueS_l k (a, k_, 0)).bind fun r1 =>
  r1.elim
  (fun r2 => some r2)
  (fun r3 => some r3) := by kernel_rfl
theorem laws_heldClueS_l.eq (k : Nat) (a : List (Int × (Int × Int))) (k_ : Int) (i : Int) : laws_heldClueS_l (k + 1) (a, k_, i) =
  cond (decide (i < (a.length : Int)))
  (cond (inB i a.length)
   (cond ((a.getD i.toNat default).1 != k_)
    (some (.inl (-1)))
    (cond (inB i a.length)
     (cond ((a.getD i.toNat default).2.1 != (w64 (k_ + 1)))
      (some (.inl (-1)))
      (cond (inB i a.length)
       (cond ((a.getD i.toNat default).2.2 != (w64 ((w64 (k_ + 1)) + 1)))
        (some (.inl (-1)))
        (laws_heldClueS_l k (a, (w64 ((w64 ((w64 (k_ + 1)) + 1)) + 1)), (w64 (i + 1)))))
       (none)))
     (none)))
   (none))
  (some (.inr k_)) := by kernel_rfl
theorem laws_FnExactHarderPuzzle.eq (k : Nat) (aP_Rule : ByteArray) (aP_Width : Int) (aP_Height : Int) (aP_Clues : List (Int × (Int × Int))) : laws_FnExactHarderPuzzle (k + 1) (aP_Rule, aP_Width, aP_Height, aP_Clues) =
  (laws_szPuzzle k ((aP_Rule, aP_Width, aP_Height, aP_Clues), 1048576)).bind fun r1 =>
  cond (decide (r1 < 0))
  (some true)
  ((laws_toPuzzle k (aP_Rule, aP_Width, aP_Height, aP_Clues)).bind fun r2 =>
   (spec_HarderPuzzle k r2).bind fun r3 =>
   (laws_toPuzzle k (aP_Rule, aP_Width, aP_Height, aP_Clues)).bind fun r4 =>
   (impl_HarderPuzzle k r4).bind fun r5 =>
   (laws_eqPuzzle k (r5.1, r3.1)).bind fun r6 =>
   cond (!r6)
   (some false)
   (cond (!(r5.2 == r3.2))
    (some false)
    ((laws_toPuzzle k (aP_Rule, aP_Width, aP_Height, aP_Clues)).bind fun r7 =>
     (laws_eqPuzzle k (r4, r7)).bind fun r8 =>
     cond (!r8)
     (some false)
     ((laws_markPuzzle k (r4, 1)).bind fun r9 =>
      cond (decide (r9.1 < 0))
      (some false)
      ((laws_eqPuzzle k (r5.1, r3.1)).bind fun r10 =>
       cond (!r10)
       (some false)
       (cond (!(r5.2 == r3.2))
        (some false)
        ((laws_markPuzzle k (r5.1, 1)).bind fun r11 =>
         (laws_heldPuzzle k ((r5.1.1, r5.1.2.1, r5.1.2.2.1, r11.2.2.2.2), 1)).bind fun r12 =>
         cond (decide (r12 < 0))
         (some false)
         (cond (r12 != r11.1)
          (some false)
          ((laws_toPuzzle k (aP_Rule, aP_Width, aP_Height, aP_Clues)).bind fun r13 =>
           (impl_HarderPuzzle k r13).bind fun r14 =>
           (laws_eqPuzzle k (r14.1, r3.1)).bind fun r15 =>
           cond (!r15)
           (some false)
           (cond (!(r14.2 == r3.2))
            (some false)
            ((laws_heldPuzzle k ((r5.1.1, r5.1.2.1, r5.1.2.2.1, r11.2.2.2.2), 1)).bind fun r16 =>
             cond (decide (r16 < 0))
             (some false)
             (cond (r16 != r11.1)
              (some false)
              (some true))))))))))))) := by kernel_rfl
theorem spec_HarderPuzzle.eq (k : Nat) (p_Rule : ByteArray) (p_Width : Int) (p_Height : Int) (p_Clues : List (Int × (Int × Int))) : spec_HarderPuzzle (k + 1) (p_Rule, p_Width, p_Height, p_Clues) =
  (spec_pzGood k (p_Rule, p_Width, p_Height, p_Clues)).bind fun r1 =>
  cond (!r1)
  (some ((ByteArray.empty, 0, 0, []), false))
  ((spec_pzSolved k ((p_Rule, p_Width, p_Height, p_Clues), ())).bind fun r2 =>
   cond (!r2)
   (some ((ByteArray.empty, 0, 0, []), false))
   (cond (fits (0 + p_Clues.length) 24)
    ((spec_HarderPuzzle_l k ((p_Rule, p_Width, p_Height, p_Clues), (ByteArray.empty, 0, 0, []), ([] ++ p_Clues), 0)).bind fun r3 =>
     (spec_pzWith k (r3.1, r3.2.2)).bind fun r4 =>
     some (r4, true))
    (none))) := by kernel_rfl
theorem spec_pzSolved.eq (k : Nat) (p_Rule : ByteArray) (p_Width : Int) (p_Height : Int) (p_Clues : List (Int × (Int × Int))) : spec_pzSolved (k + 1) ((p_Rule, p_Width, p_Height, p_Clues), ()) =
  (spec_pzWith_2 k ((p_Rule, p_Width, p_Height, p_Clues), ())).bind fun r1 =>
  (spec_pzAll k r1).bind fun r2 =>
  some ((r2.length : Int) == 1) := by kernel_rfl
theorem spec_pzWith_2.eq (k : Nat) (p_Rule : ByteArray) (p_Width : Int) (p_Height : Int) (p_Clues : List (Int × (Int × Int))) : spec_pzWith_2 (k + 1) ((p_Rule, p_Width, p_Height, p_Clues), ()) =
  some (p_Rule, p_Width, p_Height, p_Clues) := by kernel_rfl
theorem spec_pzAll.eq (k : Nat) (p_Rule : ByteArray) (p_Width : Int) (p_Height : Int) (p_Clues : List (Int × (Int × Int))) : spec_pzAll (k + 1) (p_Rule, p_Width, p_Height, p_Clues) =
  (spec_pzLook k ((p_Rule, p_Width, p_Height, p_Clues), ByteArray.empty, [])).bind fun r1 =>
  some r1.2 := by kernel_rfl
theorem spec_pzLook.eq (k : Nat) (p_Rule : ByteArray) (p_Width : Int) (p_Height : Int) (p_Clues : List (Int × (Int × Int))) (begin : ByteArray) (out_ : List ByteArray) : spec_pzLook (k + 1) ((p_Rule, p_Width, p_Height, p_Clues), begin, out_) =
  cond ((begin.size : Int) == (w64 (p_Width * p_Height)))
  ((spec_pzLook_l k (begin, out_, (p_Rule, p_Width, p_Height, begin, 0, 0, 0), p_Clues, (p_Clues.length : Int), 0, ())).bind fun r1 =>
   r1.elim
   (fun r2 => some ((), r2))
   (fun r3 => cond (fits (r3.2.1.length + 1) 16)
    (some ((), (r3.2.1 ++ [r3.1])))
    (none)))
  ((spec_pzLook_l_2 k (begin, out_, (p_Rule, p_Width, p_Height, p_Clues), (p_Rule.size : Int), 0, ())).bind fun r4 =>
   some ((), r4)) := by kernel_rfl
theorem spec_pzLook_l.eq (k : Nat) (begin : ByteArray) (out_ : List ByteArray) (w_Rule : ByteArray) (w_Width : Int) (w_Height : Int) (w_Cells : ByteArray) (w_X : Int) (w_Y : Int) (w_Way : Int) (t27 : List (Int × (Int × Int))) (t28 : Int) (t29 : Int) : spec_pzLook_l (k + 1) (begin, out_, (w_Rule, w_Width, w_Height, w_Cells, w_X, w_Y, w_Way), t27, t28, t29, ()) =
  cond (decide (t29 < t28))
  (cond (inB t29 t27.length)
   ((spec_pzFits k ((t27.getD t29.toNat default), (w_Rule, w_Width, w_Height, w_Cells, w_X, w_Y, w_Way))).bind fun r1 =>
    cond (!r1)
    (some (.inl out_))
    (spec_pzLook_l k (begin, out_, (w_Rule, w_Width, w_Height, w_Cells, w_X, w_Y, w_Way), t27, t28, (w64 (t29 + 1)), ())))
   (none))
  (some (.inr (begin, out_, ()))) := by kernel_rfl
theorem spec_pzFits.eq (k : Nat) (c_Kind : Int) (c_A : Int) (c_B : Int) (w_Rule : ByteArray) (w_Width : Int) (w_Height : Int) (w_Cells : ByteArray) (w_X : Int) (w_Y : Int) (w_Way : Int) : spec_pzFits (k + 1) ((c_Kind, c_A, c_B), (w_Rule, w_Width, w_Height, w_Cells, w_X, w_Y, w_Way)) =
  cond (c_Kind == 4)
  ((spec_pzValue k (4, 0, (w_Rule, w_Width, w_Height, w_Cells, w_X, w_Y, w_Way))).bind fun r1 =>
   some (r1 == c_A))
  ((spec_pzValue k (c_Kind, c_A, (w_Rule, w_Width, w_Height, w_Cells, w_X, w_Y, w_Way))).bind fun r2 =>
   some (r2 == c_B)) := by kernel_rfl
theorem spec_pzValue.eq (k : Nat) (kind : Int) (a : Int) (w_Rule : ByteArray) (w_Width : Int) (w_Height : Int) (w_Cells : ByteArray) (w_X : Int) (w_Y : Int) (w_Way : Int) : spec_pzValue (k + 1) (kind, a, (w_Rule, w_Width, w_Height, w_Cells, w_X, w_Y, w_Way)) =
  cond (decide (kind > 0))
  (cond (decide (kind < 4))
   ((spec_pzValue_l k (kind, a, (w_Rule, w_Width, w_Height, w_Cells, w_X, w_Y, w_Way), 0, 0)).bind fun r1 =>
    (spec_pzValue_l_2 k (r1.1, r1.2.1, r1.2.2.1, r1.2.2.2.1, r1.2.2.2.2, 0)).bind fun r2 =>
    cond (r2.1 == 0)
    (cond (inB r2.2.1 r2.2.2.1.2.2.2.1.size)
     (some (w64 (w8 ((bt r2.2.2.1.2.2.2.1 r2.2.1.toNat) - 48))))
     (none))
    (cond (r2.1 == 1)
     (some (w64 ((w64 (r2.2.2.1.2.2.2.2.2.1 * r2.2.2.1.2.1)) + r2.2.2.1.2.2.2.2.1)))
     (cond (r2.1 == 2)
      (some r2.2.2.1.2.2.2.2.2.2)
      (cond (r2.1 == 3)
       (some r2.2.2.2.2)
       (some r2.2.2.2.1)))))
   ((spec_pzValue_l_2 k (kind, a, (w_Rule, w_Width, w_Height, w_Cells, w_X, w_Y, w_Way), 0, 0, 0)).bind fun r3 =>
    cond (r3.1 == 0)
    (cond (inB r3.2.1 r3.2.2.1.2.2.2.1.size)
     (some (w64 (w8 ((bt r3.2.2.1.2.2.2.1 r3.2.1.toNat) - 48))))
     (none))
    (cond (r3.1 == 1)
     (some (w64 ((w64 (r3.2.2.1.2.2.2.2.2.1 * r3.2.2.1.2.1)) + r3.2.2.1.2.2.2.2.1)))
     (cond (r3.1 == 2)
      (some r3.2.2.1.2.2.2.2.2.2)
      (cond (r3.1 == 3)
       (some r3.2.2.2.2)
       (some r3.2.2.2.1))))))
  ((spec_pzValue_l_2 k (kind, a, (w_Rule, w_Width, w_Height, w_Cells, w_X, w_Y, w_Way), 0, 0, 0)).bind fun r4 =>
   cond (r4.1 == 0)
   (cond (inB r4.2.1 r4.2.2.1.2.2.2.1.size)
    (some (w64 (w8 ((bt r4.2.2.1.2.2.2.1 r4.2.1.toNat) - 48))))
    (none))
   (cond (r4.1 == 1)
    (some (w64 ((w64 (r4.2.2.1.2.2.2.2.2.1 * r4.2.2.1.2.1)) + r4.2.2.1.2.2.2.2.1)))
    (cond (r4.1 == 2)
     (some r4.2.2.1.2.2.2.2.2.2)
     (cond (r4.1 == 3)
      (some r4.2.2.2.2)
      (some r4.2.2.2.1))))) := by kernel_rfl
theorem spec_pzValue_l.eq (k : Nat) (kind : Int) (a : Int) (w_Rule : ByteArray) (w_Width : Int) (w_Height : Int) (w_Cells : ByteArray) (w_X : Int) (w_Y : Int) (w_Way : Int) (sum : Int) (free : Int) : spec_pzValue_l (k + 1) (kind, a, (w_Rule, w_Width, w_Height, w_Cells, w_X, w_Y, w_Way), sum, free) =
  cond (decide (a > 0))
  ((spec_woStep k (w_Rule, w_Width, w_Height, w_Cells, w_X, w_Y, w_Way)).bind fun r1 =>
   spec_pzValue_l k (kind, (w64 (a - 1)), r1, sum, free))
  (some (kind, a, (w_Rule, w_Width, w_Height, w_Cells, w_X, w_Y, w_Way), sum, free)) := by kernel_rfl
theorem spec_woStep.eq (k : Nat) (w_Rule : ByteArray) (w_Width : Int) (w_Height : Int) (w_Cells : ByteArray) (w_X : Int) (w_Y : Int) (w_Way : Int) : spec_woStep (k + 1) (w_Rule, w_Width, w_Height, w_Cells, w_X, w_Y, w_Way) =
  (spec_woColour k ((w_Rule, w_Width, w_Height, w_Cells, w_X, w_Y, w_Way), w_X, w_Y)).bind fun r1 =>
  cond (inB r1 w_Rule.size)
  ((spec_woTurn k (bt w_Rule r1.toNat)).bind fun r2 =>
   cond ((w_Rule.size : Int) != 0)
   ((spec_woPaint k ((w_Rule, w_Width, w_Height, w_Cells, w_X, w_Y, ((w64 (w_Way + r2)).tmod 4)), w_X, w_Y, ((w64 (r1 + 1)).tmod (w_Rule.size : Int)))).bind fun r3 =>
    (spec_woGo k (r3.2, 1)).bind fun r4 =>
    some r4.2)
   (none))
  (none) := by kernel_rfl
theorem spec_woColour.eq (k : Nat) (w_Rule : ByteArray) (w_Width : Int) (w_Height : Int) (w_Cells : ByteArray) (w_X : Int) (w_Y : Int) (w_Way : Int) (x : Int) (y : Int) : spec_woColour (k + 1) ((w_Rule, w_Width, w_Height, w_Cells, w_X, w_Y, w_Way), x, y) =
  cond (inB (w64 ((w64 (y * w_Width)) + x)) w_Cells.size)
  (some (w64 (w8 ((bt w_Cells ((w64 ((w64 (y * w_Width)) + x)).toNat)) - 48))))
  (none) := by kernel_rfl
theorem spec_woTurn.eq (k : Nat) (sign : Int) : spec_woTurn (k + 1) sign =
  cond (sign == 82)
  (some 1)
  (cond (sign == 85)
   (some 2)
   (cond (sign == 76)
    (some 3)
    (some 0))) := by kernel_rfl
theorem spec_woPaint.eq (k : Nat) (w_Rule : ByteArray) (w_Width : Int) (w_Height : Int) (w_Cells : ByteArray) (w_X : Int) (w_Y : Int) (w_Way : Int) (x : Int) (y : Int) (colour : Int) : spec_woPaint (k + 1) ((w_Rule, w_Width, w_Height, w_Cells, w_X, w_Y, w_Way), x, y, colour) =
  cond ((decide ((0 : Int) ≤ (w64 ((w64 (y * w_Width)) + x)))) && (decide ((w64 ((w64 (y * w_Width)) + x)) ≤ (w_Cells.size : Int))))
  ((spec_l1Num k colour).bind fun r1 =>
   cond (fitS (w_Cells.extract 0 ((w64 ((w64 (y * w_Width)) + x)).toNat)) r1)
   (cond ((decide ((0 : Int) ≤ (w64 ((w64 ((w64 (y * w_Width)) + x)) + 1)))) && (decide ((w64 ((w64 ((w64 (y * w_Width)) + x)) + 1)) ≤ (w_Cells.size : Int))))
    (cond (fitS ((w_Cells.extract 0 ((w64 ((w64 (y * w_Width)) + x)).toNat)) ++ r1) (w_Cells.extract ((w64 ((w64 ((w64 (y * w_Width)) + x)) + 1)).toNat) w_Cells.size))
     (some ((), (w_Rule, w_Width, w_Height, (((w_Cells.extract 0 ((w64 ((w64 (y * w_Width)) + x)).toNat)) ++ r1) ++ (w_Cells.extract ((w64 ((w64 ((w64 (y * w_Width)) + x)) + 1)).toNat) w_Cells.size)), w_X, w_Y, w_Way)))
     (none))
    (none))
   (none))
  (none) := by kernel_rfl
theorem spec_l1Num.eq (k : Nat) (n : Int) : spec_l1Num (k + 1) n =
  cond (decide (n < 10))
  (some (ofBytes [(w8 (w64 (48 + n)))]))
  ((spec_l1Num k (w64 (n.tdiv 10))).bind fun r1 =>
   cond (fitS r1 (ofBytes [(w8 (w64 (48 + (n.tmod 10))))]))
   (some (r1 ++ (ofBytes [(w8 (w64 (48 + (n.tmod 10))))])))
   (none)) := by kernel_rfl
theorem spec_woGo.eq (k : Nat) (w_Rule : ByteArray) (w_Width : Int) (w_Height : Int) (w_Cells : ByteArray) (w_X : Int) (w_Y : Int) (w_Way : Int) (cells : Int) : spec_woGo (k + 1) ((w_Rule, w_Width, w_Height, w_Cells, w_X, w_Y, w_Way), cells) =
  cond (w_Way == 0)
  ((spec_l1Mod k ((w64 (w_Y - cells)), w_Height)).bind fun r1 =>
   some ((), (w_Rule, w_Width, w_Height, w_Cells, w_X, r1, w_Way)))
  (cond (w_Way == 1)
   ((spec_l1Mod k ((w64 (w_X + cells)), w_Width)).bind fun r2 =>
    some ((), (w_Rule, w_Width, w_Height, w_Cells, r2, w_Y, w_Way)))
   (cond (w_Way == 2)
    ((spec_l1Mod k ((w64 (w_Y + cells)), w_Height)).bind fun r3 =>
     some ((), (w_Rule, w_Width, w_Height, w_Cells, w_X, r3, w_Way)))
    ((spec_l1Mod k ((w64 (w_X - cells)), w_Width)).bind fun r4 =>
     some ((), (w_Rule, w_Width, w_Height, w_Cells, r4, w_Y, w_Way))))) := by kernel_rfl
theorem spec_l1Mod.eq (k : Nat) (n : Int) (m : Int) : spec_l1Mod (k + 1) (n, m) =
  cond (m != 0)
  (cond (m != 0)
   (some ((w64 ((n.tmod m) + m)).tmod m))
   (none))
  (none) := by kernel_rfl
theorem spec_pzValue_l_2.eq (k : Nat) (kind : Int) (a : Int) (w_Rule : ByteArray) (w_Width : Int) (w_Height : Int) (w_Cells : ByteArray) (w_X : Int) (w_Y : Int) (w_Way : Int) (sum : Int) (free : Int) (i : Int) : spec_pzValue_l_2 (k + 1) (kind, a, (w_Rule, w_Width, w_Height, w_Cells, w_X, w_Y, w_Way), sum, free, i) =
  cond (decide (i < (w_Cells.size : Int)))
  (cond (inB i w_Cells.size)
   (cond (inB i w_Cells.size)
    (cond ((bt w_Cells i.toNat) == 48)
     (spec_pzValue_l_2 k (kind, a, (w_Rule, w_Width, w_Height, w_Cells, w_X, w_Y, w_Way), (w64 (sum + (w64 (w8 ((bt w_Cells i.toNat) - 48))))), (w64 (free + 1)), (w64 (i + 1))))
     (spec_pzValue_l_2 k (kind, a, (w_Rule, w_Width, w_Height, w_Cells, w_X, w_Y, w_Way), (w64 (sum + (w64 (w8 ((bt w_Cells i.toNat) - 48))))), free, (w64 (i + 1)))))
    (none))
   (none))
  (some (kind, a, (w_Rule, w_Width, w_Height, w_Cells, w_X, w_Y, w_Way), sum, free)) := by kernel_rfl
theorem spec_pzLook_l_2.eq (k : Nat) (begin : ByteArray) (out_ : List ByteArray) (p_Rule : ByteArray) (p_Width : Int) (p_Height : Int) (p_Clues : List (Int × (Int × Int))) (t48 : Int) (t49 : Int) : spec_pzLook_l_2 (k + 1) (begin, out_, (p_Rule, p_Width, p_Height, p_Clues), t48, t49, ()) =
  cond (decide (t49 < t48))
  ((spec_l1Num k t49).bind fun r1 =>
   cond (fitS begin r1)
   ((spec_pzLook k ((p_Rule, p_Width, p_Height, p_Clues), (begin ++ r1), out_)).bind fun r2 =>
    spec_pzLook_l_2 k (begin, r2.2, (p_Rule, p_Width, p_Height, p_Clues), t48, (w64 (t49 + 1)), ()))
   (none))
  (some out_) := by kernel_rfl
theorem spec_HarderPuzzle_l.eq (k : Nat) (p_Rule : ByteArray) (p_Width : Int) (p_Height : Int) (p_Clues : List (Int × (Int × Int))) (t2_Rule : ByteArray) (t2_Width : Int) (t2_Height : Int) (t2_Clues : List (Int × (Int × Int))) (clues : List (Int × (Int × Int))) (k_ : Int) : spec_HarderPuzzle_l (k + 1) ((p_Rule, p_Width, p_Height, p_Clues), (t2_Rule, t2_Width, t2_Height, t2_Clues), clues, k_) =
  cond (decide (k_ < (clues.length : Int)))
  ((spec_pzWithout k (clues, k_)).bind fun r1 =>
   (spec_pzSolved_2 k ((p_Rule, p_Width, p_Height, p_Clues), r1)).bind fun r2 =>
   cond r2
   (spec_HarderPuzzle_l k ((p_Rule, p_Width, p_Height, p_Clues), (t2_Rule, t2_Width, t2_Height, t2_Clues), r1, k_))
   (spec_HarderPuzzle_l k ((p_Rule, p_Width, p_Height, p_Clues), (t2_Rule, t2_Width, t2_Height, t2_Clues), clues, (w64 (k_ + 1)))))
  (some ((p_Rule, p_Width, p_Height, p_Clues), (t2_Rule, t2_Width, t2_Height, t2_Clues), clues)) := by kernel_rfl
theorem spec_pzSolved_2.eq (k : Nat) (p_Rule : ByteArray) (p_Width : Int) (p_Height : Int) (p_Clues : List (Int × (Int × Int))) (clues : List (Int × (Int × Int))) : spec_pzSolved_2 (k + 1) ((p_Rule, p_Width, p_Height, p_Clues), clues) =
  (spec_pzWith k ((p_Rule, p_Width, p_Height, p_Clues), clues)).bind fun r1 =>
  (spec_pzAll k r1).bind fun r2 =>
  some ((r2.length : Int) == 1) := by kernel_rfl
theorem impl_HarderPuzzle.eq (k : Nat) (p_Rule : ByteArray) (p_Width : Int) (p_Height : Int) (p_Clues : List (Int × (Int × Int))) : impl_HarderPuzzle (k + 1) (p_Rule, p_Width, p_Height, p_Clues) =
  (impl_IsSolved k (p_Rule, p_Width, p_Height, p_Clues)).bind fun r1 =>
  cond (!r1.1)
  (some ((ByteArray.empty, 0, 0, []), false))
  ((slices_Clone k p_Clues).bind fun r2 =>
   (impl_HarderPuzzle_l k ((p_Rule, p_Width, p_Height, p_Clues), (ByteArray.empty, 0, 0, []), r2, 0)).bind fun r3 =>
   (impl_Puzzle_changed k (r3.1, r3.2.2)).bind fun r4 =>
   some (r4, true)) := by kernel_rfl
theorem impl_IsSolved.eq (k : Nat) (p_Rule : ByteArray) (p_Width : Int) (p_Height : Int) (p_Clues : List (Int × (Int × Int))) : impl_IsSolved (k + 1) (p_Rule, p_Width, p_Height, p_Clues) =
  (impl_CountSolutions k (p_Rule, p_Width, p_Height, p_Clues)).bind fun r1 =>
  some ((r1.1 == 1), r1.2) := by kernel_rfl
theorem impl_CountSolutions.eq (k : Nat) (p_Rule : ByteArray) (p_Width : Int) (p_Height : Int) (p_Clues : List (Int × (Int × Int))) : impl_CountSolutions (k + 1) (p_Rule, p_Width, p_Height, p_Clues) =
  (impl_Solutions k (p_Rule, p_Width, p_Height, p_Clues)).bind fun r1 =>
  some ((r1.1.length : Int), r1.2) := by kernel_rfl
theorem impl_Solutions.eq (k : Nat) (p_Rule : ByteArray) (p_Width : Int) (p_Height : Int) (p_Clues : List (Int × (Int × Int))) : impl_Solutions (k + 1) (p_Rule, p_Width, p_Height, p_Clues) =
  (impl_IsPuzzle k (p_Rule, p_Width, p_Height, p_Clues)).bind fun r1 =>
  cond (!r1)
  (some ([], false))
  ((impl_Puzzle_with k ((p_Rule, p_Width, p_Height, p_Clues), ())).bind fun r2 =>
   some (r2, true)) := by kernel_rfl
theorem impl_Puzzle_with.eq (k : Nat) (p_Rule : ByteArray) (p_Width : Int) (p_Height : Int) (p_Clues : List (Int × (Int × Int))) : impl_Puzzle_with (k + 1) ((p_Rule, p_Width, p_Height, p_Clues), ()) =
  (impl_digits k ((p_Rule.size : Int), (w64 (p_Width * p_Height)))).bind fun r1 =>
  (slices_DeleteFunc k (r1, ((p_Rule, p_Width, p_Height, p_Clues), ()))).bind fun r2 =>
  some r2 := by kernel_rfl
theorem impl_digits.eq (k : Nat) (tints : Int) (many : Int) : impl_digits (k + 1) (tints, many) =
  (impl_digits_l k (tints, [ByteArray.empty], many, 0)).bind fun r1 =>
  some r1 := by kernel_rfl
theorem impl_digits_l.eq (k : Nat) (tints : Int) (out : List ByteArray) (t11 : Int) (t12 : Int) : impl_digits_l (k + 1) (tints, out, t11, t12) =
  cond (decide (t12 < t11))
  ((impl_digits_l_l k (tints, [], t11, t12, out, (out.length : Int), 0)).bind fun r1 =>
   impl_digits_l k (r1.1, r1.2.1, r1.2.2.1, (w64 (r1.2.2.2 + 1))))
  (some out) := by kernel_rfl
theorem impl_digits_l_l.eq (k : Nat) (tints : Int) (next_ : List ByteArray) (t11 : Int) (t12 : Int) (t15 : List ByteArray) (t16 : Int) (t17 : Int) : impl_digits_l_l (k + 1) (tints, next_, t11, t12, t15, t16, t17) =
  cond (decide (t17 < t16))
  (cond (inB t17 t15.length)
   ((impl_digits_l_l_l k (tints, next_, (t15.getD t17.toNat default), t11, t12, t15, t16, t17, tints, 0)).bind fun r1 =>
    impl_digits_l_l k (r1.1, r1.2.1, r1.2.2.1, r1.2.2.2.1, r1.2.2.2.2.1, r1.2.2.2.2.2.1, (w64 (r1.2.2.2.2.2.2 + 1))))
   (none))
  (some (tints, next_, t11, t12)) := by kernel_rfl
theorem impl_digits_l_l_l.eq (k : Nat) (tints : Int) (next_ : List ByteArray) (s : ByteArray) (t11 : Int) (t12 : Int) (t15 : List ByteArray) (t16 : Int) (t17 : Int) (t21 : Int) (t22 : Int) : impl_digits_l_l_l (k + 1) (tints, next_, s, t11, t12, t15, t16, t17, t21, t22) =
  cond (decide (t22 < t21))
  (cond (fitS s (ofBytes [(w8 (w64 (48 + t22)))]))
   (cond (fits (next_.length + 1) 16)
    (impl_digits_l_l_l k (tints, (next_ ++ [(s ++ (ofBytes [(w8 (w64 (48 + t22)))]))]), s, t11, t12, t15, t16, t17, t21, (w64 (t22 + 1))))
    (none))
   (none))
  (some (tints, next_, t11, t12, t15, t16, t17)) := by kernel_rfl
theorem slices_DeleteFunc.eq (k : Nat) (s : List ByteArray) (del_0 : ByteArray) (del_01 : Int) (del_02 : Int) (del_03 : List (Int × (Int × Int))) : slices_DeleteFunc (k + 1) (s, ((del_0, del_01, del_02, del_03), ())) =
  (slices_IndexFunc_2 k (s, ((del_0, del_01, del_02, del_03), ()))).bind fun r1 =>
  cond (r1 == (-1))
  (some s)
  ((slices_DeleteFunc_l k (s, ((del_0, del_01, del_02, del_03), ()), r1, (w64 (r1 + 1)))).bind fun r2 =>
   cond ((decide ((0 : Int) ≤ r2.2)) && (decide (r2.2 ≤ (r2.1.length : Int))))
   (cond ((decide ((0 : Int) ≤ r2.2)) && (decide (r2.2 ≤ ((((r2.1.take r2.2.toNat) ++ (List.replicate (r2.1.length - r2.2.toNat) ByteArray.empty)) ++ (r2.1.drop (r2.2.toNat + (r2.1.length - r2.2.toNat)))).length : Int))))
    (some ((((r2.1.take r2.2.toNat) ++ (List.replicate (r2.1.length - r2.2.toNat) ByteArray.empty)) ++ (r2.1.drop (r2.2.toNat + (r2.1.length - r2.2.toNat)))).take r2.2.toNat))
    (none))
   (none)) := by kernel_rfl
theorem slices_IndexFunc_2.eq (k : Nat) (s : List ByteArray) (f_0 : ByteArray) (f_01 : Int) (f_02 : Int) (f_03 : List (Int × (Int × Int))) : slices_IndexFunc_2 (k + 1) (s, ((f_0, f_01, f_02, f_03), ())) =
  (slices_IndexFunc_2_l k (s, ((f_0, f_01, f_02, f_03), ()), (s.length : Int), 0)).bind fun r1 =>
  r1.elim
  (fun r2 => some r2)
  (fun r3 => some (-1)) := by kernel_rfl
theorem slices_IndexFunc_2_l.eq (k : Nat) (s : List ByteArray) (f_0 : ByteArray) (f_01 : Int) (f_02 : Int) (f_03 : List (Int × (Int × Int))) (t7 : Int) (t8 : Int) : slices_IndexFunc_2_l (k + 1) (s, ((f_0, f_01, f_02, f_03), ()), t7, t8) =
  cond (decide (t8 < t7))
  (cond (inB t8 s.length)
   ((impl_Puzzle_with_1 k ((s.getD t8.toNat default), (f_0, f_01, f_02, f_03), ())).bind fun r1 =>
    cond r1
    (some (.inl t8))
    (slices_IndexFunc_2_l k (s, ((f_0, f_01, f_02, f_03), ()), t7, (w64 (t8 + 1)))))
   (none))
  (some (.inr ())) := by kernel_rfl
theorem impl_Puzzle_with_1.eq (k : Nat) (cells : ByteArray) (t1_0 : ByteArray) (t1_1 : Int) (t1_2 : Int) (t1_3 : List (Int × (Int × Int))) : impl_Puzzle_with_1 (k + 1) (cells, (t1_0, t1_1, t1_2, t1_3), ()) =
  (slices_ContainsFunc_2 k (t1_3, (t1_0, t1_1, t1_2, cells, 0, 0, 0))).bind fun r1 =>
  some r1 := by kernel_rfl
theorem slices_ContainsFunc_2.eq (k : Nat) (s : List (Int × (Int × Int))) (f_0 : ByteArray) (f_01 : Int) (f_02 : Int) (f_03 : ByteArray) (f_04 : Int) (f_05 : Int) (f_06 : Int) : slices_ContainsFunc_2 (k + 1) (s, (f_0, f_01, f_02, f_03, f_04, f_05, f_06)) =
  (slices_IndexFunc_3 k (s, (f_0, f_01, f_02, f_03, f_04, f_05, f_06))).bind fun r1 =>
  some (decide (r1 ≥ 0)) := by kernel_rfl
theorem slices_IndexFunc_3.eq (k : Nat) (s : List (Int × (Int × Int))) (f_0 : ByteArray) (f_01 : Int) (f_02 : Int) (f_03 : ByteArray) (f_04 : Int) (f_05 : Int) (f_06 : Int) : slices_IndexFunc_3 (k + 1) (s, (f_0, f_01, f_02, f_03, f_04, f_05, f_06)) =
  (slices_IndexFunc_3_l k (s, (f_0, f_01, f_02, f_03, f_04, f_05, f_06), (s.length : Int), 0)).bind fun r1 =>
  r1.elim
  (fun r2 => some r2)
  (fun r3 => some (-1)) := by kernel_rfl
theorem slices_IndexFunc_3_l.eq (k : Nat) (s : List (Int × (Int × Int))) (f_0 : ByteArray) (f_01 : Int) (f_02 : Int) (f_03 : ByteArray) (f_04 : Int) (f_05 : Int) (f_06 : Int) (t7 : Int) (t8 : Int) : slices_IndexFunc_3_l (k + 1) (s, (f_0, f_01, f_02, f_03, f_04, f_05, f_06), t7, t8) =
  cond (decide (t8 < t7))
  (cond (inB t8 s.length)
   ((impl_Puzzle_with_1_1 k ((s.getD t8.toNat default), (f_0, f_01, f_02, f_03, f_04, f_05, f_06))).bind fun r1 =>
    cond r1
    (some (.inl t8))
    (slices_IndexFunc_3_l k (s, (f_0, f_01, f_02, f_03, f_04, f_05, f_06), t7, (w64 (t8 + 1)))))
   (none))
  (some (.inr ())) := by kernel_rfl
theorem impl_Puzzle_with_1_1.eq (k : Nat) (c_Kind : Int) (c_A : Int) (c_B : Int) (t1_0 : ByteArray) (t1_1 : Int) (t1_2 : Int) (t1_3 : ByteArray) (t1_4 : Int) (t1_5 : Int) (t1_6 : Int) : impl_Puzzle_with_1_1 (k + 1) ((c_Kind, c_A, c_B), (t1_0, t1_1, t1_2, t1_3, t1_4, t1_5, t1_6)) =
  (impl_Clue_fits k ((c_Kind, c_A, c_B), (t1_0, t1_1, t1_2, t1_3, t1_4, t1_5, t1_6))).bind fun r1 =>
  some (!r1) := by kernel_rfl
theorem impl_Clue_fits.eq (k : Nat) (c_Kind : Int) (c_A : Int) (c_B : Int) (w_Rule : ByteArray) (w_Width : Int) (w_Height : Int) (w_Cells : ByteArray) (w_X : Int) (w_Y : Int) (w_Way : Int) : impl_Clue_fits (k + 1) ((c_Kind, c_A, c_B), (w_Rule, w_Width, w_Height, w_Cells, w_X, w_Y, w_Way)) =
  cond (c_Kind == 4)
  ((impl_told k (4, 0, (w_Rule, w_Width, w_Height, w_Cells, w_X, w_Y, w_Way))).bind fun r1 =>
   some (r1 == c_A))
  ((impl_told k (c_Kind, c_A, (w_Rule, w_Width, w_Height, w_Cells, w_X, w_Y, w_Way))).bind fun r2 =>
   some (r2 == c_B)) := by kernel_rfl
theorem impl_told.eq (k : Nat) (kind : Int) (a : Int) (w_Rule : ByteArray) (w_Width : Int) (w_Height : Int) (w_Cells : ByteArray) (w_X : Int) (w_Y : Int) (w_Way : Int) : impl_told (k + 1) (kind, a, (w_Rule, w_Width, w_Height, w_Cells, w_X, w_Y, w_Way)) =
  cond (kind == 0)
  (cond (inB a w_Cells.size)
   (some (w64 (w8 ((bt w_Cells a.toNat) - 48))))
   (none))
  (cond (kind == 4)
   ((impl_told_l k (0, (bytesOf w_Cells), ((bytesOf w_Cells).length : Int), 0)).bind fun r1 =>
    some r1)
   ((impl_told_l_2 k (kind, (w_Rule, w_Width, w_Height, w_Cells, w_X, w_Y, w_Way), a, 0)).bind fun r2 =>
    cond (r2.1 == 1)
    ((impl_World_at k r2.2).bind fun r3 =>
     some r3)
    (cond (r2.1 == 2)
     (some r2.2.2.2.2.2.2.2)
     ((strings_Count k (r2.2.2.2.2.1, (bs [48]))).bind fun r4 =>
      some r4)))) := by kernel_rfl
theorem impl_told_l.eq (k : Nat) (all : Int) (t23 : List Int) (t24 : Int) (t25 : Int) : impl_told_l (k + 1) (all, t23, t24, t25) =
  cond (decide (t25 < t24))
  (cond (inB t25 t23.length)
   (impl_told_l k ((w64 (all + (w64 (w8 ((t23.getD t25.toNat default) - 48))))), t23, t24, (w64 (t25 + 1))))
   (none))
  (some all) := by kernel_rfl
theorem impl_told_l_2.eq (k : Nat) (kind : Int) (w_Rule : ByteArray) (w_Width : Int) (w_Height : Int) (w_Cells : ByteArray) (w_X : Int) (w_Y : Int) (w_Way : Int) (t36 : Int) (t37 : Int) : impl_told_l_2 (k + 1) (kind, (w_Rule, w_Width, w_Height, w_Cells, w_X, w_Y, w_Way), t36, t37) =
  cond (decide (t37 < t36))
  ((impl_World_step k (w_Rule, w_Width, w_Height, w_Cells, w_X, w_Y, w_Way)).bind fun r1 =>
   impl_told_l_2 k (kind, r1, t36, (w64 (t37 + 1))))
  (some (kind, (w_Rule, w_Width, w_Height, w_Cells, w_X, w_Y, w_Way))) := by kernel_rfl
theorem impl_World_step.eq (k : Nat) (w_Rule : ByteArray) (w_Width : Int) (w_Height : Int) (w_Cells : ByteArray) (w_X : Int) (w_Y : Int) (w_Way : Int) : impl_World_step (k + 1) (w_Rule, w_Width, w_Height, w_Cells, w_X, w_Y, w_Way) =
  (impl_World_colour k (w_Rule, w_Width, w_Height, w_Cells, w_X, w_Y, w_Way)).bind fun r1 =>
  cond (inB r1 w_Rule.size)
  ((impl_quarters k (bt w_Rule r1.toNat)).bind fun r2 =>
   (impl_World_at k (w_Rule, w_Width, w_Height, w_Cells, w_X, w_Y, ((w64 (w_Way + r2)).tmod 4))).bind fun r3 =>
   cond ((w_Rule.size : Int) != 0)
   ((impl_painted k (w_Cells, r3, ((w64 (r1 + 1)).tmod (w_Rule.size : Int)))).bind fun r4 =>
    (impl_World_gone k ((w_Rule, w_Width, w_Height, r4, w_X, w_Y, ((w64 (w_Way + r2)).tmod 4)), 1)).bind fun r5 =>
    some r5)
   (none))
  (none) := by kernel_rfl
theorem impl_World_colour.eq (k : Nat) (w_Rule : ByteArray) (w_Width : Int) (w_Height : Int) (w_Cells : ByteArray) (w_X : Int) (w_Y : Int) (w_Way : Int) : impl_World_colour (k + 1) (w_Rule, w_Width, w_Height, w_Cells, w_X, w_Y, w_Way) =
  (impl_World_at k (w_Rule, w_Width, w_Height, w_Cells, w_X, w_Y, w_Way)).bind fun r1 =>
  cond (inB r1 w_Cells.size)
  (some (w64 (w8 ((bt w_Cells r1.toNat) - 48))))
  (none) := by kernel_rfl
theorem impl_World_at.eq (k : Nat) (w_Rule : ByteArray) (w_Width : Int) (w_Height : Int) (w_Cells : ByteArray) (w_X : Int) (w_Y : Int) (w_Way : Int) : impl_World_at (k + 1) (w_Rule, w_Width, w_Height, w_Cells, w_X, w_Y, w_Way) =
  some (w64 ((w64 (w_Y * w_Width)) + w_X)) := by kernel_rfl
theorem impl_quarters.eq (k : Nat) (sign : Int) : impl_quarters (k + 1) sign =
  cond (sign == 76)
  (some 3)
  (cond (sign == 82)
   (some 1)
   (cond (sign == 85)
    (some 2)
    (some 0))) := by kernel_rfl
theorem impl_painted.eq (k : Nat) (cells : ByteArray) (k_ : Int) (tint : Int) : impl_painted (k + 1) (cells, k_, tint) =
  cond (inB k_ ((bytesOf cells).length))
  (some (ofBytes ((bytesOf cells).set k_.toNat (w8 (w64 (48 + tint))))))
  (none) := by kernel_rfl
theorem impl_World_gone.eq (k : Nat) (w_Rule : ByteArray) (w_Width : Int) (w_Height : Int) (w_Cells : ByteArray) (w_X : Int) (w_Y : Int) (w_Way : Int) (by_ : Int) : impl_World_gone (k + 1) ((w_Rule, w_Width, w_Height, w_Cells, w_X, w_Y, w_Way), by_) =
  (impl_ahead k w_Way).bind fun r1 =>
  cond (w_Width != 0)
  (cond (w_Height != 0)
   (some (w_Rule, w_Width, w_Height, w_Cells, ((w64 ((w64 (w_X + (w64 (by_ * r1.1)))) + w_Width)).tmod w_Width), ((w64 ((w64 (w_Y + (w64 (by_ * r1.2)))) + w_Height)).tmod w_Height), w_Way))
   (none))
  (none) := by kernel_rfl
theorem impl_ahead.eq (k : Nat) (way : Int) : impl_ahead (k + 1) way =
  cond (inB way 4)
  (cond (inB way 4)
   (some ((([0, 1, 0, (-1)] : List Int).getD way.toNat default), (([(-1), 0, 1, 0] : List Int).getD way.toNat default)))
   (none))
  (none) := by kernel_rfl
theorem strings_Count.eq (k : Nat) (d : ByteArray × ByteArray) : strings_Count (k + 1) d = (fun d => strCount1 d.1 d.2) d := by kernel_rfl
theorem slices_DeleteFunc_l.eq (k : Nat) (s : List ByteArray) (del_0 : ByteArray) (del_01 : Int) (del_02 : Int) (del_03 : List (Int × (Int × Int))) (i : Int) (j : Int) : slices_DeleteFunc_l (k + 1) (s, ((del_0, del_01, del_02, del_03), ()), i, j) =
  cond (decide (j < (s.length : Int)))
  (cond (inB j s.length)
   ((impl_Puzzle_with_1 k ((s.getD j.toNat default), (del_0, del_01, del_02, del_03), ())).bind fun r1 =>
    cond (!r1)
    (cond (inB i s.length)
     (slices_DeleteFunc_l k ((s.set i.toNat (s.getD j.toNat default)), ((del_0, del_01, del_02, del_03), ()), (w64 (i + 1)), (w64 (j + 1))))
     (none))
    (slices_DeleteFunc_l k (s, ((del_0, del_01, del_02, del_03), ()), i, (w64 (j + 1)))))
   (none))
  (some (s, i)) := by kernel_rfl
theorem impl_HarderPuzzle_l.eq (k : Nat) (p_Rule : ByteArray) (p_Width : Int) (p_Height : Int) (p_Clues : List (Int × (Int × Int))) (t2_Rule : ByteArray) (t2_Width : Int) (t2_Height : Int) (t2_Clues : List (Int × (Int × Int))) (left : List (Int × (Int × Int))) (k_ : Int) : impl_HarderPuzzle_l (k + 1) ((p_Rule, p_Width, p_Height, p_Clues), (t2_Rule, t2_Width, t2_Height, t2_Clues), left, k_) =
  cond (decide (k_ < (left.length : Int)))
  ((impl_dropped k (left, k_)).bind fun r1 =>
   (impl_Puzzle_with_2 k ((p_Rule, p_Width, p_Height, p_Clues), r1)).bind fun r2 =>
   cond ((r2.length : Int) == 1)
   (impl_HarderPuzzle_l k ((p_Rule, p_Width, p_Height, p_Clues), (t2_Rule, t2_Width, t2_Height, t2_Clues), r1, k_))
   (impl_HarderPuzzle_l k ((p_Rule, p_Width, p_Height, p_Clues), (t2_Rule, t2_Width, t2_Height, t2_Clues), left, (w64 (k_ + 1)))))
  (some ((p_Rule, p_Width, p_Height, p_Clues), (t2_Rule, t2_Width, t2_Height, t2_Clues), left)) := by kernel_rfl
theorem impl_Puzzle_with_2.eq (k : Nat) (p_Rule : ByteArray) (p_Width : Int) (p_Height : Int) (p_Clues : List (Int × (Int × Int))) (clues : List (Int × (Int × Int))) : impl_Puzzle_with_2 (k + 1) ((p_Rule, p_Width, p_Height, p_Clues), clues) =
  (impl_digits k ((p_Rule.size : Int), (w64 (p_Width * p_Height)))).bind fun r1 =>
  (slices_DeleteFunc_2 k (r1, ((p_Rule, p_Width, p_Height, p_Clues), clues))).bind fun r2 =>
  some r2 := by kernel_rfl
theorem slices_DeleteFunc_2.eq (k : Nat) (s : List ByteArray) (del_0 : ByteArray) (del_01 : Int) (del_02 : Int) (del_03 : List (Int × (Int × Int))) (del_1 : List (Int × (Int × Int))) : slices_DeleteFunc_2 (k + 1) (s, ((del_0, del_01, del_02, del_03), del_1)) =
  (slices_IndexFunc_4 k (s, ((del_0, del_01, del_02, del_03), del_1))).bind fun r1 =>
  cond (r1 == (-1))
  (some s)
  ((slices_DeleteFunc_2_l k (s, ((del_0, del_01, del_02, del_03), del_1), r1, (w64 (r1 + 1)))).bind fun r2 =>
   cond ((decide ((0 : Int) ≤ r2.2)) && (decide (r2.2 ≤ (r2.1.length : Int))))
   (cond ((decide ((0 : Int) ≤ r2.2)) && (decide (r2.2 ≤ ((((r2.1.take r2.2.toNat) ++ (List.replicate (r2.1.length - r2.2.toNat) ByteArray.empty)) ++ (r2.1.drop (r2.2.toNat + (r2.1.length - r2.2.toNat)))).length : Int))))
    (some ((((r2.1.take r2.2.toNat) ++ (List.replicate (r2.1.length - r2.2.toNat) ByteArray.empty)) ++ (r2.1.drop (r2.2.toNat + (r2.1.length - r2.2.toNat)))).take r2.2.toNat))
    (none))
   (none)) := by kernel_rfl
theorem slices_IndexFunc_4.eq (k : Nat) (s : List ByteArray) (f_0 : ByteArray) (f_01 : Int) (f_02 : Int) (f_03 : List (Int × (Int × Int))) (f_1 : List (Int × (Int × Int))) : slices_IndexFunc_4 (k + 1) (s, ((f_0, f_01, f_02, f_03), f_1)) =
  (slices_IndexFunc_4_l k (s, ((f_0, f_01, f_02, f_03), f_1), (s.length : Int), 0)).bind fun r1 =>
  r1.elim
  (fun r2 => some r2)
  (fun r3 => some (-1)) := by kernel_rfl
theorem slices_IndexFunc_4_l.eq (k : Nat) (s : List ByteArray) (f_0 : ByteArray) (f_01 : Int) (f_02 : Int) (f_03 : List (Int × (Int × Int))) (f_1 : List (Int × (Int × Int))) (t7 : Int) (t8 : Int) : slices_IndexFunc_4_l (k + 1) (s, ((f_0, f_01, f_02, f_03), f_1), t7, t8) =
  cond (decide (t8 < t7))
  (cond (inB t8 s.length)
   ((impl_Puzzle_with_1_2 k ((s.getD t8.toNat default), (f_0, f_01, f_02, f_03), f_1)).bind fun r1 =>
    cond r1
    (some (.inl t8))
    (slices_IndexFunc_4_l k (s, ((f_0, f_01, f_02, f_03), f_1), t7, (w64 (t8 + 1)))))
   (none))
  (some (.inr ())) := by kernel_rfl
theorem impl_Puzzle_with_1_2.eq (k : Nat) (cells : ByteArray) (t1_0 : ByteArray) (t1_1 : Int) (t1_2 : Int) (t1_3 : List (Int × (Int × Int))) (t2_0 : List (Int × (Int × Int))) : impl_Puzzle_with_1_2 (k + 1) (cells, (t1_0, t1_1, t1_2, t1_3), t2_0) =
  (slices_ContainsFunc_2 k (t2_0, (t1_0, t1_1, t1_2, cells, 0, 0, 0))).bind fun r1 =>
  some r1 := by kernel_rfl
theorem slices_DeleteFunc_2_l.eq (k : Nat) (s : List ByteArray) (del_0 : ByteArray) (del_01 : Int) (del_02 : Int) (del_03 : List (Int × (Int × Int))) (del_1 : List (Int × (Int × Int))) (i : Int) (j : Int) : slices_DeleteFunc_2_l (k + 1) (s, ((del_0, del_01, del_02, del_03), del_1), i, j) =
  cond (decide (j < (s.length : Int)))
  (cond (inB j s.length)
   ((impl_Puzzle_with_1_2 k ((s.getD j.toNat default), (del_0, del_01, del_02, del_03), del_1)).bind fun r1 =>
    cond (!r1)
    (cond (inB i s.length)
     (slices_DeleteFunc_2_l k ((s.set i.toNat (s.getD j.toNat default)), ((del_0, del_01, del_02, del_03), del_1), (w64 (i + 1)), (w64 (j + 1))))
     (none))
    (slices_DeleteFunc_2_l k (s, ((del_0, del_01, del_02, del_03), del_1), i, (w64 (j + 1)))))
   (none))
  (some (s, i)) := by kernel_rfl
theorem laws_FnExactMovePlain.eq (k : Nat) (aP_Rule : ByteArray) (aP_Spots : List (Int × (Int × Int))) (aP_X : Int) (aP_Y : Int) (aP_Way : Int) (aRight : Int) (aDown : Int) : laws_FnExactMovePlain (k + 1) ((aP_Rule, aP_Spots, aP_X, aP_Y, aP_Way), aRight, aDown) =
  (laws_szPlain k ((aP_Rule, aP_Spots, aP_X, aP_Y, aP_Way), 1048576)).bind fun r1 =>
  cond (decide (r1 < 0))
  (some true)
  ((laws_toPlain k (aP_Rule, aP_Spots, aP_X, aP_Y, aP_Way)).bind fun r2 =>
   (spec_MovePlain k (r2, aRight, aDown)).bind fun r3 =>
   (laws_toPlain k (aP_Rule, aP_Spots, aP_X, aP_Y, aP_Way)).bind fun r4 =>
   (impl_MovePlain k (r4, aRight, aDown)).bind fun r5 =>
   (laws_eqPlain k (r5.1, r3.1)).bind fun r6 =>
   cond (!r6)
   (some false)
   (cond (!(r5.2 == r3.2))
    (some false)
    ((laws_toPlain k (aP_Rule, aP_Spots, aP_X, aP_Y, aP_Way)).bind fun r7 =>
     (laws_eqPlain k (r4, r7)).bind fun r8 =>
     cond (!r8)
     (some false)
     ((laws_markPlain k (r4, 1)).bind fun r9 =>
      cond (decide (r9.1 < 0))
      (some false)
      ((laws_eqPlain k (r5.1, r3.1)).bind fun r10 =>
       cond (!r10)
       (some false)
       (cond (!(r5.2 == r3.2))
        (some false)
        ((laws_markPlain k (r5.1, 1)).bind fun r11 =>
         (laws_heldPlain k ((r5.1.1, r11.2.2.1, r5.1.2.2.1, r5.1.2.2.2.1, r5.1.2.2.2.2), 1)).bind fun r12 =>
         cond (decide (r12 < 0))
         (some false)
         (cond (r12 != r11.1)
          (some false)
          ((laws_toPlain k (aP_Rule, aP_Spots, aP_X, aP_Y, aP_Way)).bind fun r13 =>
           (impl_MovePlain k (r13, aRight, aDown)).bind fun r14 =>
           (laws_eqPlain k (r14.1, r3.1)).bind fun r15 =>
           cond (!r15)
           (some false)
           (cond (!(r14.2 == r3.2))
            (some false)
            ((laws_heldPlain k ((r5.1.1, r11.2.2.1, r5.1.2.2.1, r5.1.2.2.2.1, r5.1.2.2.2.2), 1)).bind fun r16 =>
             cond (decide (r16 < 0))
             (some false)
             (cond (r16 != r11.1)
              (some false)
              (some true))))))))))))) := by kernel_rfl
theorem laws_szPlain.eq (k : Nat) (a_Rule : ByteArray) (a_Spots : List (Int × (Int × Int))) (a_X : Int) (a_Y : Int) (a_Way : Int) (left : Int) : laws_szPlain (k + 1) ((a_Rule, a_Spots, a_X, a_Y, a_Way), left) =
  cond (decide ((w64 (left - (a_Rule.size : Int))) < 0))
  (some (-1))
  ((laws_szSpotS k (a_Spots, (w64 (left - (a_Rule.size : Int))))).bind fun r1 =>
   cond (decide (r1 < 0))
   (some (-1))
   (some r1)) := by kernel_rfl
theorem laws_szSpotS.eq (k : Nat) (a : List (Int × (Int × Int))) (left : Int) : laws_szSpotS (k + 1) (a, left) =
  cond (decide ((w64 (left - (a.length : Int))) < 0))
  (some (-1))
  (some (w64 (left - (a.length : Int)))) := by kernel_rfl
theorem laws_toPlain.eq (k : Nat) (a_Rule : ByteArray) (a_Spots : List (Int × (Int × Int))) (a_X : Int) (a_Y : Int) (a_Way : Int) : laws_toPlain (k + 1) (a_Rule, a_Spots, a_X, a_Y, a_Way) =
  (laws_toSpotS k a_Spots).bind fun r1 =>
  some (a_Rule, r1, a_X, a_Y, a_Way) := by kernel_rfl
theorem laws_toSpotS.eq (k : Nat) (a : List (Int × (Int × Int))) : laws_toSpotS (k + 1) a =
  cond (((decide ((0 : Int) ≤ (a.length : Int))) && (decide ((a.length : Int) ≤ (a.length : Int)))) && (fits (a.length : Int).toNat 24))
  ((laws_toSpotS_l k (a, (List.replicate (a.length : Int).toNat (0, (0, 0))), 0)).bind fun r1 =>
   some r1)
  (none) := by kernel_rfl
theorem laws_toSpotS_l.eq (k : Nat) (a : List (Int × (Int × Int))) (out : List (Int × (Int × Int))) (i : Int) : laws_toSpotS_l (k + 1) (a, out, i) =
  cond (decide (i < (a.length : Int)))
  (cond (inB i a.length)
   ((laws_toSpot k (a.getD i.toNat default)).bind fun r1 =>
    cond (inB i out.length)
    (laws_toSpotS_l k (a, (out.set i.toNat r1), (w64 (i + 1))))
    (none))
   (none))
  (some out) := by kernel_rfl
theorem laws_toSpot.eq (k : Nat) (a_X : Int) (a_Y : Int) (a_Colour : Int) : laws_toSpot (k + 1) (a_X, a_Y, a_Colour) =
  some (a_X, a_Y, a_Colour) := by kernel_rfl
theorem spec_MovePlain.eq (k : Nat) (p_Rule : ByteArray) (p_Spots : List (Int × (Int × Int))) (p_X : Int) (p_Y : Int) (p_Way : Int) (right : Int) (down : Int) : spec_MovePlain (k + 1) ((p_Rule, p_Spots, p_X, p_Y, p_Way), right, down) =
  (spec_enCell k ((p_Rule, p_Spots, p_X, p_Y, p_Way), right, down)).bind fun r1 =>
  cond (!r1)
  (some ((ByteArray.empty, [], 0, 0, 0), false))
  ((spec_enMap k ((p_Rule, p_Spots, p_X, p_Y, p_Way), (1, 0, 0, 1, right, down))).bind fun r2 =>
   cond (!r2.2)
   (some ((ByteArray.empty, [], 0, 0, 0), false))
   (some (r2.1, true))) := by kernel_rfl
end Go.Proofs.YthobhonnicadaaaDoorS
