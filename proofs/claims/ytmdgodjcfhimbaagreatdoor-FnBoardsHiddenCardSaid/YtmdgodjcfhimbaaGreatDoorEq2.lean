/- What each function computes (printed by wip/sim/gen.py). -/
import Derived.Test.YtmdgodjcfhimbaaGreatDoorTab
namespace Go.Proofs.YtmdgodjcfhimbaaGreatDoorS
open Go Go.Proofs
set_option maxRecDepth 100000
set_option linter.unusedVariables false
theorem spec_l1Cur_puzzle.eq (k : Nat) (c_code : List Int) (c_at : Int) (c_seed : Int) : spec_l1Cur_puzzle (k + 1) (c_code, c_at, c_seed) =
  (spec_l1Cur_surePuzzle k ((c_code, c_at, c_seed), 5)).bind fun r1 =>
  (spec_l1Cur_pick k (r1.2, 12)).bind fun r2 =>
  cond (r2.1 == 0)
  ((spec_l1Cur_among k (r2.2, [0, 1, 3, 9, 10, 4611686018427387904])).bind fun r3 =>
   some ((r1.1.1, r3.1, r1.1.2.2.1, r1.1.2.2.2), r3.2))
  (cond (r2.1 == 1)
   ((spec_l1Cur_clue k r2.2).bind fun r4 =>
    cond (fits (r1.1.2.2.2.length + 1) 24)
    (some ((r1.1.1, r1.1.2.1, r1.1.2.2.1, (r1.1.2.2.2 ++ [r4.1])), r4.2))
    (none))
   (cond (r2.1 == 2)
    ((spec_l1Cur_puzzle_l k (r2.2, (ByteArray.empty, 0, 0, []), r1.1, ())).bind fun r5 =>
     some r5.2)
    (cond (r2.1 == 3)
     ((spec_l1Cur_rule k r2.2).bind fun r6 =>
      some ((r6.1, r1.1.2.1, r1.1.2.2.1, r1.1.2.2.2), r6.2))
     (some (r1.1, r2.2))))) := by kernel_rfl
theorem spec_l1Cur_surePuzzle.eq (k : Nat) (c_code : List Int) (c_at : Int) (c_seed : Int) (most : Int) : spec_l1Cur_surePuzzle (k + 1) ((c_code, c_at, c_seed), most) =
  (spec_l1Cur_hidden k (c_code, c_at, c_seed)).bind fun r1 =>
  (spec_l1Cur_pick k (r1.2, (w64 (most + 1)))).bind fun r2 =>
  (spec_l1Cur_pick k (r2.2, 10000)).bind fun r3 =>
  (spec_MakePuzzle k (r1.1, r2.1, r3.1)).bind fun r4 =>
  some (r4.1, r3.2) := by kernel_rfl
theorem spec_l1Cur_clue.eq (k : Nat) (c_code : List Int) (c_at : Int) (c_seed : Int) : spec_l1Cur_clue (k + 1) (c_code, c_at, c_seed) =
  (spec_l1Cur_pick k ((c_code, c_at, c_seed), 5)).bind fun r1 =>
  (spec_l1Cur_pick k (r1.2, 9)).bind fun r2 =>
  (spec_l1Cur_pick k (r2.2, 4)).bind fun r3 =>
  (spec_l1Cur_pick k (r3.2, 9)).bind fun r4 =>
  (spec_l1Cur_pick k (r4.2, 4)).bind fun r5 =>
  (spec_l1Cur_pick k (r5.2, 9)).bind fun r6 =>
  cond ((w64 (r1.1 + (w64 (r2.1.tdiv 8)))) == 4)
  ((spec_l1Cur_one k (r6.2, 6)).bind fun r7 =>
   cond (!r7.1)
   (some (((w64 (r1.1 + (w64 (r2.1.tdiv 8)))), (w64 (r3.1 - (w64 (r4.1.tdiv 8)))), 0), r7.2))
   (some (((w64 (r1.1 + (w64 (r2.1.tdiv 8)))), (w64 (r3.1 - (w64 (r4.1.tdiv 8)))), (w64 (r5.1 - (w64 (r6.1.tdiv 8))))), r7.2)))
  (some (((w64 (r1.1 + (w64 (r2.1.tdiv 8)))), (w64 (r3.1 - (w64 (r4.1.tdiv 8)))), (w64 (r5.1 - (w64 (r6.1.tdiv 8))))), r6.2)) := by kernel_rfl
theorem spec_l1Cur_puzzle_l.eq (k : Nat) (c_code : List Int) (c_at : Int) (c_seed : Int) (t2_Rule : ByteArray) (t2_Width : Int) (t2_Height : Int) (t2_Clues : List (Int × (Int × Int))) (p_Rule : ByteArray) (p_Width : Int) (p_Height : Int) (p_Clues : List (Int × (Int × Int))) : spec_l1Cur_puzzle_l (k + 1) ((c_code, c_at, c_seed), (t2_Rule, t2_Width, t2_Height, t2_Clues), (p_Rule, p_Width, p_Height, p_Clues), ()) =
  (spec_l1Cur_pick k ((c_code, c_at, c_seed), 2)).bind fun r1 =>
  cond (decide ((p_Clues.length : Int) < (w64 (6 + r1.1))))
  (cond (fits (p_Clues.length + 1) 24)
   (spec_l1Cur_puzzle_l k (r1.2, (t2_Rule, t2_Width, t2_Height, t2_Clues), (p_Rule, p_Width, p_Height, (p_Clues ++ [(4, (1, 0))])), ()))
   (none))
  (some ((t2_Rule, t2_Width, t2_Height, t2_Clues), (p_Rule, p_Width, p_Height, p_Clues), r1.2)) := by kernel_rfl
theorem spec_DrawHarderPuzzle_l.eq (k : Nat) (t2_Rule : ByteArray) (t2_Width : Int) (t2_Height : Int) (t2_Clues : List (Int × (Int × Int))) (w_Rule : ByteArray) (w_Width : Int) (w_Height : Int) (w_Cells : ByteArray) (w_X : Int) (w_Y : Int) (w_Way : Int) (p_Rule : ByteArray) (p_Width : Int) (p_Height : Int) (p_Clues : List (Int × (Int × Int))) (t28s : ByteArray) (t28i : Nat) : spec_DrawHarderPuzzle_l (k + 1) ((t2_Rule, t2_Width, t2_Height, t2_Clues), (w_Rule, w_Width, w_Height, w_Cells, w_X, w_Y, w_Way), (p_Rule, p_Width, p_Height, p_Clues), (t28s, t28i)) =
  cond (decide (t28i < t28s.size))
  (cond (decide ((p_Clues.length : Int) < 6))
   ((spec_pzOf k (0, (t28i : Int), (w_Rule, w_Width, w_Height, w_Cells, w_X, w_Y, w_Way))).bind fun r1 =>
    cond (fits (p_Clues.length + 1) 24)
    (spec_DrawHarderPuzzle_l k ((t2_Rule, t2_Width, t2_Height, t2_Clues), (w_Rule, w_Width, w_Height, w_Cells, w_X, w_Y, w_Way), (p_Rule, p_Width, p_Height, (p_Clues ++ [r1])), (t28s, (runeEnd t28s t28i))))
    (none))
   (spec_DrawHarderPuzzle_l k ((t2_Rule, t2_Width, t2_Height, t2_Clues), (w_Rule, w_Width, w_Height, w_Cells, w_X, w_Y, w_Way), (p_Rule, p_Width, p_Height, p_Clues), (t28s, (runeEnd t28s t28i)))))
  (some ((t2_Rule, t2_Width, t2_Height, t2_Clues), (p_Rule, p_Width, p_Height, p_Clues))) := by kernel_rfl
theorem impl_HarderPuzzle.eq (k : Nat) (p_Rule : ByteArray) (p_Width : Int) (p_Height : Int) (p_Clues : List (Int × (Int × Int))) : impl_HarderPuzzle (k + 1) (p_Rule, p_Width, p_Height, p_Clues) =
  (impl_IsSolved k (p_Rule, p_Width, p_Height, p_Clues)).bind fun r1 =>
  cond (!r1.1)
  (some ((ByteArray.empty, 0, 0, []), false))
  ((slices_Clone k p_Clues).bind fun r2 =>
   (impl_HarderPuzzle_l k ((p_Rule, p_Width, p_Height, p_Clues), (ByteArray.empty, 0, 0, []), r2, 0)).bind fun r3 =>
   (impl_Puzzle_changed k (r3.1, r3.2.2)).bind fun r4 =>
   some (r4, true)) := by kernel_rfl
theorem impl_IsSolved.eq (k : Nat) (p_Rule : ByteArray) (p_Width : Int) (p_Height : Int) (p_Clues : List (Int × (Int × Int))) : impl_IsSolved (k + 1) (p_Rule, p_Width, p_Height, p_Clues) =
  (impl_CountSolutions k (p_Rule, p_Width, p_Height, p_Clues)).bind fun r1 =>
  some ((r1.1 == 1), r1.2) := by kernel_rfl
theorem impl_CountSolutions.eq (k : Nat) (p_Rule : ByteArray) (p_Width : Int) (p_Height : Int) (p_Clues : List (Int × (Int × Int))) : impl_CountSolutions (k + 1) (p_Rule, p_Width, p_Height, p_Clues) =
  (impl_Solutions k (p_Rule, p_Width, p_Height, p_Clues)).bind fun r1 =>
  some ((r1.1.length : Int), r1.2) := by kernel_rfl
theorem slices_Clone.eq (k : Nat) (d : List (Int × (Int × Int))) : slices_Clone (k + 1) d = (fun d => cloneB (s := (.pair (.int .i64) (.pair (.int .i64) (.int .i64)))) 24 d) d := by kernel_rfl
theorem impl_HarderPuzzle_l.eq (k : Nat) (p_Rule : ByteArray) (p_Width : Int) (p_Height : Int) (p_Clues : List (Int × (Int × Int))) (t2_Rule : ByteArray) (t2_Width : Int) (t2_Height : Int) (t2_Clues : List (Int × (Int × Int))) (left : List (Int × (Int × Int))) (k_ : Int) : impl_HarderPuzzle_l (k + 1) ((p_Rule, p_Width, p_Height, p_Clues), (t2_Rule, t2_Width, t2_Height, t2_Clues), left, k_) =
  cond (decide (k_ < (left.length : Int)))
  ((impl_dropped k (left, k_)).bind fun r1 =>
   (impl_Puzzle_with_2 k ((p_Rule, p_Width, p_Height, p_Clues), r1)).bind fun r2 =>
   cond ((r2.length : Int) == 1)
   (impl_HarderPuzzle_l k ((p_Rule, p_Width, p_Height, p_Clues), (t2_Rule, t2_Width, t2_Height, t2_Clues), r1, k_))
   (impl_HarderPuzzle_l k ((p_Rule, p_Width, p_Height, p_Clues), (t2_Rule, t2_Width, t2_Height, t2_Clues), left, (w64 (k_ + 1)))))
  (some ((p_Rule, p_Width, p_Height, p_Clues), (t2_Rule, t2_Width, t2_Height, t2_Clues), left)) := by kernel_rfl
theorem impl_dropped.eq (k : Nat) (clues : List (Int × (Int × Int))) (k_ : Int) : impl_dropped (k + 1) (clues, k_) =
  (slices_Clone k clues).bind fun r1 =>
  (slices_Delete k (r1, k_, (w64 (k_ + 1)))).bind fun r2 =>
  some r2 := by kernel_rfl
theorem slices_Delete.eq (k : Nat) (d : List (Int × (Int × Int)) × Int × Int) : slices_Delete (k + 1) d = (fun d => delB (s := (.pair (.int .i64) (.pair (.int .i64) (.int .i64)))) d.1 d.2.1 d.2.2) d := by kernel_rfl
theorem impl_Puzzle_with_2.eq (k : Nat) (p_Rule : ByteArray) (p_Width : Int) (p_Height : Int) (p_Clues : List (Int × (Int × Int))) (clues : List (Int × (Int × Int))) : impl_Puzzle_with_2 (k + 1) ((p_Rule, p_Width, p_Height, p_Clues), clues) =
  (impl_digits k ((p_Rule.size : Int), (w64 (p_Width * p_Height)))).bind fun r1 =>
  (slices_DeleteFunc_2 k (r1, ((p_Rule, p_Width, p_Height, p_Clues), clues))).bind fun r2 =>
  some r2 := by kernel_rfl
theorem slices_DeleteFunc_2.eq (k : Nat) (s : List ByteArray) (del_0 : ByteArray) (del_01 : Int) (del_02 : Int) (del_03 : List (Int × (Int × Int))) (del_1 : List (Int × (Int × Int))) : slices_DeleteFunc_2 (k + 1) (s, ((del_0, del_01, del_02, del_03), del_1)) =
  (slices_IndexFunc_4 k (s, ((del_0, del_01, del_02, del_03), del_1))).bind fun r1 =>
  cond (r1 == (-1))
  (some s)
  ((slices_DeleteFunc_2_l k (s, ((del_0, del_01, del_02, del_03), del_1), r1, (w64 (r1 + 1)))).bind fun r2 =>
   cond ((decide ((0 : Int) ≤ r2.2)) && (decide (r2.2 ≤ (r2.1.length : Int))))
   (cond ((decide ((0 : Int) ≤ r2.2)) && (decide (r2.2 ≤ ((((r2.1.take r2.2.toNat) ++ (List.replicate (r2.1.length - r2.2.toNat) ByteArray.empty)) ++ (r2.1.drop (r2.2.toNat + (r2.1.length - r2.2.toNat)))).length : Int))))
    (some ((((r2.1.take r2.2.toNat) ++ (List.replicate (r2.1.length - r2.2.toNat) ByteArray.empty)) ++ (r2.1.drop (r2.2.toNat + (r2.1.length - r2.2.toNat)))).take r2.2.toNat))
    (none))
   (none)) := by kernel_rfl
theorem slices_IndexFunc_4.eq (k : Nat) (s : List ByteArray) (f_0 : ByteArray) (f_01 : Int) (f_02 : Int) (f_03 : List (Int × (Int × Int))) (f_1 : List (Int × (Int × Int))) : slices_IndexFunc_4 (k + 1) (s, ((f_0, f_01, f_02, f_03), f_1)) =
  (slices_IndexFunc_4_l k (s, ((f_0, f_01, f_02, f_03), f_1), (s.length : Int), 0)).bind fun r1 =>
  r1.elim
  (fun r2 => some r2)
  (fun r3 => some (-1)) := by kernel_rfl
theorem slices_IndexFunc_4_l.eq (k : Nat) (s : List ByteArray) (f_0 : ByteArray) (f_01 : Int) (f_02 : Int) (f_03 : List (Int × (Int × Int))) (f_1 : List (Int × (Int × Int))) (t7 : Int) (t8 : Int) : slices_IndexFunc_4_l (k + 1) (s, ((f_0, f_01, f_02, f_03), f_1), t7, t8) =
  cond (decide (t8 < t7))
  (cond (inB t8 s.length)
   ((impl_Puzzle_with_1_2 k ((s.getD t8.toNat default), (f_0, f_01, f_02, f_03), f_1)).bind fun r1 =>
    cond r1
    (some (.inl t8))
    (slices_IndexFunc_4_l k (s, ((f_0, f_01, f_02, f_03), f_1), t7, (w64 (t8 + 1)))))
   (none))
  (some (.inr ())) := by kernel_rfl
theorem impl_Puzzle_with_1_2.eq (k : Nat) (cells : ByteArray) (t1_0 : ByteArray) (t1_1 : Int) (t1_2 : Int) (t1_3 : List (Int × (Int × Int))) (t2_0 : List (Int × (Int × Int))) : impl_Puzzle_with_1_2 (k + 1) (cells, (t1_0, t1_1, t1_2, t1_3), t2_0) =
  (slices_ContainsFunc_2 k (t2_0, (t1_0, t1_1, t1_2, cells, 0, 0, 0))).bind fun r1 =>
  some r1 := by kernel_rfl
theorem slices_DeleteFunc_2_l.eq (k : Nat) (s : List ByteArray) (del_0 : ByteArray) (del_01 : Int) (del_02 : Int) (del_03 : List (Int × (Int × Int))) (del_1 : List (Int × (Int × Int))) (i : Int) (j : Int) : slices_DeleteFunc_2_l (k + 1) (s, ((del_0, del_01, del_02, del_03), del_1), i, j) =
  cond (decide (j < (s.length : Int)))
  (cond (inB j s.length)
   ((impl_Puzzle_with_1_2 k ((s.getD j.toNat default), (del_0, del_01, del_02, del_03), del_1)).bind fun r1 =>
    cond (!r1)
    (cond (inB i s.length)
     (slices_DeleteFunc_2_l k ((s.set i.toNat (s.getD j.toNat default)), ((del_0, del_01, del_02, del_03), del_1), (w64 (i + 1)), (w64 (j + 1))))
     (none))
    (slices_DeleteFunc_2_l k (s, ((del_0, del_01, del_02, del_03), del_1), i, (w64 (j + 1)))))
   (none))
  (some (s, i)) := by kernel_rfl
theorem impl_Puzzle_changed.eq (k : Nat) (p_Rule : ByteArray) (p_Width : Int) (p_Height : Int) (p_Clues : List (Int × (Int × Int))) (clues : List (Int × (Int × Int))) : impl_Puzzle_changed (k + 1) ((p_Rule, p_Width, p_Height, p_Clues), clues) =
  some (p_Rule, p_Width, p_Height, clues) := by kernel_rfl
theorem spec_HarderPuzzle.eq (k : Nat) (p_Rule : ByteArray) (p_Width : Int) (p_Height : Int) (p_Clues : List (Int × (Int × Int))) : spec_HarderPuzzle (k + 1) (p_Rule, p_Width, p_Height, p_Clues) =
  (spec_pzGood k (p_Rule, p_Width, p_Height, p_Clues)).bind fun r1 =>
  cond (!r1)
  (some ((ByteArray.empty, 0, 0, []), false))
  ((spec_pzSolved k ((p_Rule, p_Width, p_Height, p_Clues), ())).bind fun r2 =>
   cond (!r2)
   (some ((ByteArray.empty, 0, 0, []), false))
   (cond (fits (0 + p_Clues.length) 24)
    ((spec_HarderPuzzle_l k ((p_Rule, p_Width, p_Height, p_Clues), (ByteArray.empty, 0, 0, []), ([] ++ p_Clues), 0)).bind fun r3 =>
     (spec_pzWith_2 k (r3.1, r3.2.2)).bind fun r4 =>
     some (r4, true))
    (none))) := by kernel_rfl
theorem spec_pzGood.eq (k : Nat) (p_Rule : ByteArray) (p_Width : Int) (p_Height : Int) (p_Clues : List (Int × (Int × Int))) : spec_pzGood (k + 1) (p_Rule, p_Width, p_Height, p_Clues) =
  (spec_pzSize k (p_Rule, p_Width, p_Height)).bind fun r1 =>
  cond (!r1)
  (some false)
  (cond (decide ((p_Clues.length : Int) > 6))
   (some false)
   ((spec_pzGood_l k ((p_Rule, p_Width, p_Height, p_Clues), (), (p_Clues.length : Int), 0)).bind fun r2 =>
    r2.elim
    (fun r3 => some r3)
    (fun r4 => some true))) := by kernel_rfl
theorem spec_pzGood_l.eq (k : Nat) (p_Rule : ByteArray) (p_Width : Int) (p_Height : Int) (p_Clues : List (Int × (Int × Int))) (t21 : Int) (t22 : Int) : spec_pzGood_l (k + 1) ((p_Rule, p_Width, p_Height, p_Clues), (), t21, t22) =
  cond (decide (t22 < t21))
  (cond (inB t22 p_Clues.length)
   ((spec_pzClue k (p_Rule, (w64 (p_Width * p_Height)), (p_Clues.getD t22.toNat default))).bind fun r1 =>
    cond (!r1)
    (some (.inl false))
    (spec_pzGood_l k ((p_Rule, p_Width, p_Height, p_Clues), (), t21, (w64 (t22 + 1)))))
   (none))
  (some (.inr ())) := by kernel_rfl
theorem spec_pzClue.eq (k : Nat) (rule : ByteArray) (cells : Int) (c_Kind : Int) (c_A : Int) (c_B : Int) : spec_pzClue (k + 1) (rule, cells, (c_Kind, c_A, c_B)) =
  cond (c_Kind == 0)
  ((spec_l1In k (c_A, 0, (w64 (cells - 1)))).bind fun r1 =>
   cond r1
   ((spec_l1In k (c_B, 0, (w64 ((rule.size : Int) - 1)))).bind fun r2 =>
    some r2)
   (some false))
  (cond (c_Kind == 1)
   ((spec_l1In k (c_A, 0, 50)).bind fun r3 =>
    cond r3
    ((spec_l1In k (c_B, 0, (w64 (cells - 1)))).bind fun r4 =>
     some r4)
    (some false))
   (cond (c_Kind == 2)
    ((spec_l1In k (c_A, 0, 50)).bind fun r5 =>
     cond r5
     ((spec_l1In k (c_B, 0, 3)).bind fun r6 =>
      some r6)
     (some false))
    (cond (c_Kind == 3)
     ((spec_l1In k (c_A, 0, 50)).bind fun r7 =>
      cond r7
      ((spec_l1In k (c_B, 0, cells)).bind fun r8 =>
       some r8)
      (some false))
     (cond (c_Kind == 4)
      ((spec_l1In k (c_A, 0, 100)).bind fun r9 =>
       cond r9
       (some (c_B == 0))
       (some false))
      (some false))))) := by kernel_rfl
theorem spec_pzSolved.eq (k : Nat) (p_Rule : ByteArray) (p_Width : Int) (p_Height : Int) (p_Clues : List (Int × (Int × Int))) : spec_pzSolved (k + 1) ((p_Rule, p_Width, p_Height, p_Clues), ()) =
  (spec_pzWith k ((p_Rule, p_Width, p_Height, p_Clues), ())).bind fun r1 =>
  (spec_pzAll k r1).bind fun r2 =>
  some ((r2.length : Int) == 1) := by kernel_rfl
theorem spec_pzWith.eq (k : Nat) (p_Rule : ByteArray) (p_Width : Int) (p_Height : Int) (p_Clues : List (Int × (Int × Int))) : spec_pzWith (k + 1) ((p_Rule, p_Width, p_Height, p_Clues), ()) =
  some (p_Rule, p_Width, p_Height, p_Clues) := by kernel_rfl
theorem spec_pzAll.eq (k : Nat) (p_Rule : ByteArray) (p_Width : Int) (p_Height : Int) (p_Clues : List (Int × (Int × Int))) : spec_pzAll (k + 1) (p_Rule, p_Width, p_Height, p_Clues) =
  (spec_pzLook k ((p_Rule, p_Width, p_Height, p_Clues), ByteArray.empty, [])).bind fun r1 =>
  some r1.2 := by kernel_rfl
theorem spec_pzLook.eq (k : Nat) (p_Rule : ByteArray) (p_Width : Int) (p_Height : Int) (p_Clues : List (Int × (Int × Int))) (begin : ByteArray) (out_ : List ByteArray) : spec_pzLook (k + 1) ((p_Rule, p_Width, p_Height, p_Clues), begin, out_) =
  cond ((begin.size : Int) == (w64 (p_Width * p_Height)))
  ((spec_pzLook_l k (begin, out_, (p_Rule, p_Width, p_Height, begin, 0, 0, 0), p_Clues, (p_Clues.length : Int), 0, ())).bind fun r1 =>
   r1.elim
   (fun r2 => some ((), r2))
   (fun r3 => cond (fits (r3.2.1.length + 1) 16)
    (some ((), (r3.2.1 ++ [r3.1])))
    (none)))
  ((spec_pzLook_l_2 k (begin, out_, (p_Rule, p_Width, p_Height, p_Clues), (p_Rule.size : Int), 0, ())).bind fun r4 =>
   some ((), r4)) := by kernel_rfl
theorem spec_pzLook_l.eq (k : Nat) (begin : ByteArray) (out_ : List ByteArray) (w_Rule : ByteArray) (w_Width : Int) (w_Height : Int) (w_Cells : ByteArray) (w_X : Int) (w_Y : Int) (w_Way : Int) (t27 : List (Int × (Int × Int))) (t28 : Int) (t29 : Int) : spec_pzLook_l (k + 1) (begin, out_, (w_Rule, w_Width, w_Height, w_Cells, w_X, w_Y, w_Way), t27, t28, t29, ()) =
  cond (decide (t29 < t28))
  (cond (inB t29 t27.length)
   ((spec_pzFits k ((t27.getD t29.toNat default), (w_Rule, w_Width, w_Height, w_Cells, w_X, w_Y, w_Way))).bind fun r1 =>
    cond (!r1)
    (some (.inl out_))
    (spec_pzLook_l k (begin, out_, (w_Rule, w_Width, w_Height, w_Cells, w_X, w_Y, w_Way), t27, t28, (w64 (t29 + 1)), ())))
   (none))
  (some (.inr (begin, out_, ()))) := by kernel_rfl
theorem spec_pzFits.eq (k : Nat) (c_Kind : Int) (c_A : Int) (c_B : Int) (w_Rule : ByteArray) (w_Width : Int) (w_Height : Int) (w_Cells : ByteArray) (w_X : Int) (w_Y : Int) (w_Way : Int) : spec_pzFits (k + 1) ((c_Kind, c_A, c_B), (w_Rule, w_Width, w_Height, w_Cells, w_X, w_Y, w_Way)) =
  cond (c_Kind == 4)
  ((spec_pzValue k (4, 0, (w_Rule, w_Width, w_Height, w_Cells, w_X, w_Y, w_Way))).bind fun r1 =>
   some (r1 == c_A))
  ((spec_pzValue k (c_Kind, c_A, (w_Rule, w_Width, w_Height, w_Cells, w_X, w_Y, w_Way))).bind fun r2 =>
   some (r2 == c_B)) := by kernel_rfl
theorem spec_pzLook_l_2.eq (k : Nat) (begin : ByteArray) (out_ : List ByteArray) (p_Rule : ByteArray) (p_Width : Int) (p_Height : Int) (p_Clues : List (Int × (Int × Int))) (t48 : Int) (t49 : Int) : spec_pzLook_l_2 (k + 1) (begin, out_, (p_Rule, p_Width, p_Height, p_Clues), t48, t49, ()) =
  cond (decide (t49 < t48))
  ((spec_l1Num k t49).bind fun r1 =>
   cond (fitS begin r1)
   ((spec_pzLook k ((p_Rule, p_Width, p_Height, p_Clues), (begin ++ r1), out_)).bind fun r2 =>
    spec_pzLook_l_2 k (begin, r2.2, (p_Rule, p_Width, p_Height, p_Clues), t48, (w64 (t49 + 1)), ()))
   (none))
  (some out_) := by kernel_rfl
theorem spec_HarderPuzzle_l.eq (k : Nat) (p_Rule : ByteArray) (p_Width : Int) (p_Height : Int) (p_Clues : List (Int × (Int × Int))) (t2_Rule : ByteArray) (t2_Width : Int) (t2_Height : Int) (t2_Clues : List (Int × (Int × Int))) (clues : List (Int × (Int × Int))) (k_ : Int) : spec_HarderPuzzle_l (k + 1) ((p_Rule, p_Width, p_Height, p_Clues), (t2_Rule, t2_Width, t2_Height, t2_Clues), clues, k_) =
  cond (decide (k_ < (clues.length : Int)))
  ((spec_pzWithout k (clues, k_)).bind fun r1 =>
   (spec_pzSolved_2 k ((p_Rule, p_Width, p_Height, p_Clues), r1)).bind fun r2 =>
   cond r2
   (spec_HarderPuzzle_l k ((p_Rule, p_Width, p_Height, p_Clues), (t2_Rule, t2_Width, t2_Height, t2_Clues), r1, k_))
   (spec_HarderPuzzle_l k ((p_Rule, p_Width, p_Height, p_Clues), (t2_Rule, t2_Width, t2_Height, t2_Clues), clues, (w64 (k_ + 1)))))
  (some ((p_Rule, p_Width, p_Height, p_Clues), (t2_Rule, t2_Width, t2_Height, t2_Clues), clues)) := by kernel_rfl
theorem spec_pzWithout.eq (k : Nat) (clues : List (Int × (Int × Int))) (k_ : Int) : spec_pzWithout (k + 1) (clues, k_) =
  cond ((decide ((0 : Int) ≤ k_)) && (decide (k_ ≤ (clues.length : Int))))
  (cond (fits (0 + (clues.take k_.toNat).length) 24)
   (cond ((decide ((0 : Int) ≤ (w64 (k_ + 1)))) && (decide ((w64 (k_ + 1)) ≤ (clues.length : Int))))
    (cond (fits (([] ++ (clues.take k_.toNat)).length + ((clues.drop ((w64 (k_ + 1)).toNat)).take (clues.length - (w64 (k_ + 1)).toNat)).length) 24)
     (some (([] ++ (clues.take k_.toNat)) ++ ((clues.drop ((w64 (k_ + 1)).toNat)).take (clues.length - (w64 (k_ + 1)).toNat))))
     (none))
    (none))
   (none))
  (none) := by kernel_rfl
theorem spec_pzSolved_2.eq (k : Nat) (p_Rule : ByteArray) (p_Width : Int) (p_Height : Int) (p_Clues : List (Int × (Int × Int))) (clues : List (Int × (Int × Int))) : spec_pzSolved_2 (k + 1) ((p_Rule, p_Width, p_Height, p_Clues), clues) =
  (spec_pzWith_2 k ((p_Rule, p_Width, p_Height, p_Clues), clues)).bind fun r1 =>
  (spec_pzAll k r1).bind fun r2 =>
  some ((r2.length : Int) == 1) := by kernel_rfl
theorem spec_pzWith_2.eq (k : Nat) (p_Rule : ByteArray) (p_Width : Int) (p_Height : Int) (p_Clues : List (Int × (Int × Int))) (clues : List (Int × (Int × Int))) : spec_pzWith_2 (k + 1) ((p_Rule, p_Width, p_Height, p_Clues), clues) =
  some (p_Rule, p_Width, p_Height, clues) := by kernel_rfl
theorem impl_NeedlessClues.eq (k : Nat) (p_Rule : ByteArray) (p_Width : Int) (p_Height : Int) (p_Clues : List (Int × (Int × Int))) : impl_NeedlessClues (k + 1) (p_Rule, p_Width, p_Height, p_Clues) =
  (impl_CountSolutions k (p_Rule, p_Width, p_Height, p_Clues)).bind fun r1 =>
  cond (!r1.2)
  (some ([], false))
  ((impl_NeedlessClues_l k ((p_Rule, p_Width, p_Height, p_Clues), r1.1, [], (p_Clues.length : Int), 0)).bind fun r2 =>
   some (r2, true)) := by kernel_rfl
theorem impl_NeedlessClues_l.eq (k : Nat) (p_Rule : ByteArray) (p_Width : Int) (p_Height : Int) (p_Clues : List (Int × (Int × Int))) (many : Int) (out : List Int) (t18 : Int) (t19 : Int) : impl_NeedlessClues_l (k + 1) ((p_Rule, p_Width, p_Height, p_Clues), many, out, t18, t19) =
  cond (decide (t19 < t18))
  ((impl_dropped k (p_Clues, t19)).bind fun r1 =>
   (impl_Puzzle_with_2 k ((p_Rule, p_Width, p_Height, p_Clues), r1)).bind fun r2 =>
   cond ((r2.length : Int) == many)
   (cond (fits (out.length + 1) 8)
    (impl_NeedlessClues_l k ((p_Rule, p_Width, p_Height, p_Clues), many, (out ++ [t19]), t18, (w64 (t19 + 1))))
    (none))
   (impl_NeedlessClues_l k ((p_Rule, p_Width, p_Height, p_Clues), many, out, t18, (w64 (t19 + 1)))))
  (some out) := by kernel_rfl
theorem laws_dTexts.eq (k : Nat) (a : List ByteArray) (b : List ByteArray) : laws_dTexts (k + 1) (a, b) =
  cond ((a.length : Int) != (b.length : Int))
  (some false)
  ((laws_dTexts_l k (a, b, (a.length : Int), 0)).bind fun r1 =>
   r1.elim
   (fun r2 => some r2)
   (fun r3 => some true)) := by kernel_rfl
theorem laws_dTexts_l.eq (k : Nat) (a : List ByteArray) (b : List ByteArray) (t12 : Int) (t13 : Int) : laws_dTexts_l (k + 1) (a, b, t12, t13) =
  cond (decide (t13 < t12))
  (cond (inB t13 a.length)
   (cond (inB t13 b.length)
    (cond (!(strEq (a.getD t13.toNat default) (b.getD t13.toNat default)))
     (some (.inl false))
     (laws_dTexts_l k (a, b, t12, (w64 (t13 + 1)))))
    (none))
   (none))
  (some (.inr ())) := by kernel_rfl
theorem spec_DrawAddClue.eq (k : Nat) (code : List Int) : spec_DrawAddClue (k + 1) code =
  (spec_l1Cur_puzzle k (code, 0, 0)).bind fun r1 =>
  (spec_l1Cur_clue k r1.2).bind fun r2 =>
  some (r1.1, r2.1) := by kernel_rfl
theorem impl_AddClue.eq (k : Nat) (p_Rule : ByteArray) (p_Width : Int) (p_Height : Int) (p_Clues : List (Int × (Int × Int))) (c_Kind : Int) (c_A : Int) (c_B : Int) : impl_AddClue (k + 1) ((p_Rule, p_Width, p_Height, p_Clues), (c_Kind, c_A, c_B)) =
  (impl_IsPuzzle k (p_Rule, p_Width, p_Height, p_Clues)).bind fun r1 =>
  cond (!r1)
  (some ((ByteArray.empty, 0, 0, []), false))
  ((impl_IsClue k (p_Rule, (w64 (p_Width * p_Height)), (c_Kind, c_A, c_B))).bind fun r2 =>
   cond (!r2)
   (some ((ByteArray.empty, 0, 0, []), false))
   (cond ((p_Clues.length : Int) == 6)
    (some ((ByteArray.empty, 0, 0, []), false))
    ((slices_Clone k p_Clues).bind fun r3 =>
     cond (fits (r3.length + 1) 24)
     ((impl_Puzzle_changed k ((p_Rule, p_Width, p_Height, p_Clues), (r3 ++ [(c_Kind, (c_A, c_B))]))).bind fun r4 =>
      some (r4, true))
     (none)))) := by kernel_rfl
theorem spec_AddClue.eq (k : Nat) (p_Rule : ByteArray) (p_Width : Int) (p_Height : Int) (p_Clues : List (Int × (Int × Int))) (c_Kind : Int) (c_A : Int) (c_B : Int) : spec_AddClue (k + 1) ((p_Rule, p_Width, p_Height, p_Clues), (c_Kind, c_A, c_B)) =
  (spec_pzGood k (p_Rule, p_Width, p_Height, p_Clues)).bind fun r1 =>
  cond (!r1)
  (some ((ByteArray.empty, 0, 0, []), false))
  ((spec_pzClue k (p_Rule, (w64 (p_Width * p_Height)), (c_Kind, c_A, c_B))).bind fun r2 =>
   cond (!r2)
   (some ((ByteArray.empty, 0, 0, []), false))
   (cond ((p_Clues.length : Int) == 6)
    (some ((ByteArray.empty, 0, 0, []), false))
    (cond (fits (0 + p_Clues.length) 24)
     (cond (fits (([] ++ p_Clues).length + 1) 24)
      ((spec_pzWith_2 k ((p_Rule, p_Width, p_Height, p_Clues), (([] ++ p_Clues) ++ [(c_Kind, (c_A, c_B))]))).bind fun r3 =>
       some (r3, true))
      (none))
     (none)))) := by kernel_rfl
theorem spec_DrawDropClue.eq (k : Nat) (code : List Int) : spec_DrawDropClue (k + 1) code =
  (spec_l1Cur_puzzle k (code, 0, 0)).bind fun r1 =>
  (spec_l1Cur_pick k (r1.2, 6)).bind fun r2 =>
  (spec_l1Cur_pick k (r2.2, 9)).bind fun r3 =>
  some (r1.1, (w64 (r2.1 - (w64 (r3.1.tdiv 8))))) := by kernel_rfl
theorem impl_DropClue.eq (k : Nat) (p_Rule : ByteArray) (p_Width : Int) (p_Height : Int) (p_Clues : List (Int × (Int × Int))) (k_ : Int) : impl_DropClue (k + 1) ((p_Rule, p_Width, p_Height, p_Clues), k_) =
  (impl_IsPuzzle k (p_Rule, p_Width, p_Height, p_Clues)).bind fun r1 =>
  cond (!r1)
  (some ((ByteArray.empty, 0, 0, []), false))
  ((impl_within k (k_, 0, (w64 ((p_Clues.length : Int) - 1)))).bind fun r2 =>
   cond (!r2)
   (some ((ByteArray.empty, 0, 0, []), false))
   ((impl_dropped k (p_Clues, k_)).bind fun r3 =>
    (impl_Puzzle_changed k ((p_Rule, p_Width, p_Height, p_Clues), r3)).bind fun r4 =>
    some (r4, true))) := by kernel_rfl
theorem spec_DropClue.eq (k : Nat) (p_Rule : ByteArray) (p_Width : Int) (p_Height : Int) (p_Clues : List (Int × (Int × Int))) (k_ : Int) : spec_DropClue (k + 1) ((p_Rule, p_Width, p_Height, p_Clues), k_) =
  (spec_pzGood k (p_Rule, p_Width, p_Height, p_Clues)).bind fun r1 =>
  cond (!r1)
  (some ((ByteArray.empty, 0, 0, []), false))
  ((spec_l1In k (k_, 0, (w64 ((p_Clues.length : Int) - 1)))).bind fun r2 =>
   cond (!r2)
   (some ((ByteArray.empty, 0, 0, []), false))
   ((spec_pzWithout k (p_Clues, k_)).bind fun r3 =>
    (spec_pzWith_2 k ((p_Rule, p_Width, p_Height, p_Clues), r3)).bind fun r4 =>
    some (r4, true))) := by kernel_rfl
theorem spec_DrawDoesFit.eq (k : Nat) (code : List Int) : spec_DrawDoesFit (k + 1) code =
  (spec_l1Cur_hidden k (code, 0, 0)).bind fun r1 =>
  (spec_l1Cur_pick k (r1.2, 10000)).bind fun r2 =>
  (spec_MakePuzzle k (r1.1, 1, r2.1)).bind fun r3 =>
  cond r3.2
  ((spec_l1Cur_one k (r2.2, 3)).bind fun r4 =>
   cond r4.1
   (cond (inB 0 r3.1.2.2.2.length)
    (some ((r3.1.2.2.2.getD 0 default), r1.1))
    (none))
   ((spec_l1Cur_one k (r4.2, 8)).bind fun r5 =>
    cond r5.1
    ((spec_l1Cur_world k r5.2).bind fun r6 =>
     (spec_l1Cur_clue k r6.2).bind fun r7 =>
     some (r7.1, r6.1))
    ((spec_l1Cur_clue k r5.2).bind fun r8 =>
     some (r8.1, r1.1))))
  ((spec_l1Cur_one k (r2.2, 8)).bind fun r9 =>
   cond r9.1
   ((spec_l1Cur_world k r9.2).bind fun r10 =>
    (spec_l1Cur_clue k r10.2).bind fun r11 =>
    some (r11.1, r10.1))
   ((spec_l1Cur_clue k r9.2).bind fun r12 =>
    some (r12.1, r1.1))) := by kernel_rfl
theorem spec_DoesFit.eq (k : Nat) (c_Kind : Int) (c_A : Int) (c_B : Int) (w_Rule : ByteArray) (w_Width : Int) (w_Height : Int) (w_Cells : ByteArray) (w_X : Int) (w_Y : Int) (w_Way : Int) : spec_DoesFit (k + 1) ((c_Kind, c_A, c_B), (w_Rule, w_Width, w_Height, w_Cells, w_X, w_Y, w_Way)) =
  (spec_pzHidden k (w_Rule, w_Width, w_Height, w_Cells, w_X, w_Y, w_Way)).bind fun r1 =>
  cond (!r1)
  (some (false, false))
  ((spec_pzClue k (w_Rule, (w_Cells.size : Int), (c_Kind, c_A, c_B))).bind fun r2 =>
   cond (!r2)
   (some (false, false))
   ((spec_pzFits k ((c_Kind, c_A, c_B), (w_Rule, w_Width, w_Height, w_Cells, w_X, w_Y, w_Way))).bind fun r3 =>
    some (r3, true))) := by kernel_rfl
theorem spec_DrawIsClue.eq (k : Nat) (code : List Int) : spec_DrawIsClue (k + 1) code =
  (spec_l1Cur_one k ((code, 0, 0), 8)).bind fun r1 =>
  cond r1.1
  ((spec_l1Cur_rule k r1.2).bind fun r2 =>
   (spec_l1Cur_among k (r2.2, [0, 1, 9, 10, (-1)])).bind fun r3 =>
   (spec_l1Cur_pick k (r3.2, 6)).bind fun r4 =>
   (spec_l1Cur_pick k (r4.2, 9)).bind fun r5 =>
   (spec_l1Cur_among k (r5.2, [(-1), 0, 8, 9, 50, 51, 100, 101, 4611686018427387904])).bind fun r6 =>
   (spec_l1Cur_among k (r6.2, [(-1), 0, 3, 4, 9, 10])).bind fun r7 =>
   some (r2.1, r3.1, ((w64 (r4.1 - (w64 (r5.1.tdiv 8)))), r6.1, r7.1)))
  ((spec_l1Cur_sureRule k r1.2).bind fun r8 =>
   (spec_l1Cur_pick k (r8.2, 8)).bind fun r9 =>
   (spec_l1Cur_clue k r9.2).bind fun r10 =>
   some (r8.1, (w64 (1 + r9.1)), r10.1)) := by kernel_rfl
theorem spec_DrawCountBoards.eq (k : Nat) (code : List Int) : spec_DrawCountBoards (k + 1) code =
  (spec_l1Cur_rule k (code, 0, 0)).bind fun r1 =>
  (spec_l1Cur_among k (r1.2, [1, 2, 3, 9, 10, 0])).bind fun r2 =>
  (spec_l1Cur_among k (r2.2, [1, 2, 3, 1, 2, (-1), 4611686018427387904])).bind fun r3 =>
  some (r1.1, r2.1, r3.1) := by kernel_rfl
theorem spec_CountBoards.eq (k : Nat) (rule : ByteArray) (width : Int) (height : Int) : spec_CountBoards (k + 1) (rule, width, height) =
  (spec_pzSize k (rule, width, height)).bind fun r1 =>
  cond (!r1)
  (some (0, false))
  ((spec_pzPower k (rule, (w64 (width * height)))).bind fun r2 =>
   some (r2, true)) := by kernel_rfl
theorem spec_IsClue.eq (k : Nat) (rule : ByteArray) (cells : Int) (c_Kind : Int) (c_A : Int) (c_B : Int) : spec_IsClue (k + 1) (rule, cells, (c_Kind, c_A, c_B)) =
  (spec_woRule k rule).bind fun r1 =>
  cond r1
  ((spec_l1In k (cells, 1, 9)).bind fun r2 =>
   cond r2
   ((spec_pzClue k (rule, cells, (c_Kind, c_A, c_B))).bind fun r3 =>
    some r3)
   (some false))
  (some false) := by kernel_rfl
theorem laws_FnBoardsHidden_l.eq (k : Nat) (t : ByteArray) (wide : Int) (high : Int) (count : Int) (n : Int) (i : Int) : laws_FnBoardsHidden_l (k + 1) (t, wide, high, count, n, i) =
  cond (decide (i < (w64 (wide * high))))
  (laws_FnBoardsHidden_l k (t, wide, high, count, (w64 (n * (t.size : Int))), (w64 (i + 1))))
  (some (count, n)) := by kernel_rfl
theorem laws_FnExactMirrorPlain.eq (k : Nat) (aP_Rule : ByteArray) (aP_Spots : List (Int × (Int × Int))) (aP_X : Int) (aP_Y : Int) (aP_Way : Int) : laws_FnExactMirrorPlain (k + 1) (aP_Rule, aP_Spots, aP_X, aP_Y, aP_Way) =
  (laws_szPlain k ((aP_Rule, aP_Spots, aP_X, aP_Y, aP_Way), 1048576)).bind fun r1 =>
  cond (decide (r1 < 0))
  (some true)
  ((laws_toPlain k (aP_Rule, aP_Spots, aP_X, aP_Y, aP_Way)).bind fun r2 =>
   (spec_MirrorPlain k r2).bind fun r3 =>
   (laws_toPlain k (aP_Rule, aP_Spots, aP_X, aP_Y, aP_Way)).bind fun r4 =>
   (impl_MirrorPlain k r4).bind fun r5 =>
   (laws_eqPlain k (r5.1, r3.1)).bind fun r6 =>
   cond (!r6)
   (some false)
   (cond (!(r5.2 == r3.2))
    (some false)
    ((laws_toPlain k (aP_Rule, aP_Spots, aP_X, aP_Y, aP_Way)).bind fun r7 =>
     (laws_eqPlain k (r4, r7)).bind fun r8 =>
     cond (!r8)
     (some false)
     ((laws_markPlain k (r4, 1)).bind fun r9 =>
      cond (decide (r9.1 < 0))
      (some false)
      ((laws_eqPlain k (r5.1, r3.1)).bind fun r10 =>
       cond (!r10)
       (some false)
       (cond (!(r5.2 == r3.2))
        (some false)
        ((laws_markPlain k (r5.1, 1)).bind fun r11 =>
         (laws_heldPlain k ((r5.1.1, r11.2.2.1, r5.1.2.2.1, r5.1.2.2.2.1, r5.1.2.2.2.2), 1)).bind fun r12 =>
         cond (decide (r12 < 0))
         (some false)
         (cond (r12 != r11.1)
          (some false)
          ((laws_toPlain k (aP_Rule, aP_Spots, aP_X, aP_Y, aP_Way)).bind fun r13 =>
           (impl_MirrorPlain k r13).bind fun r14 =>
           (laws_eqPlain k (r14.1, r3.1)).bind fun r15 =>
           cond (!r15)
           (some false)
           (cond (!(r14.2 == r3.2))
            (some false)
            ((laws_heldPlain k ((r5.1.1, r11.2.2.1, r5.1.2.2.1, r5.1.2.2.2.1, r5.1.2.2.2.2), 1)).bind fun r16 =>
             cond (decide (r16 < 0))
             (some false)
             (cond (r16 != r11.1)
              (some false)
              (some true))))))))))))) := by kernel_rfl
theorem laws_szPlain.eq (k : Nat) (a_Rule : ByteArray) (a_Spots : List (Int × (Int × Int))) (a_X : Int) (a_Y : Int) (a_Way : Int) (left : Int) : laws_szPlain (k + 1) ((a_Rule, a_Spots, a_X, a_Y, a_Way), left) =
  cond (decide ((w64 (left - (a_Rule.size : Int))) < 0))
  (some (-1))
  ((laws_szSpotS k (a_Spots, (w64 (left - (a_Rule.size : Int))))).bind fun r1 =>
   cond (decide (r1 < 0))
   (some (-1))
   (some r1)) := by kernel_rfl
theorem laws_szSpotS.eq (k : Nat) (a : List (Int × (Int × Int))) (left : Int) : laws_szSpotS (k + 1) (a, left) =
  cond (decide ((w64 (left - (a.length : Int))) < 0))
  (some (-1))
  (some (w64 (left - (a.length : Int)))) := by kernel_rfl
theorem laws_toPlain.eq (k : Nat) (a_Rule : ByteArray) (a_Spots : List (Int × (Int × Int))) (a_X : Int) (a_Y : Int) (a_Way : Int) : laws_toPlain (k + 1) (a_Rule, a_Spots, a_X, a_Y, a_Way) =
  (laws_toSpotS k a_Spots).bind fun r1 =>
  some (a_Rule, r1, a_X, a_Y, a_Way) := by kernel_rfl
theorem laws_toSpotS.eq (k : Nat) (a : List (Int × (Int × Int))) : laws_toSpotS (k + 1) a =
  cond (((decide ((0 : Int) ≤ (a.length : Int))) && (decide ((a.length : Int) ≤ (a.length : Int)))) && (fits (a.length : Int).toNat 24))
  ((laws_toSpotS_l k (a, (List.replicate (a.length : Int).toNat (0, (0, 0))), 0)).bind fun r1 =>
   some r1)
  (none) := by kernel_rfl
theorem laws_toSpotS_l.eq (k : Nat) (a : List (Int × (Int × Int))) (out : List (Int × (Int × Int))) (i : Int) : laws_toSpotS_l (k + 1) (a, out, i) =
  cond (decide (i < (a.length : Int)))
  (cond (inB i a.length)
   ((laws_toSpot k (a.getD i.toNat default)).bind fun r1 =>
    cond (inB i out.length)
    (laws_toSpotS_l k (a, (out.set i.toNat r1), (w64 (i + 1))))
    (none))
   (none))
  (some out) := by kernel_rfl
theorem laws_toSpot.eq (k : Nat) (a_X : Int) (a_Y : Int) (a_Colour : Int) : laws_toSpot (k + 1) (a_X, a_Y, a_Colour) =
  some (a_X, a_Y, a_Colour) := by kernel_rfl
theorem spec_MirrorPlain.eq (k : Nat) (p_Rule : ByteArray) (p_Spots : List (Int × (Int × Int))) (p_X : Int) (p_Y : Int) (p_Way : Int) : spec_MirrorPlain (k + 1) (p_Rule, p_Spots, p_X, p_Y, p_Way) =
  (spec_enGood k (p_Rule, p_Spots, p_X, p_Y, p_Way)).bind fun r1 =>
  cond (!r1)
  (some ((ByteArray.empty, [], 0, 0, 0), false))
  ((spec_enMap k ((p_Rule, p_Spots, p_X, p_Y, p_Way), ((-1), 0, 0, 1, 0, 0))).bind fun r2 =>
   (spec_woOther k p_Rule).bind fun r3 =>
   some ((r3, r2.1.2.1, r2.1.2.2.1, r2.1.2.2.2.1, ((w64 (4 - r2.1.2.2.2.2)).tmod 4)), true)) := by kernel_rfl
theorem spec_enGood.eq (k : Nat) (p_Rule : ByteArray) (p_Spots : List (Int × (Int × Int))) (p_X : Int) (p_Y : Int) (p_Way : Int) : spec_enGood (k + 1) (p_Rule, p_Spots, p_X, p_Y, p_Way) =
  (spec_woRule k p_Rule).bind fun r1 =>
  cond (!r1)
  (some false)
  (cond (decide ((p_Spots.length : Int) > 300))
   (some false)
   ((spec_enFar k p_X).bind fun r2 =>
    cond (!r2)
    (some false)
    ((spec_enFar k p_Y).bind fun r3 =>
     cond (!r3)
     (some false)
     ((spec_l1In k (p_Way, 0, 3)).bind fun r4 =>
      cond (!r4)
      (some false)
      ((spec_enGood_l k ((p_Rule, p_Spots, p_X, p_Y, p_Way), (), (p_Spots.length : Int), 0)).bind fun r5 =>
       r5.elim
       (fun r6 => some r6)
       (fun r7 => some true)))))) := by kernel_rfl
theorem spec_enFar.eq (k : Nat) (n : Int) : spec_enFar (k + 1) n =
  (spec_l1In k (n, (-1000), 1000)).bind fun r1 =>
  some r1 := by kernel_rfl
theorem spec_enGood_l.eq (k : Nat) (p_Rule : ByteArray) (p_Spots : List (Int × (Int × Int))) (p_X : Int) (p_Y : Int) (p_Way : Int) (t35 : Int) (t36 : Int) : spec_enGood_l (k + 1) ((p_Rule, p_Spots, p_X, p_Y, p_Way), (), t35, t36) =
  cond (decide (t36 < t35))
  (cond (inB t36 p_Spots.length)
   ((spec_enFar k ((p_Spots.getD t36.toNat default).1)).bind fun r1 =>
    cond (!r1)
    (some (.inl false))
    ((spec_enFar k ((p_Spots.getD t36.toNat default).2.1)).bind fun r2 =>
     cond (!r2)
     (some (.inl false))
     ((spec_l1In k ((p_Spots.getD t36.toNat default).2.2, 1, (w64 ((p_Rule.size : Int) - 1)))).bind fun r3 =>
      cond (!r3)
      (some (.inl false))
      (cond (decide (t36 > 0))
       (cond (inB (w64 (t36 - 1)) p_Spots.length)
        ((spec_enLess k ((p_Spots.getD ((w64 (t36 - 1)).toNat) default), (p_Spots.getD t36.toNat default))).bind fun r4 =>
         cond (!r4)
         (some (.inl false))
         (spec_enGood_l k ((p_Rule, p_Spots, p_X, p_Y, p_Way), (), t35, (w64 (t36 + 1)))))
        (none))
       (spec_enGood_l k ((p_Rule, p_Spots, p_X, p_Y, p_Way), (), t35, (w64 (t36 + 1))))))))
   (none))
  (some (.inr ())) := by kernel_rfl
theorem spec_enLess.eq (k : Nat) (a_X : Int) (a_Y : Int) (a_Colour : Int) (b_X : Int) (b_Y : Int) (b_Colour : Int) : spec_enLess (k + 1) ((a_X, a_Y, a_Colour), (b_X, b_Y, b_Colour)) =
  cond (decide (a_Y < b_Y))
  (some true)
  (cond (a_Y == b_Y)
   (some (decide (a_X < b_X)))
   (some false)) := by kernel_rfl
theorem spec_enMap.eq (k : Nat) (p_Rule : ByteArray) (p_Spots : List (Int × (Int × Int))) (p_X : Int) (p_Y : Int) (p_Way : Int) (by_0 : Int) (by_1 : Int) (by_2 : Int) (by_3 : Int) (by_4 : Int) (by_5 : Int) : spec_enMap (k + 1) ((p_Rule, p_Spots, p_X, p_Y, p_Way), (by_0, by_1, by_2, by_3, by_4, by_5)) =
  (spec_enMap_l k ((p_Rule, p_Spots, p_X, p_Y, p_Way), (by_0, by_1, by_2, by_3, by_4, by_5), (ByteArray.empty, [], 0, 0, 0), (p_Rule, [], 0, 0, p_Way), (), (p_Spots.length : Int), 0)).bind fun r1 =>
  (spec_enGood k (r1.2.2.2.1, r1.2.2.2.2.1, (w64 ((w64 ((w64 (r1.2.1.1 * r1.1.2.2.1)) + (w64 (r1.2.1.2.1 * r1.1.2.2.2.1)))) + r1.2.1.2.2.2.2.1)), (w64 ((w64 ((w64 (r1.2.1.2.2.1 * r1.1.2.2.1)) + (w64 (r1.2.1.2.2.2.1 * r1.1.2.2.2.1)))) + r1.2.1.2.2.2.2.2)), r1.2.2.2.2.2.2.2)).bind fun r2 =>
  some ((r1.2.2.2.1, r1.2.2.2.2.1, (w64 ((w64 ((w64 (r1.2.1.1 * r1.1.2.2.1)) + (w64 (r1.2.1.2.1 * r1.1.2.2.2.1)))) + r1.2.1.2.2.2.2.1)), (w64 ((w64 ((w64 (r1.2.1.2.2.1 * r1.1.2.2.1)) + (w64 (r1.2.1.2.2.2.1 * r1.1.2.2.2.1)))) + r1.2.1.2.2.2.2.2)), r1.2.2.2.2.2.2.2), r2) := by kernel_rfl
theorem spec_enMap_l.eq (k : Nat) (p_Rule : ByteArray) (p_Spots : List (Int × (Int × Int))) (p_X : Int) (p_Y : Int) (p_Way : Int) (by_0 : Int) (by_1 : Int) (by_2 : Int) (by_3 : Int) (by_4 : Int) (by_5 : Int) (t4_Rule : ByteArray) (t4_Spots : List (Int × (Int × Int))) (t4_X : Int) (t4_Y : Int) (t4_Way : Int) (out_Rule : ByteArray) (out_Spots : List (Int × (Int × Int))) (out_X : Int) (out_Y : Int) (out_Way : Int) (t16 : Int) (t17 : Int) : spec_enMap_l (k + 1) ((p_Rule, p_Spots, p_X, p_Y, p_Way), (by_0, by_1, by_2, by_3, by_4, by_5), (t4_Rule, t4_Spots, t4_X, t4_Y, t4_Way), (out_Rule, out_Spots, out_X, out_Y, out_Way), (), t16, t17) =
  cond (decide (t17 < t16))
  (cond (inB t17 p_Spots.length)
   ((spec_enPaint k (out_Spots, (w64 ((w64 ((w64 (by_0 * (p_Spots.getD t17.toNat default).1)) + (w64 (by_1 * (p_Spots.getD t17.toNat default).2.1)))) + by_4)), (w64 ((w64 ((w64 (by_2 * (p_Spots.getD t17.toNat default).1)) + (w64 (by_3 * (p_Spots.getD t17.toNat default).2.1)))) + by_5)), (p_Spots.getD t17.toNat default).2.2)).bind fun r1 =>
    spec_enMap_l k ((p_Rule, p_Spots, p_X, p_Y, p_Way), (by_0, by_1, by_2, by_3, by_4, by_5), (t4_Rule, t4_Spots, t4_X, t4_Y, t4_Way), (out_Rule, r1, out_X, out_Y, out_Way), (), t16, (w64 (t17 + 1))))
   (none))
  (some ((p_Rule, p_Spots, p_X, p_Y, p_Way), (by_0, by_1, by_2, by_3, by_4, by_5), (t4_Rule, t4_Spots, t4_X, t4_Y, t4_Way), (out_Rule, out_Spots, out_X, out_Y, out_Way))) := by kernel_rfl
theorem spec_enPaint.eq (k : Nat) (spots : List (Int × (Int × Int))) (x : Int) (y : Int) (colour : Int) : spec_enPaint (k + 1) (spots, x, y, colour) =
  (spec_enAt k (spots, x, y)).bind fun r1 =>
  cond ((decide ((0 : Int) ≤ r1.1)) && (decide (r1.1 ≤ (spots.length : Int))))
  (cond (fits (0 + (spots.take r1.1.toNat).length) 24)
   (cond (decide (colour > 0))
    (cond (fits (([] ++ (spots.take r1.1.toNat)).length + 1) 24)
     (cond r1.2
      (cond ((decide ((0 : Int) ≤ (w64 (r1.1 + 1)))) && (decide ((w64 (r1.1 + 1)) ≤ (spots.length : Int))))
       (cond (fits ((([] ++ (spots.take r1.1.toNat)) ++ [(x, (y, colour))]).length + ((spots.drop ((w64 (r1.1 + 1)).toNat)).take (spots.length - (w64 (r1.1 + 1)).toNat)).length) 24)
        (some ((([] ++ (spots.take r1.1.toNat)) ++ [(x, (y, colour))]) ++ ((spots.drop ((w64 (r1.1 + 1)).toNat)).take (spots.length - (w64 (r1.1 + 1)).toNat))))
        (none))
       (none))
      (cond ((decide ((0 : Int) ≤ r1.1)) && (decide (r1.1 ≤ (spots.length : Int))))
       (cond (fits ((([] ++ (spots.take r1.1.toNat)) ++ [(x, (y, colour))]).length + ((spots.drop r1.1.toNat).take (spots.length - r1.1.toNat)).length) 24)
        (some ((([] ++ (spots.take r1.1.toNat)) ++ [(x, (y, colour))]) ++ ((spots.drop r1.1.toNat).take (spots.length - r1.1.toNat))))
        (none))
       (none)))
     (none))
    (cond r1.2
     (cond ((decide ((0 : Int) ≤ (w64 (r1.1 + 1)))) && (decide ((w64 (r1.1 + 1)) ≤ (spots.length : Int))))
      (cond (fits (([] ++ (spots.take r1.1.toNat)).length + ((spots.drop ((w64 (r1.1 + 1)).toNat)).take (spots.length - (w64 (r1.1 + 1)).toNat)).length) 24)
       (some (([] ++ (spots.take r1.1.toNat)) ++ ((spots.drop ((w64 (r1.1 + 1)).toNat)).take (spots.length - (w64 (r1.1 + 1)).toNat))))
       (none))
      (none))
     (cond ((decide ((0 : Int) ≤ r1.1)) && (decide (r1.1 ≤ (spots.length : Int))))
      (cond (fits (([] ++ (spots.take r1.1.toNat)).length + ((spots.drop r1.1.toNat).take (spots.length - r1.1.toNat)).length) 24)
       (some (([] ++ (spots.take r1.1.toNat)) ++ ((spots.drop r1.1.toNat).take (spots.length - r1.1.toNat))))
       (none))
      (none))))
   (none))
  (none) := by kernel_rfl
theorem spec_enAt.eq (k : Nat) (spots : List (Int × (Int × Int))) (x : Int) (y : Int) : spec_enAt (k + 1) (spots, x, y) =
  (spec_enAt_l k (spots, x, y, 0, (spots.length : Int))).bind fun r1 =>
  cond (decide (r1.2.2.2 < (r1.1.length : Int)))
  (cond (inB r1.2.2.2 r1.1.length)
   (cond ((r1.1.getD r1.2.2.2.toNat default).1 == r1.2.1)
    (cond (inB r1.2.2.2 r1.1.length)
     (some (r1.2.2.2, ((r1.1.getD r1.2.2.2.toNat default).2.1 == r1.2.2.1)))
     (none))
    (some (r1.2.2.2, false)))
   (none))
  (some (r1.2.2.2, false)) := by kernel_rfl
theorem spec_enAt_l.eq (k : Nat) (spots : List (Int × (Int × Int))) (x : Int) (y : Int) (low : Int) (high : Int) : spec_enAt_l (k + 1) (spots, x, y, low, high) =
  cond (decide (low < high))
  (cond (inB (w64 ((w64 (low + high)).tdiv 2)) spots.length)
   ((spec_enLess k ((spots.getD ((w64 ((w64 (low + high)).tdiv 2)).toNat) default), (x, y, 0))).bind fun r1 =>
    cond r1
    (spec_enAt_l k (spots, x, y, (w64 ((w64 ((w64 (low + high)).tdiv 2)) + 1)), high))
    (spec_enAt_l k (spots, x, y, low, (w64 ((w64 (low + high)).tdiv 2)))))
   (none))
  (some (spots, x, y, low)) := by kernel_rfl
theorem spec_woOther.eq (k : Nat) (rule : ByteArray) : spec_woOther (k + 1) rule =
  (spec_woOther_l k (rule, ByteArray.empty, 0)).bind fun r1 =>
  some r1 := by kernel_rfl
theorem spec_woOther_l.eq (k : Nat) (rule : ByteArray) (out : ByteArray) (i : Int) : spec_woOther_l (k + 1) (rule, out, i) =
  cond (decide (i < (rule.size : Int)))
  (cond (inB i rule.size)
   (cond ((bt rule i.toNat) == 76)
    (cond (fitS out (bs [82]))
     (spec_woOther_l k (rule, (out ++ (bs [82])), (w64 (i + 1))))
     (none))
    (cond ((bt rule i.toNat) == 82)
     (cond (fitS out (bs [76]))
      (spec_woOther_l k (rule, (out ++ (bs [76])), (w64 (i + 1))))
      (none))
     (cond (((decide ((0 : Int) ≤ (w64 (i + 1)))) && (decide ((w64 (i + 1)) ≤ (rule.size : Int)))) && ((decide ((0 : Int) ≤ i)) && (decide (i ≤ (w64 (i + 1))))))
      (cond (fitS out (rule.extract i.toNat ((w64 (i + 1)).toNat)))
       (spec_woOther_l k (rule, (out ++ (rule.extract i.toNat ((w64 (i + 1)).toNat))), (w64 (i + 1))))
       (none))
      (none))))
   (none))
  (some out) := by kernel_rfl
theorem impl_MirrorPlain.eq (k : Nat) (p_Rule : ByteArray) (p_Spots : List (Int × (Int × Int))) (p_X : Int) (p_Y : Int) (p_Way : Int) : impl_MirrorPlain (k + 1) (p_Rule, p_Spots, p_X, p_Y, p_Way) =
  (impl_IsPlain k (p_Rule, p_Spots, p_X, p_Y, p_Way)).bind fun r1 =>
  cond (!r1)
  (some ((ByteArray.empty, [], 0, 0, 0), false))
  ((impl_other k p_Rule).bind fun r2 =>
   (impl_otherWay k p_Way).bind fun r3 =>
   (impl_Plain_changed k ((r2, p_Spots, p_X, p_Y, r3), ())).bind fun r4 =>
   some r4) := by kernel_rfl
theorem impl_IsPlain.eq (k : Nat) (p_Rule : ByteArray) (p_Spots : List (Int × (Int × Int))) (p_X : Int) (p_Y : Int) (p_Way : Int) : impl_IsPlain (k + 1) (p_Rule, p_Spots, p_X, p_Y, p_Way) =
  (impl_IsRule k p_Rule).bind fun r1 =>
  cond (!r1)
  (some false)
  (cond (decide ((p_Spots.length : Int) > 300))
   (some false)
   ((impl_isNear k ([p_X, p_Y])).bind fun r2 =>
    cond (!r2)
    (some false)
    ((impl_isWay k p_Way).bind fun r3 =>
     cond (!r3)
     (some false)
     ((impl_IsPlain_l k ((p_Rule, p_Spots, p_X, p_Y, p_Way), (), (p_Spots.length : Int), 0)).bind fun r4 =>
      r4.elim
      (fun r5 => some r5)
      (fun r6 => some true))))) := by kernel_rfl
theorem impl_isNear.eq (k : Nat) (list : List Int) : impl_isNear (k + 1) list =
  (impl_areWithin k (list, (-1000), 1000)).bind fun r1 =>
  some r1 := by kernel_rfl
theorem impl_areWithin.eq (k : Nat) (list : List Int) (low : Int) (high : Int) : impl_areWithin (k + 1) (list, low, high) =
  (slices_ContainsFunc_3 k (list, (low, high))).bind fun r1 =>
  some (!r1) := by kernel_rfl
theorem slices_ContainsFunc_3.eq (k : Nat) (s : List Int) (f_0 : Int) (f_1 : Int) : slices_ContainsFunc_3 (k + 1) (s, (f_0, f_1)) =
  (slices_IndexFunc_5 k (s, (f_0, f_1))).bind fun r1 =>
  some (decide (r1 ≥ 0)) := by kernel_rfl
theorem slices_IndexFunc_5.eq (k : Nat) (s : List Int) (f_0 : Int) (f_1 : Int) : slices_IndexFunc_5 (k + 1) (s, (f_0, f_1)) =
  (slices_IndexFunc_5_l k (s, (f_0, f_1), (s.length : Int), 0)).bind fun r1 =>
  r1.elim
  (fun r2 => some r2)
  (fun r3 => some (-1)) := by kernel_rfl
theorem slices_IndexFunc_5_l.eq (k : Nat) (s : List Int) (f_0 : Int) (f_1 : Int) (t7 : Int) (t8 : Int) : slices_IndexFunc_5_l (k + 1) (s, (f_0, f_1), t7, t8) =
  cond (decide (t8 < t7))
  (cond (inB t8 s.length)
   ((impl_areWithin_1 k ((s.getD t8.toNat default), f_0, f_1)).bind fun r1 =>
    cond r1
    (some (.inl t8))
    (slices_IndexFunc_5_l k (s, (f_0, f_1), t7, (w64 (t8 + 1)))))
   (none))
  (some (.inr ())) := by kernel_rfl
theorem impl_areWithin_1.eq (k : Nat) (n : Int) (t1_0 : Int) (t2_0 : Int) : impl_areWithin_1 (k + 1) (n, t1_0, t2_0) =
  (impl_within k (n, t1_0, t2_0)).bind fun r1 =>
  some (!r1) := by kernel_rfl
theorem impl_IsPlain_l.eq (k : Nat) (p_Rule : ByteArray) (p_Spots : List (Int × (Int × Int))) (p_X : Int) (p_Y : Int) (p_Way : Int) (t32 : Int) (t33 : Int) : impl_IsPlain_l (k + 1) ((p_Rule, p_Spots, p_X, p_Y, p_Way), (), t32, t33) =
  cond (decide (t33 < t32))
  (cond (inB t33 p_Spots.length)
   ((impl_isNear k ([(p_Spots.getD t33.toNat default).1, (p_Spots.getD t33.toNat default).2.1])).bind fun r1 =>
    cond (!r1)
    (some (.inl false))
    ((impl_within k ((p_Spots.getD t33.toNat default).2.2, 1, (w64 ((p_Rule.size : Int) - 1)))).bind fun r2 =>
     cond (!r2)
     (some (.inl false))
     (cond (decide (t33 > 0))
      (cond (inB (w64 (t33 - 1)) p_Spots.length)
       ((impl_compareSpots k ((p_Spots.getD ((w64 (t33 - 1)).toNat) default), (p_Spots.getD t33.toNat default))).bind fun r3 =>
        cond (decide (r3 ≥ 0))
        (some (.inl false))
        (impl_IsPlain_l k ((p_Rule, p_Spots, p_X, p_Y, p_Way), (), t32, (w64 (t33 + 1)))))
       (none))
      (impl_IsPlain_l k ((p_Rule, p_Spots, p_X, p_Y, p_Way), (), t32, (w64 (t33 + 1)))))))
   (none))
  (some (.inr ())) := by kernel_rfl
theorem impl_compareSpots.eq (k : Nat) (a_X : Int) (a_Y : Int) (a_Colour : Int) (b_X : Int) (b_Y : Int) (b_Colour : Int) : impl_compareSpots (k + 1) ((a_X, a_Y, a_Colour), (b_X, b_Y, b_Colour)) =
  cond (a_Y != b_Y)
  (some (w64 (a_Y - b_Y)))
  (some (w64 (a_X - b_X))) := by kernel_rfl
theorem impl_other.eq (k : Nat) (d : ByteArray) : impl_other (k + 1) d = (fun d => otherB 76 82 d) d := by kernel_rfl
theorem impl_otherWay.eq (k : Nat) (way : Int) : impl_otherWay (k + 1) way =
  some ((w64 (4 - way)).tmod 4) := by kernel_rfl
theorem impl_Plain_changed.eq (k : Nat) (p_Rule : ByteArray) (p_Spots : List (Int × (Int × Int))) (p_X : Int) (p_Y : Int) (p_Way : Int) : impl_Plain_changed (k + 1) ((p_Rule, p_Spots, p_X, p_Y, p_Way), ()) =
  (impl_MirrorPlain_1 k (p_X, p_Y)).bind fun r1 =>
  (impl_Plain_changed_l k ((), (ByteArray.empty, [], 0, 0, 0), (p_Rule, [], r1.1, r1.2, p_Way), p_Spots, (p_Spots.length : Int), 0)).bind fun r2 =>
  (slices_SortFunc k (r2.2.2.1, ())).bind fun r3 =>
  (impl_whole k (r2.2.1, r3.2, r2.2.2.2.1, r2.2.2.2.2.1, r2.2.2.2.2.2)).bind fun r4 =>
  some r4 := by kernel_rfl
theorem impl_MirrorPlain_1.eq (k : Nat) (x : Int) (y : Int) : impl_MirrorPlain_1 (k + 1) (x, y) =
  some ((w64 (0 - x)), y) := by kernel_rfl
theorem impl_Plain_changed_l.eq (k : Nat) (t4_Rule : ByteArray) (t4_Spots : List (Int × (Int × Int))) (t4_X : Int) (t4_Y : Int) (t4_Way : Int) (out_Rule : ByteArray) (out_Spots : List (Int × (Int × Int))) (out_X : Int) (out_Y : Int) (out_Way : Int) (t28 : List (Int × (Int × Int))) (t29 : Int) (t30 : Int) : impl_Plain_changed_l (k + 1) ((), (t4_Rule, t4_Spots, t4_X, t4_Y, t4_Way), (out_Rule, out_Spots, out_X, out_Y, out_Way), t28, t29, t30) =
  cond (decide (t30 < t29))
  (cond (inB t30 t28.length)
   ((impl_MirrorPlain_1 k ((t28.getD t30.toNat default).1, (t28.getD t30.toNat default).2.1)).bind fun r1 =>
    cond (fits (out_Spots.length + 1) 24)
    (impl_Plain_changed_l k ((), (t4_Rule, t4_Spots, t4_X, t4_Y, t4_Way), (out_Rule, (out_Spots ++ [(r1.1, (r1.2, (t28.getD t30.toNat default).2.2))]), out_X, out_Y, out_Way), t28, t29, (w64 (t30 + 1))))
    (none))
   (none))
  (some ((t4_Rule, t4_Spots, t4_X, t4_Y, t4_Way), (out_Rule, out_Spots, out_X, out_Y, out_Way))) := by kernel_rfl
theorem slices_SortFunc.eq (k : Nat) (d : List (Int × (Int × Int)) × Unit) : slices_SortFunc (k + 1) d = (fun d => (sortB (s := (.pair (.int .i64) (.pair (.int .i64) (.int .i64)))) nearS nearS0 cmpS d.1).map fun r => ((), r)) d := by kernel_rfl
theorem impl_whole.eq (k : Nat) (p_Rule : ByteArray) (p_Spots : List (Int × (Int × Int))) (p_X : Int) (p_Y : Int) (p_Way : Int) : impl_whole (k + 1) (p_Rule, p_Spots, p_X, p_Y, p_Way) =
  (impl_IsPlain k (p_Rule, p_Spots, p_X, p_Y, p_Way)).bind fun r1 =>
  cond (!r1)
  (some ((ByteArray.empty, [], 0, 0, 0), false))
  (some ((p_Rule, p_Spots, p_X, p_Y, p_Way), true)) := by kernel_rfl
theorem laws_eqPlain.eq (k : Nat) (a_Rule : ByteArray) (a_Spots : List (Int × (Int × Int))) (a_X : Int) (a_Y : Int) (a_Way : Int) (b_Rule : ByteArray) (b_Spots : List (Int × (Int × Int))) (b_X : Int) (b_Y : Int) (b_Way : Int) : laws_eqPlain (k + 1) ((a_Rule, a_Spots, a_X, a_Y, a_Way), (b_Rule, b_Spots, b_X, b_Y, b_Way)) =
  cond (!(strEq a_Rule b_Rule))
  (some false)
  ((laws_eqSpotS k (a_Spots, b_Spots)).bind fun r1 =>
   cond (!r1)
   (some false)
   (cond (a_X != b_X)
    (some false)
    (cond (a_Y != b_Y)
     (some false)
     (cond (a_Way != b_Way)
      (some false)
      (some true))))) := by kernel_rfl
theorem laws_eqSpotS.eq (k : Nat) (a : List (Int × (Int × Int))) (b : List (Int × (Int × Int))) : laws_eqSpotS (k + 1) (a, b) =
  cond ((a.length : Int) != (b.length : Int))
  (some false)
  ((laws_eqSpotS_l k (a, b, 0)).bind fun r1 =>
   r1.elim
   (fun r2 => some r2)
   (fun r3 => some true)) := by kernel_rfl
theorem laws_eqSpotS_l.eq (k : Nat) (a : List (Int × (Int × Int))) (b : List (Int × (Int × Int))) (i : Int) : laws_eqSpotS_l (k + 1) (a, b, i) =
  cond (decide (i < (a.length : Int)))
  (cond (inB i a.length)
   (cond (inB i b.length)
    ((laws_eqSpot k ((a.getD i.toNat default), (b.getD i.toNat default))).bind fun r1 =>
     cond (!r1)
     (some (.inl false))
     (laws_eqSpotS_l k (a, b, (w64 (i + 1)))))
    (none))
   (none))
  (some (.inr ())) := by kernel_rfl
theorem laws_eqSpot.eq (k : Nat) (a_X : Int) (a_Y : Int) (a_Colour : Int) (b_X : Int) (b_Y : Int) (b_Colour : Int) : laws_eqSpot (k + 1) ((a_X, a_Y, a_Colour), (b_X, b_Y, b_Colour)) =
  cond (a_X != b_X)
  (some false)
  (cond (a_Y != b_Y)
   (some false)
   (cond (a_Colour != b_Colour)
    (some false)
    (some true))) := by kernel_rfl
theorem laws_markPlain.eq (k : Nat) (a_Rule : ByteArray) (a_Spots : List (Int × (Int × Int))) (a_X : Int) (a_Y : Int) (a_Way : Int) (k_ : Int) : laws_markPlain (k + 1) ((a_Rule, a_Spots, a_X, a_Y, a_Way), k_) =
  (laws_markSpotS k (a_Spots, k_)).bind fun r1 =>
  some (r1.1, (a_Rule, r1.2, a_X, a_Y, a_Way)) := by kernel_rfl
theorem laws_markSpotS.eq (k : Nat) (a : List (Int × (Int × Int))) (k_ : Int) : laws_markSpotS (k + 1) (a, k_) =
  (laws_markSpotS_l k (a, k_, 0, ())).bind fun r1 =>
  some r1 := by kernel_rfl
theorem laws_markSpotS_l.eq (k : Nat) (a : List (Int × (Int × Int))) (k_ : Int) (i : Int) : laws_markSpotS_l (k + 1) (a, k_, i, ()) =
  cond (decide (i < (a.length : Int)))
  (cond (inB i a.length)
   (cond (inB i ((a.set i.toNat (k_, (a.getD i.toNat default).2)).length))
    (cond (inB i (((a.set i.toNat (k_, (a.getD i.toNat default).2)).set i.toNat (((a.set i.toNat (k_, (a.getD i.toNat default).2)).getD i.toNat default).1, ((w64 (k_ + 1)), ((a.set i.toNat (k_, (a.getD i.toNat default).2)).getD i.toNat default).2.2))).length))
     (laws_markSpotS_l k ((((a.set i.toNat (k_, (a.getD i.toNat default).2)).set i.toNat (((a.set i.toNat (k_, (a.getD i.toNat default).2)).getD i.toNat default).1, ((w64 (k_ + 1)), ((a.set i.toNat (k_, (a.getD i.toNat default).2)).getD i.toNat default).2.2))).set i.toNat ((((a.set i.toNat (k_, (a.getD i.toNat default).2)).set i.toNat (((a.set i.toNat (k_, (a.getD i.toNat default).2)).getD i.toNat default).1, ((w64 (k_ + 1)), ((a.set i.toNat (k_, (a.getD i.toNat default).2)).getD i.toNat default).2.2))).getD i.toNat default).1, ((((a.set i.toNat (k_, (a.getD i.toNat default).2)).set i.toNat (((a.set i.toNat (k_, (a.getD i.toNat default).2)).getD i.toNat default).1, ((w64 (k_ + 1)), ((a.set i.toNat (k_, (a.getD i.toNat default).2)).getD i.toNat default).2.2))).getD i.toNat default).2.1, (w64 ((w64 (k_ + 1)) + 1))))), (w64 ((w64 ((w64 (k_ + 1)) + 1)) + 1)), (w64 (i + 1)), ()))
     (none))
    (none))
   (none))
  (some (k_, a)) := by kernel_rfl
theorem laws_heldPlain.eq (k : Nat) (a_Rule : ByteArray) (a_Spots : List (Int × (Int × Int))) (a_X : Int) (a_Y : Int) (a_Way : Int) (k_ : Int) : laws_heldPlain (k + 1) ((a_Rule, a_Spots, a_X, a_Y, a_Way), k_) =
  (laws_heldSpotS k (a_Spots, k_)).bind fun r1 =>
  cond (decide (r1 < 0))
  (some (-1))
  (some r1) := by kernel_rfl
theorem laws_heldSpotS.eq (k : Nat) (a : List (Int × (Int × Int))) (k_ : Int) : laws_heldSpotS (k + 1) (a, k_) =
  (laws_heldSpotS_l k (a, k_, 0)).bind fun r1 =>
  r1.elim
  (fun r2 => some r2)
  (fun r3 => some r3) := by kernel_rfl
theorem laws_heldSpotS_l.eq (k : Nat) (a : List (Int × (Int × Int))) (k_ : Int) (i : Int) : laws_heldSpotS_l (k + 1) (a, k_, i) =
  cond (decide (i < (a.length : Int)))
  (cond (inB i a.length)
   (cond ((a.getD i.toNat default).1 != k_)
    (some (.inl (-1)))
    (cond (inB i a.length)
     (cond ((a.getD i.toNat default).2.1 != (w64 (k_ + 1)))
      (some (.inl (-1)))
      (cond (inB i a.length)
       (cond ((a.getD i.toNat default).2.2 != (w64 ((w64 (k_ + 1)) + 1)))
        (some (.inl (-1)))
        (laws_heldSpotS_l k (a, (w64 ((w64 ((w64 (k_ + 1)) + 1)) + 1)), (w64 (i + 1)))))
       (none)))
     (none)))
   (none))
  (some (.inr k_)) := by kernel_rfl
end Go.Proofs.YtmdgodjcfhimbaaGreatDoorS
