/- What each function computes (printed by wip/sim/gen.py). -/
import Derived.Test.YtplamonjnlgomaaGreatDoorTab
namespace Go.Proofs.YtplamonjnlgomaaGreatDoorS
open Go Go.Proofs
set_option maxRecDepth 100000
set_option linter.unusedVariables false
theorem laws_big.eq (k : Nat) (code : List Int) (more : List Int) : laws_big (k + 1) (code, more) =
  cond (decide ((code.length : Int) > 1048576))
  (some true)
  (some (decide ((more.length : Int) > (w64 (1048576 - (code.length : Int)))))) := by kernel_rfl
theorem spec_DrawSolutions.eq (k : Nat) (code : List Int) : spec_DrawSolutions (k + 1) code =
  (spec_DrawIsPuzzle k code).bind fun r1 =>
  some r1 := by kernel_rfl
theorem spec_DrawIsPuzzle.eq (k : Nat) (code : List Int) : spec_DrawIsPuzzle (k + 1) code =
  (spec_l1Cur_puzzle k (code, 0, 0)).bind fun r1 =>
  some r1.1 := by kernel_rfl
theorem spec_l1Cur_puzzle.eq (k : Nat) (c_code : List Int) (c_at : Int) (c_seed : Int) : spec_l1Cur_puzzle (k + 1) (c_code, c_at, c_seed) =
  (spec_l1Cur_surePuzzle k ((c_code, c_at, c_seed), 5)).bind fun r1 =>
  (spec_l1Cur_pick k (r1.2, 12)).bind fun r2 =>
  cond (r2.1 == 0)
  ((spec_l1Cur_among k (r2.2, [0, 1, 3, 9, 10, 4611686018427387904])).bind fun r3 =>
   some ((r1.1.1, r3.1, r1.1.2.2.1, r1.1.2.2.2), r3.2))
  (cond (r2.1 == 1)
   ((spec_l1Cur_clue k r2.2).bind fun r4 =>
    cond (fits (r1.1.2.2.2.length + 1) 24)
    (some ((r1.1.1, r1.1.2.1, r1.1.2.2.1, (r1.1.2.2.2 ++ [r4.1])), r4.2))
    (none))
   (cond (r2.1 == 2)
    ((spec_l1Cur_puzzle_l k (r2.2, (ByteArray.empty, 0, 0, []), r1.1, ())).bind fun r5 =>
     some r5.2)
    (cond (r2.1 == 3)
     ((spec_l1Cur_rule k r2.2).bind fun r6 =>
      some ((r6.1, r1.1.2.1, r1.1.2.2.1, r1.1.2.2.2), r6.2))
     (some (r1.1, r2.2))))) := by kernel_rfl
theorem spec_l1Cur_surePuzzle.eq (k : Nat) (c_code : List Int) (c_at : Int) (c_seed : Int) (most : Int) : spec_l1Cur_surePuzzle (k + 1) ((c_code, c_at, c_seed), most) =
  (spec_l1Cur_hidden k (c_code, c_at, c_seed)).bind fun r1 =>
  (spec_l1Cur_pick k (r1.2, (w64 (most + 1)))).bind fun r2 =>
  (spec_l1Cur_pick k (r2.2, 10000)).bind fun r3 =>
  (spec_MakePuzzle k (r1.1, r2.1, r3.1)).bind fun r4 =>
  some (r4.1, r3.2) := by kernel_rfl
theorem spec_l1Cur_hidden.eq (k : Nat) (c_code : List Int) (c_at : Int) (c_seed : Int) : spec_l1Cur_hidden (k + 1) (c_code, c_at, c_seed) =
  (spec_l1Cur_of k ((c_code, c_at, c_seed), [(bs [76, 82]), (bs [76, 82]), (bs [82, 76]), (bs [76, 82, 78]), (bs [76, 85]), (bs [78]), (bs [76, 76, 82, 82]), (bs [82, 76, 85])])).bind fun r1 =>
  (spec_l1Cur_pick k (r1.2, 2)).bind fun r2 =>
  (spec_l1Cur_pick k (r2.2, 2)).bind fun r3 =>
  (spec_l1Cur_one k (r3.2, 3)).bind fun r4 =>
  cond r4.1
  (cond (decide ((r1.1.size : Int) < 3))
   ((spec_l1Cur_hidden_l k (r4.2, (ByteArray.empty, 0, 0, ByteArray.empty, 0, 0, 0), (r1.1, 3, (w64 (1 + r3.1)), ByteArray.empty, 0, 0, 0), ())).bind fun r5 =>
    some r5.2)
   ((spec_l1Cur_hidden_l k (r4.2, (ByteArray.empty, 0, 0, ByteArray.empty, 0, 0, 0), (r1.1, (w64 (1 + r2.1)), (w64 (1 + r3.1)), ByteArray.empty, 0, 0, 0), ())).bind fun r6 =>
    some r6.2))
  ((spec_l1Cur_hidden_l k (r4.2, (ByteArray.empty, 0, 0, ByteArray.empty, 0, 0, 0), (r1.1, (w64 (1 + r2.1)), (w64 (1 + r3.1)), ByteArray.empty, 0, 0, 0), ())).bind fun r7 =>
   some r7.2) := by kernel_rfl
theorem spec_l1Cur_of.eq (k : Nat) (c_code : List Int) (c_at : Int) (c_seed : Int) (list : List ByteArray) : spec_l1Cur_of (k + 1) ((c_code, c_at, c_seed), list) =
  (spec_l1Cur_pick k ((c_code, c_at, c_seed), (list.length : Int))).bind fun r1 =>
  cond (inB r1.1 list.length)
  (some ((list.getD r1.1.toNat default), r1.2))
  (none) := by kernel_rfl
theorem spec_l1Cur_pick.eq (k : Nat) (c_code : List Int) (c_at : Int) (c_seed : Int) (n : Int) : spec_l1Cur_pick (k + 1) ((c_code, c_at, c_seed), n) =
  cond (decide (n ≤ 1))
  (some (0, (c_code, c_at, c_seed)))
  ((spec_l1Cur_next k (c_code, c_at, c_seed)).bind fun r1 =>
   cond (decide (n > 200))
   ((spec_l1Cur_next k r1.2).bind fun r2 =>
    cond (n != 0)
    (some (((w64 ((w64 (r1.1 * 256)) + r2.1)).tmod n), r2.2))
    (none))
   (cond (n != 0)
    (some ((r1.1.tmod n), r1.2))
    (none))) := by kernel_rfl
theorem spec_l1Cur_next.eq (k : Nat) (c_code : List Int) (c_at : Int) (c_seed : Int) : spec_l1Cur_next (k + 1) (c_code, c_at, c_seed) =
  cond (decide (c_at < (c_code.length : Int)))
  (cond (inB c_at c_code.length)
   (cond (decide ((w64 (c_at + 1)) ≤ (c_code.length : Int)))
    (some ((w64 (c_code.getD c_at.toNat default)), (c_code, (w64 (c_at + 1)), (IntKind.u64.wrap ((IntKind.u64.wrap ((IntKind.u64.wrap (c_seed * 6364136223846793005)) + (IntKind.u64.wrap (w64 (c_code.getD c_at.toNat default))))) + 1442695040888963407)))))
    (some ((w64 (andI .u64 (shrI .u64 (IntKind.u64.wrap ((IntKind.u64.wrap ((IntKind.u64.wrap (c_seed * 6364136223846793005)) + (IntKind.u64.wrap (w64 (c_code.getD c_at.toNat default))))) + 1442695040888963407)) 40) 255)), (c_code, (w64 (c_at + 1)), (IntKind.u64.wrap ((IntKind.u64.wrap ((IntKind.u64.wrap (c_seed * 6364136223846793005)) + (IntKind.u64.wrap (w64 (c_code.getD c_at.toNat default))))) + 1442695040888963407))))))
   (none))
  (cond (decide ((w64 (c_at + 1)) ≤ (c_code.length : Int)))
   (some (0, (c_code, (w64 (c_at + 1)), (IntKind.u64.wrap ((IntKind.u64.wrap ((IntKind.u64.wrap (c_seed * 6364136223846793005)) + 0)) + 1442695040888963407)))))
   (some ((w64 (andI .u64 (shrI .u64 (IntKind.u64.wrap ((IntKind.u64.wrap ((IntKind.u64.wrap (c_seed * 6364136223846793005)) + 0)) + 1442695040888963407)) 40) 255)), (c_code, (w64 (c_at + 1)), (IntKind.u64.wrap ((IntKind.u64.wrap ((IntKind.u64.wrap (c_seed * 6364136223846793005)) + 0)) + 1442695040888963407)))))) := by kernel_rfl
theorem spec_l1Cur_one.eq (k : Nat) (c_code : List Int) (c_at : Int) (c_seed : Int) (n : Int) : spec_l1Cur_one (k + 1) ((c_code, c_at, c_seed), n) =
  (spec_l1Cur_pick k ((c_code, c_at, c_seed), n)).bind fun r1 =>
  some ((r1.1 == 0), r1.2) := by kernel_rfl
theorem spec_l1Cur_hidden_l.eq (k : Nat) (c_code : List Int) (c_at : Int) (c_seed : Int) (t2_Rule : ByteArray) (t2_Width : Int) (t2_Height : Int) (t2_Cells : ByteArray) (t2_X : Int) (t2_Y : Int) (t2_Way : Int) (w_Rule : ByteArray) (w_Width : Int) (w_Height : Int) (w_Cells : ByteArray) (w_X : Int) (w_Y : Int) (w_Way : Int) : spec_l1Cur_hidden_l (k + 1) ((c_code, c_at, c_seed), (t2_Rule, t2_Width, t2_Height, t2_Cells, t2_X, t2_Y, t2_Way), (w_Rule, w_Width, w_Height, w_Cells, w_X, w_Y, w_Way), ()) =
  cond (decide ((w_Cells.size : Int) < (w64 (w_Width * w_Height))))
  ((spec_l1Cur_pick k ((c_code, c_at, c_seed), (w_Rule.size : Int))).bind fun r1 =>
   (spec_l1Num k r1.1).bind fun r2 =>
   cond (fitS w_Cells r2)
   (spec_l1Cur_hidden_l k (r1.2, (t2_Rule, t2_Width, t2_Height, t2_Cells, t2_X, t2_Y, t2_Way), (w_Rule, w_Width, w_Height, (w_Cells ++ r2), w_X, w_Y, w_Way), ()))
   (none))
  (some ((t2_Rule, t2_Width, t2_Height, t2_Cells, t2_X, t2_Y, t2_Way), (w_Rule, w_Width, w_Height, w_Cells, w_X, w_Y, w_Way), (c_code, c_at, c_seed))) := by kernel_rfl
theorem spec_l1Num.eq (k : Nat) (n : Int) : spec_l1Num (k + 1) n =
  cond (decide (n < 10))
  (some (ofBytes [(w8 (w64 (48 + n)))]))
  ((spec_l1Num k (w64 (n.tdiv 10))).bind fun r1 =>
   cond (fitS r1 (ofBytes [(w8 (w64 (48 + (n.tmod 10))))]))
   (some (r1 ++ (ofBytes [(w8 (w64 (48 + (n.tmod 10))))])))
   (none)) := by kernel_rfl
theorem spec_MakePuzzle.eq (k : Nat) (w_Rule : ByteArray) (w_Width : Int) (w_Height : Int) (w_Cells : ByteArray) (w_X : Int) (w_Y : Int) (w_Way : Int) (clues : Int) (seed : Int) : spec_MakePuzzle (k + 1) ((w_Rule, w_Width, w_Height, w_Cells, w_X, w_Y, w_Way), clues, seed) =
  (spec_pzHidden k (w_Rule, w_Width, w_Height, w_Cells, w_X, w_Y, w_Way)).bind fun r1 =>
  cond (!r1)
  (some ((ByteArray.empty, 0, 0, []), false))
  ((spec_l1In k (clues, 0, 6)).bind fun r2 =>
   cond (!r2)
   (some ((ByteArray.empty, 0, 0, []), false))
   ((spec_l1In k (seed, 0, 9999)).bind fun r3 =>
    cond (!r3)
    (some ((ByteArray.empty, 0, 0, []), false))
    ((spec_MakePuzzle_l k (clues, (w_Rule, w_Width, w_Height, w_Cells, w_X, w_Y, w_Way), (ByteArray.empty, 0, 0, []), (w_Rule, w_Width, w_Height, []), seed)).bind fun r4 =>
     some (r4.2, true)))) := by kernel_rfl
theorem spec_pzHidden.eq (k : Nat) (w_Rule : ByteArray) (w_Width : Int) (w_Height : Int) (w_Cells : ByteArray) (w_X : Int) (w_Y : Int) (w_Way : Int) : spec_pzHidden (k + 1) (w_Rule, w_Width, w_Height, w_Cells, w_X, w_Y, w_Way) =
  (spec_woGood k (w_Rule, w_Width, w_Height, w_Cells, w_X, w_Y, w_Way)).bind fun r1 =>
  cond r1
  (cond (w_X == 0)
   (cond (w_Y == 0)
    (cond (w_Way == 0)
     ((spec_pzSize k (w_Rule, w_Width, w_Height)).bind fun r2 =>
      some r2)
     (some false))
    (some false))
   (some false))
  (some false) := by kernel_rfl
theorem spec_woGood.eq (k : Nat) (w_Rule : ByteArray) (w_Width : Int) (w_Height : Int) (w_Cells : ByteArray) (w_X : Int) (w_Y : Int) (w_Way : Int) : spec_woGood (k + 1) (w_Rule, w_Width, w_Height, w_Cells, w_X, w_Y, w_Way) =
  (spec_woRule k w_Rule).bind fun r1 =>
  cond (!r1)
  (some false)
  ((spec_l1In k (w_Width, 1, 9)).bind fun r2 =>
   cond (!r2)
   (some false)
   ((spec_l1In k (w_Height, 1, 9)).bind fun r3 =>
    cond (!r3)
    (some false)
    (cond ((w_Cells.size : Int) != (w64 (w_Width * w_Height)))
     (some false)
     ((spec_woGood_l k ((w_Rule, w_Width, w_Height, w_Cells, w_X, w_Y, w_Way), 0)).bind fun r4 =>
      r4.elim
      (fun r5 => some r5)
      (fun r6 => (spec_l1In k (r6.2.2.2.2.1, 0, (w64 (r6.2.1 - 1)))).bind fun r7 =>
       cond r7
       ((spec_l1In k (r6.2.2.2.2.2.1, 0, (w64 (r6.2.2.1 - 1)))).bind fun r8 =>
        cond r8
        ((spec_l1In k (r6.2.2.2.2.2.2, 0, 3)).bind fun r9 =>
         some r9)
        (some false))
       (some false)))))) := by kernel_rfl
theorem spec_woRule.eq (k : Nat) (rule : ByteArray) : spec_woRule (k + 1) rule =
  (spec_l1In k ((rule.size : Int), 1, 6)).bind fun r1 =>
  cond (!r1)
  (some false)
  ((spec_woRule_l k (rule, 0)).bind fun r2 =>
   r2.elim
   (fun r3 => some r3)
   (fun r4 => some true)) := by kernel_rfl
theorem spec_l1In.eq (k : Nat) (n : Int) (lo : Int) (hi : Int) : spec_l1In (k + 1) (n, lo, hi) =
  cond (decide (n ≥ lo))
  (some (decide (n ≤ hi)))
  (some false) := by kernel_rfl
theorem spec_woRule_l.eq (k : Nat) (rule : ByteArray) (i : Int) : spec_woRule_l (k + 1) (rule, i) =
  cond (decide (i < (rule.size : Int)))
  (cond (inB i rule.size)
   (cond ((bt rule i.toNat) == 76)
    (spec_woRule_l k (rule, (w64 (i + 1))))
    (cond ((bt rule i.toNat) == 82)
     (spec_woRule_l k (rule, (w64 (i + 1))))
     (cond ((bt rule i.toNat) == 78)
      (spec_woRule_l k (rule, (w64 (i + 1))))
      (cond ((bt rule i.toNat) == 85)
       (spec_woRule_l k (rule, (w64 (i + 1))))
       (some (.inl false))))))
   (none))
  (some (.inr ())) := by kernel_rfl
theorem spec_woGood_l.eq (k : Nat) (w_Rule : ByteArray) (w_Width : Int) (w_Height : Int) (w_Cells : ByteArray) (w_X : Int) (w_Y : Int) (w_Way : Int) (i : Int) : spec_woGood_l (k + 1) ((w_Rule, w_Width, w_Height, w_Cells, w_X, w_Y, w_Way), i) =
  cond (decide (i < (w_Cells.size : Int)))
  (cond (inB i w_Cells.size)
   ((spec_l1In k ((w64 ((w64 (bt w_Cells i.toNat)) - 48)), 0, (w64 ((w_Rule.size : Int) - 1)))).bind fun r1 =>
    cond (!r1)
    (some (.inl false))
    (spec_woGood_l k ((w_Rule, w_Width, w_Height, w_Cells, w_X, w_Y, w_Way), (w64 (i + 1)))))
   (none))
  (some (.inr (w_Rule, w_Width, w_Height, w_Cells, w_X, w_Y, w_Way))) := by kernel_rfl
theorem spec_pzSize.eq (k : Nat) (rule : ByteArray) (width : Int) (height : Int) : spec_pzSize (k + 1) (rule, width, height) =
  (spec_woRule k rule).bind fun r1 =>
  cond r1
  ((spec_l1In k (width, 1, 9)).bind fun r2 =>
   cond r2
   ((spec_l1In k (height, 1, 9)).bind fun r3 =>
    cond r3
    (cond (decide ((w64 (width * height)) ≤ 9))
     ((spec_pzPower k (rule, (w64 (width * height)))).bind fun r4 =>
      some (decide (r4 > 0)))
     (some false))
    (some false))
   (some false))
  (some false) := by kernel_rfl
theorem spec_pzPower.eq (k : Nat) (rule : ByteArray) (cells : Int) : spec_pzPower (k + 1) (rule, cells) =
  (spec_pzPower_l k (rule, cells, 1)).bind fun r1 =>
  r1.elim
  (fun r2 => some r2)
  (fun r3 => some r3) := by kernel_rfl
theorem spec_pzPower_l.eq (k : Nat) (rule : ByteArray) (cells : Int) (n : Int) : spec_pzPower_l (k + 1) (rule, cells, n) =
  cond (decide (cells > 0))
  (cond (decide ((w64 (n * (rule.size : Int))) > 300))
   (some (.inl 0))
   (spec_pzPower_l k (rule, (w64 (cells - 1)), (w64 (n * (rule.size : Int))))))
  (some (.inr n)) := by kernel_rfl
theorem spec_MakePuzzle_l.eq (k : Nat) (clues : Int) (w_Rule : ByteArray) (w_Width : Int) (w_Height : Int) (w_Cells : ByteArray) (w_X : Int) (w_Y : Int) (w_Way : Int) (t6_Rule : ByteArray) (t6_Width : Int) (t6_Height : Int) (t6_Clues : List (Int × (Int × Int))) (p_Rule : ByteArray) (p_Width : Int) (p_Height : Int) (p_Clues : List (Int × (Int × Int))) (z : Int) : spec_MakePuzzle_l (k + 1) (clues, (w_Rule, w_Width, w_Height, w_Cells, w_X, w_Y, w_Way), (t6_Rule, t6_Width, t6_Height, t6_Clues), (p_Rule, p_Width, p_Height, p_Clues), z) =
  cond (decide (clues > 0))
  ((spec_pzNext k z).bind fun r1 =>
   cond (decide ((r1.tmod 5) < 4))
   ((spec_pzNext k r1).bind fun r2 =>
    cond ((r1.tmod 5) == 0)
    (cond ((w_Cells.size : Int) != 0)
     ((spec_pzOf k ((r1.tmod 5), (r2.tmod (w_Cells.size : Int)), (w_Rule, w_Width, w_Height, w_Cells, w_X, w_Y, w_Way))).bind fun r3 =>
      cond (fits (p_Clues.length + 1) 24)
      (spec_MakePuzzle_l k ((w64 (clues - 1)), (w_Rule, w_Width, w_Height, w_Cells, w_X, w_Y, w_Way), (t6_Rule, t6_Width, t6_Height, t6_Clues), (p_Rule, p_Width, p_Height, (p_Clues ++ [r3])), r2))
      (none))
     (none))
    ((spec_pzOf k ((r1.tmod 5), (r2.tmod 51), (w_Rule, w_Width, w_Height, w_Cells, w_X, w_Y, w_Way))).bind fun r4 =>
     cond (fits (p_Clues.length + 1) 24)
     (spec_MakePuzzle_l k ((w64 (clues - 1)), (w_Rule, w_Width, w_Height, w_Cells, w_X, w_Y, w_Way), (t6_Rule, t6_Width, t6_Height, t6_Clues), (p_Rule, p_Width, p_Height, (p_Clues ++ [r4])), r2))
     (none)))
   ((spec_pzOf k ((r1.tmod 5), 0, (w_Rule, w_Width, w_Height, w_Cells, w_X, w_Y, w_Way))).bind fun r5 =>
    cond (fits (p_Clues.length + 1) 24)
    (spec_MakePuzzle_l k ((w64 (clues - 1)), (w_Rule, w_Width, w_Height, w_Cells, w_X, w_Y, w_Way), (t6_Rule, t6_Width, t6_Height, t6_Clues), (p_Rule, p_Width, p_Height, (p_Clues ++ [r5])), r1))
    (none)))
  (some ((t6_Rule, t6_Width, t6_Height, t6_Clues), (p_Rule, p_Width, p_Height, p_Clues))) := by kernel_rfl
theorem spec_pzNext.eq (k : Nat) (z : Int) : spec_pzNext (k + 1) z =
  some ((w64 ((w64 (151 * z)) + 2083)).tmod 10007) := by kernel_rfl
theorem spec_pzOf.eq (k : Nat) (kind : Int) (a : Int) (w_Rule : ByteArray) (w_Width : Int) (w_Height : Int) (w_Cells : ByteArray) (w_X : Int) (w_Y : Int) (w_Way : Int) : spec_pzOf (k + 1) (kind, a, (w_Rule, w_Width, w_Height, w_Cells, w_X, w_Y, w_Way)) =
  cond (kind == 4)
  ((spec_pzValue k (4, 0, (w_Rule, w_Width, w_Height, w_Cells, w_X, w_Y, w_Way))).bind fun r1 =>
   some (4, r1, 0))
  ((spec_pzValue k (kind, a, (w_Rule, w_Width, w_Height, w_Cells, w_X, w_Y, w_Way))).bind fun r2 =>
   some (kind, a, r2)) := by kernel_rfl
theorem spec_pzValue.eq (k : Nat) (kind : Int) (a : Int) (w_Rule : ByteArray) (w_Width : Int) (w_Height : Int) (w_Cells : ByteArray) (w_X : Int) (w_Y : Int) (w_Way : Int) : spec_pzValue (k + 1) (kind, a, (w_Rule, w_Width, w_Height, w_Cells, w_X, w_Y, w_Way)) =
  cond (decide (kind > 0))
  (cond (decide (kind < 4))
   ((spec_pzValue_l k (kind, a, (w_Rule, w_Width, w_Height, w_Cells, w_X, w_Y, w_Way), 0, 0)).bind fun r1 =>
    (spec_pzValue_l_2 k (r1.1, r1.2.1, r1.2.2.1, r1.2.2.2.1, r1.2.2.2.2, 0)).bind fun r2 =>
    cond (r2.1 == 0)
    (cond (inB r2.2.1 r2.2.2.1.2.2.2.1.size)
     (some (w64 (w8 ((bt r2.2.2.1.2.2.2.1 r2.2.1.toNat) - 48))))
     (none))
    (cond (r2.1 == 1)
     (some (w64 ((w64 (r2.2.2.1.2.2.2.2.2.1 * r2.2.2.1.2.1)) + r2.2.2.1.2.2.2.2.1)))
     (cond (r2.1 == 2)
      (some r2.2.2.1.2.2.2.2.2.2)
      (cond (r2.1 == 3)
       (some r2.2.2.2.2)
       (some r2.2.2.2.1)))))
   ((spec_pzValue_l_2 k (kind, a, (w_Rule, w_Width, w_Height, w_Cells, w_X, w_Y, w_Way), 0, 0, 0)).bind fun r3 =>
    cond (r3.1 == 0)
    (cond (inB r3.2.1 r3.2.2.1.2.2.2.1.size)
     (some (w64 (w8 ((bt r3.2.2.1.2.2.2.1 r3.2.1.toNat) - 48))))
     (none))
    (cond (r3.1 == 1)
     (some (w64 ((w64 (r3.2.2.1.2.2.2.2.2.1 * r3.2.2.1.2.1)) + r3.2.2.1.2.2.2.2.1)))
     (cond (r3.1 == 2)
      (some r3.2.2.1.2.2.2.2.2.2)
      (cond (r3.1 == 3)
       (some r3.2.2.2.2)
       (some r3.2.2.2.1))))))
  ((spec_pzValue_l_2 k (kind, a, (w_Rule, w_Width, w_Height, w_Cells, w_X, w_Y, w_Way), 0, 0, 0)).bind fun r4 =>
   cond (r4.1 == 0)
   (cond (inB r4.2.1 r4.2.2.1.2.2.2.1.size)
    (some (w64 (w8 ((bt r4.2.2.1.2.2.2.1 r4.2.1.toNat) - 48))))
    (none))
   (cond (r4.1 == 1)
    (some (w64 ((w64 (r4.2.2.1.2.2.2.2.2.1 * r4.2.2.1.2.1)) + r4.2.2.1.2.2.2.2.1)))
    (cond (r4.1 == 2)
     (some r4.2.2.1.2.2.2.2.2.2)
     (cond (r4.1 == 3)
      (some r4.2.2.2.2)
      (some r4.2.2.2.1))))) := by kernel_rfl
theorem spec_pzValue_l.eq (k : Nat) (kind : Int) (a : Int) (w_Rule : ByteArray) (w_Width : Int) (w_Height : Int) (w_Cells : ByteArray) (w_X : Int) (w_Y : Int) (w_Way : Int) (sum : Int) (free : Int) : spec_pzValue_l (k + 1) (kind, a, (w_Rule, w_Width, w_Height, w_Cells, w_X, w_Y, w_Way), sum, free) =
  cond (decide (a > 0))
  ((spec_woStep k (w_Rule, w_Width, w_Height, w_Cells, w_X, w_Y, w_Way)).bind fun r1 =>
   spec_pzValue_l k (kind, (w64 (a - 1)), r1, sum, free))
  (some (kind, a, (w_Rule, w_Width, w_Height, w_Cells, w_X, w_Y, w_Way), sum, free)) := by kernel_rfl
theorem spec_woStep.eq (k : Nat) (w_Rule : ByteArray) (w_Width : Int) (w_Height : Int) (w_Cells : ByteArray) (w_X : Int) (w_Y : Int) (w_Way : Int) : spec_woStep (k + 1) (w_Rule, w_Width, w_Height, w_Cells, w_X, w_Y, w_Way) =
  (spec_woColour k ((w_Rule, w_Width, w_Height, w_Cells, w_X, w_Y, w_Way), w_X, w_Y)).bind fun r1 =>
  cond (inB r1 w_Rule.size)
  ((spec_woTurn k (bt w_Rule r1.toNat)).bind fun r2 =>
   cond ((w_Rule.size : Int) != 0)
   ((spec_woPaint k ((w_Rule, w_Width, w_Height, w_Cells, w_X, w_Y, ((w64 (w_Way + r2)).tmod 4)), w_X, w_Y, ((w64 (r1 + 1)).tmod (w_Rule.size : Int)))).bind fun r3 =>
    (spec_woGo k (r3.2, 1)).bind fun r4 =>
    some r4.2)
   (none))
  (none) := by kernel_rfl
theorem spec_woColour.eq (k : Nat) (w_Rule : ByteArray) (w_Width : Int) (w_Height : Int) (w_Cells : ByteArray) (w_X : Int) (w_Y : Int) (w_Way : Int) (x : Int) (y : Int) : spec_woColour (k + 1) ((w_Rule, w_Width, w_Height, w_Cells, w_X, w_Y, w_Way), x, y) =
  cond (inB (w64 ((w64 (y * w_Width)) + x)) w_Cells.size)
  (some (w64 (w8 ((bt w_Cells ((w64 ((w64 (y * w_Width)) + x)).toNat)) - 48))))
  (none) := by kernel_rfl
theorem spec_woTurn.eq (k : Nat) (sign : Int) : spec_woTurn (k + 1) sign =
  cond (sign == 82)
  (some 1)
  (cond (sign == 85)
   (some 2)
   (cond (sign == 76)
    (some 3)
    (some 0))) := by kernel_rfl
theorem spec_woPaint.eq (k : Nat) (w_Rule : ByteArray) (w_Width : Int) (w_Height : Int) (w_Cells : ByteArray) (w_X : Int) (w_Y : Int) (w_Way : Int) (x : Int) (y : Int) (colour : Int) : spec_woPaint (k + 1) ((w_Rule, w_Width, w_Height, w_Cells, w_X, w_Y, w_Way), x, y, colour) =
  cond ((decide ((0 : Int) ≤ (w64 ((w64 (y * w_Width)) + x)))) && (decide ((w64 ((w64 (y * w_Width)) + x)) ≤ (w_Cells.size : Int))))
  ((spec_l1Num k colour).bind fun r1 =>
   cond (fitS (w_Cells.extract 0 ((w64 ((w64 (y * w_Width)) + x)).toNat)) r1)
   (cond ((decide ((0 : Int) ≤ (w64 ((w64 ((w64 (y * w_Width)) + x)) + 1)))) && (decide ((w64 ((w64 ((w64 (y * w_Width)) + x)) + 1)) ≤ (w_Cells.size : Int))))
    (cond (fitS ((w_Cells.extract 0 ((w64 ((w64 (y * w_Width)) + x)).toNat)) ++ r1) (w_Cells.extract ((w64 ((w64 ((w64 (y * w_Width)) + x)) + 1)).toNat) w_Cells.size))
     (some ((), (w_Rule, w_Width, w_Height, (((w_Cells.extract 0 ((w64 ((w64 (y * w_Width)) + x)).toNat)) ++ r1) ++ (w_Cells.extract ((w64 ((w64 ((w64 (y * w_Width)) + x)) + 1)).toNat) w_Cells.size)), w_X, w_Y, w_Way)))
     (none))
    (none))
   (none))
  (none) := by kernel_rfl
theorem spec_woGo.eq (k : Nat) (w_Rule : ByteArray) (w_Width : Int) (w_Height : Int) (w_Cells : ByteArray) (w_X : Int) (w_Y : Int) (w_Way : Int) (cells : Int) : spec_woGo (k + 1) ((w_Rule, w_Width, w_Height, w_Cells, w_X, w_Y, w_Way), cells) =
  cond (w_Way == 0)
  ((spec_l1Mod k ((w64 (w_Y - cells)), w_Height)).bind fun r1 =>
   some ((), (w_Rule, w_Width, w_Height, w_Cells, w_X, r1, w_Way)))
  (cond (w_Way == 1)
   ((spec_l1Mod k ((w64 (w_X + cells)), w_Width)).bind fun r2 =>
    some ((), (w_Rule, w_Width, w_Height, w_Cells, r2, w_Y, w_Way)))
   (cond (w_Way == 2)
    ((spec_l1Mod k ((w64 (w_Y + cells)), w_Height)).bind fun r3 =>
     some ((), (w_Rule, w_Width, w_Height, w_Cells, w_X, r3, w_Way)))
    ((spec_l1Mod k ((w64 (w_X - cells)), w_Width)).bind fun r4 =>
     some ((), (w_Rule, w_Width, w_Height, w_Cells, r4, w_Y, w_Way))))) := by kernel_rfl
theorem spec_l1Mod.eq (k : Nat) (n : Int) (m : Int) : spec_l1Mod (k + 1) (n, m) =
  cond (m != 0)
  (cond (m != 0)
   (some ((w64 ((n.tmod m) + m)).tmod m))
   (none))
  (none) := by kernel_rfl
theorem spec_pzValue_l_2.eq (k : Nat) (kind : Int) (a : Int) (w_Rule : ByteArray) (w_Width : Int) (w_Height : Int) (w_Cells : ByteArray) (w_X : Int) (w_Y : Int) (w_Way : Int) (sum : Int) (free : Int) (i : Int) : spec_pzValue_l_2 (k + 1) (kind, a, (w_Rule, w_Width, w_Height, w_Cells, w_X, w_Y, w_Way), sum, free, i) =
  cond (decide (i < (w_Cells.size : Int)))
  (cond (inB i w_Cells.size)
   (cond (inB i w_Cells.size)
    (cond ((bt w_Cells i.toNat) == 48)
     (spec_pzValue_l_2 k (kind, a, (w_Rule, w_Width, w_Height, w_Cells, w_X, w_Y, w_Way), (w64 (sum + (w64 (w8 ((bt w_Cells i.toNat) - 48))))), (w64 (free + 1)), (w64 (i + 1))))
     (spec_pzValue_l_2 k (kind, a, (w_Rule, w_Width, w_Height, w_Cells, w_X, w_Y, w_Way), (w64 (sum + (w64 (w8 ((bt w_Cells i.toNat) - 48))))), free, (w64 (i + 1)))))
    (none))
   (none))
  (some (kind, a, (w_Rule, w_Width, w_Height, w_Cells, w_X, w_Y, w_Way), sum, free)) := by kernel_rfl
theorem spec_l1Cur_among.eq (k : Nat) (c_code : List Int) (c_at : Int) (c_seed : Int) (list : List Int) : spec_l1Cur_among (k + 1) ((c_code, c_at, c_seed), list) =
  (spec_l1Cur_pick k ((c_code, c_at, c_seed), (list.length : Int))).bind fun r1 =>
  cond (inB r1.1 list.length)
  (some ((list.getD r1.1.toNat default), r1.2))
  (none) := by kernel_rfl
theorem spec_l1Cur_clue.eq (k : Nat) (c_code : List Int) (c_at : Int) (c_seed : Int) : spec_l1Cur_clue (k + 1) (c_code, c_at, c_seed) =
  (spec_l1Cur_pick k ((c_code, c_at, c_seed), 5)).bind fun r1 =>
  (spec_l1Cur_pick k (r1.2, 9)).bind fun r2 =>
  (spec_l1Cur_pick k (r2.2, 4)).bind fun r3 =>
  (spec_l1Cur_pick k (r3.2, 9)).bind fun r4 =>
  (spec_l1Cur_pick k (r4.2, 4)).bind fun r5 =>
  (spec_l1Cur_pick k (r5.2, 9)).bind fun r6 =>
  cond ((w64 (r1.1 + (w64 (r2.1.tdiv 8)))) == 4)
  ((spec_l1Cur_one k (r6.2, 6)).bind fun r7 =>
   cond (!r7.1)
   (some (((w64 (r1.1 + (w64 (r2.1.tdiv 8)))), (w64 (r3.1 - (w64 (r4.1.tdiv 8)))), 0), r7.2))
   (some (((w64 (r1.1 + (w64 (r2.1.tdiv 8)))), (w64 (r3.1 - (w64 (r4.1.tdiv 8)))), (w64 (r5.1 - (w64 (r6.1.tdiv 8))))), r7.2)))
  (some (((w64 (r1.1 + (w64 (r2.1.tdiv 8)))), (w64 (r3.1 - (w64 (r4.1.tdiv 8)))), (w64 (r5.1 - (w64 (r6.1.tdiv 8))))), r6.2)) := by kernel_rfl
theorem spec_l1Cur_puzzle_l.eq (k : Nat) (c_code : List Int) (c_at : Int) (c_seed : Int) (t2_Rule : ByteArray) (t2_Width : Int) (t2_Height : Int) (t2_Clues : List (Int × (Int × Int))) (p_Rule : ByteArray) (p_Width : Int) (p_Height : Int) (p_Clues : List (Int × (Int × Int))) : spec_l1Cur_puzzle_l (k + 1) ((c_code, c_at, c_seed), (t2_Rule, t2_Width, t2_Height, t2_Clues), (p_Rule, p_Width, p_Height, p_Clues), ()) =
  (spec_l1Cur_pick k ((c_code, c_at, c_seed), 2)).bind fun r1 =>
  cond (decide ((p_Clues.length : Int) < (w64 (6 + r1.1))))
  (cond (fits (p_Clues.length + 1) 24)
   (spec_l1Cur_puzzle_l k (r1.2, (t2_Rule, t2_Width, t2_Height, t2_Clues), (p_Rule, p_Width, p_Height, (p_Clues ++ [(4, (1, 0))])), ()))
   (none))
  (some ((t2_Rule, t2_Width, t2_Height, t2_Clues), (p_Rule, p_Width, p_Height, p_Clues), r1.2)) := by kernel_rfl
theorem spec_l1Cur_rule.eq (k : Nat) (c_code : List Int) (c_at : Int) (c_seed : Int) : spec_l1Cur_rule (k + 1) (c_code, c_at, c_seed) =
  (spec_l1Cur_one k ((c_code, c_at, c_seed), 12)).bind fun r1 =>
  cond r1.1
  ((spec_l1Cur_of k (r1.2, [ByteArray.empty, (bs [76, 82, 76, 82, 76, 82, 76]), (bs [88]), (bs [108, 114]), (bs [76, 32, 82])])).bind fun r2 =>
   some r2)
  ((spec_l1Cur_sureRule k r1.2).bind fun r3 =>
   some r3) := by kernel_rfl
theorem spec_l1Cur_sureRule.eq (k : Nat) (c_code : List Int) (c_at : Int) (c_seed : Int) : spec_l1Cur_sureRule (k + 1) (c_code, c_at, c_seed) =
  (spec_l1Cur_one k ((c_code, c_at, c_seed), 3)).bind fun r1 =>
  cond r1.1
  (some ((bs [76, 82]), r1.2))
  ((spec_l1Cur_pick k (r1.2, 4)).bind fun r2 =>
   (spec_l1Cur_sureRule_l k (r2.2, ByteArray.empty, (w64 (1 + r2.1)), ())).bind fun r3 =>
   some r3) := by kernel_rfl
theorem spec_l1Cur_sureRule_l.eq (k : Nat) (c_code : List Int) (c_at : Int) (c_seed : Int) (out : ByteArray) (k_ : Int) : spec_l1Cur_sureRule_l (k + 1) ((c_code, c_at, c_seed), out, k_, ()) =
  cond (decide (k_ > 0))
  ((spec_l1Cur_of k ((c_code, c_at, c_seed), [(bs [76]), (bs [82]), (bs [76]), (bs [82]), (bs [78]), (bs [85])])).bind fun r1 =>
   cond (fitS out r1.1)
   (spec_l1Cur_sureRule_l k (r1.2, (out ++ r1.1), (w64 (k_ - 1)), ()))
   (none))
  (some (out, (c_code, c_at, c_seed))) := by kernel_rfl
theorem impl_Solutions.eq (k : Nat) (p_Rule : ByteArray) (p_Width : Int) (p_Height : Int) (p_Clues : List (Int × (Int × Int))) : impl_Solutions (k + 1) (p_Rule, p_Width, p_Height, p_Clues) =
  (impl_IsPuzzle k (p_Rule, p_Width, p_Height, p_Clues)).bind fun r1 =>
  cond (!r1)
  (some ([], false))
  ((impl_Puzzle_with k ((p_Rule, p_Width, p_Height, p_Clues), ())).bind fun r2 =>
   some (r2, true)) := by kernel_rfl
theorem impl_IsPuzzle.eq (k : Nat) (p_Rule : ByteArray) (p_Width : Int) (p_Height : Int) (p_Clues : List (Int × (Int × Int))) : impl_IsPuzzle (k + 1) (p_Rule, p_Width, p_Height, p_Clues) =
  (impl_CountBoards k (p_Rule, p_Width, p_Height)).bind fun r1 =>
  cond (!r1.2)
  (some false)
  (cond (decide ((p_Clues.length : Int) > 6))
   (some false)
   ((slices_ContainsFunc k (p_Clues, (p_Rule, p_Width, p_Height, ()))).bind fun r2 =>
    some (!r2))) := by kernel_rfl
theorem impl_CountBoards.eq (k : Nat) (rule : ByteArray) (width : Int) (height : Int) : impl_CountBoards (k + 1) (rule, width, height) =
  (impl_isHidden k (rule, width, height)).bind fun r1 =>
  cond (!r1)
  (some (0, false))
  ((impl_boards k ((rule.size : Int), (w64 (width * height)), 300)).bind fun r2 =>
   cond (decide (r2 > 300))
   (some (0, false))
   (some (r2, true))) := by kernel_rfl
theorem impl_isHidden.eq (k : Nat) (rule : ByteArray) (width : Int) (height : Int) : impl_isHidden (k + 1) (rule, width, height) =
  (impl_IsRule k rule).bind fun r1 =>
  cond r1
  ((impl_isSize k (width, height)).bind fun r2 =>
   cond r2
   (some (decide ((w64 (width * height)) ≤ 9)))
   (some false))
  (some false) := by kernel_rfl
theorem impl_IsRule.eq (k : Nat) (rule : ByteArray) : impl_IsRule (k + 1) rule =
  (impl_within k ((rule.size : Int), 1, 6)).bind fun r1 =>
  cond r1
  ((strings_Trim k (rule, (bs [76, 82, 78, 85]))).bind fun r2 =>
   some (strEq r2 ByteArray.empty))
  (some false) := by kernel_rfl
theorem impl_within.eq (k : Nat) (n : Int) (low : Int) (high : Int) : impl_within (k + 1) (n, low, high) =
  cond (decide (low ≤ n))
  (some (decide (n ≤ high)))
  (some false) := by kernel_rfl
theorem strings_Trim.eq (k : Nat) (d : ByteArray × ByteArray) : strings_Trim (k + 1) d = (fun d => strTrim d.1 d.2) d := by kernel_rfl
theorem impl_isSize.eq (k : Nat) (width : Int) (height : Int) : impl_isSize (k + 1) (width, height) =
  (impl_within k (width, 1, 9)).bind fun r1 =>
  cond r1
  ((impl_within k (height, 1, 9)).bind fun r2 =>
   some r2)
  (some false) := by kernel_rfl
theorem impl_boards.eq (k : Nat) (colours : Int) (cells : Int) (most : Int) : impl_boards (k + 1) (colours, cells, most) =
  (impl_boards_l k (colours, most, 1, cells, 0)).bind fun r1 =>
  some r1 := by kernel_rfl
theorem impl_boards_l.eq (k : Nat) (colours : Int) (most : Int) (all : Int) (t8 : Int) (t9 : Int) : impl_boards_l (k + 1) (colours, most, all, t8, t9) =
  cond (decide (t9 < t8))
  (impl_boards_l k (colours, most, (if (w64 (most + 1)) < (w64 (all * colours)) then (w64 (most + 1)) else (w64 (all * colours))), t8, (w64 (t9 + 1))))
  (some all) := by kernel_rfl
theorem slices_ContainsFunc.eq (k : Nat) (s : List (Int × (Int × Int))) (f_0 : ByteArray) (f_01 : Int) (f_02 : Int) : slices_ContainsFunc (k + 1) (s, (f_0, f_01, f_02, ())) =
  (slices_IndexFunc k (s, (f_0, f_01, f_02, ()))).bind fun r1 =>
  some (decide (r1 ≥ 0)) := by kernel_rfl
theorem slices_IndexFunc.eq (k : Nat) (s : List (Int × (Int × Int))) (f_0 : ByteArray) (f_01 : Int) (f_02 : Int) : slices_IndexFunc (k + 1) (s, (f_0, f_01, f_02, ())) =
  (slices_IndexFunc_l k (s, (f_0, f_01, f_02, ()), (s.length : Int), 0)).bind fun r1 =>
  r1.elim
  (fun r2 => some r2)
  (fun r3 => some (-1)) := by kernel_rfl
theorem slices_IndexFunc_l.eq (k : Nat) (s : List (Int × (Int × Int))) (f_0 : ByteArray) (f_01 : Int) (f_02 : Int) (t7 : Int) (t8 : Int) : slices_IndexFunc_l (k + 1) (s, (f_0, f_01, f_02, ()), t7, t8) =
  cond (decide (t8 < t7))
  (cond (inB t8 s.length)
   ((impl_IsPuzzle_1 k ((s.getD t8.toNat default), (f_0, f_01, f_02, s))).bind fun r1 =>
    cond r1
    (some (.inl t8))
    (slices_IndexFunc_l k (s, (f_0, f_01, f_02, ()), t7, (w64 (t8 + 1)))))
   (none))
  (some (.inr ())) := by kernel_rfl
theorem impl_IsPuzzle_1.eq (k : Nat) (c_Kind : Int) (c_A : Int) (c_B : Int) (t1_0 : ByteArray) (t1_1 : Int) (t1_2 : Int) (t1_3 : List (Int × (Int × Int))) : impl_IsPuzzle_1 (k + 1) ((c_Kind, c_A, c_B), (t1_0, t1_1, t1_2, t1_3)) =
  (impl_IsClue k (t1_0, (w64 (t1_1 * t1_2)), (c_Kind, c_A, c_B))).bind fun r1 =>
  some (!r1) := by kernel_rfl
theorem impl_IsClue.eq (k : Nat) (rule : ByteArray) (cells : Int) (c_Kind : Int) (c_A : Int) (c_B : Int) : impl_IsClue (k + 1) (rule, cells, (c_Kind, c_A, c_B)) =
  (impl_IsRule k rule).bind fun r1 =>
  cond (!r1)
  (some false)
  ((impl_within k (cells, 1, 9)).bind fun r2 =>
   cond (!r2)
   (some false)
   ((impl_within k (c_A, 0, 50)).bind fun r3 =>
    cond (c_Kind == 0)
    ((impl_within k (c_A, 0, (w64 (cells - 1)))).bind fun r4 =>
     cond r4
     ((impl_within k (c_B, 0, (w64 ((rule.size : Int) - 1)))).bind fun r5 =>
      some r5)
     (some false))
    (cond (c_Kind == 1)
     (cond r3
      ((impl_within k (c_B, 0, (w64 (cells - 1)))).bind fun r6 =>
       some r6)
      (some false))
     (cond (c_Kind == 2)
      (cond r3
       ((impl_isWay k c_B).bind fun r7 =>
        some r7)
       (some false))
      (cond (c_Kind == 3)
       (cond r3
        ((impl_within k (c_B, 0, cells)).bind fun r8 =>
         some r8)
        (some false))
       (cond (c_Kind == 4)
        ((impl_within k (c_A, 0, 100)).bind fun r9 =>
         cond r9
         (some (c_B == 0))
         (some false))
        (some false))))))) := by kernel_rfl
theorem impl_isWay.eq (k : Nat) (way : Int) : impl_isWay (k + 1) way =
  (impl_within k (way, 0, 3)).bind fun r1 =>
  some r1 := by kernel_rfl
theorem impl_Puzzle_with.eq (k : Nat) (p_Rule : ByteArray) (p_Width : Int) (p_Height : Int) (p_Clues : List (Int × (Int × Int))) : impl_Puzzle_with (k + 1) ((p_Rule, p_Width, p_Height, p_Clues), ()) =
  (impl_digits k ((p_Rule.size : Int), (w64 (p_Width * p_Height)))).bind fun r1 =>
  (slices_DeleteFunc k (r1, ((p_Rule, p_Width, p_Height, p_Clues), ()))).bind fun r2 =>
  some r2 := by kernel_rfl
theorem impl_digits.eq (k : Nat) (tints : Int) (many : Int) : impl_digits (k + 1) (tints, many) =
  (impl_digits_l k (tints, [ByteArray.empty], many, 0)).bind fun r1 =>
  some r1 := by kernel_rfl
theorem impl_digits_l.eq (k : Nat) (tints : Int) (out : List ByteArray) (t11 : Int) (t12 : Int) : impl_digits_l (k + 1) (tints, out, t11, t12) =
  cond (decide (t12 < t11))
  ((impl_digits_l_l k (tints, [], t11, t12, out, (out.length : Int), 0)).bind fun r1 =>
   impl_digits_l k (r1.1, r1.2.1, r1.2.2.1, (w64 (r1.2.2.2 + 1))))
  (some out) := by kernel_rfl
theorem impl_digits_l_l.eq (k : Nat) (tints : Int) (next_ : List ByteArray) (t11 : Int) (t12 : Int) (t15 : List ByteArray) (t16 : Int) (t17 : Int) : impl_digits_l_l (k + 1) (tints, next_, t11, t12, t15, t16, t17) =
  cond (decide (t17 < t16))
  (cond (inB t17 t15.length)
   ((impl_digits_l_l_l k (tints, next_, (t15.getD t17.toNat default), t11, t12, t15, t16, t17, tints, 0)).bind fun r1 =>
    impl_digits_l_l k (r1.1, r1.2.1, r1.2.2.1, r1.2.2.2.1, r1.2.2.2.2.1, r1.2.2.2.2.2.1, (w64 (r1.2.2.2.2.2.2 + 1))))
   (none))
  (some (tints, next_, t11, t12)) := by kernel_rfl
theorem impl_digits_l_l_l.eq (k : Nat) (tints : Int) (next_ : List ByteArray) (s : ByteArray) (t11 : Int) (t12 : Int) (t15 : List ByteArray) (t16 : Int) (t17 : Int) (t21 : Int) (t22 : Int) : impl_digits_l_l_l (k + 1) (tints, next_, s, t11, t12, t15, t16, t17, t21, t22) =
  cond (decide (t22 < t21))
  (cond (fitS s (ofBytes [(w8 (w64 (48 + t22)))]))
   (cond (fits (next_.length + 1) 16)
    (impl_digits_l_l_l k (tints, (next_ ++ [(s ++ (ofBytes [(w8 (w64 (48 + t22)))]))]), s, t11, t12, t15, t16, t17, t21, (w64 (t22 + 1))))
    (none))
   (none))
  (some (tints, next_, t11, t12, t15, t16, t17)) := by kernel_rfl
theorem slices_DeleteFunc.eq (k : Nat) (s : List ByteArray) (del_0 : ByteArray) (del_01 : Int) (del_02 : Int) (del_03 : List (Int × (Int × Int))) : slices_DeleteFunc (k + 1) (s, ((del_0, del_01, del_02, del_03), ())) =
  (slices_IndexFunc_2 k (s, ((del_0, del_01, del_02, del_03), ()))).bind fun r1 =>
  cond (r1 == (-1))
  (some s)
  ((slices_DeleteFunc_l k (s, ((del_0, del_01, del_02, del_03), ()), r1, (w64 (r1 + 1)))).bind fun r2 =>
   cond ((decide ((0 : Int) ≤ r2.2)) && (decide (r2.2 ≤ (r2.1.length : Int))))
   (cond ((decide ((0 : Int) ≤ r2.2)) && (decide (r2.2 ≤ ((((r2.1.take r2.2.toNat) ++ (List.replicate (r2.1.length - r2.2.toNat) ByteArray.empty)) ++ (r2.1.drop (r2.2.toNat + (r2.1.length - r2.2.toNat)))).length : Int))))
    (some ((((r2.1.take r2.2.toNat) ++ (List.replicate (r2.1.length - r2.2.toNat) ByteArray.empty)) ++ (r2.1.drop (r2.2.toNat + (r2.1.length - r2.2.toNat)))).take r2.2.toNat))
    (none))
   (none)) := by kernel_rfl
theorem slices_IndexFunc_2.eq (k : Nat) (s : List ByteArray) (f_0 : ByteArray) (f_01 : Int) (f_02 : Int) (f_03 : List (Int × (Int × Int))) : slices_IndexFunc_2 (k + 1) (s, ((f_0, f_01, f_02, f_03), ())) =
  (slices_IndexFunc_2_l k (s, ((f_0, f_01, f_02, f_03), ()), (s.length : Int), 0)).bind fun r1 =>
  r1.elim
  (fun r2 => some r2)
  (fun r3 => some (-1)) := by kernel_rfl
theorem slices_IndexFunc_2_l.eq (k : Nat) (s : List ByteArray) (f_0 : ByteArray) (f_01 : Int) (f_02 : Int) (f_03 : List (Int × (Int × Int))) (t7 : Int) (t8 : Int) : slices_IndexFunc_2_l (k + 1) (s, ((f_0, f_01, f_02, f_03), ()), t7, t8) =
  cond (decide (t8 < t7))
  (cond (inB t8 s.length)
   ((impl_Puzzle_with_1 k ((s.getD t8.toNat default), (f_0, f_01, f_02, f_03), ())).bind fun r1 =>
    cond r1
    (some (.inl t8))
    (slices_IndexFunc_2_l k (s, ((f_0, f_01, f_02, f_03), ()), t7, (w64 (t8 + 1)))))
   (none))
  (some (.inr ())) := by kernel_rfl
theorem impl_Puzzle_with_1.eq (k : Nat) (cells : ByteArray) (t1_0 : ByteArray) (t1_1 : Int) (t1_2 : Int) (t1_3 : List (Int × (Int × Int))) : impl_Puzzle_with_1 (k + 1) (cells, (t1_0, t1_1, t1_2, t1_3), ()) =
  (slices_ContainsFunc_2 k (t1_3, (t1_0, t1_1, t1_2, cells, 0, 0, 0))).bind fun r1 =>
  some r1 := by kernel_rfl
theorem slices_ContainsFunc_2.eq (k : Nat) (s : List (Int × (Int × Int))) (f_0 : ByteArray) (f_01 : Int) (f_02 : Int) (f_03 : ByteArray) (f_04 : Int) (f_05 : Int) (f_06 : Int) : slices_ContainsFunc_2 (k + 1) (s, (f_0, f_01, f_02, f_03, f_04, f_05, f_06)) =
  (slices_IndexFunc_3 k (s, (f_0, f_01, f_02, f_03, f_04, f_05, f_06))).bind fun r1 =>
  some (decide (r1 ≥ 0)) := by kernel_rfl
theorem slices_IndexFunc_3.eq (k : Nat) (s : List (Int × (Int × Int))) (f_0 : ByteArray) (f_01 : Int) (f_02 : Int) (f_03 : ByteArray) (f_04 : Int) (f_05 : Int) (f_06 : Int) : slices_IndexFunc_3 (k + 1) (s, (f_0, f_01, f_02, f_03, f_04, f_05, f_06)) =
  (slices_IndexFunc_3_l k (s, (f_0, f_01, f_02, f_03, f_04, f_05, f_06), (s.length : Int), 0)).bind fun r1 =>
  r1.elim
  (fun r2 => some r2)
  (fun r3 => some (-1)) := by kernel_rfl
theorem slices_IndexFunc_3_l.eq (k : Nat) (s : List (Int × (Int × Int))) (f_0 : ByteArray) (f_01 : Int) (f_02 : Int) (f_03 : ByteArray) (f_04 : Int) (f_05 : Int) (f_06 : Int) (t7 : Int) (t8 : Int) : slices_IndexFunc_3_l (k + 1) (s, (f_0, f_01, f_02, f_03, f_04, f_05, f_06), t7, t8) =
  cond (decide (t8 < t7))
  (cond (inB t8 s.length)
   ((impl_Puzzle_with_1_1 k ((s.getD t8.toNat default), (f_0, f_01, f_02, f_03, f_04, f_05, f_06))).bind fun r1 =>
    cond r1
    (some (.inl t8))
    (slices_IndexFunc_3_l k (s, (f_0, f_01, f_02, f_03, f_04, f_05, f_06), t7, (w64 (t8 + 1)))))
   (none))
  (some (.inr ())) := by kernel_rfl
theorem impl_Puzzle_with_1_1.eq (k : Nat) (c_Kind : Int) (c_A : Int) (c_B : Int) (t1_0 : ByteArray) (t1_1 : Int) (t1_2 : Int) (t1_3 : ByteArray) (t1_4 : Int) (t1_5 : Int) (t1_6 : Int) : impl_Puzzle_with_1_1 (k + 1) ((c_Kind, c_A, c_B), (t1_0, t1_1, t1_2, t1_3, t1_4, t1_5, t1_6)) =
  (impl_Clue_fits k ((c_Kind, c_A, c_B), (t1_0, t1_1, t1_2, t1_3, t1_4, t1_5, t1_6))).bind fun r1 =>
  some (!r1) := by kernel_rfl
theorem impl_Clue_fits.eq (k : Nat) (c_Kind : Int) (c_A : Int) (c_B : Int) (w_Rule : ByteArray) (w_Width : Int) (w_Height : Int) (w_Cells : ByteArray) (w_X : Int) (w_Y : Int) (w_Way : Int) : impl_Clue_fits (k + 1) ((c_Kind, c_A, c_B), (w_Rule, w_Width, w_Height, w_Cells, w_X, w_Y, w_Way)) =
  cond (c_Kind == 4)
  ((impl_told k (4, 0, (w_Rule, w_Width, w_Height, w_Cells, w_X, w_Y, w_Way))).bind fun r1 =>
   some (r1 == c_A))
  ((impl_told k (c_Kind, c_A, (w_Rule, w_Width, w_Height, w_Cells, w_X, w_Y, w_Way))).bind fun r2 =>
   some (r2 == c_B)) := by kernel_rfl
theorem impl_told.eq (k : Nat) (kind : Int) (a : Int) (w_Rule : ByteArray) (w_Width : Int) (w_Height : Int) (w_Cells : ByteArray) (w_X : Int) (w_Y : Int) (w_Way : Int) : impl_told (k + 1) (kind, a, (w_Rule, w_Width, w_Height, w_Cells, w_X, w_Y, w_Way)) =
  cond (kind == 0)
  (cond (inB a w_Cells.size)
   (some (w64 (w8 ((bt w_Cells a.toNat) - 48))))
   (none))
  (cond (kind == 4)
   ((impl_told_l k (0, (bytesOf w_Cells), ((bytesOf w_Cells).length : Int), 0)).bind fun r1 =>
    some r1)
   ((impl_told_l_2 k (kind, (w_Rule, w_Width, w_Height, w_Cells, w_X, w_Y, w_Way), a, 0)).bind fun r2 =>
    cond (r2.1 == 1)
    ((impl_World_at k r2.2).bind fun r3 =>
     some r3)
    (cond (r2.1 == 2)
     (some r2.2.2.2.2.2.2.2)
     ((strings_Count k (r2.2.2.2.2.1, (bs [48]))).bind fun r4 =>
      some r4)))) := by kernel_rfl
theorem impl_told_l.eq (k : Nat) (all : Int) (t23 : List Int) (t24 : Int) (t25 : Int) : impl_told_l (k + 1) (all, t23, t24, t25) =
  cond (decide (t25 < t24))
  (cond (inB t25 t23.length)
   (impl_told_l k ((w64 (all + (w64 (w8 ((t23.getD t25.toNat default) - 48))))), t23, t24, (w64 (t25 + 1))))
   (none))
  (some all) := by kernel_rfl
theorem impl_told_l_2.eq (k : Nat) (kind : Int) (w_Rule : ByteArray) (w_Width : Int) (w_Height : Int) (w_Cells : ByteArray) (w_X : Int) (w_Y : Int) (w_Way : Int) (t36 : Int) (t37 : Int) : impl_told_l_2 (k + 1) (kind, (w_Rule, w_Width, w_Height, w_Cells, w_X, w_Y, w_Way), t36, t37) =
  cond (decide (t37 < t36))
  ((impl_World_step k (w_Rule, w_Width, w_Height, w_Cells, w_X, w_Y, w_Way)).bind fun r1 =>
   impl_told_l_2 k (kind, r1, t36, (w64 (t37 + 1))))
  (some (kind, (w_Rule, w_Width, w_Height, w_Cells, w_X, w_Y, w_Way))) := by kernel_rfl
theorem impl_World_step.eq (k : Nat) (w_Rule : ByteArray) (w_Width : Int) (w_Height : Int) (w_Cells : ByteArray) (w_X : Int) (w_Y : Int) (w_Way : Int) : impl_World_step (k + 1) (w_Rule, w_Width, w_Height, w_Cells, w_X, w_Y, w_Way) =
  (impl_World_colour k (w_Rule, w_Width, w_Height, w_Cells, w_X, w_Y, w_Way)).bind fun r1 =>
  cond (inB r1 w_Rule.size)
  ((impl_quarters k (bt w_Rule r1.toNat)).bind fun r2 =>
   (impl_World_at k (w_Rule, w_Width, w_Height, w_Cells, w_X, w_Y, ((w64 (w_Way + r2)).tmod 4))).bind fun r3 =>
   cond ((w_Rule.size : Int) != 0)
   ((impl_painted k (w_Cells, r3, ((w64 (r1 + 1)).tmod (w_Rule.size : Int)))).bind fun r4 =>
    (impl_World_gone k ((w_Rule, w_Width, w_Height, r4, w_X, w_Y, ((w64 (w_Way + r2)).tmod 4)), 1)).bind fun r5 =>
    some r5)
   (none))
  (none) := by kernel_rfl
theorem impl_World_colour.eq (k : Nat) (w_Rule : ByteArray) (w_Width : Int) (w_Height : Int) (w_Cells : ByteArray) (w_X : Int) (w_Y : Int) (w_Way : Int) : impl_World_colour (k + 1) (w_Rule, w_Width, w_Height, w_Cells, w_X, w_Y, w_Way) =
  (impl_World_at k (w_Rule, w_Width, w_Height, w_Cells, w_X, w_Y, w_Way)).bind fun r1 =>
  cond (inB r1 w_Cells.size)
  (some (w64 (w8 ((bt w_Cells r1.toNat) - 48))))
  (none) := by kernel_rfl
theorem impl_World_at.eq (k : Nat) (w_Rule : ByteArray) (w_Width : Int) (w_Height : Int) (w_Cells : ByteArray) (w_X : Int) (w_Y : Int) (w_Way : Int) : impl_World_at (k + 1) (w_Rule, w_Width, w_Height, w_Cells, w_X, w_Y, w_Way) =
  some (w64 ((w64 (w_Y * w_Width)) + w_X)) := by kernel_rfl
theorem impl_quarters.eq (k : Nat) (sign : Int) : impl_quarters (k + 1) sign =
  cond (sign == 76)
  (some 3)
  (cond (sign == 82)
   (some 1)
   (cond (sign == 85)
    (some 2)
    (some 0))) := by kernel_rfl
theorem impl_painted.eq (k : Nat) (cells : ByteArray) (k_ : Int) (tint : Int) : impl_painted (k + 1) (cells, k_, tint) =
  cond (inB k_ ((bytesOf cells).length))
  (some (ofBytes ((bytesOf cells).set k_.toNat (w8 (w64 (48 + tint))))))
  (none) := by kernel_rfl
theorem impl_World_gone.eq (k : Nat) (w_Rule : ByteArray) (w_Width : Int) (w_Height : Int) (w_Cells : ByteArray) (w_X : Int) (w_Y : Int) (w_Way : Int) (by_ : Int) : impl_World_gone (k + 1) ((w_Rule, w_Width, w_Height, w_Cells, w_X, w_Y, w_Way), by_) =
  (impl_ahead k w_Way).bind fun r1 =>
  cond (w_Width != 0)
  (cond (w_Height != 0)
   (some (w_Rule, w_Width, w_Height, w_Cells, ((w64 ((w64 (w_X + (w64 (by_ * r1.1)))) + w_Width)).tmod w_Width), ((w64 ((w64 (w_Y + (w64 (by_ * r1.2)))) + w_Height)).tmod w_Height), w_Way))
   (none))
  (none) := by kernel_rfl
theorem impl_ahead.eq (k : Nat) (way : Int) : impl_ahead (k + 1) way =
  cond (inB way 4)
  (cond (inB way 4)
   (some ((([0, 1, 0, (-1)] : List Int).getD way.toNat default), (([(-1), 0, 1, 0] : List Int).getD way.toNat default)))
   (none))
  (none) := by kernel_rfl
theorem strings_Count.eq (k : Nat) (d : ByteArray × ByteArray) : strings_Count (k + 1) d = (fun d => strCount1 d.1 d.2) d := by kernel_rfl
theorem slices_DeleteFunc_l.eq (k : Nat) (s : List ByteArray) (del_0 : ByteArray) (del_01 : Int) (del_02 : Int) (del_03 : List (Int × (Int × Int))) (i : Int) (j : Int) : slices_DeleteFunc_l (k + 1) (s, ((del_0, del_01, del_02, del_03), ()), i, j) =
  cond (decide (j < (s.length : Int)))
  (cond (inB j s.length)
   ((impl_Puzzle_with_1 k ((s.getD j.toNat default), (del_0, del_01, del_02, del_03), ())).bind fun r1 =>
    cond (!r1)
    (cond (inB i s.length)
     (slices_DeleteFunc_l k ((s.set i.toNat (s.getD j.toNat default)), ((del_0, del_01, del_02, del_03), ()), (w64 (i + 1)), (w64 (j + 1))))
     (none))
    (slices_DeleteFunc_l k (s, ((del_0, del_01, del_02, del_03), ()), i, (w64 (j + 1)))))
   (none))
  (some (s, i)) := by kernel_rfl
theorem spec_Solutions.eq (k : Nat) (p_Rule : ByteArray) (p_Width : Int) (p_Height : Int) (p_Clues : List (Int × (Int × Int))) : spec_Solutions (k + 1) (p_Rule, p_Width, p_Height, p_Clues) =
  (spec_pzGood k (p_Rule, p_Width, p_Height, p_Clues)).bind fun r1 =>
  cond (!r1)
  (some ([], false))
  ((spec_pzAll k (p_Rule, p_Width, p_Height, p_Clues)).bind fun r2 =>
   some (r2, true)) := by kernel_rfl
theorem spec_pzGood.eq (k : Nat) (p_Rule : ByteArray) (p_Width : Int) (p_Height : Int) (p_Clues : List (Int × (Int × Int))) : spec_pzGood (k + 1) (p_Rule, p_Width, p_Height, p_Clues) =
  (spec_pzSize k (p_Rule, p_Width, p_Height)).bind fun r1 =>
  cond (!r1)
  (some false)
  (cond (decide ((p_Clues.length : Int) > 6))
   (some false)
   ((spec_pzGood_l k ((p_Rule, p_Width, p_Height, p_Clues), (), (p_Clues.length : Int), 0)).bind fun r2 =>
    r2.elim
    (fun r3 => some r3)
    (fun r4 => some true))) := by kernel_rfl
theorem spec_pzGood_l.eq (k : Nat) (p_Rule : ByteArray) (p_Width : Int) (p_Height : Int) (p_Clues : List (Int × (Int × Int))) (t21 : Int) (t22 : Int) : spec_pzGood_l (k + 1) ((p_Rule, p_Width, p_Height, p_Clues), (), t21, t22) =
  cond (decide (t22 < t21))
  (cond (inB t22 p_Clues.length)
   ((spec_pzClue k (p_Rule, (w64 (p_Width * p_Height)), (p_Clues.getD t22.toNat default))).bind fun r1 =>
    cond (!r1)
    (some (.inl false))
    (spec_pzGood_l k ((p_Rule, p_Width, p_Height, p_Clues), (), t21, (w64 (t22 + 1)))))
   (none))
  (some (.inr ())) := by kernel_rfl
theorem spec_pzClue.eq (k : Nat) (rule : ByteArray) (cells : Int) (c_Kind : Int) (c_A : Int) (c_B : Int) : spec_pzClue (k + 1) (rule, cells, (c_Kind, c_A, c_B)) =
  cond (c_Kind == 0)
  ((spec_l1In k (c_A, 0, (w64 (cells - 1)))).bind fun r1 =>
   cond r1
   ((spec_l1In k (c_B, 0, (w64 ((rule.size : Int) - 1)))).bind fun r2 =>
    some r2)
   (some false))
  (cond (c_Kind == 1)
   ((spec_l1In k (c_A, 0, 50)).bind fun r3 =>
    cond r3
    ((spec_l1In k (c_B, 0, (w64 (cells - 1)))).bind fun r4 =>
     some r4)
    (some false))
   (cond (c_Kind == 2)
    ((spec_l1In k (c_A, 0, 50)).bind fun r5 =>
     cond r5
     ((spec_l1In k (c_B, 0, 3)).bind fun r6 =>
      some r6)
     (some false))
    (cond (c_Kind == 3)
     ((spec_l1In k (c_A, 0, 50)).bind fun r7 =>
      cond r7
      ((spec_l1In k (c_B, 0, cells)).bind fun r8 =>
       some r8)
      (some false))
     (cond (c_Kind == 4)
      ((spec_l1In k (c_A, 0, 100)).bind fun r9 =>
       cond r9
       (some (c_B == 0))
       (some false))
      (some false))))) := by kernel_rfl
theorem spec_pzAll.eq (k : Nat) (p_Rule : ByteArray) (p_Width : Int) (p_Height : Int) (p_Clues : List (Int × (Int × Int))) : spec_pzAll (k + 1) (p_Rule, p_Width, p_Height, p_Clues) =
  (spec_pzLook k ((p_Rule, p_Width, p_Height, p_Clues), ByteArray.empty, [])).bind fun r1 =>
  some r1.2 := by kernel_rfl
theorem spec_pzLook.eq (k : Nat) (p_Rule : ByteArray) (p_Width : Int) (p_Height : Int) (p_Clues : List (Int × (Int × Int))) (begin : ByteArray) (out_ : List ByteArray) : spec_pzLook (k + 1) ((p_Rule, p_Width, p_Height, p_Clues), begin, out_) =
  cond ((begin.size : Int) == (w64 (p_Width * p_Height)))
  ((spec_pzLook_l k (begin, out_, (p_Rule, p_Width, p_Height, begin, 0, 0, 0), p_Clues, (p_Clues.length : Int), 0, ())).bind fun r1 =>
   r1.elim
   (fun r2 => some ((), r2))
   (fun r3 => cond (fits (r3.2.1.length + 1) 16)
    (some ((), (r3.2.1 ++ [r3.1])))
    (none)))
  ((spec_pzLook_l_2 k (begin, out_, (p_Rule, p_Width, p_Height, p_Clues), (p_Rule.size : Int), 0, ())).bind fun r4 =>
   some ((), r4)) := by kernel_rfl
theorem spec_pzLook_l.eq (k : Nat) (begin : ByteArray) (out_ : List ByteArray) (w_Rule : ByteArray) (w_Width : Int) (w_Height : Int) (w_Cells : ByteArray) (w_X : Int) (w_Y : Int) (w_Way : Int) (t27 : List (Int × (Int × Int))) (t28 : Int) (t29 : Int) : spec_pzLook_l (k + 1) (begin, out_, (w_Rule, w_Width, w_Height, w_Cells, w_X, w_Y, w_Way), t27, t28, t29, ()) =
  cond (decide (t29 < t28))
  (cond (inB t29 t27.length)
   ((spec_pzFits k ((t27.getD t29.toNat default), (w_Rule, w_Width, w_Height, w_Cells, w_X, w_Y, w_Way))).bind fun r1 =>
    cond (!r1)
    (some (.inl out_))
    (spec_pzLook_l k (begin, out_, (w_Rule, w_Width, w_Height, w_Cells, w_X, w_Y, w_Way), t27, t28, (w64 (t29 + 1)), ())))
   (none))
  (some (.inr (begin, out_, ()))) := by kernel_rfl
theorem spec_pzFits.eq (k : Nat) (c_Kind : Int) (c_A : Int) (c_B : Int) (w_Rule : ByteArray) (w_Width : Int) (w_Height : Int) (w_Cells : ByteArray) (w_X : Int) (w_Y : Int) (w_Way : Int) : spec_pzFits (k + 1) ((c_Kind, c_A, c_B), (w_Rule, w_Width, w_Height, w_Cells, w_X, w_Y, w_Way)) =
  cond (c_Kind == 4)
  ((spec_pzValue k (4, 0, (w_Rule, w_Width, w_Height, w_Cells, w_X, w_Y, w_Way))).bind fun r1 =>
   some (r1 == c_A))
  ((spec_pzValue k (c_Kind, c_A, (w_Rule, w_Width, w_Height, w_Cells, w_X, w_Y, w_Way))).bind fun r2 =>
   some (r2 == c_B)) := by kernel_rfl
theorem spec_pzLook_l_2.eq (k : Nat) (begin : ByteArray) (out_ : List ByteArray) (p_Rule : ByteArray) (p_Width : Int) (p_Height : Int) (p_Clues : List (Int × (Int × Int))) (t48 : Int) (t49 : Int) : spec_pzLook_l_2 (k + 1) (begin, out_, (p_Rule, p_Width, p_Height, p_Clues), t48, t49, ()) =
  cond (decide (t49 < t48))
  ((spec_l1Num k t49).bind fun r1 =>
   cond (fitS begin r1)
   ((spec_pzLook k ((p_Rule, p_Width, p_Height, p_Clues), (begin ++ r1), out_)).bind fun r2 =>
    spec_pzLook_l_2 k (begin, r2.2, (p_Rule, p_Width, p_Height, p_Clues), t48, (w64 (t49 + 1)), ()))
   (none))
  (some out_) := by kernel_rfl
theorem impl_CountSolutions.eq (k : Nat) (p_Rule : ByteArray) (p_Width : Int) (p_Height : Int) (p_Clues : List (Int × (Int × Int))) : impl_CountSolutions (k + 1) (p_Rule, p_Width, p_Height, p_Clues) =
  (impl_Solutions k (p_Rule, p_Width, p_Height, p_Clues)).bind fun r1 =>
  some ((r1.1.length : Int), r1.2) := by kernel_rfl
theorem spec_CountSolutions.eq (k : Nat) (p_Rule : ByteArray) (p_Width : Int) (p_Height : Int) (p_Clues : List (Int × (Int × Int))) : spec_CountSolutions (k + 1) (p_Rule, p_Width, p_Height, p_Clues) =
  (spec_pzGood k (p_Rule, p_Width, p_Height, p_Clues)).bind fun r1 =>
  cond (!r1)
  (some (0, false))
  ((spec_pzAll k (p_Rule, p_Width, p_Height, p_Clues)).bind fun r2 =>
   some ((r2.length : Int), true)) := by kernel_rfl
theorem impl_FirstSolution.eq (k : Nat) (p_Rule : ByteArray) (p_Width : Int) (p_Height : Int) (p_Clues : List (Int × (Int × Int))) : impl_FirstSolution (k + 1) (p_Rule, p_Width, p_Height, p_Clues) =
  (impl_Solutions k (p_Rule, p_Width, p_Height, p_Clues)).bind fun r1 =>
  cond ((r1.1.length : Int) == 0)
  (some (ByteArray.empty, false))
  (cond (inB 0 r1.1.length)
   (some ((r1.1.getD 0 default), true))
   (none)) := by kernel_rfl
theorem spec_FirstSolution.eq (k : Nat) (p_Rule : ByteArray) (p_Width : Int) (p_Height : Int) (p_Clues : List (Int × (Int × Int))) : spec_FirstSolution (k + 1) (p_Rule, p_Width, p_Height, p_Clues) =
  (spec_pzGood k (p_Rule, p_Width, p_Height, p_Clues)).bind fun r1 =>
  cond (!r1)
  (some (ByteArray.empty, false))
  ((spec_pzAll k (p_Rule, p_Width, p_Height, p_Clues)).bind fun r2 =>
   cond ((r2.length : Int) == 0)
   (some (ByteArray.empty, false))
   (cond (inB 0 r2.length)
    (some ((r2.getD 0 default), true))
    (none))) := by kernel_rfl
theorem impl_SureCells.eq (k : Nat) (p_Rule : ByteArray) (p_Width : Int) (p_Height : Int) (p_Clues : List (Int × (Int × Int))) : impl_SureCells (k + 1) (p_Rule, p_Width, p_Height, p_Clues) =
  (impl_Solutions k (p_Rule, p_Width, p_Height, p_Clues)).bind fun r1 =>
  cond ((r1.1.length : Int) == 0)
  (some (ByteArray.empty, false))
  (cond (inB 0 r1.1.length)
   ((impl_SureCells_l k (r1.1, (bytesOf (r1.1.getD 0 default)), (), (r1.1.length : Int), 0)).bind fun r2 =>
    some ((ofBytes r2), true))
   (none)) := by kernel_rfl
theorem impl_SureCells_l.eq (k : Nat) (list : List ByteArray) (out : List Int) (t23 : Int) (t24 : Int) : impl_SureCells_l (k + 1) (list, out, (), t23, t24) =
  cond (decide (t24 < t23))
  (cond (inB t24 list.length)
   ((impl_SureCells_l_l k (list, out, (list.getD t24.toNat default), (), t23, t24, (out.length : Int), 0)).bind fun r1 =>
    impl_SureCells_l k (r1.1, r1.2.1, (), r1.2.2.2.1, (w64 (r1.2.2.2.2 + 1))))
   (none))
  (some out) := by kernel_rfl
theorem impl_SureCells_l_l.eq (k : Nat) (list : List ByteArray) (out : List Int) (cells : ByteArray) (t23 : Int) (t24 : Int) (t29 : Int) (t30 : Int) : impl_SureCells_l_l (k + 1) (list, out, cells, (), t23, t24, t29, t30) =
  cond (decide (t30 < t29))
  (cond (inB t30 cells.size)
   (cond (inB 0 list.length)
    (cond (inB t30 ((list.getD 0 default).size))
     (cond ((bt cells t30.toNat) != (bt (list.getD 0 default) t30.toNat))
      (cond (inB t30 out.length)
       (impl_SureCells_l_l k (list, (out.set t30.toNat 63), cells, (), t23, t24, t29, (w64 (t30 + 1))))
       (none))
      (impl_SureCells_l_l k (list, out, cells, (), t23, t24, t29, (w64 (t30 + 1)))))
     (none))
    (none))
   (none))
  (some (list, out, (), t23, t24)) := by kernel_rfl
theorem spec_SureCells.eq (k : Nat) (p_Rule : ByteArray) (p_Width : Int) (p_Height : Int) (p_Clues : List (Int × (Int × Int))) : spec_SureCells (k + 1) (p_Rule, p_Width, p_Height, p_Clues) =
  (spec_pzGood k (p_Rule, p_Width, p_Height, p_Clues)).bind fun r1 =>
  cond (!r1)
  (some (ByteArray.empty, false))
  ((spec_pzAll k (p_Rule, p_Width, p_Height, p_Clues)).bind fun r2 =>
   cond ((r2.length : Int) == 0)
   (some (ByteArray.empty, false))
   ((spec_SureCells_l k ((p_Rule, p_Width, p_Height, p_Clues), r2, ByteArray.empty, 0)).bind fun r3 =>
    some (r3, true))) := by kernel_rfl
theorem spec_SureCells_l.eq (k : Nat) (p_Rule : ByteArray) (p_Width : Int) (p_Height : Int) (p_Clues : List (Int × (Int × Int))) (all : List ByteArray) (out : ByteArray) (i : Int) : spec_SureCells_l (k + 1) ((p_Rule, p_Width, p_Height, p_Clues), all, out, i) =
  cond (decide (i < (w64 (p_Width * p_Height))))
  (cond (inB 0 all.length)
   (cond (((decide ((0 : Int) ≤ (w64 (i + 1)))) && (decide ((w64 (i + 1)) ≤ ((all.getD 0 default).size : Int)))) && ((decide ((0 : Int) ≤ i)) && (decide (i ≤ (w64 (i + 1))))))
    ((spec_SureCells_l_l k ((p_Rule, p_Width, p_Height, p_Clues), all, out, i, ((all.getD 0 default).extract i.toNat ((w64 (i + 1)).toNat)), (), (all.length : Int), 0)).bind fun r1 =>
     cond (fitS r1.2.2.1 r1.2.2.2.2)
     (spec_SureCells_l k (r1.1, r1.2.1, (r1.2.2.1 ++ r1.2.2.2.2), (w64 (r1.2.2.2.1 + 1))))
     (none))
    (none))
   (none))
  (some out) := by kernel_rfl
theorem spec_SureCells_l_l.eq (k : Nat) (p_Rule : ByteArray) (p_Width : Int) (p_Height : Int) (p_Clues : List (Int × (Int × Int))) (all : List ByteArray) (out : ByteArray) (i : Int) (sign : ByteArray) (t35 : Int) (t36 : Int) : spec_SureCells_l_l (k + 1) ((p_Rule, p_Width, p_Height, p_Clues), all, out, i, sign, (), t35, t36) =
  cond (decide (t36 < t35))
  (cond (inB t36 all.length)
   (cond (((decide ((0 : Int) ≤ (w64 (i + 1)))) && (decide ((w64 (i + 1)) ≤ ((all.getD t36.toNat default).size : Int)))) && ((decide ((0 : Int) ≤ i)) && (decide (i ≤ (w64 (i + 1))))))
    (cond (!(strEq ((all.getD t36.toNat default).extract i.toNat ((w64 (i + 1)).toNat)) sign))
     (some ((p_Rule, p_Width, p_Height, p_Clues), all, out, i, (bs [63])))
     (spec_SureCells_l_l k ((p_Rule, p_Width, p_Height, p_Clues), all, out, i, sign, (), t35, (w64 (t36 + 1)))))
    (none))
   (none))
  (some ((p_Rule, p_Width, p_Height, p_Clues), all, out, i, sign)) := by kernel_rfl
theorem impl_IsSolved.eq (k : Nat) (p_Rule : ByteArray) (p_Width : Int) (p_Height : Int) (p_Clues : List (Int × (Int × Int))) : impl_IsSolved (k + 1) (p_Rule, p_Width, p_Height, p_Clues) =
  (impl_CountSolutions k (p_Rule, p_Width, p_Height, p_Clues)).bind fun r1 =>
  some ((r1.1 == 1), r1.2) := by kernel_rfl
theorem spec_IsSolved.eq (k : Nat) (p_Rule : ByteArray) (p_Width : Int) (p_Height : Int) (p_Clues : List (Int × (Int × Int))) : spec_IsSolved (k + 1) (p_Rule, p_Width, p_Height, p_Clues) =
  (spec_pzGood k (p_Rule, p_Width, p_Height, p_Clues)).bind fun r1 =>
  cond (!r1)
  (some (false, false))
  ((spec_pzSolved k ((p_Rule, p_Width, p_Height, p_Clues), ())).bind fun r2 =>
   some (r2, true)) := by kernel_rfl
theorem spec_pzSolved.eq (k : Nat) (p_Rule : ByteArray) (p_Width : Int) (p_Height : Int) (p_Clues : List (Int × (Int × Int))) : spec_pzSolved (k + 1) ((p_Rule, p_Width, p_Height, p_Clues), ()) =
  (spec_pzWith k ((p_Rule, p_Width, p_Height, p_Clues), ())).bind fun r1 =>
  (spec_pzAll k r1).bind fun r2 =>
  some ((r2.length : Int) == 1) := by kernel_rfl
theorem spec_pzWith.eq (k : Nat) (p_Rule : ByteArray) (p_Width : Int) (p_Height : Int) (p_Clues : List (Int × (Int × Int))) : spec_pzWith (k + 1) ((p_Rule, p_Width, p_Height, p_Clues), ()) =
  some (p_Rule, p_Width, p_Height, p_Clues) := by kernel_rfl
theorem impl_NeedlessClues.eq (k : Nat) (p_Rule : ByteArray) (p_Width : Int) (p_Height : Int) (p_Clues : List (Int × (Int × Int))) : impl_NeedlessClues (k + 1) (p_Rule, p_Width, p_Height, p_Clues) =
  (impl_CountSolutions k (p_Rule, p_Width, p_Height, p_Clues)).bind fun r1 =>
  cond (!r1.2)
  (some ([], false))
  ((impl_NeedlessClues_l k ((p_Rule, p_Width, p_Height, p_Clues), r1.1, [], (p_Clues.length : Int), 0)).bind fun r2 =>
   some (r2, true)) := by kernel_rfl
theorem impl_NeedlessClues_l.eq (k : Nat) (p_Rule : ByteArray) (p_Width : Int) (p_Height : Int) (p_Clues : List (Int × (Int × Int))) (many : Int) (out : List Int) (t18 : Int) (t19 : Int) : impl_NeedlessClues_l (k + 1) ((p_Rule, p_Width, p_Height, p_Clues), many, out, t18, t19) =
  cond (decide (t19 < t18))
  ((impl_dropped k (p_Clues, t19)).bind fun r1 =>
   (impl_Puzzle_with_2 k ((p_Rule, p_Width, p_Height, p_Clues), r1)).bind fun r2 =>
   cond ((r2.length : Int) == many)
   (cond (fits (out.length + 1) 8)
    (impl_NeedlessClues_l k ((p_Rule, p_Width, p_Height, p_Clues), many, (out ++ [t19]), t18, (w64 (t19 + 1))))
    (none))
   (impl_NeedlessClues_l k ((p_Rule, p_Width, p_Height, p_Clues), many, out, t18, (w64 (t19 + 1)))))
  (some out) := by kernel_rfl
theorem impl_dropped.eq (k : Nat) (clues : List (Int × (Int × Int))) (k_ : Int) : impl_dropped (k + 1) (clues, k_) =
  (slices_Clone k clues).bind fun r1 =>
  (slices_Delete k (r1, k_, (w64 (k_ + 1)))).bind fun r2 =>
  some r2 := by kernel_rfl
theorem slices_Clone.eq (k : Nat) (d : List (Int × (Int × Int))) : slices_Clone (k + 1) d = (fun d => cloneB (s := (.pair (.int .i64) (.pair (.int .i64) (.int .i64)))) 24 d) d := by kernel_rfl
theorem slices_Delete.eq (k : Nat) (d : List (Int × (Int × Int)) × Int × Int) : slices_Delete (k + 1) d = (fun d => delB (s := (.pair (.int .i64) (.pair (.int .i64) (.int .i64)))) d.1 d.2.1 d.2.2) d := by kernel_rfl
theorem impl_Puzzle_with_2.eq (k : Nat) (p_Rule : ByteArray) (p_Width : Int) (p_Height : Int) (p_Clues : List (Int × (Int × Int))) (clues : List (Int × (Int × Int))) : impl_Puzzle_with_2 (k + 1) ((p_Rule, p_Width, p_Height, p_Clues), clues) =
  (impl_digits k ((p_Rule.size : Int), (w64 (p_Width * p_Height)))).bind fun r1 =>
  (slices_DeleteFunc_2 k (r1, ((p_Rule, p_Width, p_Height, p_Clues), clues))).bind fun r2 =>
  some r2 := by kernel_rfl
theorem slices_DeleteFunc_2.eq (k : Nat) (s : List ByteArray) (del_0 : ByteArray) (del_01 : Int) (del_02 : Int) (del_03 : List (Int × (Int × Int))) (del_1 : List (Int × (Int × Int))) : slices_DeleteFunc_2 (k + 1) (s, ((del_0, del_01, del_02, del_03), del_1)) =
  (slices_IndexFunc_4 k (s, ((del_0, del_01, del_02, del_03), del_1))).bind fun r1 =>
  cond (r1 == (-1))
  (some s)
  ((slices_DeleteFunc_2_l k (s, ((del_0, del_01, del_02, del_03), del_1), r1, (w64 (r1 + 1)))).bind fun r2 =>
   cond ((decide ((0 : Int) ≤ r2.2)) && (decide (r2.2 ≤ (r2.1.length : Int))))
   (cond ((decide ((0 : Int) ≤ r2.2)) && (decide (r2.2 ≤ ((((r2.1.take r2.2.toNat) ++ (List.replicate (r2.1.length - r2.2.toNat) ByteArray.empty)) ++ (r2.1.drop (r2.2.toNat + (r2.1.length - r2.2.toNat)))).length : Int))))
    (some ((((r2.1.take r2.2.toNat) ++ (List.replicate (r2.1.length - r2.2.toNat) ByteArray.empty)) ++ (r2.1.drop (r2.2.toNat + (r2.1.length - r2.2.toNat)))).take r2.2.toNat))
    (none))
   (none)) := by kernel_rfl
theorem slices_IndexFunc_4.eq (k : Nat) (s : List ByteArray) (f_0 : ByteArray) (f_01 : Int) (f_02 : Int) (f_03 : List (Int × (Int × Int))) (f_1 : List (Int × (Int × Int))) : slices_IndexFunc_4 (k + 1) (s, ((f_0, f_01, f_02, f_03), f_1)) =
  (slices_IndexFunc_4_l k (s, ((f_0, f_01, f_02, f_03), f_1), (s.length : Int), 0)).bind fun r1 =>
  r1.elim
  (fun r2 => some r2)
  (fun r3 => some (-1)) := by kernel_rfl
end Go.Proofs.YtplamonjnlgomaaGreatDoorS
