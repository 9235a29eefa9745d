/- What each function computes (printed by wip/sim/gen.py). -/
import Derived.Test.YtodmlhpobebdgaaDoorTab
namespace Go.Proofs.YtodmlhpobebdgaaDoorS
open Go Go.Proofs
set_option maxRecDepth 100000
set_option linter.unusedVariables false
theorem laws_FnExactIsDesk.eq (k : Nat) (aD_WorldRule : ByteArray) (aD_WorldWidth : Int) (aD_WorldHeight : Int) (aD_WorldCells : ByteArray) (aD_WorldX : Int) (aD_WorldY : Int) (aD_WorldWay : Int) (aD_KeptRule : ByteArray) (aD_KeptWidth : Int) (aD_KeptHeight : Int) (aD_KeptCells : ByteArray) (aD_KeptX : Int) (aD_KeptY : Int) (aD_KeptWay : Int) (aD_Program : ByteArray) : laws_FnExactIsDesk (k + 1) (aD_WorldRule, aD_WorldWidth, aD_WorldHeight, aD_WorldCells, aD_WorldX, aD_WorldY, aD_WorldWay, aD_KeptRule, aD_KeptWidth, aD_KeptHeight, aD_KeptCells, aD_KeptX, aD_KeptY, aD_KeptWay, aD_Program) =
  (laws_szDesk k ((aD_WorldRule, aD_WorldWidth, aD_WorldHeight, aD_WorldCells, aD_WorldX, aD_WorldY, aD_WorldWay, aD_KeptRule, aD_KeptWidth, aD_KeptHeight, aD_KeptCells, aD_KeptX, aD_KeptY, aD_KeptWay, aD_Program), 1048576)).bind fun r1 =>
  cond (decide (r1 < 0))
  (some true)
  ((laws_toDesk k (aD_WorldRule, aD_WorldWidth, aD_WorldHeight, aD_WorldCells, aD_WorldX, aD_WorldY, aD_WorldWay, aD_KeptRule, aD_KeptWidth, aD_KeptHeight, aD_KeptCells, aD_KeptX, aD_KeptY, aD_KeptWay, aD_Program)).bind fun r2 =>
   (spec_IsDesk k r2).bind fun r3 =>
   (laws_toDesk k (aD_WorldRule, aD_WorldWidth, aD_WorldHeight, aD_WorldCells, aD_WorldX, aD_WorldY, aD_WorldWay, aD_KeptRule, aD_KeptWidth, aD_KeptHeight, aD_KeptCells, aD_KeptX, aD_KeptY, aD_KeptWay, aD_Program)).bind fun r4 =>
   (impl_IsDesk k r4).bind fun r5 =>
   cond (!(r5 == r3))
   (some false)
   (some true)) := by kernel_rfl
theorem laws_szDesk.eq (k : Nat) (a_WorldRule : ByteArray) (a_WorldWidth : Int) (a_WorldHeight : Int) (a_WorldCells : ByteArray) (a_WorldX : Int) (a_WorldY : Int) (a_WorldWay : Int) (a_KeptRule : ByteArray) (a_KeptWidth : Int) (a_KeptHeight : Int) (a_KeptCells : ByteArray) (a_KeptX : Int) (a_KeptY : Int) (a_KeptWay : Int) (a_Program : ByteArray) (left : Int) : laws_szDesk (k + 1) ((a_WorldRule, a_WorldWidth, a_WorldHeight, a_WorldCells, a_WorldX, a_WorldY, a_WorldWay, a_KeptRule, a_KeptWidth, a_KeptHeight, a_KeptCells, a_KeptX, a_KeptY, a_KeptWay, a_Program), left) =
  (laws_szWorld k ((a_WorldRule, a_WorldWidth, a_WorldHeight, a_WorldCells, a_WorldX, a_WorldY, a_WorldWay), left)).bind fun r1 =>
  cond (decide (r1 < 0))
  (some (-1))
  ((laws_szWorld k ((a_KeptRule, a_KeptWidth, a_KeptHeight, a_KeptCells, a_KeptX, a_KeptY, a_KeptWay), r1)).bind fun r2 =>
   cond (decide (r2 < 0))
   (some (-1))
   (cond (decide ((w64 (r2 - (a_Program.size : Int))) < 0))
    (some (-1))
    (some (w64 (r2 - (a_Program.size : Int)))))) := by kernel_rfl
theorem laws_szWorld.eq (k : Nat) (a_Rule : ByteArray) (a_Width : Int) (a_Height : Int) (a_Cells : ByteArray) (a_X : Int) (a_Y : Int) (a_Way : Int) (left : Int) : laws_szWorld (k + 1) ((a_Rule, a_Width, a_Height, a_Cells, a_X, a_Y, a_Way), left) =
  cond (decide ((w64 (left - (a_Rule.size : Int))) < 0))
  (some (-1))
  (cond (decide ((w64 ((w64 (left - (a_Rule.size : Int))) - (a_Cells.size : Int))) < 0))
   (some (-1))
   (some (w64 ((w64 (left - (a_Rule.size : Int))) - (a_Cells.size : Int))))) := by kernel_rfl
theorem laws_toDesk.eq (k : Nat) (a_WorldRule : ByteArray) (a_WorldWidth : Int) (a_WorldHeight : Int) (a_WorldCells : ByteArray) (a_WorldX : Int) (a_WorldY : Int) (a_WorldWay : Int) (a_KeptRule : ByteArray) (a_KeptWidth : Int) (a_KeptHeight : Int) (a_KeptCells : ByteArray) (a_KeptX : Int) (a_KeptY : Int) (a_KeptWay : Int) (a_Program : ByteArray) : laws_toDesk (k + 1) (a_WorldRule, a_WorldWidth, a_WorldHeight, a_WorldCells, a_WorldX, a_WorldY, a_WorldWay, a_KeptRule, a_KeptWidth, a_KeptHeight, a_KeptCells, a_KeptX, a_KeptY, a_KeptWay, a_Program) =
  (laws_toWorld k (a_WorldRule, a_WorldWidth, a_WorldHeight, a_WorldCells, a_WorldX, a_WorldY, a_WorldWay)).bind fun r1 =>
  (laws_toWorld k (a_KeptRule, a_KeptWidth, a_KeptHeight, a_KeptCells, a_KeptX, a_KeptY, a_KeptWay)).bind fun r2 =>
  some (r1.1, r1.2.1, r1.2.2.1, r1.2.2.2.1, r1.2.2.2.2.1, r1.2.2.2.2.2.1, r1.2.2.2.2.2.2, r2.1, r2.2.1, r2.2.2.1, r2.2.2.2.1, r2.2.2.2.2.1, r2.2.2.2.2.2.1, r2.2.2.2.2.2.2, a_Program) := by kernel_rfl
theorem laws_toWorld.eq (k : Nat) (a_Rule : ByteArray) (a_Width : Int) (a_Height : Int) (a_Cells : ByteArray) (a_X : Int) (a_Y : Int) (a_Way : Int) : laws_toWorld (k + 1) (a_Rule, a_Width, a_Height, a_Cells, a_X, a_Y, a_Way) =
  some (a_Rule, a_Width, a_Height, a_Cells, a_X, a_Y, a_Way) := by kernel_rfl
theorem spec_IsDesk.eq (k : Nat) (d_WorldRule : ByteArray) (d_WorldWidth : Int) (d_WorldHeight : Int) (d_WorldCells : ByteArray) (d_WorldX : Int) (d_WorldY : Int) (d_WorldWay : Int) (d_KeptRule : ByteArray) (d_KeptWidth : Int) (d_KeptHeight : Int) (d_KeptCells : ByteArray) (d_KeptX : Int) (d_KeptY : Int) (d_KeptWay : Int) (d_Program : ByteArray) : spec_IsDesk (k + 1) (d_WorldRule, d_WorldWidth, d_WorldHeight, d_WorldCells, d_WorldX, d_WorldY, d_WorldWay, d_KeptRule, d_KeptWidth, d_KeptHeight, d_KeptCells, d_KeptX, d_KeptY, d_KeptWay, d_Program) =
  (spec_coGood k (d_WorldRule, d_WorldWidth, d_WorldHeight, d_WorldCells, d_WorldX, d_WorldY, d_WorldWay, d_KeptRule, d_KeptWidth, d_KeptHeight, d_KeptCells, d_KeptX, d_KeptY, d_KeptWay, d_Program)).bind fun r1 =>
  some r1 := by kernel_rfl
theorem spec_coGood.eq (k : Nat) (d_WorldRule : ByteArray) (d_WorldWidth : Int) (d_WorldHeight : Int) (d_WorldCells : ByteArray) (d_WorldX : Int) (d_WorldY : Int) (d_WorldWay : Int) (d_KeptRule : ByteArray) (d_KeptWidth : Int) (d_KeptHeight : Int) (d_KeptCells : ByteArray) (d_KeptX : Int) (d_KeptY : Int) (d_KeptWay : Int) (d_Program : ByteArray) : spec_coGood (k + 1) (d_WorldRule, d_WorldWidth, d_WorldHeight, d_WorldCells, d_WorldX, d_WorldY, d_WorldWay, d_KeptRule, d_KeptWidth, d_KeptHeight, d_KeptCells, d_KeptX, d_KeptY, d_KeptWay, d_Program) =
  (spec_woGood k (d_WorldRule, d_WorldWidth, d_WorldHeight, d_WorldCells, d_WorldX, d_WorldY, d_WorldWay)).bind fun r1 =>
  cond r1
  ((spec_woGood k (d_KeptRule, d_KeptWidth, d_KeptHeight, d_KeptCells, d_KeptX, d_KeptY, d_KeptWay)).bind fun r2 =>
   cond r2
   ((spec_tuGood k d_Program).bind fun r3 =>
    some r3)
   (some false))
  (some false) := by kernel_rfl
theorem spec_woGood.eq (k : Nat) (w_Rule : ByteArray) (w_Width : Int) (w_Height : Int) (w_Cells : ByteArray) (w_X : Int) (w_Y : Int) (w_Way : Int) : spec_woGood (k + 1) (w_Rule, w_Width, w_Height, w_Cells, w_X, w_Y, w_Way) =
  (spec_woRule k w_Rule).bind fun r1 =>
  cond (!r1)
  (some false)
  ((spec_l1In k (w_Width, 1, 9)).bind fun r2 =>
   cond (!r2)
   (some false)
   ((spec_l1In k (w_Height, 1, 9)).bind fun r3 =>
    cond (!r3)
    (some false)
    (cond ((w_Cells.size : Int) != (w64 (w_Width * w_Height)))
     (some false)
     ((spec_woGood_l k ((w_Rule, w_Width, w_Height, w_Cells, w_X, w_Y, w_Way), 0)).bind fun r4 =>
      r4.elim
      (fun r5 => some r5)
      (fun r6 => (spec_l1In k (r6.2.2.2.2.1, 0, (w64 (r6.2.1 - 1)))).bind fun r7 =>
       cond r7
       ((spec_l1In k (r6.2.2.2.2.2.1, 0, (w64 (r6.2.2.1 - 1)))).bind fun r8 =>
        cond r8
        ((spec_l1In k (r6.2.2.2.2.2.2, 0, 3)).bind fun r9 =>
         some r9)
        (some false))
       (some false)))))) := by kernel_rfl
theorem spec_woRule.eq (k : Nat) (rule : ByteArray) : spec_woRule (k + 1) rule =
  (spec_l1In k ((rule.size : Int), 1, 6)).bind fun r1 =>
  cond (!r1)
  (some false)
  ((spec_woRule_l k (rule, 0)).bind fun r2 =>
   r2.elim
   (fun r3 => some r3)
   (fun r4 => some true)) := by kernel_rfl
theorem spec_l1In.eq (k : Nat) (n : Int) (lo : Int) (hi : Int) : spec_l1In (k + 1) (n, lo, hi) =
  cond (decide (n ≥ lo))
  (some (decide (n ≤ hi)))
  (some false) := by kernel_rfl
theorem spec_woRule_l.eq (k : Nat) (rule : ByteArray) (i : Int) : spec_woRule_l (k + 1) (rule, i) =
  cond (decide (i < (rule.size : Int)))
  (cond (inB i rule.size)
   (cond ((bt rule i.toNat) == 76)
    (spec_woRule_l k (rule, (w64 (i + 1))))
    (cond ((bt rule i.toNat) == 82)
     (spec_woRule_l k (rule, (w64 (i + 1))))
     (cond ((bt rule i.toNat) == 78)
      (spec_woRule_l k (rule, (w64 (i + 1))))
      (cond ((bt rule i.toNat) == 85)
       (spec_woRule_l k (rule, (w64 (i + 1))))
       (some (.inl false))))))
   (none))
  (some (.inr ())) := by kernel_rfl
theorem spec_woGood_l.eq (k : Nat) (w_Rule : ByteArray) (w_Width : Int) (w_Height : Int) (w_Cells : ByteArray) (w_X : Int) (w_Y : Int) (w_Way : Int) (i : Int) : spec_woGood_l (k + 1) ((w_Rule, w_Width, w_Height, w_Cells, w_X, w_Y, w_Way), i) =
  cond (decide (i < (w_Cells.size : Int)))
  (cond (inB i w_Cells.size)
   ((spec_l1In k ((w64 ((w64 (bt w_Cells i.toNat)) - 48)), 0, (w64 ((w_Rule.size : Int) - 1)))).bind fun r1 =>
    cond (!r1)
    (some (.inl false))
    (spec_woGood_l k ((w_Rule, w_Width, w_Height, w_Cells, w_X, w_Y, w_Way), (w64 (i + 1)))))
   (none))
  (some (.inr (w_Rule, w_Width, w_Height, w_Cells, w_X, w_Y, w_Way))) := by kernel_rfl
theorem spec_tuGood.eq (k : Nat) (s : ByteArray) : spec_tuGood (k + 1) s =
  cond (((s.size : Int).tmod 2) != 0)
  (some false)
  ((spec_l1In k ((w64 ((s.size : Int).tdiv 2)), 1, 9)).bind fun r1 =>
   cond (!r1)
   (some false)
   ((spec_tuGood_l k (s, 0)).bind fun r2 =>
    r2.elim
    (fun r3 => some r3)
    (fun r4 => some true))) := by kernel_rfl
theorem spec_tuGood_l.eq (k : Nat) (s : ByteArray) (i : Int) : spec_tuGood_l (k + 1) (s, i) =
  cond (decide (i < (s.size : Int)))
  (cond (inB i s.size)
   (cond (decide ((bt s i.toNat) < 48))
    (some (.inl false))
    (cond (inB i s.size)
     (cond (decide ((bt s i.toNat) > 57))
      (some (.inl false))
      (cond (((decide ((0 : Int) ≤ (w64 (i + 2)))) && (decide ((w64 (i + 2)) ≤ (s.size : Int)))) && ((decide ((0 : Int) ≤ (w64 (i + 1)))) && (decide ((w64 (i + 1)) ≤ (w64 (i + 2))))))
       ((spec_woRule k (s.extract ((w64 (i + 1)).toNat) ((w64 (i + 2)).toNat))).bind fun r1 =>
        cond (!r1)
        (some (.inl false))
        (spec_tuGood_l k (s, (w64 (i + 2)))))
       (none)))
     (none)))
   (none))
  (some (.inr ())) := by kernel_rfl
theorem impl_IsDesk.eq (k : Nat) (d_WorldRule : ByteArray) (d_WorldWidth : Int) (d_WorldHeight : Int) (d_WorldCells : ByteArray) (d_WorldX : Int) (d_WorldY : Int) (d_WorldWay : Int) (d_KeptRule : ByteArray) (d_KeptWidth : Int) (d_KeptHeight : Int) (d_KeptCells : ByteArray) (d_KeptX : Int) (d_KeptY : Int) (d_KeptWay : Int) (d_Program : ByteArray) : impl_IsDesk (k + 1) (d_WorldRule, d_WorldWidth, d_WorldHeight, d_WorldCells, d_WorldX, d_WorldY, d_WorldWay, d_KeptRule, d_KeptWidth, d_KeptHeight, d_KeptCells, d_KeptX, d_KeptY, d_KeptWay, d_Program) =
  (impl_IsWorld k (d_WorldRule, d_WorldWidth, d_WorldHeight, d_WorldCells, d_WorldX, d_WorldY, d_WorldWay)).bind fun r1 =>
  cond r1
  ((impl_IsWorld k (d_KeptRule, d_KeptWidth, d_KeptHeight, d_KeptCells, d_KeptX, d_KeptY, d_KeptWay)).bind fun r2 =>
   cond r2
   ((impl_IsProgram k d_Program).bind fun r3 =>
    some r3)
   (some false))
  (some false) := by kernel_rfl
theorem impl_IsWorld.eq (k : Nat) (w_Rule : ByteArray) (w_Width : Int) (w_Height : Int) (w_Cells : ByteArray) (w_X : Int) (w_Y : Int) (w_Way : Int) : impl_IsWorld (k + 1) (w_Rule, w_Width, w_Height, w_Cells, w_X, w_Y, w_Way) =
  (impl_IsRule k w_Rule).bind fun r1 =>
  cond r1
  ((impl_isSize k (w_Width, w_Height)).bind fun r2 =>
   cond r2
   ((impl_areCells k (w_Cells, (w64 (w_Width * w_Height)), (w_Rule.size : Int))).bind fun r3 =>
    cond r3
    ((impl_isAnt k (w_Width, w_Height, w_X, w_Y, w_Way)).bind fun r4 =>
     some r4)
    (some false))
   (some false))
  (some false) := by kernel_rfl
theorem impl_IsRule.eq (k : Nat) (rule : ByteArray) : impl_IsRule (k + 1) rule =
  (impl_within k ((rule.size : Int), 1, 6)).bind fun r1 =>
  cond r1
  ((strings_Trim k (rule, (bs [76, 82, 78, 85]))).bind fun r2 =>
   some (strEq r2 ByteArray.empty))
  (some false) := by kernel_rfl
theorem impl_within.eq (k : Nat) (n : Int) (low : Int) (high : Int) : impl_within (k + 1) (n, low, high) =
  cond (decide (low ≤ n))
  (some (decide (n ≤ high)))
  (some false) := by kernel_rfl
theorem strings_Trim.eq (k : Nat) (d : ByteArray × ByteArray) : strings_Trim (k + 1) d = (fun d => strTrim d.1 d.2) d := by kernel_rfl
theorem impl_isSize.eq (k : Nat) (width : Int) (height : Int) : impl_isSize (k + 1) (width, height) =
  (impl_within k (width, 1, 9)).bind fun r1 =>
  cond r1
  ((impl_within k (height, 1, 9)).bind fun r2 =>
   some r2)
  (some false) := by kernel_rfl
theorem impl_areCells.eq (k : Nat) (cells : ByteArray) (many : Int) (tints : Int) : impl_areCells (k + 1) (cells, many, tints) =
  (impl_areCells_l k (cells, many, tints, (cells.size : Int), 0)).bind fun r1 =>
  r1.elim
  (fun r2 => some r2)
  (fun r3 => some ((r3.1.size : Int) == r3.2)) := by kernel_rfl
theorem impl_areCells_l.eq (k : Nat) (cells : ByteArray) (many : Int) (tints : Int) (t9 : Int) (t10 : Int) : impl_areCells_l (k + 1) (cells, many, tints, t9, t10) =
  cond (decide (t10 < t9))
  (cond (inB t10 cells.size)
   ((impl_within k ((w64 ((w64 (bt cells t10.toNat)) - 48)), 0, (w64 (tints - 1)))).bind fun r1 =>
    cond (!r1)
    (some (.inl false))
    (impl_areCells_l k (cells, many, tints, t9, (w64 (t10 + 1)))))
   (none))
  (some (.inr (cells, many))) := by kernel_rfl
theorem impl_isAnt.eq (k : Nat) (width : Int) (height : Int) (x : Int) (y : Int) (way : Int) : impl_isAnt (k + 1) (width, height, x, y, way) =
  (impl_within k (x, 0, (w64 (width - 1)))).bind fun r1 =>
  cond r1
  ((impl_within k (y, 0, (w64 (height - 1)))).bind fun r2 =>
   cond r2
   ((impl_isWay k way).bind fun r3 =>
    some r3)
   (some false))
  (some false) := by kernel_rfl
theorem impl_isWay.eq (k : Nat) (way : Int) : impl_isWay (k + 1) way =
  (impl_within k (way, 0, 3)).bind fun r1 =>
  some r1 := by kernel_rfl
theorem impl_IsProgram.eq (k : Nat) (s : ByteArray) : impl_IsProgram (k + 1) s =
  (impl_IsProgram_l k (s, (s.size : Int), 0)).bind fun r1 =>
  r1.elim
  (fun r2 => some r2)
  (fun r3 => cond (((r3.size : Int).tmod 2) == 0)
   ((impl_within k ((w64 ((r3.size : Int).tdiv 2)), 1, 9)).bind fun r4 =>
    some r4)
   (some false)) := by kernel_rfl
theorem impl_IsProgram_l.eq (k : Nat) (s : ByteArray) (t6 : Int) (t7 : Int) : impl_IsProgram_l (k + 1) (s, t6, t7) =
  cond (decide (t7 < t6))
  (cond (inB t7 s.size)
   ((impl_within k ((w64 (bt s t7.toNat)), 48, 57)).bind fun r1 =>
    cond (!(r1 == ((t7.tmod 2) == 0)))
    (some (.inl false))
    (cond (!r1)
     (cond (((decide ((0 : Int) ≤ (w64 (t7 + 1)))) && (decide ((w64 (t7 + 1)) ≤ (s.size : Int)))) && ((decide ((0 : Int) ≤ t7)) && (decide (t7 ≤ (w64 (t7 + 1))))))
      ((strings_Contains k ((bs [76, 82, 78, 85]), (s.extract t7.toNat ((w64 (t7 + 1)).toNat)))).bind fun r2 =>
       cond (!r2)
       (some (.inl false))
       (impl_IsProgram_l k (s, t6, (w64 (t7 + 1)))))
      (none))
     (impl_IsProgram_l k (s, t6, (w64 (t7 + 1))))))
   (none))
  (some (.inr s)) := by kernel_rfl
theorem strings_Contains.eq (k : Nat) (d : ByteArray × ByteArray) : strings_Contains (k + 1) d = (fun d => strContains1 d.1 d.2) d := by kernel_rfl
theorem laws_FnExactMakePuzzle.eq (k : Nat) (aW_Rule : ByteArray) (aW_Width : Int) (aW_Height : Int) (aW_Cells : ByteArray) (aW_X : Int) (aW_Y : Int) (aW_Way : Int) (aClues : Int) (aSeed : Int) : laws_FnExactMakePuzzle (k + 1) ((aW_Rule, aW_Width, aW_Height, aW_Cells, aW_X, aW_Y, aW_Way), aClues, aSeed) =
  (laws_szWorld k ((aW_Rule, aW_Width, aW_Height, aW_Cells, aW_X, aW_Y, aW_Way), 1048576)).bind fun r1 =>
  cond (decide (r1 < 0))
  (some true)
  ((laws_toWorld k (aW_Rule, aW_Width, aW_Height, aW_Cells, aW_X, aW_Y, aW_Way)).bind fun r2 =>
   (spec_MakePuzzle k (r2, aClues, aSeed)).bind fun r3 =>
   (laws_toWorld k (aW_Rule, aW_Width, aW_Height, aW_Cells, aW_X, aW_Y, aW_Way)).bind fun r4 =>
   (impl_MakePuzzle k (r4, aClues, aSeed)).bind fun r5 =>
   (laws_eqPuzzle k (r5.1, r3.1)).bind fun r6 =>
   cond (!r6)
   (some false)
   (cond (!(r5.2 == r3.2))
    (some false)
    ((laws_markPuzzle k (r5.1, 1)).bind fun r7 =>
     (laws_heldPuzzle k ((r5.1.1, r5.1.2.1, r5.1.2.2.1, r7.2.2.2.2), 1)).bind fun r8 =>
     cond (decide (r8 < 0))
     (some false)
     (cond (r8 != r7.1)
      (some false)
      ((laws_toWorld k (aW_Rule, aW_Width, aW_Height, aW_Cells, aW_X, aW_Y, aW_Way)).bind fun r9 =>
       (impl_MakePuzzle k (r9, aClues, aSeed)).bind fun r10 =>
       (laws_eqPuzzle k (r10.1, r3.1)).bind fun r11 =>
       cond (!r11)
       (some false)
       (cond (!(r10.2 == r3.2))
        (some false)
        ((laws_heldPuzzle k ((r5.1.1, r5.1.2.1, r5.1.2.2.1, r7.2.2.2.2), 1)).bind fun r12 =>
         cond (decide (r12 < 0))
         (some false)
         (cond (r12 != r7.1)
          (some false)
          (some true))))))))) := by kernel_rfl
theorem spec_MakePuzzle.eq (k : Nat) (w_Rule : ByteArray) (w_Width : Int) (w_Height : Int) (w_Cells : ByteArray) (w_X : Int) (w_Y : Int) (w_Way : Int) (clues : Int) (seed : Int) : spec_MakePuzzle (k + 1) ((w_Rule, w_Width, w_Height, w_Cells, w_X, w_Y, w_Way), clues, seed) =
  (spec_pzHidden k (w_Rule, w_Width, w_Height, w_Cells, w_X, w_Y, w_Way)).bind fun r1 =>
  cond (!r1)
  (some ((ByteArray.empty, 0, 0, []), false))
  ((spec_l1In k (clues, 0, 6)).bind fun r2 =>
   cond (!r2)
   (some ((ByteArray.empty, 0, 0, []), false))
   ((spec_l1In k (seed, 0, 9999)).bind fun r3 =>
    cond (!r3)
    (some ((ByteArray.empty, 0, 0, []), false))
    ((spec_MakePuzzle_l k (clues, (w_Rule, w_Width, w_Height, w_Cells, w_X, w_Y, w_Way), (ByteArray.empty, 0, 0, []), (w_Rule, w_Width, w_Height, []), seed)).bind fun r4 =>
     some (r4.2, true)))) := by kernel_rfl
theorem spec_pzHidden.eq (k : Nat) (w_Rule : ByteArray) (w_Width : Int) (w_Height : Int) (w_Cells : ByteArray) (w_X : Int) (w_Y : Int) (w_Way : Int) : spec_pzHidden (k + 1) (w_Rule, w_Width, w_Height, w_Cells, w_X, w_Y, w_Way) =
  (spec_woGood k (w_Rule, w_Width, w_Height, w_Cells, w_X, w_Y, w_Way)).bind fun r1 =>
  cond r1
  (cond (w_X == 0)
   (cond (w_Y == 0)
    (cond (w_Way == 0)
     ((spec_pzSize k (w_Rule, w_Width, w_Height)).bind fun r2 =>
      some r2)
     (some false))
    (some false))
   (some false))
  (some false) := by kernel_rfl
theorem spec_pzSize.eq (k : Nat) (rule : ByteArray) (width : Int) (height : Int) : spec_pzSize (k + 1) (rule, width, height) =
  (spec_woRule k rule).bind fun r1 =>
  cond r1
  ((spec_l1In k (width, 1, 9)).bind fun r2 =>
   cond r2
   ((spec_l1In k (height, 1, 9)).bind fun r3 =>
    cond r3
    (cond (decide ((w64 (width * height)) ≤ 9))
     ((spec_pzPower k (rule, (w64 (width * height)))).bind fun r4 =>
      some (decide (r4 > 0)))
     (some false))
    (some false))
   (some false))
  (some false) := by kernel_rfl
theorem spec_pzPower.eq (k : Nat) (rule : ByteArray) (cells : Int) : spec_pzPower (k + 1) (rule, cells) =
  (spec_pzPower_l k (rule, cells, 1)).bind fun r1 =>
  r1.elim
  (fun r2 => some r2)
  (fun r3 => some r3) := by kernel_rfl
theorem spec_pzPower_l.eq (k : Nat) (rule : ByteArray) (cells : Int) (n : Int) : spec_pzPower_l (k + 1) (rule, cells, n) =
  cond (decide (cells > 0))
  (cond (decide ((w64 (n * (rule.size : Int))) > 300))
   (some (.inl 0))
   (spec_pzPower_l k (rule, (w64 (cells - 1)), (w64 (n * (rule.size : Int))))))
  (some (.inr n)) := by kernel_rfl
theorem spec_MakePuzzle_l.eq (k : Nat) (clues : Int) (w_Rule : ByteArray) (w_Width : Int) (w_Height : Int) (w_Cells : ByteArray) (w_X : Int) (w_Y : Int) (w_Way : Int) (t6_Rule : ByteArray) (t6_Width : Int) (t6_Height : Int) (t6_Clues : List (Int × (Int × Int))) (p_Rule : ByteArray) (p_Width : Int) (p_Height : Int) (p_Clues : List (Int × (Int × Int))) (z : Int) : spec_MakePuzzle_l (k + 1) (clues, (w_Rule, w_Width, w_Height, w_Cells, w_X, w_Y, w_Way), (t6_Rule, t6_Width, t6_Height, t6_Clues), (p_Rule, p_Width, p_Height, p_Clues), z) =
  cond (decide (clues > 0))
  ((spec_pzNext k z).bind fun r1 =>
   cond (decide ((r1.tmod 5) < 4))
   ((spec_pzNext k r1).bind fun r2 =>
    cond ((r1.tmod 5) == 0)
    (cond ((w_Cells.size : Int) != 0)
     ((spec_pzOf k ((r1.tmod 5), (r2.tmod (w_Cells.size : Int)), (w_Rule, w_Width, w_Height, w_Cells, w_X, w_Y, w_Way))).bind fun r3 =>
      cond (fits (p_Clues.length + 1) 24)
      (spec_MakePuzzle_l k ((w64 (clues - 1)), (w_Rule, w_Width, w_Height, w_Cells, w_X, w_Y, w_Way), (t6_Rule, t6_Width, t6_Height, t6_Clues), (p_Rule, p_Width, p_Height, (p_Clues ++ [r3])), r2))
      (none))
     (none))
    ((spec_pzOf k ((r1.tmod 5), (r2.tmod 51), (w_Rule, w_Width, w_Height, w_Cells, w_X, w_Y, w_Way))).bind fun r4 =>
     cond (fits (p_Clues.length + 1) 24)
     (spec_MakePuzzle_l k ((w64 (clues - 1)), (w_Rule, w_Width, w_Height, w_Cells, w_X, w_Y, w_Way), (t6_Rule, t6_Width, t6_Height, t6_Clues), (p_Rule, p_Width, p_Height, (p_Clues ++ [r4])), r2))
     (none)))
   ((spec_pzOf k ((r1.tmod 5), 0, (w_Rule, w_Width, w_Height, w_Cells, w_X, w_Y, w_Way))).bind fun r5 =>
    cond (fits (p_Clues.length + 1) 24)
    (spec_MakePuzzle_l k ((w64 (clues - 1)), (w_Rule, w_Width, w_Height, w_Cells, w_X, w_Y, w_Way), (t6_Rule, t6_Width, t6_Height, t6_Clues), (p_Rule, p_Width, p_Height, (p_Clues ++ [r5])), r1))
    (none)))
  (some ((t6_Rule, t6_Width, t6_Height, t6_Clues), (p_Rule, p_Width, p_Height, p_Clues))) := by kernel_rfl
theorem spec_pzNext.eq (k : Nat) (z : Int) : spec_pzNext (k + 1) z =
  some ((w64 ((w64 (151 * z)) + 2083)).tmod 10007) := by kernel_rfl
theorem spec_pzOf.eq (k : Nat) (kind : Int) (a : Int) (w_Rule : ByteArray) (w_Width : Int) (w_Height : Int) (w_Cells : ByteArray) (w_X : Int) (w_Y : Int) (w_Way : Int) : spec_pzOf (k + 1) (kind, a, (w_Rule, w_Width, w_Height, w_Cells, w_X, w_Y, w_Way)) =
  cond (kind == 4)
  ((spec_pzValue k (4, 0, (w_Rule, w_Width, w_Height, w_Cells, w_X, w_Y, w_Way))).bind fun r1 =>
   some (4, r1, 0))
  ((spec_pzValue k (kind, a, (w_Rule, w_Width, w_Height, w_Cells, w_X, w_Y, w_Way))).bind fun r2 =>
   some (kind, a, r2)) := by kernel_rfl
theorem spec_pzValue.eq (k : Nat) (kind : Int) (a : Int) (w_Rule : ByteArray) (w_Width : Int) (w_Height : Int) (w_Cells : ByteArray) (w_X : Int) (w_Y : Int) (w_Way : Int) : spec_pzValue (k + 1) (kind, a, (w_Rule, w_Width, w_Height, w_Cells, w_X, w_Y, w_Way)) =
  cond (decide (kind > 0))
  (cond (decide (kind < 4))
   ((spec_pzValue_l k (kind, a, (w_Rule, w_Width, w_Height, w_Cells, w_X, w_Y, w_Way), 0, 0)).bind fun r1 =>
    (spec_pzValue_l_2 k (r1.1, r1.2.1, r1.2.2.1, r1.2.2.2.1, r1.2.2.2.2, 0)).bind fun r2 =>
    cond (r2.1 == 0)
    (cond (inB r2.2.1 r2.2.2.1.2.2.2.1.size)
     (some (w64 (w8 ((bt r2.2.2.1.2.2.2.1 r2.2.1.toNat) - 48))))
     (none))
    (cond (r2.1 == 1)
     (some (w64 ((w64 (r2.2.2.1.2.2.2.2.2.1 * r2.2.2.1.2.1)) + r2.2.2.1.2.2.2.2.1)))
     (cond (r2.1 == 2)
      (some r2.2.2.1.2.2.2.2.2.2)
      (cond (r2.1 == 3)
       (some r2.2.2.2.2)
       (some r2.2.2.2.1)))))
   ((spec_pzValue_l_2 k (kind, a, (w_Rule, w_Width, w_Height, w_Cells, w_X, w_Y, w_Way), 0, 0, 0)).bind fun r3 =>
    cond (r3.1 == 0)
    (cond (inB r3.2.1 r3.2.2.1.2.2.2.1.size)
     (some (w64 (w8 ((bt r3.2.2.1.2.2.2.1 r3.2.1.toNat) - 48))))
     (none))
    (cond (r3.1 == 1)
     (some (w64 ((w64 (r3.2.2.1.2.2.2.2.2.1 * r3.2.2.1.2.1)) + r3.2.2.1.2.2.2.2.1)))
     (cond (r3.1 == 2)
      (some r3.2.2.1.2.2.2.2.2.2)
      (cond (r3.1 == 3)
       (some r3.2.2.2.2)
       (some r3.2.2.2.1))))))
  ((spec_pzValue_l_2 k (kind, a, (w_Rule, w_Width, w_Height, w_Cells, w_X, w_Y, w_Way), 0, 0, 0)).bind fun r4 =>
   cond (r4.1 == 0)
   (cond (inB r4.2.1 r4.2.2.1.2.2.2.1.size)
    (some (w64 (w8 ((bt r4.2.2.1.2.2.2.1 r4.2.1.toNat) - 48))))
    (none))
   (cond (r4.1 == 1)
    (some (w64 ((w64 (r4.2.2.1.2.2.2.2.2.1 * r4.2.2.1.2.1)) + r4.2.2.1.2.2.2.2.1)))
    (cond (r4.1 == 2)
     (some r4.2.2.1.2.2.2.2.2.2)
     (cond (r4.1 == 3)
      (some r4.2.2.2.2)
      (some r4.2.2.2.1))))) := by kernel_rfl
theorem spec_pzValue_l.eq (k : Nat) (kind : Int) (a : Int) (w_Rule : ByteArray) (w_Width : Int) (w_Height : Int) (w_Cells : ByteArray) (w_X : Int) (w_Y : Int) (w_Way : Int) (sum : Int) (free : Int) : spec_pzValue_l (k + 1) (kind, a, (w_Rule, w_Width, w_Height, w_Cells, w_X, w_Y, w_Way), sum, free) =
  cond (decide (a > 0))
  ((spec_woStep k (w_Rule, w_Width, w_Height, w_Cells, w_X, w_Y, w_Way)).bind fun r1 =>
   spec_pzValue_l k (kind, (w64 (a - 1)), r1, sum, free))
  (some (kind, a, (w_Rule, w_Width, w_Height, w_Cells, w_X, w_Y, w_Way), sum, free)) := by kernel_rfl
theorem spec_woStep.eq (k : Nat) (w_Rule : ByteArray) (w_Width : Int) (w_Height : Int) (w_Cells : ByteArray) (w_X : Int) (w_Y : Int) (w_Way : Int) : spec_woStep (k + 1) (w_Rule, w_Width, w_Height, w_Cells, w_X, w_Y, w_Way) =
  (spec_woColour k ((w_Rule, w_Width, w_Height, w_Cells, w_X, w_Y, w_Way), w_X, w_Y)).bind fun r1 =>
  cond (inB r1 w_Rule.size)
  ((spec_woTurn k (bt w_Rule r1.toNat)).bind fun r2 =>
   cond ((w_Rule.size : Int) != 0)
   ((spec_woPaint k ((w_Rule, w_Width, w_Height, w_Cells, w_X, w_Y, ((w64 (w_Way + r2)).tmod 4)), w_X, w_Y, ((w64 (r1 + 1)).tmod (w_Rule.size : Int)))).bind fun r3 =>
    (spec_woGo k (r3.2, 1)).bind fun r4 =>
    some r4.2)
   (none))
  (none) := by kernel_rfl
theorem spec_woColour.eq (k : Nat) (w_Rule : ByteArray) (w_Width : Int) (w_Height : Int) (w_Cells : ByteArray) (w_X : Int) (w_Y : Int) (w_Way : Int) (x : Int) (y : Int) : spec_woColour (k + 1) ((w_Rule, w_Width, w_Height, w_Cells, w_X, w_Y, w_Way), x, y) =
  cond (inB (w64 ((w64 (y * w_Width)) + x)) w_Cells.size)
  (some (w64 (w8 ((bt w_Cells ((w64 ((w64 (y * w_Width)) + x)).toNat)) - 48))))
  (none) := by kernel_rfl
theorem spec_woTurn.eq (k : Nat) (sign : Int) : spec_woTurn (k + 1) sign =
  cond (sign == 82)
  (some 1)
  (cond (sign == 85)
   (some 2)
   (cond (sign == 76)
    (some 3)
    (some 0))) := by kernel_rfl
theorem spec_woPaint.eq (k : Nat) (w_Rule : ByteArray) (w_Width : Int) (w_Height : Int) (w_Cells : ByteArray) (w_X : Int) (w_Y : Int) (w_Way : Int) (x : Int) (y : Int) (colour : Int) : spec_woPaint (k + 1) ((w_Rule, w_Width, w_Height, w_Cells, w_X, w_Y, w_Way), x, y, colour) =
  cond ((decide ((0 : Int) ≤ (w64 ((w64 (y * w_Width)) + x)))) && (decide ((w64 ((w64 (y * w_Width)) + x)) ≤ (w_Cells.size : Int))))
  ((spec_l1Num k colour).bind fun r1 =>
   cond (fitS (w_Cells.extract 0 ((w64 ((w64 (y * w_Width)) + x)).toNat)) r1)
   (cond ((decide ((0 : Int) ≤ (w64 ((w64 ((w64 (y * w_Width)) + x)) + 1)))) && (decide ((w64 ((w64 ((w64 (y * w_Width)) + x)) + 1)) ≤ (w_Cells.size : Int))))
    (cond (fitS ((w_Cells.extract 0 ((w64 ((w64 (y * w_Width)) + x)).toNat)) ++ r1) (w_Cells.extract ((w64 ((w64 ((w64 (y * w_Width)) + x)) + 1)).toNat) w_Cells.size))
     (some ((), (w_Rule, w_Width, w_Height, (((w_Cells.extract 0 ((w64 ((w64 (y * w_Width)) + x)).toNat)) ++ r1) ++ (w_Cells.extract ((w64 ((w64 ((w64 (y * w_Width)) + x)) + 1)).toNat) w_Cells.size)), w_X, w_Y, w_Way)))
     (none))
    (none))
   (none))
  (none) := by kernel_rfl
theorem spec_l1Num.eq (k : Nat) (n : Int) : spec_l1Num (k + 1) n =
  cond (decide (n < 10))
  (some (ofBytes [(w8 (w64 (48 + n)))]))
  ((spec_l1Num k (w64 (n.tdiv 10))).bind fun r1 =>
   cond (fitS r1 (ofBytes [(w8 (w64 (48 + (n.tmod 10))))]))
   (some (r1 ++ (ofBytes [(w8 (w64 (48 + (n.tmod 10))))])))
   (none)) := by kernel_rfl
theorem spec_woGo.eq (k : Nat) (w_Rule : ByteArray) (w_Width : Int) (w_Height : Int) (w_Cells : ByteArray) (w_X : Int) (w_Y : Int) (w_Way : Int) (cells : Int) : spec_woGo (k + 1) ((w_Rule, w_Width, w_Height, w_Cells, w_X, w_Y, w_Way), cells) =
  cond (w_Way == 0)
  ((spec_l1Mod k ((w64 (w_Y - cells)), w_Height)).bind fun r1 =>
   some ((), (w_Rule, w_Width, w_Height, w_Cells, w_X, r1, w_Way)))
  (cond (w_Way == 1)
   ((spec_l1Mod k ((w64 (w_X + cells)), w_Width)).bind fun r2 =>
    some ((), (w_Rule, w_Width, w_Height, w_Cells, r2, w_Y, w_Way)))
   (cond (w_Way == 2)
    ((spec_l1Mod k ((w64 (w_Y + cells)), w_Height)).bind fun r3 =>
     some ((), (w_Rule, w_Width, w_Height, w_Cells, w_X, r3, w_Way)))
    ((spec_l1Mod k ((w64 (w_X - cells)), w_Width)).bind fun r4 =>
     some ((), (w_Rule, w_Width, w_Height, w_Cells, r4, w_Y, w_Way))))) := by kernel_rfl
theorem spec_l1Mod.eq (k : Nat) (n : Int) (m : Int) : spec_l1Mod (k + 1) (n, m) =
  cond (m != 0)
  (cond (m != 0)
   (some ((w64 ((n.tmod m) + m)).tmod m))
   (none))
  (none) := by kernel_rfl
theorem spec_pzValue_l_2.eq (k : Nat) (kind : Int) (a : Int) (w_Rule : ByteArray) (w_Width : Int) (w_Height : Int) (w_Cells : ByteArray) (w_X : Int) (w_Y : Int) (w_Way : Int) (sum : Int) (free : Int) (i : Int) : spec_pzValue_l_2 (k + 1) (kind, a, (w_Rule, w_Width, w_Height, w_Cells, w_X, w_Y, w_Way), sum, free, i) =
  cond (decide (i < (w_Cells.size : Int)))
  (cond (inB i w_Cells.size)
   (cond (inB i w_Cells.size)
    (cond ((bt w_Cells i.toNat) == 48)
     (spec_pzValue_l_2 k (kind, a, (w_Rule, w_Width, w_Height, w_Cells, w_X, w_Y, w_Way), (w64 (sum + (w64 (w8 ((bt w_Cells i.toNat) - 48))))), (w64 (free + 1)), (w64 (i + 1))))
     (spec_pzValue_l_2 k (kind, a, (w_Rule, w_Width, w_Height, w_Cells, w_X, w_Y, w_Way), (w64 (sum + (w64 (w8 ((bt w_Cells i.toNat) - 48))))), free, (w64 (i + 1)))))
    (none))
   (none))
  (some (kind, a, (w_Rule, w_Width, w_Height, w_Cells, w_X, w_Y, w_Way), sum, free)) := by kernel_rfl
theorem impl_MakePuzzle.eq (k : Nat) (w_Rule : ByteArray) (w_Width : Int) (w_Height : Int) (w_Cells : ByteArray) (w_X : Int) (w_Y : Int) (w_Way : Int) (clues : Int) (seed : Int) : impl_MakePuzzle (k + 1) ((w_Rule, w_Width, w_Height, w_Cells, w_X, w_Y, w_Way), clues, seed) =
  (impl_isHiddenWorld k (w_Rule, w_Width, w_Height, w_Cells, w_X, w_Y, w_Way)).bind fun r1 =>
  cond (!r1)
  (some ((ByteArray.empty, 0, 0, []), false))
  ((impl_within k (clues, 0, 6)).bind fun r2 =>
   cond (!r2)
   (some ((ByteArray.empty, 0, 0, []), false))
   ((impl_within k (seed, 0, 9999)).bind fun r3 =>
    cond (!r3)
    (some ((ByteArray.empty, 0, 0, []), false))
    ((impl_MakePuzzle_l k ((w_Rule, w_Width, w_Height, w_Cells, w_X, w_Y, w_Way), (ByteArray.empty, 0, 0, []), seed, (w_Rule, w_Width, w_Height, []), clues, 0)).bind fun r4 =>
     some (r4.2, true)))) := by kernel_rfl
theorem impl_isHiddenWorld.eq (k : Nat) (w_Rule : ByteArray) (w_Width : Int) (w_Height : Int) (w_Cells : ByteArray) (w_X : Int) (w_Y : Int) (w_Way : Int) : impl_isHiddenWorld (k + 1) (w_Rule, w_Width, w_Height, w_Cells, w_X, w_Y, w_Way) =
  (impl_CountBoards k (w_Rule, w_Width, w_Height)).bind fun r1 =>
  cond (!r1.2)
  (some false)
  ((impl_IsWorld k (w_Rule, w_Width, w_Height, w_Cells, w_X, w_Y, w_Way)).bind fun r2 =>
   cond r2
   ((impl_World_at k (w_Rule, w_Width, w_Height, w_Cells, w_X, w_Y, w_Way)).bind fun r3 =>
    cond (r3 == 0)
    (some (w_Way == 0))
    (some false))
   (some false)) := by kernel_rfl
theorem impl_CountBoards.eq (k : Nat) (rule : ByteArray) (width : Int) (height : Int) : impl_CountBoards (k + 1) (rule, width, height) =
  (impl_isHidden k (rule, width, height)).bind fun r1 =>
  cond (!r1)
  (some (0, false))
  ((impl_boards k ((rule.size : Int), (w64 (width * height)), 300)).bind fun r2 =>
   cond (decide (r2 > 300))
   (some (0, false))
   (some (r2, true))) := by kernel_rfl
theorem impl_isHidden.eq (k : Nat) (rule : ByteArray) (width : Int) (height : Int) : impl_isHidden (k + 1) (rule, width, height) =
  (impl_IsRule k rule).bind fun r1 =>
  cond r1
  ((impl_isSize k (width, height)).bind fun r2 =>
   cond r2
   (some (decide ((w64 (width * height)) ≤ 9)))
   (some false))
  (some false) := by kernel_rfl
theorem impl_boards.eq (k : Nat) (colours : Int) (cells : Int) (most : Int) : impl_boards (k + 1) (colours, cells, most) =
  (impl_boards_l k (colours, most, 1, cells, 0)).bind fun r1 =>
  some r1 := by kernel_rfl
theorem impl_boards_l.eq (k : Nat) (colours : Int) (most : Int) (all : Int) (t8 : Int) (t9 : Int) : impl_boards_l (k + 1) (colours, most, all, t8, t9) =
  cond (decide (t9 < t8))
  (impl_boards_l k (colours, most, (if (w64 (most + 1)) < (w64 (all * colours)) then (w64 (most + 1)) else (w64 (all * colours))), t8, (w64 (t9 + 1))))
  (some all) := by kernel_rfl
theorem impl_World_at.eq (k : Nat) (w_Rule : ByteArray) (w_Width : Int) (w_Height : Int) (w_Cells : ByteArray) (w_X : Int) (w_Y : Int) (w_Way : Int) : impl_World_at (k + 1) (w_Rule, w_Width, w_Height, w_Cells, w_X, w_Y, w_Way) =
  some (w64 ((w64 (w_Y * w_Width)) + w_X)) := by kernel_rfl
theorem impl_MakePuzzle_l.eq (k : Nat) (w_Rule : ByteArray) (w_Width : Int) (w_Height : Int) (w_Cells : ByteArray) (w_X : Int) (w_Y : Int) (w_Way : Int) (t6_Rule : ByteArray) (t6_Width : Int) (t6_Height : Int) (t6_Clues : List (Int × (Int × Int))) (next_0 : Int) (p_Rule : ByteArray) (p_Width : Int) (p_Height : Int) (p_Clues : List (Int × (Int × Int))) (t33 : Int) (t34 : Int) : impl_MakePuzzle_l (k + 1) ((w_Rule, w_Width, w_Height, w_Cells, w_X, w_Y, w_Way), (t6_Rule, t6_Width, t6_Height, t6_Clues), next_0, (p_Rule, p_Width, p_Height, p_Clues), t33, t34) =
  cond (decide (t34 < t33))
  ((impl_MakePuzzle_1 k next_0).bind fun r1 =>
   cond ((r1.1.tmod 5) == 0)
   ((impl_MakePuzzle_1 k r1.2).bind fun r2 =>
    cond ((w_Cells.size : Int) != 0)
    (cond ((r1.1.tmod 5) == 4)
     ((impl_told k (4, 0, (w_Rule, w_Width, w_Height, w_Cells, w_X, w_Y, w_Way))).bind fun r3 =>
      cond (fits (p_Clues.length + 1) 24)
      (impl_MakePuzzle_l k ((w_Rule, w_Width, w_Height, w_Cells, w_X, w_Y, w_Way), (t6_Rule, t6_Width, t6_Height, t6_Clues), r2.2, (p_Rule, p_Width, p_Height, (p_Clues ++ [((r1.1.tmod 5), (r3, 0))])), t33, (w64 (t34 + 1))))
      (none))
     ((impl_told k ((r1.1.tmod 5), (r2.1.tmod (w_Cells.size : Int)), (w_Rule, w_Width, w_Height, w_Cells, w_X, w_Y, w_Way))).bind fun r4 =>
      cond (fits (p_Clues.length + 1) 24)
      (impl_MakePuzzle_l k ((w_Rule, w_Width, w_Height, w_Cells, w_X, w_Y, w_Way), (t6_Rule, t6_Width, t6_Height, t6_Clues), r2.2, (p_Rule, p_Width, p_Height, (p_Clues ++ [((r1.1.tmod 5), ((r2.1.tmod (w_Cells.size : Int)), r4))])), t33, (w64 (t34 + 1))))
      (none)))
    (none))
   (cond ((r1.1.tmod 5) == 1)
    ((impl_MakePuzzle_1 k r1.2).bind fun r5 =>
     cond ((r1.1.tmod 5) == 4)
     ((impl_told k (4, 0, (w_Rule, w_Width, w_Height, w_Cells, w_X, w_Y, w_Way))).bind fun r6 =>
      cond (fits (p_Clues.length + 1) 24)
      (impl_MakePuzzle_l k ((w_Rule, w_Width, w_Height, w_Cells, w_X, w_Y, w_Way), (t6_Rule, t6_Width, t6_Height, t6_Clues), r5.2, (p_Rule, p_Width, p_Height, (p_Clues ++ [((r1.1.tmod 5), (r6, 0))])), t33, (w64 (t34 + 1))))
      (none))
     ((impl_told k ((r1.1.tmod 5), (r5.1.tmod 51), (w_Rule, w_Width, w_Height, w_Cells, w_X, w_Y, w_Way))).bind fun r7 =>
      cond (fits (p_Clues.length + 1) 24)
      (impl_MakePuzzle_l k ((w_Rule, w_Width, w_Height, w_Cells, w_X, w_Y, w_Way), (t6_Rule, t6_Width, t6_Height, t6_Clues), r5.2, (p_Rule, p_Width, p_Height, (p_Clues ++ [((r1.1.tmod 5), ((r5.1.tmod 51), r7))])), t33, (w64 (t34 + 1))))
      (none)))
    (cond ((r1.1.tmod 5) == 2)
     ((impl_MakePuzzle_1 k r1.2).bind fun r8 =>
      cond ((r1.1.tmod 5) == 4)
      ((impl_told k (4, 0, (w_Rule, w_Width, w_Height, w_Cells, w_X, w_Y, w_Way))).bind fun r9 =>
       cond (fits (p_Clues.length + 1) 24)
       (impl_MakePuzzle_l k ((w_Rule, w_Width, w_Height, w_Cells, w_X, w_Y, w_Way), (t6_Rule, t6_Width, t6_Height, t6_Clues), r8.2, (p_Rule, p_Width, p_Height, (p_Clues ++ [((r1.1.tmod 5), (r9, 0))])), t33, (w64 (t34 + 1))))
       (none))
      ((impl_told k ((r1.1.tmod 5), (r8.1.tmod 51), (w_Rule, w_Width, w_Height, w_Cells, w_X, w_Y, w_Way))).bind fun r10 =>
       cond (fits (p_Clues.length + 1) 24)
       (impl_MakePuzzle_l k ((w_Rule, w_Width, w_Height, w_Cells, w_X, w_Y, w_Way), (t6_Rule, t6_Width, t6_Height, t6_Clues), r8.2, (p_Rule, p_Width, p_Height, (p_Clues ++ [((r1.1.tmod 5), ((r8.1.tmod 51), r10))])), t33, (w64 (t34 + 1))))
       (none)))
     (cond ((r1.1.tmod 5) == 3)
      ((impl_MakePuzzle_1 k r1.2).bind fun r11 =>
       cond ((r1.1.tmod 5) == 4)
       ((impl_told k (4, 0, (w_Rule, w_Width, w_Height, w_Cells, w_X, w_Y, w_Way))).bind fun r12 =>
        cond (fits (p_Clues.length + 1) 24)
        (impl_MakePuzzle_l k ((w_Rule, w_Width, w_Height, w_Cells, w_X, w_Y, w_Way), (t6_Rule, t6_Width, t6_Height, t6_Clues), r11.2, (p_Rule, p_Width, p_Height, (p_Clues ++ [((r1.1.tmod 5), (r12, 0))])), t33, (w64 (t34 + 1))))
        (none))
       ((impl_told k ((r1.1.tmod 5), (r11.1.tmod 51), (w_Rule, w_Width, w_Height, w_Cells, w_X, w_Y, w_Way))).bind fun r13 =>
        cond (fits (p_Clues.length + 1) 24)
        (impl_MakePuzzle_l k ((w_Rule, w_Width, w_Height, w_Cells, w_X, w_Y, w_Way), (t6_Rule, t6_Width, t6_Height, t6_Clues), r11.2, (p_Rule, p_Width, p_Height, (p_Clues ++ [((r1.1.tmod 5), ((r11.1.tmod 51), r13))])), t33, (w64 (t34 + 1))))
        (none)))
      (cond ((r1.1.tmod 5) == 4)
       ((impl_told k (4, 0, (w_Rule, w_Width, w_Height, w_Cells, w_X, w_Y, w_Way))).bind fun r14 =>
        cond (fits (p_Clues.length + 1) 24)
        (impl_MakePuzzle_l k ((w_Rule, w_Width, w_Height, w_Cells, w_X, w_Y, w_Way), (t6_Rule, t6_Width, t6_Height, t6_Clues), r1.2, (p_Rule, p_Width, p_Height, (p_Clues ++ [((r1.1.tmod 5), (r14, 0))])), t33, (w64 (t34 + 1))))
        (none))
       ((impl_told k ((r1.1.tmod 5), 0, (w_Rule, w_Width, w_Height, w_Cells, w_X, w_Y, w_Way))).bind fun r15 =>
        cond (fits (p_Clues.length + 1) 24)
        (impl_MakePuzzle_l k ((w_Rule, w_Width, w_Height, w_Cells, w_X, w_Y, w_Way), (t6_Rule, t6_Width, t6_Height, t6_Clues), r1.2, (p_Rule, p_Width, p_Height, (p_Clues ++ [((r1.1.tmod 5), (0, r15))])), t33, (w64 (t34 + 1))))
        (none)))))))
  (some ((t6_Rule, t6_Width, t6_Height, t6_Clues), (p_Rule, p_Width, p_Height, p_Clues))) := by kernel_rfl
theorem impl_MakePuzzle_1.eq (k : Nat) (t0_0 : Int) : impl_MakePuzzle_1 (k + 1) t0_0 =
  some (((w64 ((w64 (t0_0 * 151)) + 2083)).tmod 10007), ((w64 ((w64 (t0_0 * 151)) + 2083)).tmod 10007)) := by kernel_rfl
theorem impl_told.eq (k : Nat) (kind : Int) (a : Int) (w_Rule : ByteArray) (w_Width : Int) (w_Height : Int) (w_Cells : ByteArray) (w_X : Int) (w_Y : Int) (w_Way : Int) : impl_told (k + 1) (kind, a, (w_Rule, w_Width, w_Height, w_Cells, w_X, w_Y, w_Way)) =
  cond (kind == 0)
  (cond (inB a w_Cells.size)
   (some (w64 (w8 ((bt w_Cells a.toNat) - 48))))
   (none))
  (cond (kind == 4)
   ((impl_told_l k (0, (bytesOf w_Cells), ((bytesOf w_Cells).length : Int), 0)).bind fun r1 =>
    some r1)
   ((impl_told_l_2 k (kind, (w_Rule, w_Width, w_Height, w_Cells, w_X, w_Y, w_Way), a, 0)).bind fun r2 =>
    cond (r2.1 == 1)
    ((impl_World_at k r2.2).bind fun r3 =>
     some r3)
    (cond (r2.1 == 2)
     (some r2.2.2.2.2.2.2.2)
     ((strings_Count k (r2.2.2.2.2.1, (bs [48]))).bind fun r4 =>
      some r4)))) := by kernel_rfl
theorem impl_told_l.eq (k : Nat) (all : Int) (t23 : List Int) (t24 : Int) (t25 : Int) : impl_told_l (k + 1) (all, t23, t24, t25) =
  cond (decide (t25 < t24))
  (cond (inB t25 t23.length)
   (impl_told_l k ((w64 (all + (w64 (w8 ((t23.getD t25.toNat default) - 48))))), t23, t24, (w64 (t25 + 1))))
   (none))
  (some all) := by kernel_rfl
theorem impl_told_l_2.eq (k : Nat) (kind : Int) (w_Rule : ByteArray) (w_Width : Int) (w_Height : Int) (w_Cells : ByteArray) (w_X : Int) (w_Y : Int) (w_Way : Int) (t36 : Int) (t37 : Int) : impl_told_l_2 (k + 1) (kind, (w_Rule, w_Width, w_Height, w_Cells, w_X, w_Y, w_Way), t36, t37) =
  cond (decide (t37 < t36))
  ((impl_World_step k (w_Rule, w_Width, w_Height, w_Cells, w_X, w_Y, w_Way)).bind fun r1 =>
   impl_told_l_2 k (kind, r1, t36, (w64 (t37 + 1))))
  (some (kind, (w_Rule, w_Width, w_Height, w_Cells, w_X, w_Y, w_Way))) := by kernel_rfl
theorem impl_World_step.eq (k : Nat) (w_Rule : ByteArray) (w_Width : Int) (w_Height : Int) (w_Cells : ByteArray) (w_X : Int) (w_Y : Int) (w_Way : Int) : impl_World_step (k + 1) (w_Rule, w_Width, w_Height, w_Cells, w_X, w_Y, w_Way) =
  (impl_World_colour k (w_Rule, w_Width, w_Height, w_Cells, w_X, w_Y, w_Way)).bind fun r1 =>
  cond (inB r1 w_Rule.size)
  ((impl_quarters k (bt w_Rule r1.toNat)).bind fun r2 =>
   (impl_World_at k (w_Rule, w_Width, w_Height, w_Cells, w_X, w_Y, ((w64 (w_Way + r2)).tmod 4))).bind fun r3 =>
   cond ((w_Rule.size : Int) != 0)
   ((impl_painted k (w_Cells, r3, ((w64 (r1 + 1)).tmod (w_Rule.size : Int)))).bind fun r4 =>
    (impl_World_gone k ((w_Rule, w_Width, w_Height, r4, w_X, w_Y, ((w64 (w_Way + r2)).tmod 4)), 1)).bind fun r5 =>
    some r5)
   (none))
  (none) := by kernel_rfl
theorem impl_World_colour.eq (k : Nat) (w_Rule : ByteArray) (w_Width : Int) (w_Height : Int) (w_Cells : ByteArray) (w_X : Int) (w_Y : Int) (w_Way : Int) : impl_World_colour (k + 1) (w_Rule, w_Width, w_Height, w_Cells, w_X, w_Y, w_Way) =
  (impl_World_at k (w_Rule, w_Width, w_Height, w_Cells, w_X, w_Y, w_Way)).bind fun r1 =>
  cond (inB r1 w_Cells.size)
  (some (w64 (w8 ((bt w_Cells r1.toNat) - 48))))
  (none) := by kernel_rfl
theorem impl_quarters.eq (k : Nat) (sign : Int) : impl_quarters (k + 1) sign =
  cond (sign == 76)
  (some 3)
  (cond (sign == 82)
   (some 1)
   (cond (sign == 85)
    (some 2)
    (some 0))) := by kernel_rfl
theorem impl_painted.eq (k : Nat) (cells : ByteArray) (k_ : Int) (tint : Int) : impl_painted (k + 1) (cells, k_, tint) =
  cond (inB k_ ((bytesOf cells).length))
  (some (ofBytes ((bytesOf cells).set k_.toNat (w8 (w64 (48 + tint))))))
  (none) := by kernel_rfl
theorem impl_World_gone.eq (k : Nat) (w_Rule : ByteArray) (w_Width : Int) (w_Height : Int) (w_Cells : ByteArray) (w_X : Int) (w_Y : Int) (w_Way : Int) (by_ : Int) : impl_World_gone (k + 1) ((w_Rule, w_Width, w_Height, w_Cells, w_X, w_Y, w_Way), by_) =
  (impl_ahead k w_Way).bind fun r1 =>
  cond (w_Width != 0)
  (cond (w_Height != 0)
   (some (w_Rule, w_Width, w_Height, w_Cells, ((w64 ((w64 (w_X + (w64 (by_ * r1.1)))) + w_Width)).tmod w_Width), ((w64 ((w64 (w_Y + (w64 (by_ * r1.2)))) + w_Height)).tmod w_Height), w_Way))
   (none))
  (none) := by kernel_rfl
theorem impl_ahead.eq (k : Nat) (way : Int) : impl_ahead (k + 1) way =
  cond (inB way 4)
  (cond (inB way 4)
   (some ((([0, 1, 0, (-1)] : List Int).getD way.toNat default), (([(-1), 0, 1, 0] : List Int).getD way.toNat default)))
   (none))
  (none) := by kernel_rfl
theorem strings_Count.eq (k : Nat) (d : ByteArray × ByteArray) : strings_Count (k + 1) d = (fun d => strCount1 d.1 d.2) d := by kernel_rfl
theorem laws_eqPuzzle.eq (k : Nat) (a_Rule : ByteArray) (a_Width : Int) (a_Height : Int) (a_Clues : List (Int × (Int × Int))) (b_Rule : ByteArray) (b_Width : Int) (b_Height : Int) (b_Clues : List (Int × (Int × Int))) : laws_eqPuzzle (k + 1) ((a_Rule, a_Width, a_Height, a_Clues), (b_Rule, b_Width, b_Height, b_Clues)) =
  cond (!(strEq a_Rule b_Rule))
  (some false)
  (cond (a_Width != b_Width)
   (some false)
   (cond (a_Height != b_Height)
    (some false)
    ((laws_eqClueS k (a_Clues, b_Clues)).bind fun r1 =>
     cond (!r1)
     (some false)
     (some true)))) := by kernel_rfl
theorem laws_eqClueS.eq (k : Nat) (a : List (Int × (Int × Int))) (b : List (Int × (Int × Int))) : laws_eqClueS (k + 1) (a, b) =
  cond ((a.length : Int) != (b.length : Int))
  (some false)
  ((laws_eqClueS_l k (a, b, 0)).bind fun r1 =>
   r1.elim
   (fun r2 => some r2)
   (fun r3 => some true)) := by kernel_rfl
theorem laws_eqClueS_l.eq (k : Nat) (a : List (Int × (Int × Int))) (b : List (Int × (Int × Int))) (i : Int) : laws_eqClueS_l (k + 1) (a, b, i) =
  cond (decide (i < (a.length : Int)))
  (cond (inB i a.length)
   (cond (inB i b.length)
    ((laws_eqClue k ((a.getD i.toNat default), (b.getD i.toNat default))).bind fun r1 =>
     cond (!r1)
     (some (.inl false))
     (laws_eqClueS_l k (a, b, (w64 (i + 1)))))
    (none))
   (none))
  (some (.inr ())) := by kernel_rfl
theorem laws_eqClue.eq (k : Nat) (a_Kind : Int) (a_A : Int) (a_B : Int) (b_Kind : Int) (b_A : Int) (b_B : Int) : laws_eqClue (k + 1) ((a_Kind, a_A, a_B), (b_Kind, b_A, b_B)) =
  cond (a_Kind != b_Kind)
  (some false)
  (cond (a_A != b_A)
   (some false)
   (cond (a_B != b_B)
    (some false)
    (some true))) := by kernel_rfl
theorem laws_markPuzzle.eq (k : Nat) (a_Rule : ByteArray) (a_Width : Int) (a_Height : Int) (a_Clues : List (Int × (Int × Int))) (k_ : Int) : laws_markPuzzle (k + 1) ((a_Rule, a_Width, a_Height, a_Clues), k_) =
  (laws_markClueS k (a_Clues, k_)).bind fun r1 =>
  some (r1.1, (a_Rule, a_Width, a_Height, r1.2)) := by kernel_rfl
theorem laws_markClueS.eq (k : Nat) (a : List (Int × (Int × Int))) (k_ : Int) : laws_markClueS (k + 1) (a, k_) =
  (laws_markClueS_l k (a, k_, 0, ())).bind fun r1 =>
  some r1 := by kernel_rfl
theorem laws_markClueS_l.eq (k : Nat) (a : List (Int × (Int × Int))) (k_ : Int) (i : Int) : laws_markClueS_l (k + 1) (a, k_, i, ()) =
  cond (decide (i < (a.length : Int)))
  (cond (inB i a.length)
   (cond (inB i ((a.set i.toNat (k_, (a.getD i.toNat default).2)).length))
    (cond (inB i (((a.set i.toNat (k_, (a.getD i.toNat default).2)).set i.toNat (((a.set i.toNat (k_, (a.getD i.toNat default).2)).getD i.toNat default).1, ((w64 (k_ + 1)), ((a.set i.toNat (k_, (a.getD i.toNat default).2)).getD i.toNat default).2.2))).length))
     (laws_markClueS_l k ((((a.set i.toNat (k_, (a.getD i.toNat default).2)).set i.toNat (((a.set i.toNat (k_, (a.getD i.toNat default).2)).getD i.toNat default).1, ((w64 (k_ + 1)), ((a.set i.toNat (k_, (a.getD i.toNat default).2)).getD i.toNat default).2.2))).set i.toNat ((((a.set i.toNat (k_, (a.getD i.toNat default).2)).set i.toNat (((a.set i.toNat (k_, (a.getD i.toNat default).2)).getD i.toNat default).1, ((w64 (k_ + 1)), ((a.set i.toNat (k_, (a.getD i.toNat default).2)).getD i.toNat default).2.2))).getD i.toNat default).1, ((((a.set i.toNat (k_, (a.getD i.toNat default).2)).set i.toNat (((a.set i.toNat (k_, (a.getD i.toNat default).2)).getD i.toNat default).1, ((w64 (k_ + 1)), ((a.set i.toNat (k_, (a.getD i.toNat default).2)).getD i.toNat default).2.2))).getD i.toNat default).2.1, (w64 ((w64 (k_ + 1)) + 1))))), (w64 ((w64 ((w64 (k_ + 1)) + 1)) + 1)), (w64 (i + 1)), ()))
     (none))
    (none))
   (none))
  (some (k_, a)) := by kernel_rfl
theorem laws_heldPuzzle.eq (k : Nat) (a_Rule : ByteArray) (a_Width : Int) (a_Height : Int) (a_Clues : List (Int × (Int × Int))) (k_ : Int) : laws_heldPuzzle (k + 1) ((a_Rule, a_Width, a_Height, a_Clues), k_) =
  (laws_heldClueS k (a_Clues, k_)).bind fun r1 =>
  cond (decide (r1 < 0))
  (some (-1))
  (some r1) := by kernel_rfl
theorem laws_heldClueS.eq (k : Nat) (a : List (Int × (Int × Int))) (k_ : Int) : laws_heldClueS (k + 1) (a, k_) =
  (laws_heldClueS_l k (a, k_, 0)).bind fun r1 =>
  r1.elim
  (fun r2 => some r2)
  (fun r3 => some r3) := by kernel_rfl
theorem laws_heldClueS_l.eq (k : Nat) (a : List (Int × (Int × Int))) (k_ : Int) (i : Int) : laws_heldClueS_l (k + 1) (a, k_, i) =
  cond (decide (i < (a.length : Int)))
  (cond (inB i a.length)
   (cond ((a.getD i.toNat default).1 != k_)
    (some (.inl (-1)))
    (cond (inB i a.length)
     (cond ((a.getD i.toNat default).2.1 != (w64 (k_ + 1)))
      (some (.inl (-1)))
      (cond (inB i a.length)
       (cond ((a.getD i.toNat default).2.2 != (w64 ((w64 (k_ + 1)) + 1)))
        (some (.inl (-1)))
        (laws_heldClueS_l k (a, (w64 ((w64 ((w64 (k_ + 1)) + 1)) + 1)), (w64 (i + 1)))))
       (none)))
     (none)))
   (none))
  (some (.inr k_)) := by kernel_rfl
end Go.Proofs.YtodmlhpobebdgaaDoorS
