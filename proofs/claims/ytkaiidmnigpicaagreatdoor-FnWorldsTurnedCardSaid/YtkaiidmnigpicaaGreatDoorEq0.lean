/- What each function computes (printed by wip/sim/gen.py). -/
import Derived.Test.YtkaiidmnigpicaaGreatDoorTab
namespace Go.Proofs.YtkaiidmnigpicaaGreatDoorS
open Go Go.Proofs
set_option maxRecDepth 100000
set_option linter.unusedVariables false
theorem laws_FnWorldsTurned.eq (k : Nat) (code : List Int) (more : List Int) : laws_FnWorldsTurned (k + 1) (code, more) =
  (laws_big k (code, more)).bind fun r1 =>
  cond r1
  (some true)
  ((spec_DrawTurnWorld k code).bind fun r2 =>
   (impl_TurnWorld k r2).bind fun r3 =>
   (spec_TurnWorld k r2).bind fun r4 =>
   (impl_MirrorWorld k r2).bind fun r5 =>
   (spec_MirrorWorld k r2).bind fun r6 =>
   (impl_BackWorld k r2).bind fun r7 =>
   (spec_BackWorld k r2).bind fun r8 =>
   (impl_WorldText k r2).bind fun r9 =>
   (spec_WorldText k r2).bind fun r10 =>
   cond (!(r3.2 == r4.2))
   (some false)
   (cond (!((r3.1.1 == r4.1.1) && ((r3.1.2.1 == r4.1.2.1) && ((r3.1.2.2.1 == r4.1.2.2.1) && ((r3.1.2.2.2.1 == r4.1.2.2.2.1) && ((r3.1.2.2.2.2.1 == r4.1.2.2.2.2.1) && ((r3.1.2.2.2.2.2.1 == r4.1.2.2.2.2.2.1) && ((r3.1.2.2.2.2.2.2 == r4.1.2.2.2.2.2.2) && true))))))))
    (some false)
    (cond (!(r5.2 == r6.2))
     (some false)
     (cond (!((r5.1.1 == r6.1.1) && ((r5.1.2.1 == r6.1.2.1) && ((r5.1.2.2.1 == r6.1.2.2.1) && ((r5.1.2.2.2.1 == r6.1.2.2.2.1) && ((r5.1.2.2.2.2.1 == r6.1.2.2.2.2.1) && ((r5.1.2.2.2.2.2.1 == r6.1.2.2.2.2.2.1) && ((r5.1.2.2.2.2.2.2 == r6.1.2.2.2.2.2.2) && true))))))))
      (some false)
      (cond (!(r7.2 == r8.2))
       (some false)
       (cond (!((r7.1.1 == r8.1.1) && ((r7.1.2.1 == r8.1.2.1) && ((r7.1.2.2.1 == r8.1.2.2.1) && ((r7.1.2.2.2.1 == r8.1.2.2.2.1) && ((r7.1.2.2.2.2.1 == r8.1.2.2.2.2.1) && ((r7.1.2.2.2.2.2.1 == r8.1.2.2.2.2.2.1) && ((r7.1.2.2.2.2.2.2 == r8.1.2.2.2.2.2.2) && true))))))))
        (some false)
        (cond (!(r9.2 == r10.2))
         (some false)
         (cond (!(strEq r9.1 r10.1))
          (some false)
          (cond (!(r5.2 == r3.2))
           (some false)
           (cond (!(r7.2 == r3.2))
            (some false)
            (cond (!(r9.2 == r3.2))
             (some false)
             ((impl_IsWorld k r2).bind fun r11 =>
              cond (!(r3.2 == r11))
              (some false)
              ((laws_FnWorldsTurned_c k (more, r2, r3.1, r3.2, r5.1, r7.1, r9.1)).bind fun r12 =>
               some r12))))))))))))) := by kernel_rfl
theorem laws_big.eq (k : Nat) (code : List Int) (more : List Int) : laws_big (k + 1) (code, more) =
  cond (decide ((code.length : Int) > 1048576))
  (some true)
  (some (decide ((more.length : Int) > (w64 (1048576 - (code.length : Int)))))) := by kernel_rfl
theorem spec_DrawTurnWorld.eq (k : Nat) (code : List Int) : spec_DrawTurnWorld (k + 1) code =
  (spec_DrawIsWorld k code).bind fun r1 =>
  some r1 := by kernel_rfl
theorem spec_DrawIsWorld.eq (k : Nat) (code : List Int) : spec_DrawIsWorld (k + 1) code =
  (spec_l1Cur_world k (code, 0, 0)).bind fun r1 =>
  some r1.1 := by kernel_rfl
theorem spec_l1Cur_world.eq (k : Nat) (c_code : List Int) (c_at : Int) (c_seed : Int) : spec_l1Cur_world (k + 1) (c_code, c_at, c_seed) =
  (spec_l1Cur_sureWorld k ((c_code, c_at, c_seed), 5)).bind fun r1 =>
  (spec_l1Cur_pick k (r1.2, 18)).bind fun r2 =>
  cond (r2.1 == 0)
  ((spec_l1Cur_rule k r2.2).bind fun r3 =>
   some ((r3.1, r1.1.2.1, r1.1.2.2.1, r1.1.2.2.2.1, r1.1.2.2.2.2.1, r1.1.2.2.2.2.2.1, r1.1.2.2.2.2.2.2), r3.2))
  (cond (r2.1 == 1)
   ((spec_l1Cur_among k (r2.2, [0, 1, 10, (-1), 4611686018427387904])).bind fun r4 =>
    some ((r1.1.1, r4.1, r1.1.2.2.1, r1.1.2.2.2.1, r1.1.2.2.2.2.1, r1.1.2.2.2.2.2.1, r1.1.2.2.2.2.2.2), r4.2))
   (cond (r2.1 == 2)
    ((spec_l1Cur_of k (r2.2, [(bs [48]), ByteArray.empty, (bs [55])])).bind fun r5 =>
     cond (fitS r1.1.2.2.2.1 r5.1)
     (some ((r1.1.1, r1.1.2.1, r1.1.2.2.1, (r1.1.2.2.2.1 ++ r5.1), r1.1.2.2.2.2.1, r1.1.2.2.2.2.2.1, r1.1.2.2.2.2.2.2), r5.2))
     (none))
    (cond (r2.1 == 3)
     ((spec_l1Cur_among k (r2.2, [(-1), 0, 9, 4611686018427387904])).bind fun r6 =>
      (spec_l1Cur_among k (r6.2, [0, 4, (-1), 3])).bind fun r7 =>
      some ((r1.1.1, r1.1.2.1, r1.1.2.2.1, r1.1.2.2.2.1, r6.1, r1.1.2.2.2.2.2.1, r7.1), r7.2))
     (some (r1.1, r2.2))))) := by kernel_rfl
theorem spec_l1Cur_sureWorld.eq (k : Nat) (c_code : List Int) (c_at : Int) (c_seed : Int) (most : Int) : spec_l1Cur_sureWorld (k + 1) ((c_code, c_at, c_seed), most) =
  (spec_l1Cur_sureRule k (c_code, c_at, c_seed)).bind fun r1 =>
  (spec_l1Cur_pick k (r1.2, most)).bind fun r2 =>
  (spec_l1Cur_pick k (r2.2, most)).bind fun r3 =>
  (spec_l1Cur_one k (r3.2, 2)).bind fun r4 =>
  (spec_l1Cur_sureWorld_l k (r4.2, (ByteArray.empty, 0, 0, ByteArray.empty, 0, 0, 0), (r1.1, (w64 (1 + r2.1)), (w64 (1 + r3.1)), ByteArray.empty, 0, 0, 0), r4.1, (w64 ((w64 (1 + r2.1)) * (w64 (1 + r3.1)))), ())).bind fun r5 =>
  (spec_l1Cur_pick k (r5.1, r5.2.2.1.2.1)).bind fun r6 =>
  (spec_l1Cur_pick k (r6.2, r5.2.2.1.2.2.1)).bind fun r7 =>
  (spec_l1Cur_pick k (r7.2, 4)).bind fun r8 =>
  some ((r5.2.2.1.1, r5.2.2.1.2.1, r5.2.2.1.2.2.1, r5.2.2.1.2.2.2.1, r6.1, r7.1, r8.1), r8.2) := by kernel_rfl
theorem spec_l1Cur_sureRule.eq (k : Nat) (c_code : List Int) (c_at : Int) (c_seed : Int) : spec_l1Cur_sureRule (k + 1) (c_code, c_at, c_seed) =
  (spec_l1Cur_one k ((c_code, c_at, c_seed), 3)).bind fun r1 =>
  cond r1.1
  (some ((bs [76, 82]), r1.2))
  ((spec_l1Cur_pick k (r1.2, 4)).bind fun r2 =>
   (spec_l1Cur_sureRule_l k (r2.2, ByteArray.empty, (w64 (1 + r2.1)), ())).bind fun r3 =>
   some r3) := by kernel_rfl
theorem spec_l1Cur_one.eq (k : Nat) (c_code : List Int) (c_at : Int) (c_seed : Int) (n : Int) : spec_l1Cur_one (k + 1) ((c_code, c_at, c_seed), n) =
  (spec_l1Cur_pick k ((c_code, c_at, c_seed), n)).bind fun r1 =>
  some ((r1.1 == 0), r1.2) := by kernel_rfl
theorem spec_l1Cur_pick.eq (k : Nat) (c_code : List Int) (c_at : Int) (c_seed : Int) (n : Int) : spec_l1Cur_pick (k + 1) ((c_code, c_at, c_seed), n) =
  cond (decide (n ≤ 1))
  (some (0, (c_code, c_at, c_seed)))
  ((spec_l1Cur_next k (c_code, c_at, c_seed)).bind fun r1 =>
   cond (decide (n > 200))
   ((spec_l1Cur_next k r1.2).bind fun r2 =>
    cond (n != 0)
    (some (((w64 ((w64 (r1.1 * 256)) + r2.1)).tmod n), r2.2))
    (none))
   (cond (n != 0)
    (some ((r1.1.tmod n), r1.2))
    (none))) := by kernel_rfl
theorem spec_l1Cur_next.eq (k : Nat) (c_code : List Int) (c_at : Int) (c_seed : Int) : spec_l1Cur_next (k + 1) (c_code, c_at, c_seed) =
  cond (decide (c_at < (c_code.length : Int)))
  (cond (inB c_at c_code.length)
   (cond (decide ((w64 (c_at + 1)) ≤ (c_code.length : Int)))
    (some ((w64 (c_code.getD c_at.toNat default)), (c_code, (w64 (c_at + 1)), (IntKind.u64.wrap ((IntKind.u64.wrap ((IntKind.u64.wrap (c_seed * 6364136223846793005)) + (IntKind.u64.wrap (w64 (c_code.getD c_at.toNat default))))) + 1442695040888963407)))))
    (some ((w64 (andI .u64 (shrI .u64 (IntKind.u64.wrap ((IntKind.u64.wrap ((IntKind.u64.wrap (c_seed * 6364136223846793005)) + (IntKind.u64.wrap (w64 (c_code.getD c_at.toNat default))))) + 1442695040888963407)) 40) 255)), (c_code, (w64 (c_at + 1)), (IntKind.u64.wrap ((IntKind.u64.wrap ((IntKind.u64.wrap (c_seed * 6364136223846793005)) + (IntKind.u64.wrap (w64 (c_code.getD c_at.toNat default))))) + 1442695040888963407))))))
   (none))
  (cond (decide ((w64 (c_at + 1)) ≤ (c_code.length : Int)))
   (some (0, (c_code, (w64 (c_at + 1)), (IntKind.u64.wrap ((IntKind.u64.wrap ((IntKind.u64.wrap (c_seed * 6364136223846793005)) + 0)) + 1442695040888963407)))))
   (some ((w64 (andI .u64 (shrI .u64 (IntKind.u64.wrap ((IntKind.u64.wrap ((IntKind.u64.wrap (c_seed * 6364136223846793005)) + 0)) + 1442695040888963407)) 40) 255)), (c_code, (w64 (c_at + 1)), (IntKind.u64.wrap ((IntKind.u64.wrap ((IntKind.u64.wrap (c_seed * 6364136223846793005)) + 0)) + 1442695040888963407)))))) := by kernel_rfl
theorem spec_l1Cur_sureRule_l.eq (k : Nat) (c_code : List Int) (c_at : Int) (c_seed : Int) (out : ByteArray) (k_ : Int) : spec_l1Cur_sureRule_l (k + 1) ((c_code, c_at, c_seed), out, k_, ()) =
  cond (decide (k_ > 0))
  ((spec_l1Cur_of k ((c_code, c_at, c_seed), [(bs [76]), (bs [82]), (bs [76]), (bs [82]), (bs [78]), (bs [85])])).bind fun r1 =>
   cond (fitS out r1.1)
   (spec_l1Cur_sureRule_l k (r1.2, (out ++ r1.1), (w64 (k_ - 1)), ()))
   (none))
  (some (out, (c_code, c_at, c_seed))) := by kernel_rfl
theorem spec_l1Cur_of.eq (k : Nat) (c_code : List Int) (c_at : Int) (c_seed : Int) (list : List ByteArray) : spec_l1Cur_of (k + 1) ((c_code, c_at, c_seed), list) =
  (spec_l1Cur_pick k ((c_code, c_at, c_seed), (list.length : Int))).bind fun r1 =>
  cond (inB r1.1 list.length)
  (some ((list.getD r1.1.toNat default), r1.2))
  (none) := by kernel_rfl
theorem spec_l1Cur_sureWorld_l.eq (k : Nat) (c_code : List Int) (c_at : Int) (c_seed : Int) (t4_Rule : ByteArray) (t4_Width : Int) (t4_Height : Int) (t4_Cells : ByteArray) (t4_X : Int) (t4_Y : Int) (t4_Way : Int) (w_Rule : ByteArray) (w_Width : Int) (w_Height : Int) (w_Cells : ByteArray) (w_X : Int) (w_Y : Int) (w_Way : Int) (blank : Bool) (k_ : Int) : spec_l1Cur_sureWorld_l (k + 1) ((c_code, c_at, c_seed), (t4_Rule, t4_Width, t4_Height, t4_Cells, t4_X, t4_Y, t4_Way), (w_Rule, w_Width, w_Height, w_Cells, w_X, w_Y, w_Way), blank, k_, ()) =
  cond (decide (k_ > 0))
  (cond blank
   (cond (fitS w_Cells (bs [48]))
    (spec_l1Cur_sureWorld_l k ((c_code, c_at, c_seed), (t4_Rule, t4_Width, t4_Height, t4_Cells, t4_X, t4_Y, t4_Way), (w_Rule, w_Width, w_Height, (w_Cells ++ (bs [48])), w_X, w_Y, w_Way), blank, (w64 (k_ - 1)), ()))
    (none))
   ((spec_l1Cur_pick k ((c_code, c_at, c_seed), (w_Rule.size : Int))).bind fun r1 =>
    (spec_l1Num k r1.1).bind fun r2 =>
    cond (fitS w_Cells r2)
    (spec_l1Cur_sureWorld_l k (r1.2, (t4_Rule, t4_Width, t4_Height, t4_Cells, t4_X, t4_Y, t4_Way), (w_Rule, w_Width, w_Height, (w_Cells ++ r2), w_X, w_Y, w_Way), blank, (w64 (k_ - 1)), ()))
    (none)))
  (some ((c_code, c_at, c_seed), (t4_Rule, t4_Width, t4_Height, t4_Cells, t4_X, t4_Y, t4_Way), (w_Rule, w_Width, w_Height, w_Cells, w_X, w_Y, w_Way), ())) := by kernel_rfl
theorem spec_l1Num.eq (k : Nat) (n : Int) : spec_l1Num (k + 1) n =
  cond (decide (n < 10))
  (some (ofBytes [(w8 (w64 (48 + n)))]))
  ((spec_l1Num k (w64 (n.tdiv 10))).bind fun r1 =>
   cond (fitS r1 (ofBytes [(w8 (w64 (48 + (n.tmod 10))))]))
   (some (r1 ++ (ofBytes [(w8 (w64 (48 + (n.tmod 10))))])))
   (none)) := by kernel_rfl
theorem spec_l1Cur_rule.eq (k : Nat) (c_code : List Int) (c_at : Int) (c_seed : Int) : spec_l1Cur_rule (k + 1) (c_code, c_at, c_seed) =
  (spec_l1Cur_one k ((c_code, c_at, c_seed), 12)).bind fun r1 =>
  cond r1.1
  ((spec_l1Cur_of k (r1.2, [ByteArray.empty, (bs [76, 82, 76, 82, 76, 82, 76]), (bs [88]), (bs [108, 114]), (bs [76, 32, 82])])).bind fun r2 =>
   some r2)
  ((spec_l1Cur_sureRule k r1.2).bind fun r3 =>
   some r3) := by kernel_rfl
theorem spec_l1Cur_among.eq (k : Nat) (c_code : List Int) (c_at : Int) (c_seed : Int) (list : List Int) : spec_l1Cur_among (k + 1) ((c_code, c_at, c_seed), list) =
  (spec_l1Cur_pick k ((c_code, c_at, c_seed), (list.length : Int))).bind fun r1 =>
  cond (inB r1.1 list.length)
  (some ((list.getD r1.1.toNat default), r1.2))
  (none) := by kernel_rfl
theorem impl_TurnWorld.eq (k : Nat) (w_Rule : ByteArray) (w_Width : Int) (w_Height : Int) (w_Cells : ByteArray) (w_X : Int) (w_Y : Int) (w_Way : Int) : impl_TurnWorld (k + 1) (w_Rule, w_Width, w_Height, w_Cells, w_X, w_Y, w_Way) =
  (impl_IsWorld k (w_Rule, w_Width, w_Height, w_Cells, w_X, w_Y, w_Way)).bind fun r1 =>
  cond (!r1)
  (some ((ByteArray.empty, 0, 0, ByteArray.empty, 0, 0, 0), false))
  ((impl_moved k (w_Cells, w_Width, w_Height, w_Width, w_Height)).bind fun r2 =>
   (impl_TurnWorld_1 k (w_X, w_Y, w_Height)).bind fun r3 =>
   some ((w_Rule, w_Height, w_Width, r2, r3.1, r3.2, ((w64 (w_Way + 1)).tmod 4)), true)) := by kernel_rfl
theorem impl_IsWorld.eq (k : Nat) (w_Rule : ByteArray) (w_Width : Int) (w_Height : Int) (w_Cells : ByteArray) (w_X : Int) (w_Y : Int) (w_Way : Int) : impl_IsWorld (k + 1) (w_Rule, w_Width, w_Height, w_Cells, w_X, w_Y, w_Way) =
  (impl_IsRule k w_Rule).bind fun r1 =>
  cond r1
  ((impl_isSize k (w_Width, w_Height)).bind fun r2 =>
   cond r2
   ((impl_areCells k (w_Cells, (w64 (w_Width * w_Height)), (w_Rule.size : Int))).bind fun r3 =>
    cond r3
    ((impl_isAnt k (w_Width, w_Height, w_X, w_Y, w_Way)).bind fun r4 =>
     some r4)
    (some false))
   (some false))
  (some false) := by kernel_rfl
theorem impl_IsRule.eq (k : Nat) (rule : ByteArray) : impl_IsRule (k + 1) rule =
  (impl_within k ((rule.size : Int), 1, 6)).bind fun r1 =>
  cond r1
  ((strings_Trim k (rule, (bs [76, 82, 78, 85]))).bind fun r2 =>
   some (strEq r2 ByteArray.empty))
  (some false) := by kernel_rfl
theorem impl_within.eq (k : Nat) (n : Int) (low : Int) (high : Int) : impl_within (k + 1) (n, low, high) =
  cond (decide (low ≤ n))
  (some (decide (n ≤ high)))
  (some false) := by kernel_rfl
theorem strings_Trim.eq (k : Nat) (d : ByteArray × ByteArray) : strings_Trim (k + 1) d = (fun d => strTrim d.1 d.2) d := by kernel_rfl
theorem impl_isSize.eq (k : Nat) (width : Int) (height : Int) : impl_isSize (k + 1) (width, height) =
  (impl_within k (width, 1, 9)).bind fun r1 =>
  cond r1
  ((impl_within k (height, 1, 9)).bind fun r2 =>
   some r2)
  (some false) := by kernel_rfl
theorem impl_areCells.eq (k : Nat) (cells : ByteArray) (many : Int) (tints : Int) : impl_areCells (k + 1) (cells, many, tints) =
  (impl_areCells_l k (cells, many, tints, (cells.size : Int), 0)).bind fun r1 =>
  r1.elim
  (fun r2 => some r2)
  (fun r3 => some ((r3.1.size : Int) == r3.2)) := by kernel_rfl
theorem impl_areCells_l.eq (k : Nat) (cells : ByteArray) (many : Int) (tints : Int) (t9 : Int) (t10 : Int) : impl_areCells_l (k + 1) (cells, many, tints, t9, t10) =
  cond (decide (t10 < t9))
  (cond (inB t10 cells.size)
   ((impl_within k ((w64 ((w64 (bt cells t10.toNat)) - 48)), 0, (w64 (tints - 1)))).bind fun r1 =>
    cond (!r1)
    (some (.inl false))
    (impl_areCells_l k (cells, many, tints, t9, (w64 (t10 + 1)))))
   (none))
  (some (.inr (cells, many))) := by kernel_rfl
theorem impl_isAnt.eq (k : Nat) (width : Int) (height : Int) (x : Int) (y : Int) (way : Int) : impl_isAnt (k + 1) (width, height, x, y, way) =
  (impl_within k (x, 0, (w64 (width - 1)))).bind fun r1 =>
  cond r1
  ((impl_within k (y, 0, (w64 (height - 1)))).bind fun r2 =>
   cond r2
   ((impl_isWay k way).bind fun r3 =>
    some r3)
   (some false))
  (some false) := by kernel_rfl
theorem impl_isWay.eq (k : Nat) (way : Int) : impl_isWay (k + 1) way =
  (impl_within k (way, 0, 3)).bind fun r1 =>
  some r1 := by kernel_rfl
theorem impl_moved.eq (k : Nat) (cells : ByteArray) (from_ : Int) (width : Int) (height : Int) (to_0 : Int) : impl_moved (k + 1) (cells, from_, width, height, to_0) =
  cond (((decide ((0 : Int) ≤ (w64 (width * height)))) && (decide ((w64 (width * height)) ≤ (w64 (width * height))))) && (fits (w64 (width * height)).toNat 1))
  ((impl_moved_l k (cells, from_, width, to_0, (List.replicate (w64 (width * height)).toNat 0), (cells.size : Int), 0)).bind fun r1 =>
   some (ofBytes r1))
  (none) := by kernel_rfl
theorem impl_moved_l.eq (k : Nat) (cells : ByteArray) (from_ : Int) (width : Int) (to_0 : Int) (out : List Int) (t20 : Int) (t21 : Int) : impl_moved_l (k + 1) (cells, from_, width, to_0, out, t20, t21) =
  cond (decide (t21 < t20))
  (cond (from_ != 0)
   (cond (from_ != 0)
    ((impl_TurnWorld_1 k ((t21.tmod from_), (w64 (t21.tdiv from_)), to_0)).bind fun r1 =>
     cond (inB t21 cells.size)
     (cond (inB (w64 ((w64 (r1.2 * width)) + r1.1)) out.length)
      (impl_moved_l k (cells, from_, width, to_0, (out.set ((w64 ((w64 (r1.2 * width)) + r1.1)).toNat) (bt cells t21.toNat)), t20, (w64 (t21 + 1))))
      (none))
     (none))
    (none))
   (none))
  (some out) := by kernel_rfl
theorem impl_TurnWorld_1.eq (k : Nat) (x : Int) (y : Int) (t2_0 : Int) : impl_TurnWorld_1 (k + 1) (x, y, t2_0) =
  some ((w64 ((w64 (t2_0 - 1)) - y)), x) := by kernel_rfl
theorem spec_TurnWorld.eq (k : Nat) (w_Rule : ByteArray) (w_Width : Int) (w_Height : Int) (w_Cells : ByteArray) (w_X : Int) (w_Y : Int) (w_Way : Int) : spec_TurnWorld (k + 1) (w_Rule, w_Width, w_Height, w_Cells, w_X, w_Y, w_Way) =
  (spec_woGood k (w_Rule, w_Width, w_Height, w_Cells, w_X, w_Y, w_Way)).bind fun r1 =>
  cond (!r1)
  (some ((ByteArray.empty, 0, 0, ByteArray.empty, 0, 0, 0), false))
  ((spec_woMap k ((w_Rule, w_Width, w_Height, w_Cells, w_X, w_Y, w_Way), w_Height, w_Width, (0, (-1), (w64 (w_Height - 1)), 1, 0, 0))).bind fun r2 =>
   some ((r2.1, r2.2.1, r2.2.2.1, r2.2.2.2.1, r2.2.2.2.2.1, r2.2.2.2.2.2.1, ((w64 (w_Way + 1)).tmod 4)), true)) := by kernel_rfl
theorem spec_woGood.eq (k : Nat) (w_Rule : ByteArray) (w_Width : Int) (w_Height : Int) (w_Cells : ByteArray) (w_X : Int) (w_Y : Int) (w_Way : Int) : spec_woGood (k + 1) (w_Rule, w_Width, w_Height, w_Cells, w_X, w_Y, w_Way) =
  (spec_woRule k w_Rule).bind fun r1 =>
  cond (!r1)
  (some false)
  ((spec_l1In k (w_Width, 1, 9)).bind fun r2 =>
   cond (!r2)
   (some false)
   ((spec_l1In k (w_Height, 1, 9)).bind fun r3 =>
    cond (!r3)
    (some false)
    (cond ((w_Cells.size : Int) != (w64 (w_Width * w_Height)))
     (some false)
     ((spec_woGood_l k ((w_Rule, w_Width, w_Height, w_Cells, w_X, w_Y, w_Way), 0)).bind fun r4 =>
      r4.elim
      (fun r5 => some r5)
      (fun r6 => (spec_l1In k (r6.2.2.2.2.1, 0, (w64 (r6.2.1 - 1)))).bind fun r7 =>
       cond r7
       ((spec_l1In k (r6.2.2.2.2.2.1, 0, (w64 (r6.2.2.1 - 1)))).bind fun r8 =>
        cond r8
        ((spec_l1In k (r6.2.2.2.2.2.2, 0, 3)).bind fun r9 =>
         some r9)
        (some false))
       (some false)))))) := by kernel_rfl
theorem spec_woRule.eq (k : Nat) (rule : ByteArray) : spec_woRule (k + 1) rule =
  (spec_l1In k ((rule.size : Int), 1, 6)).bind fun r1 =>
  cond (!r1)
  (some false)
  ((spec_woRule_l k (rule, 0)).bind fun r2 =>
   r2.elim
   (fun r3 => some r3)
   (fun r4 => some true)) := by kernel_rfl
theorem spec_l1In.eq (k : Nat) (n : Int) (lo : Int) (hi : Int) : spec_l1In (k + 1) (n, lo, hi) =
  cond (decide (n ≥ lo))
  (some (decide (n ≤ hi)))
  (some false) := by kernel_rfl
theorem spec_woRule_l.eq (k : Nat) (rule : ByteArray) (i : Int) : spec_woRule_l (k + 1) (rule, i) =
  cond (decide (i < (rule.size : Int)))
  (cond (inB i rule.size)
   (cond ((bt rule i.toNat) == 76)
    (spec_woRule_l k (rule, (w64 (i + 1))))
    (cond ((bt rule i.toNat) == 82)
     (spec_woRule_l k (rule, (w64 (i + 1))))
     (cond ((bt rule i.toNat) == 78)
      (spec_woRule_l k (rule, (w64 (i + 1))))
      (cond ((bt rule i.toNat) == 85)
       (spec_woRule_l k (rule, (w64 (i + 1))))
       (some (.inl false))))))
   (none))
  (some (.inr ())) := by kernel_rfl
theorem spec_woGood_l.eq (k : Nat) (w_Rule : ByteArray) (w_Width : Int) (w_Height : Int) (w_Cells : ByteArray) (w_X : Int) (w_Y : Int) (w_Way : Int) (i : Int) : spec_woGood_l (k + 1) ((w_Rule, w_Width, w_Height, w_Cells, w_X, w_Y, w_Way), i) =
  cond (decide (i < (w_Cells.size : Int)))
  (cond (inB i w_Cells.size)
   ((spec_l1In k ((w64 ((w64 (bt w_Cells i.toNat)) - 48)), 0, (w64 ((w_Rule.size : Int) - 1)))).bind fun r1 =>
    cond (!r1)
    (some (.inl false))
    (spec_woGood_l k ((w_Rule, w_Width, w_Height, w_Cells, w_X, w_Y, w_Way), (w64 (i + 1)))))
   (none))
  (some (.inr (w_Rule, w_Width, w_Height, w_Cells, w_X, w_Y, w_Way))) := by kernel_rfl
theorem spec_woMap.eq (k : Nat) (w_Rule : ByteArray) (w_Width : Int) (w_Height : Int) (w_Cells : ByteArray) (w_X : Int) (w_Y : Int) (w_Way : Int) (width : Int) (height : Int) (by_0 : Int) (by_1 : Int) (by_2 : Int) (by_3 : Int) (by_4 : Int) (by_5 : Int) : spec_woMap (k + 1) ((w_Rule, w_Width, w_Height, w_Cells, w_X, w_Y, w_Way), width, height, (by_0, by_1, by_2, by_3, by_4, by_5)) =
  (spec_woZeros k (w64 (width * height))).bind fun r1 =>
  (spec_woMap_l k (width, height, (w_Rule, w_Width, w_Height, w_Cells, w_X, w_Y, w_Way), (by_0, by_1, by_2, by_3, by_4, by_5), (ByteArray.empty, 0, 0, ByteArray.empty, 0, 0, 0), (w_Rule, width, height, r1, 0, 0, w_Way), 0)).bind fun r2 =>
  some r2.2 := by kernel_rfl
theorem spec_woZeros.eq (k : Nat) (n : Int) : spec_woZeros (k + 1) n =
  (spec_woZeros_l k (n, ByteArray.empty)).bind fun r1 =>
  some r1 := by kernel_rfl
theorem spec_woZeros_l.eq (k : Nat) (n : Int) (out : ByteArray) : spec_woZeros_l (k + 1) (n, out) =
  cond (decide (n > 0))
  (cond (fitS out (bs [48]))
   (spec_woZeros_l k ((w64 (n - 1)), (out ++ (bs [48]))))
   (none))
  (some out) := by kernel_rfl
theorem spec_woMap_l.eq (k : Nat) (width : Int) (height : Int) (w_Rule : ByteArray) (w_Width : Int) (w_Height : Int) (w_Cells : ByteArray) (w_X : Int) (w_Y : Int) (w_Way : Int) (by_0 : Int) (by_1 : Int) (by_2 : Int) (by_3 : Int) (by_4 : Int) (by_5 : Int) (t8_Rule : ByteArray) (t8_Width : Int) (t8_Height : Int) (t8_Cells : ByteArray) (t8_X : Int) (t8_Y : Int) (t8_Way : Int) (out_Rule : ByteArray) (out_Width : Int) (out_Height : Int) (out_Cells : ByteArray) (out_X : Int) (out_Y : Int) (out_Way : Int) (y : Int) : spec_woMap_l (k + 1) (width, height, (w_Rule, w_Width, w_Height, w_Cells, w_X, w_Y, w_Way), (by_0, by_1, by_2, by_3, by_4, by_5), (t8_Rule, t8_Width, t8_Height, t8_Cells, t8_X, t8_Y, t8_Way), (out_Rule, out_Width, out_Height, out_Cells, out_X, out_Y, out_Way), y) =
  cond (decide (y < w_Height))
  ((spec_woMap_l_l k (width, height, (w_Rule, w_Width, w_Height, w_Cells, w_X, w_Y, w_Way), (by_0, by_1, by_2, by_3, by_4, by_5), (t8_Rule, t8_Width, t8_Height, t8_Cells, t8_X, t8_Y, t8_Way), (out_Rule, out_Width, out_Height, out_Cells, out_X, out_Y, out_Way), y, 0)).bind fun r1 =>
   spec_woMap_l k (r1.1, r1.2.1, r1.2.2.1, r1.2.2.2.1, r1.2.2.2.2.1, r1.2.2.2.2.2.1, (w64 (r1.2.2.2.2.2.2 + 1))))
  (some ((t8_Rule, t8_Width, t8_Height, t8_Cells, t8_X, t8_Y, t8_Way), (out_Rule, out_Width, out_Height, out_Cells, out_X, out_Y, out_Way))) := by kernel_rfl
theorem spec_woMap_l_l.eq (k : Nat) (width : Int) (height : Int) (w_Rule : ByteArray) (w_Width : Int) (w_Height : Int) (w_Cells : ByteArray) (w_X : Int) (w_Y : Int) (w_Way : Int) (by_0 : Int) (by_1 : Int) (by_2 : Int) (by_3 : Int) (by_4 : Int) (by_5 : Int) (t8_Rule : ByteArray) (t8_Width : Int) (t8_Height : Int) (t8_Cells : ByteArray) (t8_X : Int) (t8_Y : Int) (t8_Way : Int) (out_Rule : ByteArray) (out_Width : Int) (out_Height : Int) (out_Cells : ByteArray) (out_X : Int) (out_Y : Int) (out_Way : Int) (y : Int) (x : Int) : spec_woMap_l_l (k + 1) (width, height, (w_Rule, w_Width, w_Height, w_Cells, w_X, w_Y, w_Way), (by_0, by_1, by_2, by_3, by_4, by_5), (t8_Rule, t8_Width, t8_Height, t8_Cells, t8_X, t8_Y, t8_Way), (out_Rule, out_Width, out_Height, out_Cells, out_X, out_Y, out_Way), y, x) =
  cond (decide (x < w_Width))
  ((spec_l1Mod k ((w64 ((w64 ((w64 (by_0 * x)) + (w64 (by_1 * y)))) + by_2)), width)).bind fun r1 =>
   (spec_l1Mod k ((w64 ((w64 ((w64 (by_3 * x)) + (w64 (by_4 * y)))) + by_5)), height)).bind fun r2 =>
   (spec_woColour k ((w_Rule, w_Width, w_Height, w_Cells, w_X, w_Y, w_Way), x, y)).bind fun r3 =>
   (spec_woPaint k ((out_Rule, out_Width, out_Height, out_Cells, out_X, out_Y, out_Way), r1, r2, r3)).bind fun r4 =>
   cond (x == w_X)
   (cond (y == w_Y)
    (spec_woMap_l_l k (width, height, (w_Rule, w_Width, w_Height, w_Cells, w_X, w_Y, w_Way), (by_0, by_1, by_2, by_3, by_4, by_5), (t8_Rule, t8_Width, t8_Height, t8_Cells, t8_X, t8_Y, t8_Way), (r4.2.1, r4.2.2.1, r4.2.2.2.1, r4.2.2.2.2.1, r1, r2, r4.2.2.2.2.2.2.2), y, (w64 (x + 1))))
    (spec_woMap_l_l k (width, height, (w_Rule, w_Width, w_Height, w_Cells, w_X, w_Y, w_Way), (by_0, by_1, by_2, by_3, by_4, by_5), (t8_Rule, t8_Width, t8_Height, t8_Cells, t8_X, t8_Y, t8_Way), r4.2, y, (w64 (x + 1)))))
   (spec_woMap_l_l k (width, height, (w_Rule, w_Width, w_Height, w_Cells, w_X, w_Y, w_Way), (by_0, by_1, by_2, by_3, by_4, by_5), (t8_Rule, t8_Width, t8_Height, t8_Cells, t8_X, t8_Y, t8_Way), r4.2, y, (w64 (x + 1)))))
  (some (width, height, (w_Rule, w_Width, w_Height, w_Cells, w_X, w_Y, w_Way), (by_0, by_1, by_2, by_3, by_4, by_5), (t8_Rule, t8_Width, t8_Height, t8_Cells, t8_X, t8_Y, t8_Way), (out_Rule, out_Width, out_Height, out_Cells, out_X, out_Y, out_Way), y)) := by kernel_rfl
theorem spec_l1Mod.eq (k : Nat) (n : Int) (m : Int) : spec_l1Mod (k + 1) (n, m) =
  cond (m != 0)
  (cond (m != 0)
   (some ((w64 ((n.tmod m) + m)).tmod m))
   (none))
  (none) := by kernel_rfl
theorem spec_woColour.eq (k : Nat) (w_Rule : ByteArray) (w_Width : Int) (w_Height : Int) (w_Cells : ByteArray) (w_X : Int) (w_Y : Int) (w_Way : Int) (x : Int) (y : Int) : spec_woColour (k + 1) ((w_Rule, w_Width, w_Height, w_Cells, w_X, w_Y, w_Way), x, y) =
  cond (inB (w64 ((w64 (y * w_Width)) + x)) w_Cells.size)
  (some (w64 (w8 ((bt w_Cells ((w64 ((w64 (y * w_Width)) + x)).toNat)) - 48))))
  (none) := by kernel_rfl
theorem spec_woPaint.eq (k : Nat) (w_Rule : ByteArray) (w_Width : Int) (w_Height : Int) (w_Cells : ByteArray) (w_X : Int) (w_Y : Int) (w_Way : Int) (x : Int) (y : Int) (colour : Int) : spec_woPaint (k + 1) ((w_Rule, w_Width, w_Height, w_Cells, w_X, w_Y, w_Way), x, y, colour) =
  cond ((decide ((0 : Int) ≤ (w64 ((w64 (y * w_Width)) + x)))) && (decide ((w64 ((w64 (y * w_Width)) + x)) ≤ (w_Cells.size : Int))))
  ((spec_l1Num k colour).bind fun r1 =>
   cond (fitS (w_Cells.extract 0 ((w64 ((w64 (y * w_Width)) + x)).toNat)) r1)
   (cond ((decide ((0 : Int) ≤ (w64 ((w64 ((w64 (y * w_Width)) + x)) + 1)))) && (decide ((w64 ((w64 ((w64 (y * w_Width)) + x)) + 1)) ≤ (w_Cells.size : Int))))
    (cond (fitS ((w_Cells.extract 0 ((w64 ((w64 (y * w_Width)) + x)).toNat)) ++ r1) (w_Cells.extract ((w64 ((w64 ((w64 (y * w_Width)) + x)) + 1)).toNat) w_Cells.size))
     (some ((), (w_Rule, w_Width, w_Height, (((w_Cells.extract 0 ((w64 ((w64 (y * w_Width)) + x)).toNat)) ++ r1) ++ (w_Cells.extract ((w64 ((w64 ((w64 (y * w_Width)) + x)) + 1)).toNat) w_Cells.size)), w_X, w_Y, w_Way)))
     (none))
    (none))
   (none))
  (none) := by kernel_rfl
theorem impl_MirrorWorld.eq (k : Nat) (w_Rule : ByteArray) (w_Width : Int) (w_Height : Int) (w_Cells : ByteArray) (w_X : Int) (w_Y : Int) (w_Way : Int) : impl_MirrorWorld (k + 1) (w_Rule, w_Width, w_Height, w_Cells, w_X, w_Y, w_Way) =
  (impl_IsWorld k (w_Rule, w_Width, w_Height, w_Cells, w_X, w_Y, w_Way)).bind fun r1 =>
  cond (!r1)
  (some ((ByteArray.empty, 0, 0, ByteArray.empty, 0, 0, 0), false))
  ((impl_moved_2 k (w_Cells, w_Width, w_Width, w_Height, (w_Rule, w_Width, w_Height, w_Cells, w_X, w_Y, w_Way))).bind fun r2 =>
   (impl_MirrorWorld_1 k (w_X, w_Y, (w_Rule, w_Width, w_Height, r2, w_X, w_Y, w_Way))).bind fun r3 =>
   (impl_other k w_Rule).bind fun r4 =>
   (impl_otherWay k w_Way).bind fun r5 =>
   some ((r4, w_Width, w_Height, r2, r3.1, r3.2, r5), true)) := by kernel_rfl
theorem impl_moved_2.eq (k : Nat) (cells : ByteArray) (from_ : Int) (width : Int) (height : Int) (to_0 : ByteArray) (to_01 : Int) (to_02 : Int) (to_03 : ByteArray) (to_04 : Int) (to_05 : Int) (to_06 : Int) : impl_moved_2 (k + 1) (cells, from_, width, height, (to_0, to_01, to_02, to_03, to_04, to_05, to_06)) =
  cond (((decide ((0 : Int) ≤ (w64 (width * height)))) && (decide ((w64 (width * height)) ≤ (w64 (width * height))))) && (fits (w64 (width * height)).toNat 1))
  ((impl_moved_2_l k (cells, from_, width, (to_0, to_01, to_02, to_03, to_04, to_05, to_06), (List.replicate (w64 (width * height)).toNat 0), (cells.size : Int), 0)).bind fun r1 =>
   some (ofBytes r1))
  (none) := by kernel_rfl
theorem impl_moved_2_l.eq (k : Nat) (cells : ByteArray) (from_ : Int) (width : Int) (to_0 : ByteArray) (to_01 : Int) (to_02 : Int) (to_03 : ByteArray) (to_04 : Int) (to_05 : Int) (to_06 : Int) (out : List Int) (t20 : Int) (t21 : Int) : impl_moved_2_l (k + 1) (cells, from_, width, (to_0, to_01, to_02, to_03, to_04, to_05, to_06), out, t20, t21) =
  cond (decide (t21 < t20))
  (cond (from_ != 0)
   (cond (from_ != 0)
    ((impl_MirrorWorld_1 k ((t21.tmod from_), (w64 (t21.tdiv from_)), (to_0, to_01, to_02, to_03, to_04, to_05, to_06))).bind fun r1 =>
     cond (inB t21 cells.size)
     (cond (inB (w64 ((w64 (r1.2 * width)) + r1.1)) out.length)
      (impl_moved_2_l k (cells, from_, width, (to_0, to_01, to_02, to_03, to_04, to_05, to_06), (out.set ((w64 ((w64 (r1.2 * width)) + r1.1)).toNat) (bt cells t21.toNat)), t20, (w64 (t21 + 1))))
      (none))
     (none))
    (none))
   (none))
  (some out) := by kernel_rfl
theorem impl_MirrorWorld_1.eq (k : Nat) (x : Int) (y : Int) (t2_0 : ByteArray) (t2_1 : Int) (t2_2 : Int) (t2_3 : ByteArray) (t2_4 : Int) (t2_5 : Int) (t2_6 : Int) : impl_MirrorWorld_1 (k + 1) (x, y, (t2_0, t2_1, t2_2, t2_3, t2_4, t2_5, t2_6)) =
  some ((w64 ((w64 (t2_1 - 1)) - x)), y) := by kernel_rfl
theorem impl_other.eq (k : Nat) (d : ByteArray) : impl_other (k + 1) d = (fun d => otherB 76 82 d) d := by kernel_rfl
theorem impl_otherWay.eq (k : Nat) (way : Int) : impl_otherWay (k + 1) way =
  some ((w64 (4 - way)).tmod 4) := by kernel_rfl
theorem spec_MirrorWorld.eq (k : Nat) (w_Rule : ByteArray) (w_Width : Int) (w_Height : Int) (w_Cells : ByteArray) (w_X : Int) (w_Y : Int) (w_Way : Int) : spec_MirrorWorld (k + 1) (w_Rule, w_Width, w_Height, w_Cells, w_X, w_Y, w_Way) =
  (spec_woGood k (w_Rule, w_Width, w_Height, w_Cells, w_X, w_Y, w_Way)).bind fun r1 =>
  cond (!r1)
  (some ((ByteArray.empty, 0, 0, ByteArray.empty, 0, 0, 0), false))
  ((spec_woMap k ((w_Rule, w_Width, w_Height, w_Cells, w_X, w_Y, w_Way), w_Width, w_Height, ((-1), 0, (w64 (w_Width - 1)), 0, 1, 0))).bind fun r2 =>
   (spec_woOther k w_Rule).bind fun r3 =>
   some ((r3, r2.2.1, r2.2.2.1, r2.2.2.2.1, r2.2.2.2.2.1, r2.2.2.2.2.2.1, ((w64 (4 - w_Way)).tmod 4)), true)) := by kernel_rfl
theorem spec_woOther.eq (k : Nat) (rule : ByteArray) : spec_woOther (k + 1) rule =
  (spec_woOther_l k (rule, ByteArray.empty, 0)).bind fun r1 =>
  some r1 := by kernel_rfl
theorem spec_woOther_l.eq (k : Nat) (rule : ByteArray) (out : ByteArray) (i : Int) : spec_woOther_l (k + 1) (rule, out, i) =
  cond (decide (i < (rule.size : Int)))
  (cond (inB i rule.size)
   (cond ((bt rule i.toNat) == 76)
    (cond (fitS out (bs [82]))
     (spec_woOther_l k (rule, (out ++ (bs [82])), (w64 (i + 1))))
     (none))
    (cond ((bt rule i.toNat) == 82)
     (cond (fitS out (bs [76]))
      (spec_woOther_l k (rule, (out ++ (bs [76])), (w64 (i + 1))))
      (none))
     (cond (((decide ((0 : Int) ≤ (w64 (i + 1)))) && (decide ((w64 (i + 1)) ≤ (rule.size : Int)))) && ((decide ((0 : Int) ≤ i)) && (decide (i ≤ (w64 (i + 1))))))
      (cond (fitS out (rule.extract i.toNat ((w64 (i + 1)).toNat)))
       (spec_woOther_l k (rule, (out ++ (rule.extract i.toNat ((w64 (i + 1)).toNat))), (w64 (i + 1))))
       (none))
      (none))))
   (none))
  (some out) := by kernel_rfl
theorem impl_BackWorld.eq (k : Nat) (w_Rule : ByteArray) (w_Width : Int) (w_Height : Int) (w_Cells : ByteArray) (w_X : Int) (w_Y : Int) (w_Way : Int) : impl_BackWorld (k + 1) (w_Rule, w_Width, w_Height, w_Cells, w_X, w_Y, w_Way) =
  (impl_IsWorld k (w_Rule, w_Width, w_Height, w_Cells, w_X, w_Y, w_Way)).bind fun r1 =>
  cond (!r1)
  (some ((ByteArray.empty, 0, 0, ByteArray.empty, 0, 0, 0), false))
  ((impl_other k w_Rule).bind fun r2 =>
   (slices_Reverse k (bytesOf r2)).bind fun r3 =>
   (impl_BackWorld_l k ((w_Rule, w_Width, w_Height, w_Cells, w_X, w_Y, w_Way), (ByteArray.empty, 0, 0, ByteArray.empty, 0, 0, 0), r3.2, (bytesOf w_Cells), (), ((bytesOf w_Cells).length : Int), 0)).bind fun r4 =>
   (impl_World_gone k (((ofBytes r4.2.2.1), r4.1.2.1, r4.1.2.2.1, (ofBytes r4.2.2.2), r4.1.2.2.2.2.1, r4.1.2.2.2.2.2.1, ((w64 (r4.1.2.2.2.2.2.2 + 2)).tmod 4)), 1)).bind fun r5 =>
   some (r5, true)) := by kernel_rfl
theorem slices_Reverse.eq (k : Nat) (s : List Int) : slices_Reverse (k + 1) s =
  (slices_Reverse_l k (s, 0, (w64 ((s.length : Int) - 1)), ())).bind fun r1 =>
  some ((), r1) := by kernel_rfl
theorem slices_Reverse_l.eq (k : Nat) (s : List Int) (i : Int) (j : Int) : slices_Reverse_l (k + 1) (s, i, j, ()) =
  cond (decide (i < j))
  (cond (inB j s.length)
   (cond (inB i s.length)
    (cond (inB i s.length)
     (cond (inB j ((s.set i.toNat (s.getD j.toNat default)).length))
      (slices_Reverse_l k (((s.set i.toNat (s.getD j.toNat default)).set j.toNat (s.getD i.toNat default)), (w64 (i + 1)), (w64 (j - 1)), ()))
      (none))
     (none))
    (none))
   (none))
  (some s) := by kernel_rfl
theorem impl_BackWorld_l.eq (k : Nat) (w_Rule : ByteArray) (w_Width : Int) (w_Height : Int) (w_Cells : ByteArray) (w_X : Int) (w_Y : Int) (w_Way : Int) (t2_Rule : ByteArray) (t2_Width : Int) (t2_Height : Int) (t2_Cells : ByteArray) (t2_X : Int) (t2_Y : Int) (t2_Way : Int) (rule : List Int) (cells : List Int) (t22 : Int) (t23 : Int) : impl_BackWorld_l (k + 1) ((w_Rule, w_Width, w_Height, w_Cells, w_X, w_Y, w_Way), (t2_Rule, t2_Width, t2_Height, t2_Cells, t2_X, t2_Y, t2_Way), rule, cells, (), t22, t23) =
  cond (decide (t23 < t22))
  (cond (inB t23 cells.length)
   (cond ((rule.length : Int) != 0)
    (cond (inB t23 cells.length)
     (impl_BackWorld_l k ((w_Rule, w_Width, w_Height, w_Cells, w_X, w_Y, w_Way), (t2_Rule, t2_Width, t2_Height, t2_Cells, t2_X, t2_Y, t2_Way), rule, (cells.set t23.toNat (w8 (w64 (48 + ((w64 ((rule.length : Int) - (w64 (w8 ((cells.getD t23.toNat default) - 48))))).tmod (rule.length : Int)))))), (), t22, (w64 (t23 + 1))))
     (none))
    (none))
   (none))
  (some ((w_Rule, w_Width, w_Height, w_Cells, w_X, w_Y, w_Way), (t2_Rule, t2_Width, t2_Height, t2_Cells, t2_X, t2_Y, t2_Way), rule, cells)) := by kernel_rfl
theorem impl_World_gone.eq (k : Nat) (w_Rule : ByteArray) (w_Width : Int) (w_Height : Int) (w_Cells : ByteArray) (w_X : Int) (w_Y : Int) (w_Way : Int) (by_ : Int) : impl_World_gone (k + 1) ((w_Rule, w_Width, w_Height, w_Cells, w_X, w_Y, w_Way), by_) =
  (impl_ahead k w_Way).bind fun r1 =>
  cond (w_Width != 0)
  (cond (w_Height != 0)
   (some (w_Rule, w_Width, w_Height, w_Cells, ((w64 ((w64 (w_X + (w64 (by_ * r1.1)))) + w_Width)).tmod w_Width), ((w64 ((w64 (w_Y + (w64 (by_ * r1.2)))) + w_Height)).tmod w_Height), w_Way))
   (none))
  (none) := by kernel_rfl
theorem impl_ahead.eq (k : Nat) (way : Int) : impl_ahead (k + 1) way =
  cond (inB way 4)
  (cond (inB way 4)
   (some ((([0, 1, 0, (-1)] : List Int).getD way.toNat default), (([(-1), 0, 1, 0] : List Int).getD way.toNat default)))
   (none))
  (none) := by kernel_rfl
theorem spec_BackWorld.eq (k : Nat) (w_Rule : ByteArray) (w_Width : Int) (w_Height : Int) (w_Cells : ByteArray) (w_X : Int) (w_Y : Int) (w_Way : Int) : spec_BackWorld (k + 1) (w_Rule, w_Width, w_Height, w_Cells, w_X, w_Y, w_Way) =
  (spec_woGood k (w_Rule, w_Width, w_Height, w_Cells, w_X, w_Y, w_Way)).bind fun r1 =>
  cond (!r1)
  (some ((ByteArray.empty, 0, 0, ByteArray.empty, 0, 0, 0), false))
  ((spec_woOther k w_Rule).bind fun r2 =>
   (spec_woReverse k r2).bind fun r3 =>
   (spec_BackWorld_l k ((w_Rule, w_Width, w_Height, w_Cells, w_X, w_Y, w_Way), (ByteArray.empty, 0, 0, ByteArray.empty, 0, 0, 0), (w64 ((w_Rule.size : Int) - 1)), (r3, w_Width, w_Height, ByteArray.empty, w_X, w_Y, w_Way), 0)).bind fun r4 =>
   (spec_woGo k ((r4.2.2.1, r4.2.2.2.1, r4.2.2.2.2.1, r4.2.2.2.2.2.1, r4.2.2.2.2.2.2.1, r4.2.2.2.2.2.2.2.1, ((w64 (r4.1.2.2.2.2.2.2 + 2)).tmod 4)), 1)).bind fun r5 =>
   some (r5.2, true)) := by kernel_rfl
theorem spec_woReverse.eq (k : Nat) (s : ByteArray) : spec_woReverse (k + 1) s =
  (spec_woReverse_l k (s, ByteArray.empty, (w64 ((s.size : Int) - 1)))).bind fun r1 =>
  some r1 := by kernel_rfl
theorem spec_woReverse_l.eq (k : Nat) (s : ByteArray) (out : ByteArray) (i : Int) : spec_woReverse_l (k + 1) (s, out, i) =
  cond (decide (i ≥ 0))
  (cond (((decide ((0 : Int) ≤ (w64 (i + 1)))) && (decide ((w64 (i + 1)) ≤ (s.size : Int)))) && ((decide ((0 : Int) ≤ i)) && (decide (i ≤ (w64 (i + 1))))))
   (cond (fitS out (s.extract i.toNat ((w64 (i + 1)).toNat)))
    (spec_woReverse_l k (s, (out ++ (s.extract i.toNat ((w64 (i + 1)).toNat))), (w64 (i - 1))))
    (none))
   (none))
  (some out) := by kernel_rfl
theorem spec_BackWorld_l.eq (k : Nat) (w_Rule : ByteArray) (w_Width : Int) (w_Height : Int) (w_Cells : ByteArray) (w_X : Int) (w_Y : Int) (w_Way : Int) (t2_Rule : ByteArray) (t2_Width : Int) (t2_Height : Int) (t2_Cells : ByteArray) (t2_X : Int) (t2_Y : Int) (t2_Way : Int) (last : Int) (out_Rule : ByteArray) (out_Width : Int) (out_Height : Int) (out_Cells : ByteArray) (out_X : Int) (out_Y : Int) (out_Way : Int) (i : Int) : spec_BackWorld_l (k + 1) ((w_Rule, w_Width, w_Height, w_Cells, w_X, w_Y, w_Way), (t2_Rule, t2_Width, t2_Height, t2_Cells, t2_X, t2_Y, t2_Way), last, (out_Rule, out_Width, out_Height, out_Cells, out_X, out_Y, out_Way), i) =
  cond (decide (i < (w_Cells.size : Int)))
  (cond (inB i w_Cells.size)
   ((spec_l1Mod k ((w64 ((w64 (w8 ((bt w_Cells i.toNat) - 48))) - 1)), (w_Rule.size : Int))).bind fun r1 =>
    (spec_l1Num k (w64 (last - r1))).bind fun r2 =>
    cond (fitS out_Cells r2)
    (spec_BackWorld_l k ((w_Rule, w_Width, w_Height, w_Cells, w_X, w_Y, w_Way), (t2_Rule, t2_Width, t2_Height, t2_Cells, t2_X, t2_Y, t2_Way), last, (out_Rule, out_Width, out_Height, (out_Cells ++ r2), out_X, out_Y, out_Way), (w64 (i + 1))))
    (none))
   (none))
  (some ((w_Rule, w_Width, w_Height, w_Cells, w_X, w_Y, w_Way), (t2_Rule, t2_Width, t2_Height, t2_Cells, t2_X, t2_Y, t2_Way), (out_Rule, out_Width, out_Height, out_Cells, out_X, out_Y, out_Way))) := by kernel_rfl
theorem spec_woGo.eq (k : Nat) (w_Rule : ByteArray) (w_Width : Int) (w_Height : Int) (w_Cells : ByteArray) (w_X : Int) (w_Y : Int) (w_Way : Int) (cells : Int) : spec_woGo (k + 1) ((w_Rule, w_Width, w_Height, w_Cells, w_X, w_Y, w_Way), cells) =
  cond (w_Way == 0)
  ((spec_l1Mod k ((w64 (w_Y - cells)), w_Height)).bind fun r1 =>
   some ((), (w_Rule, w_Width, w_Height, w_Cells, w_X, r1, w_Way)))
  (cond (w_Way == 1)
   ((spec_l1Mod k ((w64 (w_X + cells)), w_Width)).bind fun r2 =>
    some ((), (w_Rule, w_Width, w_Height, w_Cells, r2, w_Y, w_Way)))
   (cond (w_Way == 2)
    ((spec_l1Mod k ((w64 (w_Y + cells)), w_Height)).bind fun r3 =>
     some ((), (w_Rule, w_Width, w_Height, w_Cells, w_X, r3, w_Way)))
    ((spec_l1Mod k ((w64 (w_X - cells)), w_Width)).bind fun r4 =>
     some ((), (w_Rule, w_Width, w_Height, w_Cells, r4, w_Y, w_Way))))) := by kernel_rfl
theorem impl_WorldText.eq (k : Nat) (w_Rule : ByteArray) (w_Width : Int) (w_Height : Int) (w_Cells : ByteArray) (w_X : Int) (w_Y : Int) (w_Way : Int) : impl_WorldText (k + 1) (w_Rule, w_Width, w_Height, w_Cells, w_X, w_Y, w_Way) =
  (impl_IsWorld k (w_Rule, w_Width, w_Height, w_Cells, w_X, w_Y, w_Way)).bind fun r1 =>
  cond (!r1)
  (some (ByteArray.empty, false))
  ((impl_worldText k (w_Rule, w_Width, w_Height, w_Cells, w_X, w_Y, w_Way)).bind fun r2 =>
   some (r2, true)) := by kernel_rfl
theorem impl_worldText.eq (k : Nat) (w_Rule : ByteArray) (w_Width : Int) (w_Height : Int) (w_Cells : ByteArray) (w_X : Int) (w_Y : Int) (w_Way : Int) : impl_worldText (k + 1) (w_Rule, w_Width, w_Height, w_Cells, w_X, w_Y, w_Way) =
  (impl_listText k ((bs [120]), [w_Width, w_Height])).bind fun r1 =>
  (impl_listText k ((bs [44]), [w_X, w_Y, w_Way])).bind fun r2 =>
  (strings_Join k ([w_Rule, r1, w_Cells, r2], (bs [58]))).bind fun r3 =>
  some r3 := by kernel_rfl
theorem impl_listText.eq (k : Nat) (by_ : ByteArray) (list : List Int) : impl_listText (k + 1) (by_, list) =
  (impl_listText_l k (by_, [], list, (list.length : Int), 0)).bind fun r1 =>
  (strings_Join k (r1.2, r1.1)).bind fun r2 =>
  some r2 := by kernel_rfl
theorem impl_listText_l.eq (k : Nat) (by_ : ByteArray) (parts : List ByteArray) (t9 : List Int) (t10 : Int) (t11 : Int) : impl_listText_l (k + 1) (by_, parts, t9, t10, t11) =
  cond (decide (t11 < t10))
  (cond (inB t11 t9.length)
   ((strconv_Itoa k (t9.getD t11.toNat default)).bind fun r1 =>
    cond (fits (parts.length + 1) 16)
    (impl_listText_l k (by_, (parts ++ [r1]), t9, t10, (w64 (t11 + 1))))
    (none))
   (none))
  (some (by_, parts)) := by kernel_rfl
theorem strconv_Itoa.eq (k : Nat) (d : Int) : strconv_Itoa (k + 1) d = (fun d => itoaAll d) d := by kernel_rfl
theorem strings_Join.eq (k : Nat) (d : List ByteArray × ByteArray) : strings_Join (k + 1) d = (fun d => joinS d.1 d.2) d := by kernel_rfl
theorem spec_WorldText.eq (k : Nat) (w_Rule : ByteArray) (w_Width : Int) (w_Height : Int) (w_Cells : ByteArray) (w_X : Int) (w_Y : Int) (w_Way : Int) : spec_WorldText (k + 1) (w_Rule, w_Width, w_Height, w_Cells, w_X, w_Y, w_Way) =
  (spec_woGood k (w_Rule, w_Width, w_Height, w_Cells, w_X, w_Y, w_Way)).bind fun r1 =>
  cond (!r1)
  (some (ByteArray.empty, false))
  ((spec_woText k (w_Rule, w_Width, w_Height, w_Cells, w_X, w_Y, w_Way)).bind fun r2 =>
   some (r2, true)) := by kernel_rfl
theorem spec_woText.eq (k : Nat) (w_Rule : ByteArray) (w_Width : Int) (w_Height : Int) (w_Cells : ByteArray) (w_X : Int) (w_Y : Int) (w_Way : Int) : spec_woText (k + 1) (w_Rule, w_Width, w_Height, w_Cells, w_X, w_Y, w_Way) =
  cond (fitS w_Rule (bs [58]))
  ((spec_l1Num k w_Width).bind fun r1 =>
   cond (fitS (w_Rule ++ (bs [58])) r1)
   (cond (fitS ((w_Rule ++ (bs [58])) ++ r1) (bs [120]))
    ((spec_l1Num k w_Height).bind fun r2 =>
     cond (fitS (((w_Rule ++ (bs [58])) ++ r1) ++ (bs [120])) r2)
     (cond (fitS ((((w_Rule ++ (bs [58])) ++ r1) ++ (bs [120])) ++ r2) (bs [58]))
      (cond (fitS (((((w_Rule ++ (bs [58])) ++ r1) ++ (bs [120])) ++ r2) ++ (bs [58])) w_Cells)
       (cond (fitS ((((((w_Rule ++ (bs [58])) ++ r1) ++ (bs [120])) ++ r2) ++ (bs [58])) ++ w_Cells) (bs [58]))
        ((spec_l1Num k w_X).bind fun r3 =>
         cond (fitS (((((((w_Rule ++ (bs [58])) ++ r1) ++ (bs [120])) ++ r2) ++ (bs [58])) ++ w_Cells) ++ (bs [58])) r3)
         (cond (fitS ((((((((w_Rule ++ (bs [58])) ++ r1) ++ (bs [120])) ++ r2) ++ (bs [58])) ++ w_Cells) ++ (bs [58])) ++ r3) (bs [44]))
          ((spec_l1Num k w_Y).bind fun r4 =>
           cond (fitS (((((((((w_Rule ++ (bs [58])) ++ r1) ++ (bs [120])) ++ r2) ++ (bs [58])) ++ w_Cells) ++ (bs [58])) ++ r3) ++ (bs [44])) r4)
           (cond (fitS ((((((((((w_Rule ++ (bs [58])) ++ r1) ++ (bs [120])) ++ r2) ++ (bs [58])) ++ w_Cells) ++ (bs [58])) ++ r3) ++ (bs [44])) ++ r4) (bs [44]))
            ((spec_l1Num k w_Way).bind fun r5 =>
             cond (fitS (((((((((((w_Rule ++ (bs [58])) ++ r1) ++ (bs [120])) ++ r2) ++ (bs [58])) ++ w_Cells) ++ (bs [58])) ++ r3) ++ (bs [44])) ++ r4) ++ (bs [44])) r5)
             (some ((((((((((((w_Rule ++ (bs [58])) ++ r1) ++ (bs [120])) ++ r2) ++ (bs [58])) ++ w_Cells) ++ (bs [58])) ++ r3) ++ (bs [44])) ++ r4) ++ (bs [44])) ++ r5))
             (none))
            (none))
           (none))
          (none))
         (none))
        (none))
       (none))
      (none))
     (none))
    (none))
   (none))
  (none) := by kernel_rfl
theorem laws_FnWorldsTurned_c.eq (k : Nat) (more : List Int) (w_Rule : ByteArray) (w_Width : Int) (w_Height : Int) (w_Cells : ByteArray) (w_X : Int) (w_Y : Int) (w_Way : Int) (turned_Rule : ByteArray) (turned_Width : Int) (turned_Height : Int) (turned_Cells : ByteArray) (turned_X : Int) (turned_Y : Int) (turned_Way : Int) (ok : Bool) (mirror_Rule : ByteArray) (mirror_Width : Int) (mirror_Height : Int) (mirror_Cells : ByteArray) (mirror_X : Int) (mirror_Y : Int) (mirror_Way : Int) (reverse_Rule : ByteArray) (reverse_Width : Int) (reverse_Height : Int) (reverse_Cells : ByteArray) (reverse_X : Int) (reverse_Y : Int) (reverse_Way : Int) (text : ByteArray) : laws_FnWorldsTurned_c (k + 1) (more, (w_Rule, w_Width, w_Height, w_Cells, w_X, w_Y, w_Way), (turned_Rule, turned_Width, turned_Height, turned_Cells, turned_X, turned_Y, turned_Way), ok, (mirror_Rule, mirror_Width, mirror_Height, mirror_Cells, mirror_X, mirror_Y, mirror_Way), (reverse_Rule, reverse_Width, reverse_Height, reverse_Cells, reverse_X, reverse_Y, reverse_Way), text) =
  cond ok
  ((impl_StepWorld k (w_Rule, w_Width, w_Height, w_Cells, w_X, w_Y, w_Way)).bind fun r1 =>
   (impl_StepWorld k (turned_Rule, turned_Width, turned_Height, turned_Cells, turned_X, turned_Y, turned_Way)).bind fun r2 =>
   (impl_TurnWorld k r1.1).bind fun r3 =>
   (impl_StepWorld k (mirror_Rule, mirror_Width, mirror_Height, mirror_Cells, mirror_X, mirror_Y, mirror_Way)).bind fun r4 =>
   (impl_MirrorWorld k r1.1).bind fun r5 =>
   (impl_MirrorWorld k (mirror_Rule, mirror_Width, mirror_Height, mirror_Cells, mirror_X, mirror_Y, mirror_Way)).bind fun r6 =>
   (impl_ParseWorld k text).bind fun r7 =>
   cond (!r1.2)
   (some false)
   (cond (!r2.2)
    (some false)
    (cond (!r3.2)
     (some false)
     (cond (!((r2.1.1 == r3.1.1) && ((r2.1.2.1 == r3.1.2.1) && ((r2.1.2.2.1 == r3.1.2.2.1) && ((r2.1.2.2.2.1 == r3.1.2.2.2.1) && ((r2.1.2.2.2.2.1 == r3.1.2.2.2.2.1) && ((r2.1.2.2.2.2.2.1 == r3.1.2.2.2.2.2.1) && ((r2.1.2.2.2.2.2.2 == r3.1.2.2.2.2.2.2) && true))))))))
      (some false)
      (cond (!r4.2)
       (some false)
       (cond (!r5.2)
        (some false)
        (cond (!((r4.1.1 == r5.1.1) && ((r4.1.2.1 == r5.1.2.1) && ((r4.1.2.2.1 == r5.1.2.2.1) && ((r4.1.2.2.2.1 == r5.1.2.2.2.1) && ((r4.1.2.2.2.2.1 == r5.1.2.2.2.2.1) && ((r4.1.2.2.2.2.2.1 == r5.1.2.2.2.2.2.1) && ((r4.1.2.2.2.2.2.2 == r5.1.2.2.2.2.2.2) && true))))))))
         (some false)
         (cond (!r6.2)
          (some false)
          (cond (!((r6.1.1 == w_Rule) && ((r6.1.2.1 == w_Width) && ((r6.1.2.2.1 == w_Height) && ((r6.1.2.2.2.1 == w_Cells) && ((r6.1.2.2.2.2.1 == w_X) && ((r6.1.2.2.2.2.2.1 == w_Y) && ((r6.1.2.2.2.2.2.2 == w_Way) && true))))))))
           (some false)
           (cond (!r7.2)
            (some false)
            (cond (!((r7.1.1 == w_Rule) && ((r7.1.2.1 == w_Width) && ((r7.1.2.2.1 == w_Height) && ((r7.1.2.2.2.1 == w_Cells) && ((r7.1.2.2.2.2.1 == w_X) && ((r7.1.2.2.2.2.2.1 == w_Y) && ((r7.1.2.2.2.2.2.2 == w_Way) && true))))))))
             (some false)
             ((impl_IsWorld k (reverse_Rule, reverse_Width, reverse_Height, reverse_Cells, reverse_X, reverse_Y, reverse_Way)).bind fun r8 =>
              cond (!r8)
              (some false)
              ((laws_FnWorldsTurned_c_l k (more, (w_Rule, w_Width, w_Height, w_Cells, w_X, w_Y, w_Way), (w_Rule, w_Width, w_Height, w_Cells, w_X, w_Y, w_Way), 0)).bind fun r9 =>
               r9.elim
               (fun r10 => some r10)
               (fun r11 => cond (!((r11.2.2.1 == r11.2.1.1) && ((r11.2.2.2.1 == r11.2.1.2.1) && ((r11.2.2.2.2.1 == r11.2.1.2.2.1) && ((r11.2.2.2.2.2.1 == r11.2.1.2.2.2.1) && ((r11.2.2.2.2.2.2.1 == r11.2.1.2.2.2.2.1) && ((r11.2.2.2.2.2.2.2.1 == r11.2.1.2.2.2.2.2.1) && ((r11.2.2.2.2.2.2.2.2 == r11.2.1.2.2.2.2.2.2) && true))))))))
                (some false)
                ((laws_FnWorldsTurned_c_c k r11.1).bind fun r12 =>
                 some r12)))))))))))))))
  ((laws_FnWorldsTurned_c_c k more).bind fun r13 =>
   some r13) := by kernel_rfl
theorem impl_StepWorld.eq (k : Nat) (w_Rule : ByteArray) (w_Width : Int) (w_Height : Int) (w_Cells : ByteArray) (w_X : Int) (w_Y : Int) (w_Way : Int) : impl_StepWorld (k + 1) (w_Rule, w_Width, w_Height, w_Cells, w_X, w_Y, w_Way) =
  (impl_WorldAfter k ((w_Rule, w_Width, w_Height, w_Cells, w_X, w_Y, w_Way), 1)).bind fun r1 =>
  some r1 := by kernel_rfl
theorem impl_WorldAfter.eq (k : Nat) (w_Rule : ByteArray) (w_Width : Int) (w_Height : Int) (w_Cells : ByteArray) (w_X : Int) (w_Y : Int) (w_Way : Int) (steps : Int) : impl_WorldAfter (k + 1) ((w_Rule, w_Width, w_Height, w_Cells, w_X, w_Y, w_Way), steps) =
  (impl_isGoing k ((w_Rule, w_Width, w_Height, w_Cells, w_X, w_Y, w_Way), steps)).bind fun r1 =>
  cond (!r1)
  (some ((ByteArray.empty, 0, 0, ByteArray.empty, 0, 0, 0), false))
  ((impl_WorldAfter_l k ((w_Rule, w_Width, w_Height, w_Cells, w_X, w_Y, w_Way), (ByteArray.empty, 0, 0, ByteArray.empty, 0, 0, 0), steps, 0)).bind fun r2 =>
   some (r2.1, true)) := by kernel_rfl
theorem impl_isGoing.eq (k : Nat) (w_Rule : ByteArray) (w_Width : Int) (w_Height : Int) (w_Cells : ByteArray) (w_X : Int) (w_Y : Int) (w_Way : Int) (steps : Int) : impl_isGoing (k + 1) ((w_Rule, w_Width, w_Height, w_Cells, w_X, w_Y, w_Way), steps) =
  (impl_IsWorld k (w_Rule, w_Width, w_Height, w_Cells, w_X, w_Y, w_Way)).bind fun r1 =>
  cond r1
  ((impl_within k (steps, 0, 3000)).bind fun r2 =>
   some r2)
  (some false) := by kernel_rfl
theorem impl_WorldAfter_l.eq (k : Nat) (w_Rule : ByteArray) (w_Width : Int) (w_Height : Int) (w_Cells : ByteArray) (w_X : Int) (w_Y : Int) (w_Way : Int) (t4_Rule : ByteArray) (t4_Width : Int) (t4_Height : Int) (t4_Cells : ByteArray) (t4_X : Int) (t4_Y : Int) (t4_Way : Int) (t11 : Int) (t12 : Int) : impl_WorldAfter_l (k + 1) ((w_Rule, w_Width, w_Height, w_Cells, w_X, w_Y, w_Way), (t4_Rule, t4_Width, t4_Height, t4_Cells, t4_X, t4_Y, t4_Way), t11, t12) =
  cond (decide (t12 < t11))
  ((impl_World_step k (w_Rule, w_Width, w_Height, w_Cells, w_X, w_Y, w_Way)).bind fun r1 =>
   impl_WorldAfter_l k (r1, (t4_Rule, t4_Width, t4_Height, t4_Cells, t4_X, t4_Y, t4_Way), t11, (w64 (t12 + 1))))
  (some ((w_Rule, w_Width, w_Height, w_Cells, w_X, w_Y, w_Way), (t4_Rule, t4_Width, t4_Height, t4_Cells, t4_X, t4_Y, t4_Way))) := by kernel_rfl
theorem impl_World_step.eq (k : Nat) (w_Rule : ByteArray) (w_Width : Int) (w_Height : Int) (w_Cells : ByteArray) (w_X : Int) (w_Y : Int) (w_Way : Int) : impl_World_step (k + 1) (w_Rule, w_Width, w_Height, w_Cells, w_X, w_Y, w_Way) =
  (impl_World_colour k (w_Rule, w_Width, w_Height, w_Cells, w_X, w_Y, w_Way)).bind fun r1 =>
  cond (inB r1 w_Rule.size)
  ((impl_quarters k (bt w_Rule r1.toNat)).bind fun r2 =>
   (impl_World_at k (w_Rule, w_Width, w_Height, w_Cells, w_X, w_Y, ((w64 (w_Way + r2)).tmod 4))).bind fun r3 =>
   cond ((w_Rule.size : Int) != 0)
   ((impl_painted k (w_Cells, r3, ((w64 (r1 + 1)).tmod (w_Rule.size : Int)))).bind fun r4 =>
    (impl_World_gone k ((w_Rule, w_Width, w_Height, r4, w_X, w_Y, ((w64 (w_Way + r2)).tmod 4)), 1)).bind fun r5 =>
    some r5)
   (none))
  (none) := by kernel_rfl
theorem impl_World_colour.eq (k : Nat) (w_Rule : ByteArray) (w_Width : Int) (w_Height : Int) (w_Cells : ByteArray) (w_X : Int) (w_Y : Int) (w_Way : Int) : impl_World_colour (k + 1) (w_Rule, w_Width, w_Height, w_Cells, w_X, w_Y, w_Way) =
  (impl_World_at k (w_Rule, w_Width, w_Height, w_Cells, w_X, w_Y, w_Way)).bind fun r1 =>
  cond (inB r1 w_Cells.size)
  (some (w64 (w8 ((bt w_Cells r1.toNat) - 48))))
  (none) := by kernel_rfl
theorem impl_World_at.eq (k : Nat) (w_Rule : ByteArray) (w_Width : Int) (w_Height : Int) (w_Cells : ByteArray) (w_X : Int) (w_Y : Int) (w_Way : Int) : impl_World_at (k + 1) (w_Rule, w_Width, w_Height, w_Cells, w_X, w_Y, w_Way) =
  some (w64 ((w64 (w_Y * w_Width)) + w_X)) := by kernel_rfl
theorem impl_quarters.eq (k : Nat) (sign : Int) : impl_quarters (k + 1) sign =
  cond (sign == 76)
  (some 3)
  (cond (sign == 82)
   (some 1)
   (cond (sign == 85)
    (some 2)
    (some 0))) := by kernel_rfl
theorem impl_painted.eq (k : Nat) (cells : ByteArray) (k_ : Int) (tint : Int) : impl_painted (k + 1) (cells, k_, tint) =
  cond (inB k_ ((bytesOf cells).length))
  (some (ofBytes ((bytesOf cells).set k_.toNat (w8 (w64 (48 + tint))))))
  (none) := by kernel_rfl
theorem impl_ParseWorld.eq (k : Nat) (s : ByteArray) : impl_ParseWorld (k + 1) s =
  (strings_Split k (s, (bs [58]))).bind fun r1 =>
  cond ((r1.length : Int) != 4)
  (some ((ByteArray.empty, 0, 0, ByteArray.empty, 0, 0, 0), false))
  (cond (inB 1 r1.length)
   ((impl_numbers k ((r1.getD 1 default), (bs [120]), 2, 9)).bind fun r2 =>
    cond (inB 3 r1.length)
    ((impl_numbers k ((r1.getD 3 default), (bs [44]), 3, 9)).bind fun r3 =>
     cond (inB 0 r1.length)
     (cond (inB 0 r2.1.length)
      (cond (inB 1 r2.1.length)
       (cond (inB 2 r1.length)
        (cond (inB 0 r3.1.length)
         (cond (inB 1 r3.1.length)
          (cond (inB 2 r3.1.length)
           (cond (!r2.2)
            (some ((ByteArray.empty, 0, 0, ByteArray.empty, 0, 0, 0), false))
            (cond (!r3.2)
             (some ((ByteArray.empty, 0, 0, ByteArray.empty, 0, 0, 0), false))
             ((impl_IsWorld k ((r1.getD 0 default), (r2.1.getD 0 default), (r2.1.getD 1 default), (r1.getD 2 default), (r3.1.getD 0 default), (r3.1.getD 1 default), (r3.1.getD 2 default))).bind fun r4 =>
              cond (!r4)
              (some ((ByteArray.empty, 0, 0, ByteArray.empty, 0, 0, 0), false))
              (some (((r1.getD 0 default), (r2.1.getD 0 default), (r2.1.getD 1 default), (r1.getD 2 default), (r3.1.getD 0 default), (r3.1.getD 1 default), (r3.1.getD 2 default)), true)))))
           (none))
          (none))
         (none))
        (none))
       (none))
      (none))
     (none))
    (none))
   (none)) := by kernel_rfl
theorem strings_Split.eq (k : Nat) (d : ByteArray × ByteArray) : strings_Split (k + 1) d = (fun d => strSplit1 d.1 d.2) d := by kernel_rfl
theorem impl_numbers.eq (k : Nat) (s : ByteArray) (by_ : ByteArray) (many : Int) (most : Int) : impl_numbers (k + 1) (s, by_, many, most) =
  (strings_Split k (s, by_)).bind fun r1 =>
  (impl_numbers_l k (many, most, [], r1, (r1.length : Int), 0)).bind fun r2 =>
  r2.elim
  (fun r3 => some r3)
  (fun r4 => cond ((r4.2.length : Int) != r4.1)
   (cond (((decide ((0 : Int) ≤ r4.1)) && (decide (r4.1 ≤ r4.1))) && (fits r4.1.toNat 8))
    (some ((List.replicate r4.1.toNat 0), false))
    (none))
   (some (r4.2, true))) := by kernel_rfl
theorem impl_numbers_l.eq (k : Nat) (many : Int) (most : Int) (out : List Int) (t18 : List ByteArray) (t19 : Int) (t20 : Int) : impl_numbers_l (k + 1) (many, most, out, t18, t19, t20) =
  cond (decide (t20 < t19))
  (cond (inB t20 t18.length)
   ((impl_number k ((t18.getD t20.toNat default), most)).bind fun r1 =>
    cond (!r1.2)
    (cond (((decide ((0 : Int) ≤ many)) && (decide (many ≤ many))) && (fits many.toNat 8))
     (some (.inl ((List.replicate many.toNat 0), false)))
     (none))
    (cond (fits (out.length + 1) 8)
     (impl_numbers_l k (many, most, (out ++ [r1.1]), t18, t19, (w64 (t20 + 1))))
     (none)))
   (none))
  (some (.inr (many, out))) := by kernel_rfl
theorem impl_number.eq (k : Nat) (d : ByteArray × Int) : impl_number (k + 1) d = (fun d => numB d.1 d.2) d := by kernel_rfl
theorem laws_FnWorldsTurned_c_l.eq (k : Nat) (more : List Int) (w_Rule : ByteArray) (w_Width : Int) (w_Height : Int) (w_Cells : ByteArray) (w_X : Int) (w_Y : Int) (w_Way : Int) (now_Rule : ByteArray) (now_Width : Int) (now_Height : Int) (now_Cells : ByteArray) (now_X : Int) (now_Y : Int) (now_Way : Int) (k_ : Int) : laws_FnWorldsTurned_c_l (k + 1) (more, (w_Rule, w_Width, w_Height, w_Cells, w_X, w_Y, w_Way), (now_Rule, now_Width, now_Height, now_Cells, now_X, now_Y, now_Way), k_) =
  cond (decide (k_ < 4))
  ((impl_TurnWorld k (now_Rule, now_Width, now_Height, now_Cells, now_X, now_Y, now_Way)).bind fun r1 =>
   cond (!r1.2)
   (some (.inl false))
   (laws_FnWorldsTurned_c_l k (more, (w_Rule, w_Width, w_Height, w_Cells, w_X, w_Y, w_Way), r1.1, (w64 (k_ + 1)))))
  (some (.inr (more, (w_Rule, w_Width, w_Height, w_Cells, w_X, w_Y, w_Way), (now_Rule, now_Width, now_Height, now_Cells, now_X, now_Y, now_Way)))) := by kernel_rfl
theorem laws_FnWorldsTurned_c_c.eq (k : Nat) (more : List Int) : laws_FnWorldsTurned_c_c (k + 1) more =
  (spec_DrawShiftWorld k more).bind fun r1 =>
  (impl_ShiftWorld k r1).bind fun r2 =>
  (spec_ShiftWorld k r1).bind fun r3 =>
  (spec_DrawPaintCell k more).bind fun r4 =>
  (impl_PaintCell k r4).bind fun r5 =>
  (spec_PaintCell k r4).bind fun r6 =>
  (spec_DrawPlaceAnt k more).bind fun r7 =>
  (impl_PlaceAnt k r7).bind fun r8 =>
  (spec_PlaceAnt k r7).bind fun r9 =>
  (spec_DrawColourAt k more).bind fun r10 =>
  (impl_ColourAt k r10).bind fun r11 =>
  (spec_ColourAt k r10).bind fun r12 =>
  (spec_DrawEmptyWorld k more).bind fun r13 =>
  (impl_EmptyWorld k r13).bind fun r14 =>
  (spec_EmptyWorld k r13).bind fun r15 =>
  (impl_OtherRule k r13.1).bind fun r16 =>
  (spec_OtherRule k r13.1).bind fun r17 =>
  (spec_DrawParseWorld k more).bind fun r18 =>
  (impl_ParseWorld k r18).bind fun r19 =>
  (spec_ParseWorld k r18).bind fun r20 =>
  cond (!(r2.2 == r3.2))
  (some false)
  (cond (!((r2.1.1 == r3.1.1) && ((r2.1.2.1 == r3.1.2.1) && ((r2.1.2.2.1 == r3.1.2.2.1) && ((r2.1.2.2.2.1 == r3.1.2.2.2.1) && ((r2.1.2.2.2.2.1 == r3.1.2.2.2.2.1) && ((r2.1.2.2.2.2.2.1 == r3.1.2.2.2.2.2.1) && ((r2.1.2.2.2.2.2.2 == r3.1.2.2.2.2.2.2) && true))))))))
   (some false)
   (cond (!(r5.2 == r6.2))
    (some false)
    (cond (!((r5.1.1 == r6.1.1) && ((r5.1.2.1 == r6.1.2.1) && ((r5.1.2.2.1 == r6.1.2.2.1) && ((r5.1.2.2.2.1 == r6.1.2.2.2.1) && ((r5.1.2.2.2.2.1 == r6.1.2.2.2.2.1) && ((r5.1.2.2.2.2.2.1 == r6.1.2.2.2.2.2.1) && ((r5.1.2.2.2.2.2.2 == r6.1.2.2.2.2.2.2) && true))))))))
     (some false)
     (cond (!(r8.2 == r9.2))
      (some false)
      (cond (!((r8.1.1 == r9.1.1) && ((r8.1.2.1 == r9.1.2.1) && ((r8.1.2.2.1 == r9.1.2.2.1) && ((r8.1.2.2.2.1 == r9.1.2.2.2.1) && ((r8.1.2.2.2.2.1 == r9.1.2.2.2.2.1) && ((r8.1.2.2.2.2.2.1 == r9.1.2.2.2.2.2.1) && ((r8.1.2.2.2.2.2.2 == r9.1.2.2.2.2.2.2) && true))))))))
       (some false)
       (cond (!(r11.2 == r12.2))
        (some false)
        (cond (r11.1 != r12.1)
         (some false)
         (cond (!(r14.2 == r15.2))
          (some false)
          (cond (!((r14.1.1 == r15.1.1) && ((r14.1.2.1 == r15.1.2.1) && ((r14.1.2.2.1 == r15.1.2.2.1) && ((r14.1.2.2.2.1 == r15.1.2.2.2.1) && ((r14.1.2.2.2.2.1 == r15.1.2.2.2.2.1) && ((r14.1.2.2.2.2.2.1 == r15.1.2.2.2.2.2.1) && ((r14.1.2.2.2.2.2.2 == r15.1.2.2.2.2.2.2) && true))))))))
           (some false)
           (cond (!(r16.2 == r17.2))
            (some false)
            (cond (!(strEq r16.1 r17.1))
             (some false)
             (cond (!(r19.2 == r20.2))
              (some false)
              (cond (!((r19.1.1 == r20.1.1) && ((r19.1.2.1 == r20.1.2.1) && ((r19.1.2.2.1 == r20.1.2.2.1) && ((r19.1.2.2.2.1 == r20.1.2.2.2.1) && ((r19.1.2.2.2.2.1 == r20.1.2.2.2.2.1) && ((r19.1.2.2.2.2.2.1 == r20.1.2.2.2.2.2.1) && ((r19.1.2.2.2.2.2.2 == r20.1.2.2.2.2.2.2) && true))))))))
               (some false)
               ((impl_IsRule k r13.1).bind fun r21 =>
                cond (!(r16.2 == r21))
                (some false)
                ((impl_IsRule k r13.1).bind fun r22 =>
                 (spec_IsRule k r13.1).bind fun r23 =>
                 cond (!(r22 == r23))
                 (some false)
                 ((laws_FnWorldsTurned_c_c_c k (r1.1, r1.2.1, r1.2.2, r2.1, r2.2, r4.1, r4.2.1, r4.2.2.1, r4.2.2.2, r5.1, r5.2, r7.1, r7.2.1, r7.2.2.1, r7.2.2.2, r8.1, r8.2, r13.1, r13.2.1, r13.2.2, r14.1, r14.2, r16.1, r16.2, r18, r19.1, r19.2)).bind fun r24 =>
                  some r24)))))))))))))))) := by kernel_rfl
theorem spec_DrawShiftWorld.eq (k : Nat) (code : List Int) : spec_DrawShiftWorld (k + 1) code =
  (spec_DrawColourAt k code).bind fun r1 =>
  some r1 := by kernel_rfl
theorem spec_DrawColourAt.eq (k : Nat) (code : List Int) : spec_DrawColourAt (k + 1) code =
  (spec_l1Cur_world k (code, 0, 0)).bind fun r1 =>
  (spec_l1Cur_pick k (r1.2, 6)).bind fun r2 =>
  (spec_l1Cur_pick k (r2.2, 12)).bind fun r3 =>
  (spec_l1Cur_pick k (r3.2, 6)).bind fun r4 =>
  some (r1.1, (w64 (r2.1 - (w64 (r3.1.tdiv 11)))), r4.1) := by kernel_rfl
theorem impl_ShiftWorld.eq (k : Nat) (w_Rule : ByteArray) (w_Width : Int) (w_Height : Int) (w_Cells : ByteArray) (w_X : Int) (w_Y : Int) (w_Way : Int) (right : Int) (down : Int) : impl_ShiftWorld (k + 1) ((w_Rule, w_Width, w_Height, w_Cells, w_X, w_Y, w_Way), right, down) =
  (impl_isPlace k ((w_Rule, w_Width, w_Height, w_Cells, w_X, w_Y, w_Way), right, down)).bind fun r1 =>
  cond (!r1)
  (some ((ByteArray.empty, 0, 0, ByteArray.empty, 0, 0, 0), false))
  ((impl_moved_3 k (w_Cells, w_Width, w_Width, w_Height, (right, (w_Rule, w_Width, w_Height, w_Cells, w_X, w_Y, w_Way), down))).bind fun r2 =>
   (impl_ShiftWorld_1 k (w_X, w_Y, right, (w_Rule, w_Width, w_Height, r2, w_X, w_Y, w_Way), down)).bind fun r3 =>
   some ((w_Rule, w_Width, w_Height, r2, r3.1, r3.2, w_Way), true)) := by kernel_rfl
theorem impl_isPlace.eq (k : Nat) (w_Rule : ByteArray) (w_Width : Int) (w_Height : Int) (w_Cells : ByteArray) (w_X : Int) (w_Y : Int) (w_Way : Int) (x : Int) (y : Int) : impl_isPlace (k + 1) ((w_Rule, w_Width, w_Height, w_Cells, w_X, w_Y, w_Way), x, y) =
  (impl_IsWorld k (w_Rule, w_Width, w_Height, w_Cells, w_X, w_Y, w_Way)).bind fun r1 =>
  cond r1
  ((impl_isAnt k (w_Width, w_Height, x, y, 0)).bind fun r2 =>
   some r2)
  (some false) := by kernel_rfl
end Go.Proofs.YtkaiidmnigpicaaGreatDoorS
