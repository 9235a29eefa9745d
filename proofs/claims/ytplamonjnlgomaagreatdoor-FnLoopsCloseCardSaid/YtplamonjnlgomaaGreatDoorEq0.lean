/- What each function computes (printed by wip/sim/gen.py). -/
import Derived.Test.YtplamonjnlgomaaGreatDoorTab
namespace Go.Proofs.YtplamonjnlgomaaGreatDoorS
open Go Go.Proofs
set_option maxRecDepth 100000
set_option linter.unusedVariables false
theorem laws_FnLoopsClose.eq (k : Nat) (code : List Int) (more : List Int) : laws_FnLoopsClose (k + 1) (code, more) =
  (laws_big k (code, more)).bind fun r1 =>
  cond r1
  (some true)
  ((spec_DrawPeriodOf k code).bind fun r2 =>
   (impl_PeriodOf k r2).bind fun r3 =>
   (spec_PeriodOf k r2).bind fun r4 =>
   (impl_AntPeriod k r2).bind fun r5 =>
   (spec_AntPeriod k r2).bind fun r6 =>
   (impl_FirstReturn k r2).bind fun r7 =>
   (spec_FirstReturn k r2).bind fun r8 =>
   (impl_CoverSteps k r2).bind fun r9 =>
   (spec_CoverSteps k r2).bind fun r10 =>
   (impl_NeverVisited k r2).bind fun r11 =>
   (spec_NeverVisited k r2).bind fun r12 =>
   cond (!(r3.2 == r4.2))
   (some false)
   (cond (r3.1 != r4.1)
    (some false)
    (cond (!(r5.2 == r6.2))
     (some false)
     (cond (r5.1 != r6.1)
      (some false)
      (cond (!(r7.2 == r8.2))
       (some false)
       (cond (r7.1 != r8.1)
        (some false)
        (cond (!(r9.2 == r10.2))
         (some false)
         (cond (r9.1 != r10.1)
          (some false)
          (cond (!(r11.2 == r12.2))
           (some false)
           ((laws_kSame k (r11.1, r12.1)).bind fun r13 =>
            cond (!r13)
            (some false)
            (cond (!(r11.2 == r3.2))
             (some false)
             (cond r3.2
              (cond (!r5.2)
               (some false)
               (cond r5.2
                (cond (!r7.2)
                 (some false)
                 ((laws_FnLoopsClose_c k (more, r2, r3.1, r3.2, r5.1, r5.2, r7.1, r9.1, r9.2, r11.1)).bind fun r14 =>
                  some r14))
                ((laws_FnLoopsClose_c k (more, r2, r3.1, r3.2, r5.1, r5.2, r7.1, r9.1, r9.2, r11.1)).bind fun r15 =>
                 some r15)))
              (cond r5.2
               (cond (!r7.2)
                (some false)
                ((laws_FnLoopsClose_c k (more, r2, r3.1, r3.2, r5.1, r5.2, r7.1, r9.1, r9.2, r11.1)).bind fun r16 =>
                 some r16))
               ((laws_FnLoopsClose_c k (more, r2, r3.1, r3.2, r5.1, r5.2, r7.1, r9.1, r9.2, r11.1)).bind fun r17 =>
                some r17)))))))))))))) := by kernel_rfl
theorem laws_big.eq (k : Nat) (code : List Int) (more : List Int) : laws_big (k + 1) (code, more) =
  cond (decide ((code.length : Int) > 1048576))
  (some true)
  (some (decide ((more.length : Int) > (w64 (1048576 - (code.length : Int)))))) := by kernel_rfl
theorem spec_DrawPeriodOf.eq (k : Nat) (code : List Int) : spec_DrawPeriodOf (k + 1) code =
  (spec_l1Cur_small k (code, 0, 0)).bind fun r1 =>
  some r1.1 := by kernel_rfl
theorem spec_l1Cur_small.eq (k : Nat) (c_code : List Int) (c_at : Int) (c_seed : Int) : spec_l1Cur_small (k + 1) (c_code, c_at, c_seed) =
  (spec_l1Cur_one k ((c_code, c_at, c_seed), 8)).bind fun r1 =>
  cond r1.1
  ((spec_l1Cur_world k r1.2).bind fun r2 =>
   some r2)
  ((spec_l1Cur_sureWorld k (r1.2, 3)).bind fun r3 =>
   some r3) := by kernel_rfl
theorem spec_l1Cur_one.eq (k : Nat) (c_code : List Int) (c_at : Int) (c_seed : Int) (n : Int) : spec_l1Cur_one (k + 1) ((c_code, c_at, c_seed), n) =
  (spec_l1Cur_pick k ((c_code, c_at, c_seed), n)).bind fun r1 =>
  some ((r1.1 == 0), r1.2) := by kernel_rfl
theorem spec_l1Cur_pick.eq (k : Nat) (c_code : List Int) (c_at : Int) (c_seed : Int) (n : Int) : spec_l1Cur_pick (k + 1) ((c_code, c_at, c_seed), n) =
  cond (decide (n ≤ 1))
  (some (0, (c_code, c_at, c_seed)))
  ((spec_l1Cur_next k (c_code, c_at, c_seed)).bind fun r1 =>
   cond (decide (n > 200))
   ((spec_l1Cur_next k r1.2).bind fun r2 =>
    cond (n != 0)
    (some (((w64 ((w64 (r1.1 * 256)) + r2.1)).tmod n), r2.2))
    (none))
   (cond (n != 0)
    (some ((r1.1.tmod n), r1.2))
    (none))) := by kernel_rfl
theorem spec_l1Cur_next.eq (k : Nat) (c_code : List Int) (c_at : Int) (c_seed : Int) : spec_l1Cur_next (k + 1) (c_code, c_at, c_seed) =
  cond (decide (c_at < (c_code.length : Int)))
  (cond (inB c_at c_code.length)
   (cond (decide ((w64 (c_at + 1)) ≤ (c_code.length : Int)))
    (some ((w64 (c_code.getD c_at.toNat default)), (c_code, (w64 (c_at + 1)), (IntKind.u64.wrap ((IntKind.u64.wrap ((IntKind.u64.wrap (c_seed * 6364136223846793005)) + (IntKind.u64.wrap (w64 (c_code.getD c_at.toNat default))))) + 1442695040888963407)))))
    (some ((w64 (andI .u64 (shrI .u64 (IntKind.u64.wrap ((IntKind.u64.wrap ((IntKind.u64.wrap (c_seed * 6364136223846793005)) + (IntKind.u64.wrap (w64 (c_code.getD c_at.toNat default))))) + 1442695040888963407)) 40) 255)), (c_code, (w64 (c_at + 1)), (IntKind.u64.wrap ((IntKind.u64.wrap ((IntKind.u64.wrap (c_seed * 6364136223846793005)) + (IntKind.u64.wrap (w64 (c_code.getD c_at.toNat default))))) + 1442695040888963407))))))
   (none))
  (cond (decide ((w64 (c_at + 1)) ≤ (c_code.length : Int)))
   (some (0, (c_code, (w64 (c_at + 1)), (IntKind.u64.wrap ((IntKind.u64.wrap ((IntKind.u64.wrap (c_seed * 6364136223846793005)) + 0)) + 1442695040888963407)))))
   (some ((w64 (andI .u64 (shrI .u64 (IntKind.u64.wrap ((IntKind.u64.wrap ((IntKind.u64.wrap (c_seed * 6364136223846793005)) + 0)) + 1442695040888963407)) 40) 255)), (c_code, (w64 (c_at + 1)), (IntKind.u64.wrap ((IntKind.u64.wrap ((IntKind.u64.wrap (c_seed * 6364136223846793005)) + 0)) + 1442695040888963407)))))) := by kernel_rfl
theorem spec_l1Cur_world.eq (k : Nat) (c_code : List Int) (c_at : Int) (c_seed : Int) : spec_l1Cur_world (k + 1) (c_code, c_at, c_seed) =
  (spec_l1Cur_sureWorld k ((c_code, c_at, c_seed), 5)).bind fun r1 =>
  (spec_l1Cur_pick k (r1.2, 18)).bind fun r2 =>
  cond (r2.1 == 0)
  ((spec_l1Cur_rule k r2.2).bind fun r3 =>
   some ((r3.1, r1.1.2.1, r1.1.2.2.1, r1.1.2.2.2.1, r1.1.2.2.2.2.1, r1.1.2.2.2.2.2.1, r1.1.2.2.2.2.2.2), r3.2))
  (cond (r2.1 == 1)
   ((spec_l1Cur_among k (r2.2, [0, 1, 10, (-1), 4611686018427387904])).bind fun r4 =>
    some ((r1.1.1, r4.1, r1.1.2.2.1, r1.1.2.2.2.1, r1.1.2.2.2.2.1, r1.1.2.2.2.2.2.1, r1.1.2.2.2.2.2.2), r4.2))
   (cond (r2.1 == 2)
    ((spec_l1Cur_of k (r2.2, [(bs [48]), ByteArray.empty, (bs [55])])).bind fun r5 =>
     cond (fitS r1.1.2.2.2.1 r5.1)
     (some ((r1.1.1, r1.1.2.1, r1.1.2.2.1, (r1.1.2.2.2.1 ++ r5.1), r1.1.2.2.2.2.1, r1.1.2.2.2.2.2.1, r1.1.2.2.2.2.2.2), r5.2))
     (none))
    (cond (r2.1 == 3)
     ((spec_l1Cur_among k (r2.2, [(-1), 0, 9, 4611686018427387904])).bind fun r6 =>
      (spec_l1Cur_among k (r6.2, [0, 4, (-1), 3])).bind fun r7 =>
      some ((r1.1.1, r1.1.2.1, r1.1.2.2.1, r1.1.2.2.2.1, r6.1, r1.1.2.2.2.2.2.1, r7.1), r7.2))
     (some (r1.1, r2.2))))) := by kernel_rfl
theorem spec_l1Cur_sureWorld.eq (k : Nat) (c_code : List Int) (c_at : Int) (c_seed : Int) (most : Int) : spec_l1Cur_sureWorld (k + 1) ((c_code, c_at, c_seed), most) =
  (spec_l1Cur_sureRule k (c_code, c_at, c_seed)).bind fun r1 =>
  (spec_l1Cur_pick k (r1.2, most)).bind fun r2 =>
  (spec_l1Cur_pick k (r2.2, most)).bind fun r3 =>
  (spec_l1Cur_one k (r3.2, 2)).bind fun r4 =>
  (spec_l1Cur_sureWorld_l k (r4.2, (ByteArray.empty, 0, 0, ByteArray.empty, 0, 0, 0), (r1.1, (w64 (1 + r2.1)), (w64 (1 + r3.1)), ByteArray.empty, 0, 0, 0), r4.1, (w64 ((w64 (1 + r2.1)) * (w64 (1 + r3.1)))), ())).bind fun r5 =>
  (spec_l1Cur_pick k (r5.1, r5.2.2.1.2.1)).bind fun r6 =>
  (spec_l1Cur_pick k (r6.2, r5.2.2.1.2.2.1)).bind fun r7 =>
  (spec_l1Cur_pick k (r7.2, 4)).bind fun r8 =>
  some ((r5.2.2.1.1, r5.2.2.1.2.1, r5.2.2.1.2.2.1, r5.2.2.1.2.2.2.1, r6.1, r7.1, r8.1), r8.2) := by kernel_rfl
theorem spec_l1Cur_sureRule.eq (k : Nat) (c_code : List Int) (c_at : Int) (c_seed : Int) : spec_l1Cur_sureRule (k + 1) (c_code, c_at, c_seed) =
  (spec_l1Cur_one k ((c_code, c_at, c_seed), 3)).bind fun r1 =>
  cond r1.1
  (some ((bs [76, 82]), r1.2))
  ((spec_l1Cur_pick k (r1.2, 4)).bind fun r2 =>
   (spec_l1Cur_sureRule_l k (r2.2, ByteArray.empty, (w64 (1 + r2.1)), ())).bind fun r3 =>
   some r3) := by kernel_rfl
theorem spec_l1Cur_sureRule_l.eq (k : Nat) (c_code : List Int) (c_at : Int) (c_seed : Int) (out : ByteArray) (k_ : Int) : spec_l1Cur_sureRule_l (k + 1) ((c_code, c_at, c_seed), out, k_, ()) =
  cond (decide (k_ > 0))
  ((spec_l1Cur_of k ((c_code, c_at, c_seed), [(bs [76]), (bs [82]), (bs [76]), (bs [82]), (bs [78]), (bs [85])])).bind fun r1 =>
   cond (fitS out r1.1)
   (spec_l1Cur_sureRule_l k (r1.2, (out ++ r1.1), (w64 (k_ - 1)), ()))
   (none))
  (some (out, (c_code, c_at, c_seed))) := by kernel_rfl
theorem spec_l1Cur_of.eq (k : Nat) (c_code : List Int) (c_at : Int) (c_seed : Int) (list : List ByteArray) : spec_l1Cur_of (k + 1) ((c_code, c_at, c_seed), list) =
  (spec_l1Cur_pick k ((c_code, c_at, c_seed), (list.length : Int))).bind fun r1 =>
  cond (inB r1.1 list.length)
  (some ((list.getD r1.1.toNat default), r1.2))
  (none) := by kernel_rfl
theorem spec_l1Cur_sureWorld_l.eq (k : Nat) (c_code : List Int) (c_at : Int) (c_seed : Int) (t4_Rule : ByteArray) (t4_Width : Int) (t4_Height : Int) (t4_Cells : ByteArray) (t4_X : Int) (t4_Y : Int) (t4_Way : Int) (w_Rule : ByteArray) (w_Width : Int) (w_Height : Int) (w_Cells : ByteArray) (w_X : Int) (w_Y : Int) (w_Way : Int) (blank : Bool) (k_ : Int) : spec_l1Cur_sureWorld_l (k + 1) ((c_code, c_at, c_seed), (t4_Rule, t4_Width, t4_Height, t4_Cells, t4_X, t4_Y, t4_Way), (w_Rule, w_Width, w_Height, w_Cells, w_X, w_Y, w_Way), blank, k_, ()) =
  cond (decide (k_ > 0))
  (cond blank
   (cond (fitS w_Cells (bs [48]))
    (spec_l1Cur_sureWorld_l k ((c_code, c_at, c_seed), (t4_Rule, t4_Width, t4_Height, t4_Cells, t4_X, t4_Y, t4_Way), (w_Rule, w_Width, w_Height, (w_Cells ++ (bs [48])), w_X, w_Y, w_Way), blank, (w64 (k_ - 1)), ()))
    (none))
   ((spec_l1Cur_pick k ((c_code, c_at, c_seed), (w_Rule.size : Int))).bind fun r1 =>
    (spec_l1Num k r1.1).bind fun r2 =>
    cond (fitS w_Cells r2)
    (spec_l1Cur_sureWorld_l k (r1.2, (t4_Rule, t4_Width, t4_Height, t4_Cells, t4_X, t4_Y, t4_Way), (w_Rule, w_Width, w_Height, (w_Cells ++ r2), w_X, w_Y, w_Way), blank, (w64 (k_ - 1)), ()))
    (none)))
  (some ((c_code, c_at, c_seed), (t4_Rule, t4_Width, t4_Height, t4_Cells, t4_X, t4_Y, t4_Way), (w_Rule, w_Width, w_Height, w_Cells, w_X, w_Y, w_Way), ())) := by kernel_rfl
theorem spec_l1Num.eq (k : Nat) (n : Int) : spec_l1Num (k + 1) n =
  cond (decide (n < 10))
  (some (ofBytes [(w8 (w64 (48 + n)))]))
  ((spec_l1Num k (w64 (n.tdiv 10))).bind fun r1 =>
   cond (fitS r1 (ofBytes [(w8 (w64 (48 + (n.tmod 10))))]))
   (some (r1 ++ (ofBytes [(w8 (w64 (48 + (n.tmod 10))))])))
   (none)) := by kernel_rfl
theorem spec_l1Cur_rule.eq (k : Nat) (c_code : List Int) (c_at : Int) (c_seed : Int) : spec_l1Cur_rule (k + 1) (c_code, c_at, c_seed) =
  (spec_l1Cur_one k ((c_code, c_at, c_seed), 12)).bind fun r1 =>
  cond r1.1
  ((spec_l1Cur_of k (r1.2, [ByteArray.empty, (bs [76, 82, 76, 82, 76, 82, 76]), (bs [88]), (bs [108, 114]), (bs [76, 32, 82])])).bind fun r2 =>
   some r2)
  ((spec_l1Cur_sureRule k r1.2).bind fun r3 =>
   some r3) := by kernel_rfl
theorem spec_l1Cur_among.eq (k : Nat) (c_code : List Int) (c_at : Int) (c_seed : Int) (list : List Int) : spec_l1Cur_among (k + 1) ((c_code, c_at, c_seed), list) =
  (spec_l1Cur_pick k ((c_code, c_at, c_seed), (list.length : Int))).bind fun r1 =>
  cond (inB r1.1 list.length)
  (some ((list.getD r1.1.toNat default), r1.2))
  (none) := by kernel_rfl
theorem impl_PeriodOf.eq (k : Nat) (w_Rule : ByteArray) (w_Width : Int) (w_Height : Int) (w_Cells : ByteArray) (w_X : Int) (w_Y : Int) (w_Way : Int) : impl_PeriodOf (k + 1) (w_Rule, w_Width, w_Height, w_Cells, w_X, w_Y, w_Way) =
  (impl_search k ((w_Rule, w_Width, w_Height, w_Cells, w_X, w_Y, w_Way), 1, (w_Rule, w_Width, w_Height, w_Cells, w_X, w_Y, w_Way))).bind fun r1 =>
  some r1 := by kernel_rfl
theorem impl_search.eq (k : Nat) (w_Rule : ByteArray) (w_Width : Int) (w_Height : Int) (w_Cells : ByteArray) (w_X : Int) (w_Y : Int) (w_Way : Int) (least : Int) (accept_0 : ByteArray) (accept_01 : Int) (accept_02 : Int) (accept_03 : ByteArray) (accept_04 : Int) (accept_05 : Int) (accept_06 : Int) : impl_search (k + 1) ((w_Rule, w_Width, w_Height, w_Cells, w_X, w_Y, w_Way), least, (accept_0, accept_01, accept_02, accept_03, accept_04, accept_05, accept_06)) =
  (impl_IsWorld k (w_Rule, w_Width, w_Height, w_Cells, w_X, w_Y, w_Way)).bind fun r1 =>
  cond (!r1)
  (some (0, false))
  ((impl_search_l k (least, (accept_0, accept_01, accept_02, accept_03, accept_04, accept_05, accept_06), (w_Rule, w_Width, w_Height, w_Cells, w_X, w_Y, w_Way), 0)).bind fun r2 =>
   r2.elim
   (fun r3 => some r3)
   (fun r4 => some (0, false))) := by kernel_rfl
theorem impl_IsWorld.eq (k : Nat) (w_Rule : ByteArray) (w_Width : Int) (w_Height : Int) (w_Cells : ByteArray) (w_X : Int) (w_Y : Int) (w_Way : Int) : impl_IsWorld (k + 1) (w_Rule, w_Width, w_Height, w_Cells, w_X, w_Y, w_Way) =
  (impl_IsRule k w_Rule).bind fun r1 =>
  cond r1
  ((impl_isSize k (w_Width, w_Height)).bind fun r2 =>
   cond r2
   ((impl_areCells k (w_Cells, (w64 (w_Width * w_Height)), (w_Rule.size : Int))).bind fun r3 =>
    cond r3
    ((impl_isAnt k (w_Width, w_Height, w_X, w_Y, w_Way)).bind fun r4 =>
     some r4)
    (some false))
   (some false))
  (some false) := by kernel_rfl
theorem impl_IsRule.eq (k : Nat) (rule : ByteArray) : impl_IsRule (k + 1) rule =
  (impl_within k ((rule.size : Int), 1, 6)).bind fun r1 =>
  cond r1
  ((strings_Trim k (rule, (bs [76, 82, 78, 85]))).bind fun r2 =>
   some (strEq r2 ByteArray.empty))
  (some false) := by kernel_rfl
theorem impl_within.eq (k : Nat) (n : Int) (low : Int) (high : Int) : impl_within (k + 1) (n, low, high) =
  cond (decide (low ≤ n))
  (some (decide (n ≤ high)))
  (some false) := by kernel_rfl
theorem strings_Trim.eq (k : Nat) (d : ByteArray × ByteArray) : strings_Trim (k + 1) d = (fun d => strTrim d.1 d.2) d := by kernel_rfl
theorem impl_isSize.eq (k : Nat) (width : Int) (height : Int) : impl_isSize (k + 1) (width, height) =
  (impl_within k (width, 1, 9)).bind fun r1 =>
  cond r1
  ((impl_within k (height, 1, 9)).bind fun r2 =>
   some r2)
  (some false) := by kernel_rfl
theorem impl_areCells.eq (k : Nat) (cells : ByteArray) (many : Int) (tints : Int) : impl_areCells (k + 1) (cells, many, tints) =
  (impl_areCells_l k (cells, many, tints, (cells.size : Int), 0)).bind fun r1 =>
  r1.elim
  (fun r2 => some r2)
  (fun r3 => some ((r3.1.size : Int) == r3.2)) := by kernel_rfl
theorem impl_areCells_l.eq (k : Nat) (cells : ByteArray) (many : Int) (tints : Int) (t9 : Int) (t10 : Int) : impl_areCells_l (k + 1) (cells, many, tints, t9, t10) =
  cond (decide (t10 < t9))
  (cond (inB t10 cells.size)
   ((impl_within k ((w64 ((w64 (bt cells t10.toNat)) - 48)), 0, (w64 (tints - 1)))).bind fun r1 =>
    cond (!r1)
    (some (.inl false))
    (impl_areCells_l k (cells, many, tints, t9, (w64 (t10 + 1)))))
   (none))
  (some (.inr (cells, many))) := by kernel_rfl
theorem impl_isAnt.eq (k : Nat) (width : Int) (height : Int) (x : Int) (y : Int) (way : Int) : impl_isAnt (k + 1) (width, height, x, y, way) =
  (impl_within k (x, 0, (w64 (width - 1)))).bind fun r1 =>
  cond r1
  ((impl_within k (y, 0, (w64 (height - 1)))).bind fun r2 =>
   cond r2
   ((impl_isWay k way).bind fun r3 =>
    some r3)
   (some false))
  (some false) := by kernel_rfl
theorem impl_isWay.eq (k : Nat) (way : Int) : impl_isWay (k + 1) way =
  (impl_within k (way, 0, 3)).bind fun r1 =>
  some r1 := by kernel_rfl
theorem impl_search_l.eq (k : Nat) (least : Int) (accept_0 : ByteArray) (accept_01 : Int) (accept_02 : Int) (accept_03 : ByteArray) (accept_04 : Int) (accept_05 : Int) (accept_06 : Int) (w_Rule : ByteArray) (w_Width : Int) (w_Height : Int) (w_Cells : ByteArray) (w_X : Int) (w_Y : Int) (w_Way : Int) (t12 : Int) : impl_search_l (k + 1) (least, (accept_0, accept_01, accept_02, accept_03, accept_04, accept_05, accept_06), (w_Rule, w_Width, w_Height, w_Cells, w_X, w_Y, w_Way), t12) =
  cond (decide (t12 < 4001))
  (cond (decide (t12 ≥ least))
   ((impl_PeriodOf_1 k ((w_Rule, w_Width, w_Height, w_Cells, w_X, w_Y, w_Way), (accept_0, accept_01, accept_02, accept_03, accept_04, accept_05, accept_06))).bind fun r1 =>
    cond r1
    (some (.inl (t12, true)))
    ((impl_World_step k (w_Rule, w_Width, w_Height, w_Cells, w_X, w_Y, w_Way)).bind fun r2 =>
     impl_search_l k (least, (accept_0, accept_01, accept_02, accept_03, accept_04, accept_05, accept_06), r2, (w64 (t12 + 1)))))
   ((impl_World_step k (w_Rule, w_Width, w_Height, w_Cells, w_X, w_Y, w_Way)).bind fun r3 =>
    impl_search_l k (least, (accept_0, accept_01, accept_02, accept_03, accept_04, accept_05, accept_06), r3, (w64 (t12 + 1)))))
  (some (.inr ())) := by kernel_rfl
theorem impl_PeriodOf_1.eq (k : Nat) (v_Rule : ByteArray) (v_Width : Int) (v_Height : Int) (v_Cells : ByteArray) (v_X : Int) (v_Y : Int) (v_Way : Int) (t1_0 : ByteArray) (t1_1 : Int) (t1_2 : Int) (t1_3 : ByteArray) (t1_4 : Int) (t1_5 : Int) (t1_6 : Int) : impl_PeriodOf_1 (k + 1) ((v_Rule, v_Width, v_Height, v_Cells, v_X, v_Y, v_Way), (t1_0, t1_1, t1_2, t1_3, t1_4, t1_5, t1_6)) =
  some ((v_Rule == t1_0) && ((v_Width == t1_1) && ((v_Height == t1_2) && ((v_Cells == t1_3) && ((v_X == t1_4) && ((v_Y == t1_5) && ((v_Way == t1_6) && true))))))) := by kernel_rfl
theorem impl_World_step.eq (k : Nat) (w_Rule : ByteArray) (w_Width : Int) (w_Height : Int) (w_Cells : ByteArray) (w_X : Int) (w_Y : Int) (w_Way : Int) : impl_World_step (k + 1) (w_Rule, w_Width, w_Height, w_Cells, w_X, w_Y, w_Way) =
  (impl_World_colour k (w_Rule, w_Width, w_Height, w_Cells, w_X, w_Y, w_Way)).bind fun r1 =>
  cond (inB r1 w_Rule.size)
  ((impl_quarters k (bt w_Rule r1.toNat)).bind fun r2 =>
   (impl_World_at k (w_Rule, w_Width, w_Height, w_Cells, w_X, w_Y, ((w64 (w_Way + r2)).tmod 4))).bind fun r3 =>
   cond ((w_Rule.size : Int) != 0)
   ((impl_painted k (w_Cells, r3, ((w64 (r1 + 1)).tmod (w_Rule.size : Int)))).bind fun r4 =>
    (impl_World_gone k ((w_Rule, w_Width, w_Height, r4, w_X, w_Y, ((w64 (w_Way + r2)).tmod 4)), 1)).bind fun r5 =>
    some r5)
   (none))
  (none) := by kernel_rfl
theorem impl_World_colour.eq (k : Nat) (w_Rule : ByteArray) (w_Width : Int) (w_Height : Int) (w_Cells : ByteArray) (w_X : Int) (w_Y : Int) (w_Way : Int) : impl_World_colour (k + 1) (w_Rule, w_Width, w_Height, w_Cells, w_X, w_Y, w_Way) =
  (impl_World_at k (w_Rule, w_Width, w_Height, w_Cells, w_X, w_Y, w_Way)).bind fun r1 =>
  cond (inB r1 w_Cells.size)
  (some (w64 (w8 ((bt w_Cells r1.toNat) - 48))))
  (none) := by kernel_rfl
theorem impl_World_at.eq (k : Nat) (w_Rule : ByteArray) (w_Width : Int) (w_Height : Int) (w_Cells : ByteArray) (w_X : Int) (w_Y : Int) (w_Way : Int) : impl_World_at (k + 1) (w_Rule, w_Width, w_Height, w_Cells, w_X, w_Y, w_Way) =
  some (w64 ((w64 (w_Y * w_Width)) + w_X)) := by kernel_rfl
theorem impl_quarters.eq (k : Nat) (sign : Int) : impl_quarters (k + 1) sign =
  cond (sign == 76)
  (some 3)
  (cond (sign == 82)
   (some 1)
   (cond (sign == 85)
    (some 2)
    (some 0))) := by kernel_rfl
theorem impl_painted.eq (k : Nat) (cells : ByteArray) (k_ : Int) (tint : Int) : impl_painted (k + 1) (cells, k_, tint) =
  cond (inB k_ ((bytesOf cells).length))
  (some (ofBytes ((bytesOf cells).set k_.toNat (w8 (w64 (48 + tint))))))
  (none) := by kernel_rfl
theorem impl_World_gone.eq (k : Nat) (w_Rule : ByteArray) (w_Width : Int) (w_Height : Int) (w_Cells : ByteArray) (w_X : Int) (w_Y : Int) (w_Way : Int) (by_ : Int) : impl_World_gone (k + 1) ((w_Rule, w_Width, w_Height, w_Cells, w_X, w_Y, w_Way), by_) =
  (impl_ahead k w_Way).bind fun r1 =>
  cond (w_Width != 0)
  (cond (w_Height != 0)
   (some (w_Rule, w_Width, w_Height, w_Cells, ((w64 ((w64 (w_X + (w64 (by_ * r1.1)))) + w_Width)).tmod w_Width), ((w64 ((w64 (w_Y + (w64 (by_ * r1.2)))) + w_Height)).tmod w_Height), w_Way))
   (none))
  (none) := by kernel_rfl
theorem impl_ahead.eq (k : Nat) (way : Int) : impl_ahead (k + 1) way =
  cond (inB way 4)
  (cond (inB way 4)
   (some ((([0, 1, 0, (-1)] : List Int).getD way.toNat default), (([(-1), 0, 1, 0] : List Int).getD way.toNat default)))
   (none))
  (none) := by kernel_rfl
theorem spec_PeriodOf.eq (k : Nat) (w_Rule : ByteArray) (w_Width : Int) (w_Height : Int) (w_Cells : ByteArray) (w_X : Int) (w_Y : Int) (w_Way : Int) : spec_PeriodOf (k + 1) (w_Rule, w_Width, w_Height, w_Cells, w_X, w_Y, w_Way) =
  (spec_woGood k (w_Rule, w_Width, w_Height, w_Cells, w_X, w_Y, w_Way)).bind fun r1 =>
  cond (!r1)
  (some (0, false))
  ((spec_loPeriod k (w_Rule, w_Width, w_Height, w_Cells, w_X, w_Y, w_Way)).bind fun r2 =>
   some (r2, (decide (r2 > 0)))) := by kernel_rfl
theorem spec_woGood.eq (k : Nat) (w_Rule : ByteArray) (w_Width : Int) (w_Height : Int) (w_Cells : ByteArray) (w_X : Int) (w_Y : Int) (w_Way : Int) : spec_woGood (k + 1) (w_Rule, w_Width, w_Height, w_Cells, w_X, w_Y, w_Way) =
  (spec_woRule k w_Rule).bind fun r1 =>
  cond (!r1)
  (some false)
  ((spec_l1In k (w_Width, 1, 9)).bind fun r2 =>
   cond (!r2)
   (some false)
   ((spec_l1In k (w_Height, 1, 9)).bind fun r3 =>
    cond (!r3)
    (some false)
    (cond ((w_Cells.size : Int) != (w64 (w_Width * w_Height)))
     (some false)
     ((spec_woGood_l k ((w_Rule, w_Width, w_Height, w_Cells, w_X, w_Y, w_Way), 0)).bind fun r4 =>
      r4.elim
      (fun r5 => some r5)
      (fun r6 => (spec_l1In k (r6.2.2.2.2.1, 0, (w64 (r6.2.1 - 1)))).bind fun r7 =>
       cond r7
       ((spec_l1In k (r6.2.2.2.2.2.1, 0, (w64 (r6.2.2.1 - 1)))).bind fun r8 =>
        cond r8
        ((spec_l1In k (r6.2.2.2.2.2.2, 0, 3)).bind fun r9 =>
         some r9)
        (some false))
       (some false)))))) := by kernel_rfl
theorem spec_woRule.eq (k : Nat) (rule : ByteArray) : spec_woRule (k + 1) rule =
  (spec_l1In k ((rule.size : Int), 1, 6)).bind fun r1 =>
  cond (!r1)
  (some false)
  ((spec_woRule_l k (rule, 0)).bind fun r2 =>
   r2.elim
   (fun r3 => some r3)
   (fun r4 => some true)) := by kernel_rfl
theorem spec_l1In.eq (k : Nat) (n : Int) (lo : Int) (hi : Int) : spec_l1In (k + 1) (n, lo, hi) =
  cond (decide (n ≥ lo))
  (some (decide (n ≤ hi)))
  (some false) := by kernel_rfl
theorem spec_woRule_l.eq (k : Nat) (rule : ByteArray) (i : Int) : spec_woRule_l (k + 1) (rule, i) =
  cond (decide (i < (rule.size : Int)))
  (cond (inB i rule.size)
   (cond ((bt rule i.toNat) == 76)
    (spec_woRule_l k (rule, (w64 (i + 1))))
    (cond ((bt rule i.toNat) == 82)
     (spec_woRule_l k (rule, (w64 (i + 1))))
     (cond ((bt rule i.toNat) == 78)
      (spec_woRule_l k (rule, (w64 (i + 1))))
      (cond ((bt rule i.toNat) == 85)
       (spec_woRule_l k (rule, (w64 (i + 1))))
       (some (.inl false))))))
   (none))
  (some (.inr ())) := by kernel_rfl
theorem spec_woGood_l.eq (k : Nat) (w_Rule : ByteArray) (w_Width : Int) (w_Height : Int) (w_Cells : ByteArray) (w_X : Int) (w_Y : Int) (w_Way : Int) (i : Int) : spec_woGood_l (k + 1) ((w_Rule, w_Width, w_Height, w_Cells, w_X, w_Y, w_Way), i) =
  cond (decide (i < (w_Cells.size : Int)))
  (cond (inB i w_Cells.size)
   ((spec_l1In k ((w64 ((w64 (bt w_Cells i.toNat)) - 48)), 0, (w64 ((w_Rule.size : Int) - 1)))).bind fun r1 =>
    cond (!r1)
    (some (.inl false))
    (spec_woGood_l k ((w_Rule, w_Width, w_Height, w_Cells, w_X, w_Y, w_Way), (w64 (i + 1)))))
   (none))
  (some (.inr (w_Rule, w_Width, w_Height, w_Cells, w_X, w_Y, w_Way))) := by kernel_rfl
theorem spec_loPeriod.eq (k : Nat) (w_Rule : ByteArray) (w_Width : Int) (w_Height : Int) (w_Cells : ByteArray) (w_X : Int) (w_Y : Int) (w_Way : Int) : spec_loPeriod (k + 1) (w_Rule, w_Width, w_Height, w_Cells, w_X, w_Y, w_Way) =
  (spec_loPeriod_l k ((w_Rule, w_Width, w_Height, w_Cells, w_X, w_Y, w_Way), (w_Rule, w_Width, w_Height, w_Cells, w_X, w_Y, w_Way), 1)).bind fun r1 =>
  r1.elim
  (fun r2 => some r2)
  (fun r3 => some 0) := by kernel_rfl
theorem spec_loPeriod_l.eq (k : Nat) (w_Rule : ByteArray) (w_Width : Int) (w_Height : Int) (w_Cells : ByteArray) (w_X : Int) (w_Y : Int) (w_Way : Int) (now_Rule : ByteArray) (now_Width : Int) (now_Height : Int) (now_Cells : ByteArray) (now_X : Int) (now_Y : Int) (now_Way : Int) (steps : Int) : spec_loPeriod_l (k + 1) ((w_Rule, w_Width, w_Height, w_Cells, w_X, w_Y, w_Way), (now_Rule, now_Width, now_Height, now_Cells, now_X, now_Y, now_Way), steps) =
  cond (decide (steps ≤ 4000))
  ((spec_woStep k (now_Rule, now_Width, now_Height, now_Cells, now_X, now_Y, now_Way)).bind fun r1 =>
   cond ((r1.1 == w_Rule) && ((r1.2.1 == w_Width) && ((r1.2.2.1 == w_Height) && ((r1.2.2.2.1 == w_Cells) && ((r1.2.2.2.2.1 == w_X) && ((r1.2.2.2.2.2.1 == w_Y) && ((r1.2.2.2.2.2.2 == w_Way) && true)))))))
   (some (.inl steps))
   (spec_loPeriod_l k ((w_Rule, w_Width, w_Height, w_Cells, w_X, w_Y, w_Way), r1, (w64 (steps + 1)))))
  (some (.inr ())) := by kernel_rfl
theorem spec_woStep.eq (k : Nat) (w_Rule : ByteArray) (w_Width : Int) (w_Height : Int) (w_Cells : ByteArray) (w_X : Int) (w_Y : Int) (w_Way : Int) : spec_woStep (k + 1) (w_Rule, w_Width, w_Height, w_Cells, w_X, w_Y, w_Way) =
  (spec_woColour k ((w_Rule, w_Width, w_Height, w_Cells, w_X, w_Y, w_Way), w_X, w_Y)).bind fun r1 =>
  cond (inB r1 w_Rule.size)
  ((spec_woTurn k (bt w_Rule r1.toNat)).bind fun r2 =>
   cond ((w_Rule.size : Int) != 0)
   ((spec_woPaint k ((w_Rule, w_Width, w_Height, w_Cells, w_X, w_Y, ((w64 (w_Way + r2)).tmod 4)), w_X, w_Y, ((w64 (r1 + 1)).tmod (w_Rule.size : Int)))).bind fun r3 =>
    (spec_woGo k (r3.2, 1)).bind fun r4 =>
    some r4.2)
   (none))
  (none) := by kernel_rfl
theorem spec_woColour.eq (k : Nat) (w_Rule : ByteArray) (w_Width : Int) (w_Height : Int) (w_Cells : ByteArray) (w_X : Int) (w_Y : Int) (w_Way : Int) (x : Int) (y : Int) : spec_woColour (k + 1) ((w_Rule, w_Width, w_Height, w_Cells, w_X, w_Y, w_Way), x, y) =
  cond (inB (w64 ((w64 (y * w_Width)) + x)) w_Cells.size)
  (some (w64 (w8 ((bt w_Cells ((w64 ((w64 (y * w_Width)) + x)).toNat)) - 48))))
  (none) := by kernel_rfl
theorem spec_woTurn.eq (k : Nat) (sign : Int) : spec_woTurn (k + 1) sign =
  cond (sign == 82)
  (some 1)
  (cond (sign == 85)
   (some 2)
   (cond (sign == 76)
    (some 3)
    (some 0))) := by kernel_rfl
theorem spec_woPaint.eq (k : Nat) (w_Rule : ByteArray) (w_Width : Int) (w_Height : Int) (w_Cells : ByteArray) (w_X : Int) (w_Y : Int) (w_Way : Int) (x : Int) (y : Int) (colour : Int) : spec_woPaint (k + 1) ((w_Rule, w_Width, w_Height, w_Cells, w_X, w_Y, w_Way), x, y, colour) =
  cond ((decide ((0 : Int) ≤ (w64 ((w64 (y * w_Width)) + x)))) && (decide ((w64 ((w64 (y * w_Width)) + x)) ≤ (w_Cells.size : Int))))
  ((spec_l1Num k colour).bind fun r1 =>
   cond (fitS (w_Cells.extract 0 ((w64 ((w64 (y * w_Width)) + x)).toNat)) r1)
   (cond ((decide ((0 : Int) ≤ (w64 ((w64 ((w64 (y * w_Width)) + x)) + 1)))) && (decide ((w64 ((w64 ((w64 (y * w_Width)) + x)) + 1)) ≤ (w_Cells.size : Int))))
    (cond (fitS ((w_Cells.extract 0 ((w64 ((w64 (y * w_Width)) + x)).toNat)) ++ r1) (w_Cells.extract ((w64 ((w64 ((w64 (y * w_Width)) + x)) + 1)).toNat) w_Cells.size))
     (some ((), (w_Rule, w_Width, w_Height, (((w_Cells.extract 0 ((w64 ((w64 (y * w_Width)) + x)).toNat)) ++ r1) ++ (w_Cells.extract ((w64 ((w64 ((w64 (y * w_Width)) + x)) + 1)).toNat) w_Cells.size)), w_X, w_Y, w_Way)))
     (none))
    (none))
   (none))
  (none) := by kernel_rfl
theorem spec_woGo.eq (k : Nat) (w_Rule : ByteArray) (w_Width : Int) (w_Height : Int) (w_Cells : ByteArray) (w_X : Int) (w_Y : Int) (w_Way : Int) (cells : Int) : spec_woGo (k + 1) ((w_Rule, w_Width, w_Height, w_Cells, w_X, w_Y, w_Way), cells) =
  cond (w_Way == 0)
  ((spec_l1Mod k ((w64 (w_Y - cells)), w_Height)).bind fun r1 =>
   some ((), (w_Rule, w_Width, w_Height, w_Cells, w_X, r1, w_Way)))
  (cond (w_Way == 1)
   ((spec_l1Mod k ((w64 (w_X + cells)), w_Width)).bind fun r2 =>
    some ((), (w_Rule, w_Width, w_Height, w_Cells, r2, w_Y, w_Way)))
   (cond (w_Way == 2)
    ((spec_l1Mod k ((w64 (w_Y + cells)), w_Height)).bind fun r3 =>
     some ((), (w_Rule, w_Width, w_Height, w_Cells, w_X, r3, w_Way)))
    ((spec_l1Mod k ((w64 (w_X - cells)), w_Width)).bind fun r4 =>
     some ((), (w_Rule, w_Width, w_Height, w_Cells, r4, w_Y, w_Way))))) := by kernel_rfl
theorem spec_l1Mod.eq (k : Nat) (n : Int) (m : Int) : spec_l1Mod (k + 1) (n, m) =
  cond (m != 0)
  (cond (m != 0)
   (some ((w64 ((n.tmod m) + m)).tmod m))
   (none))
  (none) := by kernel_rfl
theorem impl_AntPeriod.eq (k : Nat) (w_Rule : ByteArray) (w_Width : Int) (w_Height : Int) (w_Cells : ByteArray) (w_X : Int) (w_Y : Int) (w_Way : Int) : impl_AntPeriod (k + 1) (w_Rule, w_Width, w_Height, w_Cells, w_X, w_Y, w_Way) =
  (impl_search_2 k ((w_Rule, w_Width, w_Height, w_Cells, w_X, w_Y, w_Way), 1, (w_Rule, w_Width, w_Height, w_Cells, w_X, w_Y, w_Way))).bind fun r1 =>
  some r1 := by kernel_rfl
theorem impl_search_2.eq (k : Nat) (w_Rule : ByteArray) (w_Width : Int) (w_Height : Int) (w_Cells : ByteArray) (w_X : Int) (w_Y : Int) (w_Way : Int) (least : Int) (accept_0 : ByteArray) (accept_01 : Int) (accept_02 : Int) (accept_03 : ByteArray) (accept_04 : Int) (accept_05 : Int) (accept_06 : Int) : impl_search_2 (k + 1) ((w_Rule, w_Width, w_Height, w_Cells, w_X, w_Y, w_Way), least, (accept_0, accept_01, accept_02, accept_03, accept_04, accept_05, accept_06)) =
  (impl_IsWorld k (w_Rule, w_Width, w_Height, w_Cells, w_X, w_Y, w_Way)).bind fun r1 =>
  cond (!r1)
  (some (0, false))
  ((impl_search_2_l k (least, (accept_0, accept_01, accept_02, accept_03, accept_04, accept_05, accept_06), (w_Rule, w_Width, w_Height, w_Cells, w_X, w_Y, w_Way), 0)).bind fun r2 =>
   r2.elim
   (fun r3 => some r3)
   (fun r4 => some (0, false))) := by kernel_rfl
theorem impl_search_2_l.eq (k : Nat) (least : Int) (accept_0 : ByteArray) (accept_01 : Int) (accept_02 : Int) (accept_03 : ByteArray) (accept_04 : Int) (accept_05 : Int) (accept_06 : Int) (w_Rule : ByteArray) (w_Width : Int) (w_Height : Int) (w_Cells : ByteArray) (w_X : Int) (w_Y : Int) (w_Way : Int) (t12 : Int) : impl_search_2_l (k + 1) (least, (accept_0, accept_01, accept_02, accept_03, accept_04, accept_05, accept_06), (w_Rule, w_Width, w_Height, w_Cells, w_X, w_Y, w_Way), t12) =
  cond (decide (t12 < 4001))
  (cond (decide (t12 ≥ least))
   ((impl_AntPeriod_1 k ((w_Rule, w_Width, w_Height, w_Cells, w_X, w_Y, w_Way), (accept_0, accept_01, accept_02, accept_03, accept_04, accept_05, accept_06))).bind fun r1 =>
    cond r1
    (some (.inl (t12, true)))
    ((impl_World_step k (w_Rule, w_Width, w_Height, w_Cells, w_X, w_Y, w_Way)).bind fun r2 =>
     impl_search_2_l k (least, (accept_0, accept_01, accept_02, accept_03, accept_04, accept_05, accept_06), r2, (w64 (t12 + 1)))))
   ((impl_World_step k (w_Rule, w_Width, w_Height, w_Cells, w_X, w_Y, w_Way)).bind fun r3 =>
    impl_search_2_l k (least, (accept_0, accept_01, accept_02, accept_03, accept_04, accept_05, accept_06), r3, (w64 (t12 + 1)))))
  (some (.inr ())) := by kernel_rfl
theorem impl_AntPeriod_1.eq (k : Nat) (v_Rule : ByteArray) (v_Width : Int) (v_Height : Int) (v_Cells : ByteArray) (v_X : Int) (v_Y : Int) (v_Way : Int) (t1_0 : ByteArray) (t1_1 : Int) (t1_2 : Int) (t1_3 : ByteArray) (t1_4 : Int) (t1_5 : Int) (t1_6 : Int) : impl_AntPeriod_1 (k + 1) ((v_Rule, v_Width, v_Height, v_Cells, v_X, v_Y, v_Way), (t1_0, t1_1, t1_2, t1_3, t1_4, t1_5, t1_6)) =
  (impl_World_at k (v_Rule, v_Width, v_Height, v_Cells, v_X, v_Y, v_Way)).bind fun r1 =>
  (impl_World_at k (t1_0, t1_1, t1_2, t1_3, t1_4, t1_5, t1_6)).bind fun r2 =>
  cond (r1 == r2)
  (some (v_Way == t1_6))
  (some false) := by kernel_rfl
theorem spec_AntPeriod.eq (k : Nat) (w_Rule : ByteArray) (w_Width : Int) (w_Height : Int) (w_Cells : ByteArray) (w_X : Int) (w_Y : Int) (w_Way : Int) : spec_AntPeriod (k + 1) (w_Rule, w_Width, w_Height, w_Cells, w_X, w_Y, w_Way) =
  (spec_woGood k (w_Rule, w_Width, w_Height, w_Cells, w_X, w_Y, w_Way)).bind fun r1 =>
  cond (!r1)
  (some (0, false))
  ((spec_AntPeriod_l k ((w_Rule, w_Width, w_Height, w_Cells, w_X, w_Y, w_Way), (w_Rule, w_Width, w_Height, w_Cells, w_X, w_Y, w_Way), 1)).bind fun r2 =>
   r2.elim
   (fun r3 => some r3)
   (fun r4 => some (0, false))) := by kernel_rfl
theorem spec_AntPeriod_l.eq (k : Nat) (w_Rule : ByteArray) (w_Width : Int) (w_Height : Int) (w_Cells : ByteArray) (w_X : Int) (w_Y : Int) (w_Way : Int) (now_Rule : ByteArray) (now_Width : Int) (now_Height : Int) (now_Cells : ByteArray) (now_X : Int) (now_Y : Int) (now_Way : Int) (steps : Int) : spec_AntPeriod_l (k + 1) ((w_Rule, w_Width, w_Height, w_Cells, w_X, w_Y, w_Way), (now_Rule, now_Width, now_Height, now_Cells, now_X, now_Y, now_Way), steps) =
  cond (decide (steps ≤ 4000))
  ((spec_woStep k (now_Rule, now_Width, now_Height, now_Cells, now_X, now_Y, now_Way)).bind fun r1 =>
   cond (r1.2.2.2.2.1 == w_X)
   (cond (r1.2.2.2.2.2.1 == w_Y)
    (cond (r1.2.2.2.2.2.2 == w_Way)
     (some (.inl (steps, true)))
     (spec_AntPeriod_l k ((w_Rule, w_Width, w_Height, w_Cells, w_X, w_Y, w_Way), r1, (w64 (steps + 1)))))
    (spec_AntPeriod_l k ((w_Rule, w_Width, w_Height, w_Cells, w_X, w_Y, w_Way), r1, (w64 (steps + 1)))))
   (spec_AntPeriod_l k ((w_Rule, w_Width, w_Height, w_Cells, w_X, w_Y, w_Way), r1, (w64 (steps + 1)))))
  (some (.inr ())) := by kernel_rfl
theorem impl_FirstReturn.eq (k : Nat) (w_Rule : ByteArray) (w_Width : Int) (w_Height : Int) (w_Cells : ByteArray) (w_X : Int) (w_Y : Int) (w_Way : Int) : impl_FirstReturn (k + 1) (w_Rule, w_Width, w_Height, w_Cells, w_X, w_Y, w_Way) =
  (impl_search_3 k ((w_Rule, w_Width, w_Height, w_Cells, w_X, w_Y, w_Way), 1, (w_Rule, w_Width, w_Height, w_Cells, w_X, w_Y, w_Way))).bind fun r1 =>
  some r1 := by kernel_rfl
theorem impl_search_3.eq (k : Nat) (w_Rule : ByteArray) (w_Width : Int) (w_Height : Int) (w_Cells : ByteArray) (w_X : Int) (w_Y : Int) (w_Way : Int) (least : Int) (accept_0 : ByteArray) (accept_01 : Int) (accept_02 : Int) (accept_03 : ByteArray) (accept_04 : Int) (accept_05 : Int) (accept_06 : Int) : impl_search_3 (k + 1) ((w_Rule, w_Width, w_Height, w_Cells, w_X, w_Y, w_Way), least, (accept_0, accept_01, accept_02, accept_03, accept_04, accept_05, accept_06)) =
  (impl_IsWorld k (w_Rule, w_Width, w_Height, w_Cells, w_X, w_Y, w_Way)).bind fun r1 =>
  cond (!r1)
  (some (0, false))
  ((impl_search_3_l k (least, (accept_0, accept_01, accept_02, accept_03, accept_04, accept_05, accept_06), (w_Rule, w_Width, w_Height, w_Cells, w_X, w_Y, w_Way), 0)).bind fun r2 =>
   r2.elim
   (fun r3 => some r3)
   (fun r4 => some (0, false))) := by kernel_rfl
theorem impl_search_3_l.eq (k : Nat) (least : Int) (accept_0 : ByteArray) (accept_01 : Int) (accept_02 : Int) (accept_03 : ByteArray) (accept_04 : Int) (accept_05 : Int) (accept_06 : Int) (w_Rule : ByteArray) (w_Width : Int) (w_Height : Int) (w_Cells : ByteArray) (w_X : Int) (w_Y : Int) (w_Way : Int) (t12 : Int) : impl_search_3_l (k + 1) (least, (accept_0, accept_01, accept_02, accept_03, accept_04, accept_05, accept_06), (w_Rule, w_Width, w_Height, w_Cells, w_X, w_Y, w_Way), t12) =
  cond (decide (t12 < 4001))
  (cond (decide (t12 ≥ least))
   ((impl_FirstReturn_1 k ((w_Rule, w_Width, w_Height, w_Cells, w_X, w_Y, w_Way), (accept_0, accept_01, accept_02, accept_03, accept_04, accept_05, accept_06))).bind fun r1 =>
    cond r1
    (some (.inl (t12, true)))
    ((impl_World_step k (w_Rule, w_Width, w_Height, w_Cells, w_X, w_Y, w_Way)).bind fun r2 =>
     impl_search_3_l k (least, (accept_0, accept_01, accept_02, accept_03, accept_04, accept_05, accept_06), r2, (w64 (t12 + 1)))))
   ((impl_World_step k (w_Rule, w_Width, w_Height, w_Cells, w_X, w_Y, w_Way)).bind fun r3 =>
    impl_search_3_l k (least, (accept_0, accept_01, accept_02, accept_03, accept_04, accept_05, accept_06), r3, (w64 (t12 + 1)))))
  (some (.inr ())) := by kernel_rfl
theorem impl_FirstReturn_1.eq (k : Nat) (v_Rule : ByteArray) (v_Width : Int) (v_Height : Int) (v_Cells : ByteArray) (v_X : Int) (v_Y : Int) (v_Way : Int) (t1_0 : ByteArray) (t1_1 : Int) (t1_2 : Int) (t1_3 : ByteArray) (t1_4 : Int) (t1_5 : Int) (t1_6 : Int) : impl_FirstReturn_1 (k + 1) ((v_Rule, v_Width, v_Height, v_Cells, v_X, v_Y, v_Way), (t1_0, t1_1, t1_2, t1_3, t1_4, t1_5, t1_6)) =
  (impl_World_at k (v_Rule, v_Width, v_Height, v_Cells, v_X, v_Y, v_Way)).bind fun r1 =>
  (impl_World_at k (t1_0, t1_1, t1_2, t1_3, t1_4, t1_5, t1_6)).bind fun r2 =>
  some (r1 == r2) := by kernel_rfl
theorem spec_FirstReturn.eq (k : Nat) (w_Rule : ByteArray) (w_Width : Int) (w_Height : Int) (w_Cells : ByteArray) (w_X : Int) (w_Y : Int) (w_Way : Int) : spec_FirstReturn (k + 1) (w_Rule, w_Width, w_Height, w_Cells, w_X, w_Y, w_Way) =
  (spec_woGood k (w_Rule, w_Width, w_Height, w_Cells, w_X, w_Y, w_Way)).bind fun r1 =>
  cond (!r1)
  (some (0, false))
  ((spec_FirstReturn_l k ((w_Rule, w_Width, w_Height, w_Cells, w_X, w_Y, w_Way), (w_Rule, w_Width, w_Height, w_Cells, w_X, w_Y, w_Way), 1)).bind fun r2 =>
   r2.elim
   (fun r3 => some r3)
   (fun r4 => some (0, false))) := by kernel_rfl
theorem spec_FirstReturn_l.eq (k : Nat) (w_Rule : ByteArray) (w_Width : Int) (w_Height : Int) (w_Cells : ByteArray) (w_X : Int) (w_Y : Int) (w_Way : Int) (now_Rule : ByteArray) (now_Width : Int) (now_Height : Int) (now_Cells : ByteArray) (now_X : Int) (now_Y : Int) (now_Way : Int) (steps : Int) : spec_FirstReturn_l (k + 1) ((w_Rule, w_Width, w_Height, w_Cells, w_X, w_Y, w_Way), (now_Rule, now_Width, now_Height, now_Cells, now_X, now_Y, now_Way), steps) =
  cond (decide (steps ≤ 4000))
  ((spec_woStep k (now_Rule, now_Width, now_Height, now_Cells, now_X, now_Y, now_Way)).bind fun r1 =>
   cond (r1.2.2.2.2.1 == w_X)
   (cond (r1.2.2.2.2.2.1 == w_Y)
    (some (.inl (steps, true)))
    (spec_FirstReturn_l k ((w_Rule, w_Width, w_Height, w_Cells, w_X, w_Y, w_Way), r1, (w64 (steps + 1)))))
   (spec_FirstReturn_l k ((w_Rule, w_Width, w_Height, w_Cells, w_X, w_Y, w_Way), r1, (w64 (steps + 1)))))
  (some (.inr ())) := by kernel_rfl
theorem impl_CoverSteps.eq (k : Nat) (w_Rule : ByteArray) (w_Width : Int) (w_Height : Int) (w_Cells : ByteArray) (w_X : Int) (w_Y : Int) (w_Way : Int) : impl_CoverSteps (k + 1) (w_Rule, w_Width, w_Height, w_Cells, w_X, w_Y, w_Way) =
  (impl_IsWorld k (w_Rule, w_Width, w_Height, w_Cells, w_X, w_Y, w_Way)).bind fun r1 =>
  cond (!r1)
  (some (0, false))
  ((impl_CoverSteps_l k ((w_Rule, w_Width, w_Height, w_Cells, w_X, w_Y, w_Way), [], 1)).bind fun r2 =>
   r2.elim
   (fun r3 => some r3)
   (fun r4 => some (0, false))) := by kernel_rfl
theorem impl_CoverSteps_l.eq (k : Nat) (w_Rule : ByteArray) (w_Width : Int) (w_Height : Int) (w_Cells : ByteArray) (w_X : Int) (w_Y : Int) (w_Way : Int) (seen : List (Int × Bool)) (steps : Int) : impl_CoverSteps_l (k + 1) ((w_Rule, w_Width, w_Height, w_Cells, w_X, w_Y, w_Way), seen, steps) =
  cond (decide (steps ≤ 4000))
  ((impl_World_at k (w_Rule, w_Width, w_Height, w_Cells, w_X, w_Y, w_Way)).bind fun r1 =>
   cond (((mput (K := Int) (α := Bool) (Sh.eqT (.int .i64)) seen r1 true).length : Int) == (w_Cells.size : Int))
   (some (.inl (steps, true)))
   ((impl_World_step k (w_Rule, w_Width, w_Height, w_Cells, w_X, w_Y, w_Way)).bind fun r2 =>
    impl_CoverSteps_l k (r2, (mput (K := Int) (α := Bool) (Sh.eqT (.int .i64)) seen r1 true), (w64 (steps + 1)))))
  (some (.inr ())) := by kernel_rfl
theorem spec_CoverSteps.eq (k : Nat) (w_Rule : ByteArray) (w_Width : Int) (w_Height : Int) (w_Cells : ByteArray) (w_X : Int) (w_Y : Int) (w_Way : Int) : spec_CoverSteps (k + 1) (w_Rule, w_Width, w_Height, w_Cells, w_X, w_Y, w_Way) =
  (spec_woGood k (w_Rule, w_Width, w_Height, w_Cells, w_X, w_Y, w_Way)).bind fun r1 =>
  cond (!r1)
  (some (0, false))
  (cond (((decide ((0 : Int) ≤ (w64 (w_Width * w_Height)))) && (decide ((w64 (w_Width * w_Height)) ≤ (w64 (w_Width * w_Height))))) && (fits (w64 (w_Width * w_Height)).toNat 1))
   ((spec_CoverSteps_l k ((w_Rule, w_Width, w_Height, w_Cells, w_X, w_Y, w_Way), (List.replicate (w64 (w_Width * w_Height)).toNat false), ((List.replicate (w64 (w_Width * w_Height)).toNat false).length : Int), 1)).bind fun r2 =>
    r2.elim
    (fun r3 => some r3)
    (fun r4 => some (0, false)))
   (none)) := by kernel_rfl
theorem spec_CoverSteps_l.eq (k : Nat) (w_Rule : ByteArray) (w_Width : Int) (w_Height : Int) (w_Cells : ByteArray) (w_X : Int) (w_Y : Int) (w_Way : Int) (seen : List Bool) (left : Int) (steps : Int) : spec_CoverSteps_l (k + 1) ((w_Rule, w_Width, w_Height, w_Cells, w_X, w_Y, w_Way), seen, left, steps) =
  cond (decide (steps ≤ 4000))
  (cond (inB (w64 ((w64 (w_Y * w_Width)) + w_X)) seen.length)
   (cond (!(seen.getD ((w64 ((w64 (w_Y * w_Width)) + w_X)).toNat) default))
    (cond (inB (w64 ((w64 (w_Y * w_Width)) + w_X)) seen.length)
     (cond ((w64 (left - 1)) == 0)
      (some (.inl (steps, true)))
      ((spec_woStep k (w_Rule, w_Width, w_Height, w_Cells, w_X, w_Y, w_Way)).bind fun r1 =>
       spec_CoverSteps_l k (r1, (seen.set ((w64 ((w64 (w_Y * w_Width)) + w_X)).toNat) true), (w64 (left - 1)), (w64 (steps + 1)))))
     (none))
    (cond (left == 0)
     (some (.inl (steps, true)))
     ((spec_woStep k (w_Rule, w_Width, w_Height, w_Cells, w_X, w_Y, w_Way)).bind fun r2 =>
      spec_CoverSteps_l k (r2, seen, left, (w64 (steps + 1))))))
   (none))
  (some (.inr ())) := by kernel_rfl
theorem impl_NeverVisited.eq (k : Nat) (w_Rule : ByteArray) (w_Width : Int) (w_Height : Int) (w_Cells : ByteArray) (w_X : Int) (w_Y : Int) (w_Way : Int) : impl_NeverVisited (k + 1) (w_Rule, w_Width, w_Height, w_Cells, w_X, w_Y, w_Way) =
  (impl_PeriodOf k (w_Rule, w_Width, w_Height, w_Cells, w_X, w_Y, w_Way)).bind fun r1 =>
  cond (!r1.2)
  (some ([], false))
  ((impl_unvisited k ((w_Rule, w_Width, w_Height, w_Cells, w_X, w_Y, w_Way), r1.1)).bind fun r2 =>
   some (r2, true)) := by kernel_rfl
theorem impl_unvisited.eq (k : Nat) (w_Rule : ByteArray) (w_Width : Int) (w_Height : Int) (w_Cells : ByteArray) (w_X : Int) (w_Y : Int) (w_Way : Int) (steps : Int) : impl_unvisited (k + 1) ((w_Rule, w_Width, w_Height, w_Cells, w_X, w_Y, w_Way), steps) =
  (impl_visits k ((w_Rule, w_Width, w_Height, w_Cells, w_X, w_Y, w_Way), steps)).bind fun r1 =>
  (impl_unvisited_l k ([], r1, (r1.length : Int), 0)).bind fun r2 =>
  some r2 := by kernel_rfl
theorem impl_visits.eq (k : Nat) (w_Rule : ByteArray) (w_Width : Int) (w_Height : Int) (w_Cells : ByteArray) (w_X : Int) (w_Y : Int) (w_Way : Int) (steps : Int) : impl_visits (k + 1) ((w_Rule, w_Width, w_Height, w_Cells, w_X, w_Y, w_Way), steps) =
  cond (((decide ((0 : Int) ≤ (w_Cells.size : Int))) && (decide ((w_Cells.size : Int) ≤ (w_Cells.size : Int)))) && (fits (w_Cells.size : Int).toNat 8))
  ((impl_track k ((w_Rule, w_Width, w_Height, w_Cells, w_X, w_Y, w_Way), steps)).bind fun r1 =>
   (impl_visits_l k ((List.replicate (w_Cells.size : Int).toNat 0), r1, (r1.length : Int), 0)).bind fun r2 =>
   some r2)
  (none) := by kernel_rfl
theorem impl_track.eq (k : Nat) (w_Rule : ByteArray) (w_Width : Int) (w_Height : Int) (w_Cells : ByteArray) (w_X : Int) (w_Y : Int) (w_Way : Int) (steps : Int) : impl_track (k + 1) ((w_Rule, w_Width, w_Height, w_Cells, w_X, w_Y, w_Way), steps) =
  (impl_track_l k ((w_Rule, w_Width, w_Height, w_Cells, w_X, w_Y, w_Way), [], steps, 0)).bind fun r1 =>
  some r1 := by kernel_rfl
theorem impl_track_l.eq (k : Nat) (w_Rule : ByteArray) (w_Width : Int) (w_Height : Int) (w_Cells : ByteArray) (w_X : Int) (w_Y : Int) (w_Way : Int) (out : List Int) (t7 : Int) (t8 : Int) : impl_track_l (k + 1) ((w_Rule, w_Width, w_Height, w_Cells, w_X, w_Y, w_Way), out, t7, t8) =
  cond (decide (t8 < t7))
  ((impl_World_at k (w_Rule, w_Width, w_Height, w_Cells, w_X, w_Y, w_Way)).bind fun r1 =>
   cond (fits (out.length + 1) 8)
   ((impl_World_step k (w_Rule, w_Width, w_Height, w_Cells, w_X, w_Y, w_Way)).bind fun r2 =>
    impl_track_l k (r2, (out ++ [r1]), t7, (w64 (t8 + 1))))
   (none))
  (some out) := by kernel_rfl
theorem impl_visits_l.eq (k : Nat) (out : List Int) (t14 : List Int) (t15 : Int) (t16 : Int) : impl_visits_l (k + 1) (out, t14, t15, t16) =
  cond (decide (t16 < t15))
  (cond (inB t16 t14.length)
   (cond (inB (t14.getD t16.toNat default) out.length)
    (cond (inB (t14.getD t16.toNat default) out.length)
     (impl_visits_l k ((out.set ((t14.getD t16.toNat default).toNat) (w64 ((out.getD ((t14.getD t16.toNat default).toNat) default) + 1))), t14, t15, (w64 (t16 + 1))))
     (none))
    (none))
   (none))
  (some out) := by kernel_rfl
theorem impl_unvisited_l.eq (k : Nat) (out : List Int) (t11 : List Int) (t12 : Int) (t13 : Int) : impl_unvisited_l (k + 1) (out, t11, t12, t13) =
  cond (decide (t13 < t12))
  (cond (inB t13 t11.length)
   (cond ((t11.getD t13.toNat default) == 0)
    (cond (fits (out.length + 1) 8)
     (impl_unvisited_l k ((out ++ [t13]), t11, t12, (w64 (t13 + 1))))
     (none))
    (impl_unvisited_l k (out, t11, t12, (w64 (t13 + 1)))))
   (none))
  (some out) := by kernel_rfl
theorem spec_NeverVisited.eq (k : Nat) (w_Rule : ByteArray) (w_Width : Int) (w_Height : Int) (w_Cells : ByteArray) (w_X : Int) (w_Y : Int) (w_Way : Int) : spec_NeverVisited (k + 1) (w_Rule, w_Width, w_Height, w_Cells, w_X, w_Y, w_Way) =
  (spec_woGood k (w_Rule, w_Width, w_Height, w_Cells, w_X, w_Y, w_Way)).bind fun r1 =>
  cond (!r1)
  (some ([], false))
  ((spec_loPeriod k (w_Rule, w_Width, w_Height, w_Cells, w_X, w_Y, w_Way)).bind fun r2 =>
   cond (r2 == 0)
   (some ([], false))
   ((spec_loPeriod k (w_Rule, w_Width, w_Height, w_Cells, w_X, w_Y, w_Way)).bind fun r3 =>
    (spec_loVisits k ((w_Rule, w_Width, w_Height, w_Cells, w_X, w_Y, w_Way), r3)).bind fun r4 =>
    (spec_NeverVisited_l k ([], r4, (r4.length : Int), 0)).bind fun r5 =>
    some (r5, true))) := by kernel_rfl
theorem spec_loVisits.eq (k : Nat) (w_Rule : ByteArray) (w_Width : Int) (w_Height : Int) (w_Cells : ByteArray) (w_X : Int) (w_Y : Int) (w_Way : Int) (steps : Int) : spec_loVisits (k + 1) ((w_Rule, w_Width, w_Height, w_Cells, w_X, w_Y, w_Way), steps) =
  cond (((decide ((0 : Int) ≤ (w64 (w_Width * w_Height)))) && (decide ((w64 (w_Width * w_Height)) ≤ (w64 (w_Width * w_Height))))) && (fits (w64 (w_Width * w_Height)).toNat 8))
  ((spec_loVisits_l k (steps, (w_Rule, w_Width, w_Height, w_Cells, w_X, w_Y, w_Way), (List.replicate (w64 (w_Width * w_Height)).toNat 0))).bind fun r1 =>
   some r1)
  (none) := by kernel_rfl
theorem spec_loVisits_l.eq (k : Nat) (steps : Int) (w_Rule : ByteArray) (w_Width : Int) (w_Height : Int) (w_Cells : ByteArray) (w_X : Int) (w_Y : Int) (w_Way : Int) (out : List Int) : spec_loVisits_l (k + 1) (steps, (w_Rule, w_Width, w_Height, w_Cells, w_X, w_Y, w_Way), out) =
  cond (decide (steps > 0))
  (cond (inB (w64 ((w64 (w_Y * w_Width)) + w_X)) out.length)
   (cond (inB (w64 ((w64 (w_Y * w_Width)) + w_X)) out.length)
    ((spec_woStep k (w_Rule, w_Width, w_Height, w_Cells, w_X, w_Y, w_Way)).bind fun r1 =>
     spec_loVisits_l k ((w64 (steps - 1)), r1, (out.set ((w64 ((w64 (w_Y * w_Width)) + w_X)).toNat) (w64 ((out.getD ((w64 ((w64 (w_Y * w_Width)) + w_X)).toNat) default) + 1)))))
    (none))
   (none))
  (some out) := by kernel_rfl
theorem spec_NeverVisited_l.eq (k : Nat) (out : List Int) (t18 : List Int) (t19 : Int) (t20 : Int) : spec_NeverVisited_l (k + 1) (out, t18, t19, t20) =
  cond (decide (t20 < t19))
  (cond (inB t20 t18.length)
   (cond ((t18.getD t20.toNat default) == 0)
    (cond (fits (out.length + 1) 8)
     (spec_NeverVisited_l k ((out ++ [t20]), t18, t19, (w64 (t20 + 1))))
     (none))
    (spec_NeverVisited_l k (out, t18, t19, (w64 (t20 + 1)))))
   (none))
  (some out) := by kernel_rfl
theorem laws_kSame.eq (k : Nat) (a : List Int) (b : List Int) : laws_kSame (k + 1) (a, b) =
  cond ((a.length : Int) != (b.length : Int))
  (some false)
  ((laws_kSame_l k (a, b, (a.length : Int), 0)).bind fun r1 =>
   r1.elim
   (fun r2 => some r2)
   (fun r3 => some true)) := by kernel_rfl
theorem laws_kSame_l.eq (k : Nat) (a : List Int) (b : List Int) (t12 : Int) (t13 : Int) : laws_kSame_l (k + 1) (a, b, t12, t13) =
  cond (decide (t13 < t12))
  (cond (inB t13 a.length)
   (cond (inB t13 b.length)
    (cond ((a.getD t13.toNat default) != (b.getD t13.toNat default))
     (some (.inl false))
     (laws_kSame_l k (a, b, t12, (w64 (t13 + 1)))))
    (none))
   (none))
  (some (.inr ())) := by kernel_rfl
theorem laws_FnLoopsClose_c.eq (k : Nat) (more : List Int) (w_Rule : ByteArray) (w_Width : Int) (w_Height : Int) (w_Cells : ByteArray) (w_X : Int) (w_Y : Int) (w_Way : Int) (period : Int) (ok : Bool) (ant : Int) (one : Bool) (home : Int) (cover : Int) (five : Bool) (never : List Int) : laws_FnLoopsClose_c (k + 1) (more, (w_Rule, w_Width, w_Height, w_Cells, w_X, w_Y, w_Way), period, ok, ant, one, home, cover, five, never) =
  cond one
  (cond (decide (ant < home))
   (some false)
   (cond ok
    (cond (decide (period < ant))
     (some false)
     ((laws_FnLoopsClose_c_c k (more, (w_Rule, w_Width, w_Height, w_Cells, w_X, w_Y, w_Way), period, ok, cover, five, never)).bind fun r1 =>
      some r1))
    ((laws_FnLoopsClose_c_c k (more, (w_Rule, w_Width, w_Height, w_Cells, w_X, w_Y, w_Way), period, ok, cover, five, never)).bind fun r2 =>
     some r2)))
  ((laws_FnLoopsClose_c_c k (more, (w_Rule, w_Width, w_Height, w_Cells, w_X, w_Y, w_Way), period, ok, cover, five, never)).bind fun r3 =>
   some r3) := by kernel_rfl
theorem laws_FnLoopsClose_c_c.eq (k : Nat) (more : List Int) (w_Rule : ByteArray) (w_Width : Int) (w_Height : Int) (w_Cells : ByteArray) (w_X : Int) (w_Y : Int) (w_Way : Int) (period : Int) (ok : Bool) (cover : Int) (five : Bool) (never : List Int) : laws_FnLoopsClose_c_c (k + 1) (more, (w_Rule, w_Width, w_Height, w_Cells, w_X, w_Y, w_Way), period, ok, cover, five, never) =
  cond ok
  ((impl_ColourSum k (w_Rule, w_Width, w_Height, w_Cells, w_X, w_Y, w_Way)).bind fun r1 =>
   cond (!r1.2)
   (some false)
   (cond ((w_Rule.size : Int) != 0)
    (cond ((period.tmod (w_Rule.size : Int)) != 0)
     (some false)
     (cond (decide (r1.1 < 0))
      (some false)
      (cond (decide (r1.1 ≥ (w_Rule.size : Int)))
       (some false)
       (cond five
        (cond (!(((never.length : Int) == 0) == (decide (cover ≤ period))))
         (some false)
         ((laws_FnLoopsClose_c_c_c k (more, (w_Rule, w_Width, w_Height, w_Cells, w_X, w_Y, w_Way), period, never, (decide (period ≤ 3000)))).bind fun r2 =>
          r2.elim
          (fun r3 => some r3)
          (fun r4 => (laws_FnLoopsClose_c_c_c_2 k r4).bind fun r5 =>
           some r5)))
        (cond (!(((never.length : Int) == 0) == false))
         (some false)
         ((laws_FnLoopsClose_c_c_c k (more, (w_Rule, w_Width, w_Height, w_Cells, w_X, w_Y, w_Way), period, never, (decide (period ≤ 3000)))).bind fun r6 =>
          r6.elim
          (fun r7 => some r7)
          (fun r8 => (laws_FnLoopsClose_c_c_c_2 k r8).bind fun r9 =>
           some r9)))))))
    (none)))
  ((laws_FnLoopsClose_c_c_c_2 k more).bind fun r10 =>
   some r10) := by kernel_rfl
theorem impl_ColourSum.eq (k : Nat) (w_Rule : ByteArray) (w_Width : Int) (w_Height : Int) (w_Cells : ByteArray) (w_X : Int) (w_Y : Int) (w_Way : Int) : impl_ColourSum (k + 1) (w_Rule, w_Width, w_Height, w_Cells, w_X, w_Y, w_Way) =
  (impl_CountColours k (w_Rule, w_Width, w_Height, w_Cells, w_X, w_Y, w_Way)).bind fun r1 =>
  cond (!r1.2)
  (some (0, false))
  ((impl_ColourSum_l k (r1.1, 0, (), (r1.1.length : Int), 0)).bind fun r2 =>
   cond ((r2.1.length : Int) != 0)
   (some ((r2.2.tmod (r2.1.length : Int)), true))
   (none)) := by kernel_rfl
theorem impl_CountColours.eq (k : Nat) (w_Rule : ByteArray) (w_Width : Int) (w_Height : Int) (w_Cells : ByteArray) (w_X : Int) (w_Y : Int) (w_Way : Int) : impl_CountColours (k + 1) (w_Rule, w_Width, w_Height, w_Cells, w_X, w_Y, w_Way) =
  (impl_IsWorld k (w_Rule, w_Width, w_Height, w_Cells, w_X, w_Y, w_Way)).bind fun r1 =>
  cond (!r1)
  (some ([], false))
  (cond (((decide ((0 : Int) ≤ (w_Rule.size : Int))) && (decide ((w_Rule.size : Int) ≤ (w_Rule.size : Int)))) && (fits (w_Rule.size : Int).toNat 8))
   ((impl_CountColours_l k ((List.replicate (w_Rule.size : Int).toNat 0), (bytesOf w_Cells), ((bytesOf w_Cells).length : Int), 0)).bind fun r2 =>
    some (r2, true))
   (none)) := by kernel_rfl
theorem impl_CountColours_l.eq (k : Nat) (out : List Int) (t16 : List Int) (t17 : Int) (t18 : Int) : impl_CountColours_l (k + 1) (out, t16, t17, t18) =
  cond (decide (t18 < t17))
  (cond (inB t18 t16.length)
   (cond (inB (w8 ((t16.getD t18.toNat default) - 48)) out.length)
    (cond (inB (w8 ((t16.getD t18.toNat default) - 48)) out.length)
     (impl_CountColours_l k ((out.set ((w8 ((t16.getD t18.toNat default) - 48)).toNat) (w64 ((out.getD ((w8 ((t16.getD t18.toNat default) - 48)).toNat) default) + 1))), t16, t17, (w64 (t18 + 1))))
     (none))
    (none))
   (none))
  (some out) := by kernel_rfl
theorem impl_ColourSum_l.eq (k : Nat) (list : List Int) (all : Int) (t17 : Int) (t18 : Int) : impl_ColourSum_l (k + 1) (list, all, (), t17, t18) =
  cond (decide (t18 < t17))
  (cond (inB t18 list.length)
   (impl_ColourSum_l k (list, (w64 (all + (w64 (t18 * (list.getD t18.toNat default))))), (), t17, (w64 (t18 + 1))))
   (none))
  (some (list, all)) := by kernel_rfl
theorem laws_FnLoopsClose_c_c_c.eq (k : Nat) (more : List Int) (w_Rule : ByteArray) (w_Width : Int) (w_Height : Int) (w_Cells : ByteArray) (w_X : Int) (w_Y : Int) (w_Way : Int) (period : Int) (never : List Int) (t256 : Bool) : laws_FnLoopsClose_c_c_c (k + 1) (more, (w_Rule, w_Width, w_Height, w_Cells, w_X, w_Y, w_Way), period, never, t256) =
  cond t256
  ((impl_WorldAfter k ((w_Rule, w_Width, w_Height, w_Cells, w_X, w_Y, w_Way), period)).bind fun r1 =>
   (impl_VisitsAfter k ((w_Rule, w_Width, w_Height, w_Cells, w_X, w_Y, w_Way), period)).bind fun r2 =>
   (impl_CellsVisited k ((w_Rule, w_Width, w_Height, w_Cells, w_X, w_Y, w_Way), period)).bind fun r3 =>
   cond (!r1.2)
   (some (.inl false))
   (cond (!((r1.1.1 == w_Rule) && ((r1.1.2.1 == w_Width) && ((r1.1.2.2.1 == w_Height) && ((r1.1.2.2.2.1 == w_Cells) && ((r1.1.2.2.2.2.1 == w_X) && ((r1.1.2.2.2.2.2.1 == w_Y) && ((r1.1.2.2.2.2.2.2 == w_Way) && true))))))))
    (some (.inl false))
    (cond (!r2.2)
     (some (.inl false))
     ((laws_kSum k r2.1).bind fun r4 =>
      cond (r4 != period)
      (some (.inl false))
      (cond (!r3.2)
       (some (.inl false))
       (cond (r3.1 != (w64 ((r2.1.length : Int) - (never.length : Int))))
        (some (.inl false))
        ((laws_FnLoopsClose_c_c_c_l k (more, (w_Rule, w_Width, w_Height, w_Cells, w_X, w_Y, w_Way), period, never, r2.1, (r2.1.length : Int), 0)).bind fun r5 =>
         r5.elim
         (fun r6 => some (.inl r6))
         (fun r7 => (laws_FnLoopsClose_c_c_c_c k (r7.1, r7.2.1, r7.2.2, (decide (r7.2.2 > 1)))).bind fun r8 =>
          r8.elim
          (fun r9 => some (.inl r9))
          (fun r10 => some (.inr r10))))))))))
  (some (.inr more)) := by kernel_rfl
theorem impl_WorldAfter.eq (k : Nat) (w_Rule : ByteArray) (w_Width : Int) (w_Height : Int) (w_Cells : ByteArray) (w_X : Int) (w_Y : Int) (w_Way : Int) (steps : Int) : impl_WorldAfter (k + 1) ((w_Rule, w_Width, w_Height, w_Cells, w_X, w_Y, w_Way), steps) =
  (impl_isGoing k ((w_Rule, w_Width, w_Height, w_Cells, w_X, w_Y, w_Way), steps)).bind fun r1 =>
  cond (!r1)
  (some ((ByteArray.empty, 0, 0, ByteArray.empty, 0, 0, 0), false))
  ((impl_WorldAfter_l k ((w_Rule, w_Width, w_Height, w_Cells, w_X, w_Y, w_Way), (ByteArray.empty, 0, 0, ByteArray.empty, 0, 0, 0), steps, 0)).bind fun r2 =>
   some (r2.1, true)) := by kernel_rfl
theorem impl_isGoing.eq (k : Nat) (w_Rule : ByteArray) (w_Width : Int) (w_Height : Int) (w_Cells : ByteArray) (w_X : Int) (w_Y : Int) (w_Way : Int) (steps : Int) : impl_isGoing (k + 1) ((w_Rule, w_Width, w_Height, w_Cells, w_X, w_Y, w_Way), steps) =
  (impl_IsWorld k (w_Rule, w_Width, w_Height, w_Cells, w_X, w_Y, w_Way)).bind fun r1 =>
  cond r1
  ((impl_within k (steps, 0, 3000)).bind fun r2 =>
   some r2)
  (some false) := by kernel_rfl
theorem impl_WorldAfter_l.eq (k : Nat) (w_Rule : ByteArray) (w_Width : Int) (w_Height : Int) (w_Cells : ByteArray) (w_X : Int) (w_Y : Int) (w_Way : Int) (t4_Rule : ByteArray) (t4_Width : Int) (t4_Height : Int) (t4_Cells : ByteArray) (t4_X : Int) (t4_Y : Int) (t4_Way : Int) (t11 : Int) (t12 : Int) : impl_WorldAfter_l (k + 1) ((w_Rule, w_Width, w_Height, w_Cells, w_X, w_Y, w_Way), (t4_Rule, t4_Width, t4_Height, t4_Cells, t4_X, t4_Y, t4_Way), t11, t12) =
  cond (decide (t12 < t11))
  ((impl_World_step k (w_Rule, w_Width, w_Height, w_Cells, w_X, w_Y, w_Way)).bind fun r1 =>
   impl_WorldAfter_l k (r1, (t4_Rule, t4_Width, t4_Height, t4_Cells, t4_X, t4_Y, t4_Way), t11, (w64 (t12 + 1))))
  (some ((w_Rule, w_Width, w_Height, w_Cells, w_X, w_Y, w_Way), (t4_Rule, t4_Width, t4_Height, t4_Cells, t4_X, t4_Y, t4_Way))) := by kernel_rfl
theorem impl_VisitsAfter.eq (k : Nat) (w_Rule : ByteArray) (w_Width : Int) (w_Height : Int) (w_Cells : ByteArray) (w_X : Int) (w_Y : Int) (w_Way : Int) (steps : Int) : impl_VisitsAfter (k + 1) ((w_Rule, w_Width, w_Height, w_Cells, w_X, w_Y, w_Way), steps) =
  (impl_isGoing k ((w_Rule, w_Width, w_Height, w_Cells, w_X, w_Y, w_Way), steps)).bind fun r1 =>
  cond (!r1)
  (some ([], false))
  ((impl_visits k ((w_Rule, w_Width, w_Height, w_Cells, w_X, w_Y, w_Way), steps)).bind fun r2 =>
   some (r2, true)) := by kernel_rfl
theorem impl_CellsVisited.eq (k : Nat) (w_Rule : ByteArray) (w_Width : Int) (w_Height : Int) (w_Cells : ByteArray) (w_X : Int) (w_Y : Int) (w_Way : Int) (steps : Int) : impl_CellsVisited (k + 1) ((w_Rule, w_Width, w_Height, w_Cells, w_X, w_Y, w_Way), steps) =
  (impl_isGoing k ((w_Rule, w_Width, w_Height, w_Cells, w_X, w_Y, w_Way), steps)).bind fun r1 =>
  cond (!r1)
  (some (0, false))
  ((impl_unvisited k ((w_Rule, w_Width, w_Height, w_Cells, w_X, w_Y, w_Way), steps)).bind fun r2 =>
   some ((w64 ((w_Cells.size : Int) - (r2.length : Int))), true)) := by kernel_rfl
theorem laws_kSum.eq (k : Nat) (list : List Int) : laws_kSum (k + 1) list =
  (laws_kSum_l k (0, list, (list.length : Int), 0)).bind fun r1 =>
  some r1 := by kernel_rfl
theorem laws_kSum_l.eq (k : Nat) (sum : Int) (t6 : List Int) (t7 : Int) (t8 : Int) : laws_kSum_l (k + 1) (sum, t6, t7, t8) =
  cond (decide (t8 < t7))
  (cond (inB t8 t6.length)
   (laws_kSum_l k ((w64 (sum + (t6.getD t8.toNat default))), t6, t7, (w64 (t8 + 1))))
   (none))
  (some sum) := by kernel_rfl
theorem laws_FnLoopsClose_c_c_c_l.eq (k : Nat) (more : List Int) (w_Rule : ByteArray) (w_Width : Int) (w_Height : Int) (w_Cells : ByteArray) (w_X : Int) (w_Y : Int) (w_Way : Int) (period : Int) (never : List Int) (t305 : List Int) (t306 : Int) (t307 : Int) : laws_FnLoopsClose_c_c_c_l (k + 1) (more, (w_Rule, w_Width, w_Height, w_Cells, w_X, w_Y, w_Way), period, never, t305, t306, t307) =
  cond (decide (t307 < t306))
  (cond (inB t307 t305.length)
   (cond ((w_Rule.size : Int) != 0)
    (cond (((t305.getD t307.toNat default).tmod (w_Rule.size : Int)) != 0)
     (some (.inl false))
     ((laws_kHas k (never, t307)).bind fun r1 =>
      cond (!(((t305.getD t307.toNat default) == 0) == r1))
      (some (.inl false))
      (laws_FnLoopsClose_c_c_c_l k (more, (w_Rule, w_Width, w_Height, w_Cells, w_X, w_Y, w_Way), period, never, t305, t306, (w64 (t307 + 1))))))
    (none))
   (none))
  (some (.inr (more, (w_Rule, w_Width, w_Height, w_Cells, w_X, w_Y, w_Way), period))) := by kernel_rfl
theorem laws_kHas.eq (k : Nat) (list : List Int) (n : Int) : laws_kHas (k + 1) (list, n) =
  (laws_kHas_l k (n, list, (list.length : Int), 0)).bind fun r1 =>
  r1.elim
  (fun r2 => some r2)
  (fun r3 => some false) := by kernel_rfl
theorem laws_kHas_l.eq (k : Nat) (n : Int) (t7 : List Int) (t8 : Int) (t9 : Int) : laws_kHas_l (k + 1) (n, t7, t8, t9) =
  cond (decide (t9 < t8))
  (cond (inB t9 t7.length)
   (cond ((t7.getD t9.toNat default) == n)
    (some (.inl true))
    (laws_kHas_l k (n, t7, t8, (w64 (t9 + 1)))))
   (none))
  (some (.inr ())) := by kernel_rfl
end Go.Proofs.YtplamonjnlgomaaGreatDoorS
