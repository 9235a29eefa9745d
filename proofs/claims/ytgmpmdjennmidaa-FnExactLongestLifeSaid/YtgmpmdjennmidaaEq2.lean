/- What each function computes (printed by wip/sim/gen.py). -/
import Derived.Test.YtgmpmdjennmidaaTab
namespace Go.Proofs.YtgmpmdjennmidaaS
open Go Go.Proofs
set_option maxRecDepth 100000
set_option linter.unusedVariables false
theorem laws_big.eq (k : Nat) (code : List Int) (more : List Int) : laws_big (k + 1) (code, more) =
  cond (decide ((code.length : Int) > 1048576))
  (some true)
  (some (decide ((more.length : Int) > (w64 (1048576 - (code.length : Int)))))) := by kernel_rfl
theorem spec_DrawLifeOf.eq (k : Nat) (code : List Int) : spec_DrawLifeOf (k + 1) code =
  (spec_DrawEatLine k code).bind fun r1 =>
  some r1 := by kernel_rfl
theorem spec_DrawEatLine.eq (k : Nat) (code : List Int) : spec_DrawEatLine (k + 1) code =
  (spec_l1Cur_eater k (code, 0, 0)).bind fun r1 =>
  some r1.1 := by kernel_rfl
theorem spec_l1Cur_eater.eq (k : Nat) (c_code : List Int) (c_at : Int) (c_seed : Int) : spec_l1Cur_eater (k + 1) (c_code, c_at, c_seed) =
  (spec_l1Cur_one k ((c_code, c_at, c_seed), 16)).bind fun r1 =>
  cond r1.1
  ((spec_l1Cur_worm k r1.2).bind fun r2 =>
   (spec_l1Cur_of k (r2.2, [ByteArray.empty, (bs [76, 78, 78]), (bs [76, 78, 82, 85]), (bs [108, 110, 114]), (bs [76, 78])])).bind fun r3 =>
   some ((r2.1, r3.1), r3.2))
  ((spec_l1Cur_worm k r1.2).bind fun r4 =>
   (spec_l1Cur_taste k r4.2).bind fun r5 =>
   some ((r4.1, r5.1), r5.2)) := by kernel_rfl
theorem spec_l1Cur_one.eq (k : Nat) (c_code : List Int) (c_at : Int) (c_seed : Int) (n : Int) : spec_l1Cur_one (k + 1) ((c_code, c_at, c_seed), n) =
  (spec_l1Cur_pick k ((c_code, c_at, c_seed), n)).bind fun r1 =>
  some ((r1.1 == 0), r1.2) := by kernel_rfl
theorem spec_l1Cur_pick.eq (k : Nat) (c_code : List Int) (c_at : Int) (c_seed : Int) (n : Int) : spec_l1Cur_pick (k + 1) ((c_code, c_at, c_seed), n) =
  cond (decide (n ≤ 1))
  (some (0, (c_code, c_at, c_seed)))
  ((spec_l1Cur_next k (c_code, c_at, c_seed)).bind fun r1 =>
   cond (decide (n > 200))
   ((spec_l1Cur_next k r1.2).bind fun r2 =>
    cond (n != 0)
    (some (((w64 ((w64 (r1.1 * 256)) + r2.1)).tmod n), r2.2))
    (none))
   (cond (n != 0)
    (some ((r1.1.tmod n), r1.2))
    (none))) := by kernel_rfl
theorem spec_l1Cur_next.eq (k : Nat) (c_code : List Int) (c_at : Int) (c_seed : Int) : spec_l1Cur_next (k + 1) (c_code, c_at, c_seed) =
  cond (decide (c_at < (c_code.length : Int)))
  (cond (inB c_at c_code.length)
   (cond (decide ((w64 (c_at + 1)) ≤ (c_code.length : Int)))
    (some ((w64 (c_code.getD c_at.toNat default)), (c_code, (w64 (c_at + 1)), (IntKind.u64.wrap ((IntKind.u64.wrap ((IntKind.u64.wrap (c_seed * 6364136223846793005)) + (IntKind.u64.wrap (w64 (c_code.getD c_at.toNat default))))) + 1442695040888963407)))))
    (some ((w64 (andI .u64 (shrI .u64 (IntKind.u64.wrap ((IntKind.u64.wrap ((IntKind.u64.wrap (c_seed * 6364136223846793005)) + (IntKind.u64.wrap (w64 (c_code.getD c_at.toNat default))))) + 1442695040888963407)) 40) 255)), (c_code, (w64 (c_at + 1)), (IntKind.u64.wrap ((IntKind.u64.wrap ((IntKind.u64.wrap (c_seed * 6364136223846793005)) + (IntKind.u64.wrap (w64 (c_code.getD c_at.toNat default))))) + 1442695040888963407))))))
   (none))
  (cond (decide ((w64 (c_at + 1)) ≤ (c_code.length : Int)))
   (some (0, (c_code, (w64 (c_at + 1)), (IntKind.u64.wrap ((IntKind.u64.wrap ((IntKind.u64.wrap (c_seed * 6364136223846793005)) + 0)) + 1442695040888963407)))))
   (some ((w64 (andI .u64 (shrI .u64 (IntKind.u64.wrap ((IntKind.u64.wrap ((IntKind.u64.wrap (c_seed * 6364136223846793005)) + 0)) + 1442695040888963407)) 40) 255)), (c_code, (w64 (c_at + 1)), (IntKind.u64.wrap ((IntKind.u64.wrap ((IntKind.u64.wrap (c_seed * 6364136223846793005)) + 0)) + 1442695040888963407)))))) := by kernel_rfl
theorem spec_l1Cur_worm.eq (k : Nat) (c_code : List Int) (c_at : Int) (c_seed : Int) : spec_l1Cur_worm (k + 1) (c_code, c_at, c_seed) =
  (spec_l1Cur_sureWorm k (c_code, c_at, c_seed)).bind fun r1 =>
  (spec_l1Cur_pick k (r1.2, 18)).bind fun r2 =>
  cond (r2.1 == 0)
  ((spec_l1Cur_among k (r2.2, [(-1), 0, 2, 6, 7, 4611686018427387904])).bind fun r3 =>
   some ((r3.1, r1.1.2.1, r1.1.2.2.1, r1.1.2.2.2.1, r1.1.2.2.2.2.1, r1.1.2.2.2.2.2.1, r1.1.2.2.2.2.2.2), r3.2))
  (cond (r2.1 == 1)
   (cond (fitS r1.1.2.2.1 (bs [49]))
    (some ((r1.1.1, r1.1.2.1, (r1.1.2.2.1 ++ (bs [49])), r1.1.2.2.2.1, r1.1.2.2.2.2.1, r1.1.2.2.2.2.2.1, r1.1.2.2.2.2.2.2), r2.2))
    (none))
   (cond (r2.1 == 2)
    ((spec_l1Cur_among k (r2.2, [(-1), 4])).bind fun r4 =>
     some ((r1.1.1, r1.1.2.1, r1.1.2.2.1, r1.1.2.2.2.1, r1.1.2.2.2.2.1, r1.1.2.2.2.2.2.1, r4.1), r4.2))
    (cond (r2.1 == 3)
     ((spec_l1Cur_spoilt k (r2.2, r1.1.2.2.2.1, (bs [48, 49, 50]))).bind fun r5 =>
      some ((r1.1.1, r1.1.2.1, r1.1.2.2.1, r5.1, r1.1.2.2.2.2.1, r1.1.2.2.2.2.2.1, r1.1.2.2.2.2.2.2), r5.2))
     (some (r1.1, r2.2))))) := by kernel_rfl
theorem spec_l1Cur_sureWorm.eq (k : Nat) (c_code : List Int) (c_at : Int) (c_seed : Int) : spec_l1Cur_sureWorm (k + 1) (c_code, c_at, c_seed) =
  (spec_l1Cur_pick k ((c_code, c_at, c_seed), 3)).bind fun r1 =>
  (spec_l1Cur_pick k (r1.2, 3)).bind fun r2 =>
  (spec_l1Cur_pick k (r2.2, 4)).bind fun r3 =>
  (spec_l1Cur_pick k (r3.2, (w64 (3 + r1.1)))).bind fun r4 =>
  (spec_l1Cur_pick k (r4.2, (w64 (3 + r2.1)))).bind fun r5 =>
  (spec_wmOnes k (w64 ((w64 (3 + r1.1)) * (w64 (3 + r2.1))))).bind fun r6 =>
  (spec_l1Cur_one k (r5.2, 2)).bind fun r7 =>
  cond r7.1
  ((spec_l1Cur_taste k r7.2).bind fun r8 =>
   (spec_l1Cur_pick k (r8.2, 30)).bind fun r9 =>
   (spec_l1Cur_sureWorm_l k (r9.2, (0, 0, ByteArray.empty, ByteArray.empty, 0, 0, 0), ((w64 (3 + r1.1)), (w64 (3 + r2.1)), r6, r6, r4.1, r5.1, r3.1), r8.1, r9.1, ())).bind fun r10 =>
   (spec_l1Cur_one k (r10.1, 4)).bind fun r11 =>
   cond r11.1
   ((spec_l1Cur_spoilt k (r11.2, r10.2.2.1.2.2.1, (bs [48, 49]))).bind fun r12 =>
    (spec_l1Cur_spoilt k (r12.2, r10.2.2.1.2.2.2.1, (bs [48, 49]))).bind fun r13 =>
    (spec_wmGood k (r10.2.2.1.1, r10.2.2.1.2.1, r12.1, r13.1, r10.2.2.1.2.2.2.2.1, r10.2.2.1.2.2.2.2.2.1, r10.2.2.1.2.2.2.2.2.2)).bind fun r14 =>
    cond (!r14)
    ((spec_wmOnes k (w64 (r10.2.2.1.1 * r10.2.2.1.2.1))).bind fun r15 =>
     some ((r10.2.2.1.1, r10.2.2.1.2.1, r15, r15, r10.2.2.1.2.2.2.2.1, r10.2.2.1.2.2.2.2.2.1, r10.2.2.1.2.2.2.2.2.2), r13.2))
    (some ((r10.2.2.1.1, r10.2.2.1.2.1, r12.1, r13.1, r10.2.2.1.2.2.2.2.1, r10.2.2.1.2.2.2.2.2.1, r10.2.2.1.2.2.2.2.2.2), r13.2)))
   (some (r10.2.2.1, r11.2)))
  ((spec_l1Cur_one k (r7.2, 4)).bind fun r16 =>
   cond r16.1
   ((spec_l1Cur_spoilt k (r16.2, r6, (bs [48, 49]))).bind fun r17 =>
    (spec_l1Cur_spoilt k (r17.2, r6, (bs [48, 49]))).bind fun r18 =>
    (spec_wmGood k ((w64 (3 + r1.1)), (w64 (3 + r2.1)), r17.1, r18.1, r4.1, r5.1, r3.1)).bind fun r19 =>
    cond (!r19)
    ((spec_wmOnes k (w64 ((w64 (3 + r1.1)) * (w64 (3 + r2.1))))).bind fun r20 =>
     some (((w64 (3 + r1.1)), (w64 (3 + r2.1)), r20, r20, r4.1, r5.1, r3.1), r18.2))
    (some (((w64 (3 + r1.1)), (w64 (3 + r2.1)), r17.1, r18.1, r4.1, r5.1, r3.1), r18.2)))
   (some (((w64 (3 + r1.1)), (w64 (3 + r2.1)), r6, r6, r4.1, r5.1, r3.1), r16.2))) := by kernel_rfl
theorem spec_wmOnes.eq (k : Nat) (n : Int) : spec_wmOnes (k + 1) n =
  (spec_wmOnes_l k (n, ByteArray.empty)).bind fun r1 =>
  some r1 := by kernel_rfl
theorem spec_wmOnes_l.eq (k : Nat) (n : Int) (out : ByteArray) : spec_wmOnes_l (k + 1) (n, out) =
  cond (decide (n > 0))
  (cond (fitS out (bs [49]))
   (spec_wmOnes_l k ((w64 (n - 1)), (out ++ (bs [49]))))
   (none))
  (some out) := by kernel_rfl
theorem spec_l1Cur_taste.eq (k : Nat) (c_code : List Int) (c_at : Int) (c_seed : Int) : spec_l1Cur_taste (k + 1) (c_code, c_at, c_seed) =
  (spec_wmTastes k ()).bind fun r1 =>
  (spec_l1Cur_of k ((c_code, c_at, c_seed), r1)).bind fun r2 =>
  some r2 := by kernel_rfl
theorem spec_l1Cur_of.eq (k : Nat) (c_code : List Int) (c_at : Int) (c_seed : Int) (list : List ByteArray) : spec_l1Cur_of (k + 1) ((c_code, c_at, c_seed), list) =
  (spec_l1Cur_pick k ((c_code, c_at, c_seed), (list.length : Int))).bind fun r1 =>
  cond (inB r1.1 list.length)
  (some ((list.getD r1.1.toNat default), r1.2))
  (none) := by kernel_rfl
theorem spec_l1Cur_sureWorm_l.eq (k : Nat) (c_code : List Int) (c_at : Int) (c_seed : Int) (t2_Width : Int) (t2_Height : Int) (t2_Right : ByteArray) (t2_Down : ByteArray) (t2_X : Int) (t2_Y : Int) (t2_Way : Int) (w_Width : Int) (w_Height : Int) (w_Right : ByteArray) (w_Down : ByteArray) (w_X : Int) (w_Y : Int) (w_Way : Int) (taste : ByteArray) (k_ : Int) : spec_l1Cur_sureWorm_l (k + 1) ((c_code, c_at, c_seed), (t2_Width, t2_Height, t2_Right, t2_Down, t2_X, t2_Y, t2_Way), (w_Width, w_Height, w_Right, w_Down, w_X, w_Y, w_Way), taste, k_, ()) =
  cond (decide (k_ > 0))
  ((spec_wmEat k ((w_Width, w_Height, w_Right, w_Down, w_X, w_Y, w_Way), taste)).bind fun r1 =>
   spec_l1Cur_sureWorm_l k ((c_code, c_at, c_seed), (t2_Width, t2_Height, t2_Right, t2_Down, t2_X, t2_Y, t2_Way), r1.2, taste, (w64 (k_ - 1)), ()))
  (some ((c_code, c_at, c_seed), (t2_Width, t2_Height, t2_Right, t2_Down, t2_X, t2_Y, t2_Way), (w_Width, w_Height, w_Right, w_Down, w_X, w_Y, w_Way), ())) := by kernel_rfl
theorem spec_l1Cur_spoilt.eq (k : Nat) (c_code : List Int) (c_at : Int) (c_seed : Int) (t : ByteArray) (with_ : ByteArray) : spec_l1Cur_spoilt (k + 1) ((c_code, c_at, c_seed), t, with_) =
  (spec_l1Cur_pick k ((c_code, c_at, c_seed), 2)).bind fun r1 =>
  (spec_l1Cur_spoilt_l k (r1.2, t, with_, (w64 (1 + r1.1)), ())).bind fun r2 =>
  some r2 := by kernel_rfl
theorem spec_l1Cur_spoilt_l.eq (k : Nat) (c_code : List Int) (c_at : Int) (c_seed : Int) (t : ByteArray) (with_ : ByteArray) (n : Int) : spec_l1Cur_spoilt_l (k + 1) ((c_code, c_at, c_seed), t, with_, n, ()) =
  cond (decide (n > 0))
  (cond (decide ((t.size : Int) > 0))
   ((spec_l1Cur_pick k ((c_code, c_at, c_seed), (t.size : Int))).bind fun r1 =>
    (spec_l1Cur_pick k (r1.2, (with_.size : Int))).bind fun r2 =>
    cond (inB r2.1 with_.size)
    ((spec_l1Cur_pick k (r2.2, 3)).bind fun r3 =>
     cond (r3.1 == 0)
     (cond ((decide ((0 : Int) ≤ r1.1)) && (decide (r1.1 ≤ (t.size : Int))))
      (cond (fitS (t.extract 0 r1.1.toNat) (ofBytes [(bt with_ r2.1.toNat)]))
       (cond ((decide ((0 : Int) ≤ r1.1)) && (decide (r1.1 ≤ (t.size : Int))))
        (cond (fitS ((t.extract 0 r1.1.toNat) ++ (ofBytes [(bt with_ r2.1.toNat)])) (t.extract r1.1.toNat t.size))
         (spec_l1Cur_spoilt_l k (r3.2, (((t.extract 0 r1.1.toNat) ++ (ofBytes [(bt with_ r2.1.toNat)])) ++ (t.extract r1.1.toNat t.size)), with_, (w64 (n - 1)), ()))
         (none))
        (none))
       (none))
      (none))
     (cond (r3.1 == 1)
      (cond ((decide ((0 : Int) ≤ r1.1)) && (decide (r1.1 ≤ (t.size : Int))))
       (cond (fitS (t.extract 0 r1.1.toNat) (ofBytes [(bt with_ r2.1.toNat)]))
        (cond ((decide ((0 : Int) ≤ (w64 (r1.1 + 1)))) && (decide ((w64 (r1.1 + 1)) ≤ (t.size : Int))))
         (cond (fitS ((t.extract 0 r1.1.toNat) ++ (ofBytes [(bt with_ r2.1.toNat)])) (t.extract ((w64 (r1.1 + 1)).toNat) t.size))
          (spec_l1Cur_spoilt_l k (r3.2, (((t.extract 0 r1.1.toNat) ++ (ofBytes [(bt with_ r2.1.toNat)])) ++ (t.extract ((w64 (r1.1 + 1)).toNat) t.size)), with_, (w64 (n - 1)), ()))
          (none))
         (none))
        (none))
       (none))
      (cond ((decide ((0 : Int) ≤ r1.1)) && (decide (r1.1 ≤ (t.size : Int))))
       (cond ((decide ((0 : Int) ≤ (w64 (r1.1 + 1)))) && (decide ((w64 (r1.1 + 1)) ≤ (t.size : Int))))
        (cond (fitS (t.extract 0 r1.1.toNat) (t.extract ((w64 (r1.1 + 1)).toNat) t.size))
         (spec_l1Cur_spoilt_l k (r3.2, ((t.extract 0 r1.1.toNat) ++ (t.extract ((w64 (r1.1 + 1)).toNat) t.size)), with_, (w64 (n - 1)), ()))
         (none))
        (none))
       (none))))
    (none))
   (some (t, (c_code, c_at, c_seed))))
  (some (t, (c_code, c_at, c_seed))) := by kernel_rfl
theorem spec_l1Cur_among.eq (k : Nat) (c_code : List Int) (c_at : Int) (c_seed : Int) (list : List Int) : spec_l1Cur_among (k + 1) ((c_code, c_at, c_seed), list) =
  (spec_l1Cur_pick k ((c_code, c_at, c_seed), (list.length : Int))).bind fun r1 =>
  cond (inB r1.1 list.length)
  (some ((list.getD r1.1.toNat default), r1.2))
  (none) := by kernel_rfl
theorem impl_LifeOf.eq (k : Nat) (w_Width : Int) (w_Height : Int) (w_Right : ByteArray) (w_Down : ByteArray) (w_X : Int) (w_Y : Int) (w_Way : Int) (taste : ByteArray) : impl_LifeOf (k + 1) ((w_Width, w_Height, w_Right, w_Down, w_X, w_Y, w_Way), taste) =
  (impl_MealsOfWorm k ((w_Width, w_Height, w_Right, w_Down, w_X, w_Y, w_Way), taste)).bind fun r1 =>
  some ((r1.1.size : Int), r1.2) := by kernel_rfl
theorem impl_MealsOfWorm.eq (k : Nat) (w_Width : Int) (w_Height : Int) (w_Right : ByteArray) (w_Down : ByteArray) (w_X : Int) (w_Y : Int) (w_Way : Int) (taste : ByteArray) : impl_MealsOfWorm (k + 1) ((w_Width, w_Height, w_Right, w_Down, w_X, w_Y, w_Way), taste) =
  (impl_isTasting k ((w_Width, w_Height, w_Right, w_Down, w_X, w_Y, w_Way), taste)).bind fun r1 =>
  cond (!r1)
  (some (ByteArray.empty, false))
  ((impl_Worm_life k ((w_Width, w_Height, w_Right, w_Down, w_X, w_Y, w_Way), taste)).bind fun r2 =>
   some (r2.2.2, true)) := by kernel_rfl
theorem spec_LifeOf.eq (k : Nat) (w_Width : Int) (w_Height : Int) (w_Right : ByteArray) (w_Down : ByteArray) (w_X : Int) (w_Y : Int) (w_Way : Int) (taste : ByteArray) : spec_LifeOf (k + 1) ((w_Width, w_Height, w_Right, w_Down, w_X, w_Y, w_Way), taste) =
  (spec_wmAsked k ((w_Width, w_Height, w_Right, w_Down, w_X, w_Y, w_Way), taste)).bind fun r1 =>
  cond (!r1)
  (some (0, false))
  ((spec_wmLife k ((w_Width, w_Height, w_Right, w_Down, w_X, w_Y, w_Way), taste)).bind fun r2 =>
   some ((r2.2.1.size : Int), true)) := by kernel_rfl
theorem impl_DeathOf.eq (k : Nat) (w_Width : Int) (w_Height : Int) (w_Right : ByteArray) (w_Down : ByteArray) (w_X : Int) (w_Y : Int) (w_Way : Int) (taste : ByteArray) : impl_DeathOf (k + 1) ((w_Width, w_Height, w_Right, w_Down, w_X, w_Y, w_Way), taste) =
  (impl_isTasting k ((w_Width, w_Height, w_Right, w_Down, w_X, w_Y, w_Way), taste)).bind fun r1 =>
  cond (!r1)
  (some ((0, 0, ByteArray.empty, ByteArray.empty, 0, 0, 0), false))
  ((impl_Worm_life k ((w_Width, w_Height, w_Right, w_Down, w_X, w_Y, w_Way), taste)).bind fun r2 =>
   some (r2.1, true)) := by kernel_rfl
theorem spec_DeathOf.eq (k : Nat) (w_Width : Int) (w_Height : Int) (w_Right : ByteArray) (w_Down : ByteArray) (w_X : Int) (w_Y : Int) (w_Way : Int) (taste : ByteArray) : spec_DeathOf (k + 1) ((w_Width, w_Height, w_Right, w_Down, w_X, w_Y, w_Way), taste) =
  (spec_wmAsked k ((w_Width, w_Height, w_Right, w_Down, w_X, w_Y, w_Way), taste)).bind fun r1 =>
  cond (!r1)
  (some ((0, 0, ByteArray.empty, ByteArray.empty, 0, 0, 0), false))
  ((spec_wmLife k ((w_Width, w_Height, w_Right, w_Down, w_X, w_Y, w_Way), taste)).bind fun r2 =>
   some (r2.1, true)) := by kernel_rfl
theorem spec_MealsOfWorm.eq (k : Nat) (w_Width : Int) (w_Height : Int) (w_Right : ByteArray) (w_Down : ByteArray) (w_X : Int) (w_Y : Int) (w_Way : Int) (taste : ByteArray) : spec_MealsOfWorm (k + 1) ((w_Width, w_Height, w_Right, w_Down, w_X, w_Y, w_Way), taste) =
  (spec_wmAsked k ((w_Width, w_Height, w_Right, w_Down, w_X, w_Y, w_Way), taste)).bind fun r1 =>
  cond (!r1)
  (some (ByteArray.empty, false))
  ((spec_wmLife k ((w_Width, w_Height, w_Right, w_Down, w_X, w_Y, w_Way), taste)).bind fun r2 =>
   some (r2.2.1, true)) := by kernel_rfl
theorem impl_EatLine.eq (k : Nat) (w_Width : Int) (w_Height : Int) (w_Right : ByteArray) (w_Down : ByteArray) (w_X : Int) (w_Y : Int) (w_Way : Int) (taste : ByteArray) : impl_EatLine (k + 1) ((w_Width, w_Height, w_Right, w_Down, w_X, w_Y, w_Way), taste) =
  (impl_WormAfter k ((w_Width, w_Height, w_Right, w_Down, w_X, w_Y, w_Way), taste, 1)).bind fun r1 =>
  some r1 := by kernel_rfl
theorem impl_WormAfter.eq (k : Nat) (w_Width : Int) (w_Height : Int) (w_Right : ByteArray) (w_Down : ByteArray) (w_X : Int) (w_Y : Int) (w_Way : Int) (taste : ByteArray) (steps : Int) : impl_WormAfter (k + 1) ((w_Width, w_Height, w_Right, w_Down, w_X, w_Y, w_Way), taste, steps) =
  (impl_isTasting k ((w_Width, w_Height, w_Right, w_Down, w_X, w_Y, w_Way), taste)).bind fun r1 =>
  cond (!r1)
  (some ((0, 0, ByteArray.empty, ByteArray.empty, 0, 0, 0), false))
  ((impl_within k (steps, 0, 100)).bind fun r2 =>
   cond (!r2)
   (some ((0, 0, ByteArray.empty, ByteArray.empty, 0, 0, 0), false))
   ((impl_WormAfter_l k (taste, (w_Width, w_Height, w_Right, w_Down, w_X, w_Y, w_Way), (0, 0, ByteArray.empty, ByteArray.empty, 0, 0, 0), steps, 0)).bind fun r3 =>
    r3.elim
    (fun r4 => some r4)
    (fun r5 => some (r5.1, true)))) := by kernel_rfl
theorem impl_WormAfter_l.eq (k : Nat) (taste : ByteArray) (w_Width : Int) (w_Height : Int) (w_Right : ByteArray) (w_Down : ByteArray) (w_X : Int) (w_Y : Int) (w_Way : Int) (t6_Width : Int) (t6_Height : Int) (t6_Right : ByteArray) (t6_Down : ByteArray) (t6_X : Int) (t6_Y : Int) (t6_Way : Int) (t21 : Int) (t22 : Int) : impl_WormAfter_l (k + 1) (taste, (w_Width, w_Height, w_Right, w_Down, w_X, w_Y, w_Way), (t6_Width, t6_Height, t6_Right, t6_Down, t6_X, t6_Y, t6_Way), t21, t22) =
  cond (decide (t22 < t21))
  ((impl_Worm_eat k ((w_Width, w_Height, w_Right, w_Down, w_X, w_Y, w_Way), taste)).bind fun r1 =>
   cond (!r1.2.2)
   (some (.inl ((0, 0, ByteArray.empty, ByteArray.empty, 0, 0, 0), false)))
   (impl_WormAfter_l k (taste, r1.1, (t6_Width, t6_Height, t6_Right, t6_Down, t6_X, t6_Y, t6_Way), t21, (w64 (t22 + 1)))))
  (some (.inr ((w_Width, w_Height, w_Right, w_Down, w_X, w_Y, w_Way), (t6_Width, t6_Height, t6_Right, t6_Down, t6_X, t6_Y, t6_Way)))) := by kernel_rfl
theorem spec_EatLine.eq (k : Nat) (w_Width : Int) (w_Height : Int) (w_Right : ByteArray) (w_Down : ByteArray) (w_X : Int) (w_Y : Int) (w_Way : Int) (taste : ByteArray) : spec_EatLine (k + 1) ((w_Width, w_Height, w_Right, w_Down, w_X, w_Y, w_Way), taste) =
  (spec_wmAsked k ((w_Width, w_Height, w_Right, w_Down, w_X, w_Y, w_Way), taste)).bind fun r1 =>
  cond (!r1)
  (some ((0, 0, ByteArray.empty, ByteArray.empty, 0, 0, 0), false))
  ((spec_wmEat k ((w_Width, w_Height, w_Right, w_Down, w_X, w_Y, w_Way), taste)).bind fun r2 =>
   cond (strEq r2.1 ByteArray.empty)
   (some ((0, 0, ByteArray.empty, ByteArray.empty, 0, 0, 0), false))
   (some (r2.2, true))) := by kernel_rfl
theorem laws_dSame.eq (k : Nat) (a : List Int) (b : List Int) : laws_dSame (k + 1) (a, b) =
  cond ((a.length : Int) != (b.length : Int))
  (some false)
  ((laws_dSame_l k (a, b, (a.length : Int), 0)).bind fun r1 =>
   r1.elim
   (fun r2 => some r2)
   (fun r3 => some true)) := by kernel_rfl
theorem laws_dSame_l.eq (k : Nat) (a : List Int) (b : List Int) (t12 : Int) (t13 : Int) : laws_dSame_l (k + 1) (a, b, t12, t13) =
  cond (decide (t13 < t12))
  (cond (inB t13 a.length)
   (cond (inB t13 b.length)
    (cond ((a.getD t13.toNat default) != (b.getD t13.toNat default))
     (some (.inl false))
     (laws_dSame_l k (a, b, t12, (w64 (t13 + 1)))))
    (none))
   (none))
  (some (.inr ())) := by kernel_rfl
theorem spec_IsTaste.eq (k : Nat) (taste : ByteArray) : spec_IsTaste (k + 1) taste =
  (spec_wmTaste k taste).bind fun r1 =>
  some r1 := by kernel_rfl
theorem spec_IsWorm.eq (k : Nat) (w_Width : Int) (w_Height : Int) (w_Right : ByteArray) (w_Down : ByteArray) (w_X : Int) (w_Y : Int) (w_Way : Int) : spec_IsWorm (k + 1) (w_Width, w_Height, w_Right, w_Down, w_X, w_Y, w_Way) =
  (spec_wmGood k (w_Width, w_Height, w_Right, w_Down, w_X, w_Y, w_Way)).bind fun r1 =>
  some r1 := by kernel_rfl
theorem impl_LinesLeft.eq (k : Nat) (w_Width : Int) (w_Height : Int) (w_Right : ByteArray) (w_Down : ByteArray) (w_X : Int) (w_Y : Int) (w_Way : Int) : impl_LinesLeft (k + 1) (w_Width, w_Height, w_Right, w_Down, w_X, w_Y, w_Way) =
  (impl_IsWorm k (w_Width, w_Height, w_Right, w_Down, w_X, w_Y, w_Way)).bind fun r1 =>
  cond (!r1)
  (some (0, false))
  (cond (fitS w_Right w_Down)
   ((strings_Count k ((w_Right ++ w_Down), (bs [49]))).bind fun r2 =>
    some (r2, true))
   (none)) := by kernel_rfl
theorem strings_Count.eq (k : Nat) (d : ByteArray × ByteArray) : strings_Count (k + 1) d = (fun d => strCount1 d.1 d.2) d := by kernel_rfl
theorem impl_GiveBack.eq (k : Nat) (w_Width : Int) (w_Height : Int) (w_Right : ByteArray) (w_Down : ByteArray) (w_X : Int) (w_Y : Int) (w_Way : Int) (way : Int) : impl_GiveBack (k + 1) ((w_Width, w_Height, w_Right, w_Down, w_X, w_Y, w_Way), way) =
  (impl_IsWorm k (w_Width, w_Height, w_Right, w_Down, w_X, w_Y, w_Way)).bind fun r1 =>
  cond (!r1)
  (some ((0, 0, ByteArray.empty, ByteArray.empty, 0, 0, 0), false))
  ((impl_isWay k way).bind fun r2 =>
   cond (!r2)
   (some ((0, 0, ByteArray.empty, ByteArray.empty, 0, 0, 0), false))
   (cond (way == ((w64 (w_Way + 2)).tmod 4))
    (some ((0, 0, ByteArray.empty, ByteArray.empty, 0, 0, 0), false))
    ((impl_Worm_node k (w_Width, w_Height, w_Right, w_Down, w_X, w_Y, w_Way)).bind fun r3 =>
     (impl_Worm_beside k ((w_Width, w_Height, w_Right, w_Down, w_X, w_Y, w_Way), r3, ((w64 (w_Way + 2)).tmod 4))).bind fun r4 =>
     (impl_Worm_there k ((w_Width, w_Height, w_Right, w_Down, w_X, w_Y, w_Way), r4, w_Way)).bind fun r5 =>
     cond r5
     (some ((0, 0, ByteArray.empty, ByteArray.empty, 0, 0, 0), false))
     ((impl_Worm_made k ((w_Width, w_Height, w_Right, w_Down, w_X, w_Y, w_Way), r4, w_Way, 1)).bind fun r6 =>
      cond (w_Width != 0)
      (cond (w_Width != 0)
       (some ((r6.1, r6.2.1, r6.2.2.1, r6.2.2.2.1, (r4.tmod w_Width), (w64 (r4.tdiv w_Width)), way), true))
       (none))
      (none))))) := by kernel_rfl
theorem spec_DrawWormAfter.eq (k : Nat) (code : List Int) : spec_DrawWormAfter (k + 1) code =
  (spec_l1Cur_eater k (code, 0, 0)).bind fun r1 =>
  (spec_l1Cur_among k (r1.2, [0, 1, 2, 4, 7, 12, 20, 100, 101, (-1)])).bind fun r2 =>
  some (r1.1.1, r1.1.2, r2.1) := by kernel_rfl
theorem spec_WormAfter.eq (k : Nat) (w_Width : Int) (w_Height : Int) (w_Right : ByteArray) (w_Down : ByteArray) (w_X : Int) (w_Y : Int) (w_Way : Int) (taste : ByteArray) (steps : Int) : spec_WormAfter (k + 1) ((w_Width, w_Height, w_Right, w_Down, w_X, w_Y, w_Way), taste, steps) =
  (spec_wmAsked k ((w_Width, w_Height, w_Right, w_Down, w_X, w_Y, w_Way), taste)).bind fun r1 =>
  cond (!r1)
  (some ((0, 0, ByteArray.empty, ByteArray.empty, 0, 0, 0), false))
  ((spec_l1In k (steps, 0, 100)).bind fun r2 =>
   cond (!r2)
   (some ((0, 0, ByteArray.empty, ByteArray.empty, 0, 0, 0), false))
   ((spec_WormAfter_l k (taste, steps, (w_Width, w_Height, w_Right, w_Down, w_X, w_Y, w_Way), (0, 0, ByteArray.empty, ByteArray.empty, 0, 0, 0))).bind fun r3 =>
    r3.elim
    (fun r4 => some r4)
    (fun r5 => some (r5.1, true)))) := by kernel_rfl
theorem spec_WormAfter_l.eq (k : Nat) (taste : ByteArray) (steps : Int) (w_Width : Int) (w_Height : Int) (w_Right : ByteArray) (w_Down : ByteArray) (w_X : Int) (w_Y : Int) (w_Way : Int) (t6_Width : Int) (t6_Height : Int) (t6_Right : ByteArray) (t6_Down : ByteArray) (t6_X : Int) (t6_Y : Int) (t6_Way : Int) : spec_WormAfter_l (k + 1) (taste, steps, (w_Width, w_Height, w_Right, w_Down, w_X, w_Y, w_Way), (t6_Width, t6_Height, t6_Right, t6_Down, t6_X, t6_Y, t6_Way)) =
  cond (decide (steps > 0))
  ((spec_wmEat k ((w_Width, w_Height, w_Right, w_Down, w_X, w_Y, w_Way), taste)).bind fun r1 =>
   cond (strEq r1.1 ByteArray.empty)
   (some (.inl ((0, 0, ByteArray.empty, ByteArray.empty, 0, 0, 0), false)))
   (spec_WormAfter_l k (taste, (w64 (steps - 1)), r1.2, (t6_Width, t6_Height, t6_Right, t6_Down, t6_X, t6_Y, t6_Way))))
  (some (.inr ((w_Width, w_Height, w_Right, w_Down, w_X, w_Y, w_Way), (t6_Width, t6_Height, t6_Right, t6_Down, t6_X, t6_Y, t6_Way)))) := by kernel_rfl
end Go.Proofs.YtgmpmdjennmidaaS
