/- What each function computes (printed by wip/sim/gen.py). -/
import Derived.Test.YtplamonjnlgomaaGreatDoorTab
namespace Go.Proofs.YtplamonjnlgomaaGreatDoorS
open Go Go.Proofs
set_option maxRecDepth 100000
set_option linter.unusedVariables false
theorem laws_FnWormsLeave.eq (k : Nat) (code : List Int) (more : List Int) : laws_FnWormsLeave (k + 1) (code, more) =
  (laws_big k (code, more)).bind fun r1 =>
  cond r1
  (some true)
  ((spec_DrawOddNodes k code).bind fun r2 =>
   (impl_OddNodes k r2).bind fun r3 =>
   (spec_OddNodes k r2).bind fun r4 =>
   (impl_PiecesLeft k r2).bind fun r5 =>
   (spec_PiecesLeft k r2).bind fun r6 =>
   (impl_LongestLife k r2).bind fun r7 =>
   (spec_LongestLife k r2).bind fun r8 =>
   (impl_LinesLeft k r2).bind fun r9 =>
   (spec_LinesLeft k r2).bind fun r10 =>
   (impl_WormText k r2).bind fun r11 =>
   (spec_WormText k r2).bind fun r12 =>
   cond (!(r3.2 == r4.2))
   (some false)
   ((laws_dSame k (r3.1, r4.1)).bind fun r13 =>
    cond (!r13)
    (some false)
    (cond (!(r5.2 == r6.2))
     (some false)
     (cond (r5.1 != r6.1)
      (some false)
      (cond (!(r7.2.2 == r8.2.2))
       (some false)
       ((laws_dTexts k (r7.1, r8.1)).bind fun r14 =>
        cond (!r14)
        (some false)
        (cond (r7.2.1 != r8.2.1)
         (some false)
         (cond (!(r9.2 == r10.2))
          (some false)
          (cond (r9.1 != r10.1)
           (some false)
           (cond (!(r11.2 == r12.2))
            (some false)
            (cond (!(strEq r11.1 r12.1))
             (some false)
             ((impl_IsWorm k r2).bind fun r15 =>
              cond (!(r3.2 == r15))
              (some false)
              (cond (!(r5.2 == r3.2))
               (some false)
               (cond (!(r7.2.2 == r3.2))
                (some false)
                (cond (!(r9.2 == r3.2))
                 (some false)
                 (cond (!(r11.2 == r3.2))
                  (some false)
                  ((laws_FnWormsLeave_c k (more, r2, r3.1, r3.2, r5.1, r7.1, r7.2.1, r9.1, r11.1)).bind fun r16 =>
                   some r16))))))))))))))))) := by kernel_rfl
theorem laws_big.eq (k : Nat) (code : List Int) (more : List Int) : laws_big (k + 1) (code, more) =
  cond (decide ((code.length : Int) > 1048576))
  (some true)
  (some (decide ((more.length : Int) > (w64 (1048576 - (code.length : Int)))))) := by kernel_rfl
theorem spec_DrawOddNodes.eq (k : Nat) (code : List Int) : spec_DrawOddNodes (k + 1) code =
  (spec_DrawIsWorm k code).bind fun r1 =>
  some r1 := by kernel_rfl
theorem spec_DrawIsWorm.eq (k : Nat) (code : List Int) : spec_DrawIsWorm (k + 1) code =
  (spec_l1Cur_worm k (code, 0, 0)).bind fun r1 =>
  some r1.1 := by kernel_rfl
theorem spec_l1Cur_worm.eq (k : Nat) (c_code : List Int) (c_at : Int) (c_seed : Int) : spec_l1Cur_worm (k + 1) (c_code, c_at, c_seed) =
  (spec_l1Cur_sureWorm k (c_code, c_at, c_seed)).bind fun r1 =>
  (spec_l1Cur_pick k (r1.2, 18)).bind fun r2 =>
  cond (r2.1 == 0)
  ((spec_l1Cur_among k (r2.2, [(-1), 0, 2, 6, 7, 4611686018427387904])).bind fun r3 =>
   some ((r3.1, r1.1.2.1, r1.1.2.2.1, r1.1.2.2.2.1, r1.1.2.2.2.2.1, r1.1.2.2.2.2.2.1, r1.1.2.2.2.2.2.2), r3.2))
  (cond (r2.1 == 1)
   (cond (fitS r1.1.2.2.1 (bs [49]))
    (some ((r1.1.1, r1.1.2.1, (r1.1.2.2.1 ++ (bs [49])), r1.1.2.2.2.1, r1.1.2.2.2.2.1, r1.1.2.2.2.2.2.1, r1.1.2.2.2.2.2.2), r2.2))
    (none))
   (cond (r2.1 == 2)
    ((spec_l1Cur_among k (r2.2, [(-1), 4])).bind fun r4 =>
     some ((r1.1.1, r1.1.2.1, r1.1.2.2.1, r1.1.2.2.2.1, r1.1.2.2.2.2.1, r1.1.2.2.2.2.2.1, r4.1), r4.2))
    (cond (r2.1 == 3)
     ((spec_l1Cur_spoilt k (r2.2, r1.1.2.2.2.1, (bs [48, 49, 50]))).bind fun r5 =>
      some ((r1.1.1, r1.1.2.1, r1.1.2.2.1, r5.1, r1.1.2.2.2.2.1, r1.1.2.2.2.2.2.1, r1.1.2.2.2.2.2.2), r5.2))
     (some (r1.1, r2.2))))) := by kernel_rfl
theorem spec_l1Cur_sureWorm.eq (k : Nat) (c_code : List Int) (c_at : Int) (c_seed : Int) : spec_l1Cur_sureWorm (k + 1) (c_code, c_at, c_seed) =
  (spec_l1Cur_pick k ((c_code, c_at, c_seed), 3)).bind fun r1 =>
  (spec_l1Cur_pick k (r1.2, 3)).bind fun r2 =>
  (spec_l1Cur_pick k (r2.2, 4)).bind fun r3 =>
  (spec_l1Cur_pick k (r3.2, (w64 (3 + r1.1)))).bind fun r4 =>
  (spec_l1Cur_pick k (r4.2, (w64 (3 + r2.1)))).bind fun r5 =>
  (spec_wmOnes k (w64 ((w64 (3 + r1.1)) * (w64 (3 + r2.1))))).bind fun r6 =>
  (spec_l1Cur_one k (r5.2, 2)).bind fun r7 =>
  cond r7.1
  ((spec_l1Cur_taste k r7.2).bind fun r8 =>
   (spec_l1Cur_pick k (r8.2, 30)).bind fun r9 =>
   (spec_l1Cur_sureWorm_l k (r9.2, (0, 0, ByteArray.empty, ByteArray.empty, 0, 0, 0), ((w64 (3 + r1.1)), (w64 (3 + r2.1)), r6, r6, r4.1, r5.1, r3.1), r8.1, r9.1, ())).bind fun r10 =>
   (spec_l1Cur_one k (r10.1, 4)).bind fun r11 =>
   cond r11.1
   ((spec_l1Cur_spoilt k (r11.2, r10.2.2.1.2.2.1, (bs [48, 49]))).bind fun r12 =>
    (spec_l1Cur_spoilt k (r12.2, r10.2.2.1.2.2.2.1, (bs [48, 49]))).bind fun r13 =>
    (spec_wmGood k (r10.2.2.1.1, r10.2.2.1.2.1, r12.1, r13.1, r10.2.2.1.2.2.2.2.1, r10.2.2.1.2.2.2.2.2.1, r10.2.2.1.2.2.2.2.2.2)).bind fun r14 =>
    cond (!r14)
    ((spec_wmOnes k (w64 (r10.2.2.1.1 * r10.2.2.1.2.1))).bind fun r15 =>
     some ((r10.2.2.1.1, r10.2.2.1.2.1, r15, r15, r10.2.2.1.2.2.2.2.1, r10.2.2.1.2.2.2.2.2.1, r10.2.2.1.2.2.2.2.2.2), r13.2))
    (some ((r10.2.2.1.1, r10.2.2.1.2.1, r12.1, r13.1, r10.2.2.1.2.2.2.2.1, r10.2.2.1.2.2.2.2.2.1, r10.2.2.1.2.2.2.2.2.2), r13.2)))
   (some (r10.2.2.1, r11.2)))
  ((spec_l1Cur_one k (r7.2, 4)).bind fun r16 =>
   cond r16.1
   ((spec_l1Cur_spoilt k (r16.2, r6, (bs [48, 49]))).bind fun r17 =>
    (spec_l1Cur_spoilt k (r17.2, r6, (bs [48, 49]))).bind fun r18 =>
    (spec_wmGood k ((w64 (3 + r1.1)), (w64 (3 + r2.1)), r17.1, r18.1, r4.1, r5.1, r3.1)).bind fun r19 =>
    cond (!r19)
    ((spec_wmOnes k (w64 ((w64 (3 + r1.1)) * (w64 (3 + r2.1))))).bind fun r20 =>
     some (((w64 (3 + r1.1)), (w64 (3 + r2.1)), r20, r20, r4.1, r5.1, r3.1), r18.2))
    (some (((w64 (3 + r1.1)), (w64 (3 + r2.1)), r17.1, r18.1, r4.1, r5.1, r3.1), r18.2)))
   (some (((w64 (3 + r1.1)), (w64 (3 + r2.1)), r6, r6, r4.1, r5.1, r3.1), r16.2))) := by kernel_rfl
theorem spec_l1Cur_pick.eq (k : Nat) (c_code : List Int) (c_at : Int) (c_seed : Int) (n : Int) : spec_l1Cur_pick (k + 1) ((c_code, c_at, c_seed), n) =
  cond (decide (n ≤ 1))
  (some (0, (c_code, c_at, c_seed)))
  ((spec_l1Cur_next k (c_code, c_at, c_seed)).bind fun r1 =>
   cond (decide (n > 200))
   ((spec_l1Cur_next k r1.2).bind fun r2 =>
    cond (n != 0)
    (some (((w64 ((w64 (r1.1 * 256)) + r2.1)).tmod n), r2.2))
    (none))
   (cond (n != 0)
    (some ((r1.1.tmod n), r1.2))
    (none))) := by kernel_rfl
theorem spec_l1Cur_next.eq (k : Nat) (c_code : List Int) (c_at : Int) (c_seed : Int) : spec_l1Cur_next (k + 1) (c_code, c_at, c_seed) =
  cond (decide (c_at < (c_code.length : Int)))
  (cond (inB c_at c_code.length)
   (cond (decide ((w64 (c_at + 1)) ≤ (c_code.length : Int)))
    (some ((w64 (c_code.getD c_at.toNat default)), (c_code, (w64 (c_at + 1)), (IntKind.u64.wrap ((IntKind.u64.wrap ((IntKind.u64.wrap (c_seed * 6364136223846793005)) + (IntKind.u64.wrap (w64 (c_code.getD c_at.toNat default))))) + 1442695040888963407)))))
    (some ((w64 (andI .u64 (shrI .u64 (IntKind.u64.wrap ((IntKind.u64.wrap ((IntKind.u64.wrap (c_seed * 6364136223846793005)) + (IntKind.u64.wrap (w64 (c_code.getD c_at.toNat default))))) + 1442695040888963407)) 40) 255)), (c_code, (w64 (c_at + 1)), (IntKind.u64.wrap ((IntKind.u64.wrap ((IntKind.u64.wrap (c_seed * 6364136223846793005)) + (IntKind.u64.wrap (w64 (c_code.getD c_at.toNat default))))) + 1442695040888963407))))))
   (none))
  (cond (decide ((w64 (c_at + 1)) ≤ (c_code.length : Int)))
   (some (0, (c_code, (w64 (c_at + 1)), (IntKind.u64.wrap ((IntKind.u64.wrap ((IntKind.u64.wrap (c_seed * 6364136223846793005)) + 0)) + 1442695040888963407)))))
   (some ((w64 (andI .u64 (shrI .u64 (IntKind.u64.wrap ((IntKind.u64.wrap ((IntKind.u64.wrap (c_seed * 6364136223846793005)) + 0)) + 1442695040888963407)) 40) 255)), (c_code, (w64 (c_at + 1)), (IntKind.u64.wrap ((IntKind.u64.wrap ((IntKind.u64.wrap (c_seed * 6364136223846793005)) + 0)) + 1442695040888963407)))))) := by kernel_rfl
theorem spec_wmOnes.eq (k : Nat) (n : Int) : spec_wmOnes (k + 1) n =
  (spec_wmOnes_l k (n, ByteArray.empty)).bind fun r1 =>
  some r1 := by kernel_rfl
theorem spec_wmOnes_l.eq (k : Nat) (n : Int) (out : ByteArray) : spec_wmOnes_l (k + 1) (n, out) =
  cond (decide (n > 0))
  (cond (fitS out (bs [49]))
   (spec_wmOnes_l k ((w64 (n - 1)), (out ++ (bs [49]))))
   (none))
  (some out) := by kernel_rfl
theorem spec_l1Cur_one.eq (k : Nat) (c_code : List Int) (c_at : Int) (c_seed : Int) (n : Int) : spec_l1Cur_one (k + 1) ((c_code, c_at, c_seed), n) =
  (spec_l1Cur_pick k ((c_code, c_at, c_seed), n)).bind fun r1 =>
  some ((r1.1 == 0), r1.2) := by kernel_rfl
theorem spec_l1Cur_taste.eq (k : Nat) (c_code : List Int) (c_at : Int) (c_seed : Int) : spec_l1Cur_taste (k + 1) (c_code, c_at, c_seed) =
  (spec_wmTastes k ()).bind fun r1 =>
  (spec_l1Cur_of k ((c_code, c_at, c_seed), r1)).bind fun r2 =>
  some r2 := by kernel_rfl
theorem spec_wmTastes.eq (k : Nat)  : spec_wmTastes (k + 1) () =
  some ([(bs [76, 78, 82]), (bs [76, 82, 78]), (bs [78, 76, 82]), (bs [78, 82, 76]), (bs [82, 76, 78]), (bs [82, 78, 76])]) := by kernel_rfl
theorem spec_l1Cur_of.eq (k : Nat) (c_code : List Int) (c_at : Int) (c_seed : Int) (list : List ByteArray) : spec_l1Cur_of (k + 1) ((c_code, c_at, c_seed), list) =
  (spec_l1Cur_pick k ((c_code, c_at, c_seed), (list.length : Int))).bind fun r1 =>
  cond (inB r1.1 list.length)
  (some ((list.getD r1.1.toNat default), r1.2))
  (none) := by kernel_rfl
theorem spec_l1Cur_sureWorm_l.eq (k : Nat) (c_code : List Int) (c_at : Int) (c_seed : Int) (t2_Width : Int) (t2_Height : Int) (t2_Right : ByteArray) (t2_Down : ByteArray) (t2_X : Int) (t2_Y : Int) (t2_Way : Int) (w_Width : Int) (w_Height : Int) (w_Right : ByteArray) (w_Down : ByteArray) (w_X : Int) (w_Y : Int) (w_Way : Int) (taste : ByteArray) (k_ : Int) : spec_l1Cur_sureWorm_l (k + 1) ((c_code, c_at, c_seed), (t2_Width, t2_Height, t2_Right, t2_Down, t2_X, t2_Y, t2_Way), (w_Width, w_Height, w_Right, w_Down, w_X, w_Y, w_Way), taste, k_, ()) =
  cond (decide (k_ > 0))
  ((spec_wmEat k ((w_Width, w_Height, w_Right, w_Down, w_X, w_Y, w_Way), taste)).bind fun r1 =>
   spec_l1Cur_sureWorm_l k ((c_code, c_at, c_seed), (t2_Width, t2_Height, t2_Right, t2_Down, t2_X, t2_Y, t2_Way), r1.2, taste, (w64 (k_ - 1)), ()))
  (some ((c_code, c_at, c_seed), (t2_Width, t2_Height, t2_Right, t2_Down, t2_X, t2_Y, t2_Way), (w_Width, w_Height, w_Right, w_Down, w_X, w_Y, w_Way), ())) := by kernel_rfl
theorem spec_wmEat.eq (k : Nat) (w_Width : Int) (w_Height : Int) (w_Right : ByteArray) (w_Down : ByteArray) (w_X : Int) (w_Y : Int) (w_Way : Int) (taste : ByteArray) : spec_wmEat (k + 1) ((w_Width, w_Height, w_Right, w_Down, w_X, w_Y, w_Way), taste) =
  (spec_wmEat_l k ((w_Width, w_Height, w_Right, w_Down, w_X, w_Y, w_Way), taste, (taste, 0), ())).bind fun r1 =>
  r1.elim
  (fun r2 => some r2)
  (fun r3 => some (ByteArray.empty, r3)) := by kernel_rfl
theorem spec_wmEat_l.eq (k : Nat) (w_Width : Int) (w_Height : Int) (w_Right : ByteArray) (w_Down : ByteArray) (w_X : Int) (w_Y : Int) (w_Way : Int) (taste : ByteArray) (t8s : ByteArray) (t8i : Nat) : spec_wmEat_l (k + 1) ((w_Width, w_Height, w_Right, w_Down, w_X, w_Y, w_Way), taste, (t8s, t8i), ()) =
  cond (decide (t8i < t8s.size))
  (cond (inB (t8i : Int) taste.size)
   ((spec_woTurn k (bt taste ((t8i : Int).toNat))).bind fun r1 =>
    (spec_wmHas k ((w_Width, w_Height, w_Right, w_Down, w_X, w_Y, w_Way), w_X, w_Y, ((w64 (w_Way + r1)).tmod 4))).bind fun r2 =>
    cond r2
    ((spec_wmSet k ((w_Width, w_Height, w_Right, w_Down, w_X, w_Y, w_Way), w_X, w_Y, ((w64 (w_Way + r1)).tmod 4), (bs [48]))).bind fun r3 =>
     (spec_wmGo k ((r3.2.1, r3.2.2.1, r3.2.2.2.1, r3.2.2.2.2.1, r3.2.2.2.2.2.1, r3.2.2.2.2.2.2.1, ((w64 (w_Way + r1)).tmod 4)), ((w64 (w_Way + r1)).tmod 4), 1)).bind fun r4 =>
     cond (((decide ((0 : Int) ≤ (w64 ((t8i : Int) + 1)))) && (decide ((w64 ((t8i : Int) + 1)) ≤ (taste.size : Int)))) && ((decide ((0 : Int) ≤ (t8i : Int))) && (decide ((t8i : Int) ≤ (w64 ((t8i : Int) + 1))))))
     (some (.inl ((taste.extract ((t8i : Int).toNat) ((w64 ((t8i : Int) + 1)).toNat)), r4.2)))
     (none))
    (spec_wmEat_l k ((w_Width, w_Height, w_Right, w_Down, w_X, w_Y, w_Way), taste, (t8s, (runeEnd t8s t8i)), ())))
   (none))
  (some (.inr (w_Width, w_Height, w_Right, w_Down, w_X, w_Y, w_Way))) := by kernel_rfl
theorem spec_woTurn.eq (k : Nat) (sign : Int) : spec_woTurn (k + 1) sign =
  cond (sign == 82)
  (some 1)
  (cond (sign == 85)
   (some 2)
   (cond (sign == 76)
    (some 3)
    (some 0))) := by kernel_rfl
theorem spec_wmHas.eq (k : Nat) (w_Width : Int) (w_Height : Int) (w_Right : ByteArray) (w_Down : ByteArray) (w_X : Int) (w_Y : Int) (w_Way : Int) (x : Int) (y : Int) (way : Int) : spec_wmHas (k + 1) ((w_Width, w_Height, w_Right, w_Down, w_X, w_Y, w_Way), x, y, way) =
  (spec_wmLine k ((w_Width, w_Height, w_Right, w_Down, w_X, w_Y, w_Way), x, y, way)).bind fun r1 =>
  cond r1.1
  (cond (inB r1.2 w_Down.size)
   (some ((bt w_Down r1.2.toNat) == 49))
   (none))
  (cond (inB r1.2 w_Right.size)
   (some ((bt w_Right r1.2.toNat) == 49))
   (none)) := by kernel_rfl
theorem spec_wmLine.eq (k : Nat) (w_Width : Int) (w_Height : Int) (w_Right : ByteArray) (w_Down : ByteArray) (w_X : Int) (w_Y : Int) (w_Way : Int) (x : Int) (y : Int) (way : Int) : spec_wmLine (k + 1) ((w_Width, w_Height, w_Right, w_Down, w_X, w_Y, w_Way), x, y, way) =
  cond (way == 0)
  ((spec_l1Mod k ((w64 (y - 1)), w_Height)).bind fun r1 =>
   some (true, (w64 ((w64 (r1 * w_Width)) + x))))
  (cond (way == 1)
   (some (false, (w64 ((w64 (y * w_Width)) + x))))
   (cond (way == 2)
    (some (true, (w64 ((w64 (y * w_Width)) + x))))
    ((spec_l1Mod k ((w64 (x - 1)), w_Width)).bind fun r2 =>
     some (false, (w64 ((w64 (y * w_Width)) + r2)))))) := by kernel_rfl
theorem spec_l1Mod.eq (k : Nat) (n : Int) (m : Int) : spec_l1Mod (k + 1) (n, m) =
  cond (m != 0)
  (cond (m != 0)
   (some ((w64 ((n.tmod m) + m)).tmod m))
   (none))
  (none) := by kernel_rfl
theorem spec_wmSet.eq (k : Nat) (w_Width : Int) (w_Height : Int) (w_Right : ByteArray) (w_Down : ByteArray) (w_X : Int) (w_Y : Int) (w_Way : Int) (x : Int) (y : Int) (way : Int) (sign : ByteArray) : spec_wmSet (k + 1) ((w_Width, w_Height, w_Right, w_Down, w_X, w_Y, w_Way), x, y, way, sign) =
  (spec_wmLine k ((w_Width, w_Height, w_Right, w_Down, w_X, w_Y, w_Way), x, y, way)).bind fun r1 =>
  cond r1.1
  (cond ((decide ((0 : Int) ≤ r1.2)) && (decide (r1.2 ≤ (w_Down.size : Int))))
   (cond (fitS (w_Down.extract 0 r1.2.toNat) sign)
    (cond ((decide ((0 : Int) ≤ (w64 (r1.2 + 1)))) && (decide ((w64 (r1.2 + 1)) ≤ (w_Down.size : Int))))
     (cond (fitS ((w_Down.extract 0 r1.2.toNat) ++ sign) (w_Down.extract ((w64 (r1.2 + 1)).toNat) w_Down.size))
      (some ((), (w_Width, w_Height, w_Right, (((w_Down.extract 0 r1.2.toNat) ++ sign) ++ (w_Down.extract ((w64 (r1.2 + 1)).toNat) w_Down.size)), w_X, w_Y, w_Way)))
      (none))
     (none))
    (none))
   (none))
  (cond ((decide ((0 : Int) ≤ r1.2)) && (decide (r1.2 ≤ (w_Right.size : Int))))
   (cond (fitS (w_Right.extract 0 r1.2.toNat) sign)
    (cond ((decide ((0 : Int) ≤ (w64 (r1.2 + 1)))) && (decide ((w64 (r1.2 + 1)) ≤ (w_Right.size : Int))))
     (cond (fitS ((w_Right.extract 0 r1.2.toNat) ++ sign) (w_Right.extract ((w64 (r1.2 + 1)).toNat) w_Right.size))
      (some ((), (w_Width, w_Height, (((w_Right.extract 0 r1.2.toNat) ++ sign) ++ (w_Right.extract ((w64 (r1.2 + 1)).toNat) w_Right.size)), w_Down, w_X, w_Y, w_Way)))
      (none))
     (none))
    (none))
   (none)) := by kernel_rfl
theorem spec_wmGo.eq (k : Nat) (w_Width : Int) (w_Height : Int) (w_Right : ByteArray) (w_Down : ByteArray) (w_X : Int) (w_Y : Int) (w_Way : Int) (way : Int) (nodes : Int) : spec_wmGo (k + 1) ((w_Width, w_Height, w_Right, w_Down, w_X, w_Y, w_Way), way, nodes) =
  cond (way == 0)
  ((spec_l1Mod k ((w64 (w_Y - nodes)), w_Height)).bind fun r1 =>
   some ((), (w_Width, w_Height, w_Right, w_Down, w_X, r1, w_Way)))
  (cond (way == 1)
   ((spec_l1Mod k ((w64 (w_X + nodes)), w_Width)).bind fun r2 =>
    some ((), (w_Width, w_Height, w_Right, w_Down, r2, w_Y, w_Way)))
   (cond (way == 2)
    ((spec_l1Mod k ((w64 (w_Y + nodes)), w_Height)).bind fun r3 =>
     some ((), (w_Width, w_Height, w_Right, w_Down, w_X, r3, w_Way)))
    ((spec_l1Mod k ((w64 (w_X - nodes)), w_Width)).bind fun r4 =>
     some ((), (w_Width, w_Height, w_Right, w_Down, r4, w_Y, w_Way))))) := by kernel_rfl
theorem spec_l1Cur_spoilt.eq (k : Nat) (c_code : List Int) (c_at : Int) (c_seed : Int) (t : ByteArray) (with_ : ByteArray) : spec_l1Cur_spoilt (k + 1) ((c_code, c_at, c_seed), t, with_) =
  (spec_l1Cur_pick k ((c_code, c_at, c_seed), 2)).bind fun r1 =>
  (spec_l1Cur_spoilt_l k (r1.2, t, with_, (w64 (1 + r1.1)), ())).bind fun r2 =>
  some r2 := by kernel_rfl
theorem spec_l1Cur_spoilt_l.eq (k : Nat) (c_code : List Int) (c_at : Int) (c_seed : Int) (t : ByteArray) (with_ : ByteArray) (n : Int) : spec_l1Cur_spoilt_l (k + 1) ((c_code, c_at, c_seed), t, with_, n, ()) =
  cond (decide (n > 0))
  (cond (decide ((t.size : Int) > 0))
   ((spec_l1Cur_pick k ((c_code, c_at, c_seed), (t.size : Int))).bind fun r1 =>
    (spec_l1Cur_pick k (r1.2, (with_.size : Int))).bind fun r2 =>
    cond (inB r2.1 with_.size)
    ((spec_l1Cur_pick k (r2.2, 3)).bind fun r3 =>
     cond (r3.1 == 0)
     (cond ((decide ((0 : Int) ≤ r1.1)) && (decide (r1.1 ≤ (t.size : Int))))
      (cond (fitS (t.extract 0 r1.1.toNat) (ofBytes [(bt with_ r2.1.toNat)]))
       (cond ((decide ((0 : Int) ≤ r1.1)) && (decide (r1.1 ≤ (t.size : Int))))
        (cond (fitS ((t.extract 0 r1.1.toNat) ++ (ofBytes [(bt with_ r2.1.toNat)])) (t.extract r1.1.toNat t.size))
         (spec_l1Cur_spoilt_l k (r3.2, (((t.extract 0 r1.1.toNat) ++ (ofBytes [(bt with_ r2.1.toNat)])) ++ (t.extract r1.1.toNat t.size)), with_, (w64 (n - 1)), ()))
         (none))
        (none))
       (none))
      (none))
     (cond (r3.1 == 1)
      (cond ((decide ((0 : Int) ≤ r1.1)) && (decide (r1.1 ≤ (t.size : Int))))
       (cond (fitS (t.extract 0 r1.1.toNat) (ofBytes [(bt with_ r2.1.toNat)]))
        (cond ((decide ((0 : Int) ≤ (w64 (r1.1 + 1)))) && (decide ((w64 (r1.1 + 1)) ≤ (t.size : Int))))
         (cond (fitS ((t.extract 0 r1.1.toNat) ++ (ofBytes [(bt with_ r2.1.toNat)])) (t.extract ((w64 (r1.1 + 1)).toNat) t.size))
          (spec_l1Cur_spoilt_l k (r3.2, (((t.extract 0 r1.1.toNat) ++ (ofBytes [(bt with_ r2.1.toNat)])) ++ (t.extract ((w64 (r1.1 + 1)).toNat) t.size)), with_, (w64 (n - 1)), ()))
          (none))
         (none))
        (none))
       (none))
      (cond ((decide ((0 : Int) ≤ r1.1)) && (decide (r1.1 ≤ (t.size : Int))))
       (cond ((decide ((0 : Int) ≤ (w64 (r1.1 + 1)))) && (decide ((w64 (r1.1 + 1)) ≤ (t.size : Int))))
        (cond (fitS (t.extract 0 r1.1.toNat) (t.extract ((w64 (r1.1 + 1)).toNat) t.size))
         (spec_l1Cur_spoilt_l k (r3.2, ((t.extract 0 r1.1.toNat) ++ (t.extract ((w64 (r1.1 + 1)).toNat) t.size)), with_, (w64 (n - 1)), ()))
         (none))
        (none))
       (none))))
    (none))
   (some (t, (c_code, c_at, c_seed))))
  (some (t, (c_code, c_at, c_seed))) := by kernel_rfl
theorem spec_wmGood.eq (k : Nat) (w_Width : Int) (w_Height : Int) (w_Right : ByteArray) (w_Down : ByteArray) (w_X : Int) (w_Y : Int) (w_Way : Int) : spec_wmGood (k + 1) (w_Width, w_Height, w_Right, w_Down, w_X, w_Y, w_Way) =
  (spec_l1In k (w_Width, 3, 6)).bind fun r1 =>
  cond (!r1)
  (some false)
  ((spec_l1In k (w_Height, 3, 6)).bind fun r2 =>
   cond (!r2)
   (some false)
   (cond ((w_Right.size : Int) != (w64 (w_Width * w_Height)))
    (some false)
    (cond ((w_Down.size : Int) != (w_Right.size : Int))
     (some false)
     ((spec_wmGood_l k ((w_Width, w_Height, w_Right, w_Down, w_X, w_Y, w_Way), 0)).bind fun r3 =>
      r3.elim
      (fun r4 => some r4)
      (fun r5 => (spec_l1In k (r5.2.2.2.2.1, 0, (w64 (r5.1 - 1)))).bind fun r6 =>
       cond r6
       ((spec_l1In k (r5.2.2.2.2.2.1, 0, (w64 (r5.2.1 - 1)))).bind fun r7 =>
        cond r7
        ((spec_l1In k (r5.2.2.2.2.2.2, 0, 3)).bind fun r8 =>
         some r8)
        (some false))
       (some false)))))) := by kernel_rfl
theorem spec_l1In.eq (k : Nat) (n : Int) (lo : Int) (hi : Int) : spec_l1In (k + 1) (n, lo, hi) =
  cond (decide (n ≥ lo))
  (some (decide (n ≤ hi)))
  (some false) := by kernel_rfl
theorem spec_wmGood_l.eq (k : Nat) (w_Width : Int) (w_Height : Int) (w_Right : ByteArray) (w_Down : ByteArray) (w_X : Int) (w_Y : Int) (w_Way : Int) (i : Int) : spec_wmGood_l (k + 1) ((w_Width, w_Height, w_Right, w_Down, w_X, w_Y, w_Way), i) =
  cond (decide (i < (w_Right.size : Int)))
  (cond (inB i w_Right.size)
   (cond ((bt w_Right i.toNat) != 48)
    (cond (inB i w_Right.size)
     (cond ((bt w_Right i.toNat) != 49)
      (some (.inl false))
      (cond (inB i w_Down.size)
       (cond ((bt w_Down i.toNat) != 48)
        (cond (inB i w_Down.size)
         (cond ((bt w_Down i.toNat) != 49)
          (some (.inl false))
          (spec_wmGood_l k ((w_Width, w_Height, w_Right, w_Down, w_X, w_Y, w_Way), (w64 (i + 1)))))
         (none))
        (spec_wmGood_l k ((w_Width, w_Height, w_Right, w_Down, w_X, w_Y, w_Way), (w64 (i + 1)))))
       (none)))
     (none))
    (cond (inB i w_Down.size)
     (cond ((bt w_Down i.toNat) != 48)
      (cond (inB i w_Down.size)
       (cond ((bt w_Down i.toNat) != 49)
        (some (.inl false))
        (spec_wmGood_l k ((w_Width, w_Height, w_Right, w_Down, w_X, w_Y, w_Way), (w64 (i + 1)))))
       (none))
      (spec_wmGood_l k ((w_Width, w_Height, w_Right, w_Down, w_X, w_Y, w_Way), (w64 (i + 1)))))
     (none)))
   (none))
  (some (.inr (w_Width, w_Height, w_Right, w_Down, w_X, w_Y, w_Way))) := by kernel_rfl
theorem spec_l1Cur_among.eq (k : Nat) (c_code : List Int) (c_at : Int) (c_seed : Int) (list : List Int) : spec_l1Cur_among (k + 1) ((c_code, c_at, c_seed), list) =
  (spec_l1Cur_pick k ((c_code, c_at, c_seed), (list.length : Int))).bind fun r1 =>
  cond (inB r1.1 list.length)
  (some ((list.getD r1.1.toNat default), r1.2))
  (none) := by kernel_rfl
theorem impl_OddNodes.eq (k : Nat) (w_Width : Int) (w_Height : Int) (w_Right : ByteArray) (w_Down : ByteArray) (w_X : Int) (w_Y : Int) (w_Way : Int) : impl_OddNodes (k + 1) (w_Width, w_Height, w_Right, w_Down, w_X, w_Y, w_Way) =
  (impl_IsWorm k (w_Width, w_Height, w_Right, w_Down, w_X, w_Y, w_Way)).bind fun r1 =>
  cond (!r1)
  (some ([], false))
  ((impl_OddNodes_l k ((w_Width, w_Height, w_Right, w_Down, w_X, w_Y, w_Way), [], (w_Right.size : Int), 0)).bind fun r2 =>
   some (r2, true)) := by kernel_rfl
theorem impl_IsWorm.eq (k : Nat) (w_Width : Int) (w_Height : Int) (w_Right : ByteArray) (w_Down : ByteArray) (w_X : Int) (w_Y : Int) (w_Way : Int) : impl_IsWorm (k + 1) (w_Width, w_Height, w_Right, w_Down, w_X, w_Y, w_Way) =
  (impl_isGrid k (w_Width, w_Height)).bind fun r1 =>
  cond r1
  ((impl_areCells k (w_Right, (w64 (w_Width * w_Height)), 2)).bind fun r2 =>
   cond r2
   ((impl_areCells k (w_Down, (w64 (w_Width * w_Height)), 2)).bind fun r3 =>
    cond r3
    ((impl_isAnt k (w_Width, w_Height, w_X, w_Y, w_Way)).bind fun r4 =>
     some r4)
    (some false))
   (some false))
  (some false) := by kernel_rfl
theorem impl_isGrid.eq (k : Nat) (width : Int) (height : Int) : impl_isGrid (k + 1) (width, height) =
  (impl_within k (width, 3, 6)).bind fun r1 =>
  cond r1
  ((impl_within k (height, 3, 6)).bind fun r2 =>
   some r2)
  (some false) := by kernel_rfl
theorem impl_within.eq (k : Nat) (n : Int) (low : Int) (high : Int) : impl_within (k + 1) (n, low, high) =
  cond (decide (low ≤ n))
  (some (decide (n ≤ high)))
  (some false) := by kernel_rfl
theorem impl_areCells.eq (k : Nat) (cells : ByteArray) (many : Int) (tints : Int) : impl_areCells (k + 1) (cells, many, tints) =
  (impl_areCells_l k (cells, many, tints, (cells.size : Int), 0)).bind fun r1 =>
  r1.elim
  (fun r2 => some r2)
  (fun r3 => some ((r3.1.size : Int) == r3.2)) := by kernel_rfl
theorem impl_areCells_l.eq (k : Nat) (cells : ByteArray) (many : Int) (tints : Int) (t9 : Int) (t10 : Int) : impl_areCells_l (k + 1) (cells, many, tints, t9, t10) =
  cond (decide (t10 < t9))
  (cond (inB t10 cells.size)
   ((impl_within k ((w64 ((w64 (bt cells t10.toNat)) - 48)), 0, (w64 (tints - 1)))).bind fun r1 =>
    cond (!r1)
    (some (.inl false))
    (impl_areCells_l k (cells, many, tints, t9, (w64 (t10 + 1)))))
   (none))
  (some (.inr (cells, many))) := by kernel_rfl
theorem impl_isAnt.eq (k : Nat) (width : Int) (height : Int) (x : Int) (y : Int) (way : Int) : impl_isAnt (k + 1) (width, height, x, y, way) =
  (impl_within k (x, 0, (w64 (width - 1)))).bind fun r1 =>
  cond r1
  ((impl_within k (y, 0, (w64 (height - 1)))).bind fun r2 =>
   cond r2
   ((impl_isWay k way).bind fun r3 =>
    some r3)
   (some false))
  (some false) := by kernel_rfl
theorem impl_isWay.eq (k : Nat) (way : Int) : impl_isWay (k + 1) way =
  (impl_within k (way, 0, 3)).bind fun r1 =>
  some r1 := by kernel_rfl
theorem impl_OddNodes_l.eq (k : Nat) (w_Width : Int) (w_Height : Int) (w_Right : ByteArray) (w_Down : ByteArray) (w_X : Int) (w_Y : Int) (w_Way : Int) (out : List Int) (t12 : Int) (t13 : Int) : impl_OddNodes_l (k + 1) ((w_Width, w_Height, w_Right, w_Down, w_X, w_Y, w_Way), out, t12, t13) =
  cond (decide (t13 < t12))
  ((impl_Worm_linesAt k ((w_Width, w_Height, w_Right, w_Down, w_X, w_Y, w_Way), t13)).bind fun r1 =>
   cond ((r1.tmod 2) == 1)
   (cond (fits (out.length + 1) 8)
    (impl_OddNodes_l k ((w_Width, w_Height, w_Right, w_Down, w_X, w_Y, w_Way), (out ++ [t13]), t12, (w64 (t13 + 1))))
    (none))
   (impl_OddNodes_l k ((w_Width, w_Height, w_Right, w_Down, w_X, w_Y, w_Way), out, t12, (w64 (t13 + 1)))))
  (some out) := by kernel_rfl
theorem impl_Worm_linesAt.eq (k : Nat) (w_Width : Int) (w_Height : Int) (w_Right : ByteArray) (w_Down : ByteArray) (w_X : Int) (w_Y : Int) (w_Way : Int) (node : Int) : impl_Worm_linesAt (k + 1) ((w_Width, w_Height, w_Right, w_Down, w_X, w_Y, w_Way), node) =
  (impl_Worm_linesAt_l k (node, (w_Width, w_Height, w_Right, w_Down, w_X, w_Y, w_Way), 0, 0)).bind fun r1 =>
  some r1 := by kernel_rfl
theorem impl_Worm_linesAt_l.eq (k : Nat) (node : Int) (w_Width : Int) (w_Height : Int) (w_Right : ByteArray) (w_Down : ByteArray) (w_X : Int) (w_Y : Int) (w_Way : Int) (many : Int) (t7 : Int) : impl_Worm_linesAt_l (k + 1) (node, (w_Width, w_Height, w_Right, w_Down, w_X, w_Y, w_Way), many, t7) =
  cond (decide (t7 < 4))
  ((impl_Worm_there k ((w_Width, w_Height, w_Right, w_Down, w_X, w_Y, w_Way), node, t7)).bind fun r1 =>
   (impl_bit k r1).bind fun r2 =>
   impl_Worm_linesAt_l k (node, (w_Width, w_Height, w_Right, w_Down, w_X, w_Y, w_Way), (w64 (many + r2)), (w64 (t7 + 1))))
  (some many) := by kernel_rfl
theorem impl_Worm_there.eq (k : Nat) (w_Width : Int) (w_Height : Int) (w_Right : ByteArray) (w_Down : ByteArray) (w_X : Int) (w_Y : Int) (w_Way : Int) (node : Int) (way : Int) : impl_Worm_there (k + 1) ((w_Width, w_Height, w_Right, w_Down, w_X, w_Y, w_Way), node, way) =
  (impl_Worm_line k ((w_Width, w_Height, w_Right, w_Down, w_X, w_Y, w_Way), node, way)).bind fun r1 =>
  cond r1.1
  (cond (inB r1.2 w_Right.size)
   (some ((bt w_Right r1.2.toNat) == 49))
   (none))
  (cond (inB r1.2 w_Down.size)
   (some ((bt w_Down r1.2.toNat) == 49))
   (none)) := by kernel_rfl
theorem impl_Worm_line.eq (k : Nat) (w_Width : Int) (w_Height : Int) (w_Right : ByteArray) (w_Down : ByteArray) (w_X : Int) (w_Y : Int) (w_Way : Int) (node : Int) (way : Int) : impl_Worm_line (k + 1) ((w_Width, w_Height, w_Right, w_Down, w_X, w_Y, w_Way), node, way) =
  cond (way == 0)
  ((impl_Worm_beside k ((w_Width, w_Height, w_Right, w_Down, w_X, w_Y, w_Way), node, 0)).bind fun r1 =>
   some (false, r1))
  (cond (way == 1)
   (some (true, node))
   (cond (way == 2)
    (some (false, node))
    ((impl_Worm_beside k ((w_Width, w_Height, w_Right, w_Down, w_X, w_Y, w_Way), node, 3)).bind fun r2 =>
     some (true, r2)))) := by kernel_rfl
theorem impl_Worm_beside.eq (k : Nat) (w_Width : Int) (w_Height : Int) (w_Right : ByteArray) (w_Down : ByteArray) (w_X : Int) (w_Y : Int) (w_Way : Int) (node : Int) (way : Int) : impl_Worm_beside (k + 1) ((w_Width, w_Height, w_Right, w_Down, w_X, w_Y, w_Way), node, way) =
  cond (w_Width != 0)
  (cond (w_Width != 0)
   ((impl_World_gone k ((ByteArray.empty, w_Width, w_Height, ByteArray.empty, (node.tmod w_Width), (w64 (node.tdiv w_Width)), way), 1)).bind fun r1 =>
    (impl_World_at k r1).bind fun r2 =>
    some r2)
   (none))
  (none) := by kernel_rfl
theorem impl_World_gone.eq (k : Nat) (w_Rule : ByteArray) (w_Width : Int) (w_Height : Int) (w_Cells : ByteArray) (w_X : Int) (w_Y : Int) (w_Way : Int) (by_ : Int) : impl_World_gone (k + 1) ((w_Rule, w_Width, w_Height, w_Cells, w_X, w_Y, w_Way), by_) =
  (impl_ahead k w_Way).bind fun r1 =>
  cond (w_Width != 0)
  (cond (w_Height != 0)
   (some (w_Rule, w_Width, w_Height, w_Cells, ((w64 ((w64 (w_X + (w64 (by_ * r1.1)))) + w_Width)).tmod w_Width), ((w64 ((w64 (w_Y + (w64 (by_ * r1.2)))) + w_Height)).tmod w_Height), w_Way))
   (none))
  (none) := by kernel_rfl
theorem impl_ahead.eq (k : Nat) (way : Int) : impl_ahead (k + 1) way =
  cond (inB way 4)
  (cond (inB way 4)
   (some ((([0, 1, 0, (-1)] : List Int).getD way.toNat default), (([(-1), 0, 1, 0] : List Int).getD way.toNat default)))
   (none))
  (none) := by kernel_rfl
theorem impl_World_at.eq (k : Nat) (w_Rule : ByteArray) (w_Width : Int) (w_Height : Int) (w_Cells : ByteArray) (w_X : Int) (w_Y : Int) (w_Way : Int) : impl_World_at (k + 1) (w_Rule, w_Width, w_Height, w_Cells, w_X, w_Y, w_Way) =
  some (w64 ((w64 (w_Y * w_Width)) + w_X)) := by kernel_rfl
theorem impl_bit.eq (k : Nat) (b : Bool) : impl_bit (k + 1) b =
  cond b
  (some 1)
  (some 0) := by kernel_rfl
theorem spec_OddNodes.eq (k : Nat) (w_Width : Int) (w_Height : Int) (w_Right : ByteArray) (w_Down : ByteArray) (w_X : Int) (w_Y : Int) (w_Way : Int) : spec_OddNodes (k + 1) (w_Width, w_Height, w_Right, w_Down, w_X, w_Y, w_Way) =
  (spec_wmGood k (w_Width, w_Height, w_Right, w_Down, w_X, w_Y, w_Way)).bind fun r1 =>
  cond (!r1)
  (some ([], false))
  ((spec_OddNodes_l k ((w_Width, w_Height, w_Right, w_Down, w_X, w_Y, w_Way), [], 0)).bind fun r2 =>
   some (r2, true)) := by kernel_rfl
theorem spec_OddNodes_l.eq (k : Nat) (w_Width : Int) (w_Height : Int) (w_Right : ByteArray) (w_Down : ByteArray) (w_X : Int) (w_Y : Int) (w_Way : Int) (out : List Int) (i : Int) : spec_OddNodes_l (k + 1) ((w_Width, w_Height, w_Right, w_Down, w_X, w_Y, w_Way), out, i) =
  cond (decide (i < (w_Right.size : Int)))
  (cond (w_Width != 0)
   (cond (w_Width != 0)
    ((spec_wmAt k ((w_Width, w_Height, w_Right, w_Down, w_X, w_Y, w_Way), (i.tmod w_Width), (w64 (i.tdiv w_Width)))).bind fun r1 =>
     cond ((r1.tmod 2) == 1)
     (cond (fits (out.length + 1) 8)
      (spec_OddNodes_l k ((w_Width, w_Height, w_Right, w_Down, w_X, w_Y, w_Way), (out ++ [i]), (w64 (i + 1))))
      (none))
     (spec_OddNodes_l k ((w_Width, w_Height, w_Right, w_Down, w_X, w_Y, w_Way), out, (w64 (i + 1)))))
    (none))
   (none))
  (some out) := by kernel_rfl
theorem spec_wmAt.eq (k : Nat) (w_Width : Int) (w_Height : Int) (w_Right : ByteArray) (w_Down : ByteArray) (w_X : Int) (w_Y : Int) (w_Way : Int) (x : Int) (y : Int) : spec_wmAt (k + 1) ((w_Width, w_Height, w_Right, w_Down, w_X, w_Y, w_Way), x, y) =
  (spec_wmAt_l k (x, y, (w_Width, w_Height, w_Right, w_Down, w_X, w_Y, w_Way), 0, 0)).bind fun r1 =>
  some r1 := by kernel_rfl
theorem spec_wmAt_l.eq (k : Nat) (x : Int) (y : Int) (w_Width : Int) (w_Height : Int) (w_Right : ByteArray) (w_Down : ByteArray) (w_X : Int) (w_Y : Int) (w_Way : Int) (n : Int) (way : Int) : spec_wmAt_l (k + 1) (x, y, (w_Width, w_Height, w_Right, w_Down, w_X, w_Y, w_Way), n, way) =
  cond (decide (way < 4))
  ((spec_wmHas k ((w_Width, w_Height, w_Right, w_Down, w_X, w_Y, w_Way), x, y, way)).bind fun r1 =>
   cond r1
   (spec_wmAt_l k (x, y, (w_Width, w_Height, w_Right, w_Down, w_X, w_Y, w_Way), (w64 (n + 1)), (w64 (way + 1))))
   (spec_wmAt_l k (x, y, (w_Width, w_Height, w_Right, w_Down, w_X, w_Y, w_Way), n, (w64 (way + 1)))))
  (some n) := by kernel_rfl
theorem impl_PiecesLeft.eq (k : Nat) (w_Width : Int) (w_Height : Int) (w_Right : ByteArray) (w_Down : ByteArray) (w_X : Int) (w_Y : Int) (w_Way : Int) : impl_PiecesLeft (k + 1) (w_Width, w_Height, w_Right, w_Down, w_X, w_Y, w_Way) =
  (impl_IsWorm k (w_Width, w_Height, w_Right, w_Down, w_X, w_Y, w_Way)).bind fun r1 =>
  cond (!r1)
  (some (0, false))
  (cond (((decide ((0 : Int) ≤ (w_Right.size : Int))) && (decide ((w_Right.size : Int) ≤ (w_Right.size : Int)))) && (fits (w_Right.size : Int).toNat 1))
   ((impl_PiecesLeft_l k ((w_Width, w_Height, w_Right, w_Down, w_X, w_Y, w_Way), (List.replicate (w_Right.size : Int).toNat false), 0, ((List.replicate (w_Right.size : Int).toNat false).length : Int), 0)).bind fun r2 =>
    some (r2, true))
   (none)) := by kernel_rfl
theorem impl_PiecesLeft_l.eq (k : Nat) (w_Width : Int) (w_Height : Int) (w_Right : ByteArray) (w_Down : ByteArray) (w_X : Int) (w_Y : Int) (w_Way : Int) (seen : List Bool) (many : Int) (t19 : Int) (t20 : Int) : impl_PiecesLeft_l (k + 1) ((w_Width, w_Height, w_Right, w_Down, w_X, w_Y, w_Way), seen, many, t19, t20) =
  cond (decide (t20 < t19))
  (cond (inB t20 seen.length)
   (cond (seen.getD t20.toNat default)
    (impl_PiecesLeft_l k ((w_Width, w_Height, w_Right, w_Down, w_X, w_Y, w_Way), seen, many, t19, (w64 (t20 + 1))))
    (cond (inB t20 seen.length)
     ((impl_PiecesLeft_l_l k ((w_Width, w_Height, w_Right, w_Down, w_X, w_Y, w_Way), (seen.set t20.toNat true), (w64 (many + 1)), [t20], 0, t19, t20)).bind fun r1 =>
      impl_PiecesLeft_l k (r1.1, r1.2.1, r1.2.2.1, r1.2.2.2.1, (w64 (r1.2.2.2.2 + 1))))
     (none)))
   (none))
  (some many) := by kernel_rfl
theorem impl_PiecesLeft_l_l.eq (k : Nat) (w_Width : Int) (w_Height : Int) (w_Right : ByteArray) (w_Down : ByteArray) (w_X : Int) (w_Y : Int) (w_Way : Int) (seen : List Bool) (many : Int) (list : List Int) (i : Int) (t19 : Int) (t20 : Int) : impl_PiecesLeft_l_l (k + 1) ((w_Width, w_Height, w_Right, w_Down, w_X, w_Y, w_Way), seen, many, list, i, t19, t20) =
  cond (decide (i < (list.length : Int)))
  ((impl_PiecesLeft_l_l_l k ((w_Width, w_Height, w_Right, w_Down, w_X, w_Y, w_Way), seen, many, list, i, t19, t20, 0)).bind fun r1 =>
   impl_PiecesLeft_l_l k (r1.1, r1.2.1, r1.2.2.1, r1.2.2.2.1, (w64 (r1.2.2.2.2.1 + 1)), r1.2.2.2.2.2.1, r1.2.2.2.2.2.2))
  (some ((w_Width, w_Height, w_Right, w_Down, w_X, w_Y, w_Way), seen, many, t19, t20)) := by kernel_rfl
theorem impl_PiecesLeft_l_l_l.eq (k : Nat) (w_Width : Int) (w_Height : Int) (w_Right : ByteArray) (w_Down : ByteArray) (w_X : Int) (w_Y : Int) (w_Way : Int) (seen : List Bool) (many : Int) (list : List Int) (i : Int) (t19 : Int) (t20 : Int) (t40 : Int) : impl_PiecesLeft_l_l_l (k + 1) ((w_Width, w_Height, w_Right, w_Down, w_X, w_Y, w_Way), seen, many, list, i, t19, t20, t40) =
  cond (decide (t40 < 4))
  (cond (inB i list.length)
   ((impl_Worm_beside k ((w_Width, w_Height, w_Right, w_Down, w_X, w_Y, w_Way), (list.getD i.toNat default), t40)).bind fun r1 =>
    cond (inB i list.length)
    ((impl_Worm_there k ((w_Width, w_Height, w_Right, w_Down, w_X, w_Y, w_Way), (list.getD i.toNat default), t40)).bind fun r2 =>
     cond r2
     (cond (inB r1 seen.length)
      (cond (!(seen.getD r1.toNat default))
       (cond (inB r1 seen.length)
        (cond (fits (list.length + 1) 8)
         (impl_PiecesLeft_l_l_l k ((w_Width, w_Height, w_Right, w_Down, w_X, w_Y, w_Way), (seen.set r1.toNat true), many, (list ++ [r1]), i, t19, t20, (w64 (t40 + 1))))
         (none))
        (none))
       (impl_PiecesLeft_l_l_l k ((w_Width, w_Height, w_Right, w_Down, w_X, w_Y, w_Way), seen, many, list, i, t19, t20, (w64 (t40 + 1)))))
      (none))
     (impl_PiecesLeft_l_l_l k ((w_Width, w_Height, w_Right, w_Down, w_X, w_Y, w_Way), seen, many, list, i, t19, t20, (w64 (t40 + 1)))))
    (none))
   (none))
  (some ((w_Width, w_Height, w_Right, w_Down, w_X, w_Y, w_Way), seen, many, list, i, t19, t20)) := by kernel_rfl
theorem spec_PiecesLeft.eq (k : Nat) (w_Width : Int) (w_Height : Int) (w_Right : ByteArray) (w_Down : ByteArray) (w_X : Int) (w_Y : Int) (w_Way : Int) : spec_PiecesLeft (k + 1) (w_Width, w_Height, w_Right, w_Down, w_X, w_Y, w_Way) =
  (spec_wmGood k (w_Width, w_Height, w_Right, w_Down, w_X, w_Y, w_Way)).bind fun r1 =>
  cond (!r1)
  (some (0, false))
  (cond (((decide ((0 : Int) ≤ (w_Right.size : Int))) && (decide ((w_Right.size : Int) ≤ (w_Right.size : Int)))) && (fits (w_Right.size : Int).toNat 1))
   ((spec_PiecesLeft_l k ((w_Width, w_Height, w_Right, w_Down, w_X, w_Y, w_Way), (List.replicate (w_Right.size : Int).toNat false), 0, ((List.replicate (w_Right.size : Int).toNat false).length : Int), 0)).bind fun r2 =>
    some (r2, true))
   (none)) := by kernel_rfl
theorem spec_PiecesLeft_l.eq (k : Nat) (w_Width : Int) (w_Height : Int) (w_Right : ByteArray) (w_Down : ByteArray) (w_X : Int) (w_Y : Int) (w_Way : Int) (seen : List Bool) (count : Int) (t20 : Int) (t21 : Int) : spec_PiecesLeft_l (k + 1) ((w_Width, w_Height, w_Right, w_Down, w_X, w_Y, w_Way), seen, count, t20, t21) =
  cond (decide (t21 < t20))
  (cond (inB t21 seen.length)
   (cond (seen.getD t21.toNat default)
    (spec_PiecesLeft_l k ((w_Width, w_Height, w_Right, w_Down, w_X, w_Y, w_Way), seen, count, t20, (w64 (t21 + 1))))
    (cond (inB t21 seen.length)
     ((spec_PiecesLeft_l_l k ((w_Width, w_Height, w_Right, w_Down, w_X, w_Y, w_Way), (seen.set t21.toNat true), (w64 (count + 1)), [t21], 0, t20, t21)).bind fun r1 =>
      spec_PiecesLeft_l k (r1.1, r1.2.1, r1.2.2.1, r1.2.2.2.1, (w64 (r1.2.2.2.2 + 1))))
     (none)))
   (none))
  (some count) := by kernel_rfl
theorem spec_PiecesLeft_l_l.eq (k : Nat) (w_Width : Int) (w_Height : Int) (w_Right : ByteArray) (w_Down : ByteArray) (w_X : Int) (w_Y : Int) (w_Way : Int) (seen : List Bool) (count : Int) (queue : List Int) (k_ : Int) (t20 : Int) (t21 : Int) : spec_PiecesLeft_l_l (k + 1) ((w_Width, w_Height, w_Right, w_Down, w_X, w_Y, w_Way), seen, count, queue, k_, t20, t21) =
  cond (decide (k_ < (queue.length : Int)))
  ((spec_PiecesLeft_l_l_l k ((w_Width, w_Height, w_Right, w_Down, w_X, w_Y, w_Way), seen, count, queue, k_, 0, t20, t21)).bind fun r1 =>
   spec_PiecesLeft_l_l k (r1.1, r1.2.1, r1.2.2.1, r1.2.2.2.1, (w64 (r1.2.2.2.2.1 + 1)), r1.2.2.2.2.2.1, r1.2.2.2.2.2.2))
  (some ((w_Width, w_Height, w_Right, w_Down, w_X, w_Y, w_Way), seen, count, t20, t21)) := by kernel_rfl
theorem spec_PiecesLeft_l_l_l.eq (k : Nat) (w_Width : Int) (w_Height : Int) (w_Right : ByteArray) (w_Down : ByteArray) (w_X : Int) (w_Y : Int) (w_Way : Int) (seen : List Bool) (count : Int) (queue : List Int) (k_ : Int) (way : Int) (t20 : Int) (t21 : Int) : spec_PiecesLeft_l_l_l (k + 1) ((w_Width, w_Height, w_Right, w_Down, w_X, w_Y, w_Way), seen, count, queue, k_, way, t20, t21) =
  cond (decide (way < 4))
  (cond (inB k_ queue.length)
   (cond (w_Width != 0)
    (cond (inB k_ queue.length)
     (cond (w_Width != 0)
      ((spec_wmHas k ((w_Width, w_Height, w_Right, w_Down, w_X, w_Y, w_Way), ((queue.getD k_.toNat default).tmod w_Width), (w64 ((queue.getD k_.toNat default).tdiv w_Width)), way)).bind fun r1 =>
       cond (!r1)
       (spec_PiecesLeft_l_l_l k ((w_Width, w_Height, w_Right, w_Down, w_X, w_Y, w_Way), seen, count, queue, k_, (w64 (way + 1)), t20, t21))
       ((spec_wmGo k ((w_Width, w_Height, w_Right, w_Down, ((queue.getD k_.toNat default).tmod w_Width), (w64 ((queue.getD k_.toNat default).tdiv w_Width)), w_Way), way, 1)).bind fun r2 =>
        cond (inB (w64 ((w64 (r2.2.2.2.2.2.2.1 * w_Width)) + r2.2.2.2.2.2.1)) seen.length)
        (cond (!(seen.getD ((w64 ((w64 (r2.2.2.2.2.2.2.1 * w_Width)) + r2.2.2.2.2.2.1)).toNat) default))
         (cond (inB (w64 ((w64 (r2.2.2.2.2.2.2.1 * w_Width)) + r2.2.2.2.2.2.1)) seen.length)
          (cond (fits (queue.length + 1) 8)
           (spec_PiecesLeft_l_l_l k ((w_Width, w_Height, w_Right, w_Down, w_X, w_Y, w_Way), (seen.set ((w64 ((w64 (r2.2.2.2.2.2.2.1 * w_Width)) + r2.2.2.2.2.2.1)).toNat) true), count, (queue ++ [(w64 ((w64 (r2.2.2.2.2.2.2.1 * w_Width)) + r2.2.2.2.2.2.1))]), k_, (w64 (way + 1)), t20, t21))
           (none))
          (none))
         (spec_PiecesLeft_l_l_l k ((w_Width, w_Height, w_Right, w_Down, w_X, w_Y, w_Way), seen, count, queue, k_, (w64 (way + 1)), t20, t21)))
        (none)))
      (none))
     (none))
    (none))
   (none))
  (some ((w_Width, w_Height, w_Right, w_Down, w_X, w_Y, w_Way), seen, count, queue, k_, t20, t21)) := by kernel_rfl
theorem impl_LongestLife.eq (k : Nat) (w_Width : Int) (w_Height : Int) (w_Right : ByteArray) (w_Down : ByteArray) (w_X : Int) (w_Y : Int) (w_Way : Int) : impl_LongestLife (k + 1) (w_Width, w_Height, w_Right, w_Down, w_X, w_Y, w_Way) =
  (impl_IsWorm k (w_Width, w_Height, w_Right, w_Down, w_X, w_Y, w_Way)).bind fun r1 =>
  cond (!r1)
  (some ([], 0, false))
  ((impl_tastes k ()).bind fun r2 =>
   (impl_LongestLife_l k ((w_Width, w_Height, w_Right, w_Down, w_X, w_Y, w_Way), [], (-1), r2, (r2.length : Int), 0)).bind fun r3 =>
   some (r3.1, r3.2, true)) := by kernel_rfl
theorem impl_tastes.eq (k : Nat)  : impl_tastes (k + 1) () =
  some ([(bs [76, 78, 82]), (bs [76, 82, 78]), (bs [78, 76, 82]), (bs [78, 82, 76]), (bs [82, 76, 78]), (bs [82, 78, 76])]) := by kernel_rfl
theorem impl_LongestLife_l.eq (k : Nat) (w_Width : Int) (w_Height : Int) (w_Right : ByteArray) (w_Down : ByteArray) (w_X : Int) (w_Y : Int) (w_Way : Int) (out : List ByteArray) (most : Int) (t16 : List ByteArray) (t17 : Int) (t18 : Int) : impl_LongestLife_l (k + 1) ((w_Width, w_Height, w_Right, w_Down, w_X, w_Y, w_Way), out, most, t16, t17, t18) =
  cond (decide (t18 < t17))
  (cond (inB t18 t16.length)
   ((impl_Worm_life k ((w_Width, w_Height, w_Right, w_Down, w_X, w_Y, w_Way), (t16.getD t18.toNat default))).bind fun r1 =>
    cond (decide ((r1.2.2.size : Int) > most))
    (cond ((r1.2.2.size : Int) == (r1.2.2.size : Int))
     (cond (fits 1 16)
      (impl_LongestLife_l k ((w_Width, w_Height, w_Right, w_Down, w_X, w_Y, w_Way), [(t16.getD t18.toNat default)], (r1.2.2.size : Int), t16, t17, (w64 (t18 + 1))))
      (none))
     (impl_LongestLife_l k ((w_Width, w_Height, w_Right, w_Down, w_X, w_Y, w_Way), [], (r1.2.2.size : Int), t16, t17, (w64 (t18 + 1)))))
    (cond ((r1.2.2.size : Int) == most)
     (cond (fits (out.length + 1) 16)
      (impl_LongestLife_l k ((w_Width, w_Height, w_Right, w_Down, w_X, w_Y, w_Way), (out ++ [(t16.getD t18.toNat default)]), most, t16, t17, (w64 (t18 + 1))))
      (none))
     (impl_LongestLife_l k ((w_Width, w_Height, w_Right, w_Down, w_X, w_Y, w_Way), out, most, t16, t17, (w64 (t18 + 1))))))
   (none))
  (some (out, most)) := by kernel_rfl
theorem impl_Worm_life.eq (k : Nat) (w_Width : Int) (w_Height : Int) (w_Right : ByteArray) (w_Down : ByteArray) (w_X : Int) (w_Y : Int) (w_Way : Int) (taste : ByteArray) : impl_Worm_life (k + 1) ((w_Width, w_Height, w_Right, w_Down, w_X, w_Y, w_Way), taste) =
  (impl_Worm_node k (w_Width, w_Height, w_Right, w_Down, w_X, w_Y, w_Way)).bind fun r1 =>
  (impl_Worm_life_l k (taste, (w_Width, w_Height, w_Right, w_Down, w_X, w_Y, w_Way), (0, 0, ByteArray.empty, ByteArray.empty, 0, 0, 0), [r1], [])).bind fun r2 =>
  some r2 := by kernel_rfl
theorem impl_Worm_node.eq (k : Nat) (w_Width : Int) (w_Height : Int) (w_Right : ByteArray) (w_Down : ByteArray) (w_X : Int) (w_Y : Int) (w_Way : Int) : impl_Worm_node (k + 1) (w_Width, w_Height, w_Right, w_Down, w_X, w_Y, w_Way) =
  (impl_Worm_world k (w_Width, w_Height, w_Right, w_Down, w_X, w_Y, w_Way)).bind fun r1 =>
  (impl_World_at k r1).bind fun r2 =>
  some r2 := by kernel_rfl
theorem impl_Worm_world.eq (k : Nat) (w_Width : Int) (w_Height : Int) (w_Right : ByteArray) (w_Down : ByteArray) (w_X : Int) (w_Y : Int) (w_Way : Int) : impl_Worm_world (k + 1) (w_Width, w_Height, w_Right, w_Down, w_X, w_Y, w_Way) =
  some (ByteArray.empty, w_Width, w_Height, ByteArray.empty, w_X, w_Y, w_Way) := by kernel_rfl
theorem impl_Worm_life_l.eq (k : Nat) (taste : ByteArray) (w_Width : Int) (w_Height : Int) (w_Right : ByteArray) (w_Down : ByteArray) (w_X : Int) (w_Y : Int) (w_Way : Int) (t4_Width : Int) (t4_Height : Int) (t4_Right : ByteArray) (t4_Down : ByteArray) (t4_X : Int) (t4_Y : Int) (t4_Way : Int) (nodes : List Int) (meals : List Int) : impl_Worm_life_l (k + 1) (taste, (w_Width, w_Height, w_Right, w_Down, w_X, w_Y, w_Way), (t4_Width, t4_Height, t4_Right, t4_Down, t4_X, t4_Y, t4_Way), nodes, meals) =
  (impl_Worm_eat k ((w_Width, w_Height, w_Right, w_Down, w_X, w_Y, w_Way), taste)).bind fun r1 =>
  cond (!r1.2.2)
  (some ((w_Width, w_Height, w_Right, w_Down, w_X, w_Y, w_Way), nodes, (ofBytes meals)))
  ((impl_Worm_node k r1.1).bind fun r2 =>
   cond (fits (nodes.length + 1) 8)
   (cond (fits (meals.length + 1) 1)
    (impl_Worm_life_l k (taste, r1.1, (t4_Width, t4_Height, t4_Right, t4_Down, t4_X, t4_Y, t4_Way), (nodes ++ [r2]), (meals ++ [r1.2.1])))
    (none))
   (none)) := by kernel_rfl
theorem impl_Worm_eat.eq (k : Nat) (w_Width : Int) (w_Height : Int) (w_Right : ByteArray) (w_Down : ByteArray) (w_X : Int) (w_Y : Int) (w_Way : Int) (taste : ByteArray) : impl_Worm_eat (k + 1) ((w_Width, w_Height, w_Right, w_Down, w_X, w_Y, w_Way), taste) =
  (impl_Worm_node k (w_Width, w_Height, w_Right, w_Down, w_X, w_Y, w_Way)).bind fun r1 =>
  (impl_Worm_eat_l k ((w_Width, w_Height, w_Right, w_Down, w_X, w_Y, w_Way), (0, 0, ByteArray.empty, ByteArray.empty, 0, 0, 0), r1, (bytesOf taste), ((bytesOf taste).length : Int), 0)).bind fun r2 =>
  r2.elim
  (fun r3 => some r3)
  (fun r4 => some ((0, 0, ByteArray.empty, ByteArray.empty, 0, 0, 0), 0, false)) := by kernel_rfl
theorem impl_Worm_eat_l.eq (k : Nat) (w_Width : Int) (w_Height : Int) (w_Right : ByteArray) (w_Down : ByteArray) (w_X : Int) (w_Y : Int) (w_Way : Int) (t4_Width : Int) (t4_Height : Int) (t4_Right : ByteArray) (t4_Down : ByteArray) (t4_X : Int) (t4_Y : Int) (t4_Way : Int) (node : Int) (t16 : List Int) (t17 : Int) (t18 : Int) : impl_Worm_eat_l (k + 1) ((w_Width, w_Height, w_Right, w_Down, w_X, w_Y, w_Way), (t4_Width, t4_Height, t4_Right, t4_Down, t4_X, t4_Y, t4_Way), node, t16, t17, t18) =
  cond (decide (t18 < t17))
  (cond (inB t18 t16.length)
   ((impl_quarters k (t16.getD t18.toNat default)).bind fun r1 =>
    (impl_Worm_there k ((w_Width, w_Height, w_Right, w_Down, w_X, w_Y, w_Way), node, ((w64 (w_Way + r1)).tmod 4))).bind fun r2 =>
    cond r2
    ((impl_Worm_made k ((w_Width, w_Height, w_Right, w_Down, w_X, w_Y, w_Way), node, ((w64 (w_Way + r1)).tmod 4), 0)).bind fun r3 =>
     (impl_Worm_beside k ((w_Width, w_Height, w_Right, w_Down, w_X, w_Y, w_Way), node, ((w64 (w_Way + r1)).tmod 4))).bind fun r4 =>
     cond (w_Width != 0)
     (cond (w_Width != 0)
      (some (.inl ((r3.1, r3.2.1, r3.2.2.1, r3.2.2.2.1, (r4.tmod w_Width), (w64 (r4.tdiv w_Width)), ((w64 (w_Way + r1)).tmod 4)), (t16.getD t18.toNat default), true)))
      (none))
     (none))
    (impl_Worm_eat_l k ((w_Width, w_Height, w_Right, w_Down, w_X, w_Y, w_Way), (t4_Width, t4_Height, t4_Right, t4_Down, t4_X, t4_Y, t4_Way), node, t16, t17, (w64 (t18 + 1)))))
   (none))
  (some (.inr (t4_Width, t4_Height, t4_Right, t4_Down, t4_X, t4_Y, t4_Way))) := by kernel_rfl
theorem impl_quarters.eq (k : Nat) (sign : Int) : impl_quarters (k + 1) sign =
  cond (sign == 76)
  (some 3)
  (cond (sign == 82)
   (some 1)
   (cond (sign == 85)
    (some 2)
    (some 0))) := by kernel_rfl
theorem impl_Worm_made.eq (k : Nat) (w_Width : Int) (w_Height : Int) (w_Right : ByteArray) (w_Down : ByteArray) (w_X : Int) (w_Y : Int) (w_Way : Int) (node : Int) (way : Int) (there : Int) : impl_Worm_made (k + 1) ((w_Width, w_Height, w_Right, w_Down, w_X, w_Y, w_Way), node, way, there) =
  (impl_Worm_line k ((w_Width, w_Height, w_Right, w_Down, w_X, w_Y, w_Way), node, way)).bind fun r1 =>
  cond r1.1
  ((impl_painted k (w_Right, r1.2, there)).bind fun r2 =>
   some (w_Width, w_Height, r2, w_Down, w_X, w_Y, w_Way))
  ((impl_painted k (w_Down, r1.2, there)).bind fun r3 =>
   some (w_Width, w_Height, w_Right, r3, w_X, w_Y, w_Way)) := by kernel_rfl
theorem impl_painted.eq (k : Nat) (cells : ByteArray) (k_ : Int) (tint : Int) : impl_painted (k + 1) (cells, k_, tint) =
  cond (inB k_ ((bytesOf cells).length))
  (some (ofBytes ((bytesOf cells).set k_.toNat (w8 (w64 (48 + tint))))))
  (none) := by kernel_rfl
theorem spec_LongestLife.eq (k : Nat) (w_Width : Int) (w_Height : Int) (w_Right : ByteArray) (w_Down : ByteArray) (w_X : Int) (w_Y : Int) (w_Way : Int) : spec_LongestLife (k + 1) (w_Width, w_Height, w_Right, w_Down, w_X, w_Y, w_Way) =
  (spec_wmGood k (w_Width, w_Height, w_Right, w_Down, w_X, w_Y, w_Way)).bind fun r1 =>
  cond (!r1)
  (some ([], 0, false))
  ((spec_wmTastes k ()).bind fun r2 =>
   (spec_LongestLife_l k ((w_Width, w_Height, w_Right, w_Down, w_X, w_Y, w_Way), [], (-1), r2, (r2.length : Int), 0)).bind fun r3 =>
   some (r3.1, r3.2, true)) := by kernel_rfl
theorem spec_LongestLife_l.eq (k : Nat) (w_Width : Int) (w_Height : Int) (w_Right : ByteArray) (w_Down : ByteArray) (w_X : Int) (w_Y : Int) (w_Way : Int) (out : List ByteArray) (most : Int) (t15 : List ByteArray) (t16 : Int) (t17 : Int) : spec_LongestLife_l (k + 1) ((w_Width, w_Height, w_Right, w_Down, w_X, w_Y, w_Way), out, most, t15, t16, t17) =
  cond (decide (t17 < t16))
  (cond (inB t17 t15.length)
   ((spec_wmLife k ((w_Width, w_Height, w_Right, w_Down, w_X, w_Y, w_Way), (t15.getD t17.toNat default))).bind fun r1 =>
    cond (decide ((r1.2.1.size : Int) > most))
    (cond ((r1.2.1.size : Int) == (r1.2.1.size : Int))
     (cond (fits 1 16)
      (spec_LongestLife_l k ((w_Width, w_Height, w_Right, w_Down, w_X, w_Y, w_Way), [(t15.getD t17.toNat default)], (r1.2.1.size : Int), t15, t16, (w64 (t17 + 1))))
      (none))
     (spec_LongestLife_l k ((w_Width, w_Height, w_Right, w_Down, w_X, w_Y, w_Way), [], (r1.2.1.size : Int), t15, t16, (w64 (t17 + 1)))))
    (cond ((r1.2.1.size : Int) == most)
     (cond (fits (out.length + 1) 16)
      (spec_LongestLife_l k ((w_Width, w_Height, w_Right, w_Down, w_X, w_Y, w_Way), (out ++ [(t15.getD t17.toNat default)]), most, t15, t16, (w64 (t17 + 1))))
      (none))
     (spec_LongestLife_l k ((w_Width, w_Height, w_Right, w_Down, w_X, w_Y, w_Way), out, most, t15, t16, (w64 (t17 + 1))))))
   (none))
  (some (out, most)) := by kernel_rfl
theorem spec_wmLife.eq (k : Nat) (w_Width : Int) (w_Height : Int) (w_Right : ByteArray) (w_Down : ByteArray) (w_X : Int) (w_Y : Int) (w_Way : Int) (taste : ByteArray) : spec_wmLife (k + 1) ((w_Width, w_Height, w_Right, w_Down, w_X, w_Y, w_Way), taste) =
  (spec_wmLife_l k (taste, (w_Width, w_Height, w_Right, w_Down, w_X, w_Y, w_Way), (0, 0, ByteArray.empty, ByteArray.empty, 0, 0, 0), ByteArray.empty, [(w64 ((w64 (w_Y * w_Width)) + w_X))])).bind fun r1 =>
  some r1 := by kernel_rfl
theorem spec_wmLife_l.eq (k : Nat) (taste : ByteArray) (w_Width : Int) (w_Height : Int) (w_Right : ByteArray) (w_Down : ByteArray) (w_X : Int) (w_Y : Int) (w_Way : Int) (t4_Width : Int) (t4_Height : Int) (t4_Right : ByteArray) (t4_Down : ByteArray) (t4_X : Int) (t4_Y : Int) (t4_Way : Int) (signs : ByteArray) (track : List Int) : spec_wmLife_l (k + 1) (taste, (w_Width, w_Height, w_Right, w_Down, w_X, w_Y, w_Way), (t4_Width, t4_Height, t4_Right, t4_Down, t4_X, t4_Y, t4_Way), signs, track) =
  (spec_wmEat k ((w_Width, w_Height, w_Right, w_Down, w_X, w_Y, w_Way), taste)).bind fun r1 =>
  cond (strEq r1.1 ByteArray.empty)
  (some (r1.2, signs, track))
  (cond (fitS signs r1.1)
   (cond (fits (track.length + 1) 8)
    (spec_wmLife_l k (taste, r1.2, (t4_Width, t4_Height, t4_Right, t4_Down, t4_X, t4_Y, t4_Way), (signs ++ r1.1), (track ++ [(w64 ((w64 (r1.2.2.2.2.2.2.1 * r1.2.1)) + r1.2.2.2.2.2.1))])))
    (none))
   (none)) := by kernel_rfl
theorem impl_LinesLeft.eq (k : Nat) (w_Width : Int) (w_Height : Int) (w_Right : ByteArray) (w_Down : ByteArray) (w_X : Int) (w_Y : Int) (w_Way : Int) : impl_LinesLeft (k + 1) (w_Width, w_Height, w_Right, w_Down, w_X, w_Y, w_Way) =
  (impl_IsWorm k (w_Width, w_Height, w_Right, w_Down, w_X, w_Y, w_Way)).bind fun r1 =>
  cond (!r1)
  (some (0, false))
  (cond (fitS w_Right w_Down)
   ((strings_Count k ((w_Right ++ w_Down), (bs [49]))).bind fun r2 =>
    some (r2, true))
   (none)) := by kernel_rfl
theorem strings_Count.eq (k : Nat) (d : ByteArray × ByteArray) : strings_Count (k + 1) d = (fun d => strCount1 d.1 d.2) d := by kernel_rfl
theorem spec_LinesLeft.eq (k : Nat) (w_Width : Int) (w_Height : Int) (w_Right : ByteArray) (w_Down : ByteArray) (w_X : Int) (w_Y : Int) (w_Way : Int) : spec_LinesLeft (k + 1) (w_Width, w_Height, w_Right, w_Down, w_X, w_Y, w_Way) =
  (spec_wmGood k (w_Width, w_Height, w_Right, w_Down, w_X, w_Y, w_Way)).bind fun r1 =>
  cond (!r1)
  (some (0, false))
  ((spec_wmCount k w_Right).bind fun r2 =>
   (spec_wmCount k w_Down).bind fun r3 =>
   some ((w64 (r2 + r3)), true)) := by kernel_rfl
theorem spec_wmCount.eq (k : Nat) (s : ByteArray) : spec_wmCount (k + 1) s =
  (spec_wmCount_l k (s, 0, 0)).bind fun r1 =>
  some r1 := by kernel_rfl
theorem spec_wmCount_l.eq (k : Nat) (s : ByteArray) (n : Int) (i : Int) : spec_wmCount_l (k + 1) (s, n, i) =
  cond (decide (i < (s.size : Int)))
  (cond (inB i s.size)
   (cond ((bt s i.toNat) == 49)
    (spec_wmCount_l k (s, (w64 (n + 1)), (w64 (i + 1))))
    (spec_wmCount_l k (s, n, (w64 (i + 1)))))
   (none))
  (some n) := by kernel_rfl
theorem impl_WormText.eq (k : Nat) (w_Width : Int) (w_Height : Int) (w_Right : ByteArray) (w_Down : ByteArray) (w_X : Int) (w_Y : Int) (w_Way : Int) : impl_WormText (k + 1) (w_Width, w_Height, w_Right, w_Down, w_X, w_Y, w_Way) =
  (impl_IsWorm k (w_Width, w_Height, w_Right, w_Down, w_X, w_Y, w_Way)).bind fun r1 =>
  cond (!r1)
  (some (ByteArray.empty, false))
  ((impl_listText k ((bs [120]), [w_Width, w_Height])).bind fun r2 =>
   (impl_listText k ((bs [44]), [w_X, w_Y, w_Way])).bind fun r3 =>
   (strings_Join k ([r2, w_Right, w_Down, r3], (bs [58]))).bind fun r4 =>
   some (r4, true)) := by kernel_rfl
theorem impl_listText.eq (k : Nat) (by_ : ByteArray) (list : List Int) : impl_listText (k + 1) (by_, list) =
  (impl_listText_l k (by_, [], list, (list.length : Int), 0)).bind fun r1 =>
  (strings_Join k (r1.2, r1.1)).bind fun r2 =>
  some r2 := by kernel_rfl
theorem impl_listText_l.eq (k : Nat) (by_ : ByteArray) (parts : List ByteArray) (t9 : List Int) (t10 : Int) (t11 : Int) : impl_listText_l (k + 1) (by_, parts, t9, t10, t11) =
  cond (decide (t11 < t10))
  (cond (inB t11 t9.length)
   ((strconv_Itoa k (t9.getD t11.toNat default)).bind fun r1 =>
    cond (fits (parts.length + 1) 16)
    (impl_listText_l k (by_, (parts ++ [r1]), t9, t10, (w64 (t11 + 1))))
    (none))
   (none))
  (some (by_, parts)) := by kernel_rfl
theorem strconv_Itoa.eq (k : Nat) (d : Int) : strconv_Itoa (k + 1) d = (fun d => itoaAll d) d := by kernel_rfl
theorem strings_Join.eq (k : Nat) (d : List ByteArray × ByteArray) : strings_Join (k + 1) d = (fun d => joinS d.1 d.2) d := by kernel_rfl
theorem spec_WormText.eq (k : Nat) (w_Width : Int) (w_Height : Int) (w_Right : ByteArray) (w_Down : ByteArray) (w_X : Int) (w_Y : Int) (w_Way : Int) : spec_WormText (k + 1) (w_Width, w_Height, w_Right, w_Down, w_X, w_Y, w_Way) =
  (spec_wmGood k (w_Width, w_Height, w_Right, w_Down, w_X, w_Y, w_Way)).bind fun r1 =>
  cond (!r1)
  (some (ByteArray.empty, false))
  ((spec_wmText k (w_Width, w_Height, w_Right, w_Down, w_X, w_Y, w_Way)).bind fun r2 =>
   some (r2, true)) := by kernel_rfl
theorem spec_wmText.eq (k : Nat) (w_Width : Int) (w_Height : Int) (w_Right : ByteArray) (w_Down : ByteArray) (w_X : Int) (w_Y : Int) (w_Way : Int) : spec_wmText (k + 1) (w_Width, w_Height, w_Right, w_Down, w_X, w_Y, w_Way) =
  (spec_l1Num k w_Width).bind fun r1 =>
  cond (fitS r1 (bs [120]))
  ((spec_l1Num k w_Height).bind fun r2 =>
   cond (fitS (r1 ++ (bs [120])) r2)
   (cond (fitS ((r1 ++ (bs [120])) ++ r2) (bs [58]))
    (cond (fitS (((r1 ++ (bs [120])) ++ r2) ++ (bs [58])) w_Right)
     (cond (fitS ((((r1 ++ (bs [120])) ++ r2) ++ (bs [58])) ++ w_Right) (bs [58]))
      (cond (fitS (((((r1 ++ (bs [120])) ++ r2) ++ (bs [58])) ++ w_Right) ++ (bs [58])) w_Down)
       (cond (fitS ((((((r1 ++ (bs [120])) ++ r2) ++ (bs [58])) ++ w_Right) ++ (bs [58])) ++ w_Down) (bs [58]))
        ((spec_l1Num k w_X).bind fun r3 =>
         cond (fitS (((((((r1 ++ (bs [120])) ++ r2) ++ (bs [58])) ++ w_Right) ++ (bs [58])) ++ w_Down) ++ (bs [58])) r3)
         (cond (fitS ((((((((r1 ++ (bs [120])) ++ r2) ++ (bs [58])) ++ w_Right) ++ (bs [58])) ++ w_Down) ++ (bs [58])) ++ r3) (bs [44]))
          ((spec_l1Num k w_Y).bind fun r4 =>
           cond (fitS (((((((((r1 ++ (bs [120])) ++ r2) ++ (bs [58])) ++ w_Right) ++ (bs [58])) ++ w_Down) ++ (bs [58])) ++ r3) ++ (bs [44])) r4)
           (cond (fitS ((((((((((r1 ++ (bs [120])) ++ r2) ++ (bs [58])) ++ w_Right) ++ (bs [58])) ++ w_Down) ++ (bs [58])) ++ r3) ++ (bs [44])) ++ r4) (bs [44]))
            ((spec_l1Num k w_Way).bind fun r5 =>
             cond (fitS (((((((((((r1 ++ (bs [120])) ++ r2) ++ (bs [58])) ++ w_Right) ++ (bs [58])) ++ w_Down) ++ (bs [58])) ++ r3) ++ (bs [44])) ++ r4) ++ (bs [44])) r5)
             (some ((((((((((((r1 ++ (bs [120])) ++ r2) ++ (bs [58])) ++ w_Right) ++ (bs [58])) ++ w_Down) ++ (bs [58])) ++ r3) ++ (bs [44])) ++ r4) ++ (bs [44])) ++ r5))
             (none))
            (none))
           (none))
          (none))
         (none))
        (none))
       (none))
      (none))
     (none))
    (none))
   (none))
  (none) := by kernel_rfl
theorem spec_l1Num.eq (k : Nat) (n : Int) : spec_l1Num (k + 1) n =
  cond (decide (n < 10))
  (some (ofBytes [(w8 (w64 (48 + n)))]))
  ((spec_l1Num k (w64 (n.tdiv 10))).bind fun r1 =>
   cond (fitS r1 (ofBytes [(w8 (w64 (48 + (n.tmod 10))))]))
   (some (r1 ++ (ofBytes [(w8 (w64 (48 + (n.tmod 10))))])))
   (none)) := by kernel_rfl
theorem laws_dSame.eq (k : Nat) (a : List Int) (b : List Int) : laws_dSame (k + 1) (a, b) =
  cond ((a.length : Int) != (b.length : Int))
  (some false)
  ((laws_dSame_l k (a, b, (a.length : Int), 0)).bind fun r1 =>
   r1.elim
   (fun r2 => some r2)
   (fun r3 => some true)) := by kernel_rfl
theorem laws_dSame_l.eq (k : Nat) (a : List Int) (b : List Int) (t12 : Int) (t13 : Int) : laws_dSame_l (k + 1) (a, b, t12, t13) =
  cond (decide (t13 < t12))
  (cond (inB t13 a.length)
   (cond (inB t13 b.length)
    (cond ((a.getD t13.toNat default) != (b.getD t13.toNat default))
     (some (.inl false))
     (laws_dSame_l k (a, b, t12, (w64 (t13 + 1)))))
    (none))
   (none))
  (some (.inr ())) := by kernel_rfl
theorem laws_dTexts.eq (k : Nat) (a : List ByteArray) (b : List ByteArray) : laws_dTexts (k + 1) (a, b) =
  cond ((a.length : Int) != (b.length : Int))
  (some false)
  ((laws_dTexts_l k (a, b, (a.length : Int), 0)).bind fun r1 =>
   r1.elim
   (fun r2 => some r2)
   (fun r3 => some true)) := by kernel_rfl
theorem laws_dTexts_l.eq (k : Nat) (a : List ByteArray) (b : List ByteArray) (t12 : Int) (t13 : Int) : laws_dTexts_l (k + 1) (a, b, t12, t13) =
  cond (decide (t13 < t12))
  (cond (inB t13 a.length)
   (cond (inB t13 b.length)
    (cond (!(strEq (a.getD t13.toNat default) (b.getD t13.toNat default)))
     (some (.inl false))
     (laws_dTexts_l k (a, b, t12, (w64 (t13 + 1)))))
    (none))
   (none))
  (some (.inr ())) := by kernel_rfl
end Go.Proofs.YtplamonjnlgomaaGreatDoorS
