/- What each function computes (printed by wip/sim/gen.py). -/
import Derived.Test.YtplamonjnlgomaaGreatDoorTab
namespace Go.Proofs.YtplamonjnlgomaaGreatDoorS
open Go Go.Proofs
set_option maxRecDepth 100000
set_option linter.unusedVariables false
theorem laws_FnLoopsClose_c_c_c_c.eq (k : Nat) (more : List Int) (w_Rule : ByteArray) (w_Width : Int) (w_Height : Int) (w_Cells : ByteArray) (w_X : Int) (w_Y : Int) (w_Way : Int) (period : Int) (t328 : Bool) : laws_FnLoopsClose_c_c_c_c (k + 1) (more, (w_Rule, w_Width, w_Height, w_Cells, w_X, w_Y, w_Way), period, t328) =
  cond t328
  ((impl_StepsBetween k ((w_Rule, w_Width, w_Height, w_Cells, w_X, w_Y, w_Way), (w_Rule, w_Width, w_Height, w_Cells, w_X, w_Y, w_Way))).bind fun r1 =>
   (impl_StepWorld k (w_Rule, w_Width, w_Height, w_Cells, w_X, w_Y, w_Way)).bind fun r2 =>
   (impl_StepsBetween k (r2.1, (w_Rule, w_Width, w_Height, w_Cells, w_X, w_Y, w_Way))).bind fun r3 =>
   cond (!r1.2)
   (some (.inl false))
   (cond (r1.1 != 0)
    (some (.inl false))
    (cond (!r2.2)
     (some (.inl false))
     (cond (!r3.2)
      (some (.inl false))
      (cond (r3.1 != (w64 (period - 1)))
       (some (.inl false))
       (some (.inr more)))))))
  (some (.inr more)) := by kernel_rfl
theorem impl_StepsBetween.eq (k : Nat) (w_Rule : ByteArray) (w_Width : Int) (w_Height : Int) (w_Cells : ByteArray) (w_X : Int) (w_Y : Int) (w_Way : Int) (v_Rule : ByteArray) (v_Width : Int) (v_Height : Int) (v_Cells : ByteArray) (v_X : Int) (v_Y : Int) (v_Way : Int) : impl_StepsBetween (k + 1) ((w_Rule, w_Width, w_Height, w_Cells, w_X, w_Y, w_Way), (v_Rule, v_Width, v_Height, v_Cells, v_X, v_Y, v_Way)) =
  (impl_IsWorld k (v_Rule, v_Width, v_Height, v_Cells, v_X, v_Y, v_Way)).bind fun r1 =>
  cond (!r1)
  (some (0, false))
  ((impl_search_4 k ((w_Rule, w_Width, w_Height, w_Cells, w_X, w_Y, w_Way), 0, (v_Rule, v_Width, v_Height, v_Cells, v_X, v_Y, v_Way))).bind fun r2 =>
   some r2) := by kernel_rfl
theorem impl_search_4.eq (k : Nat) (w_Rule : ByteArray) (w_Width : Int) (w_Height : Int) (w_Cells : ByteArray) (w_X : Int) (w_Y : Int) (w_Way : Int) (least : Int) (accept_0 : ByteArray) (accept_01 : Int) (accept_02 : Int) (accept_03 : ByteArray) (accept_04 : Int) (accept_05 : Int) (accept_06 : Int) : impl_search_4 (k + 1) ((w_Rule, w_Width, w_Height, w_Cells, w_X, w_Y, w_Way), least, (accept_0, accept_01, accept_02, accept_03, accept_04, accept_05, accept_06)) =
  (impl_IsWorld k (w_Rule, w_Width, w_Height, w_Cells, w_X, w_Y, w_Way)).bind fun r1 =>
  cond (!r1)
  (some (0, false))
  ((impl_search_4_l k (least, (accept_0, accept_01, accept_02, accept_03, accept_04, accept_05, accept_06), (w_Rule, w_Width, w_Height, w_Cells, w_X, w_Y, w_Way), 0)).bind fun r2 =>
   r2.elim
   (fun r3 => some r3)
   (fun r4 => some (0, false))) := by kernel_rfl
theorem impl_search_4_l.eq (k : Nat) (least : Int) (accept_0 : ByteArray) (accept_01 : Int) (accept_02 : Int) (accept_03 : ByteArray) (accept_04 : Int) (accept_05 : Int) (accept_06 : Int) (w_Rule : ByteArray) (w_Width : Int) (w_Height : Int) (w_Cells : ByteArray) (w_X : Int) (w_Y : Int) (w_Way : Int) (t12 : Int) : impl_search_4_l (k + 1) (least, (accept_0, accept_01, accept_02, accept_03, accept_04, accept_05, accept_06), (w_Rule, w_Width, w_Height, w_Cells, w_X, w_Y, w_Way), t12) =
  cond (decide (t12 < 4001))
  (cond (decide (t12 ≥ least))
   ((impl_StepsBetween_1 k ((w_Rule, w_Width, w_Height, w_Cells, w_X, w_Y, w_Way), (accept_0, accept_01, accept_02, accept_03, accept_04, accept_05, accept_06))).bind fun r1 =>
    cond r1
    (some (.inl (t12, true)))
    ((impl_World_step k (w_Rule, w_Width, w_Height, w_Cells, w_X, w_Y, w_Way)).bind fun r2 =>
     impl_search_4_l k (least, (accept_0, accept_01, accept_02, accept_03, accept_04, accept_05, accept_06), r2, (w64 (t12 + 1)))))
   ((impl_World_step k (w_Rule, w_Width, w_Height, w_Cells, w_X, w_Y, w_Way)).bind fun r3 =>
    impl_search_4_l k (least, (accept_0, accept_01, accept_02, accept_03, accept_04, accept_05, accept_06), r3, (w64 (t12 + 1)))))
  (some (.inr ())) := by kernel_rfl
theorem impl_StepsBetween_1.eq (k : Nat) (own_Rule : ByteArray) (own_Width : Int) (own_Height : Int) (own_Cells : ByteArray) (own_X : Int) (own_Y : Int) (own_Way : Int) (t1_0 : ByteArray) (t1_1 : Int) (t1_2 : Int) (t1_3 : ByteArray) (t1_4 : Int) (t1_5 : Int) (t1_6 : Int) : impl_StepsBetween_1 (k + 1) ((own_Rule, own_Width, own_Height, own_Cells, own_X, own_Y, own_Way), (t1_0, t1_1, t1_2, t1_3, t1_4, t1_5, t1_6)) =
  some ((own_Rule == t1_0) && ((own_Width == t1_1) && ((own_Height == t1_2) && ((own_Cells == t1_3) && ((own_X == t1_4) && ((own_Y == t1_5) && ((own_Way == t1_6) && true))))))) := by kernel_rfl
theorem impl_StepWorld.eq (k : Nat) (w_Rule : ByteArray) (w_Width : Int) (w_Height : Int) (w_Cells : ByteArray) (w_X : Int) (w_Y : Int) (w_Way : Int) : impl_StepWorld (k + 1) (w_Rule, w_Width, w_Height, w_Cells, w_X, w_Y, w_Way) =
  (impl_WorldAfter k ((w_Rule, w_Width, w_Height, w_Cells, w_X, w_Y, w_Way), 1)).bind fun r1 =>
  some r1 := by kernel_rfl
theorem laws_FnLoopsClose_c_c_c_2.eq (k : Nat) (more : List Int) : laws_FnLoopsClose_c_c_c_2 (k + 1) more =
  (spec_DrawVisitsAfter k more).bind fun r1 =>
  (impl_VisitsAfter k r1).bind fun r2 =>
  (spec_VisitsAfter k r1).bind fun r3 =>
  (impl_CellsVisited k r1).bind fun r4 =>
  (spec_CellsVisited k r1).bind fun r5 =>
  (impl_MostVisited k r1).bind fun r6 =>
  (spec_MostVisited k r1).bind fun r7 =>
  (spec_DrawTrackAfter k more).bind fun r8 =>
  (impl_TrackAfter k r8).bind fun r9 =>
  (spec_TrackAfter k r8).bind fun r10 =>
  (spec_DrawStepsBetween k more).bind fun r11 =>
  (impl_StepsBetween k r11).bind fun r12 =>
  (spec_StepsBetween k r11).bind fun r13 =>
  cond (!(r2.2 == r3.2))
  (some false)
  ((laws_kSame k (r2.1, r3.1)).bind fun r14 =>
   cond (!r14)
   (some false)
   (cond (!(r4.2 == r5.2))
    (some false)
    (cond (r4.1 != r5.1)
     (some false)
     (cond (!(r6.2 == r7.2))
      (some false)
      (cond (r6.1 != r7.1)
       (some false)
       (cond (!(r9.2 == r10.2))
        (some false)
        ((laws_kSame k (r9.1, r10.1)).bind fun r15 =>
         cond (!r15)
         (some false)
         (cond (!(r12.2 == r13.2))
          (some false)
          (cond (r12.1 != r13.1)
           (some false)
           (cond (!(r4.2 == r2.2))
            (some false)
            (cond r2.2
             (cond (!(r6.2 == (decide (r1.2 > 0))))
              (some false)
              ((laws_FnLoopsClose_c_c_c_2_c k (r1.2, r2.1, r2.2, r4.1, r6.1, r6.2, r8.1, r8.2, r9.1, r9.2, r11.1, r11.2, r12.1, r12.2)).bind fun r16 =>
               some r16))
             (cond (!(r6.2 == false))
              (some false)
              ((laws_FnLoopsClose_c_c_c_2_c k (r1.2, r2.1, r2.2, r4.1, r6.1, r6.2, r8.1, r8.2, r9.1, r9.2, r11.1, r11.2, r12.1, r12.2)).bind fun r17 =>
               some r17))))))))))))) := by kernel_rfl
theorem spec_DrawVisitsAfter.eq (k : Nat) (code : List Int) : spec_DrawVisitsAfter (k + 1) code =
  (spec_DrawWorldAfter k code).bind fun r1 =>
  some r1 := by kernel_rfl
theorem spec_DrawWorldAfter.eq (k : Nat) (code : List Int) : spec_DrawWorldAfter (k + 1) code =
  (spec_l1Cur_world k (code, 0, 0)).bind fun r1 =>
  (spec_l1Cur_steps k r1.2).bind fun r2 =>
  some (r1.1, r2.1) := by kernel_rfl
theorem spec_l1Cur_steps.eq (k : Nat) (c_code : List Int) (c_at : Int) (c_seed : Int) : spec_l1Cur_steps (k + 1) (c_code, c_at, c_seed) =
  (spec_l1Cur_one k ((c_code, c_at, c_seed), 8)).bind fun r1 =>
  cond r1.1
  ((spec_l1Cur_among k (r1.2, [0, 1, 3000, 3001, (-1), 4611686018427387904])).bind fun r2 =>
   some r2)
  ((spec_l1Cur_pick k (r1.2, 60)).bind fun r3 =>
   some r3) := by kernel_rfl
theorem spec_VisitsAfter.eq (k : Nat) (w_Rule : ByteArray) (w_Width : Int) (w_Height : Int) (w_Cells : ByteArray) (w_X : Int) (w_Y : Int) (w_Way : Int) (steps : Int) : spec_VisitsAfter (k + 1) ((w_Rule, w_Width, w_Height, w_Cells, w_X, w_Y, w_Way), steps) =
  (spec_woSteps k ((w_Rule, w_Width, w_Height, w_Cells, w_X, w_Y, w_Way), steps)).bind fun r1 =>
  cond (!r1)
  (some ([], false))
  ((spec_loVisits k ((w_Rule, w_Width, w_Height, w_Cells, w_X, w_Y, w_Way), steps)).bind fun r2 =>
   some (r2, true)) := by kernel_rfl
theorem spec_woSteps.eq (k : Nat) (w_Rule : ByteArray) (w_Width : Int) (w_Height : Int) (w_Cells : ByteArray) (w_X : Int) (w_Y : Int) (w_Way : Int) (steps : Int) : spec_woSteps (k + 1) ((w_Rule, w_Width, w_Height, w_Cells, w_X, w_Y, w_Way), steps) =
  (spec_woGood k (w_Rule, w_Width, w_Height, w_Cells, w_X, w_Y, w_Way)).bind fun r1 =>
  cond r1
  ((spec_l1In k (steps, 0, 3000)).bind fun r2 =>
   some r2)
  (some false) := by kernel_rfl
theorem spec_CellsVisited.eq (k : Nat) (w_Rule : ByteArray) (w_Width : Int) (w_Height : Int) (w_Cells : ByteArray) (w_X : Int) (w_Y : Int) (w_Way : Int) (steps : Int) : spec_CellsVisited (k + 1) ((w_Rule, w_Width, w_Height, w_Cells, w_X, w_Y, w_Way), steps) =
  (spec_woSteps k ((w_Rule, w_Width, w_Height, w_Cells, w_X, w_Y, w_Way), steps)).bind fun r1 =>
  cond (!r1)
  (some (0, false))
  ((spec_loVisits k ((w_Rule, w_Width, w_Height, w_Cells, w_X, w_Y, w_Way), steps)).bind fun r2 =>
   (spec_CellsVisited_l k (0, r2, (r2.length : Int), 0)).bind fun r3 =>
   some (r3, true)) := by kernel_rfl
theorem spec_CellsVisited_l.eq (k : Nat) (n : Int) (t15 : List Int) (t16 : Int) (t17 : Int) : spec_CellsVisited_l (k + 1) (n, t15, t16, t17) =
  cond (decide (t17 < t16))
  (cond (inB t17 t15.length)
   (cond (decide ((t15.getD t17.toNat default) > 0))
    (spec_CellsVisited_l k ((w64 (n + 1)), t15, t16, (w64 (t17 + 1))))
    (spec_CellsVisited_l k (n, t15, t16, (w64 (t17 + 1)))))
   (none))
  (some n) := by kernel_rfl
theorem impl_MostVisited.eq (k : Nat) (w_Rule : ByteArray) (w_Width : Int) (w_Height : Int) (w_Cells : ByteArray) (w_X : Int) (w_Y : Int) (w_Way : Int) (steps : Int) : impl_MostVisited (k + 1) ((w_Rule, w_Width, w_Height, w_Cells, w_X, w_Y, w_Way), steps) =
  (impl_isGoing k ((w_Rule, w_Width, w_Height, w_Cells, w_X, w_Y, w_Way), steps)).bind fun r1 =>
  cond (!r1)
  (some (0, false))
  (cond (steps == 0)
   (some (0, false))
   ((impl_visits k ((w_Rule, w_Width, w_Height, w_Cells, w_X, w_Y, w_Way), steps)).bind fun r2 =>
    (slices_Max k r2).bind fun r3 =>
    (slices_Index k (r2, r3)).bind fun r4 =>
    some (r4, true))) := by kernel_rfl
theorem slices_Max.eq (k : Nat) (x : List Int) : slices_Max (k + 1) x =
  cond (decide ((x.length : Int) < 1))
  (none)
  (cond (inB 0 x.length)
   ((slices_Max_l k (x, (x.getD 0 default), 1)).bind fun r1 =>
    some r1)
   (none)) := by kernel_rfl
theorem slices_Max_l.eq (k : Nat) (x : List Int) (m : Int) (i : Int) : slices_Max_l (k + 1) (x, m, i) =
  cond (decide (i < (x.length : Int)))
  (cond (inB i x.length)
   (slices_Max_l k (x, (if (x.getD i.toNat default) > m then (x.getD i.toNat default) else m), (w64 (i + 1))))
   (none))
  (some m) := by kernel_rfl
theorem slices_Index.eq (k : Nat) (s : List Int) (v : Int) : slices_Index (k + 1) (s, v) =
  (slices_Index_l k (s, v, (s.length : Int), 0)).bind fun r1 =>
  r1.elim
  (fun r2 => some r2)
  (fun r3 => some (-1)) := by kernel_rfl
theorem slices_Index_l.eq (k : Nat) (s : List Int) (v : Int) (t7 : Int) (t8 : Int) : slices_Index_l (k + 1) (s, v, t7, t8) =
  cond (decide (t8 < t7))
  (cond (inB t8 s.length)
   (cond (v == (s.getD t8.toNat default))
    (some (.inl t8))
    (slices_Index_l k (s, v, t7, (w64 (t8 + 1)))))
   (none))
  (some (.inr ())) := by kernel_rfl
theorem spec_MostVisited.eq (k : Nat) (w_Rule : ByteArray) (w_Width : Int) (w_Height : Int) (w_Cells : ByteArray) (w_X : Int) (w_Y : Int) (w_Way : Int) (steps : Int) : spec_MostVisited (k + 1) ((w_Rule, w_Width, w_Height, w_Cells, w_X, w_Y, w_Way), steps) =
  (spec_woSteps k ((w_Rule, w_Width, w_Height, w_Cells, w_X, w_Y, w_Way), steps)).bind fun r1 =>
  cond (!r1)
  (some (0, false))
  (cond (decide (steps < 1))
   (some (0, false))
   ((spec_loVisits k ((w_Rule, w_Width, w_Height, w_Cells, w_X, w_Y, w_Way), steps)).bind fun r2 =>
    (spec_MostVisited_l k (0, r2, (), (r2.length : Int), 0)).bind fun r3 =>
    some (r3, true))) := by kernel_rfl
theorem spec_MostVisited_l.eq (k : Nat) (best : Int) (visits : List Int) (t22 : Int) (t23 : Int) : spec_MostVisited_l (k + 1) (best, visits, (), t22, t23) =
  cond (decide (t23 < t22))
  (cond (inB t23 visits.length)
   (cond (inB best visits.length)
    (cond (decide ((visits.getD t23.toNat default) > (visits.getD best.toNat default)))
     (spec_MostVisited_l k (t23, visits, (), t22, (w64 (t23 + 1))))
     (spec_MostVisited_l k (best, visits, (), t22, (w64 (t23 + 1)))))
    (none))
   (none))
  (some best) := by kernel_rfl
theorem spec_DrawTrackAfter.eq (k : Nat) (code : List Int) : spec_DrawTrackAfter (k + 1) code =
  (spec_l1Cur_world k (code, 0, 0)).bind fun r1 =>
  (spec_l1Cur_among k (r1.2, [0, 1, 5, 20, 200, 201, (-1)])).bind fun r2 =>
  some (r1.1, r2.1) := by kernel_rfl
theorem impl_TrackAfter.eq (k : Nat) (w_Rule : ByteArray) (w_Width : Int) (w_Height : Int) (w_Cells : ByteArray) (w_X : Int) (w_Y : Int) (w_Way : Int) (steps : Int) : impl_TrackAfter (k + 1) ((w_Rule, w_Width, w_Height, w_Cells, w_X, w_Y, w_Way), steps) =
  (impl_IsWorld k (w_Rule, w_Width, w_Height, w_Cells, w_X, w_Y, w_Way)).bind fun r1 =>
  cond (!r1)
  (some ([], false))
  ((impl_within k (steps, 0, 200)).bind fun r2 =>
   cond (!r2)
   (some ([], false))
   ((impl_track k ((w_Rule, w_Width, w_Height, w_Cells, w_X, w_Y, w_Way), steps)).bind fun r3 =>
    some (r3, true))) := by kernel_rfl
theorem spec_TrackAfter.eq (k : Nat) (w_Rule : ByteArray) (w_Width : Int) (w_Height : Int) (w_Cells : ByteArray) (w_X : Int) (w_Y : Int) (w_Way : Int) (steps : Int) : spec_TrackAfter (k + 1) ((w_Rule, w_Width, w_Height, w_Cells, w_X, w_Y, w_Way), steps) =
  (spec_woSteps k ((w_Rule, w_Width, w_Height, w_Cells, w_X, w_Y, w_Way), steps)).bind fun r1 =>
  cond (!r1)
  (some ([], false))
  (cond (decide (steps > 200))
   (some ([], false))
   ((spec_TrackAfter_l k (steps, (w_Rule, w_Width, w_Height, w_Cells, w_X, w_Y, w_Way), [])).bind fun r2 =>
    some (r2, true))) := by kernel_rfl
theorem spec_TrackAfter_l.eq (k : Nat) (steps : Int) (w_Rule : ByteArray) (w_Width : Int) (w_Height : Int) (w_Cells : ByteArray) (w_X : Int) (w_Y : Int) (w_Way : Int) (out : List Int) : spec_TrackAfter_l (k + 1) (steps, (w_Rule, w_Width, w_Height, w_Cells, w_X, w_Y, w_Way), out) =
  cond (decide (steps > 0))
  (cond (fits (out.length + 1) 8)
   ((spec_woStep k (w_Rule, w_Width, w_Height, w_Cells, w_X, w_Y, w_Way)).bind fun r1 =>
    spec_TrackAfter_l k ((w64 (steps - 1)), r1, (out ++ [(w64 ((w64 (w_Y * w_Width)) + w_X))])))
   (none))
  (some out) := by kernel_rfl
theorem spec_DrawStepsBetween.eq (k : Nat) (code : List Int) : spec_DrawStepsBetween (k + 1) code =
  (spec_l1Cur_small k (code, 0, 0)).bind fun r1 =>
  (spec_woGood k r1.1).bind fun r2 =>
  cond r2
  ((spec_l1Cur_one k (r1.2, 4)).bind fun r3 =>
   cond (!r3.1)
   ((spec_l1Cur_pick k (r3.2, 40)).bind fun r4 =>
    (spec_DrawStepsBetween_l k ((ByteArray.empty, 0, 0, ByteArray.empty, 0, 0, 0), (ByteArray.empty, 0, 0, ByteArray.empty, 0, 0, 0), r1.1, r1.1, r4.1)).bind fun r5 =>
    some r5.2.2)
   ((spec_l1Cur_small k r3.2).bind fun r6 =>
    some (r1.1, r6.1)))
  ((spec_l1Cur_small k r1.2).bind fun r7 =>
   some (r1.1, r7.1)) := by kernel_rfl
theorem spec_DrawStepsBetween_l.eq (k : Nat) (t2_Rule : ByteArray) (t2_Width : Int) (t2_Height : Int) (t2_Cells : ByteArray) (t2_X : Int) (t2_Y : Int) (t2_Way : Int) (t3_Rule : ByteArray) (t3_Width : Int) (t3_Height : Int) (t3_Cells : ByteArray) (t3_X : Int) (t3_Y : Int) (t3_Way : Int) (w_Rule : ByteArray) (w_Width : Int) (w_Height : Int) (w_Cells : ByteArray) (w_X : Int) (w_Y : Int) (w_Way : Int) (v_Rule : ByteArray) (v_Width : Int) (v_Height : Int) (v_Cells : ByteArray) (v_X : Int) (v_Y : Int) (v_Way : Int) (k_ : Int) : spec_DrawStepsBetween_l (k + 1) ((t2_Rule, t2_Width, t2_Height, t2_Cells, t2_X, t2_Y, t2_Way), (t3_Rule, t3_Width, t3_Height, t3_Cells, t3_X, t3_Y, t3_Way), (w_Rule, w_Width, w_Height, w_Cells, w_X, w_Y, w_Way), (v_Rule, v_Width, v_Height, v_Cells, v_X, v_Y, v_Way), k_) =
  cond (decide (k_ > 0))
  ((spec_woStep k (v_Rule, v_Width, v_Height, v_Cells, v_X, v_Y, v_Way)).bind fun r1 =>
   spec_DrawStepsBetween_l k ((t2_Rule, t2_Width, t2_Height, t2_Cells, t2_X, t2_Y, t2_Way), (t3_Rule, t3_Width, t3_Height, t3_Cells, t3_X, t3_Y, t3_Way), (w_Rule, w_Width, w_Height, w_Cells, w_X, w_Y, w_Way), r1, (w64 (k_ - 1))))
  (some ((t2_Rule, t2_Width, t2_Height, t2_Cells, t2_X, t2_Y, t2_Way), (t3_Rule, t3_Width, t3_Height, t3_Cells, t3_X, t3_Y, t3_Way), (w_Rule, w_Width, w_Height, w_Cells, w_X, w_Y, w_Way), (v_Rule, v_Width, v_Height, v_Cells, v_X, v_Y, v_Way))) := by kernel_rfl
theorem spec_StepsBetween.eq (k : Nat) (w_Rule : ByteArray) (w_Width : Int) (w_Height : Int) (w_Cells : ByteArray) (w_X : Int) (w_Y : Int) (w_Way : Int) (v_Rule : ByteArray) (v_Width : Int) (v_Height : Int) (v_Cells : ByteArray) (v_X : Int) (v_Y : Int) (v_Way : Int) : spec_StepsBetween (k + 1) ((w_Rule, w_Width, w_Height, w_Cells, w_X, w_Y, w_Way), (v_Rule, v_Width, v_Height, v_Cells, v_X, v_Y, v_Way)) =
  (spec_woGood k (w_Rule, w_Width, w_Height, w_Cells, w_X, w_Y, w_Way)).bind fun r1 =>
  cond (!r1)
  (some (0, false))
  ((spec_woGood k (v_Rule, v_Width, v_Height, v_Cells, v_X, v_Y, v_Way)).bind fun r2 =>
   cond (!r2)
   (some (0, false))
   ((spec_StepsBetween_l k ((w_Rule, w_Width, w_Height, w_Cells, w_X, w_Y, w_Way), (v_Rule, v_Width, v_Height, v_Cells, v_X, v_Y, v_Way), 0)).bind fun r3 =>
    r3.elim
    (fun r4 => some r4)
    (fun r5 => some (0, false)))) := by kernel_rfl
theorem spec_StepsBetween_l.eq (k : Nat) (w_Rule : ByteArray) (w_Width : Int) (w_Height : Int) (w_Cells : ByteArray) (w_X : Int) (w_Y : Int) (w_Way : Int) (v_Rule : ByteArray) (v_Width : Int) (v_Height : Int) (v_Cells : ByteArray) (v_X : Int) (v_Y : Int) (v_Way : Int) (steps : Int) : spec_StepsBetween_l (k + 1) ((w_Rule, w_Width, w_Height, w_Cells, w_X, w_Y, w_Way), (v_Rule, v_Width, v_Height, v_Cells, v_X, v_Y, v_Way), steps) =
  cond (decide (steps ≤ 4000))
  (cond ((w_Rule == v_Rule) && ((w_Width == v_Width) && ((w_Height == v_Height) && ((w_Cells == v_Cells) && ((w_X == v_X) && ((w_Y == v_Y) && ((w_Way == v_Way) && true)))))))
   (some (.inl (steps, true)))
   ((spec_woStep k (w_Rule, w_Width, w_Height, w_Cells, w_X, w_Y, w_Way)).bind fun r1 =>
    spec_StepsBetween_l k (r1, (v_Rule, v_Width, v_Height, v_Cells, v_X, v_Y, v_Way), (w64 (steps + 1)))))
  (some (.inr ())) := by kernel_rfl
theorem laws_FnLoopsClose_c_c_c_2_c.eq (k : Nat) (steps : Int) (visits : List Int) (nine : Bool) (count : Int) (most : Int) (thirteen : Bool) (u_Rule : ByteArray) (u_Width : Int) (u_Height : Int) (u_Cells : ByteArray) (u_X : Int) (u_Y : Int) (u_Way : Int) (short : Int) (track : List Int) (fifteen : Bool) (x_Rule : ByteArray) (x_Width : Int) (x_Height : Int) (x_Cells : ByteArray) (x_X : Int) (x_Y : Int) (x_Way : Int) (y_Rule : ByteArray) (y_Width : Int) (y_Height : Int) (y_Cells : ByteArray) (y_X : Int) (y_Y : Int) (y_Way : Int) (between : Int) (seventeen : Bool) : laws_FnLoopsClose_c_c_c_2_c (k + 1) (steps, visits, nine, count, most, thirteen, (u_Rule, u_Width, u_Height, u_Cells, u_X, u_Y, u_Way), short, track, fifteen, (x_Rule, x_Width, x_Height, x_Cells, x_X, x_Y, x_Way), (y_Rule, y_Width, y_Height, y_Cells, y_X, y_Y, y_Way), between, seventeen) =
  cond nine
  ((laws_FnLoopsClose_c_c_c_2_c_l k (steps, visits, count, most, thirteen, (u_Rule, u_Width, u_Height, u_Cells, u_X, u_Y, u_Way), short, track, fifteen, (x_Rule, x_Width, x_Height, x_Cells, x_X, x_Y, x_Way), (y_Rule, y_Width, y_Height, y_Cells, y_X, y_Y, y_Way), between, seventeen, 0, (), (visits.length : Int), 0)).bind fun r1 =>
   r1.elim
   (fun r2 => some r2)
   (fun r3 => (laws_kSum k r3.2.1).bind fun r4 =>
    cond (r4 != r3.1)
    (some false)
    (cond (r3.2.2.2.2.2.2.2.2.2.2.2 != r3.2.2.1)
     (some false)
     ((laws_FnLoopsClose_c_c_c_2_c_c k (r3.2.2.2.1, r3.2.2.2.2.1, r3.2.2.2.2.2.1, r3.2.2.2.2.2.2.1, r3.2.2.2.2.2.2.2.1, r3.2.2.2.2.2.2.2.2.1, r3.2.2.2.2.2.2.2.2.2.1, r3.2.2.2.2.2.2.2.2.2.2.1)).bind fun r5 =>
      some r5))))
  ((laws_FnLoopsClose_c_c_c_2_c_c k ((u_Rule, u_Width, u_Height, u_Cells, u_X, u_Y, u_Way), short, track, fifteen, (x_Rule, x_Width, x_Height, x_Cells, x_X, x_Y, x_Way), (y_Rule, y_Width, y_Height, y_Cells, y_X, y_Y, y_Way), between, seventeen)).bind fun r6 =>
   some r6) := by kernel_rfl
theorem laws_FnLoopsClose_c_c_c_2_c_l.eq (k : Nat) (steps : Int) (visits : List Int) (count : Int) (most : Int) (thirteen : Bool) (u_Rule : ByteArray) (u_Width : Int) (u_Height : Int) (u_Cells : ByteArray) (u_X : Int) (u_Y : Int) (u_Way : Int) (short : Int) (track : List Int) (fifteen : Bool) (x_Rule : ByteArray) (x_Width : Int) (x_Height : Int) (x_Cells : ByteArray) (x_X : Int) (x_Y : Int) (x_Way : Int) (y_Rule : ByteArray) (y_Width : Int) (y_Height : Int) (y_Cells : ByteArray) (y_X : Int) (y_Y : Int) (y_Way : Int) (between : Int) (seventeen : Bool) (different : Int) (t507 : Int) (t508 : Int) : laws_FnLoopsClose_c_c_c_2_c_l (k + 1) (steps, visits, count, most, thirteen, (u_Rule, u_Width, u_Height, u_Cells, u_X, u_Y, u_Way), short, track, fifteen, (x_Rule, x_Width, x_Height, x_Cells, x_X, x_Y, x_Way), (y_Rule, y_Width, y_Height, y_Cells, y_X, y_Y, y_Way), between, seventeen, different, (), t507, t508) =
  cond (decide (t508 < t507))
  (cond (inB t508 visits.length)
   (cond (decide ((visits.getD t508.toNat default) > 0))
    (cond thirteen
     (cond (inB most visits.length)
      (cond (decide ((visits.getD t508.toNat default) > (visits.getD most.toNat default)))
       (some (.inl false))
       (cond (inB most visits.length)
        (cond ((visits.getD t508.toNat default) == (visits.getD most.toNat default))
         (cond (decide (t508 < most))
          (some (.inl false))
          (laws_FnLoopsClose_c_c_c_2_c_l k (steps, visits, count, most, thirteen, (u_Rule, u_Width, u_Height, u_Cells, u_X, u_Y, u_Way), short, track, fifteen, (x_Rule, x_Width, x_Height, x_Cells, x_X, x_Y, x_Way), (y_Rule, y_Width, y_Height, y_Cells, y_X, y_Y, y_Way), between, seventeen, (w64 (different + 1)), (), t507, (w64 (t508 + 1)))))
         (laws_FnLoopsClose_c_c_c_2_c_l k (steps, visits, count, most, thirteen, (u_Rule, u_Width, u_Height, u_Cells, u_X, u_Y, u_Way), short, track, fifteen, (x_Rule, x_Width, x_Height, x_Cells, x_X, x_Y, x_Way), (y_Rule, y_Width, y_Height, y_Cells, y_X, y_Y, y_Way), between, seventeen, (w64 (different + 1)), (), t507, (w64 (t508 + 1)))))
        (none)))
      (none))
     (laws_FnLoopsClose_c_c_c_2_c_l k (steps, visits, count, most, thirteen, (u_Rule, u_Width, u_Height, u_Cells, u_X, u_Y, u_Way), short, track, fifteen, (x_Rule, x_Width, x_Height, x_Cells, x_X, x_Y, x_Way), (y_Rule, y_Width, y_Height, y_Cells, y_X, y_Y, y_Way), between, seventeen, (w64 (different + 1)), (), t507, (w64 (t508 + 1)))))
    (cond thirteen
     (cond (inB most visits.length)
      (cond (decide ((visits.getD t508.toNat default) > (visits.getD most.toNat default)))
       (some (.inl false))
       (cond (inB most visits.length)
        (cond ((visits.getD t508.toNat default) == (visits.getD most.toNat default))
         (cond (decide (t508 < most))
          (some (.inl false))
          (laws_FnLoopsClose_c_c_c_2_c_l k (steps, visits, count, most, thirteen, (u_Rule, u_Width, u_Height, u_Cells, u_X, u_Y, u_Way), short, track, fifteen, (x_Rule, x_Width, x_Height, x_Cells, x_X, x_Y, x_Way), (y_Rule, y_Width, y_Height, y_Cells, y_X, y_Y, y_Way), between, seventeen, different, (), t507, (w64 (t508 + 1)))))
         (laws_FnLoopsClose_c_c_c_2_c_l k (steps, visits, count, most, thirteen, (u_Rule, u_Width, u_Height, u_Cells, u_X, u_Y, u_Way), short, track, fifteen, (x_Rule, x_Width, x_Height, x_Cells, x_X, x_Y, x_Way), (y_Rule, y_Width, y_Height, y_Cells, y_X, y_Y, y_Way), between, seventeen, different, (), t507, (w64 (t508 + 1)))))
        (none)))
      (none))
     (laws_FnLoopsClose_c_c_c_2_c_l k (steps, visits, count, most, thirteen, (u_Rule, u_Width, u_Height, u_Cells, u_X, u_Y, u_Way), short, track, fifteen, (x_Rule, x_Width, x_Height, x_Cells, x_X, x_Y, x_Way), (y_Rule, y_Width, y_Height, y_Cells, y_X, y_Y, y_Way), between, seventeen, different, (), t507, (w64 (t508 + 1))))))
   (none))
  (some (.inr (steps, visits, count, (u_Rule, u_Width, u_Height, u_Cells, u_X, u_Y, u_Way), short, track, fifteen, (x_Rule, x_Width, x_Height, x_Cells, x_X, x_Y, x_Way), (y_Rule, y_Width, y_Height, y_Cells, y_X, y_Y, y_Way), between, seventeen, different))) := by kernel_rfl
theorem laws_FnLoopsClose_c_c_c_2_c_c.eq (k : Nat) (u_Rule : ByteArray) (u_Width : Int) (u_Height : Int) (u_Cells : ByteArray) (u_X : Int) (u_Y : Int) (u_Way : Int) (short : Int) (track : List Int) (fifteen : Bool) (x_Rule : ByteArray) (x_Width : Int) (x_Height : Int) (x_Cells : ByteArray) (x_X : Int) (x_Y : Int) (x_Way : Int) (y_Rule : ByteArray) (y_Width : Int) (y_Height : Int) (y_Cells : ByteArray) (y_X : Int) (y_Y : Int) (y_Way : Int) (between : Int) (seventeen : Bool) : laws_FnLoopsClose_c_c_c_2_c_c (k + 1) ((u_Rule, u_Width, u_Height, u_Cells, u_X, u_Y, u_Way), short, track, fifteen, (x_Rule, x_Width, x_Height, x_Cells, x_X, x_Y, x_Way), (y_Rule, y_Width, y_Height, y_Cells, y_X, y_Y, y_Way), between, seventeen) =
  cond fifteen
  (cond ((track.length : Int) != short)
   (some false)
   ((impl_VisitsAfter k ((u_Rule, u_Width, u_Height, u_Cells, u_X, u_Y, u_Way), short)).bind fun r1 =>
    cond (!r1.2)
    (some false)
    ((laws_FnLoopsClose_c_c_c_2_c_c_l k ((x_Rule, x_Width, x_Height, x_Cells, x_X, x_Y, x_Way), (y_Rule, y_Width, y_Height, y_Cells, y_X, y_Y, y_Way), between, seventeen, r1.1, track, (track.length : Int), 0)).bind fun r2 =>
     (laws_FnLoopsClose_c_c_c_2_c_c_l_2 k (r2.1, r2.2.1, r2.2.2.1, r2.2.2.2.1, r2.2.2.2.2, (r2.2.2.2.2.length : Int), 0)).bind fun r3 =>
     r3.elim
     (fun r4 => some r4)
     (fun r5 => (laws_FnLoopsClose_c_c_c_2_c_c_c k r5).bind fun r6 =>
      some r6))))
  ((laws_FnLoopsClose_c_c_c_2_c_c_c k ((x_Rule, x_Width, x_Height, x_Cells, x_X, x_Y, x_Way), (y_Rule, y_Width, y_Height, y_Cells, y_X, y_Y, y_Way), between, seventeen)).bind fun r7 =>
   some r7) := by kernel_rfl
theorem laws_FnLoopsClose_c_c_c_2_c_c_l.eq (k : Nat) (x_Rule : ByteArray) (x_Width : Int) (x_Height : Int) (x_Cells : ByteArray) (x_X : Int) (x_Y : Int) (x_Way : Int) (y_Rule : ByteArray) (y_Width : Int) (y_Height : Int) (y_Cells : ByteArray) (y_X : Int) (y_Y : Int) (y_Way : Int) (between : Int) (seventeen : Bool) (counts : List Int) (t562 : List Int) (t563 : Int) (t564 : Int) : laws_FnLoopsClose_c_c_c_2_c_c_l (k + 1) ((x_Rule, x_Width, x_Height, x_Cells, x_X, x_Y, x_Way), (y_Rule, y_Width, y_Height, y_Cells, y_X, y_Y, y_Way), between, seventeen, counts, t562, t563, t564) =
  cond (decide (t564 < t563))
  (cond (inB t564 t562.length)
   (cond (inB (t562.getD t564.toNat default) counts.length)
    (cond (inB (t562.getD t564.toNat default) counts.length)
     (laws_FnLoopsClose_c_c_c_2_c_c_l k ((x_Rule, x_Width, x_Height, x_Cells, x_X, x_Y, x_Way), (y_Rule, y_Width, y_Height, y_Cells, y_X, y_Y, y_Way), between, seventeen, (counts.set ((t562.getD t564.toNat default).toNat) (w64 ((counts.getD ((t562.getD t564.toNat default).toNat) default) - 1))), t562, t563, (w64 (t564 + 1))))
     (none))
    (none))
   (none))
  (some ((x_Rule, x_Width, x_Height, x_Cells, x_X, x_Y, x_Way), (y_Rule, y_Width, y_Height, y_Cells, y_X, y_Y, y_Way), between, seventeen, counts)) := by kernel_rfl
theorem laws_FnLoopsClose_c_c_c_2_c_c_l_2.eq (k : Nat) (x_Rule : ByteArray) (x_Width : Int) (x_Height : Int) (x_Cells : ByteArray) (x_X : Int) (x_Y : Int) (x_Way : Int) (y_Rule : ByteArray) (y_Width : Int) (y_Height : Int) (y_Cells : ByteArray) (y_X : Int) (y_Y : Int) (y_Way : Int) (between : Int) (seventeen : Bool) (t575 : List Int) (t576 : Int) (t577 : Int) : laws_FnLoopsClose_c_c_c_2_c_c_l_2 (k + 1) ((x_Rule, x_Width, x_Height, x_Cells, x_X, x_Y, x_Way), (y_Rule, y_Width, y_Height, y_Cells, y_X, y_Y, y_Way), between, seventeen, t575, t576, t577) =
  cond (decide (t577 < t576))
  (cond (inB t577 t575.length)
   (cond ((t575.getD t577.toNat default) != 0)
    (some (.inl false))
    (laws_FnLoopsClose_c_c_c_2_c_c_l_2 k ((x_Rule, x_Width, x_Height, x_Cells, x_X, x_Y, x_Way), (y_Rule, y_Width, y_Height, y_Cells, y_X, y_Y, y_Way), between, seventeen, t575, t576, (w64 (t577 + 1)))))
   (none))
  (some (.inr ((x_Rule, x_Width, x_Height, x_Cells, x_X, x_Y, x_Way), (y_Rule, y_Width, y_Height, y_Cells, y_X, y_Y, y_Way), between, seventeen))) := by kernel_rfl
theorem laws_FnLoopsClose_c_c_c_2_c_c_c.eq (k : Nat) (x_Rule : ByteArray) (x_Width : Int) (x_Height : Int) (x_Cells : ByteArray) (x_X : Int) (x_Y : Int) (x_Way : Int) (y_Rule : ByteArray) (y_Width : Int) (y_Height : Int) (y_Cells : ByteArray) (y_X : Int) (y_Y : Int) (y_Way : Int) (between : Int) (seventeen : Bool) : laws_FnLoopsClose_c_c_c_2_c_c_c (k + 1) ((x_Rule, x_Width, x_Height, x_Cells, x_X, x_Y, x_Way), (y_Rule, y_Width, y_Height, y_Cells, y_X, y_Y, y_Way), between, seventeen) =
  cond seventeen
  (cond (decide (between ≤ 3000))
   ((impl_WorldAfter k ((x_Rule, x_Width, x_Height, x_Cells, x_X, x_Y, x_Way), between)).bind fun r1 =>
    cond r1.2
    (some ((r1.1.1 == y_Rule) && ((r1.1.2.1 == y_Width) && ((r1.1.2.2.1 == y_Height) && ((r1.1.2.2.2.1 == y_Cells) && ((r1.1.2.2.2.2.1 == y_X) && ((r1.1.2.2.2.2.2.1 == y_Y) && ((r1.1.2.2.2.2.2.2 == y_Way) && true))))))))
    (some false))
   (some true))
  (some true) := by kernel_rfl
end Go.Proofs.YtplamonjnlgomaaGreatDoorS
