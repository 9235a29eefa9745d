/- What each function computes (printed by wip/sim/gen.py). -/
import Derived.Test.YtiaagflfiphioaaDoorTab
namespace Go.Proofs.YtiaagflfiphioaaDoorS
open Go Go.Proofs
set_option maxRecDepth 100000
set_option linter.unusedVariables false
theorem laws_FnRotorsShare.eq (k : Nat) (code : List Int) (more : List Int) : laws_FnRotorsShare (k + 1) (code, more) =
  (laws_big k (code, more)).bind fun r1 =>
  cond r1
  (some true)
  ((spec_DrawWalkAfter k code).bind fun r2 =>
   (impl_WalkAfter k r2).bind fun r3 =>
   (spec_WalkAfter k r2).bind fun r4 =>
   (impl_VisitsOfWalk k r2).bind fun r5 =>
   (spec_VisitsOfWalk k r2).bind fun r6 =>
   (impl_LinesUsed k r2).bind fun r7 =>
   (spec_LinesUsed k r2).bind fun r8 =>
   (impl_TrackOfWalk k r2).bind fun r9 =>
   (spec_TrackOfWalk k r2).bind fun r10 =>
   (laws_FnRotorsShare_c k (more, r2.1, r2.2.1, r2.2.2, r3.1, r3.2.1, r3.2.2, r4.1, r4.2.1, r4.2.2, r5.1, r5.2, r6.1, r6.2, r7.1, r7.2, r8.1, r8.2, r9.1, r9.2, r10.1, r10.2)).bind fun r11 =>
   some r11) := by kernel_rfl
theorem laws_big.eq (k : Nat) (code : List Int) (more : List Int) : laws_big (k + 1) (code, more) =
  cond (decide ((code.length : Int) > 1048576))
  (some true)
  (some (decide ((more.length : Int) > (w64 (1048576 - (code.length : Int)))))) := by kernel_rfl
theorem spec_DrawWalkAfter.eq (k : Nat) (code : List Int) : spec_DrawWalkAfter (k + 1) code =
  (spec_l1Cur_route k (code, 0, 0)).bind fun r1 =>
  (spec_l1Cur_pick k (r1.2, (w64 ((r1.1.1.length : Int) + 1)))).bind fun r2 =>
  (spec_l1Cur_walk k r2.2).bind fun r3 =>
  some (r1.1, r2.1, r3.1) := by kernel_rfl
theorem spec_l1Cur_route.eq (k : Nat) (c_code : List Int) (c_at : Int) (c_seed : Int) : spec_l1Cur_route (k + 1) (c_code, c_at, c_seed) =
  (spec_l1Cur_sureRoute k (c_code, c_at, c_seed)).bind fun r1 =>
  (spec_l1Cur_pick k (r1.2, 18)).bind fun r2 =>
  cond (r2.1 == 0)
  ((spec_l1Cur_among k (r2.2, [(-1), 0, 4, 4611686018427387904])).bind fun r3 =>
   cond (inB 0 r1.1.2.length)
   (some ((r1.1.1, (r1.1.2.set 0 r3.1)), r3.2))
   (none))
  (cond (r2.1 == 1)
   ((spec_l1Cur_among k (r2.2, [(-1), 0, (r1.1.1.length : Int)])).bind fun r4 =>
    cond (inB 0 r1.1.1.length)
    (some (((List.set r1.1.1 0 ([r4.1])), r1.1.2), r4.2))
    (none))
   (cond (r2.1 == 2)
    (cond (fits (r1.1.1.length + 1) 24)
     (some (((r1.1.1 ++ [[]]), r1.1.2), r2.2))
     (none))
    (cond (r2.1 == 3)
     (some (([], []), r2.2))
     (some (r1.1, r2.2))))) := by kernel_rfl
theorem spec_l1Cur_sureRoute.eq (k : Nat) (c_code : List Int) (c_at : Int) (c_seed : Int) : spec_l1Cur_sureRoute (k + 1) (c_code, c_at, c_seed) =
  (spec_l1Cur_pick k ((c_code, c_at, c_seed), 5)).bind fun r1 =>
  (spec_l1Cur_pick k (r1.2, 4)).bind fun r2 =>
  cond (r2.1 == 0)
  ((spec_RingRoute k (w64 (1 + r1.1))).bind fun r3 =>
   some (r3.1, r2.2))
  (cond (r2.1 == 1)
   ((spec_LineRoute k (w64 ((w64 (1 + r1.1)) + 1))).bind fun r4 =>
    some (r4.1, r2.2))
   ((spec_l1Cur_sureRoute_l k (r2.2, ([], []), (w64 (1 + r1.1)), ([], []), 0, ())).bind fun r5 =>
    some r5.2)) := by kernel_rfl
theorem spec_l1Cur_pick.eq (k : Nat) (c_code : List Int) (c_at : Int) (c_seed : Int) (n : Int) : spec_l1Cur_pick (k + 1) ((c_code, c_at, c_seed), n) =
  cond (decide (n ≤ 1))
  (some (0, (c_code, c_at, c_seed)))
  ((spec_l1Cur_next k (c_code, c_at, c_seed)).bind fun r1 =>
   cond (decide (n > 200))
   ((spec_l1Cur_next k r1.2).bind fun r2 =>
    cond (n != 0)
    (some (((w64 ((w64 (r1.1 * 256)) + r2.1)).tmod n), r2.2))
    (none))
   (cond (n != 0)
    (some ((r1.1.tmod n), r1.2))
    (none))) := by kernel_rfl
theorem spec_l1Cur_next.eq (k : Nat) (c_code : List Int) (c_at : Int) (c_seed : Int) : spec_l1Cur_next (k + 1) (c_code, c_at, c_seed) =
  cond (decide (c_at < (c_code.length : Int)))
  (cond (inB c_at c_code.length)
   (cond (decide ((w64 (c_at + 1)) ≤ (c_code.length : Int)))
    (some ((w64 (c_code.getD c_at.toNat default)), (c_code, (w64 (c_at + 1)), (IntKind.u64.wrap ((IntKind.u64.wrap ((IntKind.u64.wrap (c_seed * 6364136223846793005)) + (IntKind.u64.wrap (w64 (c_code.getD c_at.toNat default))))) + 1442695040888963407)))))
    (some ((w64 (andI .u64 (shrI .u64 (IntKind.u64.wrap ((IntKind.u64.wrap ((IntKind.u64.wrap (c_seed * 6364136223846793005)) + (IntKind.u64.wrap (w64 (c_code.getD c_at.toNat default))))) + 1442695040888963407)) 40) 255)), (c_code, (w64 (c_at + 1)), (IntKind.u64.wrap ((IntKind.u64.wrap ((IntKind.u64.wrap (c_seed * 6364136223846793005)) + (IntKind.u64.wrap (w64 (c_code.getD c_at.toNat default))))) + 1442695040888963407))))))
   (none))
  (cond (decide ((w64 (c_at + 1)) ≤ (c_code.length : Int)))
   (some (0, (c_code, (w64 (c_at + 1)), (IntKind.u64.wrap ((IntKind.u64.wrap ((IntKind.u64.wrap (c_seed * 6364136223846793005)) + 0)) + 1442695040888963407)))))
   (some ((w64 (andI .u64 (shrI .u64 (IntKind.u64.wrap ((IntKind.u64.wrap ((IntKind.u64.wrap (c_seed * 6364136223846793005)) + 0)) + 1442695040888963407)) 40) 255)), (c_code, (w64 (c_at + 1)), (IntKind.u64.wrap ((IntKind.u64.wrap ((IntKind.u64.wrap (c_seed * 6364136223846793005)) + 0)) + 1442695040888963407)))))) := by kernel_rfl
theorem spec_RingRoute.eq (k : Nat) (nodes : Int) : spec_RingRoute (k + 1) nodes =
  (spec_l1In k (nodes, 1, 10)).bind fun r1 =>
  cond (!r1)
  (some (([], []), false))
  (cond (((decide ((0 : Int) ≤ nodes)) && (decide (nodes ≤ nodes))) && (fits nodes.toNat 8))
   ((spec_RingRoute_l k (nodes, ([], []), ([], (List.replicate nodes.toNat 0)), 0)).bind fun r2 =>
    some (r2.2, true))
   (none)) := by kernel_rfl
theorem spec_l1In.eq (k : Nat) (n : Int) (lo : Int) (hi : Int) : spec_l1In (k + 1) (n, lo, hi) =
  cond (decide (n ≥ lo))
  (some (decide (n ≤ hi)))
  (some false) := by kernel_rfl
theorem spec_RingRoute_l.eq (k : Nat) (nodes : Int) (t2_Out : List (List Int)) (t2_Rotor : List Int) (r_Out : List (List Int)) (r_Rotor : List Int) (i : Int) : spec_RingRoute_l (k + 1) (nodes, (t2_Out, t2_Rotor), (r_Out, r_Rotor), i) =
  cond (decide (i < nodes))
  (cond (nodes != 0)
   (cond (nodes != 0)
    (cond (fits (r_Out.length + 1) 24)
     (spec_RingRoute_l k (nodes, (t2_Out, t2_Rotor), ((r_Out ++ [[((w64 (i + 1)).tmod nodes), ((w64 ((w64 (i + nodes)) - 1)).tmod nodes)]]), r_Rotor), (w64 (i + 1))))
     (none))
    (none))
   (none))
  (some ((t2_Out, t2_Rotor), (r_Out, r_Rotor))) := by kernel_rfl
theorem spec_LineRoute.eq (k : Nat) (nodes : Int) : spec_LineRoute (k + 1) nodes =
  (spec_l1In k (nodes, 2, 10)).bind fun r1 =>
  cond (!r1)
  (some (([], []), false))
  (cond (((decide ((0 : Int) ≤ nodes)) && (decide (nodes ≤ nodes))) && (fits nodes.toNat 8))
   ((spec_LineRoute_l k (nodes, ([], []), ([], (List.replicate nodes.toNat 0)), 0)).bind fun r2 =>
    some (r2.2, true))
   (none)) := by kernel_rfl
theorem spec_LineRoute_l.eq (k : Nat) (nodes : Int) (t2_Out : List (List Int)) (t2_Rotor : List Int) (r_Out : List (List Int)) (r_Rotor : List Int) (i : Int) : spec_LineRoute_l (k + 1) (nodes, (t2_Out, t2_Rotor), (r_Out, r_Rotor), i) =
  cond (decide (i < nodes))
  (cond (i == 0)
   (cond (fits (r_Out.length + 1) 24)
    (spec_LineRoute_l k (nodes, (t2_Out, t2_Rotor), ((r_Out ++ [[1]]), r_Rotor), (w64 (i + 1))))
    (none))
   (cond (i == (w64 (nodes - 1)))
    (cond (fits (r_Out.length + 1) 24)
     (spec_LineRoute_l k (nodes, (t2_Out, t2_Rotor), ((r_Out ++ [[(w64 (i - 1))]]), r_Rotor), (w64 (i + 1))))
     (none))
    (cond (fits (r_Out.length + 1) 24)
     (spec_LineRoute_l k (nodes, (t2_Out, t2_Rotor), ((r_Out ++ [[(w64 (i - 1)), (w64 (i + 1))]]), r_Rotor), (w64 (i + 1))))
     (none))))
  (some ((t2_Out, t2_Rotor), (r_Out, r_Rotor))) := by kernel_rfl
theorem spec_l1Cur_sureRoute_l.eq (k : Nat) (c_code : List Int) (c_at : Int) (c_seed : Int) (t2_Out : List (List Int)) (t2_Rotor : List Int) (n : Int) (r_Out : List (List Int)) (r_Rotor : List Int) (i : Int) : spec_l1Cur_sureRoute_l (k + 1) ((c_code, c_at, c_seed), (t2_Out, t2_Rotor), n, (r_Out, r_Rotor), i, ()) =
  cond (decide (i < n))
  ((spec_l1Cur_pick k ((c_code, c_at, c_seed), 3)).bind fun r1 =>
   (spec_l1Cur_sureRoute_l_l k (r1.2, (t2_Out, t2_Rotor), n, (r_Out, r_Rotor), i, [], (w64 (1 + r1.1)), ())).bind fun r2 =>
   cond (fits (r2.2.2.2.1.1.length + 1) 24)
   ((spec_l1Cur_pick k (r2.1, (r2.2.2.2.2.2.1.length : Int))).bind fun r3 =>
    cond (fits (r2.2.2.2.1.2.length + 1) 8)
    (spec_l1Cur_sureRoute_l k (r3.2, r2.2.1, r2.2.2.1, ((r2.2.2.2.1.1 ++ [r2.2.2.2.2.2.1]), (r2.2.2.2.1.2 ++ [r3.1])), (w64 (r2.2.2.2.2.1 + 1)), ()))
    (none))
   (none))
  (some ((t2_Out, t2_Rotor), (r_Out, r_Rotor), (c_code, c_at, c_seed))) := by kernel_rfl
theorem spec_l1Cur_sureRoute_l_l.eq (k : Nat) (c_code : List Int) (c_at : Int) (c_seed : Int) (t2_Out : List (List Int)) (t2_Rotor : List Int) (n : Int) (r_Out : List (List Int)) (r_Rotor : List Int) (i : Int) (list : List Int) (k_ : Int) : spec_l1Cur_sureRoute_l_l (k + 1) ((c_code, c_at, c_seed), (t2_Out, t2_Rotor), n, (r_Out, r_Rotor), i, list, k_, ()) =
  cond (decide (k_ > 0))
  ((spec_l1Cur_pick k ((c_code, c_at, c_seed), n)).bind fun r1 =>
   cond (fits (list.length + 1) 8)
   (spec_l1Cur_sureRoute_l_l k (r1.2, (t2_Out, t2_Rotor), n, (r_Out, r_Rotor), i, (list ++ [r1.1]), (w64 (k_ - 1)), ()))
   (none))
  (some ((c_code, c_at, c_seed), (t2_Out, t2_Rotor), n, (r_Out, r_Rotor), i, list, ())) := by kernel_rfl
theorem spec_l1Cur_among.eq (k : Nat) (c_code : List Int) (c_at : Int) (c_seed : Int) (list : List Int) : spec_l1Cur_among (k + 1) ((c_code, c_at, c_seed), list) =
  (spec_l1Cur_pick k ((c_code, c_at, c_seed), (list.length : Int))).bind fun r1 =>
  cond (inB r1.1 list.length)
  (some ((list.getD r1.1.toNat default), r1.2))
  (none) := by kernel_rfl
theorem spec_l1Cur_walk.eq (k : Nat) (c_code : List Int) (c_at : Int) (c_seed : Int) : spec_l1Cur_walk (k + 1) (c_code, c_at, c_seed) =
  (spec_l1Cur_one k ((c_code, c_at, c_seed), 8)).bind fun r1 =>
  cond r1.1
  ((spec_l1Cur_among k (r1.2, [0, 1, 200, 201, 3000, 3001, (-1)])).bind fun r2 =>
   some r2)
  ((spec_l1Cur_pick k (r1.2, 50)).bind fun r3 =>
   some r3) := by kernel_rfl
theorem spec_l1Cur_one.eq (k : Nat) (c_code : List Int) (c_at : Int) (c_seed : Int) (n : Int) : spec_l1Cur_one (k + 1) ((c_code, c_at, c_seed), n) =
  (spec_l1Cur_pick k ((c_code, c_at, c_seed), n)).bind fun r1 =>
  some ((r1.1 == 0), r1.2) := by kernel_rfl
theorem impl_WalkAfter.eq (k : Nat) (r_Out : List (List Int)) (r_Rotor : List Int) (at_ : Int) (steps : Int) : impl_WalkAfter (k + 1) ((r_Out, r_Rotor), at_, steps) =
  (impl_isWalk k ((r_Out, r_Rotor), at_, steps)).bind fun r1 =>
  cond (!r1)
  (some (([], []), 0, false))
  ((impl_Route_own k (r_Out, r_Rotor)).bind fun r2 =>
   (impl_WalkAfter_l k (at_, ([], []), r2, steps, 0)).bind fun r3 =>
   some (r3.2.2, r3.1, true)) := by kernel_rfl
theorem impl_isWalk.eq (k : Nat) (r_Out : List (List Int)) (r_Rotor : List Int) (at_ : Int) (steps : Int) : impl_isWalk (k + 1) ((r_Out, r_Rotor), at_, steps) =
  (impl_isNode k ((r_Out, r_Rotor), [at_])).bind fun r1 =>
  cond r1
  ((impl_within k (steps, 0, 3000)).bind fun r2 =>
   some r2)
  (some false) := by kernel_rfl
theorem impl_isNode.eq (k : Nat) (r_Out : List (List Int)) (r_Rotor : List Int) (nodes : List Int) : impl_isNode (k + 1) ((r_Out, r_Rotor), nodes) =
  (impl_IsRoute k (r_Out, r_Rotor)).bind fun r1 =>
  cond r1
  ((impl_areWithin k (nodes, 0, (w64 ((r_Out.length : Int) - 1)))).bind fun r2 =>
   some r2)
  (some false) := by kernel_rfl
theorem impl_IsRoute.eq (k : Nat) (r_Out : List (List Int)) (r_Rotor : List Int) : impl_IsRoute (k + 1) (r_Out, r_Rotor) =
  (impl_isNodes k (r_Out.length : Int)).bind fun r1 =>
  cond (!r1)
  (some false)
  (cond ((r_Rotor.length : Int) != (r_Out.length : Int))
   (some false)
   ((impl_IsRoute_l k ((r_Out, r_Rotor), (), (r_Out.length : Int), 0)).bind fun r2 =>
    r2.elim
    (fun r3 => some r3)
    (fun r4 => some true))) := by kernel_rfl
theorem impl_isNodes.eq (k : Nat) (n : Int) : impl_isNodes (k + 1) n =
  (impl_within k (n, 1, 10)).bind fun r1 =>
  some r1 := by kernel_rfl
theorem impl_within.eq (k : Nat) (n : Int) (low : Int) (high : Int) : impl_within (k + 1) (n, low, high) =
  cond (decide (low ≤ n))
  (some (decide (n ≤ high)))
  (some false) := by kernel_rfl
theorem impl_IsRoute_l.eq (k : Nat) (r_Out : List (List Int)) (r_Rotor : List Int) (t21 : Int) (t22 : Int) : impl_IsRoute_l (k + 1) ((r_Out, r_Rotor), (), t21, t22) =
  cond (decide (t22 < t21))
  (cond (inB t22 r_Out.length)
   ((impl_within k (((List.getD r_Out t22.toNat []).length : Int), 1, 4)).bind fun r1 =>
    cond (!r1)
    (some (.inl false))
    ((impl_areWithin k ((List.getD r_Out t22.toNat []), 0, (w64 ((r_Out.length : Int) - 1)))).bind fun r2 =>
     cond (!r2)
     (some (.inl false))
     (cond (inB t22 r_Rotor.length)
      ((impl_within k ((r_Rotor.getD t22.toNat default), 0, (w64 (((List.getD r_Out t22.toNat []).length : Int) - 1)))).bind fun r3 =>
       cond (!r3)
       (some (.inl false))
       (impl_IsRoute_l k ((r_Out, r_Rotor), (), t21, (w64 (t22 + 1)))))
      (none))))
   (none))
  (some (.inr ())) := by kernel_rfl
theorem impl_areWithin.eq (k : Nat) (list : List Int) (low : Int) (high : Int) : impl_areWithin (k + 1) (list, low, high) =
  (slices_ContainsFunc k (list, (low, high))).bind fun r1 =>
  some (!r1) := by kernel_rfl
theorem slices_ContainsFunc.eq (k : Nat) (s : List Int) (f_0 : Int) (f_1 : Int) : slices_ContainsFunc (k + 1) (s, (f_0, f_1)) =
  (slices_IndexFunc k (s, (f_0, f_1))).bind fun r1 =>
  some (decide (r1 ≥ 0)) := by kernel_rfl
theorem slices_IndexFunc.eq (k : Nat) (s : List Int) (f_0 : Int) (f_1 : Int) : slices_IndexFunc (k + 1) (s, (f_0, f_1)) =
  (slices_IndexFunc_l k (s, (f_0, f_1), (s.length : Int), 0)).bind fun r1 =>
  r1.elim
  (fun r2 => some r2)
  (fun r3 => some (-1)) := by kernel_rfl
theorem slices_IndexFunc_l.eq (k : Nat) (s : List Int) (f_0 : Int) (f_1 : Int) (t7 : Int) (t8 : Int) : slices_IndexFunc_l (k + 1) (s, (f_0, f_1), t7, t8) =
  cond (decide (t8 < t7))
  (cond (inB t8 s.length)
   ((impl_areWithin_1 k ((s.getD t8.toNat default), f_0, f_1)).bind fun r1 =>
    cond r1
    (some (.inl t8))
    (slices_IndexFunc_l k (s, (f_0, f_1), t7, (w64 (t8 + 1)))))
   (none))
  (some (.inr ())) := by kernel_rfl
theorem impl_areWithin_1.eq (k : Nat) (n : Int) (t1_0 : Int) (t2_0 : Int) : impl_areWithin_1 (k + 1) (n, t1_0, t2_0) =
  (impl_within k (n, t1_0, t2_0)).bind fun r1 =>
  some (!r1) := by kernel_rfl
theorem impl_Route_own.eq (k : Nat) (r_Out : List (List Int)) (r_Rotor : List Int) : impl_Route_own (k + 1) (r_Out, r_Rotor) =
  (slices_Clone k r_Rotor).bind fun r1 =>
  (impl_Route_own_l k (([], []), ([], r1), r_Out, (r_Out.length : Int), 0)).bind fun r2 =>
  some r2.2 := by kernel_rfl
theorem slices_Clone.eq (k : Nat) (d : List Int) : slices_Clone (k + 1) d = (fun d => cloneB (s := (.int .i64)) 8 d) d := by kernel_rfl
theorem impl_Route_own_l.eq (k : Nat) (t2_Out : List (List Int)) (t2_Rotor : List Int) (out_Out : List (List Int)) (out_Rotor : List Int) (t11 : List (List Int)) (t12 : Int) (t13 : Int) : impl_Route_own_l (k + 1) ((t2_Out, t2_Rotor), (out_Out, out_Rotor), t11, t12, t13) =
  cond (decide (t13 < t12))
  (cond (inB t13 t11.length)
   ((slices_Clone k (List.getD t11 t13.toNat [])).bind fun r1 =>
    cond (fits (out_Out.length + 1) 24)
    (impl_Route_own_l k ((t2_Out, t2_Rotor), ((out_Out ++ [r1]), out_Rotor), t11, t12, (w64 (t13 + 1))))
    (none))
   (none))
  (some ((t2_Out, t2_Rotor), (out_Out, out_Rotor))) := by kernel_rfl
theorem impl_WalkAfter_l.eq (k : Nat) (at_ : Int) (t6_Out : List (List Int)) (t6_Rotor : List Int) (out_Out : List (List Int)) (out_Rotor : List Int) (t18 : Int) (t19 : Int) : impl_WalkAfter_l (k + 1) (at_, (t6_Out, t6_Rotor), (out_Out, out_Rotor), t18, t19) =
  cond (decide (t19 < t18))
  ((impl_Route_step k ((out_Out, out_Rotor), at_)).bind fun r1 =>
   impl_WalkAfter_l k (r1.1, (t6_Out, t6_Rotor), (out_Out, r1.2.2), t18, (w64 (t19 + 1))))
  (some (at_, (t6_Out, t6_Rotor), (out_Out, out_Rotor))) := by kernel_rfl
theorem impl_Route_step.eq (k : Nat) (r_Out : List (List Int)) (r_Rotor : List Int) (at_ : Int) : impl_Route_step (k + 1) ((r_Out, r_Rotor), at_) =
  cond (inB at_ r_Out.length)
  (cond (inB at_ r_Rotor.length)
   (cond (inB (r_Rotor.getD at_.toNat default) ((List.getD r_Out at_.toNat []).length))
    ((impl_Route_turn k ((r_Out, r_Rotor), at_)).bind fun r1 =>
     some (((List.getD r_Out at_.toNat []).getD ((r_Rotor.getD at_.toNat default).toNat) default), (r_Out, r1.2.2)))
    (none))
   (none))
  (none) := by kernel_rfl
theorem impl_Route_turn.eq (k : Nat) (r_Out : List (List Int)) (r_Rotor : List Int) (node : Int) : impl_Route_turn (k + 1) ((r_Out, r_Rotor), node) =
  cond (inB node r_Rotor.length)
  (cond (inB node r_Out.length)
   (cond (((List.getD r_Out node.toNat []).length : Int) != 0)
    (cond (inB node r_Rotor.length)
     (some ((), (r_Out, (r_Rotor.set node.toNat ((w64 ((r_Rotor.getD node.toNat default) + 1)).tmod ((List.getD r_Out node.toNat []).length : Int))))))
     (none))
    (none))
   (none))
  (none) := by kernel_rfl
theorem spec_WalkAfter.eq (k : Nat) (r_Out : List (List Int)) (r_Rotor : List Int) (at_ : Int) (steps : Int) : spec_WalkAfter (k + 1) ((r_Out, r_Rotor), at_, steps) =
  (spec_roWalk k ((r_Out, r_Rotor), at_, steps)).bind fun r1 =>
  cond (!r1)
  (some (([], []), 0, false))
  ((spec_roOwn k (r_Out, r_Rotor)).bind fun r2 =>
   (spec_WalkAfter_l k (at_, steps, ([], []), r2)).bind fun r3 =>
   some (r3.2.2, r3.1, true)) := by kernel_rfl
theorem spec_roWalk.eq (k : Nat) (r_Out : List (List Int)) (r_Rotor : List Int) (at_ : Int) (steps : Int) : spec_roWalk (k + 1) ((r_Out, r_Rotor), at_, steps) =
  (spec_roNode k ((r_Out, r_Rotor), at_)).bind fun r1 =>
  cond r1
  ((spec_l1In k (steps, 0, 3000)).bind fun r2 =>
   some r2)
  (some false) := by kernel_rfl
theorem spec_roNode.eq (k : Nat) (r_Out : List (List Int)) (r_Rotor : List Int) (at_ : Int) : spec_roNode (k + 1) ((r_Out, r_Rotor), at_) =
  (spec_roGood k (r_Out, r_Rotor)).bind fun r1 =>
  cond r1
  ((spec_l1In k (at_, 0, (w64 ((r_Out.length : Int) - 1)))).bind fun r2 =>
   some r2)
  (some false) := by kernel_rfl
theorem spec_roGood.eq (k : Nat) (r_Out : List (List Int)) (r_Rotor : List Int) : spec_roGood (k + 1) (r_Out, r_Rotor) =
  (spec_l1In k ((r_Out.length : Int), 1, 10)).bind fun r1 =>
  cond (!r1)
  (some false)
  (cond ((r_Rotor.length : Int) != (r_Out.length : Int))
   (some false)
   ((spec_roGood_l k ((r_Out, r_Rotor), (r_Out.length : Int), (), (r_Out.length : Int), 0)).bind fun r2 =>
    r2.elim
    (fun r3 => some r3)
    (fun r4 => some true))) := by kernel_rfl
theorem spec_roGood_l.eq (k : Nat) (r_Out : List (List Int)) (r_Rotor : List Int) (n : Int) (t21 : Int) (t22 : Int) : spec_roGood_l (k + 1) ((r_Out, r_Rotor), n, (), t21, t22) =
  cond (decide (t22 < t21))
  (cond (inB t22 r_Out.length)
   ((spec_l1In k (((List.getD r_Out t22.toNat []).length : Int), 1, 4)).bind fun r1 =>
    cond (!r1)
    (some (.inl false))
    ((spec_l1All k ((List.getD r_Out t22.toNat []), 0, (w64 (n - 1)))).bind fun r2 =>
     cond (!r2)
     (some (.inl false))
     (cond (inB t22 r_Rotor.length)
      ((spec_l1In k ((r_Rotor.getD t22.toNat default), 0, (w64 (((List.getD r_Out t22.toNat []).length : Int) - 1)))).bind fun r3 =>
       cond (!r3)
       (some (.inl false))
       (spec_roGood_l k ((r_Out, r_Rotor), n, (), t21, (w64 (t22 + 1)))))
      (none))))
   (none))
  (some (.inr ())) := by kernel_rfl
theorem spec_l1All.eq (k : Nat) (l : List Int) (lo : Int) (hi : Int) : spec_l1All (k + 1) (l, lo, hi) =
  (spec_l1All_l k (lo, hi, l, (l.length : Int), 0)).bind fun r1 =>
  r1.elim
  (fun r2 => some r2)
  (fun r3 => some true) := by kernel_rfl
theorem spec_l1All_l.eq (k : Nat) (lo : Int) (hi : Int) (t9 : List Int) (t10 : Int) (t11 : Int) : spec_l1All_l (k + 1) (lo, hi, t9, t10, t11) =
  cond (decide (t11 < t10))
  (cond (inB t11 t9.length)
   ((spec_l1In k ((t9.getD t11.toNat default), lo, hi)).bind fun r1 =>
    cond (!r1)
    (some (.inl false))
    (spec_l1All_l k (lo, hi, t9, t10, (w64 (t11 + 1)))))
   (none))
  (some (.inr ())) := by kernel_rfl
theorem spec_roOwn.eq (k : Nat) (r_Out : List (List Int)) (r_Rotor : List Int) : spec_roOwn (k + 1) (r_Out, r_Rotor) =
  (spec_l1Own k r_Rotor).bind fun r1 =>
  (spec_roOwn_l k (([], []), ([], r1), r_Out, (r_Out.length : Int), 0)).bind fun r2 =>
  some r2.2 := by kernel_rfl
theorem spec_l1Own.eq (k : Nat) (l : List Int) : spec_l1Own (k + 1) l =
  cond (fits (0 + l.length) 8)
  (some ([] ++ l))
  (none) := by kernel_rfl
theorem spec_roOwn_l.eq (k : Nat) (t2_Out : List (List Int)) (t2_Rotor : List Int) (out_Out : List (List Int)) (out_Rotor : List Int) (t11 : List (List Int)) (t12 : Int) (t13 : Int) : spec_roOwn_l (k + 1) ((t2_Out, t2_Rotor), (out_Out, out_Rotor), t11, t12, t13) =
  cond (decide (t13 < t12))
  (cond (inB t13 t11.length)
   ((spec_l1Own k (List.getD t11 t13.toNat [])).bind fun r1 =>
    cond (fits (out_Out.length + 1) 24)
    (spec_roOwn_l k ((t2_Out, t2_Rotor), ((out_Out ++ [r1]), out_Rotor), t11, t12, (w64 (t13 + 1))))
    (none))
   (none))
  (some ((t2_Out, t2_Rotor), (out_Out, out_Rotor))) := by kernel_rfl
theorem spec_WalkAfter_l.eq (k : Nat) (at_ : Int) (steps : Int) (t6_Out : List (List Int)) (t6_Rotor : List Int) (out_Out : List (List Int)) (out_Rotor : List Int) : spec_WalkAfter_l (k + 1) (at_, steps, (t6_Out, t6_Rotor), (out_Out, out_Rotor)) =
  cond (decide (steps > 0))
  ((spec_roStep k ((out_Out, out_Rotor), at_)).bind fun r1 =>
   spec_WalkAfter_l k (r1.1, (w64 (steps - 1)), (t6_Out, t6_Rotor), (out_Out, r1.2.2)))
  (some (at_, (t6_Out, t6_Rotor), (out_Out, out_Rotor))) := by kernel_rfl
theorem spec_roStep.eq (k : Nat) (r_Out : List (List Int)) (r_Rotor : List Int) (at_ : Int) : spec_roStep (k + 1) ((r_Out, r_Rotor), at_) =
  cond (inB at_ r_Rotor.length)
  (cond (inB at_ r_Out.length)
   (cond (((List.getD r_Out at_.toNat []).length : Int) != 0)
    (cond (inB at_ r_Rotor.length)
     (cond (inB at_ r_Out.length)
      (cond (inB (r_Rotor.getD at_.toNat default) ((List.getD r_Out at_.toNat []).length))
       (some (((List.getD r_Out at_.toNat []).getD ((r_Rotor.getD at_.toNat default).toNat) default), (r_Out, (r_Rotor.set at_.toNat ((w64 ((r_Rotor.getD at_.toNat default) + 1)).tmod ((List.getD r_Out at_.toNat []).length : Int))))))
       (none))
      (none))
     (none))
    (none))
   (none))
  (none) := by kernel_rfl
theorem impl_VisitsOfWalk.eq (k : Nat) (r_Out : List (List Int)) (r_Rotor : List Int) (at_ : Int) (steps : Int) : impl_VisitsOfWalk (k + 1) ((r_Out, r_Rotor), at_, steps) =
  (impl_isWalk k ((r_Out, r_Rotor), at_, steps)).bind fun r1 =>
  cond (!r1)
  (some ([], false))
  (cond (((decide ((0 : Int) ≤ (r_Out.length : Int))) && (decide ((r_Out.length : Int) ≤ (r_Out.length : Int)))) && (fits (r_Out.length : Int).toNat 8))
   ((impl_Route_visited k ((r_Out, r_Rotor), at_, steps)).bind fun r2 =>
    (impl_VisitsOfWalk_l k ((List.replicate (r_Out.length : Int).toNat 0), r2, (r2.length : Int), 0)).bind fun r3 =>
    some (r3, true))
   (none)) := by kernel_rfl
theorem impl_Route_visited.eq (k : Nat) (r_Out : List (List Int)) (r_Rotor : List Int) (at_ : Int) (steps : Int) : impl_Route_visited (k + 1) ((r_Out, r_Rotor), at_, steps) =
  (impl_Route_own k (r_Out, r_Rotor)).bind fun r1 =>
  (impl_Route_visited_l k (at_, r1, [], steps, 0)).bind fun r2 =>
  some r2 := by kernel_rfl
theorem impl_Route_visited_l.eq (k : Nat) (at_ : Int) (own_Out : List (List Int)) (own_Rotor : List Int) (out : List Int) (t12 : Int) (t13 : Int) : impl_Route_visited_l (k + 1) (at_, (own_Out, own_Rotor), out, t12, t13) =
  cond (decide (t13 < t12))
  ((impl_Route_step k ((own_Out, own_Rotor), at_)).bind fun r1 =>
   cond (fits (out.length + 1) 8)
   (impl_Route_visited_l k (r1.1, (own_Out, r1.2.2), (out ++ [r1.1]), t12, (w64 (t13 + 1))))
   (none))
  (some out) := by kernel_rfl
theorem impl_VisitsOfWalk_l.eq (k : Nat) (out : List Int) (t23 : List Int) (t24 : Int) (t25 : Int) : impl_VisitsOfWalk_l (k + 1) (out, t23, t24, t25) =
  cond (decide (t25 < t24))
  (cond (inB t25 t23.length)
   (cond (inB (t23.getD t25.toNat default) out.length)
    (cond (inB (t23.getD t25.toNat default) out.length)
     (impl_VisitsOfWalk_l k ((out.set ((t23.getD t25.toNat default).toNat) (w64 ((out.getD ((t23.getD t25.toNat default).toNat) default) + 1))), t23, t24, (w64 (t25 + 1))))
     (none))
    (none))
   (none))
  (some out) := by kernel_rfl
theorem spec_VisitsOfWalk.eq (k : Nat) (r_Out : List (List Int)) (r_Rotor : List Int) (at_ : Int) (steps : Int) : spec_VisitsOfWalk (k + 1) ((r_Out, r_Rotor), at_, steps) =
  (spec_roWalk k ((r_Out, r_Rotor), at_, steps)).bind fun r1 =>
  cond (!r1)
  (some ([], false))
  (cond (((decide ((0 : Int) ≤ (r_Out.length : Int))) && (decide ((r_Out.length : Int) ≤ (r_Out.length : Int)))) && (fits (r_Out.length : Int).toNat 8))
   ((spec_roTrack k ((r_Out, r_Rotor), at_, steps)).bind fun r2 =>
    (spec_VisitsOfWalk_l k ((List.replicate (r_Out.length : Int).toNat 0), r2, (r2.length : Int), 0)).bind fun r3 =>
    some (r3, true))
   (none)) := by kernel_rfl
theorem spec_roTrack.eq (k : Nat) (r_Out : List (List Int)) (r_Rotor : List Int) (at_ : Int) (steps : Int) : spec_roTrack (k + 1) ((r_Out, r_Rotor), at_, steps) =
  (spec_roOwn k (r_Out, r_Rotor)).bind fun r1 =>
  (spec_roTrack_l k (at_, steps, r1, [])).bind fun r2 =>
  some r2 := by kernel_rfl
theorem spec_roTrack_l.eq (k : Nat) (at_ : Int) (steps : Int) (own_Out : List (List Int)) (own_Rotor : List Int) (out : List Int) : spec_roTrack_l (k + 1) (at_, steps, (own_Out, own_Rotor), out) =
  cond (decide (steps > 0))
  ((spec_roStep k ((own_Out, own_Rotor), at_)).bind fun r1 =>
   cond (fits (out.length + 1) 8)
   (spec_roTrack_l k (r1.1, (w64 (steps - 1)), (own_Out, r1.2.2), (out ++ [r1.1])))
   (none))
  (some out) := by kernel_rfl
theorem spec_VisitsOfWalk_l.eq (k : Nat) (out : List Int) (t23 : List Int) (t24 : Int) (t25 : Int) : spec_VisitsOfWalk_l (k + 1) (out, t23, t24, t25) =
  cond (decide (t25 < t24))
  (cond (inB t25 t23.length)
   (cond (inB (t23.getD t25.toNat default) out.length)
    (cond (inB (t23.getD t25.toNat default) out.length)
     (spec_VisitsOfWalk_l k ((out.set ((t23.getD t25.toNat default).toNat) (w64 ((out.getD ((t23.getD t25.toNat default).toNat) default) + 1))), t23, t24, (w64 (t25 + 1))))
     (none))
    (none))
   (none))
  (some out) := by kernel_rfl
theorem impl_LinesUsed.eq (k : Nat) (r_Out : List (List Int)) (r_Rotor : List Int) (at_ : Int) (steps : Int) : impl_LinesUsed (k + 1) ((r_Out, r_Rotor), at_, steps) =
  (impl_isWalk k ((r_Out, r_Rotor), at_, steps)).bind fun r1 =>
  cond (!r1)
  (some ([], false))
  ((impl_Route_own k (r_Out, r_Rotor)).bind fun r2 =>
   (impl_LinesUsed_l k (at_, steps, r2, [], r_Out, (r_Out.length : Int), 0)).bind fun r3 =>
   (impl_LinesUsed_l_2 k (r3.1, r3.2.2.1, r3.2.2.2, r3.2.1, 0)).bind fun r4 =>
   some (r4, true)) := by kernel_rfl
theorem impl_LinesUsed_l.eq (k : Nat) (at_ : Int) (steps : Int) (own_Out : List (List Int)) (own_Rotor : List Int) (out : List (List Int)) (t21 : List (List Int)) (t22 : Int) (t23 : Int) : impl_LinesUsed_l (k + 1) (at_, steps, (own_Out, own_Rotor), out, t21, t22, t23) =
  cond (decide (t23 < t22))
  (cond (inB t23 t21.length)
   (cond (((decide ((0 : Int) ≤ ((List.getD t21 t23.toNat []).length : Int))) && (decide (((List.getD t21 t23.toNat []).length : Int) ≤ ((List.getD t21 t23.toNat []).length : Int)))) && (fits ((List.getD t21 t23.toNat []).length : Int).toNat 8))
    (cond (fits (out.length + 1) 24)
     (impl_LinesUsed_l k (at_, steps, (own_Out, own_Rotor), (out ++ [(List.replicate ((List.getD t21 t23.toNat []).length : Int).toNat 0)]), t21, t22, (w64 (t23 + 1))))
     (none))
    (none))
   (none))
  (some (at_, steps, (own_Out, own_Rotor), out)) := by kernel_rfl
theorem impl_LinesUsed_l_2.eq (k : Nat) (at_ : Int) (own_Out : List (List Int)) (own_Rotor : List Int) (out : List (List Int)) (t34 : Int) (t35 : Int) : impl_LinesUsed_l_2 (k + 1) (at_, (own_Out, own_Rotor), out, t34, t35) =
  cond (decide (t35 < t34))
  (cond (inB at_ out.length)
   (cond (decide (at_.toNat < out.length))
    (cond (inB at_ own_Rotor.length)
     (cond (inB (own_Rotor.getD at_.toNat default) ((List.getD out at_.toNat []).length))
      (cond (inB (own_Rotor.getD at_.toNat default) ((List.getD out at_.toNat []).length))
       ((impl_Route_step k ((own_Out, own_Rotor), at_)).bind fun r1 =>
        impl_LinesUsed_l_2 k (r1.1, (own_Out, r1.2.2), (List.set out at_.toNat ((List.getD out at_.toNat []).set ((own_Rotor.getD at_.toNat default).toNat) (w64 (((List.getD out at_.toNat []).getD ((own_Rotor.getD at_.toNat default).toNat) default) + 1)))), t34, (w64 (t35 + 1))))
       (none))
      (none))
     (none))
    (none))
   (none))
  (some out) := by kernel_rfl
theorem spec_LinesUsed.eq (k : Nat) (r_Out : List (List Int)) (r_Rotor : List Int) (at_ : Int) (steps : Int) : spec_LinesUsed (k + 1) ((r_Out, r_Rotor), at_, steps) =
  (spec_roWalk k ((r_Out, r_Rotor), at_, steps)).bind fun r1 =>
  cond (!r1)
  (some ([], false))
  ((spec_roOwn k (r_Out, r_Rotor)).bind fun r2 =>
   (spec_LinesUsed_l k (at_, steps, r2, [], (), (r2.1.length : Int), 0)).bind fun r3 =>
   (spec_LinesUsed_l_2 k r3).bind fun r4 =>
   some (r4, true)) := by kernel_rfl
theorem spec_LinesUsed_l.eq (k : Nat) (at_ : Int) (steps : Int) (own_Out : List (List Int)) (own_Rotor : List Int) (out : List (List Int)) (t21 : Int) (t22 : Int) : spec_LinesUsed_l (k + 1) (at_, steps, (own_Out, own_Rotor), out, (), t21, t22) =
  cond (decide (t22 < t21))
  (cond (inB t22 own_Out.length)
   (cond (((decide ((0 : Int) ≤ ((List.getD own_Out t22.toNat []).length : Int))) && (decide (((List.getD own_Out t22.toNat []).length : Int) ≤ ((List.getD own_Out t22.toNat []).length : Int)))) && (fits ((List.getD own_Out t22.toNat []).length : Int).toNat 8))
    (cond (fits (out.length + 1) 24)
     (spec_LinesUsed_l k (at_, steps, (own_Out, own_Rotor), (out ++ [(List.replicate ((List.getD own_Out t22.toNat []).length : Int).toNat 0)]), (), t21, (w64 (t22 + 1))))
     (none))
    (none))
   (none))
  (some (at_, steps, (own_Out, own_Rotor), out)) := by kernel_rfl
theorem spec_LinesUsed_l_2.eq (k : Nat) (at_ : Int) (steps : Int) (own_Out : List (List Int)) (own_Rotor : List Int) (out : List (List Int)) : spec_LinesUsed_l_2 (k + 1) (at_, steps, (own_Out, own_Rotor), out) =
  cond (decide (steps > 0))
  (cond (inB at_ out.length)
   (cond (decide (at_.toNat < out.length))
    (cond (inB at_ own_Rotor.length)
     (cond (inB (own_Rotor.getD at_.toNat default) ((List.getD out at_.toNat []).length))
      (cond (inB (own_Rotor.getD at_.toNat default) ((List.getD out at_.toNat []).length))
       ((spec_roStep k ((own_Out, own_Rotor), at_)).bind fun r1 =>
        spec_LinesUsed_l_2 k (r1.1, (w64 (steps - 1)), (own_Out, r1.2.2), (List.set out at_.toNat ((List.getD out at_.toNat []).set ((own_Rotor.getD at_.toNat default).toNat) (w64 (((List.getD out at_.toNat []).getD ((own_Rotor.getD at_.toNat default).toNat) default) + 1))))))
       (none))
      (none))
     (none))
    (none))
   (none))
  (some out) := by kernel_rfl
theorem impl_TrackOfWalk.eq (k : Nat) (r_Out : List (List Int)) (r_Rotor : List Int) (at_ : Int) (steps : Int) : impl_TrackOfWalk (k + 1) ((r_Out, r_Rotor), at_, steps) =
  (impl_isWalk k ((r_Out, r_Rotor), at_, steps)).bind fun r1 =>
  cond (!r1)
  (some ([], false))
  (cond (decide (steps > 200))
   (some ([], false))
   ((impl_Route_visited k ((r_Out, r_Rotor), at_, steps)).bind fun r2 =>
    some (r2, true))) := by kernel_rfl
theorem spec_TrackOfWalk.eq (k : Nat) (r_Out : List (List Int)) (r_Rotor : List Int) (at_ : Int) (steps : Int) : spec_TrackOfWalk (k + 1) ((r_Out, r_Rotor), at_, steps) =
  (spec_roWalk k ((r_Out, r_Rotor), at_, steps)).bind fun r1 =>
  cond (!r1)
  (some ([], false))
  (cond (decide (steps > 200))
   (some ([], false))
   ((spec_roTrack k ((r_Out, r_Rotor), at_, steps)).bind fun r2 =>
    some (r2, true))) := by kernel_rfl
theorem laws_FnRotorsShare_c.eq (k : Nat) (more : List Int) (r_Out : List (List Int)) (r_Rotor : List Int) (at_ : Int) (steps : Int) (after_Out : List (List Int)) (after_Rotor : List Int) (to : Int) (ok : Bool) (right_Out : List (List Int)) (right_Rotor : List Int) (want : Int) (fine : Bool) (visits : List Int) (one : Bool) (model : List Int) (two : Bool) (lines : List (List Int)) (three : Bool) (value : List (List Int)) (four : Bool) (track : List Int) (five : Bool) (due : List Int) (six : Bool) : laws_FnRotorsShare_c (k + 1) (more, (r_Out, r_Rotor), at_, steps, (after_Out, after_Rotor), to, ok, (right_Out, right_Rotor), want, fine, visits, one, model, two, lines, three, value, four, track, five, due, six) =
  cond (!(ok == fine))
  (some false)
  (cond (to != want)
   (some false)
   ((laws_kRoute k ((after_Out, after_Rotor), (right_Out, right_Rotor))).bind fun r1 =>
    cond (!r1)
    (some false)
    (cond (!(one == two))
     (some false)
     ((laws_kSame k (visits, model)).bind fun r2 =>
      cond (!r2)
      (some false)
      (cond (!(three == four))
       (some false)
       ((laws_kRows k (lines, value)).bind fun r3 =>
        cond (!r3)
        (some false)
        (cond (!(five == six))
         (some false)
         ((laws_kSame k (track, due)).bind fun r4 =>
          cond (!r4)
          (some false)
          (cond (!(one == ok))
           (some false)
           (cond (!(three == ok))
            (some false)
            (cond five
             (cond (!ok)
              (some false)
              ((impl_IsRoute k (r_Out, r_Rotor)).bind fun r5 =>
               (spec_IsRoute k (r_Out, r_Rotor)).bind fun r6 =>
               cond (!(r5 == r6))
               (some false)
               (cond ok
                ((impl_IsRoute k (r_Out, r_Rotor)).bind fun r7 =>
                 cond (!r7)
                 (some false)
                 ((laws_FnRotorsShare_c_c k (more, (r_Out, r_Rotor), at_, steps, (after_Out, after_Rotor), to, ok, visits, lines, track, five)).bind fun r8 =>
                  some r8))
                ((laws_FnRotorsShare_c_c k (more, (r_Out, r_Rotor), at_, steps, (after_Out, after_Rotor), to, ok, visits, lines, track, five)).bind fun r9 =>
                 some r9))))
             ((impl_IsRoute k (r_Out, r_Rotor)).bind fun r10 =>
              (spec_IsRoute k (r_Out, r_Rotor)).bind fun r11 =>
              cond (!(r10 == r11))
              (some false)
              (cond ok
               ((impl_IsRoute k (r_Out, r_Rotor)).bind fun r12 =>
                cond (!r12)
                (some false)
                ((laws_FnRotorsShare_c_c k (more, (r_Out, r_Rotor), at_, steps, (after_Out, after_Rotor), to, ok, visits, lines, track, five)).bind fun r13 =>
                 some r13))
               ((laws_FnRotorsShare_c_c k (more, (r_Out, r_Rotor), at_, steps, (after_Out, after_Rotor), to, ok, visits, lines, track, five)).bind fun r14 =>
                some r14)))))))))))))) := by kernel_rfl
theorem laws_kRoute.eq (k : Nat) (a_Out : List (List Int)) (a_Rotor : List Int) (b_Out : List (List Int)) (b_Rotor : List Int) : laws_kRoute (k + 1) ((a_Out, a_Rotor), (b_Out, b_Rotor)) =
  (laws_kRows k (a_Out, b_Out)).bind fun r1 =>
  cond r1
  ((laws_kSame k (a_Rotor, b_Rotor)).bind fun r2 =>
   some r2)
  (some false) := by kernel_rfl
theorem laws_kRows.eq (k : Nat) (a : List (List Int)) (b : List (List Int)) : laws_kRows (k + 1) (a, b) =
  cond ((a.length : Int) != (b.length : Int))
  (some false)
  ((laws_kRows_l k (a, b, (a.length : Int), 0)).bind fun r1 =>
   r1.elim
   (fun r2 => some r2)
   (fun r3 => some true)) := by kernel_rfl
theorem laws_kRows_l.eq (k : Nat) (a : List (List Int)) (b : List (List Int)) (t12 : Int) (t13 : Int) : laws_kRows_l (k + 1) (a, b, t12, t13) =
  cond (decide (t13 < t12))
  (cond (inB t13 a.length)
   (cond (inB t13 b.length)
    ((laws_kSame k ((List.getD a t13.toNat []), (List.getD b t13.toNat []))).bind fun r1 =>
     cond (!r1)
     (some (.inl false))
     (laws_kRows_l k (a, b, t12, (w64 (t13 + 1)))))
    (none))
   (none))
  (some (.inr ())) := by kernel_rfl
theorem laws_kSame.eq (k : Nat) (a : List Int) (b : List Int) : laws_kSame (k + 1) (a, b) =
  cond ((a.length : Int) != (b.length : Int))
  (some false)
  ((laws_kSame_l k (a, b, (a.length : Int), 0)).bind fun r1 =>
   r1.elim
   (fun r2 => some r2)
   (fun r3 => some true)) := by kernel_rfl
theorem laws_kSame_l.eq (k : Nat) (a : List Int) (b : List Int) (t12 : Int) (t13 : Int) : laws_kSame_l (k + 1) (a, b, t12, t13) =
  cond (decide (t13 < t12))
  (cond (inB t13 a.length)
   (cond (inB t13 b.length)
    (cond ((a.getD t13.toNat default) != (b.getD t13.toNat default))
     (some (.inl false))
     (laws_kSame_l k (a, b, t12, (w64 (t13 + 1)))))
    (none))
   (none))
  (some (.inr ())) := by kernel_rfl
theorem spec_IsRoute.eq (k : Nat) (r_Out : List (List Int)) (r_Rotor : List Int) : spec_IsRoute (k + 1) (r_Out, r_Rotor) =
  (spec_roGood k (r_Out, r_Rotor)).bind fun r1 =>
  some r1 := by kernel_rfl
theorem laws_FnRotorsShare_c_c.eq (k : Nat) (more : List Int) (r_Out : List (List Int)) (r_Rotor : List Int) (at_ : Int) (steps : Int) (after_Out : List (List Int)) (after_Rotor : List Int) (to : Int) (ok : Bool) (visits : List Int) (lines : List (List Int)) (track : List Int) (five : Bool) : laws_FnRotorsShare_c_c (k + 1) (more, (r_Out, r_Rotor), at_, steps, (after_Out, after_Rotor), to, ok, visits, lines, track, five) =
  cond ok
  ((laws_FnRotorsShare_c_c_c k (more, (r_Out, r_Rotor), at_, steps, (after_Out, after_Rotor), to, visits, lines, track, five, (r_Out.length : Int))).bind fun r1 =>
   r1.elim
   (fun r2 => some r2)
   (fun r3 => (laws_FnRotorsShare_c_c_c_2 k r3).bind fun r4 =>
    some r4))
  ((laws_FnRotorsShare_c_c_c_2 k more).bind fun r5 =>
   some r5) := by kernel_rfl
theorem laws_FnRotorsShare_c_c_c.eq (k : Nat) (more : List Int) (r_Out : List (List Int)) (r_Rotor : List Int) (at_ : Int) (steps : Int) (after_Out : List (List Int)) (after_Rotor : List Int) (to : Int) (visits : List Int) (lines : List (List Int)) (track : List Int) (five : Bool) (n : Int) : laws_FnRotorsShare_c_c_c (k + 1) (more, (r_Out, r_Rotor), at_, steps, (after_Out, after_Rotor), to, visits, lines, track, five, n) =
  (impl_IsRoute k (after_Out, after_Rotor)).bind fun r1 =>
  cond (!r1)
  (some (.inl false))
  ((laws_kSum k visits).bind fun r2 =>
   cond (r2 != steps)
   (some (.inl false))
   (cond ((lines.length : Int) != n)
    (some (.inl false))
    (cond five
     (cond ((track.length : Int) != steps)
      (some (.inl false))
      (cond five
       (cond (decide (steps > 0))
        (cond (inB (w64 (steps - 1)) track.length)
         (cond ((track.getD ((w64 (steps - 1)).toNat) default) != to)
          (some (.inl false))
          ((laws_FnRotorsShare_c_c_c_c k (more, (r_Out, r_Rotor), at_, steps, (after_Out, after_Rotor), to, visits, lines, n)).bind fun r3 =>
           r3.elim
           (fun r4 => some (.inl r4))
           (fun r5 => some (.inr r5))))
         (none))
        ((laws_FnRotorsShare_c_c_c_c k (more, (r_Out, r_Rotor), at_, steps, (after_Out, after_Rotor), to, visits, lines, n)).bind fun r6 =>
         r6.elim
         (fun r7 => some (.inl r7))
         (fun r8 => some (.inr r8))))
       ((laws_FnRotorsShare_c_c_c_c k (more, (r_Out, r_Rotor), at_, steps, (after_Out, after_Rotor), to, visits, lines, n)).bind fun r9 =>
        r9.elim
        (fun r10 => some (.inl r10))
        (fun r11 => some (.inr r11)))))
     (cond five
      (cond (decide (steps > 0))
       (cond (inB (w64 (steps - 1)) track.length)
        (cond ((track.getD ((w64 (steps - 1)).toNat) default) != to)
         (some (.inl false))
         ((laws_FnRotorsShare_c_c_c_c k (more, (r_Out, r_Rotor), at_, steps, (after_Out, after_Rotor), to, visits, lines, n)).bind fun r12 =>
          r12.elim
          (fun r13 => some (.inl r13))
          (fun r14 => some (.inr r14))))
        (none))
       ((laws_FnRotorsShare_c_c_c_c k (more, (r_Out, r_Rotor), at_, steps, (after_Out, after_Rotor), to, visits, lines, n)).bind fun r15 =>
        r15.elim
        (fun r16 => some (.inl r16))
        (fun r17 => some (.inr r17))))
      ((laws_FnRotorsShare_c_c_c_c k (more, (r_Out, r_Rotor), at_, steps, (after_Out, after_Rotor), to, visits, lines, n)).bind fun r18 =>
       r18.elim
       (fun r19 => some (.inl r19))
       (fun r20 => some (.inr r20))))))) := by kernel_rfl
theorem laws_kSum.eq (k : Nat) (list : List Int) : laws_kSum (k + 1) list =
  (laws_kSum_l k (0, list, (list.length : Int), 0)).bind fun r1 =>
  some r1 := by kernel_rfl
theorem laws_kSum_l.eq (k : Nat) (sum : Int) (t6 : List Int) (t7 : Int) (t8 : Int) : laws_kSum_l (k + 1) (sum, t6, t7, t8) =
  cond (decide (t8 < t7))
  (cond (inB t8 t6.length)
   (laws_kSum_l k ((w64 (sum + (t6.getD t8.toNat default))), t6, t7, (w64 (t8 + 1))))
   (none))
  (some sum) := by kernel_rfl
theorem laws_FnRotorsShare_c_c_c_c.eq (k : Nat) (more : List Int) (r_Out : List (List Int)) (r_Rotor : List Int) (at_ : Int) (steps : Int) (after_Out : List (List Int)) (after_Rotor : List Int) (to : Int) (visits : List Int) (lines : List (List Int)) (n : Int) : laws_FnRotorsShare_c_c_c_c (k + 1) (more, (r_Out, r_Rotor), at_, steps, (after_Out, after_Rotor), to, visits, lines, n) =
  cond (((decide ((0 : Int) ≤ n)) && (decide (n ≤ n))) && (fits n.toNat 8))
  ((laws_FnRotorsShare_c_c_c_c_l k (more, (r_Out, r_Rotor), at_, steps, (after_Out, after_Rotor), to, visits, (List.replicate n.toNat 0), lines, (lines.length : Int), 0)).bind fun r1 =>
   r1.elim
   (fun r2 => some (.inl r2))
   (fun r3 => (laws_FnRotorsShare_c_c_c_c_c k r3).bind fun r4 =>
    r4.elim
    (fun r5 => some (.inl r5))
    (fun r6 => some (.inr r6))))
  (none) := by kernel_rfl
theorem laws_FnRotorsShare_c_c_c_c_l.eq (k : Nat) (more : List Int) (r_Out : List (List Int)) (r_Rotor : List Int) (at_ : Int) (steps : Int) (after_Out : List (List Int)) (after_Rotor : List Int) (to : Int) (visits : List Int) (came : List Int) (t267 : List (List Int)) (t268 : Int) (t269 : Int) : laws_FnRotorsShare_c_c_c_c_l (k + 1) (more, (r_Out, r_Rotor), at_, steps, (after_Out, after_Rotor), to, visits, came, t267, t268, t269) =
  cond (decide (t269 < t268))
  (cond (inB t269 t267.length)
   (cond (inB t269 r_Out.length)
    (cond (((List.getD t267 t269.toNat []).length : Int) != ((List.getD r_Out t269.toNat []).length : Int))
     (some (.inl false))
     ((laws_FnRotorsShare_c_c_c_c_l_l k (more, (r_Out, r_Rotor), at_, steps, (after_Out, after_Rotor), to, visits, came, t269, (List.getD t267 t269.toNat []), 0, t267, t268, t269, (), ((List.getD t267 t269.toNat []).length : Int), 0)).bind fun r1 =>
      r1.elim
      (fun r2 => some (.inl r2))
      (fun r3 => cond (r3.2.2.2.2.2.2.2.2.1 == r3.2.2.1)
       (cond (r3.2.2.2.2.2.2.2.2.1 == r3.2.2.2.2.2.1)
        (cond (inB r3.2.2.2.2.2.2.2.2.1 r3.2.2.2.2.2.2.1.length)
         (cond (r3.2.2.2.2.2.2.2.2.2.2.1 != (w64 ((w64 ((r3.2.2.2.2.2.2.1.getD r3.2.2.2.2.2.2.2.2.1.toNat default) + 1)) - 1)))
          ((laws_FnRotorsShare_c_c_c_c_l_c k (r3.1, r3.2.1, r3.2.2.1, r3.2.2.2.1, r3.2.2.2.2.1, r3.2.2.2.2.2.1, r3.2.2.2.2.2.2.1, r3.2.2.2.2.2.2.2.1, r3.2.2.2.2.2.2.2.2.2.2.2.1, r3.2.2.2.2.2.2.2.2.2.2.2.2.1, r3.2.2.2.2.2.2.2.2.2.2.2.2.2, true)).bind fun r4 =>
           r4.elim
           (fun r5 => some (.inl r5))
           (fun r6 => laws_FnRotorsShare_c_c_c_c_l k (r6.1, r6.2.1, r6.2.2.1, r6.2.2.2.1, r6.2.2.2.2.1, r6.2.2.2.2.2.1, r6.2.2.2.2.2.2.1, r6.2.2.2.2.2.2.2.1, r6.2.2.2.2.2.2.2.2.1, r6.2.2.2.2.2.2.2.2.2.1, (w64 (r6.2.2.2.2.2.2.2.2.2.2 + 1)))))
          (cond (inB r3.2.2.2.2.2.2.2.2.1 r3.2.2.2.2.1.2.length)
           (cond (inB r3.2.2.2.2.2.2.2.2.1 r3.2.1.2.length)
            (cond ((r3.2.2.2.2.2.2.2.2.2.1.length : Int) != 0)
             ((laws_FnRotorsShare_c_c_c_c_l_c k (r3.1, r3.2.1, r3.2.2.1, r3.2.2.2.1, r3.2.2.2.2.1, r3.2.2.2.2.2.1, r3.2.2.2.2.2.2.1, r3.2.2.2.2.2.2.2.1, r3.2.2.2.2.2.2.2.2.2.2.2.1, r3.2.2.2.2.2.2.2.2.2.2.2.2.1, r3.2.2.2.2.2.2.2.2.2.2.2.2.2, ((r3.2.2.2.2.1.2.getD r3.2.2.2.2.2.2.2.2.1.toNat default) != ((w64 ((r3.2.1.2.getD r3.2.2.2.2.2.2.2.2.1.toNat default) + r3.2.2.2.2.2.2.2.2.2.2.1)).tmod (r3.2.2.2.2.2.2.2.2.2.1.length : Int))))).bind fun r7 =>
              r7.elim
              (fun r8 => some (.inl r8))
              (fun r9 => laws_FnRotorsShare_c_c_c_c_l k (r9.1, r9.2.1, r9.2.2.1, r9.2.2.2.1, r9.2.2.2.2.1, r9.2.2.2.2.2.1, r9.2.2.2.2.2.2.1, r9.2.2.2.2.2.2.2.1, r9.2.2.2.2.2.2.2.2.1, r9.2.2.2.2.2.2.2.2.2.1, (w64 (r9.2.2.2.2.2.2.2.2.2.2 + 1)))))
             (none))
            (none))
           (none)))
         (none))
        (cond (inB r3.2.2.2.2.2.2.2.2.1 r3.2.2.2.2.2.2.1.length)
         (cond (r3.2.2.2.2.2.2.2.2.2.2.1 != (w64 ((w64 ((r3.2.2.2.2.2.2.1.getD r3.2.2.2.2.2.2.2.2.1.toNat default) + 1)) - 0)))
          ((laws_FnRotorsShare_c_c_c_c_l_c k (r3.1, r3.2.1, r3.2.2.1, r3.2.2.2.1, r3.2.2.2.2.1, r3.2.2.2.2.2.1, r3.2.2.2.2.2.2.1, r3.2.2.2.2.2.2.2.1, r3.2.2.2.2.2.2.2.2.2.2.2.1, r3.2.2.2.2.2.2.2.2.2.2.2.2.1, r3.2.2.2.2.2.2.2.2.2.2.2.2.2, true)).bind fun r10 =>
           r10.elim
           (fun r11 => some (.inl r11))
           (fun r12 => laws_FnRotorsShare_c_c_c_c_l k (r12.1, r12.2.1, r12.2.2.1, r12.2.2.2.1, r12.2.2.2.2.1, r12.2.2.2.2.2.1, r12.2.2.2.2.2.2.1, r12.2.2.2.2.2.2.2.1, r12.2.2.2.2.2.2.2.2.1, r12.2.2.2.2.2.2.2.2.2.1, (w64 (r12.2.2.2.2.2.2.2.2.2.2 + 1)))))
          (cond (inB r3.2.2.2.2.2.2.2.2.1 r3.2.2.2.2.1.2.length)
           (cond (inB r3.2.2.2.2.2.2.2.2.1 r3.2.1.2.length)
            (cond ((r3.2.2.2.2.2.2.2.2.2.1.length : Int) != 0)
             ((laws_FnRotorsShare_c_c_c_c_l_c k (r3.1, r3.2.1, r3.2.2.1, r3.2.2.2.1, r3.2.2.2.2.1, r3.2.2.2.2.2.1, r3.2.2.2.2.2.2.1, r3.2.2.2.2.2.2.2.1, r3.2.2.2.2.2.2.2.2.2.2.2.1, r3.2.2.2.2.2.2.2.2.2.2.2.2.1, r3.2.2.2.2.2.2.2.2.2.2.2.2.2, ((r3.2.2.2.2.1.2.getD r3.2.2.2.2.2.2.2.2.1.toNat default) != ((w64 ((r3.2.1.2.getD r3.2.2.2.2.2.2.2.2.1.toNat default) + r3.2.2.2.2.2.2.2.2.2.2.1)).tmod (r3.2.2.2.2.2.2.2.2.2.1.length : Int))))).bind fun r13 =>
              r13.elim
              (fun r14 => some (.inl r14))
              (fun r15 => laws_FnRotorsShare_c_c_c_c_l k (r15.1, r15.2.1, r15.2.2.1, r15.2.2.2.1, r15.2.2.2.2.1, r15.2.2.2.2.2.1, r15.2.2.2.2.2.2.1, r15.2.2.2.2.2.2.2.1, r15.2.2.2.2.2.2.2.2.1, r15.2.2.2.2.2.2.2.2.2.1, (w64 (r15.2.2.2.2.2.2.2.2.2.2 + 1)))))
             (none))
            (none))
           (none)))
         (none)))
       (cond (r3.2.2.2.2.2.2.2.2.1 == r3.2.2.2.2.2.1)
        (cond (inB r3.2.2.2.2.2.2.2.2.1 r3.2.2.2.2.2.2.1.length)
         (cond (r3.2.2.2.2.2.2.2.2.2.2.1 != (w64 ((w64 ((r3.2.2.2.2.2.2.1.getD r3.2.2.2.2.2.2.2.2.1.toNat default) + 0)) - 1)))
          ((laws_FnRotorsShare_c_c_c_c_l_c k (r3.1, r3.2.1, r3.2.2.1, r3.2.2.2.1, r3.2.2.2.2.1, r3.2.2.2.2.2.1, r3.2.2.2.2.2.2.1, r3.2.2.2.2.2.2.2.1, r3.2.2.2.2.2.2.2.2.2.2.2.1, r3.2.2.2.2.2.2.2.2.2.2.2.2.1, r3.2.2.2.2.2.2.2.2.2.2.2.2.2, true)).bind fun r16 =>
           r16.elim
           (fun r17 => some (.inl r17))
           (fun r18 => laws_FnRotorsShare_c_c_c_c_l k (r18.1, r18.2.1, r18.2.2.1, r18.2.2.2.1, r18.2.2.2.2.1, r18.2.2.2.2.2.1, r18.2.2.2.2.2.2.1, r18.2.2.2.2.2.2.2.1, r18.2.2.2.2.2.2.2.2.1, r18.2.2.2.2.2.2.2.2.2.1, (w64 (r18.2.2.2.2.2.2.2.2.2.2 + 1)))))
          (cond (inB r3.2.2.2.2.2.2.2.2.1 r3.2.2.2.2.1.2.length)
           (cond (inB r3.2.2.2.2.2.2.2.2.1 r3.2.1.2.length)
            (cond ((r3.2.2.2.2.2.2.2.2.2.1.length : Int) != 0)
             ((laws_FnRotorsShare_c_c_c_c_l_c k (r3.1, r3.2.1, r3.2.2.1, r3.2.2.2.1, r3.2.2.2.2.1, r3.2.2.2.2.2.1, r3.2.2.2.2.2.2.1, r3.2.2.2.2.2.2.2.1, r3.2.2.2.2.2.2.2.2.2.2.2.1, r3.2.2.2.2.2.2.2.2.2.2.2.2.1, r3.2.2.2.2.2.2.2.2.2.2.2.2.2, ((r3.2.2.2.2.1.2.getD r3.2.2.2.2.2.2.2.2.1.toNat default) != ((w64 ((r3.2.1.2.getD r3.2.2.2.2.2.2.2.2.1.toNat default) + r3.2.2.2.2.2.2.2.2.2.2.1)).tmod (r3.2.2.2.2.2.2.2.2.2.1.length : Int))))).bind fun r19 =>
              r19.elim
              (fun r20 => some (.inl r20))
              (fun r21 => laws_FnRotorsShare_c_c_c_c_l k (r21.1, r21.2.1, r21.2.2.1, r21.2.2.2.1, r21.2.2.2.2.1, r21.2.2.2.2.2.1, r21.2.2.2.2.2.2.1, r21.2.2.2.2.2.2.2.1, r21.2.2.2.2.2.2.2.2.1, r21.2.2.2.2.2.2.2.2.2.1, (w64 (r21.2.2.2.2.2.2.2.2.2.2 + 1)))))
             (none))
            (none))
           (none)))
         (none))
        (cond (inB r3.2.2.2.2.2.2.2.2.1 r3.2.2.2.2.2.2.1.length)
         (cond (r3.2.2.2.2.2.2.2.2.2.2.1 != (w64 ((w64 ((r3.2.2.2.2.2.2.1.getD r3.2.2.2.2.2.2.2.2.1.toNat default) + 0)) - 0)))
          ((laws_FnRotorsShare_c_c_c_c_l_c k (r3.1, r3.2.1, r3.2.2.1, r3.2.2.2.1, r3.2.2.2.2.1, r3.2.2.2.2.2.1, r3.2.2.2.2.2.2.1, r3.2.2.2.2.2.2.2.1, r3.2.2.2.2.2.2.2.2.2.2.2.1, r3.2.2.2.2.2.2.2.2.2.2.2.2.1, r3.2.2.2.2.2.2.2.2.2.2.2.2.2, true)).bind fun r22 =>
           r22.elim
           (fun r23 => some (.inl r23))
           (fun r24 => laws_FnRotorsShare_c_c_c_c_l k (r24.1, r24.2.1, r24.2.2.1, r24.2.2.2.1, r24.2.2.2.2.1, r24.2.2.2.2.2.1, r24.2.2.2.2.2.2.1, r24.2.2.2.2.2.2.2.1, r24.2.2.2.2.2.2.2.2.1, r24.2.2.2.2.2.2.2.2.2.1, (w64 (r24.2.2.2.2.2.2.2.2.2.2 + 1)))))
          (cond (inB r3.2.2.2.2.2.2.2.2.1 r3.2.2.2.2.1.2.length)
           (cond (inB r3.2.2.2.2.2.2.2.2.1 r3.2.1.2.length)
            (cond ((r3.2.2.2.2.2.2.2.2.2.1.length : Int) != 0)
             ((laws_FnRotorsShare_c_c_c_c_l_c k (r3.1, r3.2.1, r3.2.2.1, r3.2.2.2.1, r3.2.2.2.2.1, r3.2.2.2.2.2.1, r3.2.2.2.2.2.2.1, r3.2.2.2.2.2.2.2.1, r3.2.2.2.2.2.2.2.2.2.2.2.1, r3.2.2.2.2.2.2.2.2.2.2.2.2.1, r3.2.2.2.2.2.2.2.2.2.2.2.2.2, ((r3.2.2.2.2.1.2.getD r3.2.2.2.2.2.2.2.2.1.toNat default) != ((w64 ((r3.2.1.2.getD r3.2.2.2.2.2.2.2.2.1.toNat default) + r3.2.2.2.2.2.2.2.2.2.2.1)).tmod (r3.2.2.2.2.2.2.2.2.2.1.length : Int))))).bind fun r25 =>
              r25.elim
              (fun r26 => some (.inl r26))
              (fun r27 => laws_FnRotorsShare_c_c_c_c_l k (r27.1, r27.2.1, r27.2.2.1, r27.2.2.2.1, r27.2.2.2.2.1, r27.2.2.2.2.2.1, r27.2.2.2.2.2.2.1, r27.2.2.2.2.2.2.2.1, r27.2.2.2.2.2.2.2.2.1, r27.2.2.2.2.2.2.2.2.2.1, (w64 (r27.2.2.2.2.2.2.2.2.2.2 + 1)))))
             (none))
            (none))
           (none)))
         (none))))))
    (none))
   (none))
  (some (.inr (more, (r_Out, r_Rotor), at_, steps, (after_Out, after_Rotor), to, visits, came))) := by kernel_rfl
theorem laws_FnRotorsShare_c_c_c_c_l_l.eq (k : Nat) (more : List Int) (r_Out : List (List Int)) (r_Rotor : List Int) (at_ : Int) (steps : Int) (after_Out : List (List Int)) (after_Rotor : List Int) (to : Int) (visits : List Int) (came : List Int) (i : Int) (list : List Int) (left : Int) (t267 : List (List Int)) (t268 : Int) (t269 : Int) (t284 : Int) (t285 : Int) : laws_FnRotorsShare_c_c_c_c_l_l (k + 1) (more, (r_Out, r_Rotor), at_, steps, (after_Out, after_Rotor), to, visits, came, i, list, left, t267, t268, t269, (), t284, t285) =
  cond (decide (t285 < t284))
  (cond (inB t285 list.length)
   (cond (inB i r_Out.length)
    (cond (inB t285 ((List.getD r_Out i.toNat []).length))
     (cond (inB ((List.getD r_Out i.toNat []).getD t285.toNat default) came.length)
      (cond (inB ((List.getD r_Out i.toNat []).getD t285.toNat default) came.length)
       ((laws_FnRotorsShare_c_c_c_c_l_l_l k (more, (r_Out, r_Rotor), at_, steps, (after_Out, after_Rotor), to, visits, (came.set (((List.getD r_Out i.toNat []).getD t285.toNat default).toNat) (w64 ((came.getD (((List.getD r_Out i.toNat []).getD t285.toNat default).toNat) default) + (list.getD t285.toNat default)))), i, list, (w64 (left + (list.getD t285.toNat default))), (list.getD t285.toNat default), t267, t268, t269, (), t284, t285, (), (list.length : Int), 0)).bind fun r1 =>
        r1.elim
        (fun r2 => some (.inl r2))
        (fun r3 => laws_FnRotorsShare_c_c_c_c_l_l k (r3.1, r3.2.1, r3.2.2.1, r3.2.2.2.1, r3.2.2.2.2.1, r3.2.2.2.2.2.1, r3.2.2.2.2.2.2.1, r3.2.2.2.2.2.2.2.1, r3.2.2.2.2.2.2.2.2.1, r3.2.2.2.2.2.2.2.2.2.1, r3.2.2.2.2.2.2.2.2.2.2.1, r3.2.2.2.2.2.2.2.2.2.2.2.1, r3.2.2.2.2.2.2.2.2.2.2.2.2.1, r3.2.2.2.2.2.2.2.2.2.2.2.2.2.1, (), r3.2.2.2.2.2.2.2.2.2.2.2.2.2.2.2.1, (w64 (r3.2.2.2.2.2.2.2.2.2.2.2.2.2.2.2.2 + 1)))))
       (none))
      (none))
     (none))
    (none))
   (none))
  (some (.inr (more, (r_Out, r_Rotor), at_, steps, (after_Out, after_Rotor), to, visits, came, i, list, left, t267, t268, t269))) := by kernel_rfl
theorem laws_FnRotorsShare_c_c_c_c_l_l_l.eq (k : Nat) (more : List Int) (r_Out : List (List Int)) (r_Rotor : List Int) (at_ : Int) (steps : Int) (after_Out : List (List Int)) (after_Rotor : List Int) (to : Int) (visits : List Int) (came : List Int) (i : Int) (list : List Int) (left : Int) (x : Int) (t267 : List (List Int)) (t268 : Int) (t269 : Int) (t284 : Int) (t285 : Int) (t308 : Int) (t309 : Int) : laws_FnRotorsShare_c_c_c_c_l_l_l (k + 1) (more, (r_Out, r_Rotor), at_, steps, (after_Out, after_Rotor), to, visits, came, i, list, left, x, t267, t268, t269, (), t284, t285, (), t308, t309) =
  cond (decide (t309 < t308))
  (cond (inB t309 list.length)
   (cond (decide ((w64 (x - (list.getD t309.toNat default))) > 1))
    (some (.inl false))
    (laws_FnRotorsShare_c_c_c_c_l_l_l k (more, (r_Out, r_Rotor), at_, steps, (after_Out, after_Rotor), to, visits, came, i, list, left, x, t267, t268, t269, (), t284, t285, (), t308, (w64 (t309 + 1)))))
   (none))
  (some (.inr (more, (r_Out, r_Rotor), at_, steps, (after_Out, after_Rotor), to, visits, came, i, list, left, t267, t268, t269, (), t284, t285))) := by kernel_rfl
theorem laws_FnRotorsShare_c_c_c_c_l_c.eq (k : Nat) (more : List Int) (r_Out : List (List Int)) (r_Rotor : List Int) (at_ : Int) (steps : Int) (after_Out : List (List Int)) (after_Rotor : List Int) (to : Int) (visits : List Int) (came : List Int) (t267 : List (List Int)) (t268 : Int) (t269 : Int) (t352 : Bool) : laws_FnRotorsShare_c_c_c_c_l_c (k + 1) (more, (r_Out, r_Rotor), at_, steps, (after_Out, after_Rotor), to, visits, came, t267, t268, t269, t352) =
  cond t352
  (some (.inl false))
  (some (.inr (more, (r_Out, r_Rotor), at_, steps, (after_Out, after_Rotor), to, visits, came, t267, t268, t269))) := by kernel_rfl
theorem laws_FnRotorsShare_c_c_c_c_c.eq (k : Nat) (more : List Int) (r_Out : List (List Int)) (r_Rotor : List Int) (at_ : Int) (steps : Int) (after_Out : List (List Int)) (after_Rotor : List Int) (to : Int) (visits : List Int) (came : List Int) : laws_FnRotorsShare_c_c_c_c_c (k + 1) (more, (r_Out, r_Rotor), at_, steps, (after_Out, after_Rotor), to, visits, came) =
  (laws_kSame k (came, visits)).bind fun r1 =>
  cond (!r1)
  (some (.inl false))
  ((laws_FnRotorsShare_c_c_c_c_c_c k (more, (r_Out, r_Rotor), at_, steps, (after_Out, after_Rotor), to, (decide (steps > 0)))).bind fun r2 =>
   r2.elim
   (fun r3 => some (.inl r3))
   (fun r4 => some (.inr r4))) := by kernel_rfl
theorem laws_FnRotorsShare_c_c_c_c_c_c.eq (k : Nat) (more : List Int) (r_Out : List (List Int)) (r_Rotor : List Int) (at_ : Int) (steps : Int) (after_Out : List (List Int)) (after_Rotor : List Int) (to : Int) (t359 : Bool) : laws_FnRotorsShare_c_c_c_c_c_c (k + 1) (more, (r_Out, r_Rotor), at_, steps, (after_Out, after_Rotor), to, t359) =
  cond t359
  ((impl_WalkAfter k ((r_Out, r_Rotor), at_, (w64 (steps - 1)))).bind fun r1 =>
   (impl_StepRoute k (r1.1, r1.2.1)).bind fun r2 =>
   cond (!r1.2.2)
   ((laws_FnRotorsShare_c_c_c_c_c_c_c k (more, true)).bind fun r3 =>
    r3.elim
    (fun r4 => some (.inl r4))
    (fun r5 => some (.inr r5)))
   (cond (!r2.2.2)
    ((laws_FnRotorsShare_c_c_c_c_c_c_c k (more, true)).bind fun r6 =>
     r6.elim
     (fun r7 => some (.inl r7))
     (fun r8 => some (.inr r8)))
    (cond (r2.2.1 != to)
     ((laws_FnRotorsShare_c_c_c_c_c_c_c k (more, true)).bind fun r9 =>
      r9.elim
      (fun r10 => some (.inl r10))
      (fun r11 => some (.inr r11)))
     ((laws_kRoute k (r2.1, (after_Out, after_Rotor))).bind fun r12 =>
      (laws_FnRotorsShare_c_c_c_c_c_c_c k (more, (!r12))).bind fun r13 =>
      r13.elim
      (fun r14 => some (.inl r14))
      (fun r15 => some (.inr r15))))))
  (some (.inr more)) := by kernel_rfl
theorem impl_StepRoute.eq (k : Nat) (r_Out : List (List Int)) (r_Rotor : List Int) (at_ : Int) : impl_StepRoute (k + 1) ((r_Out, r_Rotor), at_) =
  (impl_WalkAfter k ((r_Out, r_Rotor), at_, 1)).bind fun r1 =>
  some r1 := by kernel_rfl
theorem laws_FnRotorsShare_c_c_c_c_c_c_c.eq (k : Nat) (more : List Int) (t392 : Bool) : laws_FnRotorsShare_c_c_c_c_c_c_c (k + 1) (more, t392) =
  cond t392
  (some (.inl false))
  (some (.inr more)) := by kernel_rfl
theorem laws_FnRotorsShare_c_c_c_2.eq (k : Nat) (more : List Int) : laws_FnRotorsShare_c_c_c_2 (k + 1) more =
  (spec_DrawWalkLoop k more).bind fun r1 =>
  (impl_WalkLoop k r1).bind fun r2 =>
  (spec_WalkLoop k r1).bind fun r3 =>
  (impl_StepRoute k r1).bind fun r4 =>
  (spec_StepRoute k r1).bind fun r5 =>
  (laws_FnRotorsShare_c_c_c_2_c k (r1.1, r1.2, r2.1, r2.2.1, r2.2.2, r3.1, r3.2.1, r3.2.2, r4.1, r4.2.1, r4.2.2, r5.1, r5.2.1, r5.2.2)).bind fun r6 =>
  some r6 := by kernel_rfl
theorem spec_DrawWalkLoop.eq (k : Nat) (code : List Int) : spec_DrawWalkLoop (k + 1) code =
  (spec_DrawStepRoute k code).bind fun r1 =>
  some r1 := by kernel_rfl
theorem spec_DrawStepRoute.eq (k : Nat) (code : List Int) : spec_DrawStepRoute (k + 1) code =
  (spec_l1Cur_route k (code, 0, 0)).bind fun r1 =>
  (spec_l1Cur_pick k (r1.2, (w64 ((r1.1.1.length : Int) + 2)))).bind fun r2 =>
  (spec_l1Cur_pick k (r2.2, 12)).bind fun r3 =>
  some (r1.1, (w64 (r2.1 - (w64 (r3.1.tdiv 11))))) := by kernel_rfl
theorem impl_WalkLoop.eq (k : Nat) (r_Out : List (List Int)) (r_Rotor : List Int) (at_ : Int) : impl_WalkLoop (k + 1) ((r_Out, r_Rotor), at_) =
  (impl_isNode k ((r_Out, r_Rotor), [at_])).bind fun r1 =>
  cond (!r1)
  (some (0, 0, false))
  ((impl_Route_own k (r_Out, r_Rotor)).bind fun r2 =>
   (impl_WalkLoop_l k (at_, r2, [], 0)).bind fun r3 =>
   r3.elim
   (fun r4 => some r4)
   (fun r5 => some (0, 0, false))) := by kernel_rfl
theorem impl_WalkLoop_l.eq (k : Nat) (at_ : Int) (own_Out : List (List Int)) (own_Rotor : List Int) (seen : List (ByteArray × Int)) (t21 : Int) : impl_WalkLoop_l (k + 1) (at_, (own_Out, own_Rotor), seen, t21) =
  cond (decide (t21 < 3001))
  (cond (fits (1 + own_Rotor.length) 8)
   ((impl_listText k ((bs [44]), ([at_] ++ own_Rotor))).bind fun r1 =>
    cond (mhas (K := ByteArray) (α := Int) (Sh.eqT .str) seen r1)
    (some (.inl ((mget (K := ByteArray) (α := Int) (Sh.eqT .str) seen r1 0), (w64 (t21 - (mget (K := ByteArray) (α := Int) (Sh.eqT .str) seen r1 0))), true)))
    ((impl_Route_step k ((own_Out, own_Rotor), at_)).bind fun r2 =>
     impl_WalkLoop_l k (r2.1, (own_Out, r2.2.2), (mput (K := ByteArray) (α := Int) (Sh.eqT .str) seen r1 t21), (w64 (t21 + 1)))))
   (none))
  (some (.inr ())) := by kernel_rfl
theorem impl_listText.eq (k : Nat) (by_ : ByteArray) (list : List Int) : impl_listText (k + 1) (by_, list) =
  (impl_listText_l k (by_, [], list, (list.length : Int), 0)).bind fun r1 =>
  (strings_Join k (r1.2, r1.1)).bind fun r2 =>
  some r2 := by kernel_rfl
theorem impl_listText_l.eq (k : Nat) (by_ : ByteArray) (parts : List ByteArray) (t9 : List Int) (t10 : Int) (t11 : Int) : impl_listText_l (k + 1) (by_, parts, t9, t10, t11) =
  cond (decide (t11 < t10))
  (cond (inB t11 t9.length)
   ((strconv_Itoa k (t9.getD t11.toNat default)).bind fun r1 =>
    cond (fits (parts.length + 1) 16)
    (impl_listText_l k (by_, (parts ++ [r1]), t9, t10, (w64 (t11 + 1))))
    (none))
   (none))
  (some (by_, parts)) := by kernel_rfl
theorem strconv_Itoa.eq (k : Nat) (d : Int) : strconv_Itoa (k + 1) d = (fun d => itoaAll d) d := by kernel_rfl
theorem strings_Join.eq (k : Nat) (d : List ByteArray × ByteArray) : strings_Join (k + 1) d = (fun d => joinS d.1 d.2) d := by kernel_rfl
theorem spec_WalkLoop.eq (k : Nat) (r_Out : List (List Int)) (r_Rotor : List Int) (at_ : Int) : spec_WalkLoop (k + 1) ((r_Out, r_Rotor), at_) =
  (spec_roNode k ((r_Out, r_Rotor), at_)).bind fun r1 =>
  cond (!r1)
  (some (0, 0, false))
  ((spec_roOwn k (r_Out, r_Rotor)).bind fun r2 =>
   (spec_WalkLoop_l k (at_, r2, [], 0)).bind fun r3 =>
   r3.elim
   (fun r4 => some r4)
   (fun r5 => some (0, 0, false))) := by kernel_rfl
end Go.Proofs.YtiaagflfiphioaaDoorS
