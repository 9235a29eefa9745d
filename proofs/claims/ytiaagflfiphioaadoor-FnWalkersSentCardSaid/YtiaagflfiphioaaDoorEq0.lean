/- What each function computes (printed by wip/sim/gen.py). -/
import Derived.Test.YtiaagflfiphioaaDoorTab
namespace Go.Proofs.YtiaagflfiphioaaDoorS
open Go Go.Proofs
set_option maxRecDepth 100000
set_option linter.unusedVariables false
theorem laws_FnWalkersSent.eq (k : Nat) (code : List Int) (more : List Int) : laws_FnWalkersSent (k + 1) (code, more) =
  (laws_big k (code, more)).bind fun r1 =>
  cond r1
  (some true)
  ((spec_DrawSendWalkers k code).bind fun r2 =>
   (impl_SendWalkers k r2).bind fun r3 =>
   (spec_SendWalkers k r2).bind fun r4 =>
   (laws_FnWalkersSent_c k (more, r2.1, r2.2.1, r2.2.2.1, r2.2.2.2, r3.1, r3.2, r4.1, r4.2)).bind fun r5 =>
   some r5) := by kernel_rfl
theorem laws_big.eq (k : Nat) (code : List Int) (more : List Int) : laws_big (k + 1) (code, more) =
  cond (decide ((code.length : Int) > 1048576))
  (some true)
  (some (decide ((more.length : Int) > (w64 (1048576 - (code.length : Int)))))) := by kernel_rfl
theorem spec_DrawSendWalkers.eq (k : Nat) (code : List Int) : spec_DrawSendWalkers (k + 1) code =
  (spec_l1Cur_route k (code, 0, 0)).bind fun r1 =>
  (spec_l1Cur_pick k (r1.2, (w64 ((r1.1.1.length : Int) + 1)))).bind fun r2 =>
  (spec_DrawSendWalkers_l k (([], []), r2.2, r1.1, (r1.1.1.length : Int), r2.1, [], 0)).bind fun r3 =>
  (spec_l1Cur_one k (r3.2.1, 10)).bind fun r4 =>
  cond r4.1
  ((spec_l1Cur_among k (r4.2, [0, r3.2.2.2.1, (-1)])).bind fun r5 =>
   cond (fits (r3.2.2.2.2.2.length + 1) 8)
   ((spec_l1Cur_among k (r5.2, [0, 1, 4, 10, 20, 100, 101, (-1)])).bind fun r6 =>
    some (r3.2.2.1, r3.2.2.2.2.1, (r3.2.2.2.2.2 ++ [r5.1]), r6.1))
   (none))
  ((spec_l1Cur_among k (r4.2, [0, 1, 4, 10, 20, 100, 101, (-1)])).bind fun r7 =>
   some (r3.2.2.1, r3.2.2.2.2.1, r3.2.2.2.2.2, r7.1)) := by kernel_rfl
theorem spec_l1Cur_route.eq (k : Nat) (c_code : List Int) (c_at : Int) (c_seed : Int) : spec_l1Cur_route (k + 1) (c_code, c_at, c_seed) =
  (spec_l1Cur_sureRoute k (c_code, c_at, c_seed)).bind fun r1 =>
  (spec_l1Cur_pick k (r1.2, 18)).bind fun r2 =>
  cond (r2.1 == 0)
  ((spec_l1Cur_among k (r2.2, [(-1), 0, 4, 4611686018427387904])).bind fun r3 =>
   cond (inB 0 r1.1.2.length)
   (some ((r1.1.1, (r1.1.2.set 0 r3.1)), r3.2))
   (none))
  (cond (r2.1 == 1)
   ((spec_l1Cur_among k (r2.2, [(-1), 0, (r1.1.1.length : Int)])).bind fun r4 =>
    cond (inB 0 r1.1.1.length)
    (some (((List.set r1.1.1 0 ([r4.1])), r1.1.2), r4.2))
    (none))
   (cond (r2.1 == 2)
    (cond (fits (r1.1.1.length + 1) 24)
     (some (((r1.1.1 ++ [[]]), r1.1.2), r2.2))
     (none))
    (cond (r2.1 == 3)
     (some (([], []), r2.2))
     (some (r1.1, r2.2))))) := by kernel_rfl
theorem spec_l1Cur_sureRoute.eq (k : Nat) (c_code : List Int) (c_at : Int) (c_seed : Int) : spec_l1Cur_sureRoute (k + 1) (c_code, c_at, c_seed) =
  (spec_l1Cur_pick k ((c_code, c_at, c_seed), 5)).bind fun r1 =>
  (spec_l1Cur_pick k (r1.2, 4)).bind fun r2 =>
  cond (r2.1 == 0)
  ((spec_RingRoute k (w64 (1 + r1.1))).bind fun r3 =>
   some (r3.1, r2.2))
  (cond (r2.1 == 1)
   ((spec_LineRoute k (w64 ((w64 (1 + r1.1)) + 1))).bind fun r4 =>
    some (r4.1, r2.2))
   ((spec_l1Cur_sureRoute_l k (r2.2, ([], []), (w64 (1 + r1.1)), ([], []), 0, ())).bind fun r5 =>
    some r5.2)) := by kernel_rfl
theorem spec_l1Cur_pick.eq (k : Nat) (c_code : List Int) (c_at : Int) (c_seed : Int) (n : Int) : spec_l1Cur_pick (k + 1) ((c_code, c_at, c_seed), n) =
  cond (decide (n ≤ 1))
  (some (0, (c_code, c_at, c_seed)))
  ((spec_l1Cur_next k (c_code, c_at, c_seed)).bind fun r1 =>
   cond (decide (n > 200))
   ((spec_l1Cur_next k r1.2).bind fun r2 =>
    cond (n != 0)
    (some (((w64 ((w64 (r1.1 * 256)) + r2.1)).tmod n), r2.2))
    (none))
   (cond (n != 0)
    (some ((r1.1.tmod n), r1.2))
    (none))) := by kernel_rfl
theorem spec_l1Cur_next.eq (k : Nat) (c_code : List Int) (c_at : Int) (c_seed : Int) : spec_l1Cur_next (k + 1) (c_code, c_at, c_seed) =
  cond (decide (c_at < (c_code.length : Int)))
  (cond (inB c_at c_code.length)
   (cond (decide ((w64 (c_at + 1)) ≤ (c_code.length : Int)))
    (some ((w64 (c_code.getD c_at.toNat default)), (c_code, (w64 (c_at + 1)), (IntKind.u64.wrap ((IntKind.u64.wrap ((IntKind.u64.wrap (c_seed * 6364136223846793005)) + (IntKind.u64.wrap (w64 (c_code.getD c_at.toNat default))))) + 1442695040888963407)))))
    (some ((w64 (andI .u64 (shrI .u64 (IntKind.u64.wrap ((IntKind.u64.wrap ((IntKind.u64.wrap (c_seed * 6364136223846793005)) + (IntKind.u64.wrap (w64 (c_code.getD c_at.toNat default))))) + 1442695040888963407)) 40) 255)), (c_code, (w64 (c_at + 1)), (IntKind.u64.wrap ((IntKind.u64.wrap ((IntKind.u64.wrap (c_seed * 6364136223846793005)) + (IntKind.u64.wrap (w64 (c_code.getD c_at.toNat default))))) + 1442695040888963407))))))
   (none))
  (cond (decide ((w64 (c_at + 1)) ≤ (c_code.length : Int)))
   (some (0, (c_code, (w64 (c_at + 1)), (IntKind.u64.wrap ((IntKind.u64.wrap ((IntKind.u64.wrap (c_seed * 6364136223846793005)) + 0)) + 1442695040888963407)))))
   (some ((w64 (andI .u64 (shrI .u64 (IntKind.u64.wrap ((IntKind.u64.wrap ((IntKind.u64.wrap (c_seed * 6364136223846793005)) + 0)) + 1442695040888963407)) 40) 255)), (c_code, (w64 (c_at + 1)), (IntKind.u64.wrap ((IntKind.u64.wrap ((IntKind.u64.wrap (c_seed * 6364136223846793005)) + 0)) + 1442695040888963407)))))) := by kernel_rfl
theorem spec_RingRoute.eq (k : Nat) (nodes : Int) : spec_RingRoute (k + 1) nodes =
  (spec_l1In k (nodes, 1, 10)).bind fun r1 =>
  cond (!r1)
  (some (([], []), false))
  (cond (((decide ((0 : Int) ≤ nodes)) && (decide (nodes ≤ nodes))) && (fits nodes.toNat 8))
   ((spec_RingRoute_l k (nodes, ([], []), ([], (List.replicate nodes.toNat 0)), 0)).bind fun r2 =>
    some (r2.2, true))
   (none)) := by kernel_rfl
theorem spec_l1In.eq (k : Nat) (n : Int) (lo : Int) (hi : Int) : spec_l1In (k + 1) (n, lo, hi) =
  cond (decide (n ≥ lo))
  (some (decide (n ≤ hi)))
  (some false) := by kernel_rfl
theorem spec_RingRoute_l.eq (k : Nat) (nodes : Int) (t2_Out : List (List Int)) (t2_Rotor : List Int) (r_Out : List (List Int)) (r_Rotor : List Int) (i : Int) : spec_RingRoute_l (k + 1) (nodes, (t2_Out, t2_Rotor), (r_Out, r_Rotor), i) =
  cond (decide (i < nodes))
  (cond (nodes != 0)
   (cond (nodes != 0)
    (cond (fits (r_Out.length + 1) 24)
     (spec_RingRoute_l k (nodes, (t2_Out, t2_Rotor), ((r_Out ++ [[((w64 (i + 1)).tmod nodes), ((w64 ((w64 (i + nodes)) - 1)).tmod nodes)]]), r_Rotor), (w64 (i + 1))))
     (none))
    (none))
   (none))
  (some ((t2_Out, t2_Rotor), (r_Out, r_Rotor))) := by kernel_rfl
theorem spec_LineRoute.eq (k : Nat) (nodes : Int) : spec_LineRoute (k + 1) nodes =
  (spec_l1In k (nodes, 2, 10)).bind fun r1 =>
  cond (!r1)
  (some (([], []), false))
  (cond (((decide ((0 : Int) ≤ nodes)) && (decide (nodes ≤ nodes))) && (fits nodes.toNat 8))
   ((spec_LineRoute_l k (nodes, ([], []), ([], (List.replicate nodes.toNat 0)), 0)).bind fun r2 =>
    some (r2.2, true))
   (none)) := by kernel_rfl
theorem spec_LineRoute_l.eq (k : Nat) (nodes : Int) (t2_Out : List (List Int)) (t2_Rotor : List Int) (r_Out : List (List Int)) (r_Rotor : List Int) (i : Int) : spec_LineRoute_l (k + 1) (nodes, (t2_Out, t2_Rotor), (r_Out, r_Rotor), i) =
  cond (decide (i < nodes))
  (cond (i == 0)
   (cond (fits (r_Out.length + 1) 24)
    (spec_LineRoute_l k (nodes, (t2_Out, t2_Rotor), ((r_Out ++ [[1]]), r_Rotor), (w64 (i + 1))))
    (none))
   (cond (i == (w64 (nodes - 1)))
    (cond (fits (r_Out.length + 1) 24)
     (spec_LineRoute_l k (nodes, (t2_Out, t2_Rotor), ((r_Out ++ [[(w64 (i - 1))]]), r_Rotor), (w64 (i + 1))))
     (none))
    (cond (fits (r_Out.length + 1) 24)
     (spec_LineRoute_l k (nodes, (t2_Out, t2_Rotor), ((r_Out ++ [[(w64 (i - 1)), (w64 (i + 1))]]), r_Rotor), (w64 (i + 1))))
     (none))))
  (some ((t2_Out, t2_Rotor), (r_Out, r_Rotor))) := by kernel_rfl
theorem spec_l1Cur_sureRoute_l.eq (k : Nat) (c_code : List Int) (c_at : Int) (c_seed : Int) (t2_Out : List (List Int)) (t2_Rotor : List Int) (n : Int) (r_Out : List (List Int)) (r_Rotor : List Int) (i : Int) : spec_l1Cur_sureRoute_l (k + 1) ((c_code, c_at, c_seed), (t2_Out, t2_Rotor), n, (r_Out, r_Rotor), i, ()) =
  cond (decide (i < n))
  ((spec_l1Cur_pick k ((c_code, c_at, c_seed), 3)).bind fun r1 =>
   (spec_l1Cur_sureRoute_l_l k (r1.2, (t2_Out, t2_Rotor), n, (r_Out, r_Rotor), i, [], (w64 (1 + r1.1)), ())).bind fun r2 =>
   cond (fits (r2.2.2.2.1.1.length + 1) 24)
   ((spec_l1Cur_pick k (r2.1, (r2.2.2.2.2.2.1.length : Int))).bind fun r3 =>
    cond (fits (r2.2.2.2.1.2.length + 1) 8)
    (spec_l1Cur_sureRoute_l k (r3.2, r2.2.1, r2.2.2.1, ((r2.2.2.2.1.1 ++ [r2.2.2.2.2.2.1]), (r2.2.2.2.1.2 ++ [r3.1])), (w64 (r2.2.2.2.2.1 + 1)), ()))
    (none))
   (none))
  (some ((t2_Out, t2_Rotor), (r_Out, r_Rotor), (c_code, c_at, c_seed))) := by kernel_rfl
theorem spec_l1Cur_sureRoute_l_l.eq (k : Nat) (c_code : List Int) (c_at : Int) (c_seed : Int) (t2_Out : List (List Int)) (t2_Rotor : List Int) (n : Int) (r_Out : List (List Int)) (r_Rotor : List Int) (i : Int) (list : List Int) (k_ : Int) : spec_l1Cur_sureRoute_l_l (k + 1) ((c_code, c_at, c_seed), (t2_Out, t2_Rotor), n, (r_Out, r_Rotor), i, list, k_, ()) =
  cond (decide (k_ > 0))
  ((spec_l1Cur_pick k ((c_code, c_at, c_seed), n)).bind fun r1 =>
   cond (fits (list.length + 1) 8)
   (spec_l1Cur_sureRoute_l_l k (r1.2, (t2_Out, t2_Rotor), n, (r_Out, r_Rotor), i, (list ++ [r1.1]), (w64 (k_ - 1)), ()))
   (none))
  (some ((c_code, c_at, c_seed), (t2_Out, t2_Rotor), n, (r_Out, r_Rotor), i, list, ())) := by kernel_rfl
theorem spec_l1Cur_among.eq (k : Nat) (c_code : List Int) (c_at : Int) (c_seed : Int) (list : List Int) : spec_l1Cur_among (k + 1) ((c_code, c_at, c_seed), list) =
  (spec_l1Cur_pick k ((c_code, c_at, c_seed), (list.length : Int))).bind fun r1 =>
  cond (inB r1.1 list.length)
  (some ((list.getD r1.1.toNat default), r1.2))
  (none) := by kernel_rfl
theorem spec_DrawSendWalkers_l.eq (k : Nat) (t2_Out : List (List Int)) (t2_Rotor : List Int) (c_code : List Int) (c_at : Int) (c_seed : Int) (r_Out : List (List Int)) (r_Rotor : List Int) (n : Int) (at_ : Int) (ends : List Int) (i : Int) : spec_DrawSendWalkers_l (k + 1) ((t2_Out, t2_Rotor), (c_code, c_at, c_seed), (r_Out, r_Rotor), n, at_, ends, i) =
  cond (decide (i < n))
  ((spec_l1Cur_one k ((c_code, c_at, c_seed), 2)).bind fun r1 =>
   cond r1.1
   (cond (fits (ends.length + 1) 8)
    (spec_DrawSendWalkers_l k ((t2_Out, t2_Rotor), r1.2, (r_Out, r_Rotor), n, at_, (ends ++ [i]), (w64 (i + 1))))
    (none))
   (spec_DrawSendWalkers_l k ((t2_Out, t2_Rotor), r1.2, (r_Out, r_Rotor), n, at_, ends, (w64 (i + 1)))))
  (some ((t2_Out, t2_Rotor), (c_code, c_at, c_seed), (r_Out, r_Rotor), n, at_, ends)) := by kernel_rfl
theorem spec_l1Cur_one.eq (k : Nat) (c_code : List Int) (c_at : Int) (c_seed : Int) (n : Int) : spec_l1Cur_one (k + 1) ((c_code, c_at, c_seed), n) =
  (spec_l1Cur_pick k ((c_code, c_at, c_seed), n)).bind fun r1 =>
  some ((r1.1 == 0), r1.2) := by kernel_rfl
theorem impl_SendWalkers.eq (k : Nat) (r_Out : List (List Int)) (r_Rotor : List Int) (at_ : Int) (ends : List Int) (count : Int) : impl_SendWalkers (k + 1) ((r_Out, r_Rotor), at_, ends, count) =
  (impl_isNode k ((r_Out, r_Rotor), [at_])).bind fun r1 =>
  cond (!r1)
  (some ([], false))
  ((impl_isNode k ((r_Out, r_Rotor), ends)).bind fun r2 =>
   cond (!r2)
   (some ([], false))
   ((impl_isNodes k (ends.length : Int)).bind fun r3 =>
    cond (!r3)
    (some ([], false))
    ((impl_areDifferent k ends).bind fun r4 =>
     cond (!r4)
     (some ([], false))
     ((impl_within k (count, 0, 100)).bind fun r5 =>
      cond (!r5)
      (some ([], false))
      ((impl_Route_own k (r_Out, r_Rotor)).bind fun r6 =>
       cond (((decide ((0 : Int) ≤ (ends.length : Int))) && (decide ((ends.length : Int) ≤ (ends.length : Int)))) && (fits (ends.length : Int).toNat 8))
       ((impl_SendWalkers_l k (at_, ends, r6, (List.replicate (ends.length : Int).toNat 0), count, 0)).bind fun r7 =>
        r7.elim
        (fun r8 => some r8)
        (fun r9 => some (r9, true)))
       (none)))))) := by kernel_rfl
theorem impl_isNode.eq (k : Nat) (r_Out : List (List Int)) (r_Rotor : List Int) (nodes : List Int) : impl_isNode (k + 1) ((r_Out, r_Rotor), nodes) =
  (impl_IsRoute k (r_Out, r_Rotor)).bind fun r1 =>
  cond r1
  ((impl_areWithin k (nodes, 0, (w64 ((r_Out.length : Int) - 1)))).bind fun r2 =>
   some r2)
  (some false) := by kernel_rfl
theorem impl_IsRoute.eq (k : Nat) (r_Out : List (List Int)) (r_Rotor : List Int) : impl_IsRoute (k + 1) (r_Out, r_Rotor) =
  (impl_isNodes k (r_Out.length : Int)).bind fun r1 =>
  cond (!r1)
  (some false)
  (cond ((r_Rotor.length : Int) != (r_Out.length : Int))
   (some false)
   ((impl_IsRoute_l k ((r_Out, r_Rotor), (), (r_Out.length : Int), 0)).bind fun r2 =>
    r2.elim
    (fun r3 => some r3)
    (fun r4 => some true))) := by kernel_rfl
theorem impl_isNodes.eq (k : Nat) (n : Int) : impl_isNodes (k + 1) n =
  (impl_within k (n, 1, 10)).bind fun r1 =>
  some r1 := by kernel_rfl
theorem impl_within.eq (k : Nat) (n : Int) (low : Int) (high : Int) : impl_within (k + 1) (n, low, high) =
  cond (decide (low ≤ n))
  (some (decide (n ≤ high)))
  (some false) := by kernel_rfl
theorem impl_IsRoute_l.eq (k : Nat) (r_Out : List (List Int)) (r_Rotor : List Int) (t21 : Int) (t22 : Int) : impl_IsRoute_l (k + 1) ((r_Out, r_Rotor), (), t21, t22) =
  cond (decide (t22 < t21))
  (cond (inB t22 r_Out.length)
   ((impl_within k (((List.getD r_Out t22.toNat []).length : Int), 1, 4)).bind fun r1 =>
    cond (!r1)
    (some (.inl false))
    ((impl_areWithin k ((List.getD r_Out t22.toNat []), 0, (w64 ((r_Out.length : Int) - 1)))).bind fun r2 =>
     cond (!r2)
     (some (.inl false))
     (cond (inB t22 r_Rotor.length)
      ((impl_within k ((r_Rotor.getD t22.toNat default), 0, (w64 (((List.getD r_Out t22.toNat []).length : Int) - 1)))).bind fun r3 =>
       cond (!r3)
       (some (.inl false))
       (impl_IsRoute_l k ((r_Out, r_Rotor), (), t21, (w64 (t22 + 1)))))
      (none))))
   (none))
  (some (.inr ())) := by kernel_rfl
theorem impl_areWithin.eq (k : Nat) (list : List Int) (low : Int) (high : Int) : impl_areWithin (k + 1) (list, low, high) =
  (slices_ContainsFunc k (list, (low, high))).bind fun r1 =>
  some (!r1) := by kernel_rfl
theorem slices_ContainsFunc.eq (k : Nat) (s : List Int) (f_0 : Int) (f_1 : Int) : slices_ContainsFunc (k + 1) (s, (f_0, f_1)) =
  (slices_IndexFunc k (s, (f_0, f_1))).bind fun r1 =>
  some (decide (r1 ≥ 0)) := by kernel_rfl
theorem slices_IndexFunc.eq (k : Nat) (s : List Int) (f_0 : Int) (f_1 : Int) : slices_IndexFunc (k + 1) (s, (f_0, f_1)) =
  (slices_IndexFunc_l k (s, (f_0, f_1), (s.length : Int), 0)).bind fun r1 =>
  r1.elim
  (fun r2 => some r2)
  (fun r3 => some (-1)) := by kernel_rfl
theorem slices_IndexFunc_l.eq (k : Nat) (s : List Int) (f_0 : Int) (f_1 : Int) (t7 : Int) (t8 : Int) : slices_IndexFunc_l (k + 1) (s, (f_0, f_1), t7, t8) =
  cond (decide (t8 < t7))
  (cond (inB t8 s.length)
   ((impl_areWithin_1 k ((s.getD t8.toNat default), f_0, f_1)).bind fun r1 =>
    cond r1
    (some (.inl t8))
    (slices_IndexFunc_l k (s, (f_0, f_1), t7, (w64 (t8 + 1)))))
   (none))
  (some (.inr ())) := by kernel_rfl
theorem impl_areWithin_1.eq (k : Nat) (n : Int) (t1_0 : Int) (t2_0 : Int) : impl_areWithin_1 (k + 1) (n, t1_0, t2_0) =
  (impl_within k (n, t1_0, t2_0)).bind fun r1 =>
  some (!r1) := by kernel_rfl
theorem impl_areDifferent.eq (k : Nat) (list : List Int) : impl_areDifferent (k + 1) list =
  (impl_areDifferent_l k (list, (), (list.length : Int), 0)).bind fun r1 =>
  r1.elim
  (fun r2 => some r2)
  (fun r3 => some true) := by kernel_rfl
theorem impl_areDifferent_l.eq (k : Nat) (list : List Int) (t6 : Int) (t7 : Int) : impl_areDifferent_l (k + 1) (list, (), t6, t7) =
  cond (decide (t7 < t6))
  (cond (inB t7 list.length)
   (cond ((decide ((0 : Int) ≤ t7)) && (decide (t7 ≤ (list.length : Int))))
    ((slices_Contains k ((list.take t7.toNat), (list.getD t7.toNat default))).bind fun r1 =>
     cond r1
     (some (.inl false))
     (impl_areDifferent_l k (list, (), t6, (w64 (t7 + 1)))))
    (none))
   (none))
  (some (.inr ())) := by kernel_rfl
theorem slices_Contains.eq (k : Nat) (s : List Int) (v : Int) : slices_Contains (k + 1) (s, v) =
  (slices_Index k (s, v)).bind fun r1 =>
  some (decide (r1 ≥ 0)) := by kernel_rfl
theorem slices_Index.eq (k : Nat) (s : List Int) (v : Int) : slices_Index (k + 1) (s, v) =
  (slices_Index_l k (s, v, (s.length : Int), 0)).bind fun r1 =>
  r1.elim
  (fun r2 => some r2)
  (fun r3 => some (-1)) := by kernel_rfl
theorem slices_Index_l.eq (k : Nat) (s : List Int) (v : Int) (t7 : Int) (t8 : Int) : slices_Index_l (k + 1) (s, v, t7, t8) =
  cond (decide (t8 < t7))
  (cond (inB t8 s.length)
   (cond (v == (s.getD t8.toNat default))
    (some (.inl t8))
    (slices_Index_l k (s, v, t7, (w64 (t8 + 1)))))
   (none))
  (some (.inr ())) := by kernel_rfl
theorem impl_Route_own.eq (k : Nat) (r_Out : List (List Int)) (r_Rotor : List Int) : impl_Route_own (k + 1) (r_Out, r_Rotor) =
  (slices_Clone k r_Rotor).bind fun r1 =>
  (impl_Route_own_l k (([], []), ([], r1), r_Out, (r_Out.length : Int), 0)).bind fun r2 =>
  some r2.2 := by kernel_rfl
theorem slices_Clone.eq (k : Nat) (d : List Int) : slices_Clone (k + 1) d = (fun d => cloneB (s := (.int .i64)) 8 d) d := by kernel_rfl
theorem impl_Route_own_l.eq (k : Nat) (t2_Out : List (List Int)) (t2_Rotor : List Int) (out_Out : List (List Int)) (out_Rotor : List Int) (t11 : List (List Int)) (t12 : Int) (t13 : Int) : impl_Route_own_l (k + 1) ((t2_Out, t2_Rotor), (out_Out, out_Rotor), t11, t12, t13) =
  cond (decide (t13 < t12))
  (cond (inB t13 t11.length)
   ((slices_Clone k (List.getD t11 t13.toNat [])).bind fun r1 =>
    cond (fits (out_Out.length + 1) 24)
    (impl_Route_own_l k ((t2_Out, t2_Rotor), ((out_Out ++ [r1]), out_Rotor), t11, t12, (w64 (t13 + 1))))
    (none))
   (none))
  (some ((t2_Out, t2_Rotor), (out_Out, out_Rotor))) := by kernel_rfl
theorem impl_SendWalkers_l.eq (k : Nat) (at_ : Int) (ends : List Int) (own_Out : List (List Int)) (own_Rotor : List Int) (out : List Int) (t47 : Int) (t48 : Int) : impl_SendWalkers_l (k + 1) (at_, ends, (own_Out, own_Rotor), out, t47, t48) =
  cond (decide (t48 < t47))
  ((impl_SendWalkers_l_l k (at_, ends, (own_Out, own_Rotor), out, at_, (-1), 0, t47, t48)).bind fun r1 =>
   r1.elim
   (fun r2 => some (.inl r2))
   (fun r3 => cond (inB r3.2.2.2.2.1 r3.2.2.2.1.length)
    (cond (inB r3.2.2.2.2.1 r3.2.2.2.1.length)
     (impl_SendWalkers_l k (r3.1, r3.2.1, r3.2.2.1, (r3.2.2.2.1.set r3.2.2.2.2.1.toNat (w64 ((r3.2.2.2.1.getD r3.2.2.2.2.1.toNat default) + 1))), r3.2.2.2.2.2.1, (w64 (r3.2.2.2.2.2.2 + 1))))
     (none))
    (none)))
  (some (.inr out)) := by kernel_rfl
theorem impl_SendWalkers_l_l.eq (k : Nat) (at_ : Int) (ends : List Int) (own_Out : List (List Int)) (own_Rotor : List Int) (out : List Int) (now : Int) (end_ : Int) (steps : Int) (t47 : Int) (t48 : Int) : impl_SendWalkers_l_l (k + 1) (at_, ends, (own_Out, own_Rotor), out, now, end_, steps, t47, t48) =
  cond (decide (end_ < 0))
  (cond (steps == 3000)
   (some (.inl ([], false)))
   ((impl_Route_step k ((own_Out, own_Rotor), now)).bind fun r1 =>
    (slices_Index k (ends, r1.1)).bind fun r2 =>
    impl_SendWalkers_l_l k (at_, ends, (own_Out, r1.2.2), out, r1.1, r2, (w64 (steps + 1)), t47, t48)))
  (some (.inr (at_, ends, (own_Out, own_Rotor), out, end_, t47, t48))) := by kernel_rfl
theorem impl_Route_step.eq (k : Nat) (r_Out : List (List Int)) (r_Rotor : List Int) (at_ : Int) : impl_Route_step (k + 1) ((r_Out, r_Rotor), at_) =
  cond (inB at_ r_Out.length)
  (cond (inB at_ r_Rotor.length)
   (cond (inB (r_Rotor.getD at_.toNat default) ((List.getD r_Out at_.toNat []).length))
    ((impl_Route_turn k ((r_Out, r_Rotor), at_)).bind fun r1 =>
     some (((List.getD r_Out at_.toNat []).getD ((r_Rotor.getD at_.toNat default).toNat) default), (r_Out, r1.2.2)))
    (none))
   (none))
  (none) := by kernel_rfl
theorem impl_Route_turn.eq (k : Nat) (r_Out : List (List Int)) (r_Rotor : List Int) (node : Int) : impl_Route_turn (k + 1) ((r_Out, r_Rotor), node) =
  cond (inB node r_Rotor.length)
  (cond (inB node r_Out.length)
   (cond (((List.getD r_Out node.toNat []).length : Int) != 0)
    (cond (inB node r_Rotor.length)
     (some ((), (r_Out, (r_Rotor.set node.toNat ((w64 ((r_Rotor.getD node.toNat default) + 1)).tmod ((List.getD r_Out node.toNat []).length : Int))))))
     (none))
    (none))
   (none))
  (none) := by kernel_rfl
theorem spec_SendWalkers.eq (k : Nat) (r_Out : List (List Int)) (r_Rotor : List Int) (at_ : Int) (ends : List Int) (count : Int) : spec_SendWalkers (k + 1) ((r_Out, r_Rotor), at_, ends, count) =
  (spec_roNode k ((r_Out, r_Rotor), at_)).bind fun r1 =>
  cond (!r1)
  (some ([], false))
  ((spec_l1In k ((ends.length : Int), 1, 10)).bind fun r2 =>
   cond (!r2)
   (some ([], false))
   ((spec_l1All k (ends, 0, (w64 ((r_Out.length : Int) - 1)))).bind fun r3 =>
    cond (!r3)
    (some ([], false))
    ((spec_l1In k (count, 0, 100)).bind fun r4 =>
     cond (!r4)
     (some ([], false))
     ((spec_SendWalkers_l k (at_, ends, count, (r_Out, r_Rotor), (), (ends.length : Int), 0)).bind fun r5 =>
      r5.elim
      (fun r6 => some r6)
      (fun r7 => (spec_roOwn k r7.2.2.2).bind fun r8 =>
       cond (((decide ((0 : Int) ≤ (r7.2.1.length : Int))) && (decide ((r7.2.1.length : Int) ≤ (r7.2.1.length : Int)))) && (fits (r7.2.1.length : Int).toNat 8))
       ((spec_SendWalkers_l_2 k (r7.1, r7.2.1, r7.2.2.1, r8, (List.replicate (r7.2.1.length : Int).toNat 0))).bind fun r9 =>
        r9.elim
        (fun r10 => some r10)
        (fun r11 => some (r11, true)))
       (none)))))) := by kernel_rfl
theorem spec_roNode.eq (k : Nat) (r_Out : List (List Int)) (r_Rotor : List Int) (at_ : Int) : spec_roNode (k + 1) ((r_Out, r_Rotor), at_) =
  (spec_roGood k (r_Out, r_Rotor)).bind fun r1 =>
  cond r1
  ((spec_l1In k (at_, 0, (w64 ((r_Out.length : Int) - 1)))).bind fun r2 =>
   some r2)
  (some false) := by kernel_rfl
theorem spec_roGood.eq (k : Nat) (r_Out : List (List Int)) (r_Rotor : List Int) : spec_roGood (k + 1) (r_Out, r_Rotor) =
  (spec_l1In k ((r_Out.length : Int), 1, 10)).bind fun r1 =>
  cond (!r1)
  (some false)
  (cond ((r_Rotor.length : Int) != (r_Out.length : Int))
   (some false)
   ((spec_roGood_l k ((r_Out, r_Rotor), (r_Out.length : Int), (), (r_Out.length : Int), 0)).bind fun r2 =>
    r2.elim
    (fun r3 => some r3)
    (fun r4 => some true))) := by kernel_rfl
theorem spec_roGood_l.eq (k : Nat) (r_Out : List (List Int)) (r_Rotor : List Int) (n : Int) (t21 : Int) (t22 : Int) : spec_roGood_l (k + 1) ((r_Out, r_Rotor), n, (), t21, t22) =
  cond (decide (t22 < t21))
  (cond (inB t22 r_Out.length)
   ((spec_l1In k (((List.getD r_Out t22.toNat []).length : Int), 1, 4)).bind fun r1 =>
    cond (!r1)
    (some (.inl false))
    ((spec_l1All k ((List.getD r_Out t22.toNat []), 0, (w64 (n - 1)))).bind fun r2 =>
     cond (!r2)
     (some (.inl false))
     (cond (inB t22 r_Rotor.length)
      ((spec_l1In k ((r_Rotor.getD t22.toNat default), 0, (w64 (((List.getD r_Out t22.toNat []).length : Int) - 1)))).bind fun r3 =>
       cond (!r3)
       (some (.inl false))
       (spec_roGood_l k ((r_Out, r_Rotor), n, (), t21, (w64 (t22 + 1)))))
      (none))))
   (none))
  (some (.inr ())) := by kernel_rfl
theorem spec_l1All.eq (k : Nat) (l : List Int) (lo : Int) (hi : Int) : spec_l1All (k + 1) (l, lo, hi) =
  (spec_l1All_l k (lo, hi, l, (l.length : Int), 0)).bind fun r1 =>
  r1.elim
  (fun r2 => some r2)
  (fun r3 => some true) := by kernel_rfl
theorem spec_l1All_l.eq (k : Nat) (lo : Int) (hi : Int) (t9 : List Int) (t10 : Int) (t11 : Int) : spec_l1All_l (k + 1) (lo, hi, t9, t10, t11) =
  cond (decide (t11 < t10))
  (cond (inB t11 t9.length)
   ((spec_l1In k ((t9.getD t11.toNat default), lo, hi)).bind fun r1 =>
    cond (!r1)
    (some (.inl false))
    (spec_l1All_l k (lo, hi, t9, t10, (w64 (t11 + 1)))))
   (none))
  (some (.inr ())) := by kernel_rfl
theorem spec_SendWalkers_l.eq (k : Nat) (at_ : Int) (ends : List Int) (count : Int) (r_Out : List (List Int)) (r_Rotor : List Int) (t43 : Int) (t44 : Int) : spec_SendWalkers_l (k + 1) (at_, ends, count, (r_Out, r_Rotor), (), t43, t44) =
  cond (decide (t44 < t43))
  (cond (inB t44 ends.length)
   (cond ((decide ((0 : Int) ≤ t44)) && (decide (t44 ≤ (ends.length : Int))))
    ((spec_l1Has k ((ends.take t44.toNat), (ends.getD t44.toNat default))).bind fun r1 =>
     cond r1
     (some (.inl ([], false)))
     (spec_SendWalkers_l k (at_, ends, count, (r_Out, r_Rotor), (), t43, (w64 (t44 + 1)))))
    (none))
   (none))
  (some (.inr (at_, ends, count, (r_Out, r_Rotor)))) := by kernel_rfl
theorem spec_l1Has.eq (k : Nat) (l : List Int) (n : Int) : spec_l1Has (k + 1) (l, n) =
  (spec_l1Has_l k (n, l, (l.length : Int), 0)).bind fun r1 =>
  r1.elim
  (fun r2 => some r2)
  (fun r3 => some false) := by kernel_rfl
theorem spec_l1Has_l.eq (k : Nat) (n : Int) (t7 : List Int) (t8 : Int) (t9 : Int) : spec_l1Has_l (k + 1) (n, t7, t8, t9) =
  cond (decide (t9 < t8))
  (cond (inB t9 t7.length)
   (cond ((t7.getD t9.toNat default) == n)
    (some (.inl true))
    (spec_l1Has_l k (n, t7, t8, (w64 (t9 + 1)))))
   (none))
  (some (.inr ())) := by kernel_rfl
theorem spec_roOwn.eq (k : Nat) (r_Out : List (List Int)) (r_Rotor : List Int) : spec_roOwn (k + 1) (r_Out, r_Rotor) =
  (spec_l1Own k r_Rotor).bind fun r1 =>
  (spec_roOwn_l k (([], []), ([], r1), r_Out, (r_Out.length : Int), 0)).bind fun r2 =>
  some r2.2 := by kernel_rfl
theorem spec_l1Own.eq (k : Nat) (l : List Int) : spec_l1Own (k + 1) l =
  cond (fits (0 + l.length) 8)
  (some ([] ++ l))
  (none) := by kernel_rfl
theorem spec_roOwn_l.eq (k : Nat) (t2_Out : List (List Int)) (t2_Rotor : List Int) (out_Out : List (List Int)) (out_Rotor : List Int) (t11 : List (List Int)) (t12 : Int) (t13 : Int) : spec_roOwn_l (k + 1) ((t2_Out, t2_Rotor), (out_Out, out_Rotor), t11, t12, t13) =
  cond (decide (t13 < t12))
  (cond (inB t13 t11.length)
   ((spec_l1Own k (List.getD t11 t13.toNat [])).bind fun r1 =>
    cond (fits (out_Out.length + 1) 24)
    (spec_roOwn_l k ((t2_Out, t2_Rotor), ((out_Out ++ [r1]), out_Rotor), t11, t12, (w64 (t13 + 1))))
    (none))
   (none))
  (some ((t2_Out, t2_Rotor), (out_Out, out_Rotor))) := by kernel_rfl
theorem spec_SendWalkers_l_2.eq (k : Nat) (at_ : Int) (ends : List Int) (count : Int) (own_Out : List (List Int)) (own_Rotor : List Int) (out : List Int) : spec_SendWalkers_l_2 (k + 1) (at_, ends, count, (own_Out, own_Rotor), out) =
  cond (decide (count > 0))
  ((spec_roTo k ((own_Out, own_Rotor), at_, ends)).bind fun r1 =>
   cond (r1.1.1 == 0)
   (some (.inl ([], false)))
   ((spec_SendWalkers_l_2_l k (at_, ends, count, (own_Out, r1.2.2), out, r1.1.2, (), (ends.length : Int), 0)).bind fun r2 =>
    spec_SendWalkers_l_2 k (r2.1, r2.2.1, (w64 (r2.2.2.1 - 1)), r2.2.2.2.1, r2.2.2.2.2)))
  (some (.inr out)) := by kernel_rfl
theorem spec_roTo.eq (k : Nat) (r_Out : List (List Int)) (r_Rotor : List Int) (at_ : Int) (ends : List Int) : spec_roTo (k + 1) ((r_Out, r_Rotor), at_, ends) =
  (spec_roTo_l k (at_, ends, (r_Out, r_Rotor), 1, ((), ()))).bind fun r1 =>
  r1.elim
  (fun r2 => some ((r2.1, r2.2.1), r2.2.2))
  (fun r3 => some ((0, 0), r3)) := by kernel_rfl
theorem spec_roTo_l.eq (k : Nat) (at_ : Int) (ends : List Int) (r_Out : List (List Int)) (r_Rotor : List Int) (steps : Int) : spec_roTo_l (k + 1) (at_, ends, (r_Out, r_Rotor), steps, ((), ())) =
  cond (decide (steps ≤ 3000))
  ((spec_roStep k ((r_Out, r_Rotor), at_)).bind fun r1 =>
   (spec_l1Has k (ends, r1.1)).bind fun r2 =>
   cond r2
   (some (.inl (steps, r1.1, (r_Out, r1.2.2))))
   (spec_roTo_l k (r1.1, ends, (r_Out, r1.2.2), (w64 (steps + 1)), ((), ()))))
  (some (.inr (r_Out, r_Rotor))) := by kernel_rfl
theorem spec_roStep.eq (k : Nat) (r_Out : List (List Int)) (r_Rotor : List Int) (at_ : Int) : spec_roStep (k + 1) ((r_Out, r_Rotor), at_) =
  cond (inB at_ r_Rotor.length)
  (cond (inB at_ r_Out.length)
   (cond (((List.getD r_Out at_.toNat []).length : Int) != 0)
    (cond (inB at_ r_Rotor.length)
     (cond (inB at_ r_Out.length)
      (cond (inB (r_Rotor.getD at_.toNat default) ((List.getD r_Out at_.toNat []).length))
       (some (((List.getD r_Out at_.toNat []).getD ((r_Rotor.getD at_.toNat default).toNat) default), (r_Out, (r_Rotor.set at_.toNat ((w64 ((r_Rotor.getD at_.toNat default) + 1)).tmod ((List.getD r_Out at_.toNat []).length : Int))))))
       (none))
      (none))
     (none))
    (none))
   (none))
  (none) := by kernel_rfl
theorem spec_SendWalkers_l_2_l.eq (k : Nat) (at_ : Int) (ends : List Int) (count : Int) (own_Out : List (List Int)) (own_Rotor : List Int) (out : List Int) (end_ : Int) (t74 : Int) (t75 : Int) : spec_SendWalkers_l_2_l (k + 1) (at_, ends, count, (own_Out, own_Rotor), out, end_, (), t74, t75) =
  cond (decide (t75 < t74))
  (cond (inB t75 ends.length)
   (cond ((ends.getD t75.toNat default) == end_)
    (cond (inB t75 out.length)
     (cond (inB t75 out.length)
      (spec_SendWalkers_l_2_l k (at_, ends, count, (own_Out, own_Rotor), (out.set t75.toNat (w64 ((out.getD t75.toNat default) + 1))), end_, (), t74, (w64 (t75 + 1))))
      (none))
     (none))
    (spec_SendWalkers_l_2_l k (at_, ends, count, (own_Out, own_Rotor), out, end_, (), t74, (w64 (t75 + 1)))))
   (none))
  (some (at_, ends, count, (own_Out, own_Rotor), out)) := by kernel_rfl
theorem laws_FnWalkersSent_c.eq (k : Nat) (more : List Int) (r_Out : List (List Int)) (r_Rotor : List Int) (at_ : Int) (ends : List Int) (count : Int) (sent : List Int) (ok : Bool) (right : List Int) (fine : Bool) : laws_FnWalkersSent_c (k + 1) (more, (r_Out, r_Rotor), at_, ends, count, sent, ok, right, fine) =
  cond (!(ok == fine))
  (some false)
  ((laws_kSame k (sent, right)).bind fun r1 =>
   cond (!r1)
   (some false)
   ((laws_FnWalkersSent_c_c k (more, (r_Out, r_Rotor), at_, ends, count, sent, ok)).bind fun r2 =>
    some r2)) := by kernel_rfl
theorem laws_kSame.eq (k : Nat) (a : List Int) (b : List Int) : laws_kSame (k + 1) (a, b) =
  cond ((a.length : Int) != (b.length : Int))
  (some false)
  ((laws_kSame_l k (a, b, (a.length : Int), 0)).bind fun r1 =>
   r1.elim
   (fun r2 => some r2)
   (fun r3 => some true)) := by kernel_rfl
theorem laws_kSame_l.eq (k : Nat) (a : List Int) (b : List Int) (t12 : Int) (t13 : Int) : laws_kSame_l (k + 1) (a, b, t12, t13) =
  cond (decide (t13 < t12))
  (cond (inB t13 a.length)
   (cond (inB t13 b.length)
    (cond ((a.getD t13.toNat default) != (b.getD t13.toNat default))
     (some (.inl false))
     (laws_kSame_l k (a, b, t12, (w64 (t13 + 1)))))
    (none))
   (none))
  (some (.inr ())) := by kernel_rfl
theorem laws_FnWalkersSent_c_c.eq (k : Nat) (more : List Int) (r_Out : List (List Int)) (r_Rotor : List Int) (at_ : Int) (ends : List Int) (count : Int) (sent : List Int) (ok : Bool) : laws_FnWalkersSent_c_c (k + 1) (more, (r_Out, r_Rotor), at_, ends, count, sent, ok) =
  cond ok
  ((laws_FnWalkersSent_c_c_c k (more, (r_Out, r_Rotor), at_, ends, count, sent)).bind fun r1 =>
   r1.elim
   (fun r2 => some r2)
   (fun r3 => (laws_FnWalkersSent_c_c_c_2 k r3).bind fun r4 =>
    some r4))
  ((laws_FnWalkersSent_c_c_c_2 k more).bind fun r5 =>
   some r5) := by kernel_rfl
theorem laws_FnWalkersSent_c_c_c.eq (k : Nat) (more : List Int) (r_Out : List (List Int)) (r_Rotor : List Int) (at_ : Int) (ends : List Int) (count : Int) (sent : List Int) : laws_FnWalkersSent_c_c_c (k + 1) (more, (r_Out, r_Rotor), at_, ends, count, sent) =
  (laws_kSum k sent).bind fun r1 =>
  cond (r1 != count)
  (some (.inl false))
  (cond ((sent.length : Int) != (ends.length : Int))
   (some (.inl false))
   ((laws_FnWalkersSent_c_c_c_l k (more, (r_Out, r_Rotor), at_, sent, ends, (ends.length : Int), 0)).bind fun r2 =>
    r2.elim
    (fun r3 => some (.inl r3))
    (fun r4 => some (.inr r4)))) := by kernel_rfl
theorem laws_kSum.eq (k : Nat) (list : List Int) : laws_kSum (k + 1) list =
  (laws_kSum_l k (0, list, (list.length : Int), 0)).bind fun r1 =>
  some r1 := by kernel_rfl
theorem laws_kSum_l.eq (k : Nat) (sum : Int) (t6 : List Int) (t7 : Int) (t8 : Int) : laws_kSum_l (k + 1) (sum, t6, t7, t8) =
  cond (decide (t8 < t7))
  (cond (inB t8 t6.length)
   (laws_kSum_l k ((w64 (sum + (t6.getD t8.toNat default))), t6, t7, (w64 (t8 + 1))))
   (none))
  (some sum) := by kernel_rfl
theorem laws_FnWalkersSent_c_c_c_l.eq (k : Nat) (more : List Int) (r_Out : List (List Int)) (r_Rotor : List Int) (at_ : Int) (sent : List Int) (t122 : List Int) (t123 : Int) (t124 : Int) : laws_FnWalkersSent_c_c_c_l (k + 1) (more, (r_Out, r_Rotor), at_, sent, t122, t123, t124) =
  cond (decide (t124 < t123))
  (cond (inB t124 t122.length)
   ((impl_CanWalk k ((r_Out, r_Rotor), at_, (t122.getD t124.toNat default))).bind fun r1 =>
    cond (!r1.2)
    (some (.inl false))
    (cond (inB t124 sent.length)
     (cond (decide ((sent.getD t124.toNat default) > 0))
      (cond (!r1.1)
       (some (.inl false))
       (laws_FnWalkersSent_c_c_c_l k (more, (r_Out, r_Rotor), at_, sent, t122, t123, (w64 (t124 + 1)))))
      (laws_FnWalkersSent_c_c_c_l k (more, (r_Out, r_Rotor), at_, sent, t122, t123, (w64 (t124 + 1)))))
     (none)))
   (none))
  (some (.inr more)) := by kernel_rfl
theorem impl_CanWalk.eq (k : Nat) (r_Out : List (List Int)) (r_Rotor : List Int) (at_ : Int) (goal : Int) : impl_CanWalk (k + 1) ((r_Out, r_Rotor), at_, goal) =
  (impl_isNode k ((r_Out, r_Rotor), [at_, goal])).bind fun r1 =>
  cond (!r1)
  (some (false, false))
  ((impl_CanWalk_l k (goal, (r_Out, r_Rotor), [at_], 0)).bind fun r2 =>
   (slices_Contains k (r2.2, r2.1)).bind fun r3 =>
   some (r3, true)) := by kernel_rfl
theorem impl_CanWalk_l.eq (k : Nat) (goal : Int) (r_Out : List (List Int)) (r_Rotor : List Int) (list : List Int) (i : Int) : impl_CanWalk_l (k + 1) (goal, (r_Out, r_Rotor), list, i) =
  cond (decide (i < (list.length : Int)))
  (cond (inB i list.length)
   (cond (inB (list.getD i.toNat default) r_Out.length)
    ((impl_CanWalk_l_l k (goal, (r_Out, r_Rotor), list, i, (List.getD r_Out ((list.getD i.toNat default).toNat) []), ((List.getD r_Out ((list.getD i.toNat default).toNat) []).length : Int), 0)).bind fun r1 =>
     impl_CanWalk_l k (r1.1, r1.2.1, r1.2.2.1, (w64 (r1.2.2.2 + 1))))
    (none))
   (none))
  (some (goal, list)) := by kernel_rfl
theorem impl_CanWalk_l_l.eq (k : Nat) (goal : Int) (r_Out : List (List Int)) (r_Rotor : List Int) (list : List Int) (i : Int) (t33 : List Int) (t34 : Int) (t35 : Int) : impl_CanWalk_l_l (k + 1) (goal, (r_Out, r_Rotor), list, i, t33, t34, t35) =
  cond (decide (t35 < t34))
  (cond (inB t35 t33.length)
   ((slices_Contains k (list, (t33.getD t35.toNat default))).bind fun r1 =>
    cond (!r1)
    (cond (fits (list.length + 1) 8)
     (impl_CanWalk_l_l k (goal, (r_Out, r_Rotor), (list ++ [(t33.getD t35.toNat default)]), i, t33, t34, (w64 (t35 + 1))))
     (none))
    (impl_CanWalk_l_l k (goal, (r_Out, r_Rotor), list, i, t33, t34, (w64 (t35 + 1)))))
   (none))
  (some (goal, (r_Out, r_Rotor), list, i)) := by kernel_rfl
theorem laws_FnWalkersSent_c_c_c_2.eq (k : Nat) (more : List Int) : laws_FnWalkersSent_c_c_c_2 (k + 1) more =
  (spec_DrawStepsToNode k more).bind fun r1 =>
  (impl_StepsToNode k r1).bind fun r2 =>
  (spec_StepsToNode k r1).bind fun r3 =>
  (impl_CanWalk k r1).bind fun r4 =>
  (spec_CanWalk k r1).bind fun r5 =>
  (impl_ResetRoute k r1.1).bind fun r6 =>
  (spec_ResetRoute k r1.1).bind fun r7 =>
  (spec_DrawTurnRotor k more).bind fun r8 =>
  (impl_TurnRotor k r8).bind fun r9 =>
  (spec_TurnRotor k r8).bind fun r10 =>
  (spec_DrawRingRoute k more).bind fun r11 =>
  (impl_RingRoute k r11).bind fun r12 =>
  (spec_RingRoute k r11).bind fun r13 =>
  (impl_LineRoute k r11).bind fun r14 =>
  (spec_LineRoute k r11).bind fun r15 =>
  (spec_DrawFillLine k more).bind fun r16 =>
  (impl_FillLine k r16).bind fun r17 =>
  (spec_FillLine k r16).bind fun r18 =>
  (impl_FillSteps k r16).bind fun r19 =>
  (spec_FillSteps k r16).bind fun r20 =>
  (laws_FnWalkersSent_c_c_c_2_c k (r1.1, r1.2.1, r1.2.2, r2.1, r2.2, r3.1, r3.2, r4.1, r4.2, r5.1, r5.2, r6.1, r6.2, r7.1, r7.2, r8.1, r8.2, r9.1, r9.2, r10.1, r10.2, r11, r12.1, r12.2, r13.1, r13.2, r14.1, r14.2, r15.1, r15.2, r16, r17.1, r17.2.1, r17.2.2, r18.1, r18.2.1, r18.2.2, r19.1, r19.2, r20.1, r20.2)).bind fun r21 =>
  some r21 := by kernel_rfl
theorem spec_DrawStepsToNode.eq (k : Nat) (code : List Int) : spec_DrawStepsToNode (k + 1) code =
  (spec_l1Cur_route k (code, 0, 0)).bind fun r1 =>
  (spec_l1Cur_pick k (r1.2, (w64 ((r1.1.1.length : Int) + 1)))).bind fun r2 =>
  (spec_l1Cur_pick k (r2.2, (w64 ((r1.1.1.length : Int) + 1)))).bind fun r3 =>
  some (r1.1, r2.1, r3.1) := by kernel_rfl
theorem impl_StepsToNode.eq (k : Nat) (r_Out : List (List Int)) (r_Rotor : List Int) (at_ : Int) (goal : Int) : impl_StepsToNode (k + 1) ((r_Out, r_Rotor), at_, goal) =
  (impl_isNode k ((r_Out, r_Rotor), [at_, goal])).bind fun r1 =>
  cond (!r1)
  (some (0, false))
  ((impl_Route_visited k ((r_Out, r_Rotor), at_, 3000)).bind fun r2 =>
   (slices_Index k (r2, goal)).bind fun r3 =>
   some ((w64 (r3 + 1)), (decide ((w64 (r3 + 1)) > 0)))) := by kernel_rfl
theorem impl_Route_visited.eq (k : Nat) (r_Out : List (List Int)) (r_Rotor : List Int) (at_ : Int) (steps : Int) : impl_Route_visited (k + 1) ((r_Out, r_Rotor), at_, steps) =
  (impl_Route_own k (r_Out, r_Rotor)).bind fun r1 =>
  (impl_Route_visited_l k (at_, r1, [], steps, 0)).bind fun r2 =>
  some r2 := by kernel_rfl
theorem impl_Route_visited_l.eq (k : Nat) (at_ : Int) (own_Out : List (List Int)) (own_Rotor : List Int) (out : List Int) (t12 : Int) (t13 : Int) : impl_Route_visited_l (k + 1) (at_, (own_Out, own_Rotor), out, t12, t13) =
  cond (decide (t13 < t12))
  ((impl_Route_step k ((own_Out, own_Rotor), at_)).bind fun r1 =>
   cond (fits (out.length + 1) 8)
   (impl_Route_visited_l k (r1.1, (own_Out, r1.2.2), (out ++ [r1.1]), t12, (w64 (t13 + 1))))
   (none))
  (some out) := by kernel_rfl
theorem spec_StepsToNode.eq (k : Nat) (r_Out : List (List Int)) (r_Rotor : List Int) (at_ : Int) (goal : Int) : spec_StepsToNode (k + 1) ((r_Out, r_Rotor), at_, goal) =
  (spec_roNode k ((r_Out, r_Rotor), at_)).bind fun r1 =>
  cond (!r1)
  (some (0, false))
  ((spec_roNode k ((r_Out, r_Rotor), goal)).bind fun r2 =>
   cond (!r2)
   (some (0, false))
   ((spec_roOwn k (r_Out, r_Rotor)).bind fun r3 =>
    (spec_roTo k (r3, at_, [goal])).bind fun r4 =>
    some (r4.1.1, (decide (r4.1.1 > 0))))) := by kernel_rfl
theorem spec_CanWalk.eq (k : Nat) (r_Out : List (List Int)) (r_Rotor : List Int) (at_ : Int) (goal : Int) : spec_CanWalk (k + 1) ((r_Out, r_Rotor), at_, goal) =
  (spec_roNode k ((r_Out, r_Rotor), at_)).bind fun r1 =>
  cond (!r1)
  (some (false, false))
  ((spec_roNode k ((r_Out, r_Rotor), goal)).bind fun r2 =>
   cond (!r2)
   (some (false, false))
   ((spec_CanWalk_l k (goal, (r_Out, r_Rotor), [at_], 0)).bind fun r3 =>
    (spec_l1Has k (r3.2, r3.1)).bind fun r4 =>
    some (r4, true))) := by kernel_rfl
theorem spec_CanWalk_l.eq (k : Nat) (goal : Int) (r_Out : List (List Int)) (r_Rotor : List Int) (queue : List Int) (k_ : Int) : spec_CanWalk_l (k + 1) (goal, (r_Out, r_Rotor), queue, k_) =
  cond (decide (k_ < (queue.length : Int)))
  (cond (inB k_ queue.length)
   (cond (inB (queue.getD k_.toNat default) r_Out.length)
    ((spec_CanWalk_l_l k (goal, (r_Out, r_Rotor), queue, k_, (List.getD r_Out ((queue.getD k_.toNat default).toNat) []), ((List.getD r_Out ((queue.getD k_.toNat default).toNat) []).length : Int), 0)).bind fun r1 =>
     spec_CanWalk_l k (r1.1, r1.2.1, r1.2.2.1, (w64 (r1.2.2.2 + 1))))
    (none))
   (none))
  (some (goal, queue)) := by kernel_rfl
theorem spec_CanWalk_l_l.eq (k : Nat) (goal : Int) (r_Out : List (List Int)) (r_Rotor : List Int) (queue : List Int) (k_ : Int) (t37 : List Int) (t38 : Int) (t39 : Int) : spec_CanWalk_l_l (k + 1) (goal, (r_Out, r_Rotor), queue, k_, t37, t38, t39) =
  cond (decide (t39 < t38))
  (cond (inB t39 t37.length)
   ((spec_l1Has k (queue, (t37.getD t39.toNat default))).bind fun r1 =>
    cond (!r1)
    (cond (fits (queue.length + 1) 8)
     (spec_CanWalk_l_l k (goal, (r_Out, r_Rotor), (queue ++ [(t37.getD t39.toNat default)]), k_, t37, t38, (w64 (t39 + 1))))
     (none))
    (spec_CanWalk_l_l k (goal, (r_Out, r_Rotor), queue, k_, t37, t38, (w64 (t39 + 1)))))
   (none))
  (some (goal, (r_Out, r_Rotor), queue, k_)) := by kernel_rfl
theorem impl_ResetRoute.eq (k : Nat) (r_Out : List (List Int)) (r_Rotor : List Int) : impl_ResetRoute (k + 1) (r_Out, r_Rotor) =
  (impl_IsRoute k (r_Out, r_Rotor)).bind fun r1 =>
  cond (!r1)
  (some (([], []), false))
  ((impl_Route_own k (r_Out, r_Rotor)).bind fun r2 =>
   cond (((decide ((0 : Int) ≤ (r_Rotor.length : Int))) && (decide ((r_Rotor.length : Int) ≤ (r_Rotor.length : Int)))) && (fits (r_Rotor.length : Int).toNat 8))
   (some ((r2.1, (List.replicate (r_Rotor.length : Int).toNat 0)), true))
   (none)) := by kernel_rfl
theorem spec_ResetRoute.eq (k : Nat) (r_Out : List (List Int)) (r_Rotor : List Int) : spec_ResetRoute (k + 1) (r_Out, r_Rotor) =
  (spec_roGood k (r_Out, r_Rotor)).bind fun r1 =>
  cond (!r1)
  (some (([], []), false))
  ((spec_roOwn k (r_Out, r_Rotor)).bind fun r2 =>
   cond (((decide ((0 : Int) ≤ (r_Rotor.length : Int))) && (decide ((r_Rotor.length : Int) ≤ (r_Rotor.length : Int)))) && (fits (r_Rotor.length : Int).toNat 8))
   (some ((r2.1, (List.replicate (r_Rotor.length : Int).toNat 0)), true))
   (none)) := by kernel_rfl
theorem spec_DrawTurnRotor.eq (k : Nat) (code : List Int) : spec_DrawTurnRotor (k + 1) code =
  (spec_DrawStepRoute k code).bind fun r1 =>
  some r1 := by kernel_rfl
theorem spec_DrawStepRoute.eq (k : Nat) (code : List Int) : spec_DrawStepRoute (k + 1) code =
  (spec_l1Cur_route k (code, 0, 0)).bind fun r1 =>
  (spec_l1Cur_pick k (r1.2, (w64 ((r1.1.1.length : Int) + 2)))).bind fun r2 =>
  (spec_l1Cur_pick k (r2.2, 12)).bind fun r3 =>
  some (r1.1, (w64 (r2.1 - (w64 (r3.1.tdiv 11))))) := by kernel_rfl
theorem impl_TurnRotor.eq (k : Nat) (r_Out : List (List Int)) (r_Rotor : List Int) (node : Int) : impl_TurnRotor (k + 1) ((r_Out, r_Rotor), node) =
  (impl_isNode k ((r_Out, r_Rotor), [node])).bind fun r1 =>
  cond (!r1)
  (some (([], []), false))
  ((impl_Route_own k (r_Out, r_Rotor)).bind fun r2 =>
   (impl_Route_turn k (r2, node)).bind fun r3 =>
   some ((r2.1, r3.2.2), true)) := by kernel_rfl
theorem spec_TurnRotor.eq (k : Nat) (r_Out : List (List Int)) (r_Rotor : List Int) (node : Int) : spec_TurnRotor (k + 1) ((r_Out, r_Rotor), node) =
  (spec_roNode k ((r_Out, r_Rotor), node)).bind fun r1 =>
  cond (!r1)
  (some (([], []), false))
  ((spec_roOwn k (r_Out, r_Rotor)).bind fun r2 =>
   (spec_roStep k (r2, node)).bind fun r3 =>
   some ((r2.1, r3.2.2), true)) := by kernel_rfl
theorem spec_DrawRingRoute.eq (k : Nat) (code : List Int) : spec_DrawRingRoute (k + 1) code =
  (spec_l1Cur_among k ((code, 0, 0), [1, 2, 3, 5, 10, 11, 0, (-1)])).bind fun r1 =>
  some r1.1 := by kernel_rfl
theorem impl_RingRoute.eq (k : Nat) (nodes : Int) : impl_RingRoute (k + 1) nodes =
  (impl_isNodes k nodes).bind fun r1 =>
  cond (!r1)
  (some (([], []), false))
  ((impl_routeOf k (nodes, nodes)).bind fun r2 =>
   some (r2, true)) := by kernel_rfl
theorem impl_routeOf.eq (k : Nat) (nodes : Int) (to_0 : Int) : impl_routeOf (k + 1) (nodes, to_0) =
  cond (((decide ((0 : Int) ≤ nodes)) && (decide (nodes ≤ nodes))) && (fits nodes.toNat 8))
  ((impl_routeOf_l k (to_0, ([], []), ([], (List.replicate nodes.toNat 0)), nodes, 0)).bind fun r1 =>
   some r1.2)
  (none) := by kernel_rfl
theorem impl_routeOf_l.eq (k : Nat) (to_0 : Int) (t4_Out : List (List Int)) (t4_Rotor : List Int) (r_Out : List (List Int)) (r_Rotor : List Int) (t10 : Int) (t11 : Int) : impl_routeOf_l (k + 1) (to_0, (t4_Out, t4_Rotor), (r_Out, r_Rotor), t10, t11) =
  cond (decide (t11 < t10))
  ((impl_RingRoute_1 k (t11, to_0)).bind fun r1 =>
   cond (fits (r_Out.length + 1) 24)
   (impl_routeOf_l k (to_0, (t4_Out, t4_Rotor), ((r_Out ++ [r1]), r_Rotor), t10, (w64 (t11 + 1))))
   (none))
  (some ((t4_Out, t4_Rotor), (r_Out, r_Rotor))) := by kernel_rfl
theorem impl_RingRoute_1.eq (k : Nat) (k_ : Int) (t1_0 : Int) : impl_RingRoute_1 (k + 1) (k_, t1_0) =
  cond (t1_0 != 0)
  (cond (t1_0 != 0)
   (some ([((w64 (k_ + 1)).tmod t1_0), ((w64 ((w64 (k_ + t1_0)) - 1)).tmod t1_0)]))
   (none))
  (none) := by kernel_rfl
theorem impl_LineRoute.eq (k : Nat) (nodes : Int) : impl_LineRoute (k + 1) nodes =
  (impl_within k (nodes, 2, 10)).bind fun r1 =>
  cond (!r1)
  (some (([], []), false))
  ((impl_routeOf_2 k (nodes, nodes)).bind fun r2 =>
   some (r2, true)) := by kernel_rfl
theorem impl_routeOf_2.eq (k : Nat) (nodes : Int) (to_0 : Int) : impl_routeOf_2 (k + 1) (nodes, to_0) =
  cond (((decide ((0 : Int) ≤ nodes)) && (decide (nodes ≤ nodes))) && (fits nodes.toNat 8))
  ((impl_routeOf_2_l k (to_0, ([], []), ([], (List.replicate nodes.toNat 0)), nodes, 0)).bind fun r1 =>
   some r1.2)
  (none) := by kernel_rfl
theorem impl_routeOf_2_l.eq (k : Nat) (to_0 : Int) (t4_Out : List (List Int)) (t4_Rotor : List Int) (r_Out : List (List Int)) (r_Rotor : List Int) (t10 : Int) (t11 : Int) : impl_routeOf_2_l (k + 1) (to_0, (t4_Out, t4_Rotor), (r_Out, r_Rotor), t10, t11) =
  cond (decide (t11 < t10))
  ((impl_LineRoute_1 k (t11, to_0)).bind fun r1 =>
   cond (fits (r_Out.length + 1) 24)
   (impl_routeOf_2_l k (to_0, (t4_Out, t4_Rotor), ((r_Out ++ [r1]), r_Rotor), t10, (w64 (t11 + 1))))
   (none))
  (some ((t4_Out, t4_Rotor), (r_Out, r_Rotor))) := by kernel_rfl
theorem impl_LineRoute_1.eq (k : Nat) (k_ : Int) (t1_0 : Int) : impl_LineRoute_1 (k + 1) (k_, t1_0) =
  cond (k_ == 0)
  (some ([1]))
  (cond (k_ == (w64 (t1_0 - 1)))
   (some ([(w64 (k_ - 1))]))
   (some ([(w64 (k_ - 1)), (w64 (k_ + 1))]))) := by kernel_rfl
theorem spec_DrawFillLine.eq (k : Nat) (code : List Int) : spec_DrawFillLine (k + 1) code =
  (spec_l1Cur_among k ((code, 0, 0), [1, 2, 3, 4, 7, 20, 40, 41, 0])).bind fun r1 =>
  some r1.1 := by kernel_rfl
theorem impl_FillLine.eq (k : Nat) (walkers : Int) : impl_FillLine (k + 1) walkers =
  (impl_within k (walkers, 1, 40)).bind fun r1 =>
  cond (!r1)
  (some (0, 0, false))
  ((impl_fill k walkers).bind fun r2 =>
   some (r2.1, r2.2.1, true)) := by kernel_rfl
theorem impl_fill.eq (k : Nat) (walkers : Int) : impl_fill (k + 1) walkers =
  (impl_fill_l k ([], [], 0, 0, 0, walkers, 0)).bind fun r1 =>
  some r1 := by kernel_rfl
theorem impl_fill_l.eq (k : Nat) (full : List (Int × Bool)) (right : List (Int × Bool)) (low : Int) (high : Int) (steps : Int) (t14 : Int) (t15 : Int) : impl_fill_l (k + 1) (full, right, low, high, steps, t14, t15) =
  cond (decide (t15 < t14))
  ((impl_fill_l_l k (full, right, low, high, steps, 0, t14, t15)).bind fun r1 =>
   impl_fill_l k ((mput (K := Int) (α := Bool) (Sh.eqT (.int .i64)) r1.1 r1.2.2.2.2.2.1 true), r1.2.1, (if r1.2.2.2.2.2.1 < r1.2.2.1 then r1.2.2.2.2.2.1 else r1.2.2.1), (if r1.2.2.2.2.2.1 > r1.2.2.2.1 then r1.2.2.2.2.2.1 else r1.2.2.2.1), r1.2.2.2.2.1, r1.2.2.2.2.2.2.1, (w64 (r1.2.2.2.2.2.2.2 + 1))))
  (some (low, high, steps)) := by kernel_rfl
theorem impl_fill_l_l.eq (k : Nat) (full : List (Int × Bool)) (right : List (Int × Bool)) (low : Int) (high : Int) (steps : Int) (at_ : Int) (t14 : Int) (t15 : Int) : impl_fill_l_l (k + 1) (full, right, low, high, steps, at_, t14, t15) =
  cond (mget (K := Int) (α := Bool) (Sh.eqT (.int .i64)) full at_ false)
  ((impl_bit k (mget (K := Int) (α := Bool) (Sh.eqT (.int .i64)) right at_ false)).bind fun r1 =>
   impl_fill_l_l k (full, (mput (K := Int) (α := Bool) (Sh.eqT (.int .i64)) right at_ (!(mget (K := Int) (α := Bool) (Sh.eqT (.int .i64)) right at_ false))), low, high, (w64 (steps + 1)), (w64 (at_ + (w64 ((w64 (2 * r1)) - 1)))), t14, t15))
  (some (full, right, low, high, steps, at_, t14, t15)) := by kernel_rfl
theorem impl_bit.eq (k : Nat) (b : Bool) : impl_bit (k + 1) b =
  cond b
  (some 1)
  (some 0) := by kernel_rfl
theorem spec_FillLine.eq (k : Nat) (walkers : Int) : spec_FillLine (k + 1) walkers =
  (spec_l1In k (walkers, 1, 40)).bind fun r1 =>
  cond (!r1)
  (some (0, 0, false))
  ((spec_roFill k walkers).bind fun r2 =>
   some (r2.1, r2.2.1, true)) := by kernel_rfl
theorem spec_roFill.eq (k : Nat) (walkers : Int) : spec_roFill (k + 1) walkers =
  cond (fits 101 1)
  (cond (fits 101 1)
   ((spec_roFill_l k (walkers, [false, false, false, false, false, false, false, false, false, false, false, false, false, false, false, false, false, false, false, false, false, false, false, false, false, false, false, false, false, false, false, false, false, false, false, false, false, false, false, false, false, false, false, false, false, false, false, false, false, false, false, false, false, false, false, false, false, false, false, false, false, false, false, false, false, false, false, false, false, false, false, false, false, false, false, false, false, false, false, false, false, false, false, false, false, false, false, false, false, false, false, false, false, false, false, false, false, false, false, false, false], [false, false, false, false, false, false, false, false, false, false, false, false, false, false, false, false, false, false, false, false, false, false, false, false, false, false, false, false, false, false, false, false, false, false, false, false, false, false, false, false, false, false, false, false, false, false, false, false, false, false, false, false, false, false, false, false, false, false, false, false, false, false, false, false, false, false, false, false, false, false, false, false, false, false, false, false, false, false, false, false, false, false, false, false, false, false, false, false, false, false, false, false, false, false, false, false, false, false, false, false, false], 50, 50, 0)).bind fun r1 =>
    some ((w64 (r1.1 - 50)), (w64 (r1.2.1 - 50)), r1.2.2))
   (none))
  (none) := by kernel_rfl
theorem spec_roFill_l.eq (k : Nat) (walkers : Int) (full : List Bool) (right : List Bool) (low : Int) (high : Int) (steps : Int) : spec_roFill_l (k + 1) (walkers, full, right, low, high, steps) =
  cond (decide (walkers > 0))
  ((spec_roFill_l_l k (walkers, full, right, low, high, steps, 50)).bind fun r1 =>
   cond (inB r1.2.2.2.2.2.2 r1.2.1.length)
   ((spec_l1Least k (r1.2.2.2.1, r1.2.2.2.2.2.2)).bind fun r2 =>
    (spec_l1Most k (r1.2.2.2.2.1, r1.2.2.2.2.2.2)).bind fun r3 =>
    spec_roFill_l k ((w64 (r1.1 - 1)), (r1.2.1.set r1.2.2.2.2.2.2.toNat true), r1.2.2.1, r2, r3, r1.2.2.2.2.2.1))
   (none))
  (some (low, high, steps)) := by kernel_rfl
theorem spec_roFill_l_l.eq (k : Nat) (walkers : Int) (full : List Bool) (right : List Bool) (low : Int) (high : Int) (steps : Int) (at_ : Int) : spec_roFill_l_l (k + 1) (walkers, full, right, low, high, steps, at_) =
  cond (inB at_ full.length)
  (cond (full.getD at_.toNat default)
   (cond (inB at_ right.length)
    (cond (right.getD at_.toNat default)
     (cond (inB at_ right.length)
      (cond (inB at_ right.length)
       (spec_roFill_l_l k (walkers, full, (right.set at_.toNat (!(right.getD at_.toNat default))), low, high, (w64 (steps + 1)), (w64 (at_ + 1))))
       (none))
      (none))
     (cond (inB at_ right.length)
      (cond (inB at_ right.length)
       (spec_roFill_l_l k (walkers, full, (right.set at_.toNat (!(right.getD at_.toNat default))), low, high, (w64 (steps + 1)), (w64 (at_ + (-1)))))
       (none))
      (none)))
    (none))
   (some (walkers, full, right, low, high, steps, at_)))
  (none) := by kernel_rfl
theorem spec_l1Least.eq (k : Nat) (a : Int) (b : Int) : spec_l1Least (k + 1) (a, b) =
  cond (decide (a < b))
  (some a)
  (some b) := by kernel_rfl
theorem spec_l1Most.eq (k : Nat) (a : Int) (b : Int) : spec_l1Most (k + 1) (a, b) =
  cond (decide (a > b))
  (some a)
  (some b) := by kernel_rfl
theorem impl_FillSteps.eq (k : Nat) (walkers : Int) : impl_FillSteps (k + 1) walkers =
  (impl_within k (walkers, 1, 40)).bind fun r1 =>
  cond (!r1)
  (some (0, false))
  ((impl_fill k walkers).bind fun r2 =>
   some (r2.2.2, true)) := by kernel_rfl
theorem spec_FillSteps.eq (k : Nat) (walkers : Int) : spec_FillSteps (k + 1) walkers =
  (spec_l1In k (walkers, 1, 40)).bind fun r1 =>
  cond (!r1)
  (some (0, false))
  ((spec_roFill k walkers).bind fun r2 =>
   some (r2.2.2, true)) := by kernel_rfl
theorem laws_FnWalkersSent_c_c_c_2_c.eq (k : Nat) (s_Out : List (List Int)) (s_Rotor : List Int) (node : Int) (goal : Int) (steps : Int) (one : Bool) (want : Int) (two : Bool) (can : Bool) (three : Bool) (model : Bool) (four : Bool) (reset_Out : List (List Int)) (reset_Rotor : List Int) (five : Bool) (value_Out : List (List Int)) (value_Rotor : List Int) (six : Bool) (u_Out : List (List Int)) (u_Rotor : List Int) (k_ : Int) (turned_Out : List (List Int)) (turned_Rotor : List Int) (seven : Bool) (due_Out : List (List Int)) (due_Rotor : List Int) (eight : Bool) (n : Int) (ring_Out : List (List Int)) (ring_Rotor : List Int) (nine : Bool) (own_Out : List (List Int)) (own_Rotor : List Int) (ten : Bool) (line_Out : List (List Int)) (line_Rotor : List Int) (eleven : Bool) (list_Out : List (List Int)) (list_Rotor : List Int) (twelve : Bool) (walkers : Int) (low : Int) (high : Int) (thirteen : Bool) (a : Int) (b : Int) (fourteen : Bool) (all : Int) (fifteen : Bool) (number : Int) (sixteen : Bool) : laws_FnWalkersSent_c_c_c_2_c (k + 1) ((s_Out, s_Rotor), node, goal, steps, one, want, two, can, three, model, four, (reset_Out, reset_Rotor), five, (value_Out, value_Rotor), six, (u_Out, u_Rotor), k_, (turned_Out, turned_Rotor), seven, (due_Out, due_Rotor), eight, n, (ring_Out, ring_Rotor), nine, (own_Out, own_Rotor), ten, (line_Out, line_Rotor), eleven, (list_Out, list_Rotor), twelve, walkers, low, high, thirteen, a, b, fourteen, all, fifteen, number, sixteen) =
  cond (!(one == two))
  (some false)
  (cond (steps != want)
   (some false)
   (cond (!(three == four))
    (some false)
    (cond (!(can == model))
     (some false)
     (cond (!(five == six))
      (some false)
      ((laws_kRoute k ((reset_Out, reset_Rotor), (value_Out, value_Rotor))).bind fun r1 =>
       cond (!r1)
       (some false)
       (cond (!(seven == eight))
        (some false)
        ((laws_kRoute k ((turned_Out, turned_Rotor), (due_Out, due_Rotor))).bind fun r2 =>
         cond (!r2)
         (some false)
         (cond (!(nine == ten))
          (some false)
          ((laws_kRoute k ((ring_Out, ring_Rotor), (own_Out, own_Rotor))).bind fun r3 =>
           cond (!r3)
           (some false)
           (cond (!(eleven == twelve))
            (some false)
            ((laws_kRoute k ((line_Out, line_Rotor), (list_Out, list_Rotor))).bind fun r4 =>
             cond (!r4)
             (some false)
             (cond (!(thirteen == fourteen))
              (some false)
              (cond (low != a)
               (some false)
               (cond (high != b)
                (some false)
                (cond (!(fifteen == sixteen))
                 (some false)
                 (cond (all != number)
                  (some false)
                  (cond (!(fifteen == thirteen))
                   (some false)
                   (cond one
                    (cond three
                     (cond (!can)
                      (some false)
                      ((laws_FnWalkersSent_c_c_c_2_c_c k ((s_Out, s_Rotor), node, goal, steps, one, (reset_Out, reset_Rotor), five, (u_Out, u_Rotor), k_, seven, n, (ring_Out, ring_Rotor), nine, (line_Out, line_Rotor), eleven, walkers, low, high, thirteen, all)).bind fun r5 =>
                       some r5))
                     (some false))
                    ((laws_FnWalkersSent_c_c_c_2_c_c k ((s_Out, s_Rotor), node, goal, steps, one, (reset_Out, reset_Rotor), five, (u_Out, u_Rotor), k_, seven, n, (ring_Out, ring_Rotor), nine, (line_Out, line_Rotor), eleven, walkers, low, high, thirteen, all)).bind fun r6 =>
                     some r6))))))))))))))))))) := by kernel_rfl
theorem laws_kRoute.eq (k : Nat) (a_Out : List (List Int)) (a_Rotor : List Int) (b_Out : List (List Int)) (b_Rotor : List Int) : laws_kRoute (k + 1) ((a_Out, a_Rotor), (b_Out, b_Rotor)) =
  (laws_kRows k (a_Out, b_Out)).bind fun r1 =>
  cond r1
  ((laws_kSame k (a_Rotor, b_Rotor)).bind fun r2 =>
   some r2)
  (some false) := by kernel_rfl
theorem laws_kRows.eq (k : Nat) (a : List (List Int)) (b : List (List Int)) : laws_kRows (k + 1) (a, b) =
  cond ((a.length : Int) != (b.length : Int))
  (some false)
  ((laws_kRows_l k (a, b, (a.length : Int), 0)).bind fun r1 =>
   r1.elim
   (fun r2 => some r2)
   (fun r3 => some true)) := by kernel_rfl
theorem laws_kRows_l.eq (k : Nat) (a : List (List Int)) (b : List (List Int)) (t12 : Int) (t13 : Int) : laws_kRows_l (k + 1) (a, b, t12, t13) =
  cond (decide (t13 < t12))
  (cond (inB t13 a.length)
   (cond (inB t13 b.length)
    ((laws_kSame k ((List.getD a t13.toNat []), (List.getD b t13.toNat []))).bind fun r1 =>
     cond (!r1)
     (some (.inl false))
     (laws_kRows_l k (a, b, t12, (w64 (t13 + 1)))))
    (none))
   (none))
  (some (.inr ())) := by kernel_rfl
theorem laws_FnWalkersSent_c_c_c_2_c_c.eq (k : Nat) (s_Out : List (List Int)) (s_Rotor : List Int) (node : Int) (goal : Int) (steps : Int) (one : Bool) (reset_Out : List (List Int)) (reset_Rotor : List Int) (five : Bool) (u_Out : List (List Int)) (u_Rotor : List Int) (k_ : Int) (seven : Bool) (n : Int) (ring_Out : List (List Int)) (ring_Rotor : List Int) (nine : Bool) (line_Out : List (List Int)) (line_Rotor : List Int) (eleven : Bool) (walkers : Int) (low : Int) (high : Int) (thirteen : Bool) (all : Int) : laws_FnWalkersSent_c_c_c_2_c_c (k + 1) ((s_Out, s_Rotor), node, goal, steps, one, (reset_Out, reset_Rotor), five, (u_Out, u_Rotor), k_, seven, n, (ring_Out, ring_Rotor), nine, (line_Out, line_Rotor), eleven, walkers, low, high, thirteen, all) =
  cond one
  ((impl_WalkAfter k ((s_Out, s_Rotor), node, steps)).bind fun r1 =>
   (laws_FnWalkersSent_c_c_c_2_c_c_c k ((s_Out, s_Rotor), node, goal, steps, (reset_Out, reset_Rotor), five, (u_Out, u_Rotor), k_, seven, n, (ring_Out, ring_Rotor), nine, (line_Out, line_Rotor), eleven, walkers, low, high, thirteen, all, r1.2.1, r1.2.2)).bind fun r2 =>
   r2.elim
   (fun r3 => some r3)
   (fun r4 => (laws_FnWalkersSent_c_c_c_2_c_c_c_2 k r4).bind fun r5 =>
    some r5))
  ((laws_FnWalkersSent_c_c_c_2_c_c_c_2 k ((s_Out, s_Rotor), (reset_Out, reset_Rotor), five, (u_Out, u_Rotor), k_, seven, n, (ring_Out, ring_Rotor), nine, (line_Out, line_Rotor), eleven, walkers, low, high, thirteen, all)).bind fun r6 =>
   some r6) := by kernel_rfl
theorem impl_WalkAfter.eq (k : Nat) (r_Out : List (List Int)) (r_Rotor : List Int) (at_ : Int) (steps : Int) : impl_WalkAfter (k + 1) ((r_Out, r_Rotor), at_, steps) =
  (impl_isWalk k ((r_Out, r_Rotor), at_, steps)).bind fun r1 =>
  cond (!r1)
  (some (([], []), 0, false))
  ((impl_Route_own k (r_Out, r_Rotor)).bind fun r2 =>
   (impl_WalkAfter_l k (at_, ([], []), r2, steps, 0)).bind fun r3 =>
   some (r3.2.2, r3.1, true)) := by kernel_rfl
theorem impl_isWalk.eq (k : Nat) (r_Out : List (List Int)) (r_Rotor : List Int) (at_ : Int) (steps : Int) : impl_isWalk (k + 1) ((r_Out, r_Rotor), at_, steps) =
  (impl_isNode k ((r_Out, r_Rotor), [at_])).bind fun r1 =>
  cond r1
  ((impl_within k (steps, 0, 3000)).bind fun r2 =>
   some r2)
  (some false) := by kernel_rfl
theorem impl_WalkAfter_l.eq (k : Nat) (at_ : Int) (t6_Out : List (List Int)) (t6_Rotor : List Int) (out_Out : List (List Int)) (out_Rotor : List Int) (t18 : Int) (t19 : Int) : impl_WalkAfter_l (k + 1) (at_, (t6_Out, t6_Rotor), (out_Out, out_Rotor), t18, t19) =
  cond (decide (t19 < t18))
  ((impl_Route_step k ((out_Out, out_Rotor), at_)).bind fun r1 =>
   impl_WalkAfter_l k (r1.1, (t6_Out, t6_Rotor), (out_Out, r1.2.2), t18, (w64 (t19 + 1))))
  (some (at_, (t6_Out, t6_Rotor), (out_Out, out_Rotor))) := by kernel_rfl
end Go.Proofs.YtiaagflfiphioaaDoorS
