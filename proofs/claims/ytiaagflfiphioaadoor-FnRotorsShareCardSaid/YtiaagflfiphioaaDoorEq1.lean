/- What each function computes (printed by wip/sim/gen.py). -/
import Derived.Test.YtiaagflfiphioaaDoorTab
namespace Go.Proofs.YtiaagflfiphioaaDoorS
open Go Go.Proofs
set_option maxRecDepth 100000
set_option linter.unusedVariables false
theorem spec_WalkLoop_l.eq (k : Nat) (at_ : Int) (own_Out : List (List Int)) (own_Rotor : List Int) (states : List Int) (steps : Int) : spec_WalkLoop_l (k + 1) (at_, (own_Out, own_Rotor), states, steps) =
  cond (decide (steps ≤ 3000))
  ((spec_WalkLoop_l_l k (at_, (own_Out, own_Rotor), states, steps, 0, (), (own_Rotor.length : Int), 0)).bind fun r1 =>
   (spec_WalkLoop_l_l_2 k (r1.1, r1.2.1, r1.2.2.1, r1.2.2.2.1, (w64 ((w64 (r1.2.2.2.2 * 10)) + r1.1)), (), (r1.2.2.1.length : Int), 0)).bind fun r2 =>
   r2.elim
   (fun r3 => some (.inl r3))
   (fun r4 => cond (fits (r4.2.2.1.length + 1) 8)
    ((spec_roStep k (r4.2.1, r4.1)).bind fun r5 =>
     spec_WalkLoop_l k (r5.1, (r4.2.1.1, r5.2.2), (r4.2.2.1 ++ [r4.2.2.2.2]), (w64 (r4.2.2.2.1 + 1))))
    (none)))
  (some (.inr ())) := by kernel_rfl
theorem spec_WalkLoop_l_l.eq (k : Nat) (at_ : Int) (own_Out : List (List Int)) (own_Rotor : List Int) (states : List Int) (steps : Int) (n : Int) (t27 : Int) (t28 : Int) : spec_WalkLoop_l_l (k + 1) (at_, (own_Out, own_Rotor), states, steps, n, (), t27, t28) =
  cond (decide (t28 < t27))
  (cond (inB t28 own_Rotor.length)
   (spec_WalkLoop_l_l k (at_, (own_Out, own_Rotor), states, steps, (w64 ((w64 (n * 4)) + (own_Rotor.getD t28.toNat default))), (), t27, (w64 (t28 + 1))))
   (none))
  (some (at_, (own_Out, own_Rotor), states, steps, n)) := by kernel_rfl
theorem spec_WalkLoop_l_l_2.eq (k : Nat) (at_ : Int) (own_Out : List (List Int)) (own_Rotor : List Int) (states : List Int) (steps : Int) (n : Int) (t42 : Int) (t43 : Int) : spec_WalkLoop_l_l_2 (k + 1) (at_, (own_Out, own_Rotor), states, steps, n, (), t42, t43) =
  cond (decide (t43 < t42))
  (cond (inB t43 states.length)
   (cond ((states.getD t43.toNat default) == n)
    (some (.inl (t43, (w64 (steps - t43)), true)))
    (spec_WalkLoop_l_l_2 k (at_, (own_Out, own_Rotor), states, steps, n, (), t42, (w64 (t43 + 1)))))
   (none))
  (some (.inr (at_, (own_Out, own_Rotor), states, steps, n))) := by kernel_rfl
theorem spec_StepRoute.eq (k : Nat) (r_Out : List (List Int)) (r_Rotor : List Int) (at_ : Int) : spec_StepRoute (k + 1) ((r_Out, r_Rotor), at_) =
  (spec_roNode k ((r_Out, r_Rotor), at_)).bind fun r1 =>
  cond (!r1)
  (some (([], []), 0, false))
  ((spec_roOwn k (r_Out, r_Rotor)).bind fun r2 =>
   (spec_roStep k (r2, at_)).bind fun r3 =>
   some ((r2.1, r3.2.2), r3.1, true)) := by kernel_rfl
theorem laws_FnRotorsShare_c_c_c_2_c.eq (k : Nat) (s_Out : List (List Int)) (s_Rotor : List Int) (node : Int) (before : Int) (length : Int) (seven : Bool) (a : Int) (b : Int) (eight : Bool) (next_Out : List (List Int)) (next_Rotor : List Int) (goes : Int) (nine : Bool) (own_Out : List (List Int)) (own_Rotor : List Int) (there : Int) (ten : Bool) : laws_FnRotorsShare_c_c_c_2_c (k + 1) ((s_Out, s_Rotor), node, before, length, seven, a, b, eight, (next_Out, next_Rotor), goes, nine, (own_Out, own_Rotor), there, ten) =
  cond (!(seven == eight))
  (some false)
  (cond (before != a)
   (some false)
   (cond (length != b)
    (some false)
    (cond (!(nine == ten))
     (some false)
     (cond (goes != there)
      (some false)
      ((laws_kRoute k ((next_Out, next_Rotor), (own_Out, own_Rotor))).bind fun r1 =>
       cond (!r1)
       (some false)
       ((laws_FnRotorsShare_c_c_c_2_c_c k ((s_Out, s_Rotor), node, before, length, seven)).bind fun r2 =>
        some r2)))))) := by kernel_rfl
theorem laws_FnRotorsShare_c_c_c_2_c_c.eq (k : Nat) (s_Out : List (List Int)) (s_Rotor : List Int) (node : Int) (before : Int) (length : Int) (seven : Bool) : laws_FnRotorsShare_c_c_c_2_c_c (k + 1) ((s_Out, s_Rotor), node, before, length, seven) =
  cond seven
  ((impl_WalkAfter k ((s_Out, s_Rotor), node, before)).bind fun r1 =>
   (impl_WalkAfter k ((s_Out, s_Rotor), node, (w64 (before + length)))).bind fun r2 =>
   (laws_FnRotorsShare_c_c_c_2_c_c_c k ((s_Out, s_Rotor), node, before, length, r1.1, r1.2.1, r1.2.2, r2.1, r2.2.1, r2.2.2)).bind fun r3 =>
   r3.elim
   (fun r4 => some r4)
   (fun r5 => some true))
  (some true) := by kernel_rfl
theorem laws_FnRotorsShare_c_c_c_2_c_c_c.eq (k : Nat) (s_Out : List (List Int)) (s_Rotor : List Int) (node : Int) (before : Int) (length : Int) (x_Out : List (List Int)) (x_Rotor : List Int) (p : Int) (eleven : Bool) (y_Out : List (List Int)) (y_Rotor : List Int) (q : Int) (twelve : Bool) : laws_FnRotorsShare_c_c_c_2_c_c_c (k + 1) ((s_Out, s_Rotor), node, before, length, (x_Out, x_Rotor), p, eleven, (y_Out, y_Rotor), q, twelve) =
  cond (decide (length < 1))
  (some (.inl false))
  (cond (!eleven)
   (some (.inl false))
   (cond (!twelve)
    (some (.inl false))
    (cond (p != q)
     (some (.inl false))
     ((laws_kRoute k ((x_Out, x_Rotor), (y_Out, y_Rotor))).bind fun r1 =>
      cond (!r1)
      (some (.inl false))
      ((laws_FnRotorsShare_c_c_c_2_c_c_c_c k ((s_Out, s_Rotor), node, before, length, (x_Out, x_Rotor), p)).bind fun r2 =>
       r2.elim
       (fun r3 => some (.inl r3))
       (fun r4 => some (.inr ()))))))) := by kernel_rfl
theorem laws_FnRotorsShare_c_c_c_2_c_c_c_c.eq (k : Nat) (s_Out : List (List Int)) (s_Rotor : List Int) (node : Int) (before : Int) (length : Int) (x_Out : List (List Int)) (x_Rotor : List Int) (p : Int) : laws_FnRotorsShare_c_c_c_2_c_c_c_c (k + 1) ((s_Out, s_Rotor), node, before, length, (x_Out, x_Rotor), p) =
  cond (decide (before > 0))
  ((impl_WalkAfter k ((s_Out, s_Rotor), node, (w64 (before - 1)))).bind fun r1 =>
   (impl_WalkAfter k ((s_Out, s_Rotor), node, (w64 ((w64 (before + length)) - 1)))).bind fun r2 =>
   cond (!r1.2.2)
   ((laws_FnRotorsShare_c_c_c_2_c_c_c_c_c k (length, (x_Out, x_Rotor), p, true)).bind fun r3 =>
    r3.elim
    (fun r4 => some (.inl r4))
    (fun r5 => (laws_FnRotorsShare_c_c_c_2_c_c_c_c_c_2 k r5).bind fun r6 =>
     r6.elim
     (fun r7 => some (.inl r7))
     (fun r8 => some (.inr ()))))
   (cond (!r2.2.2)
    ((laws_FnRotorsShare_c_c_c_2_c_c_c_c_c k (length, (x_Out, x_Rotor), p, true)).bind fun r9 =>
     r9.elim
     (fun r10 => some (.inl r10))
     (fun r11 => (laws_FnRotorsShare_c_c_c_2_c_c_c_c_c_2 k r11).bind fun r12 =>
      r12.elim
      (fun r13 => some (.inl r13))
      (fun r14 => some (.inr ()))))
    (cond (r1.2.1 == r2.2.1)
     ((laws_kRoute k (r1.1, r2.1)).bind fun r15 =>
      (laws_FnRotorsShare_c_c_c_2_c_c_c_c_c k (length, (x_Out, x_Rotor), p, r15)).bind fun r16 =>
      r16.elim
      (fun r17 => some (.inl r17))
      (fun r18 => (laws_FnRotorsShare_c_c_c_2_c_c_c_c_c_2 k r18).bind fun r19 =>
       r19.elim
       (fun r20 => some (.inl r20))
       (fun r21 => some (.inr ()))))
     ((laws_FnRotorsShare_c_c_c_2_c_c_c_c_c k (length, (x_Out, x_Rotor), p, false)).bind fun r22 =>
      r22.elim
      (fun r23 => some (.inl r23))
      (fun r24 => (laws_FnRotorsShare_c_c_c_2_c_c_c_c_c_2 k r24).bind fun r25 =>
       r25.elim
       (fun r26 => some (.inl r26))
       (fun r27 => some (.inr ())))))))
  ((laws_FnRotorsShare_c_c_c_2_c_c_c_c_c_2 k (length, (x_Out, x_Rotor), p)).bind fun r28 =>
   r28.elim
   (fun r29 => some (.inl r29))
   (fun r30 => some (.inr ()))) := by kernel_rfl
theorem laws_FnRotorsShare_c_c_c_2_c_c_c_c_c.eq (k : Nat) (length : Int) (x_Out : List (List Int)) (x_Rotor : List Int) (p : Int) (t532 : Bool) : laws_FnRotorsShare_c_c_c_2_c_c_c_c_c (k + 1) (length, (x_Out, x_Rotor), p, t532) =
  cond t532
  (some (.inl false))
  (some (.inr (length, (x_Out, x_Rotor), p))) := by kernel_rfl
theorem laws_FnRotorsShare_c_c_c_2_c_c_c_c_c_2.eq (k : Nat) (length : Int) (x_Out : List (List Int)) (x_Rotor : List Int) (p : Int) : laws_FnRotorsShare_c_c_c_2_c_c_c_c_c_2 (k + 1) (length, (x_Out, x_Rotor), p) =
  (impl_LinesUsed k ((x_Out, x_Rotor), p, length)).bind fun r1 =>
  cond (!r1.2)
  (some (.inl false))
  ((laws_FnRotorsShare_c_c_c_2_c_c_c_c_c_2_l k (r1.1, (r1.1.length : Int), 0)).bind fun r2 =>
   r2.elim
   (fun r3 => some (.inl r3))
   (fun r4 => some (.inr ()))) := by kernel_rfl
theorem laws_FnRotorsShare_c_c_c_2_c_c_c_c_c_2_l.eq (k : Nat) (t542 : List (List Int)) (t543 : Int) (t544 : Int) : laws_FnRotorsShare_c_c_c_2_c_c_c_c_c_2_l (k + 1) (t542, t543, t544) =
  cond (decide (t544 < t543))
  (cond (inB t544 t542.length)
   ((laws_FnRotorsShare_c_c_c_2_c_c_c_c_c_2_l_l k ((List.getD t542 t544.toNat []), t542, t543, t544, (), ((List.getD t542 t544.toNat []).length : Int), 0)).bind fun r1 =>
    r1.elim
    (fun r2 => some (.inl r2))
    (fun r3 => laws_FnRotorsShare_c_c_c_2_c_c_c_c_c_2_l k (r3.1, r3.2.1, (w64 (r3.2.2 + 1)))))
   (none))
  (some (.inr ())) := by kernel_rfl
theorem laws_FnRotorsShare_c_c_c_2_c_c_c_c_c_2_l_l.eq (k : Nat) (list : List Int) (t542 : List (List Int)) (t543 : Int) (t544 : Int) (t549 : Int) (t550 : Int) : laws_FnRotorsShare_c_c_c_2_c_c_c_c_c_2_l_l (k + 1) (list, t542, t543, t544, (), t549, t550) =
  cond (decide (t550 < t549))
  (cond (inB t550 list.length)
   (cond (inB 0 list.length)
    (cond ((list.getD t550.toNat default) != (list.getD 0 default))
     (some (.inl false))
     (laws_FnRotorsShare_c_c_c_2_c_c_c_c_c_2_l_l k (list, t542, t543, t544, (), t549, (w64 (t550 + 1)))))
    (none))
   (none))
  (some (.inr (t542, t543, t544))) := by kernel_rfl
end Go.Proofs.YtiaagflfiphioaaDoorS
