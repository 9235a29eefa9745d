/- What each function computes (printed by wip/sim/gen.py). -/
import Derived.Test.YtiaagflfiphioaaDoorTab
namespace Go.Proofs.YtiaagflfiphioaaDoorS
open Go Go.Proofs
set_option maxRecDepth 100000
set_option linter.unusedVariables false
theorem laws_FnWalkersSent_c_c_c_2_c_c_c.eq (k : Nat) (s_Out : List (List Int)) (s_Rotor : List Int) (node : Int) (goal : Int) (steps : Int) (reset_Out : List (List Int)) (reset_Rotor : List Int) (five : Bool) (u_Out : List (List Int)) (u_Rotor : List Int) (k_ : Int) (seven : Bool) (n : Int) (ring_Out : List (List Int)) (ring_Rotor : List Int) (nine : Bool) (line_Out : List (List Int)) (line_Rotor : List Int) (eleven : Bool) (walkers : Int) (low : Int) (high : Int) (thirteen : Bool) (all : Int) (to : Int) (last : Bool) : laws_FnWalkersSent_c_c_c_2_c_c_c (k + 1) ((s_Out, s_Rotor), node, goal, steps, (reset_Out, reset_Rotor), five, (u_Out, u_Rotor), k_, seven, n, (ring_Out, ring_Rotor), nine, (line_Out, line_Rotor), eleven, walkers, low, high, thirteen, all, to, last) =
  cond (!last)
  (some (.inl false))
  (cond (to != goal)
   (some (.inl false))
   ((impl_VisitsOfWalk k ((s_Out, s_Rotor), node, steps)).bind fun r1 =>
    cond (!r1.2)
    (some (.inl false))
    (cond (inB goal r1.1.length)
     (cond ((r1.1.getD goal.toNat default) != 1)
      (some (.inl false))
      (some (.inr ((s_Out, s_Rotor), (reset_Out, reset_Rotor), five, (u_Out, u_Rotor), k_, seven, n, (ring_Out, ring_Rotor), nine, (line_Out, line_Rotor), eleven, walkers, low, high, thirteen, all))))
     (none)))) := by kernel_rfl
theorem impl_VisitsOfWalk.eq (k : Nat) (r_Out : List (List Int)) (r_Rotor : List Int) (at_ : Int) (steps : Int) : impl_VisitsOfWalk (k + 1) ((r_Out, r_Rotor), at_, steps) =
  (impl_isWalk k ((r_Out, r_Rotor), at_, steps)).bind fun r1 =>
  cond (!r1)
  (some ([], false))
  (cond (((decide ((0 : Int) ≤ (r_Out.length : Int))) && (decide ((r_Out.length : Int) ≤ (r_Out.length : Int)))) && (fits (r_Out.length : Int).toNat 8))
   ((impl_Route_visited k ((r_Out, r_Rotor), at_, steps)).bind fun r2 =>
    (impl_VisitsOfWalk_l k ((List.replicate (r_Out.length : Int).toNat 0), r2, (r2.length : Int), 0)).bind fun r3 =>
    some (r3, true))
   (none)) := by kernel_rfl
theorem impl_VisitsOfWalk_l.eq (k : Nat) (out : List Int) (t23 : List Int) (t24 : Int) (t25 : Int) : impl_VisitsOfWalk_l (k + 1) (out, t23, t24, t25) =
  cond (decide (t25 < t24))
  (cond (inB t25 t23.length)
   (cond (inB (t23.getD t25.toNat default) out.length)
    (cond (inB (t23.getD t25.toNat default) out.length)
     (impl_VisitsOfWalk_l k ((out.set ((t23.getD t25.toNat default).toNat) (w64 ((out.getD ((t23.getD t25.toNat default).toNat) default) + 1))), t23, t24, (w64 (t25 + 1))))
     (none))
    (none))
   (none))
  (some out) := by kernel_rfl
theorem laws_FnWalkersSent_c_c_c_2_c_c_c_2.eq (k : Nat) (s_Out : List (List Int)) (s_Rotor : List Int) (reset_Out : List (List Int)) (reset_Rotor : List Int) (five : Bool) (u_Out : List (List Int)) (u_Rotor : List Int) (k_ : Int) (seven : Bool) (n : Int) (ring_Out : List (List Int)) (ring_Rotor : List Int) (nine : Bool) (line_Out : List (List Int)) (line_Rotor : List Int) (eleven : Bool) (walkers : Int) (low : Int) (high : Int) (thirteen : Bool) (all : Int) : laws_FnWalkersSent_c_c_c_2_c_c_c_2 (k + 1) ((s_Out, s_Rotor), (reset_Out, reset_Rotor), five, (u_Out, u_Rotor), k_, seven, n, (ring_Out, ring_Rotor), nine, (line_Out, line_Rotor), eleven, walkers, low, high, thirteen, all) =
  cond five
  ((impl_ResetRoute k (reset_Out, reset_Rotor)).bind fun r1 =>
   cond (!r1.2)
   (some false)
   ((laws_kRoute k (r1.1, (reset_Out, reset_Rotor))).bind fun r2 =>
    cond (!r2)
    (some false)
    ((laws_kRows k (reset_Out, s_Out)).bind fun r3 =>
     cond (!r3)
     (some false)
     ((laws_kSum k reset_Rotor).bind fun r4 =>
      cond (r4 != 0)
      (some false)
      ((laws_FnWalkersSent_c_c_c_2_c_c_c_2_c k ((u_Out, u_Rotor), k_, seven, n, (ring_Out, ring_Rotor), nine, (line_Out, line_Rotor), eleven, walkers, low, high, thirteen, all)).bind fun r5 =>
       some r5)))))
  ((laws_FnWalkersSent_c_c_c_2_c_c_c_2_c k ((u_Out, u_Rotor), k_, seven, n, (ring_Out, ring_Rotor), nine, (line_Out, line_Rotor), eleven, walkers, low, high, thirteen, all)).bind fun r6 =>
   some r6) := by kernel_rfl
theorem laws_FnWalkersSent_c_c_c_2_c_c_c_2_c.eq (k : Nat) (u_Out : List (List Int)) (u_Rotor : List Int) (k_ : Int) (seven : Bool) (n : Int) (ring_Out : List (List Int)) (ring_Rotor : List Int) (nine : Bool) (line_Out : List (List Int)) (line_Rotor : List Int) (eleven : Bool) (walkers : Int) (low : Int) (high : Int) (thirteen : Bool) (all : Int) : laws_FnWalkersSent_c_c_c_2_c_c_c_2_c (k + 1) ((u_Out, u_Rotor), k_, seven, n, (ring_Out, ring_Rotor), nine, (line_Out, line_Rotor), eleven, walkers, low, high, thirteen, all) =
  cond seven
  (cond (inB k_ u_Out.length)
   ((laws_FnWalkersSent_c_c_c_2_c_c_c_2_c_l k ((u_Out, u_Rotor), k_, n, (ring_Out, ring_Rotor), nine, (line_Out, line_Rotor), eleven, walkers, low, high, thirteen, all, (u_Out, u_Rotor), ((List.getD u_Out k_.toNat []).length : Int), 0)).bind fun r1 =>
    r1.elim
    (fun r2 => some r2)
    (fun r3 => (laws_kRoute k (r3.2.2.2.2.2.2.2.2.2.2.2, r3.1)).bind fun r4 =>
     cond (!r4)
     (some false)
     ((laws_FnWalkersSent_c_c_c_2_c_c_c_2_c_c k (r3.2.1, r3.2.2.1, r3.2.2.2.1, r3.2.2.2.2.1, r3.2.2.2.2.2.1, r3.2.2.2.2.2.2.1, r3.2.2.2.2.2.2.2.1, r3.2.2.2.2.2.2.2.2.1, r3.2.2.2.2.2.2.2.2.2.1, r3.2.2.2.2.2.2.2.2.2.2.1)).bind fun r5 =>
      some r5)))
   (none))
  ((laws_FnWalkersSent_c_c_c_2_c_c_c_2_c_c k (n, (ring_Out, ring_Rotor), nine, (line_Out, line_Rotor), eleven, walkers, low, high, thirteen, all)).bind fun r6 =>
   some r6) := by kernel_rfl
theorem laws_FnWalkersSent_c_c_c_2_c_c_c_2_c_l.eq (k : Nat) (u_Out : List (List Int)) (u_Rotor : List Int) (k_ : Int) (n : Int) (ring_Out : List (List Int)) (ring_Rotor : List Int) (nine : Bool) (line_Out : List (List Int)) (line_Rotor : List Int) (eleven : Bool) (walkers : Int) (low : Int) (high : Int) (thirteen : Bool) (all : Int) (now_Out : List (List Int)) (now_Rotor : List Int) (t426 : Int) (t427 : Int) : laws_FnWalkersSent_c_c_c_2_c_c_c_2_c_l (k + 1) ((u_Out, u_Rotor), k_, n, (ring_Out, ring_Rotor), nine, (line_Out, line_Rotor), eleven, walkers, low, high, thirteen, all, (now_Out, now_Rotor), t426, t427) =
  cond (decide (t427 < t426))
  ((impl_TurnRotor k ((now_Out, now_Rotor), k_)).bind fun r1 =>
   cond (!r1.2)
   (some (.inl false))
   (laws_FnWalkersSent_c_c_c_2_c_c_c_2_c_l k ((u_Out, u_Rotor), k_, n, (ring_Out, ring_Rotor), nine, (line_Out, line_Rotor), eleven, walkers, low, high, thirteen, all, r1.1, t426, (w64 (t427 + 1)))))
  (some (.inr ((u_Out, u_Rotor), n, (ring_Out, ring_Rotor), nine, (line_Out, line_Rotor), eleven, walkers, low, high, thirteen, all, (now_Out, now_Rotor)))) := by kernel_rfl
theorem laws_FnWalkersSent_c_c_c_2_c_c_c_2_c_c.eq (k : Nat) (n : Int) (ring_Out : List (List Int)) (ring_Rotor : List Int) (nine : Bool) (line_Out : List (List Int)) (line_Rotor : List Int) (eleven : Bool) (walkers : Int) (low : Int) (high : Int) (thirteen : Bool) (all : Int) : laws_FnWalkersSent_c_c_c_2_c_c_c_2_c_c (k + 1) (n, (ring_Out, ring_Rotor), nine, (line_Out, line_Rotor), eleven, walkers, low, high, thirteen, all) =
  cond nine
  ((impl_WalkLoop k ((ring_Out, ring_Rotor), 0)).bind fun r1 =>
   cond (!r1.2.2)
   (some false)
   (cond (r1.1 != 0)
    (some false)
    (cond (r1.2.1 != (w64 (2 * n)))
     (some false)
     ((laws_FnWalkersSent_c_c_c_2_c_c_c_2_c_c_c k (n, (line_Out, line_Rotor), eleven, walkers, low, high, thirteen, all)).bind fun r2 =>
      some r2))))
  ((laws_FnWalkersSent_c_c_c_2_c_c_c_2_c_c_c k (n, (line_Out, line_Rotor), eleven, walkers, low, high, thirteen, all)).bind fun r3 =>
   some r3) := by kernel_rfl
theorem impl_WalkLoop.eq (k : Nat) (r_Out : List (List Int)) (r_Rotor : List Int) (at_ : Int) : impl_WalkLoop (k + 1) ((r_Out, r_Rotor), at_) =
  (impl_isNode k ((r_Out, r_Rotor), [at_])).bind fun r1 =>
  cond (!r1)
  (some (0, 0, false))
  ((impl_Route_own k (r_Out, r_Rotor)).bind fun r2 =>
   (impl_WalkLoop_l k (at_, r2, [], 0)).bind fun r3 =>
   r3.elim
   (fun r4 => some r4)
   (fun r5 => some (0, 0, false))) := by kernel_rfl
theorem impl_WalkLoop_l.eq (k : Nat) (at_ : Int) (own_Out : List (List Int)) (own_Rotor : List Int) (seen : List (ByteArray × Int)) (t21 : Int) : impl_WalkLoop_l (k + 1) (at_, (own_Out, own_Rotor), seen, t21) =
  cond (decide (t21 < 3001))
  (cond (fits (1 + own_Rotor.length) 8)
   ((impl_listText k ((bs [44]), ([at_] ++ own_Rotor))).bind fun r1 =>
    cond (mhas (K := ByteArray) (α := Int) (Sh.eqT .str) seen r1)
    (some (.inl ((mget (K := ByteArray) (α := Int) (Sh.eqT .str) seen r1 0), (w64 (t21 - (mget (K := ByteArray) (α := Int) (Sh.eqT .str) seen r1 0))), true)))
    ((impl_Route_step k ((own_Out, own_Rotor), at_)).bind fun r2 =>
     impl_WalkLoop_l k (r2.1, (own_Out, r2.2.2), (mput (K := ByteArray) (α := Int) (Sh.eqT .str) seen r1 t21), (w64 (t21 + 1)))))
   (none))
  (some (.inr ())) := by kernel_rfl
theorem impl_listText.eq (k : Nat) (by_ : ByteArray) (list : List Int) : impl_listText (k + 1) (by_, list) =
  (impl_listText_l k (by_, [], list, (list.length : Int), 0)).bind fun r1 =>
  (strings_Join k (r1.2, r1.1)).bind fun r2 =>
  some r2 := by kernel_rfl
theorem impl_listText_l.eq (k : Nat) (by_ : ByteArray) (parts : List ByteArray) (t9 : List Int) (t10 : Int) (t11 : Int) : impl_listText_l (k + 1) (by_, parts, t9, t10, t11) =
  cond (decide (t11 < t10))
  (cond (inB t11 t9.length)
   ((strconv_Itoa k (t9.getD t11.toNat default)).bind fun r1 =>
    cond (fits (parts.length + 1) 16)
    (impl_listText_l k (by_, (parts ++ [r1]), t9, t10, (w64 (t11 + 1))))
    (none))
   (none))
  (some (by_, parts)) := by kernel_rfl
theorem strconv_Itoa.eq (k : Nat) (d : Int) : strconv_Itoa (k + 1) d = (fun d => itoaAll d) d := by kernel_rfl
theorem strings_Join.eq (k : Nat) (d : List ByteArray × ByteArray) : strings_Join (k + 1) d = (fun d => joinS d.1 d.2) d := by kernel_rfl
theorem laws_FnWalkersSent_c_c_c_2_c_c_c_2_c_c_c.eq (k : Nat) (n : Int) (line_Out : List (List Int)) (line_Rotor : List Int) (eleven : Bool) (walkers : Int) (low : Int) (high : Int) (thirteen : Bool) (all : Int) : laws_FnWalkersSent_c_c_c_2_c_c_c_2_c_c_c (k + 1) (n, (line_Out, line_Rotor), eleven, walkers, low, high, thirteen, all) =
  cond eleven
  (cond ((n.tmod 2) == 1)
   ((impl_SendWalkers k ((line_Out, line_Rotor), (w64 (n.tdiv 2)), [0, (w64 (n - 1))], 8)).bind fun r1 =>
    cond (!r1.2)
    (some false)
    (cond (inB 0 r1.1.length)
     (cond (inB 1 r1.1.length)
      (cond ((r1.1.getD 0 default) != (r1.1.getD 1 default))
       (some false)
       ((laws_FnWalkersSent_c_c_c_2_c_c_c_2_c_c_c_c k (walkers, low, high, thirteen, all)).bind fun r2 =>
        some r2))
      (none))
     (none)))
   ((laws_FnWalkersSent_c_c_c_2_c_c_c_2_c_c_c_c k (walkers, low, high, thirteen, all)).bind fun r3 =>
    some r3))
  ((laws_FnWalkersSent_c_c_c_2_c_c_c_2_c_c_c_c k (walkers, low, high, thirteen, all)).bind fun r4 =>
   some r4) := by kernel_rfl
theorem laws_FnWalkersSent_c_c_c_2_c_c_c_2_c_c_c_c.eq (k : Nat) (walkers : Int) (low : Int) (high : Int) (thirteen : Bool) (all : Int) : laws_FnWalkersSent_c_c_c_2_c_c_c_2_c_c_c_c (k + 1) (walkers, low, high, thirteen, all) =
  cond thirteen
  (cond ((w64 ((w64 (high - low)) + 1)) != walkers)
   (some false)
   (cond (decide ((w64 (low + high)) > 1))
    (some false)
    (cond (decide ((w64 (low + high)) < (-1)))
     (some false)
     (cond (decide (low > 0))
      (some false)
      (cond (decide (high < 0))
       (some false)
       (cond (decide (all < 0))
        (some false)
        (cond (decide (walkers > 1))
         ((impl_FillSteps k (w64 (walkers - 1))).bind fun r1 =>
          cond r1.2
          (some (decide (r1.1 < all)))
          (some false))
         (some true))))))))
  (some true) := by kernel_rfl
theorem impl_LinesUsed.eq (k : Nat) (r_Out : List (List Int)) (r_Rotor : List Int) (at_ : Int) (steps : Int) : impl_LinesUsed (k + 1) ((r_Out, r_Rotor), at_, steps) =
  (impl_isWalk k ((r_Out, r_Rotor), at_, steps)).bind fun r1 =>
  cond (!r1)
  (some ([], false))
  ((impl_Route_own k (r_Out, r_Rotor)).bind fun r2 =>
   (impl_LinesUsed_l k (at_, steps, r2, [], r_Out, (r_Out.length : Int), 0)).bind fun r3 =>
   (impl_LinesUsed_l_2 k (r3.1, r3.2.2.1, r3.2.2.2, r3.2.1, 0)).bind fun r4 =>
   some (r4, true)) := by kernel_rfl
theorem impl_LinesUsed_l.eq (k : Nat) (at_ : Int) (steps : Int) (own_Out : List (List Int)) (own_Rotor : List Int) (out : List (List Int)) (t21 : List (List Int)) (t22 : Int) (t23 : Int) : impl_LinesUsed_l (k + 1) (at_, steps, (own_Out, own_Rotor), out, t21, t22, t23) =
  cond (decide (t23 < t22))
  (cond (inB t23 t21.length)
   (cond (((decide ((0 : Int) ≤ ((List.getD t21 t23.toNat []).length : Int))) && (decide (((List.getD t21 t23.toNat []).length : Int) ≤ ((List.getD t21 t23.toNat []).length : Int)))) && (fits ((List.getD t21 t23.toNat []).length : Int).toNat 8))
    (cond (fits (out.length + 1) 24)
     (impl_LinesUsed_l k (at_, steps, (own_Out, own_Rotor), (out ++ [(List.replicate ((List.getD t21 t23.toNat []).length : Int).toNat 0)]), t21, t22, (w64 (t23 + 1))))
     (none))
    (none))
   (none))
  (some (at_, steps, (own_Out, own_Rotor), out)) := by kernel_rfl
theorem impl_LinesUsed_l_2.eq (k : Nat) (at_ : Int) (own_Out : List (List Int)) (own_Rotor : List Int) (out : List (List Int)) (t34 : Int) (t35 : Int) : impl_LinesUsed_l_2 (k + 1) (at_, (own_Out, own_Rotor), out, t34, t35) =
  cond (decide (t35 < t34))
  (cond (inB at_ out.length)
   (cond (decide (at_.toNat < out.length))
    (cond (inB at_ own_Rotor.length)
     (cond (inB (own_Rotor.getD at_.toNat default) ((List.getD out at_.toNat []).length))
      (cond (inB (own_Rotor.getD at_.toNat default) ((List.getD out at_.toNat []).length))
       ((impl_Route_step k ((own_Out, own_Rotor), at_)).bind fun r1 =>
        impl_LinesUsed_l_2 k (r1.1, (own_Out, r1.2.2), (List.set out at_.toNat ((List.getD out at_.toNat []).set ((own_Rotor.getD at_.toNat default).toNat) (w64 (((List.getD out at_.toNat []).getD ((own_Rotor.getD at_.toNat default).toNat) default) + 1)))), t34, (w64 (t35 + 1))))
       (none))
      (none))
     (none))
    (none))
   (none))
  (some out) := by kernel_rfl
theorem impl_TrackOfWalk.eq (k : Nat) (r_Out : List (List Int)) (r_Rotor : List Int) (at_ : Int) (steps : Int) : impl_TrackOfWalk (k + 1) ((r_Out, r_Rotor), at_, steps) =
  (impl_isWalk k ((r_Out, r_Rotor), at_, steps)).bind fun r1 =>
  cond (!r1)
  (some ([], false))
  (cond (decide (steps > 200))
   (some ([], false))
   ((impl_Route_visited k ((r_Out, r_Rotor), at_, steps)).bind fun r2 =>
    some (r2, true))) := by kernel_rfl
theorem impl_StepRoute.eq (k : Nat) (r_Out : List (List Int)) (r_Rotor : List Int) (at_ : Int) : impl_StepRoute (k + 1) ((r_Out, r_Rotor), at_) =
  (impl_WalkAfter k ((r_Out, r_Rotor), at_, 1)).bind fun r1 =>
  some r1 := by kernel_rfl
theorem spec_WalkAfter.eq (k : Nat) (r_Out : List (List Int)) (r_Rotor : List Int) (at_ : Int) (steps : Int) : spec_WalkAfter (k + 1) ((r_Out, r_Rotor), at_, steps) =
  (spec_roWalk k ((r_Out, r_Rotor), at_, steps)).bind fun r1 =>
  cond (!r1)
  (some (([], []), 0, false))
  ((spec_roOwn k (r_Out, r_Rotor)).bind fun r2 =>
   (spec_WalkAfter_l k (at_, steps, ([], []), r2)).bind fun r3 =>
   some (r3.2.2, r3.1, true)) := by kernel_rfl
theorem spec_roWalk.eq (k : Nat) (r_Out : List (List Int)) (r_Rotor : List Int) (at_ : Int) (steps : Int) : spec_roWalk (k + 1) ((r_Out, r_Rotor), at_, steps) =
  (spec_roNode k ((r_Out, r_Rotor), at_)).bind fun r1 =>
  cond r1
  ((spec_l1In k (steps, 0, 3000)).bind fun r2 =>
   some r2)
  (some false) := by kernel_rfl
theorem spec_WalkAfter_l.eq (k : Nat) (at_ : Int) (steps : Int) (t6_Out : List (List Int)) (t6_Rotor : List Int) (out_Out : List (List Int)) (out_Rotor : List Int) : spec_WalkAfter_l (k + 1) (at_, steps, (t6_Out, t6_Rotor), (out_Out, out_Rotor)) =
  cond (decide (steps > 0))
  ((spec_roStep k ((out_Out, out_Rotor), at_)).bind fun r1 =>
   spec_WalkAfter_l k (r1.1, (w64 (steps - 1)), (t6_Out, t6_Rotor), (out_Out, r1.2.2)))
  (some (at_, (t6_Out, t6_Rotor), (out_Out, out_Rotor))) := by kernel_rfl
theorem spec_VisitsOfWalk.eq (k : Nat) (r_Out : List (List Int)) (r_Rotor : List Int) (at_ : Int) (steps : Int) : spec_VisitsOfWalk (k + 1) ((r_Out, r_Rotor), at_, steps) =
  (spec_roWalk k ((r_Out, r_Rotor), at_, steps)).bind fun r1 =>
  cond (!r1)
  (some ([], false))
  (cond (((decide ((0 : Int) ≤ (r_Out.length : Int))) && (decide ((r_Out.length : Int) ≤ (r_Out.length : Int)))) && (fits (r_Out.length : Int).toNat 8))
   ((spec_roTrack k ((r_Out, r_Rotor), at_, steps)).bind fun r2 =>
    (spec_VisitsOfWalk_l k ((List.replicate (r_Out.length : Int).toNat 0), r2, (r2.length : Int), 0)).bind fun r3 =>
    some (r3, true))
   (none)) := by kernel_rfl
theorem spec_roTrack.eq (k : Nat) (r_Out : List (List Int)) (r_Rotor : List Int) (at_ : Int) (steps : Int) : spec_roTrack (k + 1) ((r_Out, r_Rotor), at_, steps) =
  (spec_roOwn k (r_Out, r_Rotor)).bind fun r1 =>
  (spec_roTrack_l k (at_, steps, r1, [])).bind fun r2 =>
  some r2 := by kernel_rfl
theorem spec_roTrack_l.eq (k : Nat) (at_ : Int) (steps : Int) (own_Out : List (List Int)) (own_Rotor : List Int) (out : List Int) : spec_roTrack_l (k + 1) (at_, steps, (own_Out, own_Rotor), out) =
  cond (decide (steps > 0))
  ((spec_roStep k ((own_Out, own_Rotor), at_)).bind fun r1 =>
   cond (fits (out.length + 1) 8)
   (spec_roTrack_l k (r1.1, (w64 (steps - 1)), (own_Out, r1.2.2), (out ++ [r1.1])))
   (none))
  (some out) := by kernel_rfl
theorem spec_VisitsOfWalk_l.eq (k : Nat) (out : List Int) (t23 : List Int) (t24 : Int) (t25 : Int) : spec_VisitsOfWalk_l (k + 1) (out, t23, t24, t25) =
  cond (decide (t25 < t24))
  (cond (inB t25 t23.length)
   (cond (inB (t23.getD t25.toNat default) out.length)
    (cond (inB (t23.getD t25.toNat default) out.length)
     (spec_VisitsOfWalk_l k ((out.set ((t23.getD t25.toNat default).toNat) (w64 ((out.getD ((t23.getD t25.toNat default).toNat) default) + 1))), t23, t24, (w64 (t25 + 1))))
     (none))
    (none))
   (none))
  (some out) := by kernel_rfl
theorem spec_LinesUsed.eq (k : Nat) (r_Out : List (List Int)) (r_Rotor : List Int) (at_ : Int) (steps : Int) : spec_LinesUsed (k + 1) ((r_Out, r_Rotor), at_, steps) =
  (spec_roWalk k ((r_Out, r_Rotor), at_, steps)).bind fun r1 =>
  cond (!r1)
  (some ([], false))
  ((spec_roOwn k (r_Out, r_Rotor)).bind fun r2 =>
   (spec_LinesUsed_l k (at_, steps, r2, [], (), (r2.1.length : Int), 0)).bind fun r3 =>
   (spec_LinesUsed_l_2 k r3).bind fun r4 =>
   some (r4, true)) := by kernel_rfl
theorem spec_LinesUsed_l.eq (k : Nat) (at_ : Int) (steps : Int) (own_Out : List (List Int)) (own_Rotor : List Int) (out : List (List Int)) (t21 : Int) (t22 : Int) : spec_LinesUsed_l (k + 1) (at_, steps, (own_Out, own_Rotor), out, (), t21, t22) =
  cond (decide (t22 < t21))
  (cond (inB t22 own_Out.length)
   (cond (((decide ((0 : Int) ≤ ((List.getD own_Out t22.toNat []).length : Int))) && (decide (((List.getD own_Out t22.toNat []).length : Int) ≤ ((List.getD own_Out t22.toNat []).length : Int)))) && (fits ((List.getD own_Out t22.toNat []).length : Int).toNat 8))
    (cond (fits (out.length + 1) 24)
     (spec_LinesUsed_l k (at_, steps, (own_Out, own_Rotor), (out ++ [(List.replicate ((List.getD own_Out t22.toNat []).length : Int).toNat 0)]), (), t21, (w64 (t22 + 1))))
     (none))
    (none))
   (none))
  (some (at_, steps, (own_Out, own_Rotor), out)) := by kernel_rfl
theorem spec_LinesUsed_l_2.eq (k : Nat) (at_ : Int) (steps : Int) (own_Out : List (List Int)) (own_Rotor : List Int) (out : List (List Int)) : spec_LinesUsed_l_2 (k + 1) (at_, steps, (own_Out, own_Rotor), out) =
  cond (decide (steps > 0))
  (cond (inB at_ out.length)
   (cond (decide (at_.toNat < out.length))
    (cond (inB at_ own_Rotor.length)
     (cond (inB (own_Rotor.getD at_.toNat default) ((List.getD out at_.toNat []).length))
      (cond (inB (own_Rotor.getD at_.toNat default) ((List.getD out at_.toNat []).length))
       ((spec_roStep k ((own_Out, own_Rotor), at_)).bind fun r1 =>
        spec_LinesUsed_l_2 k (r1.1, (w64 (steps - 1)), (own_Out, r1.2.2), (List.set out at_.toNat ((List.getD out at_.toNat []).set ((own_Rotor.getD at_.toNat default).toNat) (w64 (((List.getD out at_.toNat []).getD ((own_Rotor.getD at_.toNat default).toNat) default) + 1))))))
       (none))
      (none))
     (none))
    (none))
   (none))
  (some out) := by kernel_rfl
theorem spec_TrackOfWalk.eq (k : Nat) (r_Out : List (List Int)) (r_Rotor : List Int) (at_ : Int) (steps : Int) : spec_TrackOfWalk (k + 1) ((r_Out, r_Rotor), at_, steps) =
  (spec_roWalk k ((r_Out, r_Rotor), at_, steps)).bind fun r1 =>
  cond (!r1)
  (some ([], false))
  (cond (decide (steps > 200))
   (some ([], false))
   ((spec_roTrack k ((r_Out, r_Rotor), at_, steps)).bind fun r2 =>
    some (r2, true))) := by kernel_rfl
theorem spec_StepRoute.eq (k : Nat) (r_Out : List (List Int)) (r_Rotor : List Int) (at_ : Int) : spec_StepRoute (k + 1) ((r_Out, r_Rotor), at_) =
  (spec_roNode k ((r_Out, r_Rotor), at_)).bind fun r1 =>
  cond (!r1)
  (some (([], []), 0, false))
  ((spec_roOwn k (r_Out, r_Rotor)).bind fun r2 =>
   (spec_roStep k (r2, at_)).bind fun r3 =>
   some ((r2.1, r3.2.2), r3.1, true)) := by kernel_rfl
theorem spec_WalkLoop.eq (k : Nat) (r_Out : List (List Int)) (r_Rotor : List Int) (at_ : Int) : spec_WalkLoop (k + 1) ((r_Out, r_Rotor), at_) =
  (spec_roNode k ((r_Out, r_Rotor), at_)).bind fun r1 =>
  cond (!r1)
  (some (0, 0, false))
  ((spec_roOwn k (r_Out, r_Rotor)).bind fun r2 =>
   (spec_WalkLoop_l k (at_, r2, [], 0)).bind fun r3 =>
   r3.elim
   (fun r4 => some r4)
   (fun r5 => some (0, 0, false))) := by kernel_rfl
theorem spec_WalkLoop_l.eq (k : Nat) (at_ : Int) (own_Out : List (List Int)) (own_Rotor : List Int) (states : List Int) (steps : Int) : spec_WalkLoop_l (k + 1) (at_, (own_Out, own_Rotor), states, steps) =
  cond (decide (steps ≤ 3000))
  ((spec_WalkLoop_l_l k (at_, (own_Out, own_Rotor), states, steps, 0, (), (own_Rotor.length : Int), 0)).bind fun r1 =>
   (spec_WalkLoop_l_l_2 k (r1.1, r1.2.1, r1.2.2.1, r1.2.2.2.1, (w64 ((w64 (r1.2.2.2.2 * 10)) + r1.1)), (), (r1.2.2.1.length : Int), 0)).bind fun r2 =>
   r2.elim
   (fun r3 => some (.inl r3))
   (fun r4 => cond (fits (r4.2.2.1.length + 1) 8)
    ((spec_roStep k (r4.2.1, r4.1)).bind fun r5 =>
     spec_WalkLoop_l k (r5.1, (r4.2.1.1, r5.2.2), (r4.2.2.1 ++ [r4.2.2.2.2]), (w64 (r4.2.2.2.1 + 1))))
    (none)))
  (some (.inr ())) := by kernel_rfl
theorem spec_WalkLoop_l_l.eq (k : Nat) (at_ : Int) (own_Out : List (List Int)) (own_Rotor : List Int) (states : List Int) (steps : Int) (n : Int) (t27 : Int) (t28 : Int) : spec_WalkLoop_l_l (k + 1) (at_, (own_Out, own_Rotor), states, steps, n, (), t27, t28) =
  cond (decide (t28 < t27))
  (cond (inB t28 own_Rotor.length)
   (spec_WalkLoop_l_l k (at_, (own_Out, own_Rotor), states, steps, (w64 ((w64 (n * 4)) + (own_Rotor.getD t28.toNat default))), (), t27, (w64 (t28 + 1))))
   (none))
  (some (at_, (own_Out, own_Rotor), states, steps, n)) := by kernel_rfl
theorem spec_WalkLoop_l_l_2.eq (k : Nat) (at_ : Int) (own_Out : List (List Int)) (own_Rotor : List Int) (states : List Int) (steps : Int) (n : Int) (t42 : Int) (t43 : Int) : spec_WalkLoop_l_l_2 (k + 1) (at_, (own_Out, own_Rotor), states, steps, n, (), t42, t43) =
  cond (decide (t43 < t42))
  (cond (inB t43 states.length)
   (cond ((states.getD t43.toNat default) == n)
    (some (.inl (t43, (w64 (steps - t43)), true)))
    (spec_WalkLoop_l_l_2 k (at_, (own_Out, own_Rotor), states, steps, n, (), t42, (w64 (t43 + 1)))))
   (none))
  (some (.inr (at_, (own_Out, own_Rotor), states, steps, n))) := by kernel_rfl
end Go.Proofs.YtiaagflfiphioaaDoorS
