/- What each function computes (printed by wip/sim/gen.py). -/
import Derived.Test.YtfklcheeoieniaaGreatTab
namespace Go.Proofs.YtfklcheeoieniaaGreatS
open Go Go.Proofs
set_option maxRecDepth 100000
set_option linter.unusedVariables false
theorem impl_GrowProgram_l.eq (k : Nat) (k_ : Int) (list : List (Int × Int)) (t19 : Int) (t20 : Int) : impl_GrowProgram_l (k + 1) (k_, list, t19, t20) =
  cond (decide (t20 < t19))
  (cond (inB t20 list.length)
   (cond (inB t20 list.length)
    (cond (inB t20 ((list.set t20.toNat ((w64 ((list.getD t20.toNat default).1 * k_)), (list.getD t20.toNat default).2)).length))
     (cond (decide (((list.set t20.toNat ((w64 ((list.getD t20.toNat default).1 * k_)), (list.getD t20.toNat default).2)).getD t20.toNat default).1 > 9))
      (some (.inl (ByteArray.empty, false)))
      (impl_GrowProgram_l k (k_, (list.set t20.toNat ((w64 ((list.getD t20.toNat default).1 * k_)), (list.getD t20.toNat default).2)), t19, (w64 (t20 + 1)))))
     (none))
    (none))
   (none))
  (some (.inr list)) := by kernel_rfl
theorem spec_GrowProgram.eq (k : Nat) (s : ByteArray) (k_ : Int) : spec_GrowProgram (k + 1) (s, k_) =
  (spec_tuGood k s).bind fun r1 =>
  cond (!r1)
  (some (ByteArray.empty, false))
  ((spec_l1In k (k_, 1, 9)).bind fun r2 =>
   cond (!r2)
   (some (ByteArray.empty, false))
   ((spec_GrowProgram_l k (s, k_, ByteArray.empty, 0)).bind fun r3 =>
    r3.elim
    (fun r4 => some r4)
    (fun r5 => some (r5, true)))) := by kernel_rfl
theorem spec_GrowProgram_l.eq (k : Nat) (s : ByteArray) (k_ : Int) (out : ByteArray) (i : Int) : spec_GrowProgram_l (k + 1) (s, k_, out, i) =
  cond (decide (i < (s.size : Int)))
  (cond (inB i s.size)
   (cond (decide ((w64 ((w64 (w8 ((bt s i.toNat) - 48))) * k_)) > 9))
    (some (.inl (ByteArray.empty, false)))
    ((spec_l1Num k (w64 ((w64 (w8 ((bt s i.toNat) - 48))) * k_))).bind fun r1 =>
     cond (((decide ((0 : Int) ≤ (w64 (i + 2)))) && (decide ((w64 (i + 2)) ≤ (s.size : Int)))) && ((decide ((0 : Int) ≤ (w64 (i + 1)))) && (decide ((w64 (i + 1)) ≤ (w64 (i + 2))))))
     (cond (fitS r1 (s.extract ((w64 (i + 1)).toNat) ((w64 (i + 2)).toNat)))
      (cond (fitS out (r1 ++ (s.extract ((w64 (i + 1)).toNat) ((w64 (i + 2)).toNat))))
       (spec_GrowProgram_l k (s, k_, (out ++ (r1 ++ (s.extract ((w64 (i + 1)).toNat) ((w64 (i + 2)).toNat)))), (w64 (i + 2))))
       (none))
      (none))
     (none)))
   (none))
  (some (.inr out)) := by kernel_rfl
theorem spec_DrawSpiralProgram.eq (k : Nat) (code : List Int) : spec_DrawSpiralProgram (k + 1) code =
  (spec_l1Cur_among k ((code, 0, 0), [1, 2, 3, 5, 9, 10, 0])).bind fun r1 =>
  (spec_DrawSpiralProgram_l k (r1.2, r1.1, [], 1)).bind fun r2 =>
  (spec_l1Cur_one k (r2.1, 10)).bind fun r3 =>
  cond r3.1
  ((spec_l1Cur_among k (r3.2, [0, 1, (w64 (r2.2.1 + 1)), (-1)])).bind fun r4 =>
   cond (fits (r2.2.2.length + 1) 8)
   (some (r2.2.1, (r2.2.2 ++ [r4.1])))
   (none))
  (some r2.2) := by kernel_rfl
theorem spec_DrawSpiralProgram_l.eq (k : Nat) (c_code : List Int) (c_at : Int) (c_seed : Int) (n : Int) (lefts : List Int) (k_ : Int) : spec_DrawSpiralProgram_l (k + 1) ((c_code, c_at, c_seed), n, lefts, k_) =
  cond (decide (k_ ≤ n))
  ((spec_l1Cur_one k ((c_code, c_at, c_seed), 3)).bind fun r1 =>
   cond r1.1
   (cond (fits (lefts.length + 1) 8)
    (spec_DrawSpiralProgram_l k (r1.2, n, (lefts ++ [k_]), (w64 (k_ + 1))))
    (none))
   (spec_DrawSpiralProgram_l k (r1.2, n, lefts, (w64 (k_ + 1)))))
  (some ((c_code, c_at, c_seed), n, lefts)) := by kernel_rfl
theorem impl_SpiralProgram.eq (k : Nat) (parts : Int) (lefts : List Int) : impl_SpiralProgram (k + 1) (parts, lefts) =
  (impl_within k (parts, 1, 9)).bind fun r1 =>
  cond (!r1)
  (some (ByteArray.empty, false))
  ((impl_areWithin k (lefts, 1, parts)).bind fun r2 =>
   cond (!r2)
   (some (ByteArray.empty, false))
   ((impl_areDifferent k lefts).bind fun r3 =>
    cond (!r3)
    (some (ByteArray.empty, false))
    ((slices_IsSorted k lefts).bind fun r4 =>
     cond (!r4)
     (some (ByteArray.empty, false))
     ((impl_SpiralProgram_l k (lefts, [], parts, 0)).bind fun r5 =>
      some ((ofBytes r5), true))))) := by kernel_rfl
theorem impl_areWithin.eq (k : Nat) (list : List Int) (low : Int) (high : Int) : impl_areWithin (k + 1) (list, low, high) =
  (slices_ContainsFunc k (list, (low, high))).bind fun r1 =>
  some (!r1) := by kernel_rfl
theorem slices_ContainsFunc.eq (k : Nat) (s : List Int) (f_0 : Int) (f_1 : Int) : slices_ContainsFunc (k + 1) (s, (f_0, f_1)) =
  (slices_IndexFunc k (s, (f_0, f_1))).bind fun r1 =>
  some (decide (r1 ≥ 0)) := by kernel_rfl
theorem slices_IndexFunc.eq (k : Nat) (s : List Int) (f_0 : Int) (f_1 : Int) : slices_IndexFunc (k + 1) (s, (f_0, f_1)) =
  (slices_IndexFunc_l k (s, (f_0, f_1), (s.length : Int), 0)).bind fun r1 =>
  r1.elim
  (fun r2 => some r2)
  (fun r3 => some (-1)) := by kernel_rfl
theorem slices_IndexFunc_l.eq (k : Nat) (s : List Int) (f_0 : Int) (f_1 : Int) (t7 : Int) (t8 : Int) : slices_IndexFunc_l (k + 1) (s, (f_0, f_1), t7, t8) =
  cond (decide (t8 < t7))
  (cond (inB t8 s.length)
   ((impl_areWithin_1 k ((s.getD t8.toNat default), f_0, f_1)).bind fun r1 =>
    cond r1
    (some (.inl t8))
    (slices_IndexFunc_l k (s, (f_0, f_1), t7, (w64 (t8 + 1)))))
   (none))
  (some (.inr ())) := by kernel_rfl
theorem impl_areWithin_1.eq (k : Nat) (n : Int) (t1_0 : Int) (t2_0 : Int) : impl_areWithin_1 (k + 1) (n, t1_0, t2_0) =
  (impl_within k (n, t1_0, t2_0)).bind fun r1 =>
  some (!r1) := by kernel_rfl
theorem impl_areDifferent.eq (k : Nat) (list : List Int) : impl_areDifferent (k + 1) list =
  (impl_areDifferent_l k (list, (), (list.length : Int), 0)).bind fun r1 =>
  r1.elim
  (fun r2 => some r2)
  (fun r3 => some true) := by kernel_rfl
theorem impl_areDifferent_l.eq (k : Nat) (list : List Int) (t6 : Int) (t7 : Int) : impl_areDifferent_l (k + 1) (list, (), t6, t7) =
  cond (decide (t7 < t6))
  (cond (inB t7 list.length)
   (cond ((decide ((0 : Int) ≤ t7)) && (decide (t7 ≤ (list.length : Int))))
    ((slices_Contains k ((list.take t7.toNat), (list.getD t7.toNat default))).bind fun r1 =>
     cond r1
     (some (.inl false))
     (impl_areDifferent_l k (list, (), t6, (w64 (t7 + 1)))))
    (none))
   (none))
  (some (.inr ())) := by kernel_rfl
theorem slices_Contains.eq (k : Nat) (s : List Int) (v : Int) : slices_Contains (k + 1) (s, v) =
  (slices_Index k (s, v)).bind fun r1 =>
  some (decide (r1 ≥ 0)) := by kernel_rfl
theorem slices_Index.eq (k : Nat) (s : List Int) (v : Int) : slices_Index (k + 1) (s, v) =
  (slices_Index_l k (s, v, (s.length : Int), 0)).bind fun r1 =>
  r1.elim
  (fun r2 => some r2)
  (fun r3 => some (-1)) := by kernel_rfl
theorem slices_Index_l.eq (k : Nat) (s : List Int) (v : Int) (t7 : Int) (t8 : Int) : slices_Index_l (k + 1) (s, v, t7, t8) =
  cond (decide (t8 < t7))
  (cond (inB t8 s.length)
   (cond (v == (s.getD t8.toNat default))
    (some (.inl t8))
    (slices_Index_l k (s, v, t7, (w64 (t8 + 1)))))
   (none))
  (some (.inr ())) := by kernel_rfl
theorem slices_IsSorted.eq (k : Nat) (x : List Int) : slices_IsSorted (k + 1) x =
  (slices_IsSorted_l k (x, (w64 ((x.length : Int) - 1)))).bind fun r1 =>
  r1.elim
  (fun r2 => some r2)
  (fun r3 => some true) := by kernel_rfl
theorem slices_IsSorted_l.eq (k : Nat) (x : List Int) (i : Int) : slices_IsSorted_l (k + 1) (x, i) =
  cond (decide (i > 0))
  (cond (inB i x.length)
   (cond (inB (w64 (i - 1)) x.length)
    ((cmp_Less k ((x.getD i.toNat default), (x.getD ((w64 (i - 1)).toNat) default))).bind fun r1 =>
     cond r1
     (some (.inl false))
     (slices_IsSorted_l k (x, (w64 (i - 1)))))
    (none))
   (none))
  (some (.inr ())) := by kernel_rfl
theorem cmp_Less.eq (k : Nat) (x : Int) (y : Int) : cmp_Less (k + 1) (x, y) =
  (cmp_isNaN k x).bind fun r1 =>
  cond r1
  ((cmp_isNaN k y).bind fun r2 =>
   cond (!r2)
   (some true)
   (some (decide (x < y))))
  (some (decide (x < y))) := by kernel_rfl
theorem cmp_isNaN.eq (k : Nat) (x : Int) : cmp_isNaN (k + 1) x =
  some (x != x) := by kernel_rfl
theorem impl_SpiralProgram_l.eq (k : Nat) (lefts : List Int) (out : List Int) (t28 : Int) (t29 : Int) : impl_SpiralProgram_l (k + 1) (lefts, out, t28, t29) =
  cond (decide (t29 < t28))
  ((slices_Contains k (lefts, (w64 (t29 + 1)))).bind fun r1 =>
   (impl_bit k r1).bind fun r2 =>
   cond (inB r2 ((bs [82, 76]).size))
   (cond (fits (out.length + 2) 1)
    (impl_SpiralProgram_l k (lefts, (out ++ [(w8 (w64 (49 + t29))), (bt (bs [82, 76]) r2.toNat)]), t28, (w64 (t29 + 1))))
    (none))
   (none))
  (some out) := by kernel_rfl
theorem impl_bit.eq (k : Nat) (b : Bool) : impl_bit (k + 1) b =
  cond b
  (some 1)
  (some 0) := by kernel_rfl
end Go.Proofs.YtfklcheeoieniaaGreatS
