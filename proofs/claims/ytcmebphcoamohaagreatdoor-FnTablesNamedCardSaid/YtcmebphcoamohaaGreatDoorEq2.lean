/- What each function computes (printed by wip/sim/gen.py). -/
import Derived.Test.YtcmebphcoamohaaGreatDoorTab
namespace Go.Proofs.YtcmebphcoamohaaGreatDoorS
open Go Go.Proofs
set_option maxRecDepth 100000
set_option linter.unusedVariables false
theorem slices_partialInsertionSortOrdered_l_l_2.eq (k : Nat) (data : List Int) (a : Int) (b : Int) (i : Int) (j : Int) (j1 : Int) : slices_partialInsertionSortOrdered_l_l_2 (k + 1) (data, a, b, i, j, j1, ()) =
  cond (decide (j1 ≥ 1))
  (cond (inB j1 data.length)
   (cond (inB (w64 (j1 - 1)) data.length)
    ((cmp_Less k ((data.getD j1.toNat default), (data.getD ((w64 (j1 - 1)).toNat) default))).bind fun r1 =>
     cond (!r1)
     (some (data, a, b, i, j, ()))
     (cond (inB (w64 (j1 - 1)) data.length)
      (cond (inB j1 data.length)
       (cond (inB j1 data.length)
        (cond (inB (w64 (j1 - 1)) ((data.set j1.toNat (data.getD ((w64 (j1 - 1)).toNat) default)).length))
         (slices_partialInsertionSortOrdered_l_l_2 k (((data.set j1.toNat (data.getD ((w64 (j1 - 1)).toNat) default)).set ((w64 (j1 - 1)).toNat) (data.getD j1.toNat default)), a, b, i, j, (w64 (j1 - 1)), ()))
         (none))
        (none))
       (none))
      (none)))
    (none))
   (none))
  (some (data, a, b, i, j, ())) := by kernel_rfl
theorem slices_partialInsertionSortOrdered_l_l_3.eq (k : Nat) (data : List Int) (a : Int) (b : Int) (i : Int) (j : Int) (j1 : Int) : slices_partialInsertionSortOrdered_l_l_3 (k + 1) (data, a, b, i, j, j1, ()) =
  cond (decide (j1 < b))
  (cond (inB j1 data.length)
   (cond (inB (w64 (j1 - 1)) data.length)
    ((cmp_Less k ((data.getD j1.toNat default), (data.getD ((w64 (j1 - 1)).toNat) default))).bind fun r1 =>
     cond (!r1)
     (some (data, a, b, i, j, ()))
     (cond (inB (w64 (j1 - 1)) data.length)
      (cond (inB j1 data.length)
       (cond (inB j1 data.length)
        (cond (inB (w64 (j1 - 1)) ((data.set j1.toNat (data.getD ((w64 (j1 - 1)).toNat) default)).length))
         (slices_partialInsertionSortOrdered_l_l_3 k (((data.set j1.toNat (data.getD ((w64 (j1 - 1)).toNat) default)).set ((w64 (j1 - 1)).toNat) (data.getD j1.toNat default)), a, b, i, j, (w64 (j1 + 1)), ()))
         (none))
        (none))
       (none))
      (none)))
    (none))
   (none))
  (some (data, a, b, i, j, ())) := by kernel_rfl
theorem slices_partitionEqualOrdered.eq (k : Nat) (data : List Int) (a : Int) (b : Int) (pivot : Int) : slices_partitionEqualOrdered (k + 1) (data, a, b, pivot) =
  cond (inB pivot data.length)
  (cond (inB a data.length)
   (cond (inB a data.length)
    (cond (inB pivot ((data.set a.toNat (data.getD pivot.toNat default)).length))
     ((slices_partitionEqualOrdered_l k (((data.set a.toNat (data.getD pivot.toNat default)).set pivot.toNat (data.getD a.toNat default)), a, (w64 (a + 1)), (w64 (b - 1)), ())).bind fun r1 =>
      some r1)
     (none))
    (none))
   (none))
  (none) := by kernel_rfl
theorem slices_partitionEqualOrdered_l.eq (k : Nat) (data : List Int) (a : Int) (i : Int) (j : Int) : slices_partitionEqualOrdered_l (k + 1) (data, a, i, j, ()) =
  (slices_partitionEqualOrdered_l_l k (data, a, i, j, ())).bind fun r1 =>
  (slices_partitionEqualOrdered_l_l_2 k (r1.1, r1.2.1, r1.2.2.1, r1.2.2.2.1, ())).bind fun r2 =>
  cond (decide (r2.2.2.1 > r2.2.2.2.1))
  (some (r2.2.2.1, r2.1))
  (cond (inB r2.2.2.2.1 r2.1.length)
   (cond (inB r2.2.2.1 r2.1.length)
    (cond (inB r2.2.2.1 r2.1.length)
     (cond (inB r2.2.2.2.1 ((r2.1.set r2.2.2.1.toNat (r2.1.getD r2.2.2.2.1.toNat default)).length))
      (slices_partitionEqualOrdered_l k (((r2.1.set r2.2.2.1.toNat (r2.1.getD r2.2.2.2.1.toNat default)).set r2.2.2.2.1.toNat (r2.1.getD r2.2.2.1.toNat default)), r2.2.1, (w64 (r2.2.2.1 + 1)), (w64 (r2.2.2.2.1 - 1)), ()))
      (none))
     (none))
    (none))
   (none)) := by kernel_rfl
theorem slices_partitionEqualOrdered_l_l.eq (k : Nat) (data : List Int) (a : Int) (i : Int) (j : Int) : slices_partitionEqualOrdered_l_l (k + 1) (data, a, i, j, ()) =
  cond (decide (i ≤ j))
  (cond (inB a data.length)
   (cond (inB i data.length)
    ((cmp_Less k ((data.getD a.toNat default), (data.getD i.toNat default))).bind fun r1 =>
     cond (!r1)
     (slices_partitionEqualOrdered_l_l k (data, a, (w64 (i + 1)), j, ()))
     (some (data, a, i, j, ())))
    (none))
   (none))
  (some (data, a, i, j, ())) := by kernel_rfl
theorem slices_partitionEqualOrdered_l_l_2.eq (k : Nat) (data : List Int) (a : Int) (i : Int) (j : Int) : slices_partitionEqualOrdered_l_l_2 (k + 1) (data, a, i, j, ()) =
  cond (decide (i ≤ j))
  (cond (inB a data.length)
   (cond (inB j data.length)
    ((cmp_Less k ((data.getD a.toNat default), (data.getD j.toNat default))).bind fun r1 =>
     cond r1
     (slices_partitionEqualOrdered_l_l_2 k (data, a, i, (w64 (j - 1)), ()))
     (some (data, a, i, j, ())))
    (none))
   (none))
  (some (data, a, i, j, ())) := by kernel_rfl
theorem slices_partitionOrdered.eq (k : Nat) (data : List Int) (a : Int) (b : Int) (pivot : Int) : slices_partitionOrdered (k + 1) (data, a, b, pivot) =
  cond (inB pivot data.length)
  (cond (inB a data.length)
   (cond (inB a data.length)
    (cond (inB pivot ((data.set a.toNat (data.getD pivot.toNat default)).length))
     ((slices_partitionOrdered_l k (((data.set a.toNat (data.getD pivot.toNat default)).set pivot.toNat (data.getD a.toNat default)), a, (w64 (a + 1)), (w64 (b - 1)), ())).bind fun r1 =>
      (slices_partitionOrdered_l_2 k (r1.1, r1.2.1, r1.2.2.1, r1.2.2.2.1, ())).bind fun r2 =>
      cond (decide (r2.2.2.1 > r2.2.2.2.1))
      (cond (inB r2.2.1 r2.1.length)
       (cond (inB r2.2.2.2.1 r2.1.length)
        (cond (inB r2.2.2.2.1 r2.1.length)
         (cond (inB r2.2.1 ((r2.1.set r2.2.2.2.1.toNat (r2.1.getD r2.2.1.toNat default)).length))
          (some ((r2.2.2.2.1, true), ((r2.1.set r2.2.2.2.1.toNat (r2.1.getD r2.2.1.toNat default)).set r2.2.1.toNat (r2.1.getD r2.2.2.2.1.toNat default))))
          (none))
         (none))
        (none))
       (none))
      (cond (inB r2.2.2.2.1 r2.1.length)
       (cond (inB r2.2.2.1 r2.1.length)
        (cond (inB r2.2.2.1 r2.1.length)
         (cond (inB r2.2.2.2.1 ((r2.1.set r2.2.2.1.toNat (r2.1.getD r2.2.2.2.1.toNat default)).length))
          ((slices_partitionOrdered_l_3 k (((r2.1.set r2.2.2.1.toNat (r2.1.getD r2.2.2.2.1.toNat default)).set r2.2.2.2.1.toNat (r2.1.getD r2.2.2.1.toNat default)), r2.2.1, (w64 (r2.2.2.1 + 1)), (w64 (r2.2.2.2.1 - 1)), ())).bind fun r3 =>
           cond (inB r3.2.1 r3.1.length)
           (cond (inB r3.2.2.1 r3.1.length)
            (cond (inB r3.2.2.1 r3.1.length)
             (cond (inB r3.2.1 ((r3.1.set r3.2.2.1.toNat (r3.1.getD r3.2.1.toNat default)).length))
              (some ((r3.2.2.1, false), ((r3.1.set r3.2.2.1.toNat (r3.1.getD r3.2.1.toNat default)).set r3.2.1.toNat (r3.1.getD r3.2.2.1.toNat default))))
              (none))
             (none))
            (none))
           (none))
          (none))
         (none))
        (none))
       (none)))
     (none))
    (none))
   (none))
  (none) := by kernel_rfl
theorem slices_partitionOrdered_l.eq (k : Nat) (data : List Int) (a : Int) (i : Int) (j : Int) : slices_partitionOrdered_l (k + 1) (data, a, i, j, ()) =
  cond (decide (i ≤ j))
  (cond (inB i data.length)
   (cond (inB a data.length)
    ((cmp_Less k ((data.getD i.toNat default), (data.getD a.toNat default))).bind fun r1 =>
     cond r1
     (slices_partitionOrdered_l k (data, a, (w64 (i + 1)), j, ()))
     (some (data, a, i, j, ())))
    (none))
   (none))
  (some (data, a, i, j, ())) := by kernel_rfl
theorem slices_partitionOrdered_l_2.eq (k : Nat) (data : List Int) (a : Int) (i : Int) (j : Int) : slices_partitionOrdered_l_2 (k + 1) (data, a, i, j, ()) =
  cond (decide (i ≤ j))
  (cond (inB j data.length)
   (cond (inB a data.length)
    ((cmp_Less k ((data.getD j.toNat default), (data.getD a.toNat default))).bind fun r1 =>
     cond (!r1)
     (slices_partitionOrdered_l_2 k (data, a, i, (w64 (j - 1)), ()))
     (some (data, a, i, j, ())))
    (none))
   (none))
  (some (data, a, i, j, ())) := by kernel_rfl
theorem slices_partitionOrdered_l_3.eq (k : Nat) (data : List Int) (a : Int) (i : Int) (j : Int) : slices_partitionOrdered_l_3 (k + 1) (data, a, i, j, ()) =
  (slices_partitionOrdered_l_3_l k (data, a, i, j, ())).bind fun r1 =>
  (slices_partitionOrdered_l_3_l_2 k (r1.1, r1.2.1, r1.2.2.1, r1.2.2.2.1, ())).bind fun r2 =>
  cond (decide (r2.2.2.1 > r2.2.2.2.1))
  (some (r2.1, r2.2.1, r2.2.2.2.1, ()))
  (cond (inB r2.2.2.2.1 r2.1.length)
   (cond (inB r2.2.2.1 r2.1.length)
    (cond (inB r2.2.2.1 r2.1.length)
     (cond (inB r2.2.2.2.1 ((r2.1.set r2.2.2.1.toNat (r2.1.getD r2.2.2.2.1.toNat default)).length))
      (slices_partitionOrdered_l_3 k (((r2.1.set r2.2.2.1.toNat (r2.1.getD r2.2.2.2.1.toNat default)).set r2.2.2.2.1.toNat (r2.1.getD r2.2.2.1.toNat default)), r2.2.1, (w64 (r2.2.2.1 + 1)), (w64 (r2.2.2.2.1 - 1)), ()))
      (none))
     (none))
    (none))
   (none)) := by kernel_rfl
theorem slices_partitionOrdered_l_3_l.eq (k : Nat) (data : List Int) (a : Int) (i : Int) (j : Int) : slices_partitionOrdered_l_3_l (k + 1) (data, a, i, j, ()) =
  cond (decide (i ≤ j))
  (cond (inB i data.length)
   (cond (inB a data.length)
    ((cmp_Less k ((data.getD i.toNat default), (data.getD a.toNat default))).bind fun r1 =>
     cond r1
     (slices_partitionOrdered_l_3_l k (data, a, (w64 (i + 1)), j, ()))
     (some (data, a, i, j, ())))
    (none))
   (none))
  (some (data, a, i, j, ())) := by kernel_rfl
theorem slices_partitionOrdered_l_3_l_2.eq (k : Nat) (data : List Int) (a : Int) (i : Int) (j : Int) : slices_partitionOrdered_l_3_l_2 (k + 1) (data, a, i, j, ()) =
  cond (decide (i ≤ j))
  (cond (inB j data.length)
   (cond (inB a data.length)
    ((cmp_Less k ((data.getD j.toNat default), (data.getD a.toNat default))).bind fun r1 =>
     cond (!r1)
     (slices_partitionOrdered_l_3_l_2 k (data, a, i, (w64 (j - 1)), ()))
     (some (data, a, i, j, ())))
    (none))
   (none))
  (some (data, a, i, j, ())) := by kernel_rfl
theorem spec_StatesReached.eq (k : Nat) (t_States : Int) (t_Tints : Int) (t_Rows : List (Int × (ByteArray × Int))) : spec_StatesReached (k + 1) (t_States, t_Tints, t_Rows) =
  (spec_taGood k (t_States, t_Tints, t_Rows)).bind fun r1 =>
  cond (!r1)
  (some ([], false))
  ((spec_StatesReached_l k ((t_States, t_Tints, t_Rows), [0], 0)).bind fun r2 =>
   some (r2, true)) := by kernel_rfl
theorem spec_StatesReached_l.eq (k : Nat) (t_States : Int) (t_Tints : Int) (t_Rows : List (Int × (ByteArray × Int))) (out : List Int) (k_ : Int) : spec_StatesReached_l (k + 1) ((t_States, t_Tints, t_Rows), out, k_) =
  cond (decide (k_ < t_States))
  ((spec_StatesReached_l_l k ((t_States, t_Tints, t_Rows), out, k_, (), (t_Rows.length : Int), 0)).bind fun r1 =>
   spec_StatesReached_l k (r1.1, r1.2.1, (w64 (r1.2.2 + 1))))
  (some out) := by kernel_rfl
theorem spec_StatesReached_l_l.eq (k : Nat) (t_States : Int) (t_Tints : Int) (t_Rows : List (Int × (ByteArray × Int))) (out : List Int) (k_ : Int) (t20 : Int) (t21 : Int) : spec_StatesReached_l_l (k + 1) ((t_States, t_Tints, t_Rows), out, k_, (), t20, t21) =
  cond (decide (t21 < t20))
  (cond (inB t21 t_Rows.length)
   (cond (t_Tints != 0)
    ((spec_l1Has k (out, (w64 (t21.tdiv t_Tints)))).bind fun r1 =>
     cond r1
     ((spec_l1Has k (out, (t_Rows.getD t21.toNat default).2.2)).bind fun r2 =>
      cond (!r2)
      ((spec_l1Put k (out, (t_Rows.getD t21.toNat default).2.2)).bind fun r3 =>
       spec_StatesReached_l_l k ((t_States, t_Tints, t_Rows), r3, k_, (), t20, (w64 (t21 + 1))))
      (spec_StatesReached_l_l k ((t_States, t_Tints, t_Rows), out, k_, (), t20, (w64 (t21 + 1)))))
     (spec_StatesReached_l_l k ((t_States, t_Tints, t_Rows), out, k_, (), t20, (w64 (t21 + 1)))))
    (none))
   (none))
  (some ((t_States, t_Tints, t_Rows), out, k_)) := by kernel_rfl
theorem spec_l1Put.eq (k : Nat) (l : List Int) (n : Int) : spec_l1Put (k + 1) (l, n) =
  (spec_l1Put_l k (l, n, 0)).bind fun r1 =>
  cond (decide (r1.2.2 < (r1.1.length : Int)))
  (cond (inB r1.2.2 r1.1.length)
   (cond ((r1.1.getD r1.2.2.toNat default) == r1.2.1)
    (some r1.1)
    (cond ((decide ((0 : Int) ≤ r1.2.2)) && (decide (r1.2.2 ≤ (r1.1.length : Int))))
     (cond (fits (0 + (r1.1.take r1.2.2.toNat).length) 8)
      (cond (fits (([] ++ (r1.1.take r1.2.2.toNat)).length + 1) 8)
       (cond ((decide ((0 : Int) ≤ r1.2.2)) && (decide (r1.2.2 ≤ (r1.1.length : Int))))
        (cond (fits ((([] ++ (r1.1.take r1.2.2.toNat)) ++ [r1.2.1]).length + ((r1.1.drop r1.2.2.toNat).take (r1.1.length - r1.2.2.toNat)).length) 8)
         (some ((([] ++ (r1.1.take r1.2.2.toNat)) ++ [r1.2.1]) ++ ((r1.1.drop r1.2.2.toNat).take (r1.1.length - r1.2.2.toNat))))
         (none))
        (none))
       (none))
      (none))
     (none)))
   (none))
  (cond ((decide ((0 : Int) ≤ r1.2.2)) && (decide (r1.2.2 ≤ (r1.1.length : Int))))
   (cond (fits (0 + (r1.1.take r1.2.2.toNat).length) 8)
    (cond (fits (([] ++ (r1.1.take r1.2.2.toNat)).length + 1) 8)
     (cond ((decide ((0 : Int) ≤ r1.2.2)) && (decide (r1.2.2 ≤ (r1.1.length : Int))))
      (cond (fits ((([] ++ (r1.1.take r1.2.2.toNat)) ++ [r1.2.1]).length + ((r1.1.drop r1.2.2.toNat).take (r1.1.length - r1.2.2.toNat)).length) 8)
       (some ((([] ++ (r1.1.take r1.2.2.toNat)) ++ [r1.2.1]) ++ ((r1.1.drop r1.2.2.toNat).take (r1.1.length - r1.2.2.toNat))))
       (none))
      (none))
     (none))
    (none))
   (none)) := by kernel_rfl
theorem spec_l1Put_l.eq (k : Nat) (l : List Int) (n : Int) (k_ : Int) : spec_l1Put_l (k + 1) (l, n, k_) =
  cond (decide (k_ < (l.length : Int)))
  (cond (inB k_ l.length)
   (cond (decide ((l.getD k_.toNat default) < n))
    (spec_l1Put_l k (l, n, (w64 (k_ + 1))))
    (some (l, n, k_)))
   (none))
  (some (l, n, k_)) := by kernel_rfl
theorem spec_CanUndo.eq (k : Nat) (t_States : Int) (t_Tints : Int) (t_Rows : List (Int × (ByteArray × Int))) : spec_CanUndo (k + 1) (t_States, t_Tints, t_Rows) =
  (spec_taGood k (t_States, t_Tints, t_Rows)).bind fun r1 =>
  cond (!r1)
  (some (false, false))
  ((spec_taUndo k (t_States, t_Tints, t_Rows)).bind fun r2 =>
   some (r2, true)) := by kernel_rfl
theorem spec_taUndo.eq (k : Nat) (t_States : Int) (t_Tints : Int) (t_Rows : List (Int × (ByteArray × Int))) : spec_taUndo (k + 1) (t_States, t_Tints, t_Rows) =
  (spec_taUndo_l k ((t_States, t_Tints, t_Rows), (), (t_Rows.length : Int), 0)).bind fun r1 =>
  r1.elim
  (fun r2 => some r2)
  (fun r3 => some true) := by kernel_rfl
theorem spec_taUndo_l.eq (k : Nat) (t_States : Int) (t_Tints : Int) (t_Rows : List (Int × (ByteArray × Int))) (t9 : Int) (t10 : Int) : spec_taUndo_l (k + 1) ((t_States, t_Tints, t_Rows), (), t9, t10) =
  cond (decide (t10 < t9))
  (cond (inB t10 t_Rows.length)
   (cond ((decide ((0 : Int) ≤ t10)) && (decide (t10 ≤ (t_Rows.length : Int))))
    ((spec_taUndo_l_l k ((t_States, t_Tints, t_Rows), (t_Rows.getD t10.toNat default), (), t9, t10, (t_Rows.take t10.toNat), ((t_Rows.take t10.toNat).length : Int), 0)).bind fun r1 =>
     r1.elim
     (fun r2 => some (.inl r2))
     (fun r3 => spec_taUndo_l k (r3.1, (), r3.2.2.1, (w64 (r3.2.2.2 + 1)))))
    (none))
   (none))
  (some (.inr ())) := by kernel_rfl
theorem spec_taUndo_l_l.eq (k : Nat) (t_States : Int) (t_Tints : Int) (t_Rows : List (Int × (ByteArray × Int))) (r_Paint : Int) (r_Turn : ByteArray) (r_Next : Int) (t9 : Int) (t10 : Int) (t18 : List (Int × (ByteArray × Int))) (t19 : Int) (t20 : Int) : spec_taUndo_l_l (k + 1) ((t_States, t_Tints, t_Rows), (r_Paint, r_Turn, r_Next), (), t9, t10, t18, t19, t20) =
  cond (decide (t20 < t19))
  (cond (inB t20 t18.length)
   (cond (r_Paint == (t18.getD t20.toNat default).1)
    (cond (r_Next == (t18.getD t20.toNat default).2.2)
     (some (.inl false))
     (spec_taUndo_l_l k ((t_States, t_Tints, t_Rows), (r_Paint, r_Turn, r_Next), (), t9, t10, t18, t19, (w64 (t20 + 1)))))
    (spec_taUndo_l_l k ((t_States, t_Tints, t_Rows), (r_Paint, r_Turn, r_Next), (), t9, t10, t18, t19, (w64 (t20 + 1)))))
   (none))
  (some (.inr ((t_States, t_Tints, t_Rows), (), t9, t10))) := by kernel_rfl
theorem impl_TableText.eq (k : Nat) (t_States : Int) (t_Tints : Int) (t_Rows : List (Int × (ByteArray × Int))) : impl_TableText (k + 1) (t_States, t_Tints, t_Rows) =
  (impl_IsTable k (t_States, t_Tints, t_Rows)).bind fun r1 =>
  cond (!r1)
  (some (ByteArray.empty, false))
  ((impl_listText k ((bs [47]), [t_States, t_Tints])).bind fun r2 =>
   cond (fitS r2 (bs [58]))
   ((impl_TableText_l k ((r2 ++ (bs [58])), t_Rows, (t_Rows.length : Int), 0)).bind fun r3 =>
    some (r3, true))
   (none)) := by kernel_rfl
theorem impl_listText.eq (k : Nat) (by_ : ByteArray) (list : List Int) : impl_listText (k + 1) (by_, list) =
  (impl_listText_l k (by_, [], list, (list.length : Int), 0)).bind fun r1 =>
  (strings_Join k (r1.2, r1.1)).bind fun r2 =>
  some r2 := by kernel_rfl
theorem impl_listText_l.eq (k : Nat) (by_ : ByteArray) (parts : List ByteArray) (t9 : List Int) (t10 : Int) (t11 : Int) : impl_listText_l (k + 1) (by_, parts, t9, t10, t11) =
  cond (decide (t11 < t10))
  (cond (inB t11 t9.length)
   ((strconv_Itoa k (t9.getD t11.toNat default)).bind fun r1 =>
    cond (fits (parts.length + 1) 16)
    (impl_listText_l k (by_, (parts ++ [r1]), t9, t10, (w64 (t11 + 1))))
    (none))
   (none))
  (some (by_, parts)) := by kernel_rfl
theorem strconv_Itoa.eq (k : Nat) (d : Int) : strconv_Itoa (k + 1) d = (fun d => itoaAll d) d := by kernel_rfl
theorem strings_Join.eq (k : Nat) (d : List ByteArray × ByteArray) : strings_Join (k + 1) d = (fun d => joinS d.1 d.2) d := by kernel_rfl
theorem impl_TableText_l.eq (k : Nat) (out : ByteArray) (t18 : List (Int × (ByteArray × Int))) (t19 : Int) (t20 : Int) : impl_TableText_l (k + 1) (out, t18, t19, t20) =
  cond (decide (t20 < t19))
  (cond (inB t20 t18.length)
   ((impl_listText k ((t18.getD t20.toNat default).2.1, [(t18.getD t20.toNat default).1, (t18.getD t20.toNat default).2.2])).bind fun r1 =>
    cond (fitS out r1)
    (impl_TableText_l k ((out ++ r1), t18, t19, (w64 (t20 + 1))))
    (none))
   (none))
  (some out) := by kernel_rfl
theorem spec_TableText.eq (k : Nat) (t_States : Int) (t_Tints : Int) (t_Rows : List (Int × (ByteArray × Int))) : spec_TableText (k + 1) (t_States, t_Tints, t_Rows) =
  (spec_taGood k (t_States, t_Tints, t_Rows)).bind fun r1 =>
  cond (!r1)
  (some (ByteArray.empty, false))
  ((spec_taText k (t_States, t_Tints, t_Rows)).bind fun r2 =>
   some (r2, true)) := by kernel_rfl
theorem spec_taText.eq (k : Nat) (t_States : Int) (t_Tints : Int) (t_Rows : List (Int × (ByteArray × Int))) : spec_taText (k + 1) (t_States, t_Tints, t_Rows) =
  (spec_l1Num k t_States).bind fun r1 =>
  cond (fitS r1 (bs [47]))
  ((spec_l1Num k t_Tints).bind fun r2 =>
   cond (fitS (r1 ++ (bs [47])) r2)
   (cond (fitS ((r1 ++ (bs [47])) ++ r2) (bs [58]))
    ((spec_taText_l k ((((r1 ++ (bs [47])) ++ r2) ++ (bs [58])), t_Rows, (t_Rows.length : Int), 0)).bind fun r3 =>
     some r3)
    (none))
   (none))
  (none) := by kernel_rfl
theorem spec_l1Num.eq (k : Nat) (n : Int) : spec_l1Num (k + 1) n =
  cond (decide (n < 10))
  (some (ofBytes [(w8 (w64 (48 + n)))]))
  ((spec_l1Num k (w64 (n.tdiv 10))).bind fun r1 =>
   cond (fitS r1 (ofBytes [(w8 (w64 (48 + (n.tmod 10))))]))
   (some (r1 ++ (ofBytes [(w8 (w64 (48 + (n.tmod 10))))])))
   (none)) := by kernel_rfl
theorem spec_taText_l.eq (k : Nat) (out : ByteArray) (t16 : List (Int × (ByteArray × Int))) (t17 : Int) (t18 : Int) : spec_taText_l (k + 1) (out, t16, t17, t18) =
  cond (decide (t18 < t17))
  (cond (inB t18 t16.length)
   ((spec_l1Num k ((t16.getD t18.toNat default).1)).bind fun r1 =>
    cond (fitS r1 (t16.getD t18.toNat default).2.1)
    ((spec_l1Num k ((t16.getD t18.toNat default).2.2)).bind fun r2 =>
     cond (fitS (r1 ++ (t16.getD t18.toNat default).2.1) r2)
     (cond (fitS out ((r1 ++ (t16.getD t18.toNat default).2.1) ++ r2))
      (spec_taText_l k ((out ++ ((r1 ++ (t16.getD t18.toNat default).2.1) ++ r2)), t16, t17, (w64 (t18 + 1))))
      (none))
     (none))
    (none))
   (none))
  (some out) := by kernel_rfl
theorem spec_DrawEmptyScene.eq (k : Nat) (code : List Int) : spec_DrawEmptyScene (k + 1) code =
  (spec_l1Cur_table k (code, 0, 0)).bind fun r1 =>
  (spec_l1Cur_among k (r1.2, [1, 2, 3, 9, 10, 0])).bind fun r2 =>
  (spec_l1Cur_among k (r2.2, [1, 2, 3, 9, 10, (-1)])).bind fun r3 =>
  some (r1.1, r2.1, r3.1) := by kernel_rfl
theorem impl_EmptyScene.eq (k : Nat) (t_States : Int) (t_Tints : Int) (t_Rows : List (Int × (ByteArray × Int))) (width : Int) (height : Int) : impl_EmptyScene (k + 1) ((t_States, t_Tints, t_Rows), width, height) =
  (impl_IsTable k (t_States, t_Tints, t_Rows)).bind fun r1 =>
  cond (!r1)
  (some ((0, 0, [], 0, 0, ByteArray.empty, 0, 0, 0, 0), false))
  ((impl_isSize k (width, height)).bind fun r2 =>
   cond (!r2)
   (some ((0, 0, [], 0, 0, ByteArray.empty, 0, 0, 0, 0), false))
   ((impl_Table_own k (t_States, t_Tints, t_Rows)).bind fun r3 =>
    (strings_Repeat k ((bs [48]), (w64 (width * height)))).bind fun r4 =>
    some ((r3.1, r3.2.1, r3.2.2, width, height, r4, 0, 0, 0, 0), true))) := by kernel_rfl
theorem impl_isSize.eq (k : Nat) (width : Int) (height : Int) : impl_isSize (k + 1) (width, height) =
  (impl_within k (width, 1, 9)).bind fun r1 =>
  cond r1
  ((impl_within k (height, 1, 9)).bind fun r2 =>
   some r2)
  (some false) := by kernel_rfl
theorem strings_Repeat.eq (k : Nat) (d : ByteArray × Int) : strings_Repeat (k + 1) d = (fun d => strRep d.1 d.2) d := by kernel_rfl
theorem spec_EmptyScene.eq (k : Nat) (t_States : Int) (t_Tints : Int) (t_Rows : List (Int × (ByteArray × Int))) (width : Int) (height : Int) : spec_EmptyScene (k + 1) ((t_States, t_Tints, t_Rows), width, height) =
  (spec_taGood k (t_States, t_Tints, t_Rows)).bind fun r1 =>
  cond (!r1)
  (some ((0, 0, [], 0, 0, ByteArray.empty, 0, 0, 0, 0), false))
  ((spec_l1In k (width, 1, 9)).bind fun r2 =>
   cond (!r2)
   (some ((0, 0, [], 0, 0, ByteArray.empty, 0, 0, 0, 0), false))
   ((spec_l1In k (height, 1, 9)).bind fun r3 =>
    cond (!r3)
    (some ((0, 0, [], 0, 0, ByteArray.empty, 0, 0, 0, 0), false))
    ((spec_woZeros k (w64 (width * height))).bind fun r4 =>
     (spec_taOwn k (t_States, t_Tints, t_Rows, width, height, r4, 0, 0, 0, 0)).bind fun r5 =>
     some (r5, true)))) := by kernel_rfl
theorem spec_woZeros.eq (k : Nat) (n : Int) : spec_woZeros (k + 1) n =
  (spec_woZeros_l k (n, ByteArray.empty)).bind fun r1 =>
  some r1 := by kernel_rfl
theorem spec_woZeros_l.eq (k : Nat) (n : Int) (out : ByteArray) : spec_woZeros_l (k + 1) (n, out) =
  cond (decide (n > 0))
  (cond (fitS out (bs [48]))
   (spec_woZeros_l k ((w64 (n - 1)), (out ++ (bs [48]))))
   (none))
  (some out) := by kernel_rfl
theorem spec_taOwn.eq (k : Nat) (s_TableStates : Int) (s_TableTints : Int) (s_TableRows : List (Int × (ByteArray × Int))) (s_Width : Int) (s_Height : Int) (s_Cells : ByteArray) (s_X : Int) (s_Y : Int) (s_Way : Int) (s_State : Int) : spec_taOwn (k + 1) (s_TableStates, s_TableTints, s_TableRows, s_Width, s_Height, s_Cells, s_X, s_Y, s_Way, s_State) =
  cond (fits (0 + s_TableRows.length) 32)
  (some (s_TableStates, s_TableTints, ([] ++ s_TableRows), s_Width, s_Height, s_Cells, s_X, s_Y, s_Way, s_State))
  (none) := by kernel_rfl
theorem spec_DrawRowOf.eq (k : Nat) (code : List Int) : spec_DrawRowOf (k + 1) code =
  (spec_l1Cur_table k (code, 0, 0)).bind fun r1 =>
  (spec_l1Cur_pick k (r1.2, 4)).bind fun r2 =>
  (spec_l1Cur_pick k (r2.2, 9)).bind fun r3 =>
  (spec_l1Cur_pick k (r3.2, 4)).bind fun r4 =>
  (spec_l1Cur_pick k (r4.2, 9)).bind fun r5 =>
  some (r1.1, (w64 (r2.1 - (w64 (r3.1.tdiv 8)))), (w64 (r4.1 - (w64 (r5.1.tdiv 8))))) := by kernel_rfl
theorem impl_RowOf.eq (k : Nat) (t_States : Int) (t_Tints : Int) (t_Rows : List (Int × (ByteArray × Int))) (state : Int) (tint : Int) : impl_RowOf (k + 1) ((t_States, t_Tints, t_Rows), state, tint) =
  (impl_IsTable k (t_States, t_Tints, t_Rows)).bind fun r1 =>
  cond (!r1)
  (some ((0, ByteArray.empty, 0), false))
  ((impl_Table_isState k ((t_States, t_Tints, t_Rows), state)).bind fun r2 =>
   cond (!r2)
   (some ((0, ByteArray.empty, 0), false))
   ((impl_Table_isTint k ((t_States, t_Tints, t_Rows), tint)).bind fun r3 =>
    cond (!r3)
    (some ((0, ByteArray.empty, 0), false))
    ((impl_Table_row k ((t_States, t_Tints, t_Rows), state, tint)).bind fun r4 =>
     some (r4, true)))) := by kernel_rfl
theorem spec_RowOf.eq (k : Nat) (t_States : Int) (t_Tints : Int) (t_Rows : List (Int × (ByteArray × Int))) (state : Int) (tint : Int) : spec_RowOf (k + 1) ((t_States, t_Tints, t_Rows), state, tint) =
  (spec_taGood k (t_States, t_Tints, t_Rows)).bind fun r1 =>
  cond (!r1)
  (some ((0, ByteArray.empty, 0), false))
  ((spec_l1In k (state, 0, (w64 (t_States - 1)))).bind fun r2 =>
   cond (!r2)
   (some ((0, ByteArray.empty, 0), false))
   ((spec_l1In k (tint, 0, (w64 (t_Tints - 1)))).bind fun r3 =>
    cond (!r3)
    (some ((0, ByteArray.empty, 0), false))
    (cond (inB (w64 ((w64 (state * t_Tints)) + tint)) t_Rows.length)
     (some ((t_Rows.getD ((w64 ((w64 (state * t_Tints)) + tint)).toNat) default), true))
     (none)))) := by kernel_rfl
theorem spec_DrawCountTables.eq (k : Nat) (code : List Int) : spec_DrawCountTables (k + 1) code =
  (spec_l1Cur_among k ((code, 0, 0), [1, 2, 3, 4, 0, 1, 2, 4611686018427387904])).bind fun r1 =>
  (spec_l1Cur_among k (r1.2, [1, 2, 3, 4, 1, 2, 0, (-1)])).bind fun r2 =>
  some (r1.1, r2.1) := by kernel_rfl
theorem impl_CountTables.eq (k : Nat) (states : Int) (tints : Int) : impl_CountTables (k + 1) (states, tints) =
  (impl_isCounted k (states, tints)).bind fun r1 =>
  cond (!r1)
  (some (0, false))
  ((impl_CountTables_l k (states, tints, 1, (w64 (states * tints)), 0)).bind fun r2 =>
   some (r2, true)) := by kernel_rfl
theorem impl_isCounted.eq (k : Nat) (states : Int) (tints : Int) : impl_isCounted (k + 1) (states, tints) =
  (impl_isShape k (states, tints)).bind fun r1 =>
  cond r1
  (some (decide ((w64 (states * tints)) ≤ 4)))
  (some false) := by kernel_rfl
theorem impl_CountTables_l.eq (k : Nat) (states : Int) (tints : Int) (all : Int) (t13 : Int) (t14 : Int) : impl_CountTables_l (k + 1) (states, tints, all, t13, t14) =
  cond (decide (t14 < t13))
  (impl_CountTables_l k (states, tints, (w64 (all * (w64 ((w64 (4 * states)) * tints)))), t13, (w64 (t14 + 1))))
  (some all) := by kernel_rfl
theorem spec_CountTables.eq (k : Nat) (states : Int) (tints : Int) : spec_CountTables (k + 1) (states, tints) =
  (spec_taRows k (states, tints)).bind fun r1 =>
  cond (!r1)
  (some (0, false))
  ((spec_taPower k ((w64 (4 * (w64 (states * tints)))), (w64 (states * tints)))).bind fun r2 =>
   some (r2, true)) := by kernel_rfl
theorem spec_taRows.eq (k : Nat) (states : Int) (tints : Int) : spec_taRows (k + 1) (states, tints) =
  (spec_l1In k (states, 1, 4)).bind fun r1 =>
  cond r1
  ((spec_l1In k (tints, 1, 4)).bind fun r2 =>
   cond r2
   (some (decide ((w64 (states * tints)) ≤ 4)))
   (some false))
  (some false) := by kernel_rfl
theorem spec_taPower.eq (k : Nat) (n : Int) (by_ : Int) : spec_taPower (k + 1) (n, by_) =
  (spec_taPower_l k (n, by_, 1)).bind fun r1 =>
  some r1 := by kernel_rfl
theorem spec_taPower_l.eq (k : Nat) (n : Int) (by_ : Int) (out : Int) : spec_taPower_l (k + 1) (n, by_, out) =
  cond (decide (by_ > 0))
  (spec_taPower_l k (n, (w64 (by_ - 1)), (w64 (out * n))))
  (some out) := by kernel_rfl
theorem impl_CountUndoable.eq (k : Nat) (states : Int) (tints : Int) : impl_CountUndoable (k + 1) (states, tints) =
  (impl_isCounted k (states, tints)).bind fun r1 =>
  cond (!r1)
  (some (0, false))
  ((impl_CountUndoable_l k (1, (w64 (states * tints)), 0)).bind fun r2 =>
   some (r2, true)) := by kernel_rfl
theorem impl_CountUndoable_l.eq (k : Nat) (all : Int) (t14 : Int) (t15 : Int) : impl_CountUndoable_l (k + 1) (all, t14, t15) =
  cond (decide (t15 < t14))
  (impl_CountUndoable_l k ((w64 (all * (w64 (4 * (w64 (t15 + 1)))))), t14, (w64 (t15 + 1))))
  (some all) := by kernel_rfl
theorem spec_CountUndoable.eq (k : Nat) (states : Int) (tints : Int) : spec_CountUndoable (k + 1) (states, tints) =
  (spec_taRows k (states, tints)).bind fun r1 =>
  cond (!r1)
  (some (0, false))
  ((spec_taPower k (4, (w64 (states * tints)))).bind fun r2 =>
   (spec_CountUndoable_l k ((w64 (states * tints)), r2, 2)).bind fun r3 =>
   some (r3, true)) := by kernel_rfl
theorem spec_CountUndoable_l.eq (k : Nat) (n : Int) (count : Int) (k_ : Int) : spec_CountUndoable_l (k + 1) (n, count, k_) =
  cond (decide (k_ ≤ n))
  (spec_CountUndoable_l k (n, (w64 (count * k_)), (w64 (k_ + 1))))
  (some count) := by kernel_rfl
theorem spec_DrawParseTable.eq (k : Nat) (code : List Int) : spec_DrawParseTable (k + 1) code =
  (spec_l1Cur_sureTable k (code, 0, 0)).bind fun r1 =>
  (spec_taText k r1.1).bind fun r2 =>
  (spec_l1Cur_one k (r1.2, 3)).bind fun r3 =>
  cond r3.1
  ((spec_l1Cur_spoilt k (r3.2, r2, (bs [48, 49, 50, 51, 76, 82, 78, 85, 47, 58]))).bind fun r4 =>
   some r4.1)
  (some r2) := by kernel_rfl
theorem spec_l1Cur_spoilt.eq (k : Nat) (c_code : List Int) (c_at : Int) (c_seed : Int) (t : ByteArray) (with_ : ByteArray) : spec_l1Cur_spoilt (k + 1) ((c_code, c_at, c_seed), t, with_) =
  (spec_l1Cur_pick k ((c_code, c_at, c_seed), 2)).bind fun r1 =>
  (spec_l1Cur_spoilt_l k (r1.2, t, with_, (w64 (1 + r1.1)), ())).bind fun r2 =>
  some r2 := by kernel_rfl
theorem spec_l1Cur_spoilt_l.eq (k : Nat) (c_code : List Int) (c_at : Int) (c_seed : Int) (t : ByteArray) (with_ : ByteArray) (n : Int) : spec_l1Cur_spoilt_l (k + 1) ((c_code, c_at, c_seed), t, with_, n, ()) =
  cond (decide (n > 0))
  (cond (decide ((t.size : Int) > 0))
   ((spec_l1Cur_pick k ((c_code, c_at, c_seed), (t.size : Int))).bind fun r1 =>
    (spec_l1Cur_pick k (r1.2, (with_.size : Int))).bind fun r2 =>
    cond (inB r2.1 with_.size)
    ((spec_l1Cur_pick k (r2.2, 3)).bind fun r3 =>
     cond (r3.1 == 0)
     (cond ((decide ((0 : Int) ≤ r1.1)) && (decide (r1.1 ≤ (t.size : Int))))
      (cond (fitS (t.extract 0 r1.1.toNat) (ofBytes [(bt with_ r2.1.toNat)]))
       (cond ((decide ((0 : Int) ≤ r1.1)) && (decide (r1.1 ≤ (t.size : Int))))
        (cond (fitS ((t.extract 0 r1.1.toNat) ++ (ofBytes [(bt with_ r2.1.toNat)])) (t.extract r1.1.toNat t.size))
         (spec_l1Cur_spoilt_l k (r3.2, (((t.extract 0 r1.1.toNat) ++ (ofBytes [(bt with_ r2.1.toNat)])) ++ (t.extract r1.1.toNat t.size)), with_, (w64 (n - 1)), ()))
         (none))
        (none))
       (none))
      (none))
     (cond (r3.1 == 1)
      (cond ((decide ((0 : Int) ≤ r1.1)) && (decide (r1.1 ≤ (t.size : Int))))
       (cond (fitS (t.extract 0 r1.1.toNat) (ofBytes [(bt with_ r2.1.toNat)]))
        (cond ((decide ((0 : Int) ≤ (w64 (r1.1 + 1)))) && (decide ((w64 (r1.1 + 1)) ≤ (t.size : Int))))
         (cond (fitS ((t.extract 0 r1.1.toNat) ++ (ofBytes [(bt with_ r2.1.toNat)])) (t.extract ((w64 (r1.1 + 1)).toNat) t.size))
          (spec_l1Cur_spoilt_l k (r3.2, (((t.extract 0 r1.1.toNat) ++ (ofBytes [(bt with_ r2.1.toNat)])) ++ (t.extract ((w64 (r1.1 + 1)).toNat) t.size)), with_, (w64 (n - 1)), ()))
          (none))
         (none))
        (none))
       (none))
      (cond ((decide ((0 : Int) ≤ r1.1)) && (decide (r1.1 ≤ (t.size : Int))))
       (cond ((decide ((0 : Int) ≤ (w64 (r1.1 + 1)))) && (decide ((w64 (r1.1 + 1)) ≤ (t.size : Int))))
        (cond (fitS (t.extract 0 r1.1.toNat) (t.extract ((w64 (r1.1 + 1)).toNat) t.size))
         (spec_l1Cur_spoilt_l k (r3.2, ((t.extract 0 r1.1.toNat) ++ (t.extract ((w64 (r1.1 + 1)).toNat) t.size)), with_, (w64 (n - 1)), ()))
         (none))
        (none))
       (none))))
    (none))
   (some (t, (c_code, c_at, c_seed))))
  (some (t, (c_code, c_at, c_seed))) := by kernel_rfl
theorem impl_ParseTable.eq (k : Nat) (s : ByteArray) : impl_ParseTable (k + 1) s =
  (strings_Cut k (s, (bs [58]))).bind fun r1 =>
  (impl_numbers k (r1.1, (bs [47]), 2, 4)).bind fun r2 =>
  cond (!r2.2)
  (some ((0, 0, []), false))
  (cond (!r1.2.2)
   (some ((0, 0, []), false))
   (cond (((r1.2.1.size : Int).tmod 3) != 0)
    (some ((0, 0, []), false))
    (cond (inB 0 r2.1.length)
     (cond (inB 1 r2.1.length)
      ((impl_ParseTable_l k ((0, 0, []), r1.2.1, ((r2.1.getD 0 default), (r2.1.getD 1 default), []), 0)).bind fun r3 =>
       (impl_IsTable k r3.2).bind fun r4 =>
       cond (!r4)
       (some ((0, 0, []), false))
       (some (r3.2, true)))
      (none))
     (none)))) := by kernel_rfl
theorem strings_Cut.eq (k : Nat) (d : ByteArray × ByteArray) : strings_Cut (k + 1) d = (fun d => strCut d.1 d.2) d := by kernel_rfl
theorem impl_numbers.eq (k : Nat) (s : ByteArray) (by_ : ByteArray) (many : Int) (most : Int) : impl_numbers (k + 1) (s, by_, many, most) =
  (strings_Split k (s, by_)).bind fun r1 =>
  (impl_numbers_l k (many, most, [], r1, (r1.length : Int), 0)).bind fun r2 =>
  r2.elim
  (fun r3 => some r3)
  (fun r4 => cond ((r4.2.length : Int) != r4.1)
   (cond (((decide ((0 : Int) ≤ r4.1)) && (decide (r4.1 ≤ r4.1))) && (fits r4.1.toNat 8))
    (some ((List.replicate r4.1.toNat 0), false))
    (none))
   (some (r4.2, true))) := by kernel_rfl
theorem strings_Split.eq (k : Nat) (d : ByteArray × ByteArray) : strings_Split (k + 1) d = (fun d => strSplit1 d.1 d.2) d := by kernel_rfl
theorem impl_numbers_l.eq (k : Nat) (many : Int) (most : Int) (out : List Int) (t18 : List ByteArray) (t19 : Int) (t20 : Int) : impl_numbers_l (k + 1) (many, most, out, t18, t19, t20) =
  cond (decide (t20 < t19))
  (cond (inB t20 t18.length)
   ((impl_number k ((t18.getD t20.toNat default), most)).bind fun r1 =>
    cond (!r1.2)
    (cond (((decide ((0 : Int) ≤ many)) && (decide (many ≤ many))) && (fits many.toNat 8))
     (some (.inl ((List.replicate many.toNat 0), false)))
     (none))
    (cond (fits (out.length + 1) 8)
     (impl_numbers_l k (many, most, (out ++ [r1.1]), t18, t19, (w64 (t20 + 1))))
     (none)))
   (none))
  (some (.inr (many, out))) := by kernel_rfl
theorem impl_number.eq (k : Nat) (d : ByteArray × Int) : impl_number (k + 1) d = (fun d => numB d.1 d.2) d := by kernel_rfl
theorem impl_ParseTable_l.eq (k : Nat) (t2_States : Int) (t2_Tints : Int) (t2_Rows : List (Int × (ByteArray × Int))) (rest : ByteArray) (t_States : Int) (t_Tints : Int) (t_Rows : List (Int × (ByteArray × Int))) (k_ : Int) : impl_ParseTable_l (k + 1) ((t2_States, t2_Tints, t2_Rows), rest, (t_States, t_Tints, t_Rows), k_) =
  cond (decide (k_ < (rest.size : Int)))
  (cond (inB k_ rest.size)
   (cond (((decide ((0 : Int) ≤ (w64 (k_ + 2)))) && (decide ((w64 (k_ + 2)) ≤ (rest.size : Int)))) && ((decide ((0 : Int) ≤ (w64 (k_ + 1)))) && (decide ((w64 (k_ + 1)) ≤ (w64 (k_ + 2))))))
    (cond (inB (w64 (k_ + 2)) rest.size)
     (cond (fits (t_Rows.length + 1) 32)
      (impl_ParseTable_l k ((t2_States, t2_Tints, t2_Rows), rest, (t_States, t_Tints, (t_Rows ++ [((w64 ((w64 (bt rest k_.toNat)) - 48)), ((rest.extract ((w64 (k_ + 1)).toNat) ((w64 (k_ + 2)).toNat)), (w64 ((w64 (bt rest ((w64 (k_ + 2)).toNat))) - 48))))])), (w64 (k_ + 3))))
      (none))
     (none))
    (none))
   (none))
  (some ((t2_States, t2_Tints, t2_Rows), (t_States, t_Tints, t_Rows))) := by kernel_rfl
theorem spec_ParseTable.eq (k : Nat) (s : ByteArray) : spec_ParseTable (k + 1) s =
  (spec_taParse k s).bind fun r1 =>
  cond (!r1.2)
  (some ((0, 0, []), false))
  (some (r1.1, true)) := by kernel_rfl
theorem spec_taParse.eq (k : Nat) (s : ByteArray) : spec_taParse (k + 1) s =
  (spec_l1Split k (s, 58)).bind fun r1 =>
  cond (decide ((s.size : Int) > 60))
  (some ((0, 0, []), false))
  (cond ((r1.length : Int) != 2)
   (some ((0, 0, []), false))
   (cond (inB 1 r1.length)
    (cond ((((r1.getD 1 default).size : Int).tmod 3) != 0)
     (some ((0, 0, []), false))
     (cond (inB 0 r1.length)
      ((spec_l1Split k ((r1.getD 0 default), 47)).bind fun r2 =>
       cond ((r2.length : Int) != 2)
       (some ((0, 0, []), false))
       (cond (inB 0 r2.length)
        ((spec_l1Read k (r2.getD 0 default)).bind fun r3 =>
         cond (inB 1 r2.length)
         ((spec_l1Read k (r2.getD 1 default)).bind fun r4 =>
          cond (inB 1 r1.length)
          ((spec_taParse_l k (s, (0, 0, []), (r3, r4, []), (r1.getD 1 default))).bind fun r5 =>
           (spec_taGood k r5.2.2).bind fun r6 =>
           cond r6
           ((spec_taText k r5.2.2).bind fun r7 =>
            some (r5.2.2, (strEq r7 r5.1)))
           (some (r5.2.2, false)))
          (none))
         (none))
        (none)))
      (none)))
    (none))) := by kernel_rfl
theorem spec_l1Split.eq (k : Nat) (s : ByteArray) (b : Int) : spec_l1Split (k + 1) (s, b) =
  (spec_l1Split_l k (s, b, [], 0, 0)).bind fun r1 =>
  cond ((decide ((0 : Int) ≤ r1.2.2)) && (decide (r1.2.2 ≤ (r1.1.size : Int))))
  (cond (fits (r1.2.1.length + 1) 16)
   (some (r1.2.1 ++ [(r1.1.extract r1.2.2.toNat r1.1.size)]))
   (none))
  (none) := by kernel_rfl
theorem spec_l1Split_l.eq (k : Nat) (s : ByteArray) (b : Int) (out : List ByteArray) (from_ : Int) (i : Int) : spec_l1Split_l (k + 1) (s, b, out, from_, i) =
  cond (decide (i < (s.size : Int)))
  (cond (inB i s.size)
   (cond ((bt s i.toNat) == b)
    (cond (((decide ((0 : Int) ≤ i)) && (decide (i ≤ (s.size : Int)))) && ((decide ((0 : Int) ≤ from_)) && (decide (from_ ≤ i))))
     (cond (fits (out.length + 1) 16)
      (spec_l1Split_l k (s, b, (out ++ [(s.extract from_.toNat i.toNat)]), (w64 (i + 1)), (w64 (i + 1))))
      (none))
     (none))
    (spec_l1Split_l k (s, b, out, from_, (w64 (i + 1)))))
   (none))
  (some (s, out, from_)) := by kernel_rfl
theorem spec_l1Read.eq (k : Nat) (s : ByteArray) : spec_l1Read (k + 1) s =
  (spec_l1In k ((s.size : Int), 1, 6)).bind fun r1 =>
  cond (!r1)
  (some (-1))
  (cond (inB 0 s.size)
   (cond ((bt s 0) == 48)
    (cond (decide ((s.size : Int) > 1))
     (some (-1))
     ((spec_l1Read_l k (s, 0, 0)).bind fun r2 =>
      r2.elim
      (fun r3 => some r3)
      (fun r4 => some r4)))
    ((spec_l1Read_l k (s, 0, 0)).bind fun r5 =>
     r5.elim
     (fun r6 => some r6)
     (fun r7 => some r7)))
   (none)) := by kernel_rfl
theorem spec_l1Read_l.eq (k : Nat) (s : ByteArray) (n : Int) (i : Int) : spec_l1Read_l (k + 1) (s, n, i) =
  cond (decide (i < (s.size : Int)))
  (cond (inB i s.size)
   (cond (decide ((bt s i.toNat) < 48))
    (some (.inl (-1)))
    (cond (inB i s.size)
     (cond (decide ((bt s i.toNat) > 57))
      (some (.inl (-1)))
      (cond (inB i s.size)
       (spec_l1Read_l k (s, (w64 ((w64 (10 * n)) + (w64 (w8 ((bt s i.toNat) - 48))))), (w64 (i + 1))))
       (none)))
     (none)))
   (none))
  (some (.inr n)) := by kernel_rfl
theorem spec_taParse_l.eq (k : Nat) (s : ByteArray) (t2_States : Int) (t2_Tints : Int) (t2_Rows : List (Int × (ByteArray × Int))) (t_States : Int) (t_Tints : Int) (t_Rows : List (Int × (ByteArray × Int))) (rows : ByteArray) : spec_taParse_l (k + 1) (s, (t2_States, t2_Tints, t2_Rows), (t_States, t_Tints, t_Rows), rows) =
  cond (decide ((rows.size : Int) > 0))
  (cond (decide ((1 : Int) ≤ (rows.size : Int)))
   ((spec_l1Read k (rows.extract 0 1)).bind fun r1 =>
    cond ((decide ((2 : Int) ≤ (rows.size : Int))) && true)
    (cond ((decide ((3 : Int) ≤ (rows.size : Int))) && true)
     ((spec_l1Read k (rows.extract 2 3)).bind fun r2 =>
      cond (fits (t_Rows.length + 1) 32)
      (cond (decide ((3 : Int) ≤ (rows.size : Int)))
       (spec_taParse_l k (s, (t2_States, t2_Tints, t2_Rows), (t_States, t_Tints, (t_Rows ++ [(r1, ((rows.extract 1 2), r2))])), (rows.extract 3 rows.size)))
       (none))
      (none))
     (none))
    (none))
   (none))
  (some (s, (t2_States, t2_Tints, t2_Rows), (t_States, t_Tints, t_Rows))) := by kernel_rfl
theorem laws_dSame.eq (k : Nat) (a : List Int) (b : List Int) : laws_dSame (k + 1) (a, b) =
  cond ((a.length : Int) != (b.length : Int))
  (some false)
  ((laws_dSame_l k (a, b, (a.length : Int), 0)).bind fun r1 =>
   r1.elim
   (fun r2 => some r2)
   (fun r3 => some true)) := by kernel_rfl
theorem laws_dSame_l.eq (k : Nat) (a : List Int) (b : List Int) (t12 : Int) (t13 : Int) : laws_dSame_l (k + 1) (a, b, t12, t13) =
  cond (decide (t13 < t12))
  (cond (inB t13 a.length)
   (cond (inB t13 b.length)
    (cond ((a.getD t13.toNat default) != (b.getD t13.toNat default))
     (some (.inl false))
     (laws_dSame_l k (a, b, t12, (w64 (t13 + 1)))))
    (none))
   (none))
  (some (.inr ())) := by kernel_rfl
theorem laws_dScene.eq (k : Nat) (a_TableStates : Int) (a_TableTints : Int) (a_TableRows : List (Int × (ByteArray × Int))) (a_Width : Int) (a_Height : Int) (a_Cells : ByteArray) (a_X : Int) (a_Y : Int) (a_Way : Int) (a_State : Int) (b_TableStates : Int) (b_TableTints : Int) (b_TableRows : List (Int × (ByteArray × Int))) (b_Width : Int) (b_Height : Int) (b_Cells : ByteArray) (b_X : Int) (b_Y : Int) (b_Way : Int) (b_State : Int) : laws_dScene (k + 1) ((a_TableStates, a_TableTints, a_TableRows, a_Width, a_Height, a_Cells, a_X, a_Y, a_Way, a_State), (b_TableStates, b_TableTints, b_TableRows, b_Width, b_Height, b_Cells, b_X, b_Y, b_Way, b_State)) =
  (laws_dTable k ((a_TableStates, a_TableTints, a_TableRows), (b_TableStates, b_TableTints, b_TableRows))).bind fun r1 =>
  cond r1
  (cond (a_Width == b_Width)
   (cond (a_Height == b_Height)
    (cond (strEq a_Cells b_Cells)
     (cond (a_X == b_X)
      (cond (a_Y == b_Y)
       (cond (a_Way == b_Way)
        (some (a_State == b_State))
        (some false))
       (some false))
      (some false))
     (some false))
    (some false))
   (some false))
  (some false) := by kernel_rfl
theorem laws_FnTablesNamed_c_c_c_c.eq (k : Nat) (m_States : Int) (m_Tints : Int) (m_Rows : List (Int × (ByteArray × Int))) (mirror_States : Int) (mirror_Tints : Int) (mirror_Rows : List (Int × (ByteArray × Int))) (three : Bool) (states : List Int) (text : ByteArray) (empty_TableStates : Int) (empty_TableTints : Int) (empty_TableRows : List (Int × (ByteArray × Int))) (empty_Width : Int) (empty_Height : Int) (empty_Cells : ByteArray) (empty_X : Int) (empty_Y : Int) (empty_Way : Int) (empty_State : Int) (eleven : Bool) (count : Int) (fifteen : Bool) (undoable : Int) (s : ByteArray) (read_States : Int) (read_Tints : Int) (read_Rows : List (Int × (ByteArray × Int))) (nineteen : Bool) : laws_FnTablesNamed_c_c_c_c (k + 1) ((m_States, m_Tints, m_Rows), (mirror_States, mirror_Tints, mirror_Rows), three, states, text, (empty_TableStates, empty_TableTints, empty_TableRows, empty_Width, empty_Height, empty_Cells, empty_X, empty_Y, empty_Way, empty_State), eleven, count, fifteen, undoable, s, (read_States, read_Tints, read_Rows), nineteen) =
  cond three
  ((impl_MirrorTable k (mirror_States, mirror_Tints, mirror_Rows)).bind fun r1 =>
   (impl_ParseTable k text).bind fun r2 =>
   cond (!r1.2)
   (some false)
   ((laws_dTable k (r1.1, (m_States, m_Tints, m_Rows))).bind fun r3 =>
    cond (!r3)
    (some false)
    (cond (!r2.2)
     (some false)
     ((laws_dTable k (r2.1, (m_States, m_Tints, m_Rows))).bind fun r4 =>
      cond (!r4)
      (some false)
      (cond (decide ((states.length : Int) < 1))
       (some false)
       (cond (inB 0 states.length)
        (cond ((states.getD 0 default) != 0)
         (some false)
         (cond (decide ((states.length : Int) > m_States))
          (some false)
          ((laws_FnTablesNamed_c_c_c_c_l k ((m_States, m_Tints, m_Rows), states, (empty_TableStates, empty_TableTints, empty_TableRows, empty_Width, empty_Height, empty_Cells, empty_X, empty_Y, empty_Way, empty_State), eleven, count, fifteen, undoable, s, (read_States, read_Tints, read_Rows), nineteen, (), (states.length : Int), 0)).bind fun r5 =>
           r5.elim
           (fun r6 => some r6)
           (fun r7 => (laws_FnTablesNamed_c_c_c_c_c k r7).bind fun r8 =>
            some r8))))
        (none)))))))
  ((laws_FnTablesNamed_c_c_c_c_c k ((empty_TableStates, empty_TableTints, empty_TableRows, empty_Width, empty_Height, empty_Cells, empty_X, empty_Y, empty_Way, empty_State), eleven, count, fifteen, undoable, s, (read_States, read_Tints, read_Rows), nineteen)).bind fun r9 =>
   some r9) := by kernel_rfl
theorem laws_FnTablesNamed_c_c_c_c_l.eq (k : Nat) (m_States : Int) (m_Tints : Int) (m_Rows : List (Int × (ByteArray × Int))) (states : List Int) (empty_TableStates : Int) (empty_TableTints : Int) (empty_TableRows : List (Int × (ByteArray × Int))) (empty_Width : Int) (empty_Height : Int) (empty_Cells : ByteArray) (empty_X : Int) (empty_Y : Int) (empty_Way : Int) (empty_State : Int) (eleven : Bool) (count : Int) (fifteen : Bool) (undoable : Int) (s : ByteArray) (read_States : Int) (read_Tints : Int) (read_Rows : List (Int × (ByteArray × Int))) (nineteen : Bool) (t542 : Int) (t543 : Int) : laws_FnTablesNamed_c_c_c_c_l (k + 1) ((m_States, m_Tints, m_Rows), states, (empty_TableStates, empty_TableTints, empty_TableRows, empty_Width, empty_Height, empty_Cells, empty_X, empty_Y, empty_Way, empty_State), eleven, count, fifteen, undoable, s, (read_States, read_Tints, read_Rows), nineteen, (), t542, t543) =
  cond (decide (t543 < t542))
  (cond (inB t543 states.length)
   ((laws_FnTablesNamed_c_c_c_c_l_l k ((m_States, m_Tints, m_Rows), states, (empty_TableStates, empty_TableTints, empty_TableRows, empty_Width, empty_Height, empty_Cells, empty_X, empty_Y, empty_Way, empty_State), eleven, count, fifteen, undoable, s, (read_States, read_Tints, read_Rows), nineteen, (states.getD t543.toNat default), 0, (), t542, t543)).bind fun r1 =>
    r1.elim
    (fun r2 => some (.inl r2))
    (fun r3 => laws_FnTablesNamed_c_c_c_c_l k (r3.1, r3.2.1, r3.2.2.1, r3.2.2.2.1, r3.2.2.2.2.1, r3.2.2.2.2.2.1, r3.2.2.2.2.2.2.1, r3.2.2.2.2.2.2.2.1, r3.2.2.2.2.2.2.2.2.1, r3.2.2.2.2.2.2.2.2.2.1, (), r3.2.2.2.2.2.2.2.2.2.2.2.1, (w64 (r3.2.2.2.2.2.2.2.2.2.2.2.2 + 1)))))
   (none))
  (some (.inr ((empty_TableStates, empty_TableTints, empty_TableRows, empty_Width, empty_Height, empty_Cells, empty_X, empty_Y, empty_Way, empty_State), eleven, count, fifteen, undoable, s, (read_States, read_Tints, read_Rows), nineteen))) := by kernel_rfl
theorem laws_FnTablesNamed_c_c_c_c_l_l.eq (k : Nat) (m_States : Int) (m_Tints : Int) (m_Rows : List (Int × (ByteArray × Int))) (states : List Int) (empty_TableStates : Int) (empty_TableTints : Int) (empty_TableRows : List (Int × (ByteArray × Int))) (empty_Width : Int) (empty_Height : Int) (empty_Cells : ByteArray) (empty_X : Int) (empty_Y : Int) (empty_Way : Int) (empty_State : Int) (eleven : Bool) (count : Int) (fifteen : Bool) (undoable : Int) (s : ByteArray) (read_States : Int) (read_Tints : Int) (read_Rows : List (Int × (ByteArray × Int))) (nineteen : Bool) (x : Int) (c : Int) (t542 : Int) (t543 : Int) : laws_FnTablesNamed_c_c_c_c_l_l (k + 1) ((m_States, m_Tints, m_Rows), states, (empty_TableStates, empty_TableTints, empty_TableRows, empty_Width, empty_Height, empty_Cells, empty_X, empty_Y, empty_Way, empty_State), eleven, count, fifteen, undoable, s, (read_States, read_Tints, read_Rows), nineteen, x, c, (), t542, t543) =
  cond (decide (c < m_Tints))
  ((impl_RowOf k ((m_States, m_Tints, m_Rows), x, c)).bind fun r1 =>
   cond (!r1.2)
   ((laws_FnTablesNamed_c_c_c_c_l_l_c k ((m_States, m_Tints, m_Rows), states, (empty_TableStates, empty_TableTints, empty_TableRows, empty_Width, empty_Height, empty_Cells, empty_X, empty_Y, empty_Way, empty_State), eleven, count, fifteen, undoable, s, (read_States, read_Tints, read_Rows), nineteen, x, c, (), t542, t543, true)).bind fun r2 =>
    r2.elim
    (fun r3 => some (.inl r3))
    (fun r4 => laws_FnTablesNamed_c_c_c_c_l_l k (r4.1, r4.2.1, r4.2.2.1, r4.2.2.2.1, r4.2.2.2.2.1, r4.2.2.2.2.2.1, r4.2.2.2.2.2.2.1, r4.2.2.2.2.2.2.2.1, r4.2.2.2.2.2.2.2.2.1, r4.2.2.2.2.2.2.2.2.2.1, r4.2.2.2.2.2.2.2.2.2.2.1, (w64 (r4.2.2.2.2.2.2.2.2.2.2.2.1 + 1)), (), r4.2.2.2.2.2.2.2.2.2.2.2.2.2.1, r4.2.2.2.2.2.2.2.2.2.2.2.2.2.2)))
   ((laws_dHas k (states, r1.1.2.2)).bind fun r5 =>
    (laws_FnTablesNamed_c_c_c_c_l_l_c k ((m_States, m_Tints, m_Rows), states, (empty_TableStates, empty_TableTints, empty_TableRows, empty_Width, empty_Height, empty_Cells, empty_X, empty_Y, empty_Way, empty_State), eleven, count, fifteen, undoable, s, (read_States, read_Tints, read_Rows), nineteen, x, c, (), t542, t543, (!r5))).bind fun r6 =>
    r6.elim
    (fun r7 => some (.inl r7))
    (fun r8 => laws_FnTablesNamed_c_c_c_c_l_l k (r8.1, r8.2.1, r8.2.2.1, r8.2.2.2.1, r8.2.2.2.2.1, r8.2.2.2.2.2.1, r8.2.2.2.2.2.2.1, r8.2.2.2.2.2.2.2.1, r8.2.2.2.2.2.2.2.2.1, r8.2.2.2.2.2.2.2.2.2.1, r8.2.2.2.2.2.2.2.2.2.2.1, (w64 (r8.2.2.2.2.2.2.2.2.2.2.2.1 + 1)), (), r8.2.2.2.2.2.2.2.2.2.2.2.2.2.1, r8.2.2.2.2.2.2.2.2.2.2.2.2.2.2))))
  (some (.inr ((m_States, m_Tints, m_Rows), states, (empty_TableStates, empty_TableTints, empty_TableRows, empty_Width, empty_Height, empty_Cells, empty_X, empty_Y, empty_Way, empty_State), eleven, count, fifteen, undoable, s, (read_States, read_Tints, read_Rows), nineteen, (), t542, t543))) := by kernel_rfl
theorem laws_FnTablesNamed_c_c_c_c_l_l_c.eq (k : Nat) (m_States : Int) (m_Tints : Int) (m_Rows : List (Int × (ByteArray × Int))) (states : List Int) (empty_TableStates : Int) (empty_TableTints : Int) (empty_TableRows : List (Int × (ByteArray × Int))) (empty_Width : Int) (empty_Height : Int) (empty_Cells : ByteArray) (empty_X : Int) (empty_Y : Int) (empty_Way : Int) (empty_State : Int) (eleven : Bool) (count : Int) (fifteen : Bool) (undoable : Int) (s : ByteArray) (read_States : Int) (read_Tints : Int) (read_Rows : List (Int × (ByteArray × Int))) (nineteen : Bool) (x : Int) (c : Int) (t542 : Int) (t543 : Int) (t568 : Bool) : laws_FnTablesNamed_c_c_c_c_l_l_c (k + 1) ((m_States, m_Tints, m_Rows), states, (empty_TableStates, empty_TableTints, empty_TableRows, empty_Width, empty_Height, empty_Cells, empty_X, empty_Y, empty_Way, empty_State), eleven, count, fifteen, undoable, s, (read_States, read_Tints, read_Rows), nineteen, x, c, (), t542, t543, t568) =
  cond t568
  (some (.inl false))
  (some (.inr ((m_States, m_Tints, m_Rows), states, (empty_TableStates, empty_TableTints, empty_TableRows, empty_Width, empty_Height, empty_Cells, empty_X, empty_Y, empty_Way, empty_State), eleven, count, fifteen, undoable, s, (read_States, read_Tints, read_Rows), nineteen, x, c, (), t542, t543))) := by kernel_rfl
theorem laws_dHas.eq (k : Nat) (a : List Int) (n : Int) : laws_dHas (k + 1) (a, n) =
  (laws_dHas_l k (n, a, (a.length : Int), 0)).bind fun r1 =>
  r1.elim
  (fun r2 => some r2)
  (fun r3 => some false) := by kernel_rfl
theorem laws_dHas_l.eq (k : Nat) (n : Int) (t7 : List Int) (t8 : Int) (t9 : Int) : laws_dHas_l (k + 1) (n, t7, t8, t9) =
  cond (decide (t9 < t8))
  (cond (inB t9 t7.length)
   (cond ((t7.getD t9.toNat default) == n)
    (some (.inl true))
    (laws_dHas_l k (n, t7, t8, (w64 (t9 + 1)))))
   (none))
  (some (.inr ())) := by kernel_rfl
theorem laws_FnTablesNamed_c_c_c_c_c.eq (k : Nat) (empty_TableStates : Int) (empty_TableTints : Int) (empty_TableRows : List (Int × (ByteArray × Int))) (empty_Width : Int) (empty_Height : Int) (empty_Cells : ByteArray) (empty_X : Int) (empty_Y : Int) (empty_Way : Int) (empty_State : Int) (eleven : Bool) (count : Int) (fifteen : Bool) (undoable : Int) (s : ByteArray) (read_States : Int) (read_Tints : Int) (read_Rows : List (Int × (ByteArray × Int))) (nineteen : Bool) : laws_FnTablesNamed_c_c_c_c_c (k + 1) ((empty_TableStates, empty_TableTints, empty_TableRows, empty_Width, empty_Height, empty_Cells, empty_X, empty_Y, empty_Way, empty_State), eleven, count, fifteen, undoable, s, (read_States, read_Tints, read_Rows), nineteen) =
  cond eleven
  ((impl_IsScene k (empty_TableStates, empty_TableTints, empty_TableRows, empty_Width, empty_Height, empty_Cells, empty_X, empty_Y, empty_Way, empty_State)).bind fun r1 =>
   cond (!r1)
   (some false)
   ((laws_dCount k (empty_Cells, 48)).bind fun r2 =>
    cond (r2 != 0)
    (some false)
    ((laws_FnTablesNamed_c_c_c_c_c_c k (count, fifteen, undoable, s, (read_States, read_Tints, read_Rows), nineteen)).bind fun r3 =>
     some r3)))
  ((laws_FnTablesNamed_c_c_c_c_c_c k (count, fifteen, undoable, s, (read_States, read_Tints, read_Rows), nineteen)).bind fun r4 =>
   some r4) := by kernel_rfl
theorem impl_IsScene.eq (k : Nat) (s_TableStates : Int) (s_TableTints : Int) (s_TableRows : List (Int × (ByteArray × Int))) (s_Width : Int) (s_Height : Int) (s_Cells : ByteArray) (s_X : Int) (s_Y : Int) (s_Way : Int) (s_State : Int) : impl_IsScene (k + 1) (s_TableStates, s_TableTints, s_TableRows, s_Width, s_Height, s_Cells, s_X, s_Y, s_Way, s_State) =
  (impl_IsTable k (s_TableStates, s_TableTints, s_TableRows)).bind fun r1 =>
  cond r1
  ((impl_isSize k (s_Width, s_Height)).bind fun r2 =>
   cond r2
   ((impl_areCells k (s_Cells, (w64 (s_Width * s_Height)), s_TableTints)).bind fun r3 =>
    cond r3
    ((impl_isAnt k (s_Width, s_Height, s_X, s_Y, s_Way)).bind fun r4 =>
     cond r4
     ((impl_Table_isState k ((s_TableStates, s_TableTints, s_TableRows), s_State)).bind fun r5 =>
      some r5)
     (some false))
    (some false))
   (some false))
  (some false) := by kernel_rfl
theorem impl_areCells.eq (k : Nat) (cells : ByteArray) (many : Int) (tints : Int) : impl_areCells (k + 1) (cells, many, tints) =
  (impl_areCells_l k (cells, many, tints, (cells.size : Int), 0)).bind fun r1 =>
  r1.elim
  (fun r2 => some r2)
  (fun r3 => some ((r3.1.size : Int) == r3.2)) := by kernel_rfl
theorem impl_areCells_l.eq (k : Nat) (cells : ByteArray) (many : Int) (tints : Int) (t9 : Int) (t10 : Int) : impl_areCells_l (k + 1) (cells, many, tints, t9, t10) =
  cond (decide (t10 < t9))
  (cond (inB t10 cells.size)
   ((impl_within k ((w64 ((w64 (bt cells t10.toNat)) - 48)), 0, (w64 (tints - 1)))).bind fun r1 =>
    cond (!r1)
    (some (.inl false))
    (impl_areCells_l k (cells, many, tints, t9, (w64 (t10 + 1)))))
   (none))
  (some (.inr (cells, many))) := by kernel_rfl
theorem impl_isAnt.eq (k : Nat) (width : Int) (height : Int) (x : Int) (y : Int) (way : Int) : impl_isAnt (k + 1) (width, height, x, y, way) =
  (impl_within k (x, 0, (w64 (width - 1)))).bind fun r1 =>
  cond r1
  ((impl_within k (y, 0, (w64 (height - 1)))).bind fun r2 =>
   cond r2
   ((impl_isWay k way).bind fun r3 =>
    some r3)
   (some false))
  (some false) := by kernel_rfl
theorem impl_isWay.eq (k : Nat) (way : Int) : impl_isWay (k + 1) way =
  (impl_within k (way, 0, 3)).bind fun r1 =>
  some r1 := by kernel_rfl
theorem laws_dCount.eq (k : Nat) (s : ByteArray) (sign : Int) : laws_dCount (k + 1) (s, sign) =
  (laws_dCount_l k (s, sign, 0, 0)).bind fun r1 =>
  some r1 := by kernel_rfl
theorem laws_dCount_l.eq (k : Nat) (s : ByteArray) (sign : Int) (n : Int) (i : Int) : laws_dCount_l (k + 1) (s, sign, n, i) =
  cond (decide (i < (s.size : Int)))
  (cond (inB i s.size)
   (cond ((bt s i.toNat) != sign)
    (laws_dCount_l k (s, sign, (w64 (n + 1)), (w64 (i + 1))))
    (laws_dCount_l k (s, sign, n, (w64 (i + 1)))))
   (none))
  (some n) := by kernel_rfl
theorem laws_FnTablesNamed_c_c_c_c_c_c.eq (k : Nat) (count : Int) (fifteen : Bool) (undoable : Int) (s : ByteArray) (read_States : Int) (read_Tints : Int) (read_Rows : List (Int × (ByteArray × Int))) (nineteen : Bool) : laws_FnTablesNamed_c_c_c_c_c_c (k + 1) (count, fifteen, undoable, s, (read_States, read_Tints, read_Rows), nineteen) =
  cond fifteen
  (cond (decide (undoable > count))
   (some false)
   (cond (decide (undoable < 1))
    (some false)
    ((laws_FnTablesNamed_c_c_c_c_c_c_c k (s, (read_States, read_Tints, read_Rows), nineteen)).bind fun r1 =>
     some r1)))
  ((laws_FnTablesNamed_c_c_c_c_c_c_c k (s, (read_States, read_Tints, read_Rows), nineteen)).bind fun r2 =>
   some r2) := by kernel_rfl
theorem laws_FnTablesNamed_c_c_c_c_c_c_c.eq (k : Nat) (s : ByteArray) (read_States : Int) (read_Tints : Int) (read_Rows : List (Int × (ByteArray × Int))) (nineteen : Bool) : laws_FnTablesNamed_c_c_c_c_c_c_c (k + 1) (s, (read_States, read_Tints, read_Rows), nineteen) =
  cond nineteen
  ((impl_TableText k (read_States, read_Tints, read_Rows)).bind fun r1 =>
   cond r1.2
   (some (strEq r1.1 s))
   (some false))
  (some true) := by kernel_rfl
end Go.Proofs.YtcmebphcoamohaaGreatDoorS
