/- What each function computes (printed by wip/sim/gen.py). -/
import Derived.Test.YtngfakjifgafeaaDoorTab
namespace Go.Proofs.YtngfakjifgafeaaDoorS
open Go Go.Proofs
set_option maxRecDepth 100000
set_option linter.unusedVariables false
theorem spec_LeftByClues_l.eq (k : Nat) (p_Rule : ByteArray) (p_Width : Int) (p_Height : Int) (p_Clues : List (Int × (Int × Int))) (out : List Int) (k_ : Int) : spec_LeftByClues_l (k + 1) ((p_Rule, p_Width, p_Height, p_Clues), out, k_) =
  cond (decide (k_ ≤ (p_Clues.length : Int)))
  (cond ((decide ((0 : Int) ≤ k_)) && (decide (k_ ≤ (p_Clues.length : Int))))
   ((spec_pzWith k ((p_Rule, p_Width, p_Height, p_Clues), (p_Clues.take k_.toNat))).bind fun r1 =>
    (spec_pzAll k r1).bind fun r2 =>
    cond (fits (out.length + 1) 8)
    (spec_LeftByClues_l k ((p_Rule, p_Width, p_Height, p_Clues), (out ++ [(r2.length : Int)]), (w64 (k_ + 1))))
    (none))
   (none))
  (some out) := by kernel_rfl
theorem impl_LeftByClues.eq (k : Nat) (p_Rule : ByteArray) (p_Width : Int) (p_Height : Int) (p_Clues : List (Int × (Int × Int))) : impl_LeftByClues (k + 1) (p_Rule, p_Width, p_Height, p_Clues) =
  (impl_IsPuzzle k (p_Rule, p_Width, p_Height, p_Clues)).bind fun r1 =>
  cond (!r1)
  (some ([], false))
  ((impl_LeftByClues_l k ((p_Rule, p_Width, p_Height, p_Clues), [], (w64 ((p_Clues.length : Int) + 1)), 0)).bind fun r2 =>
   some (r2, true)) := by kernel_rfl
theorem impl_LeftByClues_l.eq (k : Nat) (p_Rule : ByteArray) (p_Width : Int) (p_Height : Int) (p_Clues : List (Int × (Int × Int))) (out : List Int) (t13 : Int) (t14 : Int) : impl_LeftByClues_l (k + 1) ((p_Rule, p_Width, p_Height, p_Clues), out, t13, t14) =
  cond (decide (t14 < t13))
  (cond ((decide ((0 : Int) ≤ t14)) && (decide (t14 ≤ (p_Clues.length : Int))))
   ((impl_Puzzle_with k ((p_Rule, p_Width, p_Height, p_Clues), (p_Clues.take t14.toNat))).bind fun r1 =>
    cond (fits (out.length + 1) 8)
    (impl_LeftByClues_l k ((p_Rule, p_Width, p_Height, p_Clues), (out ++ [(r1.length : Int)]), t13, (w64 (t14 + 1))))
    (none))
   (none))
  (some out) := by kernel_rfl
theorem laws_eqIntS.eq (k : Nat) (a : List Int) (b : List Int) : laws_eqIntS (k + 1) (a, b) =
  cond ((a.length : Int) != (b.length : Int))
  (some false)
  ((laws_eqIntS_l k (a, b, 0)).bind fun r1 =>
   r1.elim
   (fun r2 => some r2)
   (fun r3 => some true)) := by kernel_rfl
theorem laws_eqIntS_l.eq (k : Nat) (a : List Int) (b : List Int) (i : Int) : laws_eqIntS_l (k + 1) (a, b, i) =
  cond (decide (i < (a.length : Int)))
  (cond (inB i a.length)
   (cond (inB i b.length)
    (cond ((a.getD i.toNat default) != (b.getD i.toNat default))
     (some (.inl false))
     (laws_eqIntS_l k (a, b, (w64 (i + 1)))))
    (none))
   (none))
  (some (.inr ())) := by kernel_rfl
theorem laws_markPuzzle.eq (k : Nat) (a_Rule : ByteArray) (a_Width : Int) (a_Height : Int) (a_Clues : List (Int × (Int × Int))) (k_ : Int) : laws_markPuzzle (k + 1) ((a_Rule, a_Width, a_Height, a_Clues), k_) =
  (laws_markClueS k (a_Clues, k_)).bind fun r1 =>
  some (r1.1, (a_Rule, a_Width, a_Height, r1.2)) := by kernel_rfl
theorem laws_markClueS.eq (k : Nat) (a : List (Int × (Int × Int))) (k_ : Int) : laws_markClueS (k + 1) (a, k_) =
  (laws_markClueS_l k (a, k_, 0, ())).bind fun r1 =>
  some r1 := by kernel_rfl
theorem laws_markClueS_l.eq (k : Nat) (a : List (Int × (Int × Int))) (k_ : Int) (i : Int) : laws_markClueS_l (k + 1) (a, k_, i, ()) =
  cond (decide (i < (a.length : Int)))
  (cond (inB i a.length)
   (cond (inB i ((a.set i.toNat (k_, (a.getD i.toNat default).2)).length))
    (cond (inB i (((a.set i.toNat (k_, (a.getD i.toNat default).2)).set i.toNat (((a.set i.toNat (k_, (a.getD i.toNat default).2)).getD i.toNat default).1, ((w64 (k_ + 1)), ((a.set i.toNat (k_, (a.getD i.toNat default).2)).getD i.toNat default).2.2))).length))
     (laws_markClueS_l k ((((a.set i.toNat (k_, (a.getD i.toNat default).2)).set i.toNat (((a.set i.toNat (k_, (a.getD i.toNat default).2)).getD i.toNat default).1, ((w64 (k_ + 1)), ((a.set i.toNat (k_, (a.getD i.toNat default).2)).getD i.toNat default).2.2))).set i.toNat ((((a.set i.toNat (k_, (a.getD i.toNat default).2)).set i.toNat (((a.set i.toNat (k_, (a.getD i.toNat default).2)).getD i.toNat default).1, ((w64 (k_ + 1)), ((a.set i.toNat (k_, (a.getD i.toNat default).2)).getD i.toNat default).2.2))).getD i.toNat default).1, ((((a.set i.toNat (k_, (a.getD i.toNat default).2)).set i.toNat (((a.set i.toNat (k_, (a.getD i.toNat default).2)).getD i.toNat default).1, ((w64 (k_ + 1)), ((a.set i.toNat (k_, (a.getD i.toNat default).2)).getD i.toNat default).2.2))).getD i.toNat default).2.1, (w64 ((w64 (k_ + 1)) + 1))))), (w64 ((w64 ((w64 (k_ + 1)) + 1)) + 1)), (w64 (i + 1)), ()))
     (none))
    (none))
   (none))
  (some (k_, a)) := by kernel_rfl
theorem laws_markIntS.eq (k : Nat) (a : List Int) (k_ : Int) : laws_markIntS (k + 1) (a, k_) =
  (laws_markIntS_l k (a, k_, 0, ())).bind fun r1 =>
  some r1 := by kernel_rfl
theorem laws_markIntS_l.eq (k : Nat) (a : List Int) (k_ : Int) (i : Int) : laws_markIntS_l (k + 1) (a, k_, i, ()) =
  cond (decide (i < (a.length : Int)))
  (cond (inB i a.length)
   (laws_markIntS_l k ((a.set i.toNat k_), (w64 (k_ + 1)), (w64 (i + 1)), ()))
   (none))
  (some (k_, a)) := by kernel_rfl
theorem laws_heldIntS.eq (k : Nat) (a : List Int) (k_ : Int) : laws_heldIntS (k + 1) (a, k_) =
  (laws_heldIntS_l k (a, k_, 0)).bind fun r1 =>
  r1.elim
  (fun r2 => some r2)
  (fun r3 => some r3) := by kernel_rfl
theorem laws_heldIntS_l.eq (k : Nat) (a : List Int) (k_ : Int) (i : Int) : laws_heldIntS_l (k + 1) (a, k_, i) =
  cond (decide (i < (a.length : Int)))
  (cond (inB i a.length)
   (cond ((a.getD i.toNat default) != k_)
    (some (.inl (-1)))
    (laws_heldIntS_l k (a, (w64 (k_ + 1)), (w64 (i + 1)))))
   (none))
  (some (.inr k_)) := by kernel_rfl
theorem laws_FnExactSolutions.eq (k : Nat) (aP_Rule : ByteArray) (aP_Width : Int) (aP_Height : Int) (aP_Clues : List (Int × (Int × Int))) : laws_FnExactSolutions (k + 1) (aP_Rule, aP_Width, aP_Height, aP_Clues) =
  (laws_szPuzzle k ((aP_Rule, aP_Width, aP_Height, aP_Clues), 1048576)).bind fun r1 =>
  cond (decide (r1 < 0))
  (some true)
  ((laws_toPuzzle k (aP_Rule, aP_Width, aP_Height, aP_Clues)).bind fun r2 =>
   (spec_Solutions k r2).bind fun r3 =>
   (laws_toPuzzle k (aP_Rule, aP_Width, aP_Height, aP_Clues)).bind fun r4 =>
   (impl_Solutions k r4).bind fun r5 =>
   (laws_eqStringS k (r5.1, r3.1)).bind fun r6 =>
   cond (!r6)
   (some false)
   (cond (!(r5.2 == r3.2))
    (some false)
    ((laws_toPuzzle k (aP_Rule, aP_Width, aP_Height, aP_Clues)).bind fun r7 =>
     (laws_eqPuzzle k (r4, r7)).bind fun r8 =>
     cond (!r8)
     (some false)
     ((laws_markPuzzle k (r4, 1)).bind fun r9 =>
      cond (decide (r9.1 < 0))
      (some false)
      ((laws_eqStringS k (r5.1, r3.1)).bind fun r10 =>
       cond (!r10)
       (some false)
       (cond (!(r5.2 == r3.2))
        (some false)
        ((laws_markStringS k (r5.1, 1)).bind fun r11 =>
         (laws_heldStringS k (r11.2, 1)).bind fun r12 =>
         cond (decide (r12 < 0))
         (some false)
         (cond (r12 != r11.1)
          (some false)
          ((laws_toPuzzle k (aP_Rule, aP_Width, aP_Height, aP_Clues)).bind fun r13 =>
           (impl_Solutions k r13).bind fun r14 =>
           (laws_eqStringS k (r14.1, r3.1)).bind fun r15 =>
           cond (!r15)
           (some false)
           (cond (!(r14.2 == r3.2))
            (some false)
            ((laws_heldStringS k (r11.2, 1)).bind fun r16 =>
             cond (decide (r16 < 0))
             (some false)
             (cond (r16 != r11.1)
              (some false)
              (some true))))))))))))) := by kernel_rfl
theorem spec_Solutions.eq (k : Nat) (p_Rule : ByteArray) (p_Width : Int) (p_Height : Int) (p_Clues : List (Int × (Int × Int))) : spec_Solutions (k + 1) (p_Rule, p_Width, p_Height, p_Clues) =
  (spec_pzGood k (p_Rule, p_Width, p_Height, p_Clues)).bind fun r1 =>
  cond (!r1)
  (some ([], false))
  ((spec_pzAll k (p_Rule, p_Width, p_Height, p_Clues)).bind fun r2 =>
   some (r2, true)) := by kernel_rfl
theorem laws_eqStringS.eq (k : Nat) (a : List ByteArray) (b : List ByteArray) : laws_eqStringS (k + 1) (a, b) =
  cond ((a.length : Int) != (b.length : Int))
  (some false)
  ((laws_eqStringS_l k (a, b, 0)).bind fun r1 =>
   r1.elim
   (fun r2 => some r2)
   (fun r3 => some true)) := by kernel_rfl
theorem laws_eqStringS_l.eq (k : Nat) (a : List ByteArray) (b : List ByteArray) (i : Int) : laws_eqStringS_l (k + 1) (a, b, i) =
  cond (decide (i < (a.length : Int)))
  (cond (inB i a.length)
   (cond (inB i b.length)
    (cond (!(strEq (a.getD i.toNat default) (b.getD i.toNat default)))
     (some (.inl false))
     (laws_eqStringS_l k (a, b, (w64 (i + 1)))))
    (none))
   (none))
  (some (.inr ())) := by kernel_rfl
theorem laws_markStringS.eq (k : Nat) (a : List ByteArray) (k_ : Int) : laws_markStringS (k + 1) (a, k_) =
  (laws_markStringS_l k (a, k_, 0, ())).bind fun r1 =>
  some r1 := by kernel_rfl
theorem laws_markStringS_l.eq (k : Nat) (a : List ByteArray) (k_ : Int) (i : Int) : laws_markStringS_l (k + 1) (a, k_, i, ()) =
  cond (decide (i < (a.length : Int)))
  ((laws_markText k k_).bind fun r1 =>
   cond (inB i a.length)
   (laws_markStringS_l k ((a.set i.toNat r1), (w64 (k_ + 1)), (w64 (i + 1)), ()))
   (none))
  (some (k_, a)) := by kernel_rfl
theorem laws_markText.eq (k : Nat) (k_ : Int) : laws_markText (k + 1) k_ =
  cond (decide (k_ ≤ 0))
  (some (bs [109, 48]))
  ((laws_markText_l k (k_, ByteArray.empty)).bind fun r1 =>
   cond (fitS (bs [109]) r1)
   (some ((bs [109]) ++ r1))
   (none)) := by kernel_rfl
theorem laws_markText_l.eq (k : Nat) (k_ : Int) (out : ByteArray) : laws_markText_l (k + 1) (k_, out) =
  cond (decide (k_ > 0))
  (cond (fitS (ofBytes [(w8 (w64 (48 + (k_.tmod 10))))]) out)
   (laws_markText_l k ((w64 (k_.tdiv 10)), ((ofBytes [(w8 (w64 (48 + (k_.tmod 10))))]) ++ out)))
   (none))
  (some out) := by kernel_rfl
theorem laws_heldStringS.eq (k : Nat) (a : List ByteArray) (k_ : Int) : laws_heldStringS (k + 1) (a, k_) =
  (laws_heldStringS_l k (a, k_, 0)).bind fun r1 =>
  r1.elim
  (fun r2 => some r2)
  (fun r3 => some r3) := by kernel_rfl
theorem laws_heldStringS_l.eq (k : Nat) (a : List ByteArray) (k_ : Int) (i : Int) : laws_heldStringS_l (k + 1) (a, k_, i) =
  cond (decide (i < (a.length : Int)))
  (cond (inB i a.length)
   ((laws_markText k k_).bind fun r1 =>
    cond (!(strEq (a.getD i.toNat default) r1))
    (some (.inl (-1)))
    (laws_heldStringS_l k (a, (w64 (k_ + 1)), (w64 (i + 1)))))
   (none))
  (some (.inr k_)) := by kernel_rfl
theorem laws_FnExactSureCells.eq (k : Nat) (aP_Rule : ByteArray) (aP_Width : Int) (aP_Height : Int) (aP_Clues : List (Int × (Int × Int))) : laws_FnExactSureCells (k + 1) (aP_Rule, aP_Width, aP_Height, aP_Clues) =
  (laws_szPuzzle k ((aP_Rule, aP_Width, aP_Height, aP_Clues), 1048576)).bind fun r1 =>
  cond (decide (r1 < 0))
  (some true)
  ((laws_toPuzzle k (aP_Rule, aP_Width, aP_Height, aP_Clues)).bind fun r2 =>
   (spec_SureCells k r2).bind fun r3 =>
   (laws_toPuzzle k (aP_Rule, aP_Width, aP_Height, aP_Clues)).bind fun r4 =>
   (impl_SureCells k r4).bind fun r5 =>
   cond (!(strEq r5.1 r3.1))
   (some false)
   (cond (!(r5.2 == r3.2))
    (some false)
    ((laws_toPuzzle k (aP_Rule, aP_Width, aP_Height, aP_Clues)).bind fun r6 =>
     (laws_eqPuzzle k (r4, r6)).bind fun r7 =>
     cond (!r7)
     (some false)
     (some true)))) := by kernel_rfl
theorem spec_SureCells.eq (k : Nat) (p_Rule : ByteArray) (p_Width : Int) (p_Height : Int) (p_Clues : List (Int × (Int × Int))) : spec_SureCells (k + 1) (p_Rule, p_Width, p_Height, p_Clues) =
  (spec_pzGood k (p_Rule, p_Width, p_Height, p_Clues)).bind fun r1 =>
  cond (!r1)
  (some (ByteArray.empty, false))
  ((spec_pzAll k (p_Rule, p_Width, p_Height, p_Clues)).bind fun r2 =>
   cond ((r2.length : Int) == 0)
   (some (ByteArray.empty, false))
   ((spec_SureCells_l k ((p_Rule, p_Width, p_Height, p_Clues), r2, ByteArray.empty, 0)).bind fun r3 =>
    some (r3, true))) := by kernel_rfl
theorem spec_SureCells_l.eq (k : Nat) (p_Rule : ByteArray) (p_Width : Int) (p_Height : Int) (p_Clues : List (Int × (Int × Int))) (all : List ByteArray) (out : ByteArray) (i : Int) : spec_SureCells_l (k + 1) ((p_Rule, p_Width, p_Height, p_Clues), all, out, i) =
  cond (decide (i < (w64 (p_Width * p_Height))))
  (cond (inB 0 all.length)
   (cond (((decide ((0 : Int) ≤ (w64 (i + 1)))) && (decide ((w64 (i + 1)) ≤ ((all.getD 0 default).size : Int)))) && ((decide ((0 : Int) ≤ i)) && (decide (i ≤ (w64 (i + 1))))))
    ((spec_SureCells_l_l k ((p_Rule, p_Width, p_Height, p_Clues), all, out, i, ((all.getD 0 default).extract i.toNat ((w64 (i + 1)).toNat)), (), (all.length : Int), 0)).bind fun r1 =>
     cond (fitS r1.2.2.1 r1.2.2.2.2)
     (spec_SureCells_l k (r1.1, r1.2.1, (r1.2.2.1 ++ r1.2.2.2.2), (w64 (r1.2.2.2.1 + 1))))
     (none))
    (none))
   (none))
  (some out) := by kernel_rfl
theorem spec_SureCells_l_l.eq (k : Nat) (p_Rule : ByteArray) (p_Width : Int) (p_Height : Int) (p_Clues : List (Int × (Int × Int))) (all : List ByteArray) (out : ByteArray) (i : Int) (sign : ByteArray) (t35 : Int) (t36 : Int) : spec_SureCells_l_l (k + 1) ((p_Rule, p_Width, p_Height, p_Clues), all, out, i, sign, (), t35, t36) =
  cond (decide (t36 < t35))
  (cond (inB t36 all.length)
   (cond (((decide ((0 : Int) ≤ (w64 (i + 1)))) && (decide ((w64 (i + 1)) ≤ ((all.getD t36.toNat default).size : Int)))) && ((decide ((0 : Int) ≤ i)) && (decide (i ≤ (w64 (i + 1))))))
    (cond (!(strEq ((all.getD t36.toNat default).extract i.toNat ((w64 (i + 1)).toNat)) sign))
     (some ((p_Rule, p_Width, p_Height, p_Clues), all, out, i, (bs [63])))
     (spec_SureCells_l_l k ((p_Rule, p_Width, p_Height, p_Clues), all, out, i, sign, (), t35, (w64 (t36 + 1)))))
    (none))
   (none))
  (some ((p_Rule, p_Width, p_Height, p_Clues), all, out, i, sign)) := by kernel_rfl
theorem impl_SureCells.eq (k : Nat) (p_Rule : ByteArray) (p_Width : Int) (p_Height : Int) (p_Clues : List (Int × (Int × Int))) : impl_SureCells (k + 1) (p_Rule, p_Width, p_Height, p_Clues) =
  (impl_Solutions k (p_Rule, p_Width, p_Height, p_Clues)).bind fun r1 =>
  cond ((r1.1.length : Int) == 0)
  (some (ByteArray.empty, false))
  (cond (inB 0 r1.1.length)
   ((impl_SureCells_l k (r1.1, (bytesOf (r1.1.getD 0 default)), (), (r1.1.length : Int), 0)).bind fun r2 =>
    some ((ofBytes r2), true))
   (none)) := by kernel_rfl
theorem impl_SureCells_l.eq (k : Nat) (list : List ByteArray) (out : List Int) (t23 : Int) (t24 : Int) : impl_SureCells_l (k + 1) (list, out, (), t23, t24) =
  cond (decide (t24 < t23))
  (cond (inB t24 list.length)
   ((impl_SureCells_l_l k (list, out, (list.getD t24.toNat default), (), t23, t24, (out.length : Int), 0)).bind fun r1 =>
    impl_SureCells_l k (r1.1, r1.2.1, (), r1.2.2.2.1, (w64 (r1.2.2.2.2 + 1))))
   (none))
  (some out) := by kernel_rfl
theorem impl_SureCells_l_l.eq (k : Nat) (list : List ByteArray) (out : List Int) (cells : ByteArray) (t23 : Int) (t24 : Int) (t29 : Int) (t30 : Int) : impl_SureCells_l_l (k + 1) (list, out, cells, (), t23, t24, t29, t30) =
  cond (decide (t30 < t29))
  (cond (inB t30 cells.size)
   (cond (inB 0 list.length)
    (cond (inB t30 ((list.getD 0 default).size))
     (cond ((bt cells t30.toNat) != (bt (list.getD 0 default) t30.toNat))
      (cond (inB t30 out.length)
       (impl_SureCells_l_l k (list, (out.set t30.toNat 63), cells, (), t23, t24, t29, (w64 (t30 + 1))))
       (none))
      (impl_SureCells_l_l k (list, out, cells, (), t23, t24, t29, (w64 (t30 + 1)))))
     (none))
    (none))
   (none))
  (some (list, out, (), t23, t24)) := by kernel_rfl
end Go.Proofs.YtngfakjifgafeaaDoorS
