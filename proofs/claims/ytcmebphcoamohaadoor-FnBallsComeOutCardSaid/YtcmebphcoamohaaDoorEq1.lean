/- What each function computes (printed by wip/sim/gen.py). -/
import Derived.Test.YtcmebphcoamohaaDoorTab
namespace Go.Proofs.YtcmebphcoamohaaDoorS
open Go Go.Proofs
set_option maxRecDepth 100000
set_option linter.unusedVariables false
theorem laws_FnBallsComeOut_c_c_c_l.eq (k : Nat) (t_Width : Int) (t_Height : Int) (t_Cells : ByteArray) (t_Turns : Bool) (table : List Int) (n : Int) (t381 : Int) (t382 : Int) : laws_FnBallsComeOut_c_c_c_l (k + 1) ((t_Width, t_Height, t_Cells, t_Turns), table, n, (), t381, t382) =
  cond (decide (t382 < t381))
  (cond (inB t382 table.length)
   ((impl_EntryOf k ((t_Width, t_Height, t_Cells, t_Turns), t382)).bind fun r1 =>
    (impl_ExitOf k ((t_Width, t_Height, t_Cells, t_Turns), r1.1)).bind fun r2 =>
    cond (!r1.2)
    (some (.inl false))
    ((impl_IsBall k ((t_Width, t_Height, t_Cells, t_Turns), r1.1)).bind fun r3 =>
     cond (!r3)
     (some (.inl false))
     (cond (!r2.2)
      (some (.inl false))
      (cond (r2.1 != (table.getD t382.toNat default))
       (some (.inl false))
       (cond (decide ((table.getD t382.toNat default) < 0))
        (some (.inl false))
        (cond (decide ((table.getD t382.toNat default) ≥ n))
         (some (.inl false))
         (cond (!t_Turns)
          (cond (inB (table.getD t382.toNat default) table.length)
           (cond ((table.getD ((table.getD t382.toNat default).toNat) default) != t382)
            (some (.inl false))
            (cond ((table.getD t382.toNat default) == t382)
             (some (.inl false))
             (laws_FnBallsComeOut_c_c_c_l k ((t_Width, t_Height, t_Cells, t_Turns), table, n, (), t381, (w64 (t382 + 1))))))
           (none))
          (laws_FnBallsComeOut_c_c_c_l k ((t_Width, t_Height, t_Cells, t_Turns), table, n, (), t381, (w64 (t382 + 1)))))))))))
   (none))
  (some (.inr ())) := by kernel_rfl
end Go.Proofs.YtcmebphcoamohaaDoorS
