/- What the rows of this seat ask of the translation's head and of the functions' names: closed facts, each by itself. -/
import Derived.Test.YtkaiidmnigpicaaGreatDoorRows
import Derived.JoinedCond
import Derived.ProofKit
import Derived.KernelRfl
import GoSem.ClaimSeven
namespace Go.Proofs.YtkaiidmnigpicaaGreatDoor.Facts
open Go
theorem toList_of (s : String) (l : List Char) (h : s = String.ofList l) : s.toList = l := by rw [h, String.toList_ofList]
theorem mayEnter_cut (P : Program) (rest : List (List Char)) (h : behindMainWord (wordsSigns P.initOrder.toList) = ("cut" : String).toList :: rest) (hs : stripLifts liftWords (("cut" : String).toList :: rest) = ([], ("cut" : String).toList :: rest)) (ll : P.laysLater = false) (br : P.bearsReflect = false) (df : P.doorFits [] = true) : P.mayEnter = true := by
  unfold Program.mayEnter
  rw [h]
  simp only [hs, ll, br, df]
  simp
theorem liftsFinal_cut (P : Program) (rest : List (List Char)) (h : behindMainWord (wordsSigns P.initOrder.toList) = ("cut" : String).toList :: rest) (hs : stripLifts liftWords (("cut" : String).toList :: rest) = ([], ("cut" : String).toList :: rest)) : P.liftsFinal = false := by
  unfold Program.liftsFinal Program.headLifts
  rw [h]
  simp only [hs]
  simp
theorem make_cut (P : Program) (rest : List (List Char)) (h : behindMainWord (wordsSigns P.initOrder.toList) = ("cut" : String).toList :: rest) : P.make = some .cut := by
  unfold Program.make
  rw [h]
  simp
set_option maxRecDepth 1000000 in
theorem words : wordsSigns Tryz.prog.initOrder.toList = [("harness" : String).toList, ("6a2825c452ae54e7281aafbaa7467f642c502e592fb78906434f48216c93880f" : String).toList, ("cut" : String).toList, ("at" : String).toList, ("loop.example/g01276/laws.FnWorldsTurned" : String).toList] := by
  have h := toList_of Tryz.prog.initOrder _ rfl
  rw [h]
  show wordsSigns _ = _
  kernel_rfl
theorem behind : behindMainWord (wordsSigns Tryz.prog.initOrder.toList) = [("cut" : String).toList, ("at" : String).toList, ("loop.example/g01276/laws.FnWorldsTurned" : String).toList] := by
  rw [words]
  show _ = _
  kernel_rfl
theorem strip : stripLifts liftWords [("cut" : String).toList, ("at" : String).toList, ("loop.example/g01276/laws.FnWorldsTurned" : String).toList] = ([], [("cut" : String).toList, ("at" : String).toList, ("loop.example/g01276/laws.FnWorldsTurned" : String).toList]) := by kernel_rfl
theorem laysLater : Tryz.prog.laysLater = false := by kernel_rfl
theorem bearsReflect : Tryz.prog.bearsReflect = false := by kernel_rfl
theorem doorFits : Tryz.prog.doorFits [] = true := by kernel_rfl
theorem mayEnter : Tryz.prog.mayEnter = true := mayEnter_cut _ _ behind strip laysLater bearsReflect doorFits
theorem liftsFinal : Tryz.prog.liftsFinal = false := liftsFinal_cut _ _ behind strip
theorem make : Tryz.prog.make = some .cut := make_cut _ _ behind
theorem mainIs_of (P : Program) (s : List Char) (rest : List (List Char)) (h : wordsSigns P.initOrder.toList = ("harness" : String).toList :: s :: rest) (hs : isSumSigns s = true) : P.mainIs = some (true, s) := by
  unfold Program.mainIs
  rw [h]
  simp only [hs]
  simp
theorem sumSigns : isSumSigns ("6a2825c452ae54e7281aafbaa7467f642c502e592fb78906434f48216c93880f" : String).toList = true := by kernel_rfl
theorem mainIs : Tryz.prog.mainIs = some (true, ("6a2825c452ae54e7281aafbaa7467f642c502e592fb78906434f48216c93880f" : String).toList) := mainIs_of _ _ _ words sumSigns
theorem looks : Tryz.prog.looks [] = true := by kernel_rfl
theorem laidOut : laidOutB Tryz.prog = true := by kernel_rfl
theorem mapsRowed : Go.mapsRowed Tryz.prog = true := by kernel_rfl
theorem stopsHeard : Tryz.prog.stopsHeard = true := by kernel_rfl
end Go.Proofs.YtkaiidmnigpicaaGreatDoor.Facts
