/- What the rows of this seat ask of the translation's head and of the functions' names: closed facts, each by itself. -/
import Derived.Test.YtiaagflfiphioaaDoorRows
import Derived.JoinedCond
import Derived.ProofKit
import Derived.KernelRfl
import GoSem.ClaimSeven
namespace Go.Proofs.YtiaagflfiphioaaDoor.Facts
open Go
theorem toList_of (s : String) (l : List Char) (h : s = String.ofList l) : s.toList = l := by rw [h, String.toList_ofList]
theorem mayEnter_cut (P : Program) (rest : List (List Char)) (h : behindMainWord (wordsSigns P.initOrder.toList) = ("cut" : String).toList :: rest) (hs : stripLifts liftWords (("cut" : String).toList :: rest) = ([], ("cut" : String).toList :: rest)) (ll : P.laysLater = false) (br : P.bearsReflect = false) (df : P.doorFits [] = true) : P.mayEnter = true := by
  unfold Program.mayEnter
  rw [h]
  simp only [hs, ll, br, df]
  simp
theorem liftsFinal_cut (P : Program) (rest : List (List Char)) (h : behindMainWord (wordsSigns P.initOrder.toList) = ("cut" : String).toList :: rest) (hs : stripLifts liftWords (("cut" : String).toList :: rest) = ([], ("cut" : String).toList :: rest)) : P.liftsFinal = false := by
  unfold Program.liftsFinal Program.headLifts
  rw [h]
  simp only [hs]
  simp
theorem make_cut (P : Program) (rest : List (List Char)) (h : behindMainWord (wordsSigns P.initOrder.toList) = ("cut" : String).toList :: rest) : P.make = some .cut := by
  unfold Program.make
  rw [h]
  simp
set_option maxRecDepth 1000000 in
theorem words : wordsSigns Tryd.prog.initOrder.toList = [("harness" : String).toList, ("c401cf9d70d7048d471cd6b8cfc65dc96410fee6c3b265c6675cfbc3f3f51ba4" : String).toList, ("cut" : String).toList, ("at" : String).toList, ("loop.example/g01276/laws.FnRotorsShare" : String).toList, ("loop.example/g01276/laws.FnExactLoopOfScene" : String).toList, ("loop.example/g01276/laws.FnWalkersSent" : String).toList] := by
  have h := toList_of Tryd.prog.initOrder _ rfl
  rw [h]
  show wordsSigns _ = _
  kernel_rfl
theorem behind : behindMainWord (wordsSigns Tryd.prog.initOrder.toList) = [("cut" : String).toList, ("at" : String).toList, ("loop.example/g01276/laws.FnRotorsShare" : String).toList, ("loop.example/g01276/laws.FnExactLoopOfScene" : String).toList, ("loop.example/g01276/laws.FnWalkersSent" : String).toList] := by
  rw [words]
  show _ = _
  kernel_rfl
theorem strip : stripLifts liftWords [("cut" : String).toList, ("at" : String).toList, ("loop.example/g01276/laws.FnRotorsShare" : String).toList, ("loop.example/g01276/laws.FnExactLoopOfScene" : String).toList, ("loop.example/g01276/laws.FnWalkersSent" : String).toList] = ([], [("cut" : String).toList, ("at" : String).toList, ("loop.example/g01276/laws.FnRotorsShare" : String).toList, ("loop.example/g01276/laws.FnExactLoopOfScene" : String).toList, ("loop.example/g01276/laws.FnWalkersSent" : String).toList]) := by kernel_rfl
theorem laysLater : Tryd.prog.laysLater = false := by kernel_rfl
theorem bearsReflect : Tryd.prog.bearsReflect = false := by kernel_rfl
theorem doorFits : Tryd.prog.doorFits [] = true := by kernel_rfl
theorem mayEnter : Tryd.prog.mayEnter = true := mayEnter_cut _ _ behind strip laysLater bearsReflect doorFits
theorem liftsFinal : Tryd.prog.liftsFinal = false := liftsFinal_cut _ _ behind strip
theorem make : Tryd.prog.make = some .cut := make_cut _ _ behind
theorem mainIs_of (P : Program) (s : List Char) (rest : List (List Char)) (h : wordsSigns P.initOrder.toList = ("harness" : String).toList :: s :: rest) (hs : isSumSigns s = true) : P.mainIs = some (true, s) := by
  unfold Program.mainIs
  rw [h]
  simp only [hs]
  simp
theorem sumSigns : isSumSigns ("c401cf9d70d7048d471cd6b8cfc65dc96410fee6c3b265c6675cfbc3f3f51ba4" : String).toList = true := by kernel_rfl
theorem mainIs : Tryd.prog.mainIs = some (true, ("c401cf9d70d7048d471cd6b8cfc65dc96410fee6c3b265c6675cfbc3f3f51ba4" : String).toList) := mainIs_of _ _ _ words sumSigns
theorem looks : Tryd.prog.looks [] = false := by kernel_rfl
theorem laidOut : laidOutB Tryd.prog = true := by kernel_rfl
theorem mapsRowed : Go.mapsRowed Tryd.prog = true := by kernel_rfl
theorem stopsHeard : Tryd.prog.stopsHeard = true := by kernel_rfl
end Go.Proofs.YtiaagflfiphioaaDoor.Facts
