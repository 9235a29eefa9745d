/- The law FnWalkersSent holds: the evaluation of the program's text over data is sound, and the law's function answers true on all good data. Conditions: those of the given row. -/
import Derived.Test.YtiaagflfiphioaaDoorRows
import Derived.Test.YtiaagflfiphioaaDoorCards
import Derived.Test.YtiaagflfiphioaaDoorTie
import Derived.Test.YtiaagflfiphioaaDoorFacts
import Derived.Test.YtiaagflfiphioaaDoorPureFnWalkersSent
import Derived.Test.YtiaagflfiphioaaDoorWg
import Derived.WalkKit
import Derived.ProofKit
import Derived.OpenShut
import Derived.ShutString
import Derived.ChangeOld
import Derived.Below
import Derived.SizedLaws
import Derived.Carry
import Derived.Deep.DeepHandedRow
import Derived.Lib.LaidTab
namespace Go.Proofs.YtiaagflfiphioaaDoor.fnWalkersSent
open Go Go.ChangeShapes Go.WideShapes Go.ChangeAt Go.RowKit Go.Proofs
set_option linter.unusedVariables false
theorem own : ownKnob Tryd.prog.godebug = none := by kernel_rfl
theorem laidOut : laidOutB Tryd.prog = true := Facts.laidOut
theorem lt_of_trod {P : Program} {H : Type} {enc : TypeId × Value → H} {t : TypeId} {w : World} {v : Value} {d : DataW H} {p : List MemPlace} (h : DataW.Trod enc P w 0 (fun _ => true) true t v d p) : ∀ x ∈ p, x.block < w.heap.size := by
  obtain ⟨m, hm⟩ := h
  exact DataW.trod_lt m _ _ _ hm
set_option maxRecDepth 100000 in
theorem slots : YtiaagflfiphioaaDoorS.slotsB Tryd.prog 0 Tryd.f5.params.toList = some YtiaagflfiphioaaDoorS.laws_FnWalkersSent.ins := by kernel_rfl
set_option maxRecDepth 100000 in
theorem contract (H : Type) (enc : TypeId × Value → H) (W : World) (base : Nat) (args : Array Value) (ds gs : List (DataW H)) (before : List MemPlace)
    (hval : ∀ (j : Nat) t v, Tryd.f5.params[j]? = some t → args[j]? = some v → Value.okWide Tryd.prog W .any base t v)
    (hW : DataW.Whole enc Tryd.prog Tryd.f5.params.toList Rows.fnWalkersSentSpec.vars false W args.toList ds gs before) (hWI : YtiaagflfiphioaaDoorS.WI W) :
    Calls Tryd.prog 5 args W fun e W' => ∃ v, e = .returned v ∧ Rows.fnWalkersSentSpec.post enc Tryd.prog Tryd.f5 false true false false W args v W' := by
  have hW' := hW
  obtain ⟨p, q, hA0, hV, rfl, hfz, hnd⟩ := hW
  have hA : DataW.TrodAll enc Tryd.prog W 0 (fun _ => true) true Tryd.f5.params.toList args.toList ds p := hA0
  have hO := YtiaagflfiphioaaDoorS.args_open (base := base) _ 0 _ _ _ _ slots hA (fun i t v h1 h2 => hval i t v (by rw [← Array.getElem?_toList]; exact h1) (by rw [← Array.getElem?_toList]; exact h2))
  rw [Tryd.params5] at hA
  obtain ⟨v0, vs0, d0, ds0, p0, q0, hargs, rfl, rfl, h0, r0⟩ := trodAll_cons hA
  obtain ⟨v1, vs1, d1, ds1, p1, q1, rfl, rfl, rfl, h1, r1⟩ := trodAll_cons r0
  obtain ⟨rfl, rfl, rfl⟩ := trodAll_nil r1
  obtain rfl : args = #[v0, v1] := by cases args; simp_all
  obtain ⟨rfl, rfl⟩ := trodVars_none hV
  have lt0 := lt_of_trod h0
  have lt1 := lt_of_trod h1
  refine (YtiaagflfiphioaaDoorS.row_calls Tryd.func5 (by kernel_rfl) rfl hO hWI (fun d hg => by obtain ⟨k, hk⟩ := pure d hg; exact YtiaagflfiphioaaDoorS.laws_FnWalkersSent.spec hk)).mono fun e W' ⟨he, bel⟩ => ?_
  subst he
  exact ⟨_, rfl, _, _, _, [], _, [], hW', trodAll_mk1 (shut_bool Tryd.underlying4 _), (trodAll_cons_mk (Below.trod laidOut (by kernel_rfl) (of_decide_eq_true (by kernel_rfl)) h0 bel lt0) (trodAll_cons_mk (Below.trod laidOut (by kernel_rfl) (of_decide_eq_true (by kernel_rfl)) h1 bel lt1) trodAll_mk0)), rfl, bel.frame _, fun h => by cases h⟩
/- A world for the witness: the settled one, the listed variables holding what their initialisers lay. -/
def flatD : DataW Unit → List Value
  | .lit (.int k n) => [.int k n]
  | .lit (.bool b) => [.bool b]
  | .lit (.string l) => [.string ⟨l.toArray⟩]
  | .agg ps => flatAll ps
  | _ => []
where flatAll : List (DataW Unit) → List Value
  | [] => []
  | d :: r => flatD d ++ flatAll r
noncomputable def laidWorld (os : Os) : World := { World.holding Tryd.prog os ⟨#[], #[], []⟩ with heap := ((((World.holding Tryd.prog os ⟨#[], #[], []⟩).heap.modify 2 fun | .cells _ t fz => .cells (flatD Rows.laid_math_bits_deBruijn32tab).toArray t fz | o => o).modify 3 fun | .cells _ t fz => .cells (flatD Rows.laid_math_bits_deBruijn64tab).toArray t fz | o => o).modify 0 fun | .cells _ t fz => .cells (flatD Rows.laid_internal_strconv_uint64pow10).toArray t fz | o => o) }
set_option maxRecDepth 100000 in
theorem laid_met (os : Os) : laidMet Tryd.prog Rows.fnWalkersSentRow.laid ((laidWorld os).forCall (fun _ _ => 0) ⟨#[], #[.slice none 0 0, .slice none 0 0], []⟩).memory :=
  laidMet_of_run' 8 (by kernel_rfl) (by kernel_rfl)
theorem reads (os : Os) {H : Type} (enc : TypeId × Value → H) : ∃ places, DataW.whole enc Tryd.prog ((laidWorld os).forCall (fun _ _ => 0) ⟨#[], #[.slice none 0 0, .slice none 0 0], []⟩).memory Tryd.f5.params.toList Rows.fnWalkersSentSpec.vars false (#[.slice none 0 0, .slice none 0 0] : Array Value).toList 8 = some ([.nil, .nil], [], places) :=
  ⟨[], by kernel_rfl⟩
set_option maxRecDepth 100000 in
theorem lifted (os : Os) (started : os.Started) (H : Type) (enc : TypeId × Value → H) (F : Stop.Interp) :
    ReturnsInHanded {} Tryd.checked os 5 .any ((OpenSpec.ofChange Rows.fnWalkersSentSpec).preRow enc Tryd.prog Tryd.f5 Rows.fnWalkersSentRow.domain false Rows.fnWalkersSentRow.laid) (((OpenSpec.ofChange Rows.fnWalkersSentSpec).at F).post enc Tryd.prog Tryd.f5 false true false false) := by
  obtain ⟨places, hx⟩ := reads os enc
  refine returnsInHanded_of_row (C := Tryd.checked) (s := OpenSpec.ofChange Rows.fnWalkersSentSpec) own started (by kernel_rfl) Tryd.func5
    (witness_row_at (enc := enc) (C := Tryd.checked) false (laidWorld os) #[.slice none 0 0, .slice none 0 0] rfl (by kernel_rfl) (by kernel_rfl) (by kernel_rfl)
      (OpenSpec.preRow_of_cond 8 hx (by kernel_rfl) (fun k hk => by cases hk) (by kernel_rfl) (laid_met os))) ?_
  intro W base args ds gs before hval hW _ _ _ hlaid hshp _
  exact contract H enc W base args ds gs before hval hW (YtiaagflfiphioaaDoorS.wi_of hlaid hshp)
theorem k_inPlace : (Rows.fnWalkersSentRow.inPlace == Tryd.prog.inPlace 5) = true := by kernel_rfl
theorem k_unfollowed : (Rows.fnWalkersSentRow.unfollowed == Tryd.prog.unfollowed 5) = true := by kernel_rfl
theorem k_recurses : (Rows.fnWalkersSentRow.recurses == Tryd.prog.recurses 5) = true := by kernel_rfl
theorem k_named : (Rows.fnWalkersSentRow.named == Tryd.prog.varsNamed 5) = true := by kernel_rfl
theorem closed : joinedFacts Tryd.pinned.checked.prog 5 Tryd.f5 (OpenSpec.ofChange Rows.fnWalkersSentSpec).bare Rows.fnWalkersSentRow = true := by
  show joinedFacts Tryd.prog 5 Tryd.f5 (OpenSpec.ofChange Rows.fnWalkersSentSpec).bare Rows.fnWalkersSentRow = true
  unfold joinedFacts
  rw [Facts.mayEnter, Facts.liftsFinal, Facts.make, Facts.laidOut, Facts.mapsRowed, Facts.stopsHeard, k_inPlace, k_unfollowed, k_recurses, k_named]
  show _ = _
  kernel_rfl
theorem said : Rows.FnWalkersSentSaid :=
  OpenClaim.holds_of_cond 5 Tryd.f5 rfl rfl rfl rfl rfl rfl rfl ⟨rfl, rfl, rfl, rfl, rfl⟩ rfl rfl rfl rfl rfl (by kernel_rfl) Tryd.func5 closed
    (of_decide_eq_true (by kernel_rfl)) (by unfold Func.isWrapper; first | (rw [if_pos (by decide +kernel)]; kernel_rfl) | (rw [if_neg (by decide +kernel)]; exact ⟨rfl, rfl⟩))
    (fun os started H enc _ F => by rw [OpenClaim.pre_eq_preRow]; exact lifted os started H enc F)
theorem plain (f : FuncId) (fn : Func) (hf : Tryd.pinned.checked.prog.funcNamed "loop.example/g01276/laws.FnWalkersSent" = some f) (hfn : Tryd.pinned.checked.prog.funcs[f]? = some fn) :
    false = Tryd.pinned.checked.prog.looks [] ∧ ∀ (j : Nat) t, fn.params[j]? = some t → Tryd.pinned.checked.prog.wantsStandIn t = false := by
  obtain rfl : f = 5 := Option.some.inj ((show Tryd.prog.funcNamed "loop.example/g01276/laws.FnWalkersSent" = some 5 by kernel_rfl).symm.trans hf) |>.symm
  obtain rfl : fn = Tryd.f5 := (Option.some.inj (Tryd.func5.symm.trans hfn)).symm
  refine ⟨Facts.looks.symm, fun j t ht => ?_⟩
  rw [Tryd.params5] at ht
  have hm : t ∈ [22] := by have := Array.mem_of_getElem? ht; simp at this; simp; omega
  have all : ∀ t ∈ [22], Tryd.prog.wantsStandIn t = false := fun t ht => by
    simp only [List.mem_cons, List.mem_nil_iff, or_false] at ht
    rcases ht with rfl <;> kernel_rfl
  exact all t hm
theorem byText : Rows.fnWalkersSentRow.wfByText (OpenSpec.ofChange Rows.fnWalkersSentSpec) = true := by kernel_rfl
theorem goes : false = Rows.fnWalkersSentRow.goesBy Tryd.pinned.checked.prog := by kernel_rfl
theorem card : Rows.FnWalkersSentCardSaid :=
  Claim7.holds_tied_plain_at .later [] _ _ _ _ said (fun _ h => by cases h) byText (fun _ h => by cases h) fnWalkersSent_row_tie rfl ⟨rfl, rfl⟩ Facts.mainIs rfl plain goes
end Go.Proofs.YtiaagflfiphioaaDoor.fnWalkersSent
namespace Go.Proofs.YtiaagflfiphioaaDoor
/-- The statement, under a short name, for the claim. -/
theorem fnWalkersSent_holds : Rows.FnWalkersSentCardSaid := fnWalkersSent.card
end Go.Proofs.YtiaagflfiphioaaDoor
