/- The law FnExactAddClue holds: the printed walk of the program's text, and the pure statement about numbers and lists, give the row and its card. Conditions: those of the given row. -/
import Derived.Test.YteemifeclhenbaaDoorRows
import Derived.Test.YteemifeclhenbaaDoorCards
import Derived.Test.YteemifeclhenbaaDoorTie
import Derived.Test.YteemifeclhenbaaDoorFacts
import Derived.Test.YteemifeclhenbaaDoorPureFnExactAddClue
import Derived.WalkKit
import Derived.ProofKit
import Derived.OpenShut
import Derived.ShutString
import Derived.ChangeOld
import Derived.Below
import Derived.SizedLaws
import Derived.Carry
import Derived.Deep.DeepHandedRow
import Derived.Lib.LaidTab
namespace Go.Proofs.YteemifeclhenbaaDoor.fnExactAddClue
open Go.ChangeShapes Go.WideShapes Go.ChangeAt Go.RowKit Go.Proofs.YteemifeclhenbaaDoor.P Go.Proofs.YteemifeclhenbaaDoorW.PrintWords
set_option linter.unusedVariables false
theorem own : ownKnob Tryd.prog.godebug = none := by kernel_rfl
theorem laidOut : laidOutB Tryd.prog = true := Facts.laidOut
set_option maxRecDepth 100000 in
theorem contract (H : Type) (enc : TypeId × Value → H) (W : World) (base : Nat) (args : Array Value) (ds gs : List (DataW H)) (before : List MemPlace)
    (hval : ∀ (j : Nat) t v, Tryd.f6.params[j]? = some t → args[j]? = some v → Value.okWide Tryd.prog W .any base t v)
    (hW : DataW.Whole enc Tryd.prog Tryd.f6.params.toList Rows.fnExactAddClueSpec.vars false W args.toList ds gs before) :
    Calls Tryd.prog 6 args W fun e W' => ∃ v, e = .returned v ∧ Rows.fnExactAddClueSpec.post enc Tryd.prog Tryd.f6 false true false false W args v W' := by
  have hW' := hW
  obtain ⟨p, q, hA0, hV, rfl, hfz, hnd⟩ := hW
  have hA : DataW.TrodAll enc Tryd.prog W 0 (fun _ => true) true Tryd.f6.params.toList args.toList ds p := hA0
  rw [Tryd.params6] at hA hval
  obtain ⟨v0, vs0, d0, ds0, p0, q0, hargs, rfl, rfl, h0, r0⟩ := trodAll_cons hA
  obtain ⟨v1, vs1, d1, ds1, p1, q1, rfl, rfl, rfl, h1, r1⟩ := trodAll_cons r0
  obtain ⟨rfl, rfl, rfl⟩ := trodAll_nil r1
  obtain rfl : args = #[v0, v1] := by cases args; simp_all
  obtain ⟨rfl, rfl⟩ := trodVars_none hV
  have k0 := h0
  have lt0 := Opens.lt_of_trod h0
  have k1 := h1
  have lt1 := Opens.lt_of_trod h1
  obtain ⟨cs0, rfl, _⟩ := okWide_struct Tryd.underlying33 (hval 0 33 v0 rfl rfl)
  obtain ⟨fu0, hf0⟩ := h0
  obtain ⟨⟨a0_0, a0_1, a0_2, l0_3⟩, hK0, ⟨hg0_0, hg0_1, hg0_2, ⟨hg0_3, hh0_3⟩⟩⟩ := (Opens.opens_struct Tryd.underlying33 (by kernel_rfl) (Opens.opensF_cons (l0 := 1) (Opens.opens_string Tryd.underlying9) rfl (by kernel_rfl) (Opens.opensF_cons (l0 := 1) (Opens.opens_int Tryd.underlying3) rfl (by kernel_rfl) (Opens.opensF_cons (l0 := 1) (Opens.opens_int Tryd.underlying3) rfl (by kernel_rfl) (Opens.opensF_one (len := 1) (Opens.opens_slice Tryd.underlying31 open26 cells26) rfl (by kernel_rfl)))))) _ _ _ _ _ _ hf0
  obtain ⟨_, _, hx_0,  rfl, ⟨_, _, rfl, rfl, ⟨_, _, rfl, rfl, ⟨A0_3, c0_3, rfl, hc0_3, hr0_3⟩⟩⟩⟩ := hK0
  obtain rfl : cs0 = #[.string a0_0, .int .i64 a0_1, .int .i64 a0_2, .slice A0_3 l0_3.length c0_3] := Array.toList_inj.mp (by simpa [Value.cells] using hx_0)
  obtain ⟨cs1, rfl, _⟩ := okWide_struct Tryd.underlying26 (hval 1 26 v1 rfl rfl)
  obtain ⟨fu1, hf1⟩ := h1
  obtain ⟨⟨a1_0, a1_1, a1_2⟩, hK1, ⟨hg1_0, hg1_1, hg1_2⟩⟩ := (Opens.opens_struct Tryd.underlying26 (by kernel_rfl) (Opens.opensF_cons (l0 := 1) (Opens.opens_int Tryd.underlying3) rfl (by kernel_rfl) (Opens.opensF_cons (l0 := 1) (Opens.opens_int Tryd.underlying3) rfl (by kernel_rfl) (Opens.opensF_one (len := 1) (Opens.opens_int Tryd.underlying3) rfl (by kernel_rfl))))) _ _ _ _ _ _ hf1
  obtain ⟨_, _, hx_1,  rfl, ⟨_, _, rfl, rfl, rfl⟩⟩ := hK1
  obtain rfl : cs1 = #[.int .i64 a1_0, .int .i64 a1_1, .int .i64 a1_2] := Array.toList_inj.mp (by simpa [Value.cells] using hx_1)
  clear hA0
  obtain ⟨k, hP⟩ := pure _ _ _ _ _ _ _ hg0_0 hg0_1 hg0_2 ⟨hg0_3, hh0_3⟩ hg1_0 hg1_1 hg1_2
  refine (laws_FnExactAddClue.calls k a0_0 a0_1 a0_2 A0_3 c0_3 l0_3 a1_0 a1_1 a1_2 true W hr0_3 hc0_3 hP).mono fun e W' ⟨he, hb0⟩ => ?_
  have bel : Below W.heap.size W W' := hb0
  subst he
  exact ⟨_, rfl, _, _, _, [], _, [], hW', trodAll_mk1 (shut_bool Tryd.underlying4 _), (trodAll_cons_mk (Below.trod laidOut (by kernel_rfl) (of_decide_eq_true (by kernel_rfl)) k0 bel lt0) (trodAll_cons_mk (Below.trod laidOut (by kernel_rfl) (of_decide_eq_true (by kernel_rfl)) k1 bel lt1) trodAll_mk0)), rfl, bel.frame _, fun h => by cases h⟩
/- A world for the witness: the settled one, the listed variables holding what their initialisers lay. -/
def flatD : DataW Unit → List Value
  | .lit (.int k n) => [.int k n]
  | .lit (.bool b) => [.bool b]
  | .lit (.string l) => [.string ⟨l.toArray⟩]
  | .agg ps => flatAll ps
  | _ => []
where flatAll : List (DataW Unit) → List Value
  | [] => []
  | d :: r => flatD d ++ flatAll r
noncomputable def laidWorld (os : Os) : World := { World.holding Tryd.prog os ⟨#[], #[], []⟩ with heap := (((World.holding Tryd.prog os ⟨#[], #[], []⟩).heap.modify 2 fun | .cells _ t fz => .cells (flatD Rows.laid_unicode_utf8_acceptRanges).toArray t fz | o => o).modify 1 fun | .cells _ t fz => .cells (flatD Rows.laid_unicode_utf8_first).toArray t fz | o => o) }
set_option maxRecDepth 100000 in
theorem laid_met (os : Os) : laidMet Tryd.prog Rows.fnExactAddClueRow.laid ((laidWorld os).forCall (fun _ _ => 0) ⟨#[], #[.agg #[.string ByteArray.empty, .int .i64 0, .int .i64 0, .slice none 0 0], .agg #[.int .i64 0, .int .i64 0, .int .i64 0]], []⟩).memory :=
  laidMet_of_run' 8 (by kernel_rfl) (by kernel_rfl)
theorem reads (os : Os) {H : Type} (enc : TypeId × Value → H) : ∃ places, DataW.whole enc Tryd.prog ((laidWorld os).forCall (fun _ _ => 0) ⟨#[], #[.agg #[.string ByteArray.empty, .int .i64 0, .int .i64 0, .slice none 0 0], .agg #[.int .i64 0, .int .i64 0, .int .i64 0]], []⟩).memory Tryd.f6.params.toList Rows.fnExactAddClueSpec.vars false (#[.agg #[.string ByteArray.empty, .int .i64 0, .int .i64 0, .slice none 0 0], .agg #[.int .i64 0, .int .i64 0, .int .i64 0]] : Array Value).toList 8 = some ([.agg [.lit (.string []), .lit (.int .i64 0), .lit (.int .i64 0), .nil], .agg [.lit (.int .i64 0), .lit (.int .i64 0), .lit (.int .i64 0)]], [], places) :=
  ⟨[], by kernel_rfl⟩
set_option maxRecDepth 100000 in
theorem lifted (os : Os) (started : os.Started) (H : Type) (enc : TypeId × Value → H) (F : Stop.Interp) :
    ReturnsInHanded {} Tryd.checked os 6 .any ((OpenSpec.ofChange Rows.fnExactAddClueSpec).preRow enc Tryd.prog Tryd.f6 Rows.fnExactAddClueRow.domain false Rows.fnExactAddClueRow.laid) (((OpenSpec.ofChange Rows.fnExactAddClueSpec).at F).post enc Tryd.prog Tryd.f6 false true false false) := by
  obtain ⟨places, hx⟩ := reads os enc
  refine returnsInHanded_of_row (C := Tryd.checked) (s := OpenSpec.ofChange Rows.fnExactAddClueSpec) own started (by kernel_rfl) Tryd.func6
    (witness_row_at (enc := enc) (C := Tryd.checked) false (laidWorld os) #[.agg #[.string ByteArray.empty, .int .i64 0, .int .i64 0, .slice none 0 0], .agg #[.int .i64 0, .int .i64 0, .int .i64 0]] rfl (by kernel_rfl) (by kernel_rfl) (by kernel_rfl)
      (OpenSpec.preRow_of_cond 8 hx (by kernel_rfl) (fun k hk => by cases hk) (by kernel_rfl) (laid_met os))) ?_
  intro W base args ds gs before hval hW _ _ _ _ _ _
  exact contract H enc W base args ds gs before hval hW
theorem k_inPlace : (Rows.fnExactAddClueRow.inPlace == Tryd.prog.inPlace 6) = true := by kernel_rfl
theorem k_unfollowed : (Rows.fnExactAddClueRow.unfollowed == Tryd.prog.unfollowed 6) = true := by kernel_rfl
theorem k_recurses : (Rows.fnExactAddClueRow.recurses == Tryd.prog.recurses 6) = true := by kernel_rfl
theorem k_named : (Rows.fnExactAddClueRow.named == Tryd.prog.varsNamed 6) = true := by kernel_rfl
theorem closed : joinedFacts Tryd.pinned.checked.prog 6 Tryd.f6 (OpenSpec.ofChange Rows.fnExactAddClueSpec).bare Rows.fnExactAddClueRow = true := by
  show joinedFacts Tryd.prog 6 Tryd.f6 (OpenSpec.ofChange Rows.fnExactAddClueSpec).bare Rows.fnExactAddClueRow = true
  unfold joinedFacts
  rw [Facts.mayEnter, Facts.liftsFinal, Facts.make, Facts.laidOut, Facts.mapsRowed, Facts.stopsHeard, k_inPlace, k_unfollowed, k_recurses, k_named]
  show _ = _
  kernel_rfl
theorem said : Rows.FnExactAddClueSaid :=
  OpenClaim.holds_of_cond 6 Tryd.f6 rfl rfl rfl rfl rfl rfl rfl ⟨rfl, rfl, rfl, rfl, rfl⟩ rfl rfl rfl rfl rfl (by kernel_rfl) Tryd.func6 closed
    (of_decide_eq_true (by kernel_rfl)) (by unfold Func.isWrapper; first | (rw [if_pos (by decide +kernel)]; kernel_rfl) | (rw [if_neg (by decide +kernel)]; exact ⟨rfl, rfl⟩))
    (fun os started H enc _ F => by rw [OpenClaim.pre_eq_preRow]; exact lifted os started H enc F)
theorem plain (f : FuncId) (fn : Func) (hf : Tryd.pinned.checked.prog.funcNamed "loop.example/g01276/laws.FnExactAddClue" = some f) (hfn : Tryd.pinned.checked.prog.funcs[f]? = some fn) :
    false = Tryd.pinned.checked.prog.looks [] ∧ ∀ (j : Nat) t, fn.params[j]? = some t → Tryd.pinned.checked.prog.wantsStandIn t = false := by
  obtain rfl : f = 6 := Option.some.inj ((show Tryd.prog.funcNamed "loop.example/g01276/laws.FnExactAddClue" = some 6 by kernel_rfl).symm.trans hf) |>.symm
  obtain rfl : fn = Tryd.f6 := (Option.some.inj (Tryd.func6.symm.trans hfn)).symm
  refine ⟨Facts.looks.symm, fun j t ht => ?_⟩
  rw [Tryd.params6] at ht
  have hm : t ∈ [33, 26] := by simpa using Array.mem_of_getElem? ht
  have all : ∀ t ∈ [33, 26], Tryd.prog.wantsStandIn t = false := fun t ht => by
    simp only [List.mem_cons, List.mem_nil_iff, or_false] at ht
    rcases ht with rfl | rfl <;> kernel_rfl
  exact all t hm
theorem byText : Rows.fnExactAddClueRow.wfByText (OpenSpec.ofChange Rows.fnExactAddClueSpec) = true := by kernel_rfl
theorem goes : false = Rows.fnExactAddClueRow.goesBy Tryd.pinned.checked.prog := by kernel_rfl
theorem card : Rows.FnExactAddClueCardSaid :=
  Claim7.holds_tied_plain_at .later [] _ _ _ _ said (fun _ h => by cases h) byText (fun _ h => by cases h) fnExactAddClue_row_tie rfl ⟨rfl, rfl⟩ Facts.mainIs rfl plain goes
end Go.Proofs.YteemifeclhenbaaDoor.fnExactAddClue
namespace Go.Proofs.YteemifeclhenbaaDoor
/-- The statement, under a short name, for the claim. -/
theorem fnExactAddClue_holds : Rows.FnExactAddClueCardSaid := fnExactAddClue.card
end Go.Proofs.YteemifeclhenbaaDoor
