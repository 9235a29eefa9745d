/-
  No cell of these rows narrows 'for every input' (looked for: loops, veiled, ifaces, maps, wideKeys, modest, calm, conditions, laid).
  DERIVED. THE GIVEN ROWS OF THIS SEAT. 4 by the template 'for every input the law returns true; each argument reads behind the call as it read before'; 0 by the template 'total and deterministic' (their statements: YtdgfpdbfcpbgfaaTotals.lean).
  GIVEN WITH THE SEED: the statements are not yours to turn. If you find one false, say at which input.
  Laid BY PROGRAM, IN A SANDBOX (cutbox-rows.mjs): the forced cells as the released guide's own fill.sh prints them over the translation fc4c7e27c8df1a12… (all of the seat's roots in one cut). By AI agents, Wed Nov 11 2026. No macro, syntax, notation, axiom, sorry.
-/
import Derived.Test.YtdgfpdbfcpbgfaaChecked
import GoSem.Claim
import GoSem.ClaimJoined
import GoSem.ClaimMapViews
import Derived.JoinedTies
import Derived.KernelRfl
namespace Go.Proofs.Ytdgfpdbfcpbgfaa
/- THE CELL 'sum', in the pinned program and in every row, IS THE sha256 OF THE DUMP (.gsa) THAT YtdgfpdbfcpbgfaaProg.lean LOADS. Nothing in Lean hashes anything: it is a label: what it is worth is what the hold of that sum in a sandbox is worth. -/
noncomputable def Try.pinned : Pinned := { name := "ytdgfpdbfcpbgfaa", sum := "fc4c7e27c8df1a12e76700dd6b8e58905e919673687a0ec6a63dd410c6283ba7", checked := Try.checked }
namespace Rows
def none {H : Type} : Left H := { results := [], args := [] }

/-- 'laws.FnExactPaintedAfter': WHATEVER THE INPUT: true; the input reads as it did. -/
def fnExactPaintedAfterSpec : ChangeSpec := { name := "fnExactPaintedAfter", fn := fun _ => fun
  | [d1, d2] => { results := [.lit (.bool true)], args := [d1, d2] }
  | _ => none }
def fnExactPaintedAfterRow : OpenClaim := { program := "ytdgfpdbfcpbgfaa", sum := "fc4c7e27c8df1a12e76700dd6b8e58905e919673687a0ec6a63dd410c6283ba7", func := "loop.example/g01276/laws.FnExactPaintedAfter", spec := "fnExactPaintedAfter", inPlace := ["internal/bytealg.IndexByteString", "internal/bytealg.IndexString", "internal/bytealg.CountString"], unfollowed := true, recurses := true, named := ["internal/bytealg.MaxLen"], apart := false }
def FnExactPaintedAfterSaid : Prop := fnExactPaintedAfterRow.holds Try.pinned (OpenSpec.ofChange fnExactPaintedAfterSpec)

/-- ITS FALSE NEIGHBOUR: 'it returns false'. Refute it at one input. -/
def fnExactPaintedAfterWrong : ChangeSpec := { name := "fnExactPaintedAfter", fn := fun _ => fun
  | [d1, d2] => { results := [.lit (.bool false)], args := [d1, d2] }
  | _ => none }
def FnExactPaintedAfterWrongFalsely : Prop := fnExactPaintedAfterRow.holds Try.pinned (OpenSpec.ofChange fnExactPaintedAfterWrong)

/-- 'laws.FnExactStepScene': WHATEVER THE INPUT: true; the input reads as it did. -/
def fnExactStepSceneSpec : ChangeSpec := { name := "fnExactStepScene", fn := fun _ => fun
  | [d] => { results := [.lit (.bool true)], args := [d] }
  | _ => none }
def fnExactStepSceneRow : OpenClaim := { program := "ytdgfpdbfcpbgfaa", sum := "fc4c7e27c8df1a12e76700dd6b8e58905e919673687a0ec6a63dd410c6283ba7", func := "loop.example/g01276/laws.FnExactStepScene", spec := "fnExactStepScene", inPlace := ["internal/bytealg.IndexByteString", "internal/bytealg.IndexString"], unfollowed := true, recurses := true, named := ["internal/bytealg.MaxLen"], apart := false }
def FnExactStepSceneSaid : Prop := fnExactStepSceneRow.holds Try.pinned (OpenSpec.ofChange fnExactStepSceneSpec)

/-- ITS FALSE NEIGHBOUR: 'it returns false'. Refute it at one input. -/
def fnExactStepSceneWrong : ChangeSpec := { name := "fnExactStepScene", fn := fun _ => fun
  | [d] => { results := [.lit (.bool false)], args := [d] }
  | _ => none }
def FnExactStepSceneWrongFalsely : Prop := fnExactStepSceneRow.holds Try.pinned (OpenSpec.ofChange fnExactStepSceneWrong)

/-- 'laws.FnExactSceneAfter': WHATEVER THE INPUT: true; the input reads as it did. -/
def fnExactSceneAfterSpec : ChangeSpec := { name := "fnExactSceneAfter", fn := fun _ => fun
  | [d1, d2] => { results := [.lit (.bool true)], args := [d1, d2] }
  | _ => none }
def fnExactSceneAfterRow : OpenClaim := { program := "ytdgfpdbfcpbgfaa", sum := "fc4c7e27c8df1a12e76700dd6b8e58905e919673687a0ec6a63dd410c6283ba7", func := "loop.example/g01276/laws.FnExactSceneAfter", spec := "fnExactSceneAfter", inPlace := ["internal/bytealg.IndexByteString", "internal/bytealg.IndexString"], unfollowed := true, recurses := true, named := ["internal/bytealg.MaxLen"], apart := false }
def FnExactSceneAfterSaid : Prop := fnExactSceneAfterRow.holds Try.pinned (OpenSpec.ofChange fnExactSceneAfterSpec)

/-- ITS FALSE NEIGHBOUR: 'it returns false'. Refute it at one input. -/
def fnExactSceneAfterWrong : ChangeSpec := { name := "fnExactSceneAfter", fn := fun _ => fun
  | [d1, d2] => { results := [.lit (.bool false)], args := [d1, d2] }
  | _ => none }
def FnExactSceneAfterWrongFalsely : Prop := fnExactSceneAfterRow.holds Try.pinned (OpenSpec.ofChange fnExactSceneAfterWrong)

/-- 'laws.FnExactUndoScene': WHATEVER THE INPUT: true; the input reads as it did. -/
def fnExactUndoSceneSpec : ChangeSpec := { name := "fnExactUndoScene", fn := fun _ => fun
  | [d] => { results := [.lit (.bool true)], args := [d] }
  | _ => none }
def fnExactUndoSceneRow : OpenClaim := { program := "ytdgfpdbfcpbgfaa", sum := "fc4c7e27c8df1a12e76700dd6b8e58905e919673687a0ec6a63dd410c6283ba7", func := "loop.example/g01276/laws.FnExactUndoScene", spec := "fnExactUndoScene", inPlace := ["internal/bytealg.IndexByteString", "internal/bytealg.IndexString"], unfollowed := true, recurses := true, named := ["internal/bytealg.MaxLen"], apart := false }
def FnExactUndoSceneSaid : Prop := fnExactUndoSceneRow.holds Try.pinned (OpenSpec.ofChange fnExactUndoSceneSpec)

/-- ITS FALSE NEIGHBOUR: 'it returns false'. Refute it at one input. -/
def fnExactUndoSceneWrong : ChangeSpec := { name := "fnExactUndoScene", fn := fun _ => fun
  | [d] => { results := [.lit (.bool false)], args := [d] }
  | _ => none }
def FnExactUndoSceneWrongFalsely : Prop := fnExactUndoSceneRow.holds Try.pinned (OpenSpec.ofChange fnExactUndoSceneWrong)

/- THE SECOND FORM. 'bulk': how many values and letters a reading holds, each counted each time it is reached (what is shared counts as often as it is met; a slice's spare places count too). A statement '..UptoSaid' is the law's where the arguments, and the package variables that the reading takes, are together of bulk at most 1048576: NARROWER than '..Said'. Prove '..Said' where nothing that the law and all that it calls make is longer than what came in: it says more and counts as full. Else prove '..UptoSaid'. A law counts once. -/
mutual
def uptoBulk {H : Type} : DataW H → Nat
  | .lit (.string bytes) => bytes.length + 1
  | .lit _ => 1
  | .nil => 1
  | .ptr d => uptoBulk d + 1
  | .slice elems spare => uptoBulkAll elems + uptoBulkAll spare + 1
  | .agg parts => uptoBulkAll parts + 1
  | .iface _ d => uptoBulk d + 1
  | .map entries => uptoBulkEntries entries + 1
  | .held _ => 1
def uptoBulkAll {H : Type} : List (DataW H) → Nat
  | [] => 0
  | d :: r => uptoBulk d + uptoBulkAll r
def uptoBulkEntries {H : Type} : List (Lit × DataW H) → Nat
  | [] => 0
  | x :: r => uptoBulkEntry x + uptoBulkEntries r
def uptoBulkEntry {H : Type} : Lit × DataW H → Nat
  | (.string bytes, d) => bytes.length + uptoBulk d + 1
  | (_, d) => uptoBulk d + 1
 end
def uptoSmall : (H : Type) → List (DataW H) → Bool := fun _ ds => decide (uptoBulkAll ds ≤ 1048576)
def OpenSpec.upto (s : _root_.Go.ChangeSpec) : _root_.Go.OpenSpec := { _root_.Go.OpenSpec.ofChange s with cond := some uptoSmall }

/-- 'laws.FnExactPaintedAfter', WHERE WHAT IT READS IS OF BULK AT MOST 1048576: true; the input reads as it did. -/
def fnExactPaintedAfterUptoRow : OpenClaim := { program := "ytdgfpdbfcpbgfaa", sum := "fc4c7e27c8df1a12e76700dd6b8e58905e919673687a0ec6a63dd410c6283ba7", func := "loop.example/g01276/laws.FnExactPaintedAfter", spec := "fnExactPaintedAfter", inPlace := ["internal/bytealg.IndexByteString", "internal/bytealg.IndexString", "internal/bytealg.CountString"], unfollowed := true, recurses := true, named := ["internal/bytealg.MaxLen"], apart := false, narrowed := true }
def FnExactPaintedAfterUptoSaid : Prop := fnExactPaintedAfterUptoRow.holds Try.pinned (OpenSpec.upto fnExactPaintedAfterSpec)

/-- 'laws.FnExactStepScene', WHERE WHAT IT READS IS OF BULK AT MOST 1048576: true; the input reads as it did. -/
def fnExactStepSceneUptoRow : OpenClaim := { program := "ytdgfpdbfcpbgfaa", sum := "fc4c7e27c8df1a12e76700dd6b8e58905e919673687a0ec6a63dd410c6283ba7", func := "loop.example/g01276/laws.FnExactStepScene", spec := "fnExactStepScene", inPlace := ["internal/bytealg.IndexByteString", "internal/bytealg.IndexString"], unfollowed := true, recurses := true, named := ["internal/bytealg.MaxLen"], apart := false, narrowed := true }
def FnExactStepSceneUptoSaid : Prop := fnExactStepSceneUptoRow.holds Try.pinned (OpenSpec.upto fnExactStepSceneSpec)

/-- 'laws.FnExactSceneAfter', WHERE WHAT IT READS IS OF BULK AT MOST 1048576: true; the input reads as it did. -/
def fnExactSceneAfterUptoRow : OpenClaim := { program := "ytdgfpdbfcpbgfaa", sum := "fc4c7e27c8df1a12e76700dd6b8e58905e919673687a0ec6a63dd410c6283ba7", func := "loop.example/g01276/laws.FnExactSceneAfter", spec := "fnExactSceneAfter", inPlace := ["internal/bytealg.IndexByteString", "internal/bytealg.IndexString"], unfollowed := true, recurses := true, named := ["internal/bytealg.MaxLen"], apart := false, narrowed := true }
def FnExactSceneAfterUptoSaid : Prop := fnExactSceneAfterUptoRow.holds Try.pinned (OpenSpec.upto fnExactSceneAfterSpec)

/-- 'laws.FnExactUndoScene', WHERE WHAT IT READS IS OF BULK AT MOST 1048576: true; the input reads as it did. -/
def fnExactUndoSceneUptoRow : OpenClaim := { program := "ytdgfpdbfcpbgfaa", sum := "fc4c7e27c8df1a12e76700dd6b8e58905e919673687a0ec6a63dd410c6283ba7", func := "loop.example/g01276/laws.FnExactUndoScene", spec := "fnExactUndoScene", inPlace := ["internal/bytealg.IndexByteString", "internal/bytealg.IndexString"], unfollowed := true, recurses := true, named := ["internal/bytealg.MaxLen"], apart := false, narrowed := true }
def FnExactUndoSceneUptoSaid : Prop := fnExactUndoSceneUptoRow.holds Try.pinned (OpenSpec.upto fnExactUndoSceneSpec)

end Rows
end Go.Proofs.Ytdgfpdbfcpbgfaa
