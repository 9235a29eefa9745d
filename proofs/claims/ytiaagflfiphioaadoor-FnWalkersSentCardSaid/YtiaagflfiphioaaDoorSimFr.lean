/- Tables of entries; functions without a body. -/
import Derived.Test.YtiaagflfiphioaaDoorSimZ
import Derived.Laws.StandIn
namespace Go.Proofs.YtiaagflfiphioaaDoorS
open Go
set_option linter.unusedVariables false
set_option linter.unusedSimpArgs false

def AllOk (P : Program) : List Ent → Prop
  | [] => True | e :: r => EntOk P e ∧ AllOk P r
theorem AllOk.getD {P : Program} {dft : Ent} (hd : EntOk P dft) : ∀ {l : List Ent} (i : Nat), AllOk P l → EntOk P (l.getD i dft)
  | [], i, _ => by simpa using hd
  | e :: r, 0, h => h.1
  | e :: r, i + 1, h => by simpa using AllOk.getD hd i h.2
/-- A call of a function without a body, which answers a value and turns nothing. -/
theorem fr_value {P : Program} {f : FuncId} {ins res : List Slot} {d : Dl ins} {r : Dl res} (hn : cntL res = 0)
    (h : ∀ (ρ : Rho) (args : Array Value) (w : World), VRelL ρ (unpackL ins d 0 0).1 args.toList → ∃ v, (callFunc f args).run P w = .ok (.value v) w ∧ ∀ ρ', VRel ρ' (resAVal (unpackL res r 0 0).1) v) :
    FnSpec P f ins [] res d r := by
  intro A W ρ args w hargs H
  unfold CallsF
  obtain ⟨v, hv, hr⟩ := h ρ args w hargs
  rw [hv]
  have e : (unpackL res (RF.res res (pick ins []) r) 0 0).2 ++ (unpackL (pick ins []) (RF.io res (pick ins []) r) 0 (cntL res)).2 = [] := by
    have := unpackL_len res (RF.res res (pick ins []) r) 0 0
    rw [hn] at this
    rw [List.eq_nil_of_length_eq_zero this]
    rfl
  refine ⟨fun _ => False, fun _ => none, hr _, trivial, ?_⟩
  rw [e]
  exact ⟨H.fr, (fun _ h => h.elim), fun i => trivial, (fun i j _ b hb _ => False.elim (show False from fpw_fp hb)), (fun i b hb => False.elim (show False from hb)), (fun i b hb => False.elim (show False from fpw_fp hb))⟩
/-- internal/bytealg.IndexByteString. -/
theorem indexByte_ok {P : Program} {f : FuncId} {fn : Func} (hf : P.funcs[f]? = some fn) (hname : (fn.name == "runtime.NumGoroutine") = false) (hb : fn.body.isNone = true) (hn : Extern.findNext fn = none) (he : Extern.find fn = some Extern.BytealgIndexByte.indexByte) :
    EntOk P (.fr f [⟨0, false, .str⟩, ⟨1, false, .int .u8⟩] [] [⟨0, false, .int .i64⟩] fun d => some (firstIdx d.1 (Int.toNat d.2).toUInt8)) := by
  rintro ⟨s, c⟩ r h
  cases h
  refine fr_value rfl fun ρ args w hargs => ?_
  obtain ⟨L⟩ := args
  match L, hargs with
  | [x, y], ⟨hx, hy, _⟩ =>
    have hx : x = .string s := hx
    have hy : y = .int .u8 c := hy
    subst hx hy
    refine ⟨.int .i64 (firstIdx s (Int.toNat c).toUInt8), ?_, fun ρ' => rfl⟩
    have h2 : (Extern.BytealgIndexByte.indexByte ⟨[.string s, .int .u8 c]⟩).run P w = _ := run_indexByte_string s c w
    rw [run_callFunc_indexByte hf hname hb hn he, h2]
    rfl
/-- A call of a function with a body whose contract is the kit's: it answers a plain value and turns nothing that was there. -/
theorem fr_calls {P : Program} {f : FuncId} {fn : Func} (hf : P.funcs[f]? = some fn) (hnm : (fn.name == "runtime.NumGoroutine") = false) (hb : fn.body.isSome = true) {ins res : List Slot} {d : Dl ins} {r : Dl res} (hn : cntL res = 0)
    (h : ∀ (ρ : Rho) (args : Array Value) (w : World), VRelL ρ (unpackL ins d 0 0).1 args.toList → WG w → ∃ v, (Calls P f args w fun e w' => e = .returned v ∧ RowKit.Below w.heap.size w w') ∧ ∀ ρ', VRel ρ' (resAVal (unpackL res r 0 0).1) v) :
    FnSpec P f ins [] res d r := by
  intro A W ρ args w hargs H
  unfold CallsF
  have hcf : (callFunc f args).run P w = .ok (.enter f args) w := by
    have hn2 : ¬ fn.name = "runtime.NumGoroutine" := by simpa using hnm
    have hbn : ¬ fn.body = none := by intro e; rw [e] at hb; cases hb
    simp [callFunc, hf, hn2, hbn]
  rw [hcf]
  obtain ⟨v, hv, hr⟩ := h ρ args w hargs H.fr.wg
  refine Calls.mono hv fun e w' he => ?_
  obtain ⟨rfl, bel⟩ := he
  have e : (unpackL res (RF.res res (pick ins []) r) 0 0).2 ++ (unpackL (pick ins []) (RF.io res (pick ins []) r) 0 (cntL res)).2 = [] := by
    have := unpackL_len res (RF.res res (pick ins []) r) 0 0
    rw [hn] at this
    rw [List.eq_nil_of_length_eq_zero this]
    rfl
  refine ⟨v, rfl, fun _ => False, fun _ => none, hr _, trivial, ?_⟩
  rw [e]
  exact ⟨⟨bel.os, bel.tape, bel.output, bel.size, fun b hb _ => bel.block b hb, H.fr.ok⟩, (fun _ h => h.elim), fun i => trivial, (fun i j _ b hb _ => False.elim (show False from fpw_fp hb)), (fun i b hb => False.elim (show False from hb)), (fun i b hb => False.elim (show False from fpw_fp hb))⟩
/-- Two strings to a string. -/
theorem strs_ok {P : Program} {f : FuncId} {fn : Func} (hf : P.funcs[f]? = some fn) (hnm : (fn.name == "runtime.NumGoroutine") = false) (hb : fn.body.isSome = true) (g : ByteArray → ByteArray → Option ByteArray)
    (h : ∀ (a b r : ByteArray) (w : World), g a b = some r → Calls P f #[.string a, .string b] w fun e w' => e = .returned (.string r) ∧ RowKit.Below w.heap.size w w') :
    EntOk P (.fr f [⟨0, false, .str⟩, ⟨1, false, .str⟩] [] [⟨0, false, .str⟩] fun d => g d.1 d.2) := by
  rintro ⟨a, b⟩ r hr
  refine fr_calls hf hnm hb rfl fun ρ args w hargs _ => ?_
  obtain ⟨L⟩ := args
  match L, hargs with
  | [x, y], ⟨hx, hy, _⟩ =>
    have hx : x = .string a := hx
    have hy : y = .string b := hy
    subst hx hy
    exact ⟨.string r, h a b r w hr, fun ρ' => rfl⟩
/-- Two strings to a bool. -/
theorem strsB_ok {P : Program} {f : FuncId} {fn : Func} (hf : P.funcs[f]? = some fn) (hnm : (fn.name == "runtime.NumGoroutine") = false) (hb : fn.body.isSome = true) (g : ByteArray → ByteArray → Option Bool)
    (h : ∀ (a b : ByteArray) (r : Bool) (w : World), g a b = some r → Calls P f #[.string a, .string b] w fun e w' => e = .returned (.bool r) ∧ RowKit.Below w.heap.size w w') :
    EntOk P (.fr f [⟨0, false, .str⟩, ⟨1, false, .str⟩] [] [⟨0, false, .bool⟩] fun d => g d.1 d.2) := by
  rintro ⟨a, b⟩ r hr
  refine fr_calls hf hnm hb rfl fun ρ args w hargs _ => ?_
  obtain ⟨L⟩ := args
  match L, hargs with
  | [x, y], ⟨hx, hy, _⟩ =>
    have hx : x = .string a := hx
    have hy : y = .string b := hy
    subst hx hy
    exact ⟨.bool r, h a b r w hr, fun ρ' => rfl⟩
/-- Two strings to an int. -/
theorem strsI_ok {P : Program} {f : FuncId} {fn : Func} (hf : P.funcs[f]? = some fn) (hnm : (fn.name == "runtime.NumGoroutine") = false) (hb : fn.body.isSome = true) (g : ByteArray → ByteArray → Option Int)
    (h : ∀ (a b : ByteArray) (r : Int) (w : World), g a b = some r → Calls P f #[.string a, .string b] w fun e w' => e = .returned (.int .i64 r) ∧ RowKit.Below w.heap.size w w') :
    EntOk P (.fr f [⟨0, false, .str⟩, ⟨1, false, .str⟩] [] [⟨0, false, .int .i64⟩] fun d => g d.1 d.2) := by
  rintro ⟨a, b⟩ r hr
  refine fr_calls hf hnm hb rfl fun ρ args w hargs _ => ?_
  obtain ⟨L⟩ := args
  match L, hargs with
  | [x, y], ⟨hx, hy, _⟩ =>
    have hx : x = .string a := hx
    have hy : y = .string b := hy
    subst hx hy
    exact ⟨.int .i64 r, h a b r w hr, fun ρ' => rfl⟩
/-- A string to an int. -/
theorem strI_ok {P : Program} {f : FuncId} {fn : Func} (hf : P.funcs[f]? = some fn) (hnm : (fn.name == "runtime.NumGoroutine") = false) (hb : fn.body.isSome = true) (g : ByteArray → Option Int)
    (h : ∀ (a : ByteArray) (r : Int) (w : World), g a = some r → Calls P f #[.string a] w fun e w' => e = .returned (.int .i64 r) ∧ RowKit.Below w.heap.size w w') :
    EntOk P (.fr f [⟨0, false, .str⟩] [] [⟨0, false, .int .i64⟩] fun d => g d) := by
  intro a r hr
  refine fr_calls hf hnm hb rfl fun ρ args w hargs _ => ?_
  obtain ⟨L⟩ := args
  match L, hargs with
  | [x], ⟨hx, _⟩ =>
    have hx : x = .string a := hx
    subst hx
    exact ⟨.int .i64 r, h a r w hr, fun ρ' => rfl⟩
/-- A string to a string. -/
theorem strS_ok {P : Program} {f : FuncId} {fn : Func} (hf : P.funcs[f]? = some fn) (hnm : (fn.name == "runtime.NumGoroutine") = false) (hb : fn.body.isSome = true) (g : ByteArray → Option ByteArray)
    (h : ∀ (a : ByteArray) (r : ByteArray) (w : World), g a = some r → Calls P f #[.string a] w fun e w' => e = .returned (.string r) ∧ RowKit.Below w.heap.size w w') :
    EntOk P (.fr f [⟨0, false, .str⟩] [] [⟨0, false, .str⟩] fun d => g d) := by
  intro a r hr
  refine fr_calls hf hnm hb rfl fun ρ args w hargs _ => ?_
  obtain ⟨L⟩ := args
  match L, hargs with
  | [x], ⟨hx, _⟩ =>
    have hx : x = .string a := hx
    subst hx
    exact ⟨.string r, h a r w hr, fun ρ' => rfl⟩
/-- An int to a string. -/
theorem intS_ok {P : Program} {f : FuncId} {fn : Func} (hf : P.funcs[f]? = some fn) (hnm : (fn.name == "runtime.NumGoroutine") = false) (hb : fn.body.isSome = true) (g : Int → Option ByteArray)
    (h : ∀ (a : Int) (r : ByteArray) (w : World), g a = some r → Calls P f #[.int .i64 a] w fun e w' => e = .returned (.string r) ∧ RowKit.Below w.heap.size w w') :
    EntOk P (.fr f [⟨0, false, .int .i64⟩] [] [⟨0, false, .str⟩] fun d => g d) := by
  intro a r hr
  refine fr_calls hf hnm hb rfl fun ρ args w hargs _ => ?_
  obtain ⟨L⟩ := args
  match L, hargs with
  | [x], ⟨hx, _⟩ =>
    have hx : x = .int .i64 a := hx
    subst hx
    exact ⟨.string r, h a r w hr, fun ρ' => rfl⟩
end Go.Proofs.YtiaagflfiphioaaDoorS
