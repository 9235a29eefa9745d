/- strings.Repeat. -/
import Derived.Test.YtkaiidmnigpicaaGreatDoorSimFr
import Derived.Lib.Repeat
namespace Go.Proofs.YtkaiidmnigpicaaGreatDoorS
open Go
/-- strings.Repeat, small ones. -/
def strRep (a : ByteArray) (n : Int) : Option ByteArray := if (0 ≤ n ∧ n ≤ 100000) ∧ a.size ≤ 100000 then some ⟨(Lib.repeatL a.data.toList n.toNat).toArray⟩ else none
/-- A string and an int to a string. -/
theorem strN_ok {P : Program} {f : FuncId} {fn : Func} (hf : P.funcs[f]? = some fn) (hnm : (fn.name == "runtime.NumGoroutine") = false) (hb : fn.body.isSome = true) (g : ByteArray → Int → Option ByteArray)
    (h : ∀ (a : ByteArray) (n : Int) (r : ByteArray) (w : World), g a n = some r → Calls P f #[.string a, .int .i64 n] w fun e w' => e = .returned (.string r) ∧ RowKit.Below w.heap.size w w') :
    EntOk P (.fr f [⟨0, false, .str⟩, ⟨1, false, .int .i64⟩] [] [⟨0, false, .str⟩] fun d => g d.1 d.2) := by
  rintro ⟨a, n⟩ r hr
  refine fr_calls hf hnm hb rfl fun ρ args w hargs _ => ?_
  obtain ⟨L⟩ := args
  match L, hargs with
  | [x, y], ⟨hx, hy, _⟩ =>
    have hx : x = .string a := hx
    have hy : y = .int .i64 n := hy
    subst hx hy
    exact ⟨.string r, h a n r w hr, fun ρ' => rfl⟩
end Go.Proofs.YtkaiidmnigpicaaGreatDoorS
