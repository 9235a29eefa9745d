/- Functions that look at package-level variables, out of what the kit tells of them. -/
import Derived.Test.YtiaagflfiphioaaDoorSimFs
import Derived.Lib.SplitLaws
import Derived.Lib.CutLaws
import Derived.Lib.AtoiAllCases
import Derived.Lib.ItoaNum
import Derived.Sort.Grow
import Derived.Deep.Draws
import Derived.Lib.LaidTab
namespace Go.Proofs.YtiaagflfiphioaaDoorS
open Go
set_option linter.unusedVariables false
set_option linter.unusedSimpArgs false

theorem World.var_heap {P : Program} {v w : World} {n : String} {cs : Array Value} (hs : ∀ b, b < v.heap.size → w.heap[b]? = v.heap[b]?) (h : v.var? P n = some cs) : w.var? P n = some cs := by
  unfold World.var? at h ⊢
  cases hg : P.globalNamed n with
  | none => simp [hg] at h
  | some g =>
    simp only [hg, Option.bind_some] at h ⊢
    have hlt : g < v.heap.size := by
      rcases Nat.lt_or_ge g v.heap.size with h' | h'
      · exact h'
      · simp [Array.getElem?_eq_none h'] at h
    rw [hs g hlt]
    exact h
theorem below_grow (w : World) (k : Nat) (os : Array Obj) : RowKit.Below w.heap.size w (Go.Sort.grow (w.drewN k) os) :=
  ⟨rfl, rfl, rfl, by unfold Go.Sort.grow; simp [World.drewN], fun b hb => by unfold Go.Sort.grow; simp only [World.drewN]; rw [Array.getElem?_append_left hb]⟩
/-- strings.Split at one byte. -/
def strSplit1 (s sep : ByteArray) : Option (List ByteArray) := if s.size < 4294967281 ∧ sep.size = 1 then some (Lib.splitB sep 0 (Lib.countB s sep) s) else none
theorem split_ok {P : Program} {f : FuncId} {fn : Func} (hf : P.funcs[f]? = some fn) (hnm : (fn.name == "runtime.NumGoroutine") = false) (hb : fn.body.isSome = true)
    (hc : ∀ (s sep : ByteArray) (w : World), WG w → s.size < 4294967281 → 1 ≤ sep.size → Calls P f #[.string s, .string sep] w fun e w' => e = .returned (.slice (some ⟨w.heap.size, 0, none⟩) (Lib.countB s sep + 1) (Lib.countB s sep + 1)) ∧ ∃ T, w' = w.alloc (.cells ((Lib.splitB sep 0 (Lib.countB s sep) s).map Value.string).toArray T)) :
    EntOk P (.fr f [⟨0, false, .str⟩, ⟨1, false, .str⟩] [] [⟨0, false, .slc true .str⟩] fun d => strSplit1 d.1 d.2) := by
  rintro ⟨s, sep⟩ (r : List ByteArray) hr
  have hr : strSplit1 s sep = some r := hr
  unfold strSplit1 at hr
  split at hr <;> cases hr
  rename_i hs
  refine fr_row hf hnm hb fun ρ args w hargs hobj hwg => ?_
  obtain ⟨L⟩ := args
  match L, hargs with
  | [x, y], ⟨hx, hy, _⟩ =>
    have hx : x = .string s := hx
    have hy : y = .string sep := hy
    subst hx hy
    refine (hc s sep w hwg hs.1 (by omega)).mono fun e w' h => ?_
    obtain ⟨rfl, T, rfl⟩ := h
    have hl := Lib.splitB_all sep (by omega) 0 _ s rfl
    generalize Lib.splitB sep 0 (Lib.countB s sep) s = l at hl
    generalize Lib.countB s sep = n at hl
    refine ⟨_, rfl, ⟨⟨some ⟨w.heap.size, 0, none⟩, n + 1, by show _ = Value.slice _ (List.length (α := ByteArray) l) _; rw [hl], by show List.length (α := ByteArray) l ≤ _; omega, rfl, (l.map Value.string).toArray, T, (0, 0), heap_alloc_new w _, ?_, fun _ => ⟨rfl, by simp [hl, Sh.sz], fun o ho hc => by omega⟩⟩, fun b hb => ?_⟩, (RowKit.Below.refl _ w).alloc (Nat.le_refl _) _⟩
    · rw [flat_str]
      simp only [List.drop_zero, Sh.sz, Nat.mul_one]
      exact List.take_of_length_le (by rw [List.length_map]; exact Nat.le_refl _)
    · simp [blk] at hb
      omega
theorem below_drew (w : World) (k : Nat) : RowKit.Below w.heap.size w (w.drewN k) := ⟨rfl, rfl, rfl, Nat.le_refl _, fun b hb => rfl⟩
/-- strings.Cut. -/
def strCut (s sep : ByteArray) : Option (ByteArray × ByteArray × Bool) := if s.size < 4294967281 then some (⟨(Lib.cut s.data.toList sep.data.toList).1.toArray⟩, ⟨(Lib.cut s.data.toList sep.data.toList).2.1.toArray⟩, (Lib.cut s.data.toList sep.data.toList).2.2) else none
theorem cut_ok {P : Program} {f : FuncId} {fn : Func} (hf : P.funcs[f]? = some fn) (hnm : (fn.name == "runtime.NumGoroutine") = false) (hb : fn.body.isSome = true)
    (h : ∀ (s sep a b : ByteArray) (c : Bool) (w : World), WG w → strCut s sep = some (a, b, c) → Calls P f #[.string s, .string sep] w fun e w' => e = .returned (.tuple #[.string a, .string b, .bool c]) ∧ RowKit.Below w.heap.size w w') :
    EntOk P (.fr f [⟨0, false, .str⟩, ⟨1, false, .str⟩] [] [⟨0, false, .str⟩, ⟨1, false, .str⟩, ⟨2, false, .bool⟩] fun d => strCut d.1 d.2) := by
  rintro ⟨s, sep⟩ ⟨a, b, c⟩ hr
  refine fr_calls hf hnm hb rfl fun ρ args w hargs hwg => ?_
  obtain ⟨L⟩ := args
  match L, hargs with
  | [x, y], ⟨hx, hy, _⟩ =>
    have hx : x = .string s := hx
    have hy : y = .string sep := hy
    subst hx hy
    exact ⟨.tuple #[.string a, .string b, .bool c], h s sep a b c w hwg hr, fun ρ' => ⟨_, rfl, ⟨_, rfl, rfl⟩, ⟨_, rfl, rfl⟩, ⟨_, rfl, rfl⟩, trivial⟩⟩
/-- strconv.Itoa. -/
def itoaAll (n : Int) : Option ByteArray := if -9223372036854775808 ≤ n ∧ n ≤ 9223372036854775807 then some ⟨(Lib.itoa n).toArray⟩ else none
theorem itoa_ok {P : Program} {f : FuncId} {fn : Func} (hf : P.funcs[f]? = some fn) (hnm : (fn.name == "runtime.NumGoroutine") = false) (hb : fn.body.isSome = true)
    (h : ∀ (a : Int) (w : World), WG w → -9223372036854775808 ≤ a → a ≤ 9223372036854775807 → Calls P f #[.int .i64 a] w fun e w' => e = .returned (.string ⟨(Lib.itoa a).toArray⟩) ∧ RowKit.Below w.heap.size w w') :
    EntOk P (.fr f [⟨0, false, .int .i64⟩] [] [⟨0, false, .str⟩] fun d => itoaAll d) := by
  intro a r hr
  have hr : itoaAll a = some r := hr
  unfold itoaAll at hr
  split at hr <;> cases hr
  rename_i hs
  refine fr_calls hf hnm hb rfl fun ρ args w hargs hwg => ?_
  obtain ⟨L⟩ := args
  match L, hargs with
  | [x], ⟨hx, _⟩ =>
    have hx : x = .int .i64 a := hx
    subst hx
    exact ⟨.string _, h a w hwg hs.1 hs.2, fun ρ' => rfl⟩
/-- A number of a text in decimal: what strconv.Atoi reads, if strconv.Itoa tells it so. -/
def numB (s : ByteArray) (most : Int) : Option (Int × Bool) := if s.size ≤ 281474976710656 then match Lib.atoiAll s.data.toList with
    | .ok v => some (if Lib.itoa v = s.data.toList ∧ 0 ≤ v ∧ v ≤ most then (v, true) else (0, false))
    | _ => some (0, false)
  else none
theorem number_ok {P : Program} {f : FuncId} {fn : Func} (hf : P.funcs[f]? = some fn) (hnm : (fn.name == "runtime.NumGoroutine") = false) (hb : fn.body.isSome = true)
    (h : ∀ (s : ByteArray) (m : Int) (n : Int) (b : Bool) (w : World), WG w → numB s m = some (n, b) → Calls P f #[.string s, .int .i64 m] w fun e w' => e = .returned (.tuple #[.int .i64 n, .bool b]) ∧ RowKit.Below w.heap.size w w') :
    EntOk P (.fr f [⟨0, false, .str⟩, ⟨1, false, .int .i64⟩] [] [⟨0, false, .int .i64⟩, ⟨1, false, .bool⟩] fun d => numB d.1 d.2) := by
  rintro ⟨s, m⟩ ⟨n, b⟩ hr
  refine fr_calls hf hnm hb rfl fun ρ args w hargs hwg => ?_
  obtain ⟨L⟩ := args
  match L, hargs with
  | [x, y], ⟨hx, hy, _⟩ =>
    have hx : x = .string s := hx
    have hy : y = .int .i64 m := hy
    subst hx hy
    exact ⟨.tuple #[.int .i64 n, .bool b], h s m n b w hwg hr, fun ρ' => ⟨_, rfl, ⟨_, rfl, rfl⟩, ⟨_, rfl, rfl⟩, trivial⟩⟩
end Go.Proofs.YtiaagflfiphioaaDoorS
