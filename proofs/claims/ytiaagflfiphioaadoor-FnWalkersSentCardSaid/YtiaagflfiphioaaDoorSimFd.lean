/- What the library's functions answer, ars plain functions. -/
import Derived.Test.YtiaagflfiphioaaDoorSimA
import Derived.Lib.SlTrimSet
import Derived.Lib.IndexMore
import Derived.Laws.Externs
import Derived.Lib.RuneCount
import Derived.Lib.Join
import Derived.Lib.ItoaNum
namespace Go.Proofs.YtiaagflfiphioaaDoorS
open Go
/-- strings.Trim at an ASCII cutset. -/
def strTrim (a b : ByteArray) : Option ByteArray :=
  if a.size ≤ 9223372036854775807 ∧ b.size < 4294967281 ∧ b.data.toList.all (fun c => decide (c.toNat < 128)) = true then some ⟨(Lib.trimS a.data.toList b.data.toList).toArray⟩ else none
/-- strings.Join. -/
def joinS (l : List ByteArray) (sep : ByteArray) : Option ByteArray := if l.length ≤ 140737488355328 ∧ (Lib.join (l.map (·.data.toList)) sep.data.toList).length ≤ 140737488355328 then some ⟨(Lib.join (l.map (·.data.toList)) sep.data.toList).toArray⟩ else none
/-- utf8.RuneCountInString. -/
def runeCount (a : ByteArray) : Option Int := if a.size < 9223372036854775807 then some (Lib.runeCount a : Int) else none
/-- strconv.Itoa below 100. -/
def itoaSmall (n : Int) : Option ByteArray := if 0 ≤ n ∧ n < 100 then some ⟨(Lib.decDigits n.toNat).toArray⟩ else none
/-- strings.Contains at one byte. -/
def strContains1 (a b : ByteArray) : Option Bool := match b.data.toList with
  | [c] => some (decide (0 ≤ Lib.indexByte a.data.toList c))
  | _ => none
/-- strings.Count at one byte. -/
def strCount1 (a b : ByteArray) : Option Int := match b.data.toList with
  | [c] => some (a.data.toList.count c : Int)
  | _ => none
/-- slices.Clone. -/
def cloneB {s : Sh} (bs : Nat) (l : List s.T) : Option (List s.T) := if l.length * bs ≤ 140737488355328 then some l else none
/-- impl.compareSpots. -/
def cmpS (a b : Int × (Int × Int)) : Int := if a.2.1 = b.2.1 then w64 (a.1 - b.1) else w64 (a.2.1 - b.2.1)
/-- strings.NewReplacer at two bytes, each told by the other one. -/
def swU (f : Nat → Nat) (a b : Nat) : Nat → Nat := fun j => if j = a then b else f j
def swp (a b : Nat) : Nat → Nat := swU (swU (fun j => j) b a) a b
def swapS (f : Nat → Nat) (s : ByteArray) : ByteArray := ⟨(s.data.toList.map fun c => UInt8.ofNat (f c.toNat)).toArray⟩
def otherB (x y : UInt8) (s : ByteArray) : Option ByteArray := if s.size ≤ 281474976710656 then some (swapS (swp x.toNat y.toNat) s) else none
end Go.Proofs.YtiaagflfiphioaaDoorS
