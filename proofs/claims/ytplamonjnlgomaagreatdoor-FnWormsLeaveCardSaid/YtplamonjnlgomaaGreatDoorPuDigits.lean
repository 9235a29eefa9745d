/- All texts of so many digits, told twice: in breadth and in depth; rules. -/
import Derived.Test.YtplamonjnlgomaaGreatDoorPuBase
namespace Go.Proofs.YtplamonjnlgomaaGreatDoorS
open Go
set_option linter.unusedVariables false
set_option linter.unusedSimpArgs false

def extD (t : Nat) (s : ByteArray) : List ByteArray := (List.range t).map fun c : Nat => s ++ ofBytes [48 + (c : Int)]
def allD (t : Nat) : Nat → List ByteArray
  | 0 => [ByteArray.empty]
  | n + 1 => (allD t n).flatMap (extD t)
def lookD (t : Nat) : Nat → ByteArray → List ByteArray
  | 0, s => [s]
  | n + 1, s => (extD t s).flatMap (lookD t n)
theorem look_all (t : Nat) : ∀ (m k : Nat), (allD t k).flatMap (lookD t m) = allD t (k + m)
  | 0, k => by
    have : lookD t 0 = fun s => [s] := rfl
    rw [this, List.flatMap_singleton']
    rfl
  | m + 1, k => by
    have h := look_all t m (k + 1)
    rw [show k + (m + 1) = k + 1 + m by omega, ← h]
    show (allD t k).flatMap (fun s => (extD t s).flatMap (lookD t m)) = ((allD t k).flatMap (extD t)).flatMap (lookD t m)
    rw [List.flatMap_assoc]
theorem look_empty (t n : Nat) : lookD t n ByteArray.empty = allD t n := by
  have := look_all t n 0
  rw [Nat.zero_add] at this
  rw [← this]
  show _ = [ByteArray.empty].flatMap (lookD t n)
  simp
theorem digit_size (s : ByteArray) (c : Int) : (s ++ ofBytes [c]).size = s.size + 1 := by rw [ByteArray.size_append]; rfl
theorem digit_list (s : ByteArray) (c : Nat) (hc : c < 200) : (s ++ ofBytes [48 + (c : Int)]).data.toList = s.data.toList ++ [UInt8.ofNat (48 + c)] := by
  rw [append_list]
  show _ ++ [UInt8.ofNat (Int.toNat (48 + (c : Int)))] = _
  rw [show Int.toNat (48 + (c : Int)) = 48 + c by omega]
theorem cells_digit {t : Nat} {s : ByteArray} (h : CellsOk t s) {c : Nat} (hc : c < t) (ht : t ≤ 9) : CellsOk t (s ++ ofBytes [48 + (c : Int)]) := by
  intro b hb
  rw [digit_list s c (by omega)] at hb
  rcases List.mem_append.1 hb with hb | hb
  · exact h b hb
  · obtain rfl : b = UInt8.ofNat (48 + c) := by simpa using hb
    rw [toNat_ofNat8 (by omega)]
    omega
theorem mem_ext {t : Nat} {s x : ByteArray} : x ∈ extD t s ↔ ∃ c : Nat, c < t ∧ x = s ++ ofBytes [48 + (c : Int)] := by
  unfold extD
  rw [List.mem_map]
  constructor
  · rintro ⟨c, hc, rfl⟩; exact ⟨c, List.mem_range.1 hc, rfl⟩
  · rintro ⟨c, hc, rfl⟩; exact ⟨c, List.mem_range.2 hc, rfl⟩
theorem allD_ok {t : Nat} (ht : t ≤ 9) : ∀ (n : Nat) (s : ByteArray), s ∈ allD t n → s.size = n ∧ CellsOk t s
  | 0, s, h => by
    obtain rfl : s = ByteArray.empty := by simpa [allD] using h
    exact ⟨rfl, fun c hc => by cases hc⟩
  | n + 1, s, h => by
    obtain ⟨p, hp, hs⟩ := List.mem_flatMap.1 (show s ∈ (allD t n).flatMap (extD t) from h)
    obtain ⟨h1, h2⟩ := allD_ok ht n p hp
    obtain ⟨c, hc, rfl⟩ := mem_ext.1 hs
    exact ⟨by rw [digit_size, h1], cells_digit h2 hc ht⟩
theorem ext_len (t : Nat) (s : ByteArray) : (extD t s).length = t := by simp [extD]
theorem allD_len (t : Nat) : ∀ n, (allD t n).length = t ^ n
  | 0 => rfl
  | n + 1 => by
    show ((allD t n).flatMap (extD t)).length = _
    rw [List.length_flatMap]
    have : (allD t n).map (fun a => (extD t a).length) = List.replicate (allD t n).length t := by
      rw [List.eq_replicate_iff]
      refine ⟨by simp, fun b hb => ?_⟩
      obtain ⟨a, _, rfl⟩ := List.mem_map.1 hb
      exact ext_len t a
    rw [this, List.sum_replicate_nat, allD_len t n, Nat.pow_succ]
theorem pow_le_pow {t k n : Nat} (ht : 1 ≤ t) (h : k ≤ n) : t ^ k ≤ t ^ n := Nat.pow_le_pow_right ht h
/-! ### Rules -/
def SignC (c : UInt8) : Prop := c = 76 ∨ c = 82 ∨ c = 78 ∨ c = 85
def RuleOk (s : ByteArray) : Prop := (1 ≤ s.size ∧ s.size ≤ 6) ∧ ∀ c ∈ s.data.toList, SignC c
theorem dropWhile_nil {α : Type} (p : α → Bool) : ∀ l : List α, l.dropWhile p = [] ↔ l.all p = true
  | [] => by simp
  | x :: l => by
    by_cases h : p x = true
    · simp [List.dropWhile_cons, h, dropWhile_nil p l]
    · simp [List.dropWhile_cons, h]
theorem all_dropWhile {α : Type} (p : α → Bool) : ∀ l : List α, (l.dropWhile p).all p = true ↔ l.all p = true
  | [] => by simp
  | x :: l => by
    by_cases h : p x = true
    · simp [List.dropWhile_cons, h, all_dropWhile p l]
    · simp [List.dropWhile_cons, h]
theorem trimS_nil (l cs : List UInt8) : Lib.trimS l cs = [] ↔ l.all (fun c => cs.contains c) = true := by
  unfold Lib.trimS Lib.trimLeftS Lib.trimRightS
  rw [dropWhile_nil, List.all_reverse, all_dropWhile, List.all_reverse]
end Go.Proofs.YtplamonjnlgomaaGreatDoorS
