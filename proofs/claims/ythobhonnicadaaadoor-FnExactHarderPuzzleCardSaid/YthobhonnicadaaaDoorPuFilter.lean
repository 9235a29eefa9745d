/- What a loop keeps that filters a row in its place. -/
import Derived.Test.YthobhonnicadaaaDoorPuDigits
namespace Go.Proofs.YthobhonnicadaaaDoorS
open Go
set_option linter.unusedVariables false
set_option linter.unusedSimpArgs false

structure Filt {α : Type} (p : α → Bool) (l s : List α) (i j : Nat) : Prop where
  len : s.length = l.length
  le : i ≤ j
  jle : j ≤ l.length
  drop : s.drop j = l.drop j
  take : s.take i = (l.take j).filter p
theorem take_next {α : Type} {l : List α} {j : Nat} {x : α} (h : l[j]? = some x) : l.take (j + 1) = l.take j ++ [x] := by
  rw [List.take_add_one, h]
  rfl
theorem Filt.get {α : Type} {p : α → Bool} {l s : List α} {i j : Nat} (h : Filt p l s i j) : s[j]? = l[j]? := by
  have := congrArg (fun r : List α => r[0]?) h.drop
  simpa using this
theorem drop_next {α : Type} {l s : List α} {j : Nat} (h : s.drop j = l.drop j) : s.drop (j + 1) = l.drop (j + 1) := by
  have := congrArg (List.drop 1) h
  rwa [List.drop_drop, List.drop_drop] at this
theorem Filt.skip {α : Type} {p : α → Bool} {l s : List α} {i j : Nat} (h : Filt p l s i j) {x : α} (hx : l[j]? = some x) (hp : p x = false) : Filt p l s i (j + 1) := by
  have hj := (List.getElem?_eq_some_iff.1 hx).1
  refine ⟨h.len, by have := h.le; omega, hj, drop_next h.drop, ?_⟩
  rw [take_next hx, List.filter_append, h.take]
  simp [hp]
theorem Filt.keep {α : Type} {p : α → Bool} {l s : List α} {i j : Nat} (h : Filt p l s i j) {x : α} (hx : l[j]? = some x) (hp : p x = true) : Filt p l (s.set i x) (i + 1) (j + 1) := by
  have hj := (List.getElem?_eq_some_iff.1 hx).1
  have hle := h.le
  have hi : i < s.length := by rw [h.len]; omega
  refine ⟨by rw [List.length_set]; exact h.len, by omega, hj, ?_, ?_⟩
  · rw [List.drop_set_of_lt (by omega)]
    exact drop_next h.drop
  · have hg : (s.set i x)[i]? = some x := List.getElem?_set_self hi
    rw [take_next hg, List.take_set_of_le (Nat.le_refl _), take_next hx, List.filter_append, h.take]
    simp [hp]
theorem Filt.first {α : Type} {p : α → Bool} {l : List α} {i : Nat} {x : α} (hx : l[i]? = some x) (hp : p x = false) (h : ∀ (m : Nat) (y : α), m < i → l[m]? = some y → p y = true) : Filt p l l i (i + 1) := by
  have hi := (List.getElem?_eq_some_iff.1 hx).1
  refine ⟨rfl, by omega, hi, rfl, ?_⟩
  rw [take_next hx, List.filter_append]
  have : (l.take i).filter p = l.take i := by
    rw [List.filter_eq_self]
    intro y hy
    obtain ⟨m, hm⟩ := List.mem_iff_getElem?.1 hy
    rw [List.getElem?_take] at hm
    split at hm
    · exact h m y (by assumption) hm
    · cases hm
  rw [this]
  simp [hp]
theorem Filt.done {α : Type} {p : α → Bool} {l s : List α} {i : Nat} (h : Filt p l s i l.length) : s.take i = l.filter p := by
  rw [h.take, List.take_of_length_le (Nat.le_refl _)]
theorem filter_all {α : Type} {p : α → Bool} {l : List α} (h : ∀ x ∈ l, p x = true) : l.filter p = l := List.filter_eq_self.2 h
end Go.Proofs.YthobhonnicadaaaDoorS
