/- Maps as lists of entries: a key that is new, the first entry of a key. -/
import Derived.Test.YtiaagflfiphioaaDoorPuKit
import Derived.MapKept
namespace Go.Proofs.YtiaagflfiphioaaDoorS
open Go
set_option linter.unusedVariables false
set_option linter.unusedSimpArgs false
theorem seS_iff {x y : ByteArray} : Sh.eqT .str x y = true ↔ x = y := MapKept.bytes_beq _ _
section
variable {K V : Type} {eq : K → K → Bool} (he : ∀ x y, eq x y = true ↔ x = y)
include he
theorem mput_fresh {x : K} (y : V) : ∀ {l : List (K × V)}, (∀ e ∈ l, e.1 ≠ x) → mput eq l x y = l ++ [(x, y)]
  | [], _ => rfl
  | e :: l, h => by
    have h1 : eq x e.1 = false := Bool.eq_false_iff.2 fun q => h e (by simp) ((he _ _).1 q).symm
    show cond (eq x e.1) ((x, y) :: l) (e :: mput eq l x y) = _
    rw [h1, mput_fresh y fun q hq => h q (by simp [hq])]
    rfl
theorem mhas_fresh {x : K} : ∀ {l : List (K × V)}, (∀ e ∈ l, e.1 ≠ x) → mhas eq l x = false
  | [], _ => rfl
  | e :: l, h => by
    have h1 : eq x e.1 = false := Bool.eq_false_iff.2 fun q => h e (by simp) ((he _ _).1 q).symm
    show cond (eq x e.1) true (mhas eq l x) = _
    rw [h1]
    exact mhas_fresh fun q hq => h q (by simp [hq])
theorem mhas_there {x : K} : ∀ {l : List (K × V)}, (∃ e ∈ l, e.1 = x) → mhas eq l x = true
  | [], h => by obtain ⟨e, h, _⟩ := h; simp at h
  | e :: l, h => by
    show cond (eq x e.1) true (mhas eq l x) = _
    cases h1 : eq x e.1 with
    | true => rfl
    | false =>
      obtain ⟨q, hq, e2⟩ := h
      rcases List.mem_cons.1 hq with rfl | hq
      · rw [(he _ _).2 e2.symm] at h1; cases h1
      · exact mhas_there ⟨q, hq, e2⟩
theorem mget_first {x : K} {v z : V} : ∀ {l : List (K × V)} {i : Nat}, l[i]? = some (x, v) → (∀ j, j < i → ∀ e, l[j]? = some e → e.1 ≠ x) → mget eq l x z = v
  | [], i, h, _ => by simp at h
  | e :: l, 0, h, _ => by
    have h : e = (x, v) := by simpa using h
    subst h
    show cond (eq x x) v (mget eq l x z) = _
    rw [(he _ _).2 rfl]; rfl
  | e :: l, i + 1, h, hj => by
    have h1 : eq x e.1 = false := Bool.eq_false_iff.2 fun q => hj 0 (by omega) e rfl ((he _ _).1 q).symm
    show cond (eq x e.1) e.2 (mget eq l x z) = _
    rw [h1]
    exact mget_first (l := l) (i := i) (by simpa using h) fun j hlt q hq => hj (j + 1) (by omega) q (by simpa using hq)
end
end Go.Proofs.YtiaagflfiphioaaDoorS
