/- strings.FieldsFunc at a comma; joins cut up again. -/
import Derived.Test.YtplamonjnlgomaaGreatDoorPuParse
import Derived.Lib.RuneCount
import Derived.Laws.RangeString
namespace Go.Proofs.YtplamonjnlgomaaGreatDoorS
open Go
set_option linter.unusedVariables false
set_option linter.unusedSimpArgs false
/-! ### Joins cut up again -/
theorem splitL_free (c : UInt8) : ∀ x : List UInt8, c ∉ x → splitL c x = [x]
  | [], _ => by simp [splitL]
  | b :: x, h => by
    have hb : b ≠ c := fun e => h (by rw [e]; exact List.mem_cons_self)
    rw [splitL, if_neg hb, splitL_free c x fun hx => h (List.mem_cons_of_mem _ hx)]
theorem splitL_cut (c : UInt8) (r : List UInt8) : ∀ x : List UInt8, c ∉ x → splitL c (x ++ c :: r) = x :: splitL c r
  | [], _ => by simp [splitL]
  | b :: x, h => by
    have hb : b ≠ c := fun e => h (by rw [e]; exact List.mem_cons_self)
    rw [List.cons_append, splitL, if_neg hb, splitL_cut c r x fun hx => h (List.mem_cons_of_mem _ hx)]
theorem splitL_joined (c : UInt8) : ∀ (T : List (List UInt8)), T ≠ [] → (∀ x ∈ T, c ∉ x) → splitL c (Lib.join T [c]) = T
  | [], h, _ => absurd rfl h
  | [x], _, h => by rw [Lib.join_one]; exact splitL_free c x (h x (by simp))
  | x :: y :: r, _, h => by
    have ih := splitL_joined c (y :: r) (by simp) fun z hz => h z (List.mem_cons_of_mem _ hz)
    rw [Lib.join_cons] at ih
    rw [Lib.join_cons]
    have e : x ++ Lib.joinTail [c] (y :: r) = x ++ c :: (y ++ Lib.joinTail [c] r) := by simp [Lib.joinTail]
    rw [e, splitL_cut c _ x (h x (by simp)), ih]
theorem splitS_joined (c : UInt8) (T : List ByteArray) (hT : T ≠ []) (h : ∀ x ∈ T, c ∉ x.data.toList) : splitS c (joinB T (bs [c])) = T := by
  unfold splitS
  have e : (joinB T (bs [c])).data.toList = Lib.join (T.map (·.data.toList)) [c] := rfl
  rw [e, splitL_joined c _ (by simpa using hT) (by intro x hx; obtain ⟨y, hy, rfl⟩ := List.mem_map.1 hx; exact h y hy), List.map_map]
  conv => rhs; rw [← List.map_id T]
  rfl
theorem dec_free (n : Nat) (c : UInt8) (h : ¬ (48 ≤ c.toNat ∧ c.toNat ≤ 57)) : c ∉ (decS n).data.toList := fun hc => h ((dec_canon n).1 c hc)
-- @end
end Go.Proofs.YtplamonjnlgomaaGreatDoorS
