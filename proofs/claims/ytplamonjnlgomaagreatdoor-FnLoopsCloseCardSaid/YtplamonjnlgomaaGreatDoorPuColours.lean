/- Worlds: how many cells have each colour, and the sum of all colours. -/
import Derived.Test.YtplamonjnlgomaaGreatDoorPuStep
namespace Go.Proofs.YtplamonjnlgomaaGreatDoorS
open Go
set_option linter.unusedVariables false
set_option linter.unusedSimpArgs false

def wsum : Int → List Int → Int
  | _, [] => 0
  | a, x :: l => a * x + wsum (a + 1) l
def dsum (l : List UInt8) : Int := (l.map fun c => (c.toNat : Int) - 48).sum
theorem sum_set : ∀ (l : List Int) (i : Nat) (x v : Int), l[i]? = some x → (l.set i v).sum = l.sum - x + v
  | [], i, x, v, h => by simp at h
  | y :: l, 0, x, v, h => by
    obtain rfl : y = x := by simpa using h
    simp only [List.set_cons_zero, List.sum_cons]
    omega
  | y :: l, i + 1, x, v, h => by
    have := sum_set l i x v (by simpa using h)
    simp only [List.set_cons_succ, List.sum_cons]
    omega
theorem wsum_set : ∀ (l : List Int) (a : Int) (i : Nat) (x v : Int), l[i]? = some x → wsum a (l.set i v) = wsum a l + (a + (i : Int)) * (v - x)
  | [], a, i, x, v, h => by simp at h
  | y :: l, a, 0, x, v, h => by
    obtain rfl : y = x := by simpa using h
    simp only [List.set_cons_zero, wsum]
    rw [show a + ((0 : Nat) : Int) = a by omega, Int.mul_sub]
    omega
  | y :: l, a, i + 1, x, v, h => by
    have := wsum_set l (a + 1) i x v (by simpa using h)
    simp only [List.set_cons_succ, wsum]
    rw [this, show a + ((i + 1 : Nat) : Int) = a + 1 + (i : Int) by omega]
    omega
theorem wsum_zero : ∀ (n : Nat) (a : Int), wsum a (List.replicate n 0) = 0
  | 0, _ => rfl
  | n + 1, a => by
    rw [List.replicate_succ]
    show a * 0 + wsum (a + 1) (List.replicate n 0) = 0
    rw [wsum_zero n, Int.mul_zero]
    rfl
theorem sum_zero : ∀ n : Nat, (List.replicate n (0 : Int)).sum = 0
  | 0 => rfl
  | n + 1 => by rw [List.replicate_succ, List.sum_cons, sum_zero n]; rfl
theorem dsum_set (l : List UInt8) (i : Nat) (x v : UInt8) (h : l[i]? = some x) : dsum (l.set i v) = dsum l - ((x.toNat : Int) - 48) + ((v.toNat : Int) - 48) := by
  unfold dsum
  rw [List.map_set]
  exact sum_set _ i _ _ (by rw [List.getElem?_map, h]; rfl)
/-- The sum behind a step. -/
theorem dsum_step : ∀ W : Wo, OkO W → dsum (stepO W).2.2.2.1.data.toList % (W.1.size : Int) = (dsum W.2.2.2.1.data.toList % (W.1.size : Int) + 1) % (W.1.size : Int)
  | (rl, w, h, cs, x, y, wy), H => by
    obtain ⟨hR, hw, hh, hs, hcs, hx, hy, hwy⟩ : WorldOk rl w h cs x y wy := H
    have hr6 := hR.1
    obtain ⟨c, hc, eqc, c48, cti⟩ := cell_ex hw hh hs hcs hx hy
    have hp := mod_range (colB w cs x y + 1) (k := (rl.size : Int)) (by omega)
    show dsum (putB w cs x y ((colB w cs x y + 1) % (rl.size : Int))).data.toList % (rl.size : Int) = (dsum cs.data.toList % (rl.size : Int) + 1) % (rl.size : Int)
    unfold putB setByte
    rw [List.toList_toArray, dsum_set _ _ c _ hc, toNat_ofNat8 (by omega)]
    rw [show dsum cs.data.toList - ((c.toNat : Int) - 48) + (((48 + (colB w cs x y + 1) % (rl.size : Int)).toNat : Int) - 48) = dsum cs.data.toList - colB w cs x y + (colB w cs x y + 1) % (rl.size : Int) by omega]
    rw [Int.add_emod, Int.emod_emod, ← Int.add_emod, show dsum cs.data.toList - colB w cs x y + (colB w cs x y + 1) = dsum cs.data.toList + 1 by omega, Int.emod_add_emod]
end Go.Proofs.YtplamonjnlgomaaGreatDoorS
