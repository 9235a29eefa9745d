/- Plain facts of functions that many laws reach. -/
import Derived.Test.YtiaagflfiphioaaDoorPuKit
import Derived.Test.YtiaagflfiphioaaDoorEq0
import Derived.Test.YtiaagflfiphioaaDoorEq1
import Derived.Lib.Bytealg
namespace Go.Proofs.YtiaagflfiphioaaDoorS
open Go
set_option linter.unusedVariables false
set_option linter.unusedSimpArgs false
theorem u8_eq {c : UInt8} {n : Nat} (hn : n < 256) : (((c.toNat : Int)) == (n : Int)) = true ↔ c = UInt8.ofNat n := by
  rw [beq_iff_eq]
  constructor
  · intro h
    apply UInt8.toNat_inj.1
    rw [toNat_ofNat8 hn]
    omega
  · intro h
    rw [h, toNat_ofNat8 hn]
theorem size_one {t : ByteArray} : t.size = 1 ↔ ∃ c, t.data.toList = [c] := by rw [size_list, List.length_eq_one_iff]
theorem mul_range {a b : Int} (h1 : 1 ≤ a) (h2 : a ≤ 9) (h3 : 1 ≤ b) (h4 : b ≤ 9) : 1 ≤ a * b ∧ a * b ≤ 81 := by
  have p := Int.mul_le_mul h2 h4 (by omega) (by omega)
  have q := Int.mul_pos (a := a) (b := b) (by omega) (by omega)
  omega
def CellsOk (ti : Int) (cs : ByteArray) : Prop := ∀ c ∈ cs.data.toList, 48 ≤ c.toNat ∧ (c.toNat : Int) ≤ 47 + ti
theorem byte_at {cs : ByteArray} {i : Nat} (h : i < cs.size) : ∃ c, cs.data.toList[i]? = some c := nat_list (by rw [← size_list]; exact h)
theorem num_of (c : UInt8) : w64 (w64 (c.toNat : Int) - 48) = (c.toNat : Int) - 48 := by
  have := c.toNat_lt
  rw [w64_of (n := (c.toNat : Int)) (by omega) (by omega), w64_of (by omega) (by omega)]
theorem at_range {x y w h : Int} (hx : 0 ≤ x ∧ x ≤ w - 1) (hy : 0 ≤ y ∧ y ≤ h - 1) (hw : 1 ≤ w ∧ w ≤ 9) (hh : 1 ≤ h ∧ h ≤ 9) : 0 ≤ y * w ∧ y * w ≤ 81 ∧ 0 ≤ y * w + x ∧ y * w + x < w * h := by
  have h1 := Int.mul_le_mul_of_nonneg_right (a := y) (b := h - 1) (c := w) hy.2 (by omega)
  rw [Int.sub_mul, Int.one_mul, Int.mul_comm h w] at h1
  have h2 := Int.mul_nonneg hy.1 (show (0 : Int) ≤ w by omega)
  have h3 := mul_range (a := w) (b := h) (by omega) (by omega) (by omega) (by omega)
  omega
def dxW (wy : Int) : Int := if wy = 1 then 1 else if wy = 3 then -1 else 0
def dyW (wy : Int) : Int := if wy = 0 then -1 else if wy = 2 then 1 else 0
theorem dW_range (wy : Int) : (-1 ≤ dxW wy ∧ dxW wy ≤ 1) ∧ (-1 ≤ dyW wy ∧ dyW wy ≤ 1) := by
  unfold dxW dyW
  constructor
  · split
    · omega
    · split <;> omega
  · split
    · omega
    · split <;> omega
theorem go1_zero {n m : Int} (h : 0 ≤ n ∧ n ≤ m - 1) : go1 n m 0 = n := by
  unfold go1
  rw [if_neg (by omega), if_neg (by omega)]
  omega
def quartersB (z : Int) : Int := if z = 76 then 3 else if z = 82 then 1 else if z = 85 then 2 else 0
theorem quartersB_range (z : Int) : 0 ≤ quartersB z ∧ quartersB z ≤ 3 := by
  unfold quartersB
  split
  · omega
  · split
    · omega
    · split <;> omega
theorem cells_set {ti : Int} {cs : ByteArray} (h : CellsOk ti cs) (i : Nat) {p : Int} (hp : 0 ≤ p ∧ p ≤ ti - 1) (hti : ti ≤ 9) : CellsOk ti (setByte cs i (UInt8.ofNat (48 + p).toNat)) := by
  intro c hc
  rcases List.mem_or_eq_of_mem_set hc with hc | rfl
  · exact h c hc
  · rw [toNat_ofNat8 (by omega)]
    omega
theorem within_ev (n lo hi : Int) : EvB (fun k => impl_within k (n, lo, hi)) (lo ≤ n ∧ n ≤ hi) :=
  EvB.step (fun k => impl_within.eq k n lo hi) (EvB.ifT decide_eq_true_iff fun _ => EvB.val decide_eq_true_iff)
theorem l1In_ev (n lo hi : Int) : EvB (fun k => spec_l1In k (n, lo, hi)) (lo ≤ n ∧ n ≤ hi) :=
  EvB.step (fun k => spec_l1In.eq k n lo hi) (EvB.ifT decide_eq_true_iff fun _ => EvB.val decide_eq_true_iff)
/-! ### Rows of numbers and of texts -/
end Go.Proofs.YtiaagflfiphioaaDoorS
