/- Plain facts of functions that many laws reach. -/
import Derived.Test.YtcmebphcoamohaaGreatDoorPuKit
import Derived.Test.YtcmebphcoamohaaGreatDoorEq0
import Derived.Test.YtcmebphcoamohaaGreatDoorEq1
import Derived.Test.YtcmebphcoamohaaGreatDoorEq2
import Derived.Lib.Bytealg
namespace Go.Proofs.YtcmebphcoamohaaGreatDoorS
open Go
set_option linter.unusedVariables false
set_option linter.unusedSimpArgs false
theorem u8_eq {c : UInt8} {n : Nat} (hn : n < 256) : (((c.toNat : Int)) == (n : Int)) = true ↔ c = UInt8.ofNat n := by
  rw [beq_iff_eq]
  constructor
  · intro h
    apply UInt8.toNat_inj.1
    rw [toNat_ofNat8 hn]
    omega
  · intro h
    rw [h, toNat_ofNat8 hn]
theorem size_one {t : ByteArray} : t.size = 1 ↔ ∃ c, t.data.toList = [c] := by rw [size_list, List.length_eq_one_iff]
theorem mul_range {a b : Int} (h1 : 1 ≤ a) (h2 : a ≤ 9) (h3 : 1 ≤ b) (h4 : b ≤ 9) : 1 ≤ a * b ∧ a * b ≤ 81 := by
  have p := Int.mul_le_mul h2 h4 (by omega) (by omega)
  have q := Int.mul_pos (a := a) (b := b) (by omega) (by omega)
  omega
def CellsOk (ti : Int) (cs : ByteArray) : Prop := ∀ c ∈ cs.data.toList, 48 ≤ c.toNat ∧ (c.toNat : Int) ≤ 47 + ti
theorem byte_at {cs : ByteArray} {i : Nat} (h : i < cs.size) : ∃ c, cs.data.toList[i]? = some c := nat_list (by rw [← size_list]; exact h)
theorem num_of (c : UInt8) : w64 (w64 (c.toNat : Int) - 48) = (c.toNat : Int) - 48 := by
  have := c.toNat_lt
  rw [w64_of (n := (c.toNat : Int)) (by omega) (by omega), w64_of (by omega) (by omega)]
theorem at_range {x y w h : Int} (hx : 0 ≤ x ∧ x ≤ w - 1) (hy : 0 ≤ y ∧ y ≤ h - 1) (hw : 1 ≤ w ∧ w ≤ 9) (hh : 1 ≤ h ∧ h ≤ 9) : 0 ≤ y * w ∧ y * w ≤ 81 ∧ 0 ≤ y * w + x ∧ y * w + x < w * h := by
  have h1 := Int.mul_le_mul_of_nonneg_right (a := y) (b := h - 1) (c := w) hy.2 (by omega)
  rw [Int.sub_mul, Int.one_mul, Int.mul_comm h w] at h1
  have h2 := Int.mul_nonneg hy.1 (show (0 : Int) ≤ w by omega)
  have h3 := mul_range (a := w) (b := h) (by omega) (by omega) (by omega) (by omega)
  omega
def dxW (wy : Int) : Int := if wy = 1 then 1 else if wy = 3 then -1 else 0
def dyW (wy : Int) : Int := if wy = 0 then -1 else if wy = 2 then 1 else 0
theorem dW_range (wy : Int) : (-1 ≤ dxW wy ∧ dxW wy ≤ 1) ∧ (-1 ≤ dyW wy ∧ dyW wy ≤ 1) := by
  unfold dxW dyW
  constructor
  · split
    · omega
    · split <;> omega
  · split
    · omega
    · split <;> omega
theorem go1_zero {n m : Int} (h : 0 ≤ n ∧ n ≤ m - 1) : go1 n m 0 = n := by
  unfold go1
  rw [if_neg (by omega), if_neg (by omega)]
  omega
def quartersB (z : Int) : Int := if z = 76 then 3 else if z = 82 then 1 else if z = 85 then 2 else 0
theorem quartersB_range (z : Int) : 0 ≤ quartersB z ∧ quartersB z ≤ 3 := by
  unfold quartersB
  split
  · omega
  · split
    · omega
    · split <;> omega
theorem cells_set {ti : Int} {cs : ByteArray} (h : CellsOk ti cs) (i : Nat) {p : Int} (hp : 0 ≤ p ∧ p ≤ ti - 1) (hti : ti ≤ 9) : CellsOk ti (setByte cs i (UInt8.ofNat (48 + p).toNat)) := by
  intro c hc
  rcases List.mem_or_eq_of_mem_set hc with hc | rfl
  · exact h c hc
  · rw [toNat_ofNat8 (by omega)]
    omega
theorem within_ev (n lo hi : Int) : EvB (fun k => impl_within k (n, lo, hi)) (lo ≤ n ∧ n ≤ hi) :=
  EvB.step (fun k => impl_within.eq k n lo hi) (EvB.ifT decide_eq_true_iff fun _ => EvB.val decide_eq_true_iff)
theorem l1In_ev (n lo hi : Int) : EvB (fun k => spec_l1In k (n, lo, hi)) (lo ≤ n ∧ n ≤ hi) :=
  EvB.step (fun k => spec_l1In.eq k n lo hi) (EvB.ifT decide_eq_true_iff fun _ => EvB.val decide_eq_true_iff)
theorem areCells_ev (ti : Int) (hti : 1 ≤ ti ∧ ti ≤ 9) (cs : ByteArray) (hc : cs.size ≤ 9223372036854775807) (many : Int) : EvB (fun k => impl_areCells k (cs, many, ti)) (CellsOk ti cs ∧ (cs.size : Int) = many) := by
  have e1 : w64 (ti - 1) = ti - 1 := w64_of (by omega) (by omega)
  have step : ∀ (i : Nat) (c : UInt8), cs.data.toList[i]? = some c → ∀ r, Ev (fun k => (impl_within k ((c.toNat : Int) - 48, 0, ti - 1)).bind fun r1 => cond (!r1) (some (.inl false)) (impl_areCells_l k (cs, many, ti, (cs.size : Int), w64 ((i : Int) + 1)))) r → Ev (fun k => impl_areCells_l k (cs, many, ti, (cs.size : Int), (i : Int))) r := fun i c hx r H => by
    have hi : i < cs.size := by rw [size_list]; exact (List.getElem?_eq_some_iff.1 hx).1
    exact Ev.step (fun k => impl_areCells_l.eq k cs many ti (cs.size : Int) (i : Int)) (Ev.yes (lt_nat hi) (Ev.yes (inB_nat hi) (by rw [Int.toNat_natCast, bt_at hx, num_of, e1]; exact H)))
  have srch := Ev.search (L := fun k i => impl_areCells_l k (cs, many, ti, (cs.size : Int), i)) (n := cs.size) (fun i => ∃ c, cs.data.toList[i]? = some c ∧ ¬ (48 ≤ c.toNat ∧ (c.toNat : Int) ≤ 47 + ti)) (fun i => .inl false) (.inr (cs, many))
    (fun i hi hp r H => by
      obtain ⟨c, hx⟩ := byte_at hi
      have hr : 48 ≤ c.toNat ∧ (c.toNat : Int) ≤ 47 + ti := Classical.byContradiction fun hn => hp ⟨c, hx, hn⟩
      exact step i c hx r (Ev.bind ((within_ev _ _ _).isT (by omega)) (Ev.no rfl (by rw [w64_succ (by omega)]; exact H))))
    (fun i hi hp => by
      obtain ⟨c, hx, hn⟩ := hp
      exact step i c hx _ (Ev.bind ((within_ev _ _ _).isF (by omega)) (Ev.yes rfl (Ev.now _))))
    (Ev.step (fun k => impl_areCells_l.eq k cs many ti (cs.size : Int) (cs.size : Int)) (Ev.no (not_lt_nat (Nat.lt_irrefl _)) (Ev.now _))) cs.size 0 (by omega)
  refine EvB.step (fun k => impl_areCells.eq k cs many ti) ?_
  rcases srch with ⟨h1, h2⟩ | ⟨j, _, hj, ⟨x, hx, hn⟩, _, h2⟩
  · refine ⟨_, Ev.bind h2 (Ev.now _), ?_⟩
    rw [beq_iff_eq]
    refine ⟨fun h => ⟨fun c hm => ?_, h⟩, fun h => h.2⟩
    obtain ⟨i, hi⟩ := List.mem_iff_getElem?.1 hm
    exact Classical.byContradiction fun hn => h1 i (Nat.zero_le _) (by rw [size_list]; exact (List.getElem?_eq_some_iff.1 hi).1) ⟨c, hi, hn⟩
  · exact ⟨false, Ev.bind h2 (Ev.now _), ⟨nofun, fun h => absurd (h.1 x (List.mem_of_getElem? hx)) hn⟩⟩
theorem l1Num_ev (n : Int) (h : 0 ≤ n ∧ n ≤ 9) : Ev (fun k => spec_l1Num k n) (ofBytes [48 + n]) :=
  Ev.step (fun k => spec_l1Num.eq k n) (Ev.yes (decide_eq_true (by omega)) (Ev.now' (by rw [w64_of (by omega) (by omega), w8_of (by omega) (by omega)])))
theorem isAnt_ev (w h x y wy : Int) (hw : 1 ≤ w ∧ w ≤ 9) (hh : 1 ≤ h ∧ h ≤ 9) : EvB (fun k => impl_isAnt k (w, h, x, y, wy)) ((0 ≤ x ∧ x ≤ w - 1) ∧ ((0 ≤ y ∧ y ≤ h - 1) ∧ (0 ≤ wy ∧ wy ≤ 3))) := by
  refine EvB.step (fun k => impl_isAnt.eq k w h x y wy) ?_
  rw [w64_of (n := w - 1) (by omega) (by omega), w64_of (n := h - 1) (by omega) (by omega)]
  exact EvB.and (within_ev x 0 (w - 1)) fun _ => EvB.and (within_ev y 0 (h - 1)) fun _ => (EvB.step (fun k => impl_isWay.eq k wy) (within_ev wy 0 3).ret).ret
/-! ### Rows of numbers and of texts -/
end Go.Proofs.YtcmebphcoamohaaGreatDoorS
