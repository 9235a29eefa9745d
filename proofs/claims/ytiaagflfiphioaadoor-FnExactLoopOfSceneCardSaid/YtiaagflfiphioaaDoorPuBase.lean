/- Plain facts of functions that many laws reach. -/
import Derived.Test.YtiaagflfiphioaaDoorPuKit
import Derived.Test.YtiaagflfiphioaaDoorEq0
import Derived.Lib.Bytealg
namespace Go.Proofs.YtiaagflfiphioaaDoorS
open Go
set_option linter.unusedVariables false
set_option linter.unusedSimpArgs false
theorem u8_eq {c : UInt8} {n : Nat} (hn : n < 256) : (((c.toNat : Int)) == (n : Int)) = true ↔ c = UInt8.ofNat n := by
  rw [beq_iff_eq]
  constructor
  · intro h
    apply UInt8.toNat_inj.1
    rw [toNat_ofNat8 hn]
    omega
  · intro h
    rw [h, toNat_ofNat8 hn]
theorem size_one {t : ByteArray} : t.size = 1 ↔ ∃ c, t.data.toList = [c] := by rw [size_list, List.length_eq_one_iff]
theorem mul_range {a b : Int} (h1 : 1 ≤ a) (h2 : a ≤ 9) (h3 : 1 ≤ b) (h4 : b ≤ 9) : 1 ≤ a * b ∧ a * b ≤ 81 := by
  have p := Int.mul_le_mul h2 h4 (by omega) (by omega)
  have q := Int.mul_pos (a := a) (b := b) (by omega) (by omega)
  omega
def CellsOk (ti : Int) (cs : ByteArray) : Prop := ∀ c ∈ cs.data.toList, 48 ≤ c.toNat ∧ (c.toNat : Int) ≤ 47 + ti
theorem byte_at {cs : ByteArray} {i : Nat} (h : i < cs.size) : ∃ c, cs.data.toList[i]? = some c := nat_list (by rw [← size_list]; exact h)
theorem num_of (c : UInt8) : w64 (w64 (c.toNat : Int) - 48) = (c.toNat : Int) - 48 := by
  have := c.toNat_lt
  rw [w64_of (n := (c.toNat : Int)) (by omega) (by omega), w64_of (by omega) (by omega)]
theorem at_range {x y w h : Int} (hx : 0 ≤ x ∧ x ≤ w - 1) (hy : 0 ≤ y ∧ y ≤ h - 1) (hw : 1 ≤ w ∧ w ≤ 9) (hh : 1 ≤ h ∧ h ≤ 9) : 0 ≤ y * w ∧ y * w ≤ 81 ∧ 0 ≤ y * w + x ∧ y * w + x < w * h := by
  have h1 := Int.mul_le_mul_of_nonneg_right (a := y) (b := h - 1) (c := w) hy.2 (by omega)
  rw [Int.sub_mul, Int.one_mul, Int.mul_comm h w] at h1
  have h2 := Int.mul_nonneg hy.1 (show (0 : Int) ≤ w by omega)
  have h3 := mul_range (a := w) (b := h) (by omega) (by omega) (by omega) (by omega)
  omega
def dxW (wy : Int) : Int := if wy = 1 then 1 else if wy = 3 then -1 else 0
def dyW (wy : Int) : Int := if wy = 0 then -1 else if wy = 2 then 1 else 0
theorem dW_range (wy : Int) : (-1 ≤ dxW wy ∧ dxW wy ≤ 1) ∧ (-1 ≤ dyW wy ∧ dyW wy ≤ 1) := by
  unfold dxW dyW
  constructor
  · split
    · omega
    · split <;> omega
  · split
    · omega
    · split <;> omega
theorem go1_zero {n m : Int} (h : 0 ≤ n ∧ n ≤ m - 1) : go1 n m 0 = n := by
  unfold go1
  rw [if_neg (by omega), if_neg (by omega)]
  omega
def quartersB (z : Int) : Int := if z = 76 then 3 else if z = 82 then 1 else if z = 85 then 2 else 0
theorem quartersB_range (z : Int) : 0 ≤ quartersB z ∧ quartersB z ≤ 3 := by
  unfold quartersB
  split
  · omega
  · split
    · omega
    · split <;> omega
theorem cells_set {ti : Int} {cs : ByteArray} (h : CellsOk ti cs) (i : Nat) {p : Int} (hp : 0 ≤ p ∧ p ≤ ti - 1) (hti : ti ≤ 9) : CellsOk ti (setByte cs i (UInt8.ofNat (48 + p).toNat)) := by
  intro c hc
  rcases List.mem_or_eq_of_mem_set hc with hc | rfl
  · exact h c hc
  · rw [toNat_ofNat8 (by omega)]
    omega
theorem within_ev (n lo hi : Int) : EvB (fun k => impl_within k (n, lo, hi)) (lo ≤ n ∧ n ≤ hi) :=
  EvB.step (fun k => impl_within.eq k n lo hi) (EvB.ifT decide_eq_true_iff fun _ => EvB.val decide_eq_true_iff)
theorem l1In_ev (n lo hi : Int) : EvB (fun k => spec_l1In k (n, lo, hi)) (lo ≤ n ∧ n ≤ hi) :=
  EvB.step (fun k => spec_l1In.eq k n lo hi) (EvB.ifT decide_eq_true_iff fun _ => EvB.val decide_eq_true_iff)
theorem areCells_ev (ti : Int) (hti : 1 ≤ ti ∧ ti ≤ 9) (cs : ByteArray) (hc : cs.size ≤ 9223372036854775807) (many : Int) : EvB (fun k => impl_areCells k (cs, many, ti)) (CellsOk ti cs ∧ (cs.size : Int) = many) := by
  have e1 : w64 (ti - 1) = ti - 1 := w64_of (by omega) (by omega)
  have step : ∀ (i : Nat) (c : UInt8), cs.data.toList[i]? = some c → ∀ r, Ev (fun k => (impl_within k ((c.toNat : Int) - 48, 0, ti - 1)).bind fun r1 => cond (!r1) (some (.inl false)) (impl_areCells_l k (cs, many, ti, (cs.size : Int), w64 ((i : Int) + 1)))) r → Ev (fun k => impl_areCells_l k (cs, many, ti, (cs.size : Int), (i : Int))) r := fun i c hx r H => by
    have hi : i < cs.size := by rw [size_list]; exact (List.getElem?_eq_some_iff.1 hx).1
    exact Ev.step (fun k => impl_areCells_l.eq k cs many ti (cs.size : Int) (i : Int)) (Ev.yes (lt_nat hi) (Ev.yes (inB_nat hi) (by rw [Int.toNat_natCast, bt_at hx, num_of, e1]; exact H)))
  have srch := Ev.search (L := fun k i => impl_areCells_l k (cs, many, ti, (cs.size : Int), i)) (n := cs.size) (fun i => ∃ c, cs.data.toList[i]? = some c ∧ ¬ (48 ≤ c.toNat ∧ (c.toNat : Int) ≤ 47 + ti)) (fun i => .inl false) (.inr (cs, many))
    (fun i hi hp r H => by
      obtain ⟨c, hx⟩ := byte_at hi
      have hr : 48 ≤ c.toNat ∧ (c.toNat : Int) ≤ 47 + ti := Classical.byContradiction fun hn => hp ⟨c, hx, hn⟩
      exact step i c hx r (Ev.bind ((within_ev _ _ _).isT (by omega)) (Ev.no rfl (by rw [w64_succ (by omega)]; exact H))))
    (fun i hi hp => by
      obtain ⟨c, hx, hn⟩ := hp
      exact step i c hx _ (Ev.bind ((within_ev _ _ _).isF (by omega)) (Ev.yes rfl (Ev.now _))))
    (Ev.step (fun k => impl_areCells_l.eq k cs many ti (cs.size : Int) (cs.size : Int)) (Ev.no (not_lt_nat (Nat.lt_irrefl _)) (Ev.now _))) cs.size 0 (by omega)
  refine EvB.step (fun k => impl_areCells.eq k cs many ti) ?_
  rcases srch with ⟨h1, h2⟩ | ⟨j, _, hj, ⟨x, hx, hn⟩, _, h2⟩
  · refine ⟨_, Ev.bind h2 (Ev.now _), ?_⟩
    rw [beq_iff_eq]
    refine ⟨fun h => ⟨fun c hm => ?_, h⟩, fun h => h.2⟩
    obtain ⟨i, hi⟩ := List.mem_iff_getElem?.1 hm
    exact Classical.byContradiction fun hn => h1 i (Nat.zero_le _) (by rw [size_list]; exact (List.getElem?_eq_some_iff.1 hi).1) ⟨c, hi, hn⟩
  · exact ⟨false, Ev.bind h2 (Ev.now _), ⟨nofun, fun h => absurd (h.1 x (List.mem_of_getElem? hx)) hn⟩⟩
theorem ahead_ev (wy : Int) (hwy : 0 ≤ wy ∧ wy ≤ 3) : Ev (fun k => impl_ahead k wy) (dxW wy, dyW wy) := by
  have : wy = 0 ∨ wy = 1 ∨ wy = 2 ∨ wy = 3 := by omega
  rcases this with rfl | rfl | rfl | rfl <;> exact Ev.step (fun k => impl_ahead.eq k _) (Ev.yes rfl (Ev.yes rfl (Ev.now' rfl)))
theorem gone_ev (rl : ByteArray) (w h : Int) (cs : ByteArray) (x y wy b : Int) (hw : 1 ≤ w ∧ w ≤ 9) (hh : 1 ≤ h ∧ h ≤ 9) (hx : 0 ≤ x ∧ x ≤ w - 1) (hy : 0 ≤ y ∧ y ≤ h - 1) (hwy : 0 ≤ wy ∧ wy ≤ 3) (hb : b = 1 ∨ b = -1) :
    Ev (fun k => impl_World_gone k ((rl, w, h, cs, x, y, wy), b)) (rl, w, h, cs, go1 x w (b * dxW wy), go1 y h (b * dyW wy), wy) := by
  obtain ⟨⟨d1, d2⟩, d3, d4⟩ := dW_range wy
  have hbx : -1 ≤ b * dxW wy ∧ b * dxW wy ≤ 1 := by rcases hb with rfl | rfl <;> omega
  have hby : -1 ≤ b * dyW wy ∧ b * dyW wy ≤ 1 := by rcases hb with rfl | rfl <;> omega
  refine Ev.step (fun k => impl_World_gone.eq k rl w h cs x y wy b) (Ev.bind (ahead_ev wy hwy) (Ev.yes (by rw [bne_iff_ne]; omega) (Ev.yes (by rw [bne_iff_ne]; omega) (Ev.now' ?_))))
  simp only
  rw [w64_of (n := b * dxW wy) (by omega) (by omega), w64_of (n := b * dyW wy) (by omega) (by omega), w64_of (n := x + b * dxW wy) (by omega) (by omega), w64_of (n := y + b * dyW wy) (by omega) (by omega),
    w64_of (n := x + b * dxW wy + w) (by omega) (by omega), w64_of (n := y + b * dyW wy + h) (by omega) (by omega), go1_a hx.1 (by omega) hbx.1 hbx.2, go1_a hy.1 (by omega) hby.1 hby.2]
theorem l1Mod_ev (n m d : Int) (h : 0 ≤ n ∧ n ≤ m - 1) (hm : 1 ≤ m ∧ m ≤ 9) (h1 : -1 ≤ d ∧ d ≤ 1) : Ev (fun k => spec_l1Mod k (n + d, m)) (go1 n m d) := by
  refine Ev.step (fun k => spec_l1Mod.eq k (n + d) m) (Ev.yes (by rw [bne_iff_ne]; omega) (Ev.yes (by rw [bne_iff_ne]; omega) (Ev.now' ?_)))
  rw [← go1_b h.1 (by omega) h1.1 h1.2]
  have a1 : (n + d).tmod m ≤ 9 ∧ -9 ≤ (n + d).tmod m := by
    have e1 := Int.tmod_lt_of_pos (n + d) (show (0 : Int) < m by omega)
    by_cases hd : 0 ≤ n + d
    · have e2 := Int.tmod_nonneg m hd
      omega
    · have e3 : n + d = -1 := by omega
      have e4 := Int.tmod_lt_of_pos 1 (show (0 : Int) < m by omega)
      have e5 := Int.tmod_nonneg m (show (0 : Int) ≤ 1 by omega)
      rw [e3, Int.neg_tmod] at e1 ⊢
      omega
  rw [w64_of (by omega) (by omega)]
theorem quarters_ev (z : Int) : Ev (fun k => impl_quarters k z) (quartersB z) := by
  refine Ev.step (fun k => impl_quarters.eq k z) (Ev.cond (fun h1 => Ev.now' ?_) fun h1 => Ev.cond (fun h2 => Ev.now' ?_) fun h2 => Ev.cond (fun h3 => Ev.now' ?_) fun h3 => Ev.now' ?_) <;>
    simp only [beq_iff_eq, beq_eq_false_iff_ne, ne_eq] at * <;> simp [quartersB, *]
theorem woTurn_ev (z : Int) : Ev (fun k => spec_woTurn k z) (quartersB z) := by
  refine Ev.step (fun k => spec_woTurn.eq k z) (Ev.cond (fun h1 => Ev.now' ?_) fun h1 => Ev.cond (fun h2 => Ev.now' ?_) fun h2 => Ev.cond (fun h3 => Ev.now' ?_) fun h3 => Ev.now' ?_) <;>
    simp only [beq_iff_eq, beq_eq_false_iff_ne, ne_eq] at * <;> simp [quartersB, *]
theorem l1Num_ev (n : Int) (h : 0 ≤ n ∧ n ≤ 9) : Ev (fun k => spec_l1Num k n) (ofBytes [48 + n]) :=
  Ev.step (fun k => spec_l1Num.eq k n) (Ev.yes (decide_eq_true (by omega)) (Ev.now' (by rw [w64_of (by omega) (by omega), w8_of (by omega) (by omega)])))
theorem painted_ev (cs : ByteArray) (i p : Int) (hi : 0 ≤ i ∧ i < cs.size) (hp : 0 ≤ p ∧ p ≤ 9) : Ev (fun k => impl_painted k (cs, i, p)) (setByte cs i.toNat (UInt8.ofNat (48 + p).toNat)) := by
  refine Ev.step (fun k => impl_painted.eq k cs i p) (Ev.yes (inB_of hi.1 (by unfold bytesOf; rw [List.length_map, ← size_list]; exact hi.2)) (Ev.now' ?_))
  rw [setByte_a, w64_of (by omega) (by omega), w8_of (by omega) (by omega)]
theorem colour_ev (rl : ByteArray) (w h : Int) (cs : ByteArray) (x y wy : Int) (hw : 1 ≤ w ∧ w ≤ 9) (hh : 1 ≤ h ∧ h ≤ 9) (hx : 0 ≤ x ∧ x ≤ w - 1) (hy : 0 ≤ y ∧ y ≤ h - 1) (hs : (cs.size : Int) = w * h) {c : UInt8} (hc : cs.data.toList[(y * w + x).toNat]? = some c) (h48 : 48 ≤ c.toNat) :
    Ev (fun k => impl_World_colour k (rl, w, h, cs, x, y, wy)) ((c.toNat : Int) - 48) := by
  obtain ⟨a1, a2, a3, a4⟩ := at_range hx hy hw hh
  have hlt := c.toNat_lt
  have e0 : w64 (w64 (y * w) + x) = y * w + x := by rw [w64_of (n := y * w) (by omega) (by omega), w64_of (by omega) (by omega)]
  refine Ev.step (fun k => impl_World_colour.eq k rl w h cs x y wy) (Ev.bind (Ev.step (fun k => impl_World_at.eq k rl w h cs x y wy) (Ev.now' e0)) (Ev.yes (inB_of a3 (by omega)) (Ev.now' ?_)))
  rw [bt_at hc, w8_of (by omega) (by omega), w64_of (by omega) (by omega)]
theorem isAnt_ev (w h x y wy : Int) (hw : 1 ≤ w ∧ w ≤ 9) (hh : 1 ≤ h ∧ h ≤ 9) : EvB (fun k => impl_isAnt k (w, h, x, y, wy)) ((0 ≤ x ∧ x ≤ w - 1) ∧ ((0 ≤ y ∧ y ≤ h - 1) ∧ (0 ≤ wy ∧ wy ≤ 3))) := by
  refine EvB.step (fun k => impl_isAnt.eq k w h x y wy) ?_
  rw [w64_of (n := w - 1) (by omega) (by omega), w64_of (n := h - 1) (by omega) (by omega)]
  exact EvB.and (within_ev x 0 (w - 1)) fun _ => EvB.and (within_ev y 0 (h - 1)) fun _ => (EvB.step (fun k => impl_isWay.eq k wy) (within_ev wy 0 3).ret).ret
/-! ### Rows of numbers and of texts -/
end Go.Proofs.YtiaagflfiphioaaDoorS
