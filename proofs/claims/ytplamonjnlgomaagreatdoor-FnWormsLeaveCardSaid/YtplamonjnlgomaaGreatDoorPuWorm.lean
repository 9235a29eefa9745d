/- Worms: what is one, a bite, a life. -/
import Derived.Test.YtplamonjnlgomaaGreatDoorPuBase
import Derived.Laws.RangeString
namespace Go.Proofs.YtplamonjnlgomaaGreatDoorS
open Go
set_option linter.unusedVariables false
set_option linter.unusedSimpArgs false

def WormOk (w h : Int) (ri dn : ByteArray) (x y wy : Int) : Prop :=
  (3 ≤ w ∧ w ≤ 6) ∧ (3 ≤ h ∧ h ≤ 6) ∧ ((ri.size : Int) = w * h ∧ (dn.size : Int) = w * h) ∧ (CellsOk 2 ri ∧ CellsOk 2 dn) ∧ (0 ≤ x ∧ x ≤ w - 1) ∧ (0 ≤ y ∧ y ≤ h - 1) ∧ (0 ≤ wy ∧ wy ≤ 3)
section
variable (w h : Int) (ri dn : ByteArray) (x y wy : Int) (hri : ri.size ≤ 1048576) (hdn : dn.size ≤ 1048576)
include hri hdn
theorem isWorm_ev : EvB (fun k => impl_IsWorm k (w, h, ri, dn, x, y, wy)) (WormOk w h ri dn x y wy) := by
  have H : EvB (fun k => impl_IsWorm k (w, h, ri, dn, x, y, wy)) (((3 ≤ w ∧ w ≤ 6) ∧ (3 ≤ h ∧ h ≤ 6)) ∧ ((CellsOk 2 ri ∧ (ri.size : Int) = w * h) ∧ ((CellsOk 2 dn ∧ (dn.size : Int) = w * h) ∧ ((0 ≤ x ∧ x ≤ w - 1) ∧ ((0 ≤ y ∧ y ≤ h - 1) ∧ (0 ≤ wy ∧ wy ≤ 3)))))) := by
    refine EvB.step (fun k => impl_IsWorm.eq k w h ri dn x y wy) (EvB.and (EvB.step (fun k => impl_isGrid.eq k w h) (EvB.and (within_ev w 3 6) fun _ => (within_ev h 3 6).ret)) fun hs => ?_)
    have hm := mul_range (a := w) (b := h) (by omega) (by omega) (by omega) (by omega)
    rw [w64_of (n := w * h) (by omega) (by omega)]
    exact EvB.and (areCells_ev 2 (by omega) ri (by omega) (w * h)) fun _ => EvB.and (areCells_ev 2 (by omega) dn (by omega) (w * h)) fun _ => (isAnt_ev w h x y wy (by omega) (by omega)).ret
  exact H.iff ⟨fun q => ⟨q.1.1, q.1.2, ⟨q.2.1.2, q.2.2.1.2⟩, ⟨q.2.1.1, q.2.2.1.1⟩, q.2.2.2⟩, fun q => ⟨⟨q.1, q.2.1⟩, ⟨q.2.2.2.1.1, q.2.2.1.1⟩, ⟨q.2.2.2.1.2, q.2.2.1.2⟩, q.2.2.2.2⟩⟩
theorem wmGood_ev : EvB (fun k => spec_wmGood k (w, h, ri, dn, x, y, wy)) (WormOk w h ri dn x y wy) := by
  have _ := hdn
  refine EvB.step (fun k => spec_wmGood.eq k w h ri dn x y wy) (EvB.and' (l1In_ev w 3 6) fun hw => EvB.and' (l1In_ev h 3 6) fun hh => ?_)
  have hm := mul_range (a := w) (b := h) (by omega) (by omega) (by omega) (by omega)
  rw [w64_of (n := w * h) (by omega) (by omega)]
  have B1 : ∀ c : UInt8, (((c.toNat : Int) != 48) = false ↔ c.toNat = 48) ∧ (((c.toNat : Int) != 49) = false ↔ c.toNat = 49) := fun c => by
    rw [bne_eq_false_iff_eq, bne_eq_false_iff_eq]
    omega
  let Q : Nat → Prop := fun i => ∃ c d : UInt8, ri.data.toList[i]? = some c ∧ dn.data.toList[i]? = some d ∧ ¬ ((48 ≤ c.toNat ∧ (c.toNat : Int) ≤ 47 + 2) ∧ (48 ≤ d.toNat ∧ (d.toNat : Int) ≤ 47 + 2))
  have main : (dn.size : Int) = (ri.size : Int) → EvB (fun k => (spec_wmGood_l k ((w, h, ri, dn, x, y, wy), 0)).bind fun r3 => r3.elim (fun r4 => some r4) (fun r5 => (spec_l1In k (r5.2.2.2.2.1, 0, w64 (r5.1 - 1))).bind fun r6 => cond r6 ((spec_l1In k (r5.2.2.2.2.2.1, 0, w64 (r5.2.1 - 1))).bind fun r7 => cond r7 ((spec_l1In k (r5.2.2.2.2.2.2, 0, 3)).bind fun r8 => some r8) (some false)) (some false)))
      ((CellsOk 2 ri ∧ CellsOk 2 dn) ∧ (0 ≤ x ∧ x ≤ w - 1) ∧ (0 ≤ y ∧ y ≤ h - 1) ∧ (0 ≤ wy ∧ wy ≤ 3)) := fun hsz => by
    have both : ∀ i, i < ri.size → ∃ c d : UInt8, ri.data.toList[i]? = some c ∧ dn.data.toList[i]? = some d := fun i hi => by
      obtain ⟨c, hc⟩ := byte_at (cs := ri) hi
      obtain ⟨d, hd⟩ := byte_at (cs := dn) (i := i) (by omega)
      exact ⟨c, d, hc, hd⟩
    have step : ∀ (i : Nat) (c d : UInt8), ri.data.toList[i]? = some c → dn.data.toList[i]? = some d → ∀ r, Ev (fun k => cond ((c.toNat : Int) != 48) (cond ((c.toNat : Int) != 49) (some (.inl false)) (cond ((d.toNat : Int) != 48) (cond ((d.toNat : Int) != 49) (some (.inl false)) (spec_wmGood_l k ((w, h, ri, dn, x, y, wy), w64 ((i : Int) + 1)))) (spec_wmGood_l k ((w, h, ri, dn, x, y, wy), w64 ((i : Int) + 1)))))
        (cond ((d.toNat : Int) != 48) (cond ((d.toNat : Int) != 49) (some (.inl false)) (spec_wmGood_l k ((w, h, ri, dn, x, y, wy), w64 ((i : Int) + 1)))) (spec_wmGood_l k ((w, h, ri, dn, x, y, wy), w64 ((i : Int) + 1))))) r → Ev (fun k => spec_wmGood_l k ((w, h, ri, dn, x, y, wy), (i : Int))) r := fun i c d hc hd r H => by
      have hi : i < ri.size := by rw [size_list]; exact (List.getElem?_eq_some_iff.1 hc).1
      have i1 : inB (i : Int) ri.size = true := inB_nat hi
      have i2 : inB (i : Int) dn.size = true := inB_nat (by omega)
      refine Ev.step (fun k => spec_wmGood_l.eq k w h ri dn x y wy (i : Int)) ?_
      rw [Int.toNat_natCast, bt_at hc, bt_at hd]
      simp only [i1, i2, lt_nat hi, cond_true]
      exact H
    have srch := Ev.search (L := fun k i => spec_wmGood_l k ((w, h, ri, dn, x, y, wy), i)) (n := ri.size) Q (fun i => .inl false) (.inr (w, h, ri, dn, x, y, wy))
      (fun i hi hp r H => by
        obtain ⟨c, d, hc, hd⟩ := both i hi
        have hr : (48 ≤ c.toNat ∧ (c.toNat : Int) ≤ 47 + 2) ∧ (48 ≤ d.toNat ∧ (d.toNat : Int) ≤ 47 + 2) := Classical.byContradiction fun hn => hp ⟨c, d, hc, hd, hn⟩
        have H' : Ev (fun k => spec_wmGood_l k ((w, h, ri, dn, x, y, wy), w64 ((i : Int) + 1))) r := by rw [w64_succ (by omega)]; exact H
        have D : Ev (fun k => cond ((d.toNat : Int) != 48) (cond ((d.toNat : Int) != 49) (some (.inl false)) (spec_wmGood_l k ((w, h, ri, dn, x, y, wy), w64 ((i : Int) + 1)))) (spec_wmGood_l k ((w, h, ri, dn, x, y, wy), w64 ((i : Int) + 1)))) r := by
          by_cases h4 : d.toNat = 48
          · exact Ev.no ((B1 d).1.2 h4) H'
          · exact Ev.yes (by rw [bne_iff_ne]; omega) (Ev.no ((B1 d).2.2 (by omega)) H')
        refine step i c d hc hd r ?_
        by_cases h4 : c.toNat = 48
        · exact Ev.no ((B1 c).1.2 h4) D
        · exact Ev.yes (by rw [bne_iff_ne]; omega) (Ev.no ((B1 c).2.2 (by omega)) D))
      (fun i hi hp => by
        obtain ⟨c, d, hc, hd, hn⟩ := hp
        refine step i c d hc hd _ ?_
        have D : ¬ (48 ≤ d.toNat ∧ (d.toNat : Int) ≤ 47 + 2) → Ev (fun k => cond ((d.toNat : Int) != 48) (cond ((d.toNat : Int) != 49) (some (.inl false)) (spec_wmGood_l k ((w, h, ri, dn, x, y, wy), w64 ((i : Int) + 1)))) (spec_wmGood_l k ((w, h, ri, dn, x, y, wy), w64 ((i : Int) + 1)))) (.inl false) := fun h4 =>
          Ev.yes (by rw [bne_iff_ne]; omega) (Ev.yes (by rw [bne_iff_ne]; omega) (Ev.now _))
        by_cases h4 : c.toNat = 48
        · exact Ev.no ((B1 c).1.2 h4) (D (by omega))
        · refine Ev.yes (by rw [bne_iff_ne]; omega) ?_
          by_cases h5 : c.toNat = 49
          · exact Ev.no ((B1 c).2.2 h5) (D (by omega))
          · exact Ev.yes (by rw [bne_iff_ne]; omega) (Ev.now _))
      (Ev.step (fun k => spec_wmGood_l.eq k w h ri dn x y wy (ri.size : Int)) (Ev.no (not_lt_nat (Nat.lt_irrefl _)) (Ev.now _))) ri.size 0 (by omega)
    rcases srch with ⟨h1, h2⟩ | ⟨j, _, hj, ⟨c, d, hc, hd, hn⟩, _, h2⟩
    · have hcs : CellsOk 2 ri ∧ CellsOk 2 dn := by
        refine ⟨fun c hm => ?_, fun d hm => ?_⟩
        · obtain ⟨i, hi⟩ := List.mem_iff_getElem?.1 hm
          have hlt : i < ri.size := by rw [size_list]; exact (List.getElem?_eq_some_iff.1 hi).1
          obtain ⟨c', d, hc, hd⟩ := both i hlt
          rw [hi] at hc
          cases hc
          exact Classical.byContradiction fun hn => h1 i (Nat.zero_le _) hlt ⟨c, d, hi, hd, fun q => hn q.1⟩
        · obtain ⟨i, hi⟩ := List.mem_iff_getElem?.1 hm
          have hlt : i < ri.size := by have := (List.getElem?_eq_some_iff.1 hi).1; rw [← size_list] at this; omega
          obtain ⟨c, d', hc, hd⟩ := both i hlt
          rw [hi] at hd
          cases hd
          exact Classical.byContradiction fun hn => h1 i (Nat.zero_le _) hlt ⟨c, d, hc, hi, fun q => hn q.2⟩
      have rest : EvB (fun k => (spec_l1In k (x, 0, w64 (w - 1))).bind fun r6 => cond r6 ((spec_l1In k (y, 0, w64 (h - 1))).bind fun r7 => cond r7 ((spec_l1In k (wy, 0, 3)).bind fun r8 => some r8) (some false)) (some false)) ((0 ≤ x ∧ x ≤ w - 1) ∧ (0 ≤ y ∧ y ≤ h - 1) ∧ (0 ≤ wy ∧ wy ≤ 3)) := by
        rw [w64_of (n := w - 1) (by omega) (by omega), w64_of (n := h - 1) (by omega) (by omega)]
        exact EvB.and (l1In_ev _ _ _) fun _ => EvB.and (l1In_ev _ _ _) fun _ => (l1In_ev _ _ _).ret
      obtain ⟨b, q1, q2⟩ := rest
      exact ⟨b, Ev.bind h2 q1, q2.trans ⟨fun q => ⟨hcs, q⟩, fun q => q.2⟩⟩
    · refine ⟨false, Ev.bind h2 (Ev.now _), ⟨nofun, fun H => absurd ?_ hn⟩⟩
      exact ⟨H.1.1 c (List.mem_of_getElem? hc), H.1.2 d (List.mem_of_getElem? hd)⟩
  have H := EvB.ifN (b := ((ri.size : Int) != w * h)) (P := (ri.size : Int) = w * h) (by rw [bne_eq_false_iff_eq]) fun _ => EvB.ifN (b := ((dn.size : Int) != (ri.size : Int))) (P := (dn.size : Int) = (ri.size : Int)) (by rw [bne_eq_false_iff_eq]) main
  exact H.iff ⟨fun q => ⟨⟨q.1, by rw [q.2.1, q.1]⟩, q.2.2⟩, fun q => ⟨q.1.1, by rw [q.1.1, q.1.2], q.2⟩⟩
end
/-! ### Lines -/
def lnD (way : Int) : Bool := way == 0 || way == 2
def lnK (w h x y way : Int) : Int := if way = 0 then go1 y h (-1) * w + x else if way = 3 then y * w + go1 x w (-1) else y * w + x
theorem at64 {x y w h : Int} (hx : 0 ≤ x ∧ x ≤ w - 1) (hy : 0 ≤ y ∧ y ≤ h - 1) (hw : 1 ≤ w ∧ w ≤ 9) (hh : 1 ≤ h ∧ h ≤ 9) : w64 (w64 (y * w) + x) = y * w + x := by
  obtain ⟨a1, a2, a3, a4⟩ := at_range hx hy hw hh
  rw [w64_of (n := y * w) (by omega) (by omega), w64_of (by omega) (by omega)]
theorem go1_in {n m d : Int} (h : 0 ≤ n ∧ n ≤ m - 1) (h1 : -1 ≤ d ∧ d ≤ 1) : 0 ≤ go1 n m d ∧ go1 n m d ≤ m - 1 := by
  have := go1_range (n := n) (m := m) (d := d) h.1 (by omega) h1.1 h1.2
  omega
theorem lnK_range {x y w h way : Int} (hx : 0 ≤ x ∧ x ≤ w - 1) (hy : 0 ≤ y ∧ y ≤ h - 1) (hw : 1 ≤ w ∧ w ≤ 9) (hh : 1 ≤ h ∧ h ≤ 9) : 0 ≤ lnK w h x y way ∧ lnK w h x y way < w * h := by
  unfold lnK
  split
  · have := at_range hx (go1_in (d := -1) hy (by omega)) hw hh
    omega
  · split
    · have := at_range (go1_in (d := -1) hx (by omega)) hy hw hh
      omega
    · have := at_range hx hy hw hh
      omega
section
variable (w h : Int) (ri dn : ByteArray) (X Y Wy x y way : Int) (hw : 1 ≤ w ∧ w ≤ 9) (hh : 1 ≤ h ∧ h ≤ 9) (hx : 0 ≤ x ∧ x ≤ w - 1) (hy : 0 ≤ y ∧ y ≤ h - 1) (hway : 0 ≤ way ∧ way ≤ 3)
include hw hh hx hy hway
theorem wmLine_ev : Ev (fun k => spec_wmLine k ((w, h, ri, dn, X, Y, Wy), x, y, way)) (lnD way, lnK w h x y way) := by
  have e1 : w64 (y - 1) = y + (-1) := by rw [w64_of (by omega) (by omega)]; omega
  have e2 : w64 (x - 1) = x + (-1) := by rw [w64_of (by omega) (by omega)]; omega
  have e3 := at64 hx hy hw hh
  have e4 := at64 hx (go1_in (d := -1) hy (by omega)) hw hh
  have e5 := at64 (go1_in (d := -1) hx (by omega)) hy hw hh
  have : way = 0 ∨ way = 1 ∨ way = 2 ∨ way = 3 := by omega
  rcases this with rfl | rfl | rfl | rfl
  · refine Ev.step (fun k => spec_wmLine.eq k w h ri dn X Y Wy x y 0) (Ev.yes rfl ?_)
    rw [e1]
    exact Ev.bind (l1Mod_ev y h (-1) hy hh (by omega)) (Ev.now' (by rw [e4]; rfl))
  · exact Ev.step (fun k => spec_wmLine.eq k w h ri dn X Y Wy x y 1) (Ev.no rfl (Ev.yes rfl (Ev.now' (by rw [e3]; rfl))))
  · exact Ev.step (fun k => spec_wmLine.eq k w h ri dn X Y Wy x y 2) (Ev.no rfl (Ev.no rfl (Ev.yes rfl (Ev.now' (by rw [e3]; rfl)))))
  · refine Ev.step (fun k => spec_wmLine.eq k w h ri dn X Y Wy x y 3) (Ev.no rfl (Ev.no rfl (Ev.no rfl ?_)))
    rw [e2]
    exact Ev.bind (l1Mod_ev x w (-1) hx hw (by omega)) (Ev.now' (by rw [e5]; rfl))
theorem node_parts : (y * w + x).tmod w = x ∧ w64 ((y * w + x).tdiv w) = y := by
  have _ := hway
  obtain ⟨a1, a2, a3, a4⟩ := at_range hx hy hw hh
  constructor
  · rw [Int.tmod_eq_emod_of_nonneg a3, Int.add_comm, Int.add_mul_emod_self_right, Int.emod_eq_of_lt hx.1 (by omega)]
  · have e : (y * w + x).tdiv w = y := by
      rw [Int.tdiv_eq_ediv_of_nonneg a3, Int.add_comm, Int.add_mul_ediv_right _ _ (by omega), Int.ediv_eq_zero_of_lt hx.1 (by omega), Int.zero_add]
    rw [e, w64_of (by omega) (by omega)]
theorem beside_ev : Ev (fun k => impl_Worm_beside k ((w, h, ri, dn, X, Y, Wy), y * w + x, way)) (go1 y h (1 * dyW way) * w + go1 x w (1 * dxW way)) := by
  obtain ⟨p1, p2⟩ := node_parts w h x y way hw hh hx hy hway
  obtain ⟨⟨d1, d2⟩, d3, d4⟩ := dW_range way
  have hne : (w != 0) = true := by rw [bne_iff_ne]; omega
  refine Ev.step (fun k => impl_Worm_beside.eq k w h ri dn X Y Wy (y * w + x) way) (Ev.yes hne (Ev.yes hne ?_))
  rw [p1, p2]
  exact Ev.bind (gone_ev _ w h _ x y way 1 hw hh hx hy hway (.inl rfl)) (Ev.bind (Ev.step (fun k => impl_World_at.eq k _ w h _ _ _ _) (Ev.now' (at64 (go1_in (d := 1 * dxW way) hx (by omega)) (go1_in (d := 1 * dyW way) hy (by omega)) hw hh))) (Ev.now _))
theorem line_ev : Ev (fun k => impl_Worm_line k ((w, h, ri, dn, X, Y, Wy), y * w + x, way)) (!lnD way, lnK w h x y way) := by
  have : way = 0 ∨ way = 1 ∨ way = 2 ∨ way = 3 := by omega
  rcases this with rfl | rfl | rfl | rfl
  · refine Ev.step (fun k => impl_Worm_line.eq k w h ri dn X Y Wy (y * w + x) 0) (Ev.yes rfl (Ev.bind (beside_ev w h ri dn X Y Wy x y 0 hw hh hx hy (by omega)) (Ev.now' ?_)))
    show (false, go1 y h (-1) * w + go1 x w 0) = (false, go1 y h (-1) * w + x)
    rw [go1_zero hx]
  · exact Ev.step (fun k => impl_Worm_line.eq k w h ri dn X Y Wy (y * w + x) 1) (Ev.no rfl (Ev.yes rfl (Ev.now' rfl)))
  · exact Ev.step (fun k => impl_Worm_line.eq k w h ri dn X Y Wy (y * w + x) 2) (Ev.no rfl (Ev.no rfl (Ev.yes rfl (Ev.now' rfl))))
  · refine Ev.step (fun k => impl_Worm_line.eq k w h ri dn X Y Wy (y * w + x) 3) (Ev.no rfl (Ev.no rfl (Ev.no rfl (Ev.bind (beside_ev w h ri dn X Y Wy x y 3 hw hh hx hy (by omega)) (Ev.now' ?_)))))
    show (true, go1 y h 0 * w + go1 x w (-1)) = (true, y * w + go1 x w (-1))
    rw [go1_zero hy]
def hasB : Bool := bt (if lnD way then dn else ri) (lnK w h x y way).toNat == 49
theorem wmHas_ev (hri : (ri.size : Int) = w * h) (hdn : (dn.size : Int) = w * h) : Ev (fun k => spec_wmHas k ((w, h, ri, dn, X, Y, Wy), x, y, way)) (hasB w h ri dn x y way) := by
  obtain ⟨k1, k2⟩ := lnK_range (way := way) hx hy hw hh
  refine Ev.step (fun k => spec_wmHas.eq k w h ri dn X Y Wy x y way) (Ev.bind (wmLine_ev w h ri dn X Y Wy x y way hw hh hx hy hway) ?_)
  unfold hasB
  cases lnD way with
  | true => exact Ev.yes rfl (Ev.yes (inB_of k1 (by omega)) (Ev.now _))
  | false => exact Ev.no rfl (Ev.yes (inB_of k1 (by omega)) (Ev.now _))
theorem there_ev (hri : (ri.size : Int) = w * h) (hdn : (dn.size : Int) = w * h) : Ev (fun k => impl_Worm_there k ((w, h, ri, dn, X, Y, Wy), y * w + x, way)) (hasB w h ri dn x y way) := by
  obtain ⟨k1, k2⟩ := lnK_range (way := way) hx hy hw hh
  refine Ev.step (fun k => impl_Worm_there.eq k w h ri dn X Y Wy (y * w + x) way) (Ev.bind (line_ev w h ri dn X Y Wy x y way hw hh hx hy hway) ?_)
  unfold hasB
  cases lnD way with
  | true => exact Ev.no rfl (Ev.yes (inB_of k1 (by omega)) (Ev.now _))
  | false => exact Ev.yes rfl (Ev.yes (inB_of k1 (by omega)) (Ev.now _))
def setR (n : Int) : ByteArray := if lnD way then ri else setByte ri (lnK w h x y way).toNat (UInt8.ofNat (48 + n).toNat)
def setD (n : Int) : ByteArray := if lnD way then setByte dn (lnK w h x y way).toNat (UInt8.ofNat (48 + n).toNat) else dn
theorem made_ev (hri : (ri.size : Int) = w * h) (hdn : (dn.size : Int) = w * h) (n : Int) (hn : 0 ≤ n ∧ n ≤ 1) : Ev (fun k => impl_Worm_made k ((w, h, ri, dn, X, Y, Wy), y * w + x, way, n)) (w, h, setR w h ri x y way n, setD w h dn x y way n, X, Y, Wy) := by
  obtain ⟨k1, k2⟩ := lnK_range (way := way) hx hy hw hh
  refine Ev.step (fun k => impl_Worm_made.eq k w h ri dn X Y Wy (y * w + x) way n) (Ev.bind (line_ev w h ri dn X Y Wy x y way hw hh hx hy hway) ?_)
  unfold setR setD
  cases lnD way with
  | true => exact Ev.no rfl (Ev.bind (painted_ev dn _ n ⟨k1, by omega⟩ (by omega)) (Ev.now _))
  | false => exact Ev.yes rfl (Ev.bind (painted_ev ri _ n ⟨k1, by omega⟩ (by omega)) (Ev.now _))
theorem wmSet_ev (hri : (ri.size : Int) = w * h) (hdn : (dn.size : Int) = w * h) (n : Int) (hn : 0 ≤ n ∧ n ≤ 1) : Ev (fun k => spec_wmSet k ((w, h, ri, dn, X, Y, Wy), x, y, way, ofBytes [48 + n])) ((), (w, h, setR w h ri x y way n, setD w h dn x y way n, X, Y, Wy)) := by
  obtain ⟨k1, k2⟩ := lnK_range (way := way) hx hy hw hh
  have hm := mul_range (a := w) (b := h) (by omega) (by omega) (by omega) (by omega)
  have e1 : w64 (lnK w h x y way + 1) = lnK w h x y way + 1 := w64_of (by omega) (by omega)
  have e2 : (lnK w h x y way + 1).toNat = (lnK w h x y way).toNat + 1 := by omega
  refine Ev.step (fun k => spec_wmSet.eq k w h ri dn X Y Wy x y way (ofBytes [48 + n])) (Ev.bind (wmLine_ev w h ri dn X Y Wy x y way hw hh hx hy hway) ?_)
  unfold setR setD
  have z1 : ∀ n : Int, (ofBytes [n]).size = 1 := fun n => rfl
  have one : ∀ cs : ByteArray, (cs.size : Int) = w * h → ((decide ((0 : Int) ≤ lnK w h x y way)) && (decide (lnK w h x y way ≤ (cs.size : Int)))) = true ∧ fitS (cs.extract 0 (lnK w h x y way).toNat) (ofBytes [48 + n]) = true ∧ ((decide ((0 : Int) ≤ lnK w h x y way + 1)) && (decide (lnK w h x y way + 1 ≤ (cs.size : Int)))) = true ∧
      fitS (cs.extract 0 (lnK w h x y way).toNat ++ ofBytes [48 + n]) (cs.extract ((lnK w h x y way).toNat + 1) cs.size) = true ∧ cs.extract 0 (lnK w h x y way).toNat ++ ofBytes [48 + n] ++ cs.extract ((lnK w h x y way).toNat + 1) cs.size = setByte cs (lnK w h x y way).toNat (UInt8.ofNat (48 + n).toNat) := fun cs hcs => by
    have z2 : ∀ a b, (cs.extract a b).size ≤ 81 := fun a b => by rw [ByteArray.size_extract]; omega
    have z3 := z2 0 (lnK w h x y way).toNat
    have z4 := z2 ((lnK w h x y way).toNat + 1) cs.size
    refine ⟨by rw [decide_eq_true (by omega), decide_eq_true (by omega)]; rfl, fitS_of (by rw [z1]; omega), by rw [decide_eq_true (by omega), decide_eq_true (by omega)]; rfl, fitS_of (by rw [ByteArray.size_append, z1]; omega), setByte_b cs _ _ (by omega)⟩
  obtain ⟨r1, r2, r3, r4, r5⟩ := one ri hri
  obtain ⟨d1, d2, d3, d4, d5⟩ := one dn hdn
  cases lnD way with
  | true =>
    refine Ev.yes rfl (Ev.yes d1 (Ev.yes d2 ?_))
    simp only [e1, e2]
    exact Ev.yes d3 (Ev.yes d4 (Ev.now' (by rw [d5]; rfl)))
  | false =>
    refine Ev.no rfl (Ev.yes r1 (Ev.yes r2 ?_))
    simp only [e1, e2]
    exact Ev.yes r3 (Ev.yes r4 (Ev.now' (by rw [r5]; rfl)))
theorem wmGo_ev (Wy' : Int) : Ev (fun k => spec_wmGo k ((w, h, ri, dn, x, y, Wy'), way, 1)) ((), (w, h, ri, dn, go1 x w (1 * dxW way), go1 y h (1 * dyW way), Wy')) := by
  have e1 : w64 (y - 1) = y + -1 := by rw [w64_of (by omega) (by omega)]; omega
  have e2 : w64 (x + 1) = x + 1 := w64_of (by omega) (by omega)
  have e3 : w64 (y + 1) = y + 1 := w64_of (by omega) (by omega)
  have e4 : w64 (x - 1) = x + -1 := by rw [w64_of (by omega) (by omega)]; omega
  have : way = 0 ∨ way = 1 ∨ way = 2 ∨ way = 3 := by omega
  rcases this with rfl | rfl | rfl | rfl
  · refine Ev.step (fun k => spec_wmGo.eq k w h ri dn x y Wy' 0 1) (Ev.yes rfl ?_)
    rw [e1]
    refine Ev.bind (l1Mod_ev y h (-1) hy hh (by omega)) (Ev.now' ?_)
    show ((), (w, h, ri, dn, x, go1 y h (-1), Wy')) = ((), (w, h, ri, dn, go1 x w 0, go1 y h (-1), Wy'))
    rw [go1_zero hx]
  · refine Ev.step (fun k => spec_wmGo.eq k w h ri dn x y Wy' 1 1) (Ev.no rfl (Ev.yes rfl ?_))
    rw [e2]
    refine Ev.bind (l1Mod_ev x w 1 hx hw (by omega)) (Ev.now' ?_)
    show ((), (w, h, ri, dn, go1 x w 1, y, Wy')) = ((), (w, h, ri, dn, go1 x w 1, go1 y h 0, Wy'))
    rw [go1_zero hy]
  · refine Ev.step (fun k => spec_wmGo.eq k w h ri dn x y Wy' 2 1) (Ev.no rfl (Ev.no rfl (Ev.yes rfl ?_)))
    rw [e3]
    refine Ev.bind (l1Mod_ev y h 1 hy hh (by omega)) (Ev.now' ?_)
    show ((), (w, h, ri, dn, x, go1 y h 1, Wy')) = ((), (w, h, ri, dn, go1 x w 0, go1 y h 1, Wy'))
    rw [go1_zero hx]
  · refine Ev.step (fun k => spec_wmGo.eq k w h ri dn x y Wy' 3 1) (Ev.no rfl (Ev.no rfl (Ev.no rfl ?_)))
    rw [e4]
    refine Ev.bind (l1Mod_ev x w (-1) hx hw (by omega)) (Ev.now' ?_)
    show ((), (w, h, ri, dn, go1 x w (-1), y, Wy')) = ((), (w, h, ri, dn, go1 x w (-1), go1 y h 0, Wy'))
    rw [go1_zero hy]
end
/-! ### A bite -/
def ones (cs : ByteArray) : Nat := cs.data.toList.count 49
theorem count_set49 : ∀ (l : List UInt8) (i : Nat), l[i]? = some 49 → (l.set i 48).count 49 + 1 = l.count 49
  | [], _, h => by simp at h
  | c :: l, 0, h => by
    obtain rfl : c = 49 := by simpa using h
    rw [List.set_cons_zero, List.count_cons_self, List.count_cons_of_ne (by decide)]
  | c :: l, i + 1, h => by
    have := count_set49 l i (by simpa using h)
    rw [List.set_cons_succ, List.count_cons, List.count_cons]
    omega
theorem ones_set {cs : ByteArray} {i : Nat} (hi : i < cs.size) (h : (bt cs i == 49) = true) : ones (setByte cs i (UInt8.ofNat ((48 : Int) + 0).toNat)) + 1 = ones cs := by
  obtain ⟨c, hc⟩ := byte_at hi
  rw [bt_at hc, beq_iff_eq] at h
  have h49 : c = 49 := by
    apply UInt8.toNat_inj.1
    show c.toNat = 49
    omega
  subst h49
  exact count_set49 _ _ hc
theorem sub_one {cs : ByteArray} {i : Nat} {c : UInt8} (h : cs.data.toList[i]? = some c) : cs.extract i (i + 1) = ofBytes [(c.toNat : Int)] := by
  apply ba_ext
  obtain ⟨hlt, he⟩ := List.getElem?_eq_some_iff.1 h
  rw [extract_list, List.drop_take, show i + 1 - i = 1 by omega, List.drop_eq_getElem_cons hlt, he]
  show [c] = [UInt8.ofNat (Int.toNat (c.toNat : Int))]
  rw [Int.toNat_natCast]
  simp
theorem rune_ascii {s : ByteArray} {i : Nat} {c : UInt8} (h : s.data.toList[i]? = some c) (hc : c.toNat < 128) : runeEnd s i = i + 1 := by
  obtain ⟨hlt, he⟩ := List.getElem?_eq_some_iff.1 h
  have hi : i < s.size := by rw [size_list]; exact hlt
  have hg : s[i]'hi = c := by
    rw [← he]
    simp [ByteArray.getElem_eq_getElem_data]
  unfold runeEnd
  rw [decode_ascii s i hi (by rw [hg]; exact hc)]
abbrev zeroW : Int × Int × ByteArray × ByteArray × Int × Int × Int := (0, 0, ByteArray.empty, ByteArray.empty, 0, 0, 0)
theorem eat_full (w h : Int) (ri dn : ByteArray) (x y wy : Int) (H : WormOk w h ri dn x y wy) (ts : ByteArray) (hts : ∀ c ∈ ts.data.toList, c.toNat < 128) (hsz : ts.size ≤ 1048576) :
    (Ev (fun k => spec_wmEat k ((w, h, ri, dn, x, y, wy), ts)) (ByteArray.empty, (w, h, ri, dn, x, y, wy)) ∧ Ev (fun k => impl_Worm_eat k ((w, h, ri, dn, x, y, wy), ts)) (zeroW, 0, false) ∧ ∀ c ∈ ts.data.toList, hasB w h ri dn x y ((wy + quartersB (c.toNat : Int)) % 4) = false) ∨
    ∃ (c : UInt8) (ri' dn' : ByteArray) (x' y' wy' : Int), Ev (fun k => spec_wmEat k ((w, h, ri, dn, x, y, wy), ts)) (ofBytes [(c.toNat : Int)], (w, h, ri', dn', x', y', wy')) ∧ Ev (fun k => impl_Worm_eat k ((w, h, ri, dn, x, y, wy), ts)) ((w, h, ri', dn', x', y', wy'), (c.toNat : Int), true) ∧
      WormOk w h ri' dn' x' y' wy' ∧ ones ri' + ones dn' + 1 = ones ri + ones dn ∧ c ∈ ts.data.toList ∧ wy' = (wy + quartersB (c.toNat : Int)) % 4 ∧ hasB w h ri dn x y wy' = true ∧ ri' = setR w h ri x y wy' 0 ∧ dn' = setD w h dn x y wy' 0 ∧ x' = go1 x w (1 * dxW wy') ∧ y' = go1 y h (1 * dyW wy') ∧ ∃ j : Nat, ts.data.toList[j]? = some c ∧ ∀ l d, l < j → ts.data.toList[l]? = some d → hasB w h ri dn x y ((wy + quartersB (d.toNat : Int)) % 4) = false := by
  obtain ⟨hw, hh, ⟨hri, hdn⟩, ⟨cri, cdn⟩, hx, hy, hwy⟩ := H
  have hw9 : 1 ≤ w ∧ w ≤ 9 := by omega
  have hh9 : 1 ≤ h ∧ h ≤ 9 := by omega
  have hbl : (bytesOf ts).length = ts.size := by unfold bytesOf; rw [List.length_map, ← size_list]
  have loop : ∀ (m i : Nat), i + m = ts.size →
      (Ev (fun k => spec_wmEat_l k ((w, h, ri, dn, x, y, wy), ts, (ts, i), ())) (.inr (w, h, ri, dn, x, y, wy)) ∧ Ev (fun k => impl_Worm_eat_l k ((w, h, ri, dn, x, y, wy), zeroW, y * w + x, bytesOf ts, (ts.size : Int), (i : Int))) (.inr zeroW) ∧ ∀ j c, i ≤ j → ts.data.toList[j]? = some c → hasB w h ri dn x y ((wy + quartersB (c.toNat : Int)) % 4) = false) ∨
      ∃ (c : UInt8) (ri' dn' : ByteArray) (x' y' wy' : Int), Ev (fun k => spec_wmEat_l k ((w, h, ri, dn, x, y, wy), ts, (ts, i), ())) (.inl (ofBytes [(c.toNat : Int)], (w, h, ri', dn', x', y', wy'))) ∧
        Ev (fun k => impl_Worm_eat_l k ((w, h, ri, dn, x, y, wy), zeroW, y * w + x, bytesOf ts, (ts.size : Int), (i : Int))) (.inl ((w, h, ri', dn', x', y', wy'), (c.toNat : Int), true)) ∧ WormOk w h ri' dn' x' y' wy' ∧ ones ri' + ones dn' + 1 = ones ri + ones dn ∧ c ∈ ts.data.toList ∧ wy' = (wy + quartersB (c.toNat : Int)) % 4 ∧ hasB w h ri dn x y wy' = true ∧ ri' = setR w h ri x y wy' 0 ∧ dn' = setD w h dn x y wy' 0 ∧ x' = go1 x w (1 * dxW wy') ∧ y' = go1 y h (1 * dyW wy') ∧ ∃ j : Nat, ts.data.toList[j]? = some c ∧ ∀ l d, i ≤ l → l < j → ts.data.toList[l]? = some d → hasB w h ri dn x y ((wy + quartersB (d.toNat : Int)) % 4) = false := by
    intro m
    induction m with
    | zero =>
      intro i hi
      exact .inl ⟨Ev.step (fun k => spec_wmEat_l.eq k w h ri dn x y wy ts ts i) (Ev.no (decide_eq_false (by omega)) (Ev.now _)), Ev.step (fun k => impl_Worm_eat_l.eq k w h ri dn x y wy 0 0 ByteArray.empty ByteArray.empty 0 0 0 (y * w + x) (bytesOf ts) (ts.size : Int) (i : Int)) (Ev.no (not_lt_nat (by omega)) (Ev.now _)), fun j c hj hc => by
        have := (List.getElem?_eq_some_iff.1 hc).1
        rw [← size_list] at this
        omega⟩
    | succ m ih =>
      intro i hi
      obtain ⟨c, hc⟩ := byte_at (cs := ts) (i := i) (by omega)
      have hc128 := hts c (List.mem_of_getElem? hc)
      have hbg : (bytesOf ts).getD i default = (c.toNat : Int) := getD_at (by unfold bytesOf; rw [List.getElem?_map, hc]; rfl)
      have hrune := rune_ascii hc hc128
      obtain ⟨q0, q3⟩ := quartersB_range (c.toNat : Int)
      have eW : (w64 (wy + quartersB (c.toNat : Int))).tmod 4 = (wy + quartersB (c.toNat : Int)) % 4 := by rw [w64_of (by omega) (by omega), Int.tmod_eq_emod_of_nonneg (by omega)]
      have hwz : 0 ≤ (wy + quartersB (c.toNat : Int)) % 4 ∧ (wy + quartersB (c.toNat : Int)) % 4 ≤ 3 := by omega
      generalize hwE : (wy + quartersB (c.toNat : Int)) % 4 = wz at eW hwz
      have hS := wmHas_ev w h ri dn x y wy x y wz hw9 hh9 hx hy hwz hri hdn
      have hI := there_ev w h ri dn x y wy x y wz hw9 hh9 hx hy hwz hri hdn
      have S : ∀ r, Ev (fun k => cond (hasB w h ri dn x y wz) ((spec_wmSet k ((w, h, ri, dn, x, y, wy), x, y, wz, bs [48])).bind fun r3 => (spec_wmGo k ((r3.2.1, r3.2.2.1, r3.2.2.2.1, r3.2.2.2.2.1, r3.2.2.2.2.2.1, r3.2.2.2.2.2.2.1, wz), wz, 1)).bind fun r4 =>
          cond (((decide ((0 : Int) ≤ (w64 ((i : Int) + 1)))) && (decide ((w64 ((i : Int) + 1)) ≤ (ts.size : Int)))) && ((decide ((0 : Int) ≤ (i : Int))) && (decide ((i : Int) ≤ (w64 ((i : Int) + 1)))))) (some (.inl ((ts.extract i ((w64 ((i : Int) + 1)).toNat)), r4.2))) none)
          (spec_wmEat_l k ((w, h, ri, dn, x, y, wy), ts, (ts, runeEnd ts i), ()))) r → Ev (fun k => spec_wmEat_l k ((w, h, ri, dn, x, y, wy), ts, (ts, i), ())) r := fun r Hr => by
        refine Ev.step (fun k => spec_wmEat_l.eq k w h ri dn x y wy ts ts i) (Ev.yes (decide_eq_true (by omega)) (Ev.yes (inB_nat (by omega)) ?_))
        rw [Int.toNat_natCast, bt_at hc]
        refine Ev.bind (woTurn_ev _) ?_
        simp only [eW]
        exact Ev.bind hS Hr
      have I : ∀ r, Ev (fun k => cond (hasB w h ri dn x y wz) ((impl_Worm_made k ((w, h, ri, dn, x, y, wy), y * w + x, wz, 0)).bind fun r3 => (impl_Worm_beside k ((w, h, ri, dn, x, y, wy), y * w + x, wz)).bind fun r4 => cond (w != 0) (cond (w != 0) (some (.inl ((r3.1, r3.2.1, r3.2.2.1, r3.2.2.2.1, (r4.tmod w), (w64 (r4.tdiv w)), wz), (c.toNat : Int), true))) none) none)
          (impl_Worm_eat_l k ((w, h, ri, dn, x, y, wy), zeroW, y * w + x, bytesOf ts, (ts.size : Int), w64 ((i : Int) + 1)))) r → Ev (fun k => impl_Worm_eat_l k ((w, h, ri, dn, x, y, wy), zeroW, y * w + x, bytesOf ts, (ts.size : Int), (i : Int))) r := fun r Hr => by
        refine Ev.step (fun k => impl_Worm_eat_l.eq k w h ri dn x y wy 0 0 ByteArray.empty ByteArray.empty 0 0 0 (y * w + x) (bytesOf ts) (ts.size : Int) (i : Int)) (Ev.yes (lt_nat (by omega)) (Ev.yes (inB_nat (by omega)) ?_))
        rw [Int.toNat_natCast, hbg]
        refine Ev.bind (quarters_ev _) ?_
        simp only [eW]
        exact Ev.bind hI Hr
      cases hB : hasB w h ri dn x y wz with
      | false =>
        rw [hB] at S I
        rcases ih (i + 1) (by omega) with ⟨h1, h2, h5⟩ | ⟨c', ri', dn', x', y', wy', h1, h2, h3, h4, h41, h42, h43, h44, h45, h46, h47, j0, h48, h49⟩
        · refine .inl ⟨S _ (Ev.no rfl (by rw [hrune]; exact h1)), I _ (Ev.no rfl (by rw [w64_succ (by omega)]; exact h2)), fun j c' hj hc' => ?_⟩
          by_cases hji : j = i
          · subst hji
            rw [hc] at hc'
            cases hc'
            rw [hwE]
            exact hB
          · exact h5 j c' (by omega) hc'
        · exact .inr ⟨c', ri', dn', x', y', wy', S _ (Ev.no rfl (by rw [hrune]; exact h1)), I _ (Ev.no rfl (by rw [w64_succ (by omega)]; exact h2)), h3, h4, h41, h42, h43, h44, h45, h46, h47, j0, h48, fun l d hl hl' hd => by
            by_cases hli : l = i
            · subst hli
              rw [hc] at hd
              cases hd
              rw [hwE]
              exact hB
            · exact h49 l d (by omega) hl' hd⟩
      | true =>
        rw [hB] at S I
        obtain ⟨⟨d1, d2⟩, d3, d4⟩ := dW_range wz
        have gx := go1_in (d := 1 * dxW wz) hx (by omega)
        have gy := go1_in (d := 1 * dyW wz) hy (by omega)
        have hm := mul_range (a := w) (b := h) (by omega) (by omega) (by omega) (by omega)
        obtain ⟨k1, k2⟩ := lnK_range (way := wz) hx hy hw9 hh9
        have hne : (w != 0) = true := by rw [bne_iff_ne]; omega
        obtain ⟨p1, p2⟩ := node_parts w h _ _ wz hw9 hh9 gx gy hwz
        have e1 : w64 ((i : Int) + 1) = ((i + 1 : Nat) : Int) := w64_succ (by omega)
        refine .inr ⟨c, setR w h ri x y wz 0, setD w h dn x y wz 0, go1 x w (1 * dxW wz), go1 y h (1 * dyW wz), wz, S _ (Ev.yes rfl ?_), I _ (Ev.yes rfl ?_), ?_, ?_, List.mem_of_getElem? hc, hwE.symm, hB, rfl, rfl, rfl, rfl, i, hc, fun l d h1 h2 => by omega⟩
        · refine Ev.bind (wmSet_ev w h ri dn x y wy x y wz hw9 hh9 hx hy hwz hri hdn 0 (by omega)) (Ev.bind (wmGo_ev w h _ _ x y wz hw9 hh9 hx hy hwz wz) ?_)
          rw [e1]
          refine Ev.yes (by rw [decide_eq_true (by omega), decide_eq_true (by omega), decide_eq_true (by omega), decide_eq_true (by omega)]; rfl) (Ev.now' ?_)
          rw [Int.toNat_natCast, sub_one hc]
        · refine Ev.bind (made_ev w h ri dn x y wy x y wz hw9 hh9 hx hy hwz hri hdn 0 (by omega)) (Ev.bind (beside_ev w h ri dn x y wy x y wz hw9 hh9 hx hy hwz) (Ev.yes hne (Ev.yes hne (Ev.now' ?_))))
          simp only [p1, p2]
        · refine ⟨hw, hh, ?_, ?_, gx, gy, hwz⟩
          · unfold setR setD
            cases lnD wz with
            | true => exact ⟨hri, by show ((setByte _ _ _).size : Int) = _; rw [setByte_size]; exact hdn⟩
            | false => exact ⟨by show ((setByte _ _ _).size : Int) = _; rw [setByte_size]; exact hri, hdn⟩
          · unfold setR setD
            cases lnD wz with
            | true => exact ⟨cri, cells_set cdn _ (by omega) (by omega)⟩
            | false => exact ⟨cells_set cri _ (by omega) (by omega), cdn⟩
        · unfold setR setD
          unfold hasB at hB
          cases hD : lnD wz with
          | true =>
            rw [hD] at hB
            have := ones_set (cs := dn) (i := (lnK w h x y wz).toNat) (by omega) hB
            show ones ri + ones (setByte dn _ _) + 1 = _
            omega
          | false =>
            rw [hD] at hB
            have := ones_set (cs := ri) (i := (lnK w h x y wz).toNat) (by omega) hB
            show ones (setByte ri _ _) + ones dn + 1 = _
            omega
  have goS : ∀ r, Ev (fun k => (spec_wmEat_l k ((w, h, ri, dn, x, y, wy), ts, (ts, 0), ())).bind fun r1 => r1.elim (fun r2 => some r2) (fun r3 => some (ByteArray.empty, r3))) r → Ev (fun k => spec_wmEat k ((w, h, ri, dn, x, y, wy), ts)) r := fun r Hr => Ev.step (fun k => spec_wmEat.eq k w h ri dn x y wy ts) Hr
  have goI : ∀ r, Ev (fun k => (impl_Worm_eat_l k ((w, h, ri, dn, x, y, wy), zeroW, y * w + x, bytesOf ts, (ts.size : Int), ((0 : Nat) : Int))).bind fun r2 => r2.elim (fun r3 => some r3) (fun r4 => some (zeroW, 0, false))) r → Ev (fun k => impl_Worm_eat k ((w, h, ri, dn, x, y, wy), ts)) r := fun r Hr => by
    refine Ev.step (fun k => impl_Worm_eat.eq k w h ri dn x y wy ts) (Ev.bind (Ev.step (fun k => impl_Worm_node.eq k w h ri dn x y wy) (Ev.bind (Ev.step (fun k => impl_Worm_world.eq k w h ri dn x y wy) (Ev.now _)) (Ev.bind (Ev.step (fun k => impl_World_at.eq k _ w h _ x y wy) (Ev.now' (at64 hx hy hw9 hh9))) (Ev.now _)))) ?_)
    rw [hbl]
    exact Hr
  rcases loop ts.size 0 (by omega) with ⟨h1, h2, h5⟩ | ⟨c', ri', dn', x', y', wy', h1, h2, h3, h4, h41, h42, h43, h44, h45, h46, h47, j0, h48, h49⟩
  · refine .inl ⟨goS _ (Ev.bind h1 (Ev.now _)), goI _ (Ev.bind h2 (Ev.now _)), fun c hc => ?_⟩
    obtain ⟨j, hj⟩ := List.mem_iff_getElem?.1 hc
    exact h5 j c (Nat.zero_le _) hj
  · exact .inr ⟨c', ri', dn', x', y', wy', goS _ (Ev.bind h1 (Ev.now _)), goI _ (Ev.bind h2 (Ev.now _)), h3, h4, h41, h42, h43, h44, h45, h46, h47, j0, h48, fun l d hl hd => h49 l d (Nat.zero_le _) hl hd⟩
theorem eat_ev (w h : Int) (ri dn : ByteArray) (x y wy : Int) (H : WormOk w h ri dn x y wy) (ts : ByteArray) (hts : ∀ c ∈ ts.data.toList, c.toNat < 128) (hsz : ts.size ≤ 1048576) :
    (Ev (fun k => spec_wmEat k ((w, h, ri, dn, x, y, wy), ts)) (ByteArray.empty, (w, h, ri, dn, x, y, wy)) ∧ Ev (fun k => impl_Worm_eat k ((w, h, ri, dn, x, y, wy), ts)) (zeroW, 0, false)) ∨
    ∃ (c : UInt8) (ri' dn' : ByteArray) (x' y' wy' : Int), Ev (fun k => spec_wmEat k ((w, h, ri, dn, x, y, wy), ts)) (ofBytes [(c.toNat : Int)], (w, h, ri', dn', x', y', wy')) ∧ Ev (fun k => impl_Worm_eat k ((w, h, ri, dn, x, y, wy), ts)) ((w, h, ri', dn', x', y', wy'), (c.toNat : Int), true) ∧
      WormOk w h ri' dn' x' y' wy' ∧ ones ri' + ones dn' + 1 = ones ri + ones dn := by
  rcases eat_full w h ri dn x y wy H ts hts hsz with ⟨h1, h2, _⟩ | ⟨c', ri', dn', x', y', wy', h1, h2, h3, h4, _⟩
  · exact .inl ⟨h1, h2⟩
  · exact .inr ⟨c', ri', dn', x', y', wy', h1, h2, h3, h4⟩
/-! ### A life -/
theorem ofBytes_append (a : List Int) (n : Int) : ofBytes a ++ ofBytes [n] = ofBytes (a ++ [n]) := by
  apply ba_ext
  rw [append_list]
  unfold ofBytes
  simp
theorem one_byte (n : Int) : strEq (ofBytes [n]) ByteArray.empty = false := by
  cases h : strEq (ofBytes [n]) ByteArray.empty with
  | false => rfl
  | true =>
    have := congrArg ByteArray.size (strEq_iff.1 h)
    cases this
theorem life_l_ev (w h : Int) (ts : ByteArray) (hts : ∀ c ∈ ts.data.toList, c.toNat < 128) (hsz : ts.size ≤ 1048576) : ∀ (m : Nat) (ri dn : ByteArray) (x y wy : Int) (track meals : List Int), WormOk w h ri dn x y wy → ones ri + ones dn = m → meals.length + m ≤ 200 → track.length = meals.length + 1 →
    ∃ W' track' meals', Ev (fun k => spec_wmLife_l k (ts, (w, h, ri, dn, x, y, wy), zeroW, ofBytes meals, track)) (W', ofBytes meals', track') ∧ Ev (fun k => impl_Worm_life_l k (ts, (w, h, ri, dn, x, y, wy), zeroW, track, meals)) (W', track', ofBytes meals') ∧ meals'.length ≤ 200 ∧ track'.length ≤ 201 := by
  intro m
  induction m with
  | zero =>
    intro ri dn x y wy track meals H hm hl ht
    rcases eat_ev w h ri dn x y wy H ts hts hsz with ⟨h1, h2⟩ | ⟨c', ri', dn', x', y', wy', h1, h2, h3, h4⟩
    · exact ⟨_, track, meals, Ev.step (fun k => spec_wmLife_l.eq k ts w h ri dn x y wy 0 0 ByteArray.empty ByteArray.empty 0 0 0 (ofBytes meals) track) (Ev.bind h1 (Ev.yes (strEq_self _) (Ev.now _))),
        Ev.step (fun k => impl_Worm_life_l.eq k ts w h ri dn x y wy 0 0 ByteArray.empty ByteArray.empty 0 0 0 track meals) (Ev.bind h2 (Ev.yes rfl (Ev.now _))), by omega, by omega⟩
    · omega
  | succ m ih =>
    intro ri dn x y wy track meals H hm hl ht
    rcases eat_ev w h ri dn x y wy H ts hts hsz with ⟨h1, h2⟩ | ⟨c', ri', dn', x', y', wy', h1, h2, h3, h4⟩
    · exact ⟨_, track, meals, Ev.step (fun k => spec_wmLife_l.eq k ts w h ri dn x y wy 0 0 ByteArray.empty ByteArray.empty 0 0 0 (ofBytes meals) track) (Ev.bind h1 (Ev.yes (strEq_self _) (Ev.now _))),
        Ev.step (fun k => impl_Worm_life_l.eq k ts w h ri dn x y wy 0 0 ByteArray.empty ByteArray.empty 0 0 0 track meals) (Ev.bind h2 (Ev.yes rfl (Ev.now _))), by omega, by omega⟩
    · have e64 := at64 h3.2.2.2.2.1 h3.2.2.2.2.2.1 (w := w) (h := h) (by have := h3.1; omega) (by have := h3.2.1; omega)
      obtain ⟨W', track', meals', q1, q2, q3, q4⟩ := ih ri' dn' x' y' wy' (track ++ [y' * w + x']) (meals ++ [(c'.toNat : Int)]) h3 (by omega) (by simp; omega) (by simp; omega)
      have hsm : (ofBytes meals).size = meals.length := by rw [size_list]; unfold ofBytes; simp
      refine ⟨W', track', meals', ?_, ?_, q3, q4⟩
      · refine Ev.step (fun k => spec_wmLife_l.eq k ts w h ri dn x y wy 0 0 ByteArray.empty ByteArray.empty 0 0 0 (ofBytes meals) track) (Ev.bind h1 (Ev.no (one_byte _) (Ev.yes (fitS_of ?_) (Ev.yes (fits_of (by omega)) ?_))))
        · show (ofBytes meals).size + 1 < _
          omega
        · simp only [e64, ofBytes_append]
          exact q1
      · refine Ev.step (fun k => impl_Worm_life_l.eq k ts w h ri dn x y wy 0 0 ByteArray.empty ByteArray.empty 0 0 0 track meals) (Ev.bind h2 (Ev.no rfl (Ev.bind (Ev.step (fun k => impl_Worm_node.eq k w h ri' dn' x' y' wy') (Ev.bind (Ev.step (fun k => impl_Worm_world.eq k w h ri' dn' x' y' wy') (Ev.now _)) (Ev.bind (Ev.step (fun k => impl_World_at.eq k _ w h _ x' y' wy') (Ev.now' e64)) (Ev.now _)))) (Ev.yes (fits_of (by omega)) (Ev.yes (fits_of (by omega)) q2)))))
theorem ones_le (cs : ByteArray) : ones cs ≤ cs.size := by
  rw [size_list]
  exact List.count_le_length
theorem life_ev (w h : Int) (ri dn : ByteArray) (x y wy : Int) (H : WormOk w h ri dn x y wy) (ts : ByteArray) (hts : ∀ c ∈ ts.data.toList, c.toNat < 128) (hsz : ts.size ≤ 1048576) :
    ∃ W' track' signs', Ev (fun k => spec_wmLife k ((w, h, ri, dn, x, y, wy), ts)) (W', signs', track') ∧ Ev (fun k => impl_Worm_life k ((w, h, ri, dn, x, y, wy), ts)) (W', track', signs') ∧ signs'.size ≤ 200 ∧ track'.length ≤ 201 := by
  have hw := H.1
  have hh := H.2.1
  have hs := H.2.2.1
  have hm := mul_range (a := w) (b := h) (by omega) (by omega) (by omega) (by omega)
  have hm6 : w * h ≤ 36 := by have := Int.mul_le_mul hw.2 hh.2 (by omega) (by omega); omega
  have e64 := at64 H.2.2.2.2.1 H.2.2.2.2.2.1 (w := w) (h := h) (by omega) (by omega)
  have o1 := ones_le ri
  have o2 := ones_le dn
  obtain ⟨W', track', meals', q1, q2, q3, q4⟩ := life_l_ev w h ts hts hsz (ones ri + ones dn) ri dn x y wy [y * w + x] [] H rfl (by simp; omega) rfl
  refine ⟨W', track', ofBytes meals', ?_, ?_, ?_, q4⟩
  · refine Ev.step (fun k => spec_wmLife.eq k w h ri dn x y wy ts) ?_
    rw [e64]
    exact Ev.bind q1 (Ev.now _)
  · exact Ev.step (fun k => impl_Worm_life.eq k w h ri dn x y wy ts) (Ev.bind (Ev.step (fun k => impl_Worm_node.eq k w h ri dn x y wy) (Ev.bind (Ev.step (fun k => impl_Worm_world.eq k w h ri dn x y wy) (Ev.now _)) (Ev.bind (Ev.step (fun k => impl_World_at.eq k _ w h _ x y wy) (Ev.now' e64)) (Ev.now _)))) (Ev.bind q2 (Ev.now _)))
  · rw [size_list]
    unfold ofBytes
    simpa using q3
/-! ### Sizes -/
/-! ### Tastes -/
def tasteL : List ByteArray := [bs [76, 78, 82], bs [76, 82, 78], bs [78, 76, 82], bs [78, 82, 76], bs [82, 76, 78], bs [82, 78, 76]]
theorem tasteL_ok : ∀ t ∈ tasteL, (∀ c ∈ t.data.toList, c.toNat < 128) ∧ t.size ≤ 1048576 := by
  intro t ht
  simp only [tasteL, List.mem_cons, List.not_mem_nil, or_false] at ht
  rcases ht with rfl | rfl | rfl | rfl | rfl | rfl <;> (refine ⟨fun c hc => ?_, by decide⟩; simp only [bs, List.mem_cons, List.not_mem_nil, or_false] at hc; rcases hc with rfl | rfl | rfl <;> decide)
theorem wmTaste_ev (ts : ByteArray) : EvB (fun k => spec_wmTaste k ts) (ts ∈ tasteL) := by
  have srch := Ev.search (L := fun k i => spec_wmTaste_l k (ts, tasteL, (tasteL.length : Int), i)) (n := tasteL.length) (fun i => tasteL[i]? = some ts) (fun i => .inl true) (.inr ())
    (fun i hi hp r H => by
      obtain ⟨t, ht⟩ := nat_list hi
      refine Ev.step (fun k => spec_wmTaste_l.eq k ts tasteL (tasteL.length : Int) (i : Int)) (Ev.yes (lt_nat hi) (Ev.yes (inB_nat hi) ?_))
      rw [Int.toNat_natCast, getD_at ht, w64_succ (by have h6 : tasteL.length = 6 := rfl; omega)]
      exact Ev.cond (fun e => absurd (by rw [ht, strEq_iff.1 e]) hp) fun _ => H)
    (fun i hi hp => by
      refine Ev.step (fun k => spec_wmTaste_l.eq k ts tasteL (tasteL.length : Int) (i : Int)) (Ev.yes (lt_nat hi) (Ev.yes (inB_nat hi) ?_))
      rw [Int.toNat_natCast, getD_at hp]
      exact Ev.yes (strEq_self _) (Ev.now _))
    (Ev.step (fun k => spec_wmTaste_l.eq k ts tasteL (tasteL.length : Int) (tasteL.length : Int)) (Ev.no (not_lt_nat (Nat.lt_irrefl _)) (Ev.now _))) tasteL.length 0 (by omega)
  refine EvB.step (fun k => spec_wmTaste.eq k ts) ?_
  have ht : Ev (fun k => spec_wmTastes k ()) tasteL := Ev.step (fun k => spec_wmTastes.eq k) (Ev.now _)
  rcases srch with ⟨h1, h2⟩ | ⟨j, _, hj, hp, _, h2⟩
  · refine ⟨false, Ev.bind ht (Ev.bind h2 (Ev.now _)), ⟨nofun, fun hm => ?_⟩⟩
    obtain ⟨i, hi⟩ := List.mem_iff_getElem?.1 hm
    exact absurd hi (h1 i (Nat.zero_le _) (List.getElem?_eq_some_iff.1 hi).1)
  · exact ⟨true, Ev.bind ht (Ev.bind h2 (Ev.now _)), ⟨fun _ => List.mem_of_getElem? hp, fun _ => rfl⟩⟩
theorem isTaste_ev (ts : ByteArray) : EvB (fun k => impl_IsTaste k ts) (ts ∈ tasteL) := by
  have srch := Ev.search (L := fun k i => slices_Index_l k (tasteL, ts, (tasteL.length : Int), i)) (n := tasteL.length) (fun i => tasteL[i]? = some ts) (fun i => .inl (i : Int)) (.inr ())
    (fun i hi hp r H => by
      obtain ⟨t, ht⟩ := nat_list hi
      refine Ev.step (fun k => slices_Index_l.eq k tasteL ts (tasteL.length : Int) (i : Int)) (Ev.yes (lt_nat hi) (Ev.yes (inB_nat hi) ?_))
      rw [Int.toNat_natCast, getD_at ht, w64_succ (by have h6 : tasteL.length = 6 := rfl; omega)]
      exact Ev.cond (fun e => absurd (by rw [ht, strEq_iff.1 e]) hp) fun _ => H)
    (fun i hi hp => by
      refine Ev.step (fun k => slices_Index_l.eq k tasteL ts (tasteL.length : Int) (i : Int)) (Ev.yes (lt_nat hi) (Ev.yes (inB_nat hi) ?_))
      rw [Int.toNat_natCast, getD_at hp]
      exact Ev.yes (strEq_self _) (Ev.now _))
    (Ev.step (fun k => slices_Index_l.eq k tasteL ts (tasteL.length : Int) (tasteL.length : Int)) (Ev.no (not_lt_nat (Nat.lt_irrefl _)) (Ev.now _))) tasteL.length 0 (by omega)
  have ht : Ev (fun k => impl_tastes k ()) tasteL := Ev.step (fun k => impl_tastes.eq k) (Ev.now _)
  have go : ∀ r, Ev (fun k => (slices_Index_l k (tasteL, ts, (tasteL.length : Int), ((0 : Nat) : Int))).bind fun r1 => r1.elim (fun r2 => some r2) (fun r3 => some (-1))) r → Ev (fun k => impl_IsTaste k ts) (decide (r ≥ 0)) := fun r H =>
    Ev.step (fun k => impl_IsTaste.eq k ts) (Ev.bind ht (Ev.bind (Ev.step (fun k => slices_Contains.eq k tasteL ts) (Ev.bind (Ev.step (fun k => slices_Index.eq k tasteL ts) H) (Ev.now _))) (Ev.now _)))
  rcases srch with ⟨h1, h2⟩ | ⟨j, _, hj, hp, _, h2⟩
  · refine ⟨_, go _ (Ev.bind h2 (Ev.now _)), ⟨fun h => by simp at h, fun hm => ?_⟩⟩
    obtain ⟨i, hi⟩ := List.mem_iff_getElem?.1 hm
    exact absurd hi (h1 i (Nat.zero_le _) (List.getElem?_eq_some_iff.1 hi).1)
  · exact ⟨_, go _ (Ev.bind h2 (Ev.now _)), ⟨fun _ => List.mem_of_getElem? hp, fun _ => decide_eq_true (by omega)⟩⟩
theorem longest_l_ev (w h : Int) (ri dn : ByteArray) (x y wy : Int) (H : WormOk w h ri dn x y wy) : ∀ (m i : Nat) (out : List ByteArray) (most : Int), i + m = tasteL.length → out.length ≤ i → ∃ R : List ByteArray × Int, R.1.length ≤ 6 ∧ Ev (fun k => spec_LongestLife_l k ((w, h, ri, dn, x, y, wy), out, most, tasteL, (tasteL.length : Int), (i : Int))) R ∧
    Ev (fun k => impl_LongestLife_l k ((w, h, ri, dn, x, y, wy), out, most, tasteL, (tasteL.length : Int), (i : Int))) R := by
  intro m
  induction m with
  | zero =>
    intro i out most hi ho
    have h6 : tasteL.length = 6 := rfl
    exact ⟨(out, most), by show out.length ≤ 6; omega, Ev.step (fun k => spec_LongestLife_l.eq k w h ri dn x y wy out most tasteL (tasteL.length : Int) (i : Int)) (Ev.no (not_lt_nat (by omega)) (Ev.now _)), Ev.step (fun k => impl_LongestLife_l.eq k w h ri dn x y wy out most tasteL (tasteL.length : Int) (i : Int)) (Ev.no (not_lt_nat (by omega)) (Ev.now _))⟩
  | succ m ih =>
    intro i out most hi ho
    have h6 : tasteL.length = 6 := rfl
    obtain ⟨t, ht⟩ := nat_list (l := tasteL) (i := i) (by omega)
    obtain ⟨t1, t2⟩ := tasteL_ok t (List.mem_of_getElem? ht)
    obtain ⟨W', tr, sg, p1, p2, p3, p4⟩ := life_ev w h ri dn x y wy H t t1 t2
    have S : ∀ r, Ev (fun k => cond (decide ((sg.size : Int) > most)) (cond ((sg.size : Int) == (sg.size : Int)) (cond (fits 1 16) (spec_LongestLife_l k ((w, h, ri, dn, x, y, wy), [t], (sg.size : Int), tasteL, (tasteL.length : Int), w64 ((i : Int) + 1))) none) (spec_LongestLife_l k ((w, h, ri, dn, x, y, wy), [], (sg.size : Int), tasteL, (tasteL.length : Int), w64 ((i : Int) + 1))))
        (cond ((sg.size : Int) == most) (cond (fits (out.length + 1) 16) (spec_LongestLife_l k ((w, h, ri, dn, x, y, wy), out ++ [t], most, tasteL, (tasteL.length : Int), w64 ((i : Int) + 1))) none) (spec_LongestLife_l k ((w, h, ri, dn, x, y, wy), out, most, tasteL, (tasteL.length : Int), w64 ((i : Int) + 1))))) r → Ev (fun k => spec_LongestLife_l k ((w, h, ri, dn, x, y, wy), out, most, tasteL, (tasteL.length : Int), (i : Int))) r := fun r Hr => by
      refine Ev.step (fun k => spec_LongestLife_l.eq k w h ri dn x y wy out most tasteL (tasteL.length : Int) (i : Int)) (Ev.yes (lt_nat (by omega)) (Ev.yes (inB_nat (by omega)) ?_))
      rw [Int.toNat_natCast, getD_at ht]
      exact Ev.bind p1 Hr
    have I : ∀ r, Ev (fun k => cond (decide ((sg.size : Int) > most)) (cond ((sg.size : Int) == (sg.size : Int)) (cond (fits 1 16) (impl_LongestLife_l k ((w, h, ri, dn, x, y, wy), [t], (sg.size : Int), tasteL, (tasteL.length : Int), w64 ((i : Int) + 1))) none) (impl_LongestLife_l k ((w, h, ri, dn, x, y, wy), [], (sg.size : Int), tasteL, (tasteL.length : Int), w64 ((i : Int) + 1))))
        (cond ((sg.size : Int) == most) (cond (fits (out.length + 1) 16) (impl_LongestLife_l k ((w, h, ri, dn, x, y, wy), out ++ [t], most, tasteL, (tasteL.length : Int), w64 ((i : Int) + 1))) none) (impl_LongestLife_l k ((w, h, ri, dn, x, y, wy), out, most, tasteL, (tasteL.length : Int), w64 ((i : Int) + 1))))) r → Ev (fun k => impl_LongestLife_l k ((w, h, ri, dn, x, y, wy), out, most, tasteL, (tasteL.length : Int), (i : Int))) r := fun r Hr => by
      refine Ev.step (fun k => impl_LongestLife_l.eq k w h ri dn x y wy out most tasteL (tasteL.length : Int) (i : Int)) (Ev.yes (lt_nat (by omega)) (Ev.yes (inB_nat (by omega)) ?_))
      rw [Int.toNat_natCast, getD_at ht]
      exact Ev.bind p2 Hr
    rw [w64_succ (by omega)] at S I
    by_cases c1 : (sg.size : Int) > most
    · obtain ⟨R, r0, r1, r2⟩ := ih (i + 1) [t] (sg.size : Int) (by omega) (by simp)
      exact ⟨R, r0, S _ (Ev.yes (decide_eq_true c1) (Ev.yes (by simp) (Ev.yes rfl r1))), I _ (Ev.yes (decide_eq_true c1) (Ev.yes (by simp) (Ev.yes rfl r2)))⟩
    · by_cases c2 : (sg.size : Int) = most
      · obtain ⟨R, r0, r1, r2⟩ := ih (i + 1) (out ++ [t]) most (by omega) (by simp; omega)
        exact ⟨R, r0, S _ (Ev.no (decide_eq_false c1) (Ev.yes (beq_iff_eq.2 c2) (Ev.yes (fits_of (by omega)) r1))), I _ (Ev.no (decide_eq_false c1) (Ev.yes (beq_iff_eq.2 c2) (Ev.yes (fits_of (by omega)) r2)))⟩
      · obtain ⟨R, r0, r1, r2⟩ := ih (i + 1) out most (by omega) (by omega)
        have c3 : ((sg.size : Int) == most) = false := by rw [beq_eq_false_iff_ne]; exact c2
        exact ⟨R, r0, S _ (Ev.no (decide_eq_false c1) (Ev.no c3 r1)), I _ (Ev.no (decide_eq_false c1) (Ev.no c3 r2))⟩
end Go.Proofs.YtplamonjnlgomaaGreatDoorS
