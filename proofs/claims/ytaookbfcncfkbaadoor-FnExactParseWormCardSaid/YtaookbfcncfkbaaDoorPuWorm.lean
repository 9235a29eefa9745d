/- Worms: what is one, a bite, a life. -/
import Derived.Test.YtaookbfcncfkbaaDoorPuBase
import Derived.Laws.RangeString
namespace Go.Proofs.YtaookbfcncfkbaaDoorS
open Go
set_option linter.unusedVariables false
set_option linter.unusedSimpArgs false

def WormOk (w h : Int) (ri dn : ByteArray) (x y wy : Int) : Prop :=
  (3 ≤ w ∧ w ≤ 6) ∧ (3 ≤ h ∧ h ≤ 6) ∧ ((ri.size : Int) = w * h ∧ (dn.size : Int) = w * h) ∧ (CellsOk 2 ri ∧ CellsOk 2 dn) ∧ (0 ≤ x ∧ x ≤ w - 1) ∧ (0 ≤ y ∧ y ≤ h - 1) ∧ (0 ≤ wy ∧ wy ≤ 3)
section
variable (w h : Int) (ri dn : ByteArray) (x y wy : Int) (hri : ri.size ≤ 1048576) (hdn : dn.size ≤ 1048576)
include hri hdn
theorem isWorm_ev : EvB (fun k => impl_IsWorm k (w, h, ri, dn, x, y, wy)) (WormOk w h ri dn x y wy) := by
  have H : EvB (fun k => impl_IsWorm k (w, h, ri, dn, x, y, wy)) (((3 ≤ w ∧ w ≤ 6) ∧ (3 ≤ h ∧ h ≤ 6)) ∧ ((CellsOk 2 ri ∧ (ri.size : Int) = w * h) ∧ ((CellsOk 2 dn ∧ (dn.size : Int) = w * h) ∧ ((0 ≤ x ∧ x ≤ w - 1) ∧ ((0 ≤ y ∧ y ≤ h - 1) ∧ (0 ≤ wy ∧ wy ≤ 3)))))) := by
    refine EvB.step (fun k => impl_IsWorm.eq k w h ri dn x y wy) (EvB.and (EvB.step (fun k => impl_isGrid.eq k w h) (EvB.and (within_ev w 3 6) fun _ => (within_ev h 3 6).ret)) fun hs => ?_)
    have hm := mul_range (a := w) (b := h) (by omega) (by omega) (by omega) (by omega)
    rw [w64_of (n := w * h) (by omega) (by omega)]
    exact EvB.and (areCells_ev 2 (by omega) ri (by omega) (w * h)) fun _ => EvB.and (areCells_ev 2 (by omega) dn (by omega) (w * h)) fun _ => (isAnt_ev w h x y wy (by omega) (by omega)).ret
  exact H.iff ⟨fun q => ⟨q.1.1, q.1.2, ⟨q.2.1.2, q.2.2.1.2⟩, ⟨q.2.1.1, q.2.2.1.1⟩, q.2.2.2⟩, fun q => ⟨⟨q.1, q.2.1⟩, ⟨q.2.2.2.1.1, q.2.2.1.1⟩, ⟨q.2.2.2.1.2, q.2.2.1.2⟩, q.2.2.2.2⟩⟩
theorem wmGood_ev : EvB (fun k => spec_wmGood k (w, h, ri, dn, x, y, wy)) (WormOk w h ri dn x y wy) := by
  have _ := hdn
  refine EvB.step (fun k => spec_wmGood.eq k w h ri dn x y wy) (EvB.and' (l1In_ev w 3 6) fun hw => EvB.and' (l1In_ev h 3 6) fun hh => ?_)
  have hm := mul_range (a := w) (b := h) (by omega) (by omega) (by omega) (by omega)
  rw [w64_of (n := w * h) (by omega) (by omega)]
  have B1 : ∀ c : UInt8, (((c.toNat : Int) != 48) = false ↔ c.toNat = 48) ∧ (((c.toNat : Int) != 49) = false ↔ c.toNat = 49) := fun c => by
    rw [bne_eq_false_iff_eq, bne_eq_false_iff_eq]
    omega
  let Q : Nat → Prop := fun i => ∃ c d : UInt8, ri.data.toList[i]? = some c ∧ dn.data.toList[i]? = some d ∧ ¬ ((48 ≤ c.toNat ∧ (c.toNat : Int) ≤ 47 + 2) ∧ (48 ≤ d.toNat ∧ (d.toNat : Int) ≤ 47 + 2))
  have main : (dn.size : Int) = (ri.size : Int) → EvB (fun k => (spec_wmGood_l k ((w, h, ri, dn, x, y, wy), 0)).bind fun r3 => r3.elim (fun r4 => some r4) (fun r5 => (spec_l1In k (r5.2.2.2.2.1, 0, w64 (r5.1 - 1))).bind fun r6 => cond r6 ((spec_l1In k (r5.2.2.2.2.2.1, 0, w64 (r5.2.1 - 1))).bind fun r7 => cond r7 ((spec_l1In k (r5.2.2.2.2.2.2, 0, 3)).bind fun r8 => some r8) (some false)) (some false)))
      ((CellsOk 2 ri ∧ CellsOk 2 dn) ∧ (0 ≤ x ∧ x ≤ w - 1) ∧ (0 ≤ y ∧ y ≤ h - 1) ∧ (0 ≤ wy ∧ wy ≤ 3)) := fun hsz => by
    have both : ∀ i, i < ri.size → ∃ c d : UInt8, ri.data.toList[i]? = some c ∧ dn.data.toList[i]? = some d := fun i hi => by
      obtain ⟨c, hc⟩ := byte_at (cs := ri) hi
      obtain ⟨d, hd⟩ := byte_at (cs := dn) (i := i) (by omega)
      exact ⟨c, d, hc, hd⟩
    have step : ∀ (i : Nat) (c d : UInt8), ri.data.toList[i]? = some c → dn.data.toList[i]? = some d → ∀ r, Ev (fun k => cond ((c.toNat : Int) != 48) (cond ((c.toNat : Int) != 49) (some (.inl false)) (cond ((d.toNat : Int) != 48) (cond ((d.toNat : Int) != 49) (some (.inl false)) (spec_wmGood_l k ((w, h, ri, dn, x, y, wy), w64 ((i : Int) + 1)))) (spec_wmGood_l k ((w, h, ri, dn, x, y, wy), w64 ((i : Int) + 1)))))
        (cond ((d.toNat : Int) != 48) (cond ((d.toNat : Int) != 49) (some (.inl false)) (spec_wmGood_l k ((w, h, ri, dn, x, y, wy), w64 ((i : Int) + 1)))) (spec_wmGood_l k ((w, h, ri, dn, x, y, wy), w64 ((i : Int) + 1))))) r → Ev (fun k => spec_wmGood_l k ((w, h, ri, dn, x, y, wy), (i : Int))) r := fun i c d hc hd r H => by
      have hi : i < ri.size := by rw [size_list]; exact (List.getElem?_eq_some_iff.1 hc).1
      have i1 : inB (i : Int) ri.size = true := inB_nat hi
      have i2 : inB (i : Int) dn.size = true := inB_nat (by omega)
      refine Ev.step (fun k => spec_wmGood_l.eq k w h ri dn x y wy (i : Int)) ?_
      rw [Int.toNat_natCast, bt_at hc, bt_at hd]
      simp only [i1, i2, lt_nat hi, cond_true]
      exact H
    have srch := Ev.search (L := fun k i => spec_wmGood_l k ((w, h, ri, dn, x, y, wy), i)) (n := ri.size) Q (fun i => .inl false) (.inr (w, h, ri, dn, x, y, wy))
      (fun i hi hp r H => by
        obtain ⟨c, d, hc, hd⟩ := both i hi
        have hr : (48 ≤ c.toNat ∧ (c.toNat : Int) ≤ 47 + 2) ∧ (48 ≤ d.toNat ∧ (d.toNat : Int) ≤ 47 + 2) := Classical.byContradiction fun hn => hp ⟨c, d, hc, hd, hn⟩
        have H' : Ev (fun k => spec_wmGood_l k ((w, h, ri, dn, x, y, wy), w64 ((i : Int) + 1))) r := by rw [w64_succ (by omega)]; exact H
        have D : Ev (fun k => cond ((d.toNat : Int) != 48) (cond ((d.toNat : Int) != 49) (some (.inl false)) (spec_wmGood_l k ((w, h, ri, dn, x, y, wy), w64 ((i : Int) + 1)))) (spec_wmGood_l k ((w, h, ri, dn, x, y, wy), w64 ((i : Int) + 1)))) r := by
          by_cases h4 : d.toNat = 48
          · exact Ev.no ((B1 d).1.2 h4) H'
          · exact Ev.yes (by rw [bne_iff_ne]; omega) (Ev.no ((B1 d).2.2 (by omega)) H')
        refine step i c d hc hd r ?_
        by_cases h4 : c.toNat = 48
        · exact Ev.no ((B1 c).1.2 h4) D
        · exact Ev.yes (by rw [bne_iff_ne]; omega) (Ev.no ((B1 c).2.2 (by omega)) D))
      (fun i hi hp => by
        obtain ⟨c, d, hc, hd, hn⟩ := hp
        refine step i c d hc hd _ ?_
        have D : ¬ (48 ≤ d.toNat ∧ (d.toNat : Int) ≤ 47 + 2) → Ev (fun k => cond ((d.toNat : Int) != 48) (cond ((d.toNat : Int) != 49) (some (.inl false)) (spec_wmGood_l k ((w, h, ri, dn, x, y, wy), w64 ((i : Int) + 1)))) (spec_wmGood_l k ((w, h, ri, dn, x, y, wy), w64 ((i : Int) + 1)))) (.inl false) := fun h4 =>
          Ev.yes (by rw [bne_iff_ne]; omega) (Ev.yes (by rw [bne_iff_ne]; omega) (Ev.now _))
        by_cases h4 : c.toNat = 48
        · exact Ev.no ((B1 c).1.2 h4) (D (by omega))
        · refine Ev.yes (by rw [bne_iff_ne]; omega) ?_
          by_cases h5 : c.toNat = 49
          · exact Ev.no ((B1 c).2.2 h5) (D (by omega))
          · exact Ev.yes (by rw [bne_iff_ne]; omega) (Ev.now _))
      (Ev.step (fun k => spec_wmGood_l.eq k w h ri dn x y wy (ri.size : Int)) (Ev.no (not_lt_nat (Nat.lt_irrefl _)) (Ev.now _))) ri.size 0 (by omega)
    rcases srch with ⟨h1, h2⟩ | ⟨j, _, hj, ⟨c, d, hc, hd, hn⟩, _, h2⟩
    · have hcs : CellsOk 2 ri ∧ CellsOk 2 dn := by
        refine ⟨fun c hm => ?_, fun d hm => ?_⟩
        · obtain ⟨i, hi⟩ := List.mem_iff_getElem?.1 hm
          have hlt : i < ri.size := by rw [size_list]; exact (List.getElem?_eq_some_iff.1 hi).1
          obtain ⟨c', d, hc, hd⟩ := both i hlt
          rw [hi] at hc
          cases hc
          exact Classical.byContradiction fun hn => h1 i (Nat.zero_le _) hlt ⟨c, d, hi, hd, fun q => hn q.1⟩
        · obtain ⟨i, hi⟩ := List.mem_iff_getElem?.1 hm
          have hlt : i < ri.size := by have := (List.getElem?_eq_some_iff.1 hi).1; rw [← size_list] at this; omega
          obtain ⟨c, d', hc, hd⟩ := both i hlt
          rw [hi] at hd
          cases hd
          exact Classical.byContradiction fun hn => h1 i (Nat.zero_le _) hlt ⟨c, d, hc, hi, fun q => hn q.2⟩
      have rest : EvB (fun k => (spec_l1In k (x, 0, w64 (w - 1))).bind fun r6 => cond r6 ((spec_l1In k (y, 0, w64 (h - 1))).bind fun r7 => cond r7 ((spec_l1In k (wy, 0, 3)).bind fun r8 => some r8) (some false)) (some false)) ((0 ≤ x ∧ x ≤ w - 1) ∧ (0 ≤ y ∧ y ≤ h - 1) ∧ (0 ≤ wy ∧ wy ≤ 3)) := by
        rw [w64_of (n := w - 1) (by omega) (by omega), w64_of (n := h - 1) (by omega) (by omega)]
        exact EvB.and (l1In_ev _ _ _) fun _ => EvB.and (l1In_ev _ _ _) fun _ => (l1In_ev _ _ _).ret
      obtain ⟨b, q1, q2⟩ := rest
      exact ⟨b, Ev.bind h2 q1, q2.trans ⟨fun q => ⟨hcs, q⟩, fun q => q.2⟩⟩
    · refine ⟨false, Ev.bind h2 (Ev.now _), ⟨nofun, fun H => absurd ?_ hn⟩⟩
      exact ⟨H.1.1 c (List.mem_of_getElem? hc), H.1.2 d (List.mem_of_getElem? hd)⟩
  have H := EvB.ifN (b := ((ri.size : Int) != w * h)) (P := (ri.size : Int) = w * h) (by rw [bne_eq_false_iff_eq]) fun _ => EvB.ifN (b := ((dn.size : Int) != (ri.size : Int))) (P := (dn.size : Int) = (ri.size : Int)) (by rw [bne_eq_false_iff_eq]) main
  exact H.iff ⟨fun q => ⟨⟨q.1, by rw [q.2.1, q.1]⟩, q.2.2⟩, fun q => ⟨q.1.1, by rw [q.1.1, q.1.2], q.2⟩⟩
end
/-! ### Sizes -/
end Go.Proofs.YtaookbfcncfkbaaDoorS
