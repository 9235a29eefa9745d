/- Worlds: a step. -/
import Derived.Test.YtplamonjnlgomaaGreatDoorPuDigits
namespace Go.Proofs.YtplamonjnlgomaaGreatDoorS
open Go
set_option linter.unusedVariables false
set_option linter.unusedSimpArgs false

abbrev Wo := ByteArray × Int × Int × ByteArray × Int × Int × Int
abbrev Cl := Int × (Int × Int)
def WorldOk (rl : ByteArray) (w h : Int) (cs : ByteArray) (x y wy : Int) : Prop :=
  RuleOk rl ∧ (1 ≤ w ∧ w ≤ 9) ∧ (1 ≤ h ∧ h ≤ 9) ∧ (cs.size : Int) = w * h ∧ CellsOk (rl.size : Int) cs ∧ (0 ≤ x ∧ x ≤ w - 1) ∧ (0 ≤ y ∧ y ≤ h - 1) ∧ (0 ≤ wy ∧ wy ≤ 3)
theorem at64 {x y w h : Int} (hx : 0 ≤ x ∧ x ≤ w - 1) (hy : 0 ≤ y ∧ y ≤ h - 1) (hw : 1 ≤ w ∧ w ≤ 9) (hh : 1 ≤ h ∧ h ≤ 9) : w64 (w64 (y * w) + x) = y * w + x := by
  obtain ⟨a1, a2, a3, a4⟩ := at_range hx hy hw hh
  rw [w64_of (n := y * w) (by omega) (by omega), w64_of (by omega) (by omega)]
theorem go1_in {n m d : Int} (h : 0 ≤ n ∧ n ≤ m - 1) (h1 : -1 ≤ d ∧ d ≤ 1) : 0 ≤ go1 n m d ∧ go1 n m d ≤ m - 1 := by
  have := go1_range (n := n) (m := m) (d := d) h.1 (by omega) h1.1 h1.2
  omega
theorem woPaint_ev (rl : ByteArray) (w h : Int) (cs : ByteArray) (X Y Wy x y p : Int) (hw : 1 ≤ w ∧ w ≤ 9) (hh : 1 ≤ h ∧ h ≤ 9) (hx : 0 ≤ x ∧ x ≤ w - 1) (hy : 0 ≤ y ∧ y ≤ h - 1) (hs : (cs.size : Int) = w * h) (hp : 0 ≤ p ∧ p ≤ 9) :
    Ev (fun k => spec_woPaint k ((rl, w, h, cs, X, Y, Wy), x, y, p)) ((), (rl, w, h, setByte cs (y * w + x).toNat (UInt8.ofNat (48 + p).toNat), X, Y, Wy)) := by
  obtain ⟨a1, a2, a3, a4⟩ := at_range hx hy hw hh
  have e0 := at64 hx hy hw hh
  have e1 : w64 (y * w + x + 1) = y * w + x + 1 := w64_of (by omega) (by omega)
  have hm := mul_range (a := w) (b := h) (by omega) (by omega) (by omega) (by omega)
  refine Ev.step (fun k => spec_woPaint.eq k rl w h cs X Y Wy x y p) ?_
  rw [e0]
  refine Ev.yes (by rw [decide_eq_true (by omega), decide_eq_true (by omega)]; rfl) (Ev.bind (l1Num_ev p hp) ?_)
  rw [e1]
  have z1 : ∀ n : Int, (ofBytes [n]).size = 1 := fun n => rfl
  have z2 : ∀ a b, (cs.extract a b).size ≤ 81 := fun a b => by rw [ByteArray.size_extract]; omega
  have z3 := z2 0 (y * w + x).toNat
  have z4 := z2 (y * w + x + 1).toNat cs.size
  refine Ev.yes (fitS_of (by rw [z1]; omega)) (Ev.yes (by rw [decide_eq_true (by omega), decide_eq_true (by omega)]; rfl) (Ev.yes (fitS_of (by rw [ByteArray.size_append, z1]; omega)) (Ev.now' ?_)))
  rw [show (y * w + x + 1).toNat = (y * w + x).toNat + 1 by omega, setByte_b cs _ _ (by omega)]
theorem woGo_ev (rl : ByteArray) (w h : Int) (cs : ByteArray) (x y way : Int) (hw : 1 ≤ w ∧ w ≤ 9) (hh : 1 ≤ h ∧ h ≤ 9) (hx : 0 ≤ x ∧ x ≤ w - 1) (hy : 0 ≤ y ∧ y ≤ h - 1) (hway : 0 ≤ way ∧ way ≤ 3) :
    Ev (fun k => spec_woGo k ((rl, w, h, cs, x, y, way), 1)) ((), (rl, w, h, cs, go1 x w (1 * dxW way), go1 y h (1 * dyW way), way)) := by
  have e1 : w64 (y - 1) = y + -1 := by rw [w64_of (by omega) (by omega)]; omega
  have e2 : w64 (x + 1) = x + 1 := w64_of (by omega) (by omega)
  have e3 : w64 (y + 1) = y + 1 := w64_of (by omega) (by omega)
  have e4 : w64 (x - 1) = x + -1 := by rw [w64_of (by omega) (by omega)]; omega
  have : way = 0 ∨ way = 1 ∨ way = 2 ∨ way = 3 := by omega
  rcases this with rfl | rfl | rfl | rfl
  · refine Ev.step (fun k => spec_woGo.eq k rl w h cs x y 0 1) (Ev.yes rfl ?_)
    rw [e1]
    refine Ev.bind (l1Mod_ev y h (-1) hy hh (by omega)) (Ev.now' ?_)
    show ((), (rl, w, h, cs, x, go1 y h (-1), (0 : Int))) = ((), (rl, w, h, cs, go1 x w 0, go1 y h (-1), (0 : Int)))
    rw [go1_zero hx]
  · refine Ev.step (fun k => spec_woGo.eq k rl w h cs x y 1 1) (Ev.no rfl (Ev.yes rfl ?_))
    rw [e2]
    refine Ev.bind (l1Mod_ev x w 1 hx hw (by omega)) (Ev.now' ?_)
    show ((), (rl, w, h, cs, go1 x w 1, y, (1 : Int))) = ((), (rl, w, h, cs, go1 x w 1, go1 y h 0, (1 : Int)))
    rw [go1_zero hy]
  · refine Ev.step (fun k => spec_woGo.eq k rl w h cs x y 2 1) (Ev.no rfl (Ev.no rfl (Ev.yes rfl ?_)))
    rw [e3]
    refine Ev.bind (l1Mod_ev y h 1 hy hh (by omega)) (Ev.now' ?_)
    show ((), (rl, w, h, cs, x, go1 y h 1, (2 : Int))) = ((), (rl, w, h, cs, go1 x w 0, go1 y h 1, (2 : Int)))
    rw [go1_zero hx]
  · refine Ev.step (fun k => spec_woGo.eq k rl w h cs x y 3 1) (Ev.no rfl (Ev.no rfl (Ev.no rfl ?_)))
    rw [e4]
    refine Ev.bind (l1Mod_ev x w (-1) hx hw (by omega)) (Ev.now' ?_)
    show ((), (rl, w, h, cs, go1 x w (-1), y, (3 : Int))) = ((), (rl, w, h, cs, go1 x w (-1), go1 y h 0, (3 : Int)))
    rw [go1_zero hy]
theorem wstep_ev (rl : ByteArray) (w h : Int) (cs : ByteArray) (x y wy : Int) (H : WorldOk rl w h cs x y wy) : ∃ cs' x' y' wy', Ev (fun k => impl_World_step k (rl, w, h, cs, x, y, wy)) (rl, w, h, cs', x', y', wy') ∧
    Ev (fun k => spec_woStep k (rl, w, h, cs, x, y, wy)) (rl, w, h, cs', x', y', wy') ∧ WorldOk rl w h cs' x' y' wy' := by
  obtain ⟨hR, hw, hh, hs, hcs, hx, hy, hwy⟩ := H
  obtain ⟨hr6, hsg⟩ := id hR
  obtain ⟨a1, a2, a3, a4⟩ := at_range hx hy hw hh
  have hm := mul_range (a := w) (b := h) (by omega) (by omega) (by omega) (by omega)
  obtain ⟨c, hc⟩ := byte_at (cs := cs) (i := (y * w + x).toNat) (by omega)
  obtain ⟨c48, cti⟩ := hcs c (List.mem_of_getElem? hc)
  have hclt := c.toNat_lt
  obtain ⟨b, hb⟩ := byte_at (cs := rl) (i := ((c.toNat : Int) - 48).toNat) (by omega)
  have hbt : bt rl ((c.toNat : Int) - 48).toNat = (b.toNat : Int) := bt_at hb
  have eA := at64 hx hy hw hh
  have eC : w64 (w8 (bt cs (y * w + x).toNat - 48)) = (c.toNat : Int) - 48 := by rw [bt_at hc, w8_of (by omega) (by omega), w64_of (by omega) (by omega)]
  obtain ⟨q0, q3⟩ := quartersB_range (b.toNat : Int)
  have eW : (w64 (wy + quartersB (b.toNat : Int))).tmod 4 = (wy + quartersB (b.toNat : Int)) % 4 := by rw [w64_of (by omega) (by omega), Int.tmod_eq_emod_of_nonneg (by omega)]
  have hwz : 0 ≤ (wy + quartersB (b.toNat : Int)) % 4 ∧ (wy + quartersB (b.toNat : Int)) % 4 ≤ 3 := by omega
  generalize (wy + quartersB (b.toNat : Int)) % 4 = wz at eW hwz
  have hl0 : (0 : Int) < (rl.size : Int) := by omega
  have eP : (w64 ((c.toNat : Int) - 48 + 1)).tmod (rl.size : Int) = ((c.toNat : Int) - 48 + 1) % (rl.size : Int) := by rw [w64_of (by omega) (by omega), Int.tmod_eq_emod_of_nonneg (by omega)]
  have hP : 0 ≤ ((c.toNat : Int) - 48 + 1) % (rl.size : Int) ∧ ((c.toNat : Int) - 48 + 1) % (rl.size : Int) ≤ (rl.size : Int) - 1 := by
    have p1 := Int.emod_nonneg ((c.toNat : Int) - 48 + 1) (show (rl.size : Int) ≠ 0 by omega)
    have p2 := Int.emod_lt_of_pos ((c.toNat : Int) - 48 + 1) hl0
    omega
  generalize ((c.toNat : Int) - 48 + 1) % (rl.size : Int) = p at eP hP
  have hinA : inB (y * w + x) cs.size = true := inB_of a3 (by omega)
  have hinC : inB ((c.toNat : Int) - 48) rl.size = true := inB_of (by omega) (by omega)
  have hne : ((rl.size : Int) != 0) = true := by rw [bne_iff_ne]; omega
  obtain ⟨⟨d1, d2⟩, d3, d4⟩ := dW_range wz
  refine ⟨setByte cs (y * w + x).toNat (UInt8.ofNat (48 + p).toNat), go1 x w (1 * dxW wz), go1 y h (1 * dyW wz), wz, ?_, ?_, hR, hw, hh, by rw [setByte_size]; exact hs, cells_set hcs _ hP (by omega), go1_in hx (by omega), go1_in hy (by omega), hwz⟩
  · refine Ev.step (fun k => impl_World_step.eq k rl w h cs x y wy) (Ev.bind (colour_ev _ w h cs x y wy hw hh hx hy hs hc c48) (Ev.yes hinC ?_))
    rw [hbt]
    refine Ev.bind (quarters_ev _) ?_
    simp only [eW, eP]
    exact Ev.bind (Ev.step (fun k => impl_World_at.eq k rl w h cs x y wz) (Ev.now' eA)) (Ev.yes hne (Ev.bind (painted_ev cs _ p ⟨a3, by omega⟩ (by omega)) (Ev.bind (gone_ev _ w h _ x y wz 1 hw hh hx hy hwz (.inl rfl)) (Ev.now _))))
  · refine Ev.step (fun k => spec_woStep.eq k rl w h cs x y wy) (Ev.bind (a := (c.toNat : Int) - 48) (Ev.step (fun k => spec_woColour.eq k rl w h cs x y wy x y) (by rw [eA]; exact Ev.yes hinA (Ev.now' eC))) (Ev.yes hinC ?_))
    rw [hbt]
    refine Ev.bind (woTurn_ev _) ?_
    simp only [eW, eP]
    exact Ev.yes hne (Ev.bind (woPaint_ev rl w h cs x y wz x y p hw hh hx hy hs (by omega)) (Ev.bind (woGo_ev rl w h _ x y wz hw hh hx hy hwz) (Ev.now _)))
end Go.Proofs.YtplamonjnlgomaaGreatDoorS
