/- Worlds: a step and a step back, as functions; many steps. -/
import Derived.Test.YtplamonjnlgomaaGreatDoorPuGo
namespace Go.Proofs.YtplamonjnlgomaaGreatDoorS
open Go
set_option linter.unusedVariables false
set_option linter.unusedSimpArgs false

def OkO (W : Wo) : Prop := WorldOk W.1 W.2.1 W.2.2.1 W.2.2.2.1 W.2.2.2.2.1 W.2.2.2.2.2.1 W.2.2.2.2.2.2
abbrev zeroO : Wo := (ByteArray.empty, 0, 0, ByteArray.empty, 0, 0, 0)
def colB (w : Int) (cs : ByteArray) (x y : Int) : Int := bt cs (y * w + x).toNat - 48
def putB (w : Int) (cs : ByteArray) (x y p : Int) : ByteArray := setByte cs (y * w + x).toNat (UInt8.ofNat (48 + p).toNat)
def wayB (rl : ByteArray) (c wy : Int) : Int := (wy + quartersB (bt rl c.toNat)) % 4
def stepO : Wo → Wo
  | (rl, w, h, cs, x, y, wy) => (rl, w, h, putB w cs x y ((colB w cs x y + 1) % (rl.size : Int)), go1 x w (1 * dxW (wayB rl (colB w cs x y) wy)), go1 y h (1 * dyW (wayB rl (colB w cs x y) wy)), wayB rl (colB w cs x y) wy)
def preX (w x wy : Int) : Int := go1 x w (-1 * dxW wy)
def preY (h y wy : Int) : Int := go1 y h (-1 * dyW wy)
def preC (rl : ByteArray) (w h : Int) (cs : ByteArray) (x y wy : Int) : Int := (colB w cs (preX w x wy) (preY h y wy) - 1) % (rl.size : Int)
def backO : Wo → Wo
  | (rl, w, h, cs, x, y, wy) => (rl, w, h, putB w cs (preX w x wy) (preY h y wy) (preC rl w h cs x y wy), preX w x wy, preY h y wy, (wy - quartersB (bt rl (preC rl w h cs x y wy).toNat)) % 4)
section
variable {rl : ByteArray} {w h : Int} {cs : ByteArray} {x y wy : Int}
theorem cell_ex (hw : 1 ≤ w ∧ w ≤ 9) (hh : 1 ≤ h ∧ h ≤ 9) (hs : (cs.size : Int) = w * h) (hcs : CellsOk (rl.size : Int) cs) (hx : 0 ≤ x ∧ x ≤ w - 1) (hy : 0 ≤ y ∧ y ≤ h - 1) : ∃ c : UInt8, cs.data.toList[(y * w + x).toNat]? = some c ∧ colB w cs x y = (c.toNat : Int) - 48 ∧ 48 ≤ c.toNat ∧ (c.toNat : Int) ≤ 47 + (rl.size : Int) := by
  obtain ⟨a1, a2, a3, a4⟩ := at_range hx hy hw hh
  obtain ⟨c, hc⟩ := byte_at (cs := cs) (i := (y * w + x).toNat) (by omega)
  obtain ⟨c48, cti⟩ := hcs c (List.mem_of_getElem? hc)
  exact ⟨c, hc, by unfold colB; rw [bt_at hc], c48, cti⟩
theorem put_same (hw : 1 ≤ w ∧ w ≤ 9) (hh : 1 ≤ h ∧ h ≤ 9) (hs : (cs.size : Int) = w * h) (hcs : CellsOk (rl.size : Int) cs) (hx : 0 ≤ x ∧ x ≤ w - 1) (hy : 0 ≤ y ∧ y ≤ h - 1) (p : Int) (hp : 0 ≤ p ∧ p ≤ 9) : colB w (putB w cs x y p) x y = p ∧ putB w (putB w cs x y p) x y (colB w cs x y) = cs := by
  obtain ⟨c, hc, e, c48, _⟩ := cell_ex hw hh hs hcs hx hy
  obtain ⟨a1, a2, a3, a4⟩ := at_range hx hy hw hh
  constructor
  · unfold colB putB
    rw [bt_set _ (by omega), if_pos rfl, toNat_ofNat8 (by omega)]
    omega
  · unfold putB
    rw [e, of_digit c48]
    exact set_twice hc
end
theorem put_put (w : Int) (cs : ByteArray) (x y p q : Int) : putB w (putB w cs x y p) x y q = putB w cs x y q := by
  apply ba_ext
  unfold putB setByte
  show ((cs.data.toList.set _ _).set _ _) = cs.data.toList.set _ _
  rw [List.set_set]
theorem step_ev : ∀ W : Wo, OkO W → Ev (fun k => impl_World_step k W) (stepO W) ∧ Ev (fun k => spec_woStep k W) (stepO W) ∧ OkO (stepO W)
  | (rl, w, h, cs, x, y, wy), H => by
    obtain ⟨hR, hw, hh, hs, hcs, hx, hy, hwy⟩ : WorldOk rl w h cs x y wy := H
    obtain ⟨hr6, hsg⟩ := id hR
    obtain ⟨a1, a2, a3, a4⟩ := at_range hx hy hw hh
    have hm := mul_range (a := w) (b := h) (by omega) (by omega) (by omega) (by omega)
    obtain ⟨c, hc, eqc, c48, cti⟩ := cell_ex hw hh hs hcs hx hy
    have hclt := c.toNat_lt
    obtain ⟨b, hb⟩ := byte_at (cs := rl) (i := ((c.toNat : Int) - 48).toNat) (by omega)
    have hbt : bt rl ((c.toNat : Int) - 48).toNat = (b.toNat : Int) := bt_at hb
    have eA := at64 hx hy hw hh
    have eC : w64 (w8 (bt cs (y * w + x).toNat - 48)) = (c.toNat : Int) - 48 := by rw [bt_at hc, w8_of (by omega) (by omega), w64_of (by omega) (by omega)]
    obtain ⟨q0, q3⟩ := quartersB_range (b.toNat : Int)
    have eW : (w64 (wy + quartersB (b.toNat : Int))).tmod 4 = wayB rl (colB w cs x y) wy := by
      unfold wayB
      rw [eqc, hbt, w64_of (by omega) (by omega), Int.tmod_eq_emod_of_nonneg (by omega)]
    have hwz : 0 ≤ wayB rl (colB w cs x y) wy ∧ wayB rl (colB w cs x y) wy ≤ 3 := by unfold wayB; omega
    have hl0 : (0 : Int) < (rl.size : Int) := by omega
    have eP : (w64 ((c.toNat : Int) - 48 + 1)).tmod (rl.size : Int) = (colB w cs x y + 1) % (rl.size : Int) := by rw [eqc, w64_of (by omega) (by omega), Int.tmod_eq_emod_of_nonneg (by omega)]
    have hP : 0 ≤ (colB w cs x y + 1) % (rl.size : Int) ∧ (colB w cs x y + 1) % (rl.size : Int) ≤ (rl.size : Int) - 1 := by
      have p1 := Int.emod_nonneg (colB w cs x y + 1) (show (rl.size : Int) ≠ 0 by omega)
      have p2 := Int.emod_lt_of_pos (colB w cs x y + 1) hl0
      omega
    show Ev (fun k => impl_World_step k (rl, w, h, cs, x, y, wy)) (rl, w, h, putB w cs x y ((colB w cs x y + 1) % (rl.size : Int)), go1 x w (1 * dxW (wayB rl (colB w cs x y) wy)), go1 y h (1 * dyW (wayB rl (colB w cs x y) wy)), wayB rl (colB w cs x y) wy) ∧
      Ev (fun k => spec_woStep k (rl, w, h, cs, x, y, wy)) (rl, w, h, putB w cs x y ((colB w cs x y + 1) % (rl.size : Int)), go1 x w (1 * dxW (wayB rl (colB w cs x y) wy)), go1 y h (1 * dyW (wayB rl (colB w cs x y) wy)), wayB rl (colB w cs x y) wy) ∧
      WorldOk rl w h (putB w cs x y ((colB w cs x y + 1) % (rl.size : Int))) (go1 x w (1 * dxW (wayB rl (colB w cs x y) wy))) (go1 y h (1 * dyW (wayB rl (colB w cs x y) wy))) (wayB rl (colB w cs x y) wy)
    generalize wayB rl (colB w cs x y) wy = wz at eW hwz
    generalize (colB w cs x y + 1) % (rl.size : Int) = p at eP hP
    have hinA : inB (y * w + x) cs.size = true := inB_of a3 (by omega)
    have hinC : inB ((c.toNat : Int) - 48) rl.size = true := inB_of (by omega) (by omega)
    have hne : ((rl.size : Int) != 0) = true := by rw [bne_iff_ne]; omega
    obtain ⟨⟨d1, d2⟩, d3, d4⟩ := dW_range wz
    unfold putB
    refine ⟨?_, ?_, hR, hw, hh, by rw [setByte_size]; exact hs, cells_set hcs _ hP (by omega), go1_in hx (by omega), go1_in hy (by omega), hwz⟩
    · refine Ev.step (fun k => impl_World_step.eq k rl w h cs x y wy) (Ev.bind (colour_ev _ w h cs x y wy hw hh hx hy hs hc c48) (Ev.yes hinC ?_))
      rw [hbt]
      refine Ev.bind (quarters_ev _) ?_
      simp only [eW, eP]
      exact Ev.bind (Ev.step (fun k => impl_World_at.eq k rl w h cs x y wz) (Ev.now' eA)) (Ev.yes hne (Ev.bind (painted_ev cs _ p ⟨a3, by omega⟩ (by omega)) (Ev.bind (gone_ev _ w h _ x y wz 1 hw hh hx hy hwz (.inl rfl)) (Ev.now _))))
    · refine Ev.step (fun k => spec_woStep.eq k rl w h cs x y wy) (Ev.bind (a := (c.toNat : Int) - 48) (Ev.step (fun k => spec_woColour.eq k rl w h cs x y wy x y) (by rw [eA]; exact Ev.yes hinA (Ev.now' eC))) (Ev.yes hinC ?_))
      rw [hbt]
      refine Ev.bind (woTurn_ev _) ?_
      simp only [eW, eP]
      exact Ev.yes hne (Ev.bind (woPaint_ev rl w h cs x y wz x y p hw hh hx hy hs (by omega)) (Ev.bind (woGo_ev rl w h _ x y wz hw hh hx hy hwz) (Ev.now _)))
theorem pred_succ {c k : Int} (h : 0 ≤ c ∧ c ≤ k - 1) : ((c + 1) % k - 1) % k = c ∧ ((c - 1) % k + 1) % k = c := by
  constructor
  · rw [Int.sub_emod, Int.emod_emod, ← Int.sub_emod, show c + 1 - 1 = c by omega, Int.emod_eq_of_lt h.1 (by omega)]
  · rw [Int.add_emod, Int.emod_emod, ← Int.add_emod, show c - 1 + 1 = c by omega, Int.emod_eq_of_lt h.1 (by omega)]
theorem mod_range (c : Int) {k : Int} (hk : 1 ≤ k) : 0 ≤ c % k ∧ c % k ≤ k - 1 := by
  have p1 := Int.emod_nonneg c (show k ≠ 0 by omega)
  have p2 := Int.emod_lt_of_pos c (show 0 < k by omega)
  omega
theorem pre_in {n M d : Int} (h : 0 ≤ n ∧ n ≤ M - 1) (hd : d = 1 ∨ d = -1 ∨ d = 0) : 0 ≤ go1 n M (-1 * d) ∧ go1 n M (-1 * d) ≤ M - 1 := go1_in h (by omega)
theorem back_ok : ∀ W : Wo, OkO W → OkO (backO W)
  | (rl, w, h, cs, x, y, wy), H => by
    obtain ⟨hR, hw, hh, hs, hcs, hx, hy, hwy⟩ : WorldOk rl w h cs x y wy := H
    obtain ⟨d1, d2⟩ := dW_cases wy
    have hr6 := hR.1
    have hp := mod_range (colB w cs (preX w x wy) (preY h y wy) - 1) (k := (rl.size : Int)) (by omega)
    refine ⟨hR, hw, hh, ?_, cells_set hcs _ hp (by omega), pre_in hx d1, pre_in hy d2, ?_⟩
    · show ((setByte cs _ _).size : Int) = _
      rw [setByte_size]
      exact hs
    · show 0 ≤ (wy - _) % 4 ∧ (wy - _) % 4 ≤ 3
      omega
theorem back_step : ∀ W : Wo, OkO W → backO (stepO W) = W
  | (rl, w, h, cs, x, y, wy), H => by
    obtain ⟨hR, hw, hh, hs, hcs, hx, hy, hwy⟩ : WorldOk rl w h cs x y wy := H
    have hr6 := hR.1
    obtain ⟨c, hc, eqc, c48, cti⟩ := cell_ex hw hh hs hcs hx hy
    have hp := mod_range (colB w cs x y + 1) (k := (rl.size : Int)) (by omega)
    obtain ⟨p1, p2⟩ := put_same hw hh hs hcs hx hy ((colB w cs x y + 1) % (rl.size : Int)) (by omega)
    obtain ⟨d1, d2⟩ := dW_cases (wayB rl (colB w cs x y) wy)
    have ps := (pred_succ (c := colB w cs x y) (k := (rl.size : Int)) (by omega)).1
    have ex : preX w (go1 x w (1 * dxW (wayB rl (colB w cs x y) wy))) (wayB rl (colB w cs x y) wy) = x := by
      unfold preX
      rw [Int.one_mul, show -1 * dxW (wayB rl (colB w cs x y) wy) = -(dxW (wayB rl (colB w cs x y) wy)) by omega]
      exact back_go hx d1
    have ey : preY h (go1 y h (1 * dyW (wayB rl (colB w cs x y) wy))) (wayB rl (colB w cs x y) wy) = y := by
      unfold preY
      rw [Int.one_mul, show -1 * dyW (wayB rl (colB w cs x y) wy) = -(dyW (wayB rl (colB w cs x y) wy)) by omega]
      exact back_go hy d2
    show (rl, w, h, putB w _ _ _ _, _, _, _) = (rl, w, h, cs, x, y, wy)
    simp only [preC, ex, ey, p1, ps, p2]
    have : (wayB rl (colB w cs x y) wy - quartersB (bt rl (colB w cs x y).toNat)) % 4 = wy := by unfold wayB; omega
    rw [this]
theorem step_back : ∀ W : Wo, OkO W → stepO (backO W) = W
  | (rl, w, h, cs, x, y, wy), H => by
    obtain ⟨hR, hw, hh, hs, hcs, hx, hy, hwy⟩ : WorldOk rl w h cs x y wy := H
    have hr6 := hR.1
    obtain ⟨d1, d2⟩ := dW_cases wy
    have hx0 := pre_in hx d1
    have hy0 := pre_in hy d2
    obtain ⟨c, hc, eqc, c48, cti⟩ := cell_ex hw hh hs hcs hx0 hy0
    have hp := mod_range (colB w cs (preX w x wy) (preY h y wy) - 1) (k := (rl.size : Int)) (by omega)
    obtain ⟨p1, p2⟩ := put_same hw hh hs hcs hx0 hy0 (preC rl w h cs x y wy) (by unfold preC; omega)
    have p1 : colB w (putB w cs (preX w x wy) (preY h y wy) (preC rl w h cs x y wy)) (preX w x wy) (preY h y wy) = preC rl w h cs x y wy := p1
    have p2 : putB w (putB w cs (preX w x wy) (preY h y wy) (preC rl w h cs x y wy)) (preX w x wy) (preY h y wy) (colB w cs (preX w x wy) (preY h y wy)) = cs := p2
    have eqc : colB w cs (preX w x wy) (preY h y wy) = (c.toNat : Int) - 48 := eqc
    have ps := (pred_succ (c := colB w cs (preX w x wy) (preY h y wy)) (k := (rl.size : Int)) (by omega)).2
    have ew : wayB rl (preC rl w h cs x y wy) ((wy - quartersB (bt rl (preC rl w h cs x y wy).toNat)) % 4) = wy := by unfold wayB; omega
    have ex : go1 (preX w x wy) w (1 * dxW wy) = x := by
      unfold preX
      have := back_go (d := -1 * dxW wy) hx (by omega)
      rwa [show -(-1 * dxW wy) = 1 * dxW wy by omega] at this
    have ey : go1 (preY h y wy) h (1 * dyW wy) = y := by
      unfold preY
      have := back_go (d := -1 * dyW wy) hy (by omega)
      rwa [show -(-1 * dyW wy) = 1 * dyW wy by omega] at this
    show (rl, w, h, putB w _ _ _ _, _, _, _) = (rl, w, h, cs, x, y, wy)
    have ps' : (preC rl w h cs x y wy + 1) % (rl.size : Int) = colB w cs (preX w x wy) (preY h y wy) := ps
    rw [p1, ew, ps', p2, ex, ey]
/-! ### Many steps -/
def runO : Nat → Wo → Wo
  | 0, W => W
  | n + 1, W => runO n (stepO W)
def unrunO : Nat → Wo → Wo
  | 0, W => W
  | n + 1, W => unrunO n (backO W)
theorem step_ok (W : Wo) (H : OkO W) : OkO (stepO W) := (step_ev W H).2.2
theorem run_ok : ∀ (n : Nat) (W : Wo), OkO W → OkO (runO n W)
  | 0, W, H => H
  | n + 1, W, H => run_ok n (stepO W) (step_ok W H)
theorem unrun_ok : ∀ (n : Nat) (W : Wo), OkO W → OkO (unrunO n W)
  | 0, W, H => H
  | n + 1, W, H => unrun_ok n (backO W) (back_ok W H)
theorem run_succ : ∀ (n : Nat) (W : Wo), runO (n + 1) W = stepO (runO n W)
  | 0, W => rfl
  | n + 1, W => run_succ n (stepO W)
theorem unrun_run : ∀ (n : Nat) (W : Wo), OkO W → unrunO n (runO n W) = W
  | 0, W, H => rfl
  | n + 1, W, H => by
    rw [run_succ]
    show unrunO n (backO (stepO (runO n W))) = W
    rw [back_step _ (run_ok n W H)]
    exact unrun_run n W H
theorem run_unrun : ∀ (n : Nat) (W : Wo), OkO W → runO n (unrunO n W) = W
  | 0, W, H => rfl
  | n + 1, W, H => by
    rw [run_succ]
    show stepO (runO n (unrunO n (backO W))) = W
    rw [run_unrun n (backO W) (back_ok W H)]
    exact step_back W H
theorem okO_size {W : Wo} (H : OkO W) : W.1.size ≤ 6 ∧ W.2.2.2.1.size ≤ 81 := by
  obtain ⟨hR, hw, hh, hs, _⟩ := H
  have hr6 := hR.1
  have hm := mul_range (a := W.2.1) (b := W.2.2.1) (by omega) (by omega) (by omega) (by omega)
  omega
theorem goodW_ev (W : Wo) : EvB (fun k => spec_woGood k W) (OkO W) := woGood_ev W.1 W.2.1 W.2.2.1 W.2.2.2.1 W.2.2.2.2.1 W.2.2.2.2.2.1 W.2.2.2.2.2.2
section
variable (W : Wo) (hr : W.1.size ≤ 1048576) (hc : W.2.2.2.1.size ≤ 1048576)
include hr hc
theorem isW_ev : EvB (fun k => impl_IsWorld k W) (OkO W) := isWorld_ev W.1 W.2.1 W.2.2.1 W.2.2.2.1 W.2.2.2.2.1 W.2.2.2.2.2.1 W.2.2.2.2.2.2 (by omega) (by omega)
theorem isGoing_ev (n : Int) : EvB (fun k => impl_isGoing k (W, n)) (OkO W ∧ (0 ≤ n ∧ n ≤ 3000)) := by
  have a := isW_ev W hr hc
  obtain ⟨rl, w, h, cs, x, y, wy⟩ := W
  exact EvB.step (fun k => impl_isGoing.eq k rl w h cs x y wy n) (EvB.and a fun _ => (within_ev n 0 3000).ret)
theorem woSteps_ev (n : Int) : EvB (fun k => spec_woSteps k (W, n)) (OkO W ∧ (0 ≤ n ∧ n ≤ 3000)) := by
  have a := goodW_ev W
  obtain ⟨rl, w, h, cs, x, y, wy⟩ := W
  exact EvB.step (fun k => spec_woSteps.eq k rl w h cs x y wy n) (EvB.and a fun _ => (l1In_ev n 0 3000).ret)
end
/-! ### The signs of the turns -/
def signO (W : Wo) : UInt8 := W.1.data.toList.getD (colB W.2.1 W.2.2.2.1 W.2.2.2.2.1 W.2.2.2.2.2.1).toNat 0
def turnsO : Nat → Wo → List UInt8
  | 0, _ => []
  | n + 1, W => signO W :: turnsO n (stepO W)
theorem turns_len : ∀ (n : Nat) (W : Wo), (turnsO n W).length = n
  | 0, _ => rfl
  | n + 1, W => by
    show (turnsO n (stepO W)).length + 1 = n + 1
    rw [turns_len n]
end Go.Proofs.YtplamonjnlgomaaGreatDoorS
