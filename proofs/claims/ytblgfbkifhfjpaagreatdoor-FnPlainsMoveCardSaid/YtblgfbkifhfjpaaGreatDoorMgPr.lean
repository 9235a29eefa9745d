/- Several texts in one: PuWo, PuWorldOk, PuGo, PuStep, PuCur, PuWorldDraw, PuPmD, PuPmE, PuPmF. -/
import Derived.Test.YtblgfbkifhfjpaaGreatDoorPuDigits
import Derived.Test.YtblgfbkifhfjpaaGreatDoorSimZ
import Derived.Test.YtblgfbkifhfjpaaGreatDoorPuBase
import Derived.Test.YtblgfbkifhfjpaaGreatDoorMgPq
import Derived.Lib.Join
namespace Go.Proofs.YtblgfbkifhfjpaaGreatDoorS
open Go
set_option linter.unusedVariables false
set_option linter.unusedSimpArgs false

abbrev Wo := ByteArray × Int × Int × ByteArray × Int × Int × Int
abbrev Cl := Int × (Int × Int)
def WorldOk (rl : ByteArray) (w h : Int) (cs : ByteArray) (x y wy : Int) : Prop :=
  RuleOk rl ∧ (1 ≤ w ∧ w ≤ 9) ∧ (1 ≤ h ∧ h ≤ 9) ∧ (cs.size : Int) = w * h ∧ CellsOk (rl.size : Int) cs ∧ (0 ≤ x ∧ x ≤ w - 1) ∧ (0 ≤ y ∧ y ≤ h - 1) ∧ (0 ≤ wy ∧ wy ≤ 3)
theorem at64 {x y w h : Int} (hx : 0 ≤ x ∧ x ≤ w - 1) (hy : 0 ≤ y ∧ y ≤ h - 1) (hw : 1 ≤ w ∧ w ≤ 9) (hh : 1 ≤ h ∧ h ≤ 9) : w64 (w64 (y * w) + x) = y * w + x := by
  obtain ⟨a1, a2, a3, a4⟩ := at_range hx hy hw hh
  rw [w64_of (n := y * w) (by omega) (by omega), w64_of (by omega) (by omega)]
theorem go1_in {n m d : Int} (h : 0 ≤ n ∧ n ≤ m - 1) (h1 : -1 ≤ d ∧ d ≤ 1) : 0 ≤ go1 n m d ∧ go1 n m d ≤ m - 1 := by
  have := go1_range (n := n) (m := m) (d := d) h.1 (by omega) h1.1 h1.2
  omega

section
variable (rl : ByteArray) (w h : Int) (cs : ByteArray) (x y wy : Int)
theorem isWorld_ev (hrl : rl.size ≤ 9223372036854775807) (hc : cs.size ≤ 9223372036854775807) : EvB (fun k => impl_IsWorld k (rl, w, h, cs, x, y, wy)) (WorldOk rl w h cs x y wy) := by
  have H : EvB (fun k => impl_IsWorld k (rl, w, h, cs, x, y, wy)) (RuleOk rl ∧ (((1 ≤ w ∧ w ≤ 9) ∧ (1 ≤ h ∧ h ≤ 9)) ∧ ((CellsOk (rl.size : Int) cs ∧ (cs.size : Int) = w * h) ∧ ((0 ≤ x ∧ x ≤ w - 1) ∧ ((0 ≤ y ∧ y ≤ h - 1) ∧ (0 ≤ wy ∧ wy ≤ 3)))))) := by
    refine EvB.step (fun k => impl_IsWorld.eq k rl w h cs x y wy) (EvB.and (isRuleR_ev rl hrl) fun hR => EvB.and (EvB.step (fun k => impl_isSize.eq k w h) (EvB.and (within_ev w 1 9) fun _ => (within_ev h 1 9).ret)) fun hs => ?_)
    have hm := mul_range (a := w) (b := h) (by omega) (by omega) (by omega) (by omega)
    have h6 := hR.1
    rw [w64_of (n := w * h) (by omega) (by omega)]
    exact EvB.and (areCells_ev (rl.size : Int) (by omega) cs hc (w * h)) fun _ => (isAnt_ev w h x y wy hs.1 hs.2).ret
  exact H.iff ⟨fun q => ⟨q.1, q.2.1.1, q.2.1.2, q.2.2.1.2, q.2.2.1.1, q.2.2.2.1, q.2.2.2.2.1, q.2.2.2.2.2⟩, fun q => ⟨q.1, ⟨q.2.1, q.2.2.1⟩, ⟨q.2.2.2.2.1, q.2.2.2.1⟩, q.2.2.2.2.2.1, q.2.2.2.2.2.2.1, q.2.2.2.2.2.2.2⟩⟩
theorem woGood_ev : EvB (fun k => spec_woGood k (rl, w, h, cs, x, y, wy)) (WorldOk rl w h cs x y wy) := by
  refine EvB.step (fun k => spec_woGood.eq k rl w h cs x y wy) (EvB.and' (woRuleR_ev rl) fun hR => EvB.and' (l1In_ev w 1 9) fun hw => EvB.and' (l1In_ev h 1 9) fun hh => ?_)
  have hm := mul_range (a := w) (b := h) (by omega) (by omega) (by omega) (by omega)
  have h6 := hR.1
  rw [w64_of (n := w * h) (by omega) (by omega)]
  refine EvB.ifN (P := (cs.size : Int) = w * h) (by rw [bne_eq_false_iff_eq]) fun _ => ?_
  have e1 : w64 ((rl.size : Int) - 1) = (rl.size : Int) - 1 := w64_of (by omega) (by omega)
  have step : ∀ (i : Nat) (c : UInt8), cs.data.toList[i]? = some c → ∀ r, Ev (fun k => (spec_l1In k ((c.toNat : Int) - 48, 0, (rl.size : Int) - 1)).bind fun r1 => cond (!r1) (some (.inl false)) (spec_woGood_l k ((rl, w, h, cs, x, y, wy), w64 ((i : Int) + 1)))) r → Ev (fun k => spec_woGood_l k ((rl, w, h, cs, x, y, wy), (i : Int))) r := fun i c hx r H => by
    have hi : i < cs.size := by rw [size_list]; exact (List.getElem?_eq_some_iff.1 hx).1
    exact Ev.step (fun k => spec_woGood_l.eq k rl w h cs x y wy (i : Int)) (Ev.yes (lt_nat hi) (Ev.yes (inB_nat hi) (by rw [Int.toNat_natCast, bt_at hx, num_of, e1]; exact H)))
  have srch := Ev.search (L := fun k i => spec_woGood_l k ((rl, w, h, cs, x, y, wy), i)) (n := cs.size) (fun i => ∃ c, cs.data.toList[i]? = some c ∧ ¬ (48 ≤ c.toNat ∧ (c.toNat : Int) ≤ 47 + (rl.size : Int))) (fun i => .inl false) (.inr (rl, w, h, cs, x, y, wy))
    (fun i hi hp r H => by
      obtain ⟨c, hx⟩ := byte_at hi
      have hr : 48 ≤ c.toNat ∧ (c.toNat : Int) ≤ 47 + (rl.size : Int) := Classical.byContradiction fun hn => hp ⟨c, hx, hn⟩
      exact step i c hx r (Ev.bind ((l1In_ev _ _ _).isT (by omega)) (Ev.no rfl (by rw [w64_succ (by omega)]; exact H))))
    (fun i hi hp => by
      obtain ⟨c, hx, hn⟩ := hp
      exact step i c hx _ (Ev.bind ((l1In_ev _ _ _).isF (by omega)) (Ev.yes rfl (Ev.now _))))
    (Ev.step (fun k => spec_woGood_l.eq k rl w h cs x y wy (cs.size : Int)) (Ev.no (not_lt_nat (Nat.lt_irrefl _)) (Ev.now _))) cs.size 0 (by omega)
  rcases srch with ⟨h1, h2⟩ | ⟨j, _, hj, ⟨c, hx, hn⟩, _, h2⟩
  · have hcs : CellsOk (rl.size : Int) cs := fun c hm => by
      obtain ⟨i, hi⟩ := List.mem_iff_getElem?.1 hm
      exact Classical.byContradiction fun hn => h1 i (Nat.zero_le _) (by rw [size_list]; exact (List.getElem?_eq_some_iff.1 hi).1) ⟨c, hi, hn⟩
    have rest : EvB (fun k => (spec_l1In k (x, 0, w64 (w - 1))).bind fun r7 => cond r7 ((spec_l1In k (y, 0, w64 (h - 1))).bind fun r8 => cond r8 ((spec_l1In k (wy, 0, 3)).bind fun r9 => some r9) (some false)) (some false)) ((0 ≤ x ∧ x ≤ w - 1) ∧ (0 ≤ y ∧ y ≤ h - 1) ∧ (0 ≤ wy ∧ wy ≤ 3)) := by
      rw [w64_of (n := w - 1) (by omega) (by omega), w64_of (n := h - 1) (by omega) (by omega)]
      exact EvB.and (l1In_ev _ _ _) fun _ => EvB.and (l1In_ev _ _ _) fun _ => (l1In_ev _ _ _).ret
    obtain ⟨b, q1, q2⟩ := rest
    exact ⟨b, Ev.bind h2 q1, q2.trans ⟨fun q => ⟨hcs, q⟩, fun q => q.2⟩⟩
  · exact ⟨false, Ev.bind h2 (Ev.now _), ⟨nofun, fun h => absurd (h.1 c (List.mem_of_getElem? hx)) hn⟩⟩
end

theorem go1_inv {n m M : Int} (hn : 0 ≤ n ∧ n ≤ M - 1) (hm : 0 ≤ m ∧ m ≤ M - 1) : (go1 n M (-1) = m ↔ n = go1 m M 1) ∧ (go1 n M 1 = m ↔ n = go1 m M (-1)) := by
  unfold go1
  constructor <;> split <;> first | omega | (split <;> first | omega | (split <;> first | omega | (split <;> omega)))
theorem back_go {n M d : Int} (h : 0 ≤ n ∧ n ≤ M - 1) (hd : d = 1 ∨ d = -1 ∨ d = 0) : go1 (go1 n M d) M (-d) = n := by
  have g1 := go1_in (d := 1) h (by omega)
  have g2 := go1_in (d := -1) h (by omega)
  rcases hd with rfl | rfl | rfl
  · exact ((go1_inv g1 h).1).2 rfl
  · exact ((go1_inv g2 h).2).2 rfl
  · rw [Int.neg_zero, go1_zero h, go1_zero h]
theorem dW_cases (wy : Int) : (dxW wy = 1 ∨ dxW wy = -1 ∨ dxW wy = 0) ∧ (dyW wy = 1 ∨ dyW wy = -1 ∨ dyW wy = 0) := by
  unfold dxW dyW
  constructor <;> split <;> first | omega | (split <;> omega)
theorem bt_set {s : ByteArray} {k : Nat} (j : Nat) (hk : k < s.size) (c : UInt8) : bt (setByte s k c) j = if j = k then (c.toNat : Int) else bt s j := by
  unfold bt setByte
  show ((((s.data.toList.set k c).toArray).getD j 0).toNat : Int) = _
  rw [Array.getD_eq_getD_getElem?, Array.getD_eq_getD_getElem?, List.getElem?_toArray, List.getElem?_set, ← Array.getElem?_toList]
  rw [size_list] at hk
  by_cases h : j = k
  · subst h
    have hk' : j < s.size := by rw [size_list]; exact hk
    simp [hk, hk']
  · rw [if_neg (fun e => h e.symm), if_neg h]
theorem set_twice {s : ByteArray} {k : Nat} {c d : UInt8} (h : s.data.toList[k]? = some d) : setByte (setByte s k c) k d = s := by
  apply ba_ext
  unfold setByte
  show ((s.data.toList.set k c).set k d) = s.data.toList
  rw [List.set_set]
  obtain ⟨h1, h2⟩ := List.getElem?_eq_some_iff.1 h
  rw [← h2, List.set_getElem_self]
theorem of_digit {c : UInt8} (h : 48 ≤ c.toNat) : UInt8.ofNat ((48 : Int) + ((c.toNat : Int) - 48)).toNat = c := by
  rw [show ((48 : Int) + ((c.toNat : Int) - 48)).toNat = c.toNat by omega]
  simp
theorem ba_beq (s : ByteArray) : (s == s) = true := by
  obtain ⟨d⟩ := s
  show (d == d) = true
  simp
theorem same7 (W : Wo) : (!((W.1 == W.1) && ((W.2.1 == W.2.1) && ((W.2.2.1 == W.2.2.1) && ((W.2.2.2.1 == W.2.2.2.1) && ((W.2.2.2.2.1 == W.2.2.2.2.1) && ((W.2.2.2.2.2.1 == W.2.2.2.2.2.1) && ((W.2.2.2.2.2.2 == W.2.2.2.2.2.2) && true)))))))) = false := by simp [ba_beq]
theorem sameB (b : Bool) : (!(b == b)) = false := by cases b <;> rfl
theorem sameS (s : ByteArray) : (!(strEq s s)) = false := by rw [strEq_self]; rfl
theorem good8 {x : Int} (h : (Sh.int IntKind.u8).good x) : 0 ≤ x ∧ x ≤ 255 := by
  have h : (Lit.int .u8 x).wf = true := h
  simp [Lit.wf, IntKind.min, IntKind.max, IntKind.bits, IntKind.signed] at h
  omega

def OkO (W : Wo) : Prop := WorldOk W.1 W.2.1 W.2.2.1 W.2.2.2.1 W.2.2.2.2.1 W.2.2.2.2.2.1 W.2.2.2.2.2.2
abbrev zeroO : Wo := (ByteArray.empty, 0, 0, ByteArray.empty, 0, 0, 0)
def colB (w : Int) (cs : ByteArray) (x y : Int) : Int := bt cs (y * w + x).toNat - 48
def putB (w : Int) (cs : ByteArray) (x y p : Int) : ByteArray := setByte cs (y * w + x).toNat (UInt8.ofNat (48 + p).toNat)
def wayB (rl : ByteArray) (c wy : Int) : Int := (wy + quartersB (bt rl c.toNat)) % 4
def stepO : Wo → Wo
  | (rl, w, h, cs, x, y, wy) => (rl, w, h, putB w cs x y ((colB w cs x y + 1) % (rl.size : Int)), go1 x w (1 * dxW (wayB rl (colB w cs x y) wy)), go1 y h (1 * dyW (wayB rl (colB w cs x y) wy)), wayB rl (colB w cs x y) wy)
def preX (w x wy : Int) : Int := go1 x w (-1 * dxW wy)
def preY (h y wy : Int) : Int := go1 y h (-1 * dyW wy)
def preC (rl : ByteArray) (w h : Int) (cs : ByteArray) (x y wy : Int) : Int := (colB w cs (preX w x wy) (preY h y wy) - 1) % (rl.size : Int)
def backO : Wo → Wo
  | (rl, w, h, cs, x, y, wy) => (rl, w, h, putB w cs (preX w x wy) (preY h y wy) (preC rl w h cs x y wy), preX w x wy, preY h y wy, (wy - quartersB (bt rl (preC rl w h cs x y wy).toNat)) % 4)
section
variable {rl : ByteArray} {w h : Int} {cs : ByteArray} {x y wy : Int}
theorem cell_ex (hw : 1 ≤ w ∧ w ≤ 9) (hh : 1 ≤ h ∧ h ≤ 9) (hs : (cs.size : Int) = w * h) (hcs : CellsOk (rl.size : Int) cs) (hx : 0 ≤ x ∧ x ≤ w - 1) (hy : 0 ≤ y ∧ y ≤ h - 1) : ∃ c : UInt8, cs.data.toList[(y * w + x).toNat]? = some c ∧ colB w cs x y = (c.toNat : Int) - 48 ∧ 48 ≤ c.toNat ∧ (c.toNat : Int) ≤ 47 + (rl.size : Int) := by
  obtain ⟨a1, a2, a3, a4⟩ := at_range hx hy hw hh
  obtain ⟨c, hc⟩ := byte_at (cs := cs) (i := (y * w + x).toNat) (by omega)
  obtain ⟨c48, cti⟩ := hcs c (List.mem_of_getElem? hc)
  exact ⟨c, hc, by unfold colB; rw [bt_at hc], c48, cti⟩
theorem put_same (hw : 1 ≤ w ∧ w ≤ 9) (hh : 1 ≤ h ∧ h ≤ 9) (hs : (cs.size : Int) = w * h) (hcs : CellsOk (rl.size : Int) cs) (hx : 0 ≤ x ∧ x ≤ w - 1) (hy : 0 ≤ y ∧ y ≤ h - 1) (p : Int) (hp : 0 ≤ p ∧ p ≤ 9) : colB w (putB w cs x y p) x y = p ∧ putB w (putB w cs x y p) x y (colB w cs x y) = cs := by
  obtain ⟨c, hc, e, c48, _⟩ := cell_ex hw hh hs hcs hx hy
  obtain ⟨a1, a2, a3, a4⟩ := at_range hx hy hw hh
  constructor
  · unfold colB putB
    rw [bt_set _ (by omega), if_pos rfl, toNat_ofNat8 (by omega)]
    omega
  · unfold putB
    rw [e, of_digit c48]
    exact set_twice hc
end
theorem put_put (w : Int) (cs : ByteArray) (x y p q : Int) : putB w (putB w cs x y p) x y q = putB w cs x y q := by
  apply ba_ext
  unfold putB setByte
  show ((cs.data.toList.set _ _).set _ _) = cs.data.toList.set _ _
  rw [List.set_set]
theorem okO_step : ∀ W : Wo, OkO W → OkO (stepO W)
  | (rl, w, h, cs, x, y, wy), H => by
    obtain ⟨hR, hw, hh, hs, hcs, hx, hy, hwy⟩ : WorldOk rl w h cs x y wy := H
    obtain ⟨hr6, hsg⟩ := id hR
    have hwz : 0 ≤ wayB rl (colB w cs x y) wy ∧ wayB rl (colB w cs x y) wy ≤ 3 := by unfold wayB; omega
    have hP : 0 ≤ (colB w cs x y + 1) % (rl.size : Int) ∧ (colB w cs x y + 1) % (rl.size : Int) ≤ (rl.size : Int) - 1 := by
      have p1 := Int.emod_nonneg (colB w cs x y + 1) (show (rl.size : Int) ≠ 0 by omega)
      have p2 := Int.emod_lt_of_pos (colB w cs x y + 1) (show (0 : Int) < (rl.size : Int) by omega)
      omega
    show WorldOk rl w h (putB w cs x y ((colB w cs x y + 1) % (rl.size : Int))) (go1 x w (1 * dxW (wayB rl (colB w cs x y) wy))) (go1 y h (1 * dyW (wayB rl (colB w cs x y) wy))) (wayB rl (colB w cs x y) wy)
    generalize wayB rl (colB w cs x y) wy = wz at hwz
    generalize (colB w cs x y + 1) % (rl.size : Int) = p at hP
    obtain ⟨⟨d1, d2⟩, d3, d4⟩ := dW_range wz
    unfold putB
    exact ⟨hR, hw, hh, by rw [setByte_size]; exact hs, cells_set hcs _ hP (by omega), go1_in hx (by omega), go1_in hy (by omega), hwz⟩
theorem stepI_ev : ∀ W : Wo, OkO W → Ev (fun k => impl_World_step k W) (stepO W)
  | (rl, w, h, cs, x, y, wy), H => by
    obtain ⟨hR, hw, hh, hs, hcs, hx, hy, hwy⟩ : WorldOk rl w h cs x y wy := H
    obtain ⟨hr6, hsg⟩ := id hR
    obtain ⟨a1, a2, a3, a4⟩ := at_range hx hy hw hh
    obtain ⟨c, hc, eqc, c48, cti⟩ := cell_ex hw hh hs hcs hx hy
    have hclt := c.toNat_lt
    obtain ⟨b, hb⟩ := byte_at (cs := rl) (i := ((c.toNat : Int) - 48).toNat) (by omega)
    have hbt : bt rl ((c.toNat : Int) - 48).toNat = (b.toNat : Int) := bt_at hb
    have eA := at64 hx hy hw hh
    obtain ⟨q0, q3⟩ := quartersB_range (b.toNat : Int)
    have eW : (w64 (wy + quartersB (b.toNat : Int))).tmod 4 = wayB rl (colB w cs x y) wy := by
      unfold wayB
      rw [eqc, hbt, w64_of (by omega) (by omega), Int.tmod_eq_emod_of_nonneg (by omega)]
    have hwz : 0 ≤ wayB rl (colB w cs x y) wy ∧ wayB rl (colB w cs x y) wy ≤ 3 := by unfold wayB; omega
    have hl0 : (0 : Int) < (rl.size : Int) := by omega
    have eP : (w64 ((c.toNat : Int) - 48 + 1)).tmod (rl.size : Int) = (colB w cs x y + 1) % (rl.size : Int) := by rw [eqc, w64_of (by omega) (by omega), Int.tmod_eq_emod_of_nonneg (by omega)]
    have hP : 0 ≤ (colB w cs x y + 1) % (rl.size : Int) ∧ (colB w cs x y + 1) % (rl.size : Int) ≤ (rl.size : Int) - 1 := by
      have p1 := Int.emod_nonneg (colB w cs x y + 1) (show (rl.size : Int) ≠ 0 by omega)
      have p2 := Int.emod_lt_of_pos (colB w cs x y + 1) hl0
      omega
    show Ev (fun k => impl_World_step k (rl, w, h, cs, x, y, wy)) (rl, w, h, putB w cs x y ((colB w cs x y + 1) % (rl.size : Int)), go1 x w (1 * dxW (wayB rl (colB w cs x y) wy)), go1 y h (1 * dyW (wayB rl (colB w cs x y) wy)), wayB rl (colB w cs x y) wy)
    generalize wayB rl (colB w cs x y) wy = wz at eW hwz
    generalize (colB w cs x y + 1) % (rl.size : Int) = p at eP hP
    have hinC : inB ((c.toNat : Int) - 48) rl.size = true := inB_of (by omega) (by omega)
    have hne : ((rl.size : Int) != 0) = true := by rw [bne_iff_ne]; omega
    unfold putB
    refine Ev.step (fun k => impl_World_step.eq k rl w h cs x y wy) (Ev.bind (colour_ev _ w h cs x y wy hw hh hx hy hs hc c48) (Ev.yes hinC ?_))
    rw [hbt]
    refine Ev.bind (quarters_ev _) ?_
    simp only [eW, eP]
    exact Ev.bind (Ev.step (fun k => impl_World_at.eq k rl w h cs x y wz) (Ev.now' eA)) (Ev.yes hne (Ev.bind (painted_ev cs _ p ⟨a3, by omega⟩ (by omega)) (Ev.bind (gone_ev _ w h _ x y wz 1 hw hh hx hy hwz (.inl rfl)) (Ev.now _))))
theorem pred_succ {c k : Int} (h : 0 ≤ c ∧ c ≤ k - 1) : ((c + 1) % k - 1) % k = c ∧ ((c - 1) % k + 1) % k = c := by
  constructor
  · rw [Int.sub_emod, Int.emod_emod, ← Int.sub_emod, show c + 1 - 1 = c by omega, Int.emod_eq_of_lt h.1 (by omega)]
  · rw [Int.add_emod, Int.emod_emod, ← Int.add_emod, show c - 1 + 1 = c by omega, Int.emod_eq_of_lt h.1 (by omega)]
theorem mod_range (c : Int) {k : Int} (hk : 1 ≤ k) : 0 ≤ c % k ∧ c % k ≤ k - 1 := by
  have p1 := Int.emod_nonneg c (show k ≠ 0 by omega)
  have p2 := Int.emod_lt_of_pos c (show 0 < k by omega)
  omega
theorem pre_in {n M d : Int} (h : 0 ≤ n ∧ n ≤ M - 1) (hd : d = 1 ∨ d = -1 ∨ d = 0) : 0 ≤ go1 n M (-1 * d) ∧ go1 n M (-1 * d) ≤ M - 1 := go1_in h (by omega)
theorem back_ok : ∀ W : Wo, OkO W → OkO (backO W)
  | (rl, w, h, cs, x, y, wy), H => by
    obtain ⟨hR, hw, hh, hs, hcs, hx, hy, hwy⟩ : WorldOk rl w h cs x y wy := H
    obtain ⟨d1, d2⟩ := dW_cases wy
    have hr6 := hR.1
    have hp := mod_range (colB w cs (preX w x wy) (preY h y wy) - 1) (k := (rl.size : Int)) (by omega)
    refine ⟨hR, hw, hh, ?_, cells_set hcs _ hp (by omega), pre_in hx d1, pre_in hy d2, ?_⟩
    · show ((setByte cs _ _).size : Int) = _
      rw [setByte_size]
      exact hs
    · show 0 ≤ (wy - _) % 4 ∧ (wy - _) % 4 ≤ 3
      omega
theorem back_step : ∀ W : Wo, OkO W → backO (stepO W) = W
  | (rl, w, h, cs, x, y, wy), H => by
    obtain ⟨hR, hw, hh, hs, hcs, hx, hy, hwy⟩ : WorldOk rl w h cs x y wy := H
    have hr6 := hR.1
    obtain ⟨c, hc, eqc, c48, cti⟩ := cell_ex hw hh hs hcs hx hy
    have hp := mod_range (colB w cs x y + 1) (k := (rl.size : Int)) (by omega)
    obtain ⟨p1, p2⟩ := put_same hw hh hs hcs hx hy ((colB w cs x y + 1) % (rl.size : Int)) (by omega)
    obtain ⟨d1, d2⟩ := dW_cases (wayB rl (colB w cs x y) wy)
    have ps := (pred_succ (c := colB w cs x y) (k := (rl.size : Int)) (by omega)).1
    have ex : preX w (go1 x w (1 * dxW (wayB rl (colB w cs x y) wy))) (wayB rl (colB w cs x y) wy) = x := by
      unfold preX
      rw [Int.one_mul, show -1 * dxW (wayB rl (colB w cs x y) wy) = -(dxW (wayB rl (colB w cs x y) wy)) by omega]
      exact back_go hx d1
    have ey : preY h (go1 y h (1 * dyW (wayB rl (colB w cs x y) wy))) (wayB rl (colB w cs x y) wy) = y := by
      unfold preY
      rw [Int.one_mul, show -1 * dyW (wayB rl (colB w cs x y) wy) = -(dyW (wayB rl (colB w cs x y) wy)) by omega]
      exact back_go hy d2
    show (rl, w, h, putB w _ _ _ _, _, _, _) = (rl, w, h, cs, x, y, wy)
    simp only [preC, ex, ey, p1, ps, p2]
    have : (wayB rl (colB w cs x y) wy - quartersB (bt rl (colB w cs x y).toNat)) % 4 = wy := by unfold wayB; omega
    rw [this]
theorem step_back : ∀ W : Wo, OkO W → stepO (backO W) = W
  | (rl, w, h, cs, x, y, wy), H => by
    obtain ⟨hR, hw, hh, hs, hcs, hx, hy, hwy⟩ : WorldOk rl w h cs x y wy := H
    have hr6 := hR.1
    obtain ⟨d1, d2⟩ := dW_cases wy
    have hx0 := pre_in hx d1
    have hy0 := pre_in hy d2
    obtain ⟨c, hc, eqc, c48, cti⟩ := cell_ex hw hh hs hcs hx0 hy0
    have hp := mod_range (colB w cs (preX w x wy) (preY h y wy) - 1) (k := (rl.size : Int)) (by omega)
    obtain ⟨p1, p2⟩ := put_same hw hh hs hcs hx0 hy0 (preC rl w h cs x y wy) (by unfold preC; omega)
    have p1 : colB w (putB w cs (preX w x wy) (preY h y wy) (preC rl w h cs x y wy)) (preX w x wy) (preY h y wy) = preC rl w h cs x y wy := p1
    have p2 : putB w (putB w cs (preX w x wy) (preY h y wy) (preC rl w h cs x y wy)) (preX w x wy) (preY h y wy) (colB w cs (preX w x wy) (preY h y wy)) = cs := p2
    have eqc : colB w cs (preX w x wy) (preY h y wy) = (c.toNat : Int) - 48 := eqc
    have ps := (pred_succ (c := colB w cs (preX w x wy) (preY h y wy)) (k := (rl.size : Int)) (by omega)).2
    have ew : wayB rl (preC rl w h cs x y wy) ((wy - quartersB (bt rl (preC rl w h cs x y wy).toNat)) % 4) = wy := by unfold wayB; omega
    have ex : go1 (preX w x wy) w (1 * dxW wy) = x := by
      unfold preX
      have := back_go (d := -1 * dxW wy) hx (by omega)
      rwa [show -(-1 * dxW wy) = 1 * dxW wy by omega] at this
    have ey : go1 (preY h y wy) h (1 * dyW wy) = y := by
      unfold preY
      have := back_go (d := -1 * dyW wy) hy (by omega)
      rwa [show -(-1 * dyW wy) = 1 * dyW wy by omega] at this
    show (rl, w, h, putB w _ _ _ _, _, _, _) = (rl, w, h, cs, x, y, wy)
    have ps' : (preC rl w h cs x y wy + 1) % (rl.size : Int) = colB w cs (preX w x wy) (preY h y wy) := ps
    rw [p1, ew, ps', p2, ex, ey]
/-! ### Many steps -/
def runO : Nat → Wo → Wo
  | 0, W => W
  | n + 1, W => runO n (stepO W)
def unrunO : Nat → Wo → Wo
  | 0, W => W
  | n + 1, W => unrunO n (backO W)
theorem step_ok (W : Wo) (H : OkO W) : OkO (stepO W) := okO_step W H
theorem run_ok : ∀ (n : Nat) (W : Wo), OkO W → OkO (runO n W)
  | 0, W, H => H
  | n + 1, W, H => run_ok n (stepO W) (step_ok W H)
theorem unrun_ok : ∀ (n : Nat) (W : Wo), OkO W → OkO (unrunO n W)
  | 0, W, H => H
  | n + 1, W, H => unrun_ok n (backO W) (back_ok W H)
theorem run_succ : ∀ (n : Nat) (W : Wo), runO (n + 1) W = stepO (runO n W)
  | 0, W => rfl
  | n + 1, W => run_succ n (stepO W)
theorem unrun_run : ∀ (n : Nat) (W : Wo), OkO W → unrunO n (runO n W) = W
  | 0, W, H => rfl
  | n + 1, W, H => by
    rw [run_succ]
    show unrunO n (backO (stepO (runO n W))) = W
    rw [back_step _ (run_ok n W H)]
    exact unrun_run n W H
theorem run_unrun : ∀ (n : Nat) (W : Wo), OkO W → runO n (unrunO n W) = W
  | 0, W, H => rfl
  | n + 1, W, H => by
    rw [run_succ]
    show stepO (runO n (unrunO n (backO W))) = W
    rw [run_unrun n (backO W) (back_ok W H)]
    exact step_back W H
theorem okO_size {W : Wo} (H : OkO W) : W.1.size ≤ 6 ∧ W.2.2.2.1.size ≤ 81 := by
  obtain ⟨hR, hw, hh, hs, _⟩ := H
  have hr6 := hR.1
  have hm := mul_range (a := W.2.1) (b := W.2.2.1) (by omega) (by omega) (by omega) (by omega)
  omega
theorem goodW_ev (W : Wo) : EvB (fun k => spec_woGood k W) (OkO W) := woGood_ev W.1 W.2.1 W.2.2.1 W.2.2.2.1 W.2.2.2.2.1 W.2.2.2.2.2.1 W.2.2.2.2.2.2
section
variable (W : Wo) (hr : W.1.size ≤ 1048576) (hc : W.2.2.2.1.size ≤ 1048576)
include hr hc
theorem isW_ev : EvB (fun k => impl_IsWorld k W) (OkO W) := isWorld_ev W.1 W.2.1 W.2.2.1 W.2.2.2.1 W.2.2.2.2.1 W.2.2.2.2.2.1 W.2.2.2.2.2.2 (by omega) (by omega)
theorem isGoing_ev (n : Int) : EvB (fun k => impl_isGoing k (W, n)) (OkO W ∧ (0 ≤ n ∧ n ≤ 3000)) := by
  have a := isW_ev W hr hc
  obtain ⟨rl, w, h, cs, x, y, wy⟩ := W
  exact EvB.step (fun k => impl_isGoing.eq k rl w h cs x y wy n) (EvB.and a fun _ => (within_ev n 0 3000).ret)
end
/-! ### The signs of the turns -/
def signO (W : Wo) : UInt8 := W.1.data.toList.getD (colB W.2.1 W.2.2.2.1 W.2.2.2.2.1 W.2.2.2.2.2.1).toNat 0
def turnsO : Nat → Wo → List UInt8
  | 0, _ => []
  | n + 1, W => signO W :: turnsO n (stepO W)
theorem turns_len : ∀ (n : Nat) (W : Wo), (turnsO n W).length = n
  | 0, _ => rfl
  | n + 1, W => by
    show (turnsO n (stepO W)).length + 1 = n + 1
    rw [turns_len n]

abbrev CurT : Type := List Int × Int × Int
def CurOk (n : Nat) (c : CurT) : Prop := (∀ x ∈ c.1, 0 ≤ x ∧ x ≤ 255) ∧ (0 ≤ c.2.1 ∧ c.2.1 ≤ n) ∧ n ≤ 1099511627776
theorem CurOk.start {code : List Int} (h : ∀ x ∈ code, 0 ≤ x ∧ x ≤ 255) : CurOk 0 (code, 0, 0) := ⟨h, ⟨by show (0 : Int) ≤ 0; omega, by show (0 : Int) ≤ ((0 : Nat) : Int); omega⟩, by omega⟩
theorem and255 (x : Int) : 0 ≤ w64 (andI .u64 x 255) ∧ w64 (andI .u64 x 255) ≤ 255 := by
  have h : andI .u64 x 255 = ((BitVec.ofInt 64 x &&& BitVec.ofInt 64 255).toNat : Int) % 18446744073709551616 := by
    unfold andI
    simp only [IntKind.wrap, IntKind.bits, IntKind.signed]
    rfl
  have h2 : (BitVec.ofInt 64 x &&& BitVec.ofInt 64 255).toNat ≤ 255 := by
    rw [BitVec.toNat_and]
    exact Nat.and_le_right
  rw [h, Int.emod_eq_of_lt (by omega) (by omega), w64_of (by omega) (by omega)]
  omega
theorem next_ev (n : Nat) (c : CurT) (H : CurOk n c) (hn : n + 10 ≤ 1099511627776) : ∃ b c', Ev (fun k => spec_l1Cur_next k c) (b, c') ∧ (0 ≤ b ∧ b ≤ 255) ∧ CurOk (n + 1) c' := by
  obtain ⟨code, at_, seed⟩ := c
  obtain ⟨h1, ⟨h2, h3⟩, h4⟩ := H
  simp only at h1 h2 h3
  have e1 : w64 (at_ + 1) = at_ + 1 := w64_of (by omega) (by omega)
  have ok : ∀ z : Int, CurOk (n + 1) (code, w64 (at_ + 1), z) := fun z => ⟨h1, ⟨by show 0 ≤ w64 (at_ + 1); omega, by show w64 (at_ + 1) ≤ ((n + 1 : Nat) : Int); omega⟩, by omega⟩
  by_cases c1 : at_ < (code.length : Int)
  · have hi : inB at_ code.length = true := inB_of h2 c1
    obtain ⟨x, hx⟩ := nat_list (l := code) (i := at_.toNat) (by omega)
    have hg : code.getD at_.toNat default = x := getD_at hx
    obtain ⟨x0, x1⟩ := h1 x (List.mem_of_getElem? hx)
    exact ⟨w64 (code.getD at_.toNat default), _, Ev.step (fun k => spec_l1Cur_next.eq k code at_ seed) (Ev.yes (decide_eq_true c1) (Ev.yes hi (Ev.yes (decide_eq_true (by omega)) (Ev.now _)))), by rw [hg, w64_of (by omega) (by omega)]; exact ⟨x0, x1⟩, ok _⟩
  · exact ⟨_, _, Ev.step (fun k => spec_l1Cur_next.eq k code at_ seed) (Ev.no (decide_eq_false c1) (Ev.no (decide_eq_false (by omega)) (Ev.now _))), and255 _, ok _⟩
section
variable (n : Nat) (c : CurT) (H : CurOk n c) (hn : n + 40 ≤ 1099511627776)
include H hn
theorem pick_ev (m : Int) : ∃ r c', Ev (fun k => spec_l1Cur_pick k (c, m)) (r, c') ∧ 0 ≤ r ∧ (1 ≤ m → r < m) ∧ CurOk (n + 2) c' := by
  obtain ⟨b, c1, e1, ⟨b0, b1⟩, H1⟩ := next_ev n c H (by omega)
  obtain ⟨d, c2, e2, ⟨d0, d1⟩, H2⟩ := next_ev (n + 1) c1 H1 (by omega)
  obtain ⟨code, at_, seed⟩ := c
  have ok1 : ∀ {c : CurT}, CurOk (n + 1) c → CurOk (n + 2) c := fun ⟨h1, ⟨h2, h3⟩, h4⟩ => ⟨h1, ⟨h2, by omega⟩, by omega⟩
  by_cases c1' : m ≤ 1
  · exact ⟨0, _, Ev.step (fun k => spec_l1Cur_pick.eq k code at_ seed m) (Ev.yes (decide_eq_true c1') (Ev.now _)), by omega, fun _ => by omega, by obtain ⟨h1, ⟨h2, h3⟩, h4⟩ := H; exact ⟨h1, ⟨h2, by omega⟩, by omega⟩⟩
  · have hne : (m != 0) = true := by rw [bne_iff_ne]; omega
    by_cases c2' : m > 200
    · have e3 : w64 (w64 (b * 256) + d) = b * 256 + d := by rw [w64_of (n := b * 256) (by omega) (by omega), w64_of (by omega) (by omega)]
      refine ⟨_, c2, Ev.step (fun k => spec_l1Cur_pick.eq k code at_ seed m) (Ev.no (decide_eq_false c1') (Ev.bind e1 (Ev.yes (decide_eq_true c2') (Ev.bind e2 (Ev.yes hne (Ev.now _)))))), ?_, fun _ => ?_, H2⟩
      · show 0 ≤ (w64 (w64 (b * 256) + d)).tmod m
        rw [e3]
        exact Int.tmod_nonneg _ (by omega)
      · exact Int.tmod_lt_of_pos _ (by omega)
    · refine ⟨_, c1, Ev.step (fun k => spec_l1Cur_pick.eq k code at_ seed m) (Ev.no (decide_eq_false c1') (Ev.bind e1 (Ev.no (decide_eq_false c2') (Ev.yes hne (Ev.now _))))), ?_, fun _ => ?_, ok1 H1⟩
      · exact Int.tmod_nonneg _ b0
      · exact Int.tmod_lt_of_pos _ (by omega)
theorem one_ev (m : Int) : ∃ b c', Ev (fun k => spec_l1Cur_one k (c, m)) (b, c') ∧ CurOk (n + 2) c' := by
  obtain ⟨r, c', e, _, _, h⟩ := pick_ev n c H hn m
  obtain ⟨code, at_, seed⟩ := c
  exact ⟨_, c', Ev.step (fun k => spec_l1Cur_one.eq k code at_ seed m) (Ev.bind e (Ev.now _)), h⟩
theorem of_ev (l : List ByteArray) (hl : 1 ≤ l.length) : ∃ s c', Ev (fun k => spec_l1Cur_of k (c, l)) (s, c') ∧ s ∈ l ∧ CurOk (n + 2) c' := by
  obtain ⟨r, c', e, r0, r1, h⟩ := pick_ev n c H hn (l.length : Int)
  have r1 := r1 (by omega)
  obtain ⟨code, at_, seed⟩ := c
  obtain ⟨x, hx⟩ := nat_list (l := l) (i := r.toNat) (by omega)
  exact ⟨_, c', Ev.step (fun k => spec_l1Cur_of.eq k code at_ seed l) (Ev.bind e (Ev.yes (inB_of r0 r1) (Ev.now _))), by show l.getD r.toNat default ∈ l; rw [getD_at hx]; exact List.mem_of_getElem? hx, h⟩
theorem among_ev (l : List Int) (hl : 1 ≤ l.length) : ∃ s c', Ev (fun k => spec_l1Cur_among k (c, l)) (s, c') ∧ s ∈ l ∧ CurOk (n + 2) c' := by
  obtain ⟨r, c', e, r0, r1, h⟩ := pick_ev n c H hn (l.length : Int)
  have r1 := r1 (by omega)
  obtain ⟨code, at_, seed⟩ := c
  obtain ⟨x, hx⟩ := nat_list (l := l) (i := r.toNat) (by omega)
  exact ⟨_, c', Ev.step (fun k => spec_l1Cur_among.eq k code at_ seed l) (Ev.bind e (Ev.yes (inB_of r0 r1) (Ev.now _))), by show l.getD r.toNat default ∈ l; rw [getD_at hx]; exact List.mem_of_getElem? hx, h⟩
end
theorem big_ev (code more : List Int) (h1 : code.length ≤ 9223372036854775807) (h2 : more.length ≤ 9223372036854775807) : ∃ b, Ev (fun k => laws_big k (code, more)) b ∧ (b = false → code.length ≤ 1048576 ∧ more.length ≤ 1048576) := by
  by_cases c1 : (code.length : Int) > 1048576
  · exact ⟨true, Ev.step (fun k => laws_big.eq k code more) (Ev.yes (decide_eq_true c1) (Ev.now _)), nofun⟩
  · have e1 := w64_of (n := 1048576 - (code.length : Int)) (by omega) (by omega)
    refine ⟨_, Ev.step (fun k => laws_big.eq k code more) (Ev.no (decide_eq_false c1) (Ev.now _)), fun h => ?_⟩
    have := of_decide_eq_false h
    rw [e1] at this
    omega

theorem CurOk.mono {n m : Nat} {c : CurT} (h : CurOk n c) (hm : n ≤ m) (h' : m ≤ 1099511627776) : CurOk m c := by
  obtain ⟨h1, ⟨h2, h3⟩, h4⟩ := h
  exact ⟨h1, ⟨h2, by omega⟩, h'⟩
theorem sureRule_l_ev : ∀ (m n : Nat) (c : CurT) (out : ByteArray), CurOk n c → n + 2 * m + 100 ≤ 1099511627776 → out.size + m ≤ 1000 → (∀ b ∈ out.data.toList, SignC b) → ∃ s c', Ev (fun k => spec_l1Cur_sureRule_l k (c, out, (m : Int), ())) (s, c') ∧ s.size = out.size + m ∧ (∀ b ∈ s.data.toList, SignC b) ∧ CurOk (n + 2 * m) c'
  | 0, n, c, out, H, hn, ho, hs => by
    obtain ⟨code, at_, seed⟩ := c
    exact ⟨out, _, Ev.step (fun k => spec_l1Cur_sureRule_l.eq k code at_ seed out 0) (Ev.no rfl (Ev.now _)), rfl, hs, H⟩
  | m + 1, n, c, out, H, hn, ho, hs => by
    obtain ⟨t, c1, e1, ht, H1⟩ := of_ev n c H (by omega) [(bs [76]), (bs [82]), (bs [76]), (bs [82]), (bs [78]), (bs [85])] (by decide)
    have h2 : t.size = 1 ∧ ∀ b ∈ t.data.toList, SignC b := by
      simp only [List.mem_cons, List.not_mem_nil, or_false] at ht
      rcases ht with rfl | rfl | rfl | rfl | rfl | rfl <;> exact ⟨rfl, fun b hb => by simp [bs] at hb; subst hb; simp [SignC]⟩
    have hz : (out ++ t).size = out.size + 1 := by rw [ByteArray.size_append, h2.1]
    obtain ⟨s, c2, e2, s1, s2, H2⟩ := sureRule_l_ev m (n + 2) c1 (out ++ t) H1 (by omega) (by omega) (fun b hb => by
      rw [append_list] at hb
      rcases List.mem_append.1 hb with hb | hb
      · exact hs b hb
      · exact h2.2 b hb)
    obtain ⟨code, at_, seed⟩ := c
    refine ⟨s, c2, Ev.step (fun k => spec_l1Cur_sureRule_l.eq k code at_ seed out ((m + 1 : Nat) : Int)) (Ev.yes (decide_eq_true (by omega)) (Ev.bind e1 (Ev.yes (fitS_of (by show out.size + t.size < _; omega)) ?_))), by omega, s2, by rw [show n + 2 * (m + 1) = n + 2 + 2 * m by omega]; exact H2⟩
    rw [show w64 (((m + 1 : Nat) : Int) - 1) = (m : Int) by rw [w64_of (by omega) (by omega)]; omega]
    exact e2
theorem sureRule_ev (n : Nat) (c : CurT) (H : CurOk n c) (hn : n + 200 ≤ 1099511627776) : ∃ s c', Ev (fun k => spec_l1Cur_sureRule k c) (s, c') ∧ RuleOk s ∧ s.size ≤ 4 ∧ CurOk (n + 20) c' := by
  obtain ⟨b, c1, e1, H1⟩ := one_ev n c H (by omega) 3
  obtain ⟨r, c2, e2, r0, r1, H2⟩ := pick_ev _ c1 H1 (by omega) 4
  have r1 := r1 (by omega)
  obtain ⟨m, hm⟩ : ∃ m : Nat, 1 + r = (m : Int) := ⟨(1 + r).toNat, by omega⟩
  obtain ⟨s, c3, e3, s1, s2, H3⟩ := sureRule_l_ev m _ c2 ByteArray.empty H2 (by omega) (by show 0 + m ≤ _; omega) (fun b hb => by cases hb)
  have e4 : w64 (1 + r) = (m : Int) := by rw [w64_of (by omega) (by omega), hm]
  have s1 : s.size = 0 + m := s1
  obtain ⟨code, at_, seed⟩ := c
  cases b with
  | true => exact ⟨_, _, Ev.step (fun k => spec_l1Cur_sureRule.eq k code at_ seed) (Ev.bind e1 (Ev.yes rfl (Ev.now _))), ⟨by decide, fun b hb => by simp [bs] at hb; rcases hb with rfl | rfl <;> simp [SignC]⟩, by decide, H1.mono (by omega) (by omega)⟩
  | false =>
    refine ⟨s, c3, Ev.step (fun k => spec_l1Cur_sureRule.eq k code at_ seed) (Ev.bind e1 (Ev.no rfl (Ev.bind e2 ?_))), ⟨by omega, s2⟩, by omega, H3.mono (by omega) (by omega)⟩
    simp only [e4]
    exact Ev.bind e3 (Ev.now _)
theorem rule_ev (n : Nat) (c : CurT) (H : CurOk n c) (hn : n + 300 ≤ 1099511627776) : ∃ s c', Ev (fun k => spec_l1Cur_rule k c) (s, c') ∧ s.size ≤ 10 ∧ CurOk (n + 30) c' := by
  obtain ⟨b, c1, e1, H1⟩ := one_ev n c H (by omega) 12
  obtain ⟨t, c2, e2, ht, H2⟩ := of_ev _ c1 H1 (by omega) [ByteArray.empty, (bs [76, 82, 76, 82, 76, 82, 76]), (bs [88]), (bs [108, 114]), (bs [76, 32, 82])] (by decide)
  obtain ⟨s, c3, e3, _, s4, H3⟩ := sureRule_ev _ c1 H1 (by omega)
  have h2 : t.size ≤ 10 := by
    simp only [List.mem_cons, List.not_mem_nil, or_false] at ht
    rcases ht with rfl | rfl | rfl | rfl | rfl <;> decide
  obtain ⟨code, at_, seed⟩ := c
  cases b with
  | true => exact ⟨t, _, Ev.step (fun k => spec_l1Cur_rule.eq k code at_ seed) (Ev.bind e1 (Ev.yes rfl (Ev.bind e2 (Ev.now _)))), h2, H2.mono (by omega) (by omega)⟩
  | false => exact ⟨s, _, Ev.step (fun k => spec_l1Cur_rule.eq k code at_ seed) (Ev.bind e1 (Ev.no rfl (Ev.bind e3 (Ev.now _)))), by omega, H3.mono (by omega) (by omega)⟩
theorem sureWorld_l_ev (rl : ByteArray) (hrl : 1 ≤ rl.size ∧ rl.size ≤ 6) (w h : Int) (blank : Bool) : ∀ (m n : Nat) (c : CurT) (out : ByteArray), CurOk n c → n + 2 * m + 100 ≤ 1099511627776 → out.size + m ≤ 1000 → CellsOk (rl.size : Int) out →
    ∃ s c', Ev (fun k => spec_l1Cur_sureWorld_l k (c, zeroO, (rl, w, h, out, 0, 0, 0), blank, (m : Int), ())) (c', zeroO, (rl, w, h, s, 0, 0, 0), ()) ∧ s.size = out.size + m ∧ CellsOk (rl.size : Int) s ∧ CurOk (n + 2 * m) c'
  | 0, n, c, out, H, hn, ho, hs => by
    obtain ⟨code, at_, seed⟩ := c
    exact ⟨out, _, Ev.step (fun k => spec_l1Cur_sureWorld_l.eq k code at_ seed ByteArray.empty 0 0 ByteArray.empty 0 0 0 rl w h out 0 0 0 blank 0) (Ev.no rfl (Ev.now _)), rfl, hs, H⟩
  | m + 1, n, c, out, H, hn, ho, hs => by
    obtain ⟨r, c1, e1, r0, r1, H1⟩ := pick_ev n c H (by omega) (rl.size : Int)
    have r1 := r1 (by omega)
    have eN := l1Num_ev r (by omega)
    have em : w64 (((m + 1 : Nat) : Int) - 1) = (m : Int) := by rw [w64_of (by omega) (by omega)]; omega
    have app : ∀ p : Int, 0 ≤ p ∧ p ≤ (rl.size : Int) - 1 → CellsOk (rl.size : Int) (out ++ ofBytes [48 + p]) := fun p hp b hb => by
      rw [append_list] at hb
      rcases List.mem_append.1 hb with hb | hb
      · exact hs b hb
      · have hb : b = UInt8.ofNat (48 + p).toNat := by simpa [ofBytes] using hb
        rw [hb, toNat_ofNat8 (by omega)]
        omega
    have hz : ∀ p : Int, (out ++ ofBytes [48 + p]).size = out.size + 1 := fun p => by rw [ByteArray.size_append]; rfl
    cases blank with
    | true =>
      obtain ⟨s, c2, e2, s1, s2, H2⟩ := sureWorld_l_ev rl hrl w h true m (n + 2) c (out ++ ofBytes [48 + 0]) (H.mono (by omega) (by omega)) (by omega) (by rw [hz]; omega) (app 0 (by omega))
      rw [hz] at s1
      obtain ⟨code, at_, seed⟩ := c
      refine ⟨s, c2, Ev.step (fun k => spec_l1Cur_sureWorld_l.eq k code at_ seed ByteArray.empty 0 0 ByteArray.empty 0 0 0 rl w h out 0 0 0 true ((m + 1 : Nat) : Int)) (Ev.yes (decide_eq_true (by omega)) (Ev.yes rfl (Ev.yes (fitS_of (by show out.size + 1 < _; omega)) ?_))), by omega, s2, by rw [show n + 2 * (m + 1) = n + 2 + 2 * m by omega]; exact H2⟩
      rw [em]
      exact e2
    | false =>
      obtain ⟨s, c2, e2, s1, s2, H2⟩ := sureWorld_l_ev rl hrl w h false m (n + 2) c1 (out ++ ofBytes [48 + r]) H1 (by omega) (by rw [hz]; omega) (app r (by omega))
      rw [hz] at s1
      obtain ⟨code, at_, seed⟩ := c
      refine ⟨s, c2, Ev.step (fun k => spec_l1Cur_sureWorld_l.eq k code at_ seed ByteArray.empty 0 0 ByteArray.empty 0 0 0 rl w h out 0 0 0 false ((m + 1 : Nat) : Int)) (Ev.yes (decide_eq_true (by omega)) (Ev.no rfl (Ev.bind e1 (Ev.bind eN (Ev.yes (fitS_of (by show out.size + 1 < _; omega)) ?_))))), by omega, s2, by rw [show n + 2 * (m + 1) = n + 2 + 2 * m by omega]; exact H2⟩
      rw [em]
      exact e2
theorem sureWorld_ev (n : Nat) (c : CurT) (H : CurOk n c) (hn : n + 1000 ≤ 1099511627776) (most : Int) (hmost : 1 ≤ most ∧ most ≤ 9) : ∃ W c', Ev (fun k => spec_l1Cur_sureWorld k (c, most)) (W, c') ∧ OkO W ∧ (W.2.1 ≤ most ∧ W.2.2.1 ≤ most) ∧ CurOk (n + 300) c' := by
  obtain ⟨rl, c1, e1, hR, hr4, H1⟩ := sureRule_ev n c H (by omega)
  obtain ⟨r2, c2, e2, p2, q2, H2⟩ := pick_ev _ c1 H1 (by omega) most
  obtain ⟨r3, c3, e3, p3, q3, H3⟩ := pick_ev _ c2 H2 (by omega) most
  have q2 := q2 hmost.1
  have q3 := q3 hmost.1
  obtain ⟨b, c4, e4, H4⟩ := one_ev _ c3 H3 (by omega) 2
  have w2 : w64 (1 + r2) = 1 + r2 := w64_of (by omega) (by omega)
  have w3 : w64 (1 + r3) = 1 + r3 := w64_of (by omega) (by omega)
  have hm := mul_range (a := 1 + r2) (b := 1 + r3) (by omega) (by omega) (by omega) (by omega)
  obtain ⟨m, em⟩ : ∃ m : Nat, (1 + r2) * (1 + r3) = (m : Int) := ⟨((1 + r2) * (1 + r3)).toNat, by omega⟩
  obtain ⟨s, c5, e5, s1, s2, H5⟩ := sureWorld_l_ev rl hR.1 (1 + r2) (1 + r3) b m _ c4 ByteArray.empty H4 (by omega) (by show 0 + m ≤ _; omega) (fun b hb => by cases hb)
  have s1 : s.size = 0 + m := s1
  obtain ⟨r6, c6, e6, p6, q6, H6⟩ := pick_ev _ c5 H5 (by omega) (1 + r2)
  obtain ⟨r7, c7, e7, p7, q7, H7⟩ := pick_ev _ c6 H6 (by omega) (1 + r3)
  obtain ⟨r8, c8, e8, p8, q8, H8⟩ := pick_ev _ c7 H7 (by omega) 4
  have q6 := q6 (by omega)
  have q7 := q7 (by omega)
  have q8 := q8 (by omega)
  obtain ⟨code, at_, seed⟩ := c
  refine ⟨(rl, 1 + r2, 1 + r3, s, r6, r7, r8), c8, Ev.step (fun k => spec_l1Cur_sureWorld.eq k code at_ seed most) (Ev.bind e1 (Ev.bind e2 (Ev.bind e3 (Ev.bind e4 ?_)))), ⟨hR, by simp only; omega, by simp only; omega, by simp only; omega, s2, by simp only; omega, by simp only; omega, by simp only; omega⟩, ⟨by simp only; omega, by simp only; omega⟩, H8.mono (by omega) (by omega)⟩
  have wm2 : w64 (m : Int) = (m : Int) := w64_of (by omega) (by omega)
  simp only [w2, w3, em, wm2]
  exact Ev.bind e5 (Ev.bind e6 (Ev.bind e7 (Ev.bind e8 (Ev.now _))))
theorem world_ev (n : Nat) (c : CurT) (H : CurOk n c) (hn : n + 2000 ≤ 1099511627776) : ∃ W c', Ev (fun k => spec_l1Cur_world k c) (W, c') ∧ (W.1.size ≤ 1000 ∧ W.2.2.2.1.size ≤ 1000) ∧ CurOk (n + 400) c' := by
  obtain ⟨W, c1, e1, HW, _, H1⟩ := sureWorld_ev n c H (by omega) 5 (by omega)
  obtain ⟨s1, s2⟩ := okO_size HW
  obtain ⟨r, c2, e2, p, q, H2⟩ := pick_ev _ c1 H1 (by omega) 18
  obtain ⟨rl, c3, e3, hrl, H3⟩ := rule_ev _ c2 H2 (by omega)
  obtain ⟨a, c4, e4, _, H4⟩ := among_ev _ c2 H2 (by omega) [0, 1, 10, (-1), 4611686018427387904] (by decide)
  obtain ⟨t, c5, e5, ht, H5⟩ := of_ev _ c2 H2 (by omega) [(bs [48]), ByteArray.empty, (bs [55])] (by decide)
  have ht1 : t.size ≤ 1 := by
    simp only [List.mem_cons, List.not_mem_nil, or_false] at ht
    rcases ht with rfl | rfl | rfl <;> decide
  obtain ⟨a6, c6, e6, _, H6⟩ := among_ev _ c2 H2 (by omega) [(-1), 0, 9, 4611686018427387904] (by decide)
  obtain ⟨a7, c7, e7, _, H7⟩ := among_ev _ c6 H6 (by omega) [0, 4, (-1), 3] (by decide)
  have hz : (W.2.2.2.1 ++ t).size = W.2.2.2.1.size + t.size := ByteArray.size_append
  obtain ⟨code, at_, seed⟩ := c
  by_cases r0 : r = 0
  · exact ⟨_, _, Ev.step (fun k => spec_l1Cur_world.eq k code at_ seed) (Ev.bind e1 <| Ev.bind e2 <| Ev.yes (beq_iff_eq.2 r0) (Ev.bind e3 (Ev.now _))), ⟨by simp only; omega, by simp only; omega⟩, H3.mono (by omega) (by omega)⟩
  · have n0 := beq_eq_false_iff_ne.2 r0
    by_cases r1 : r = 1
    · exact ⟨_, _, Ev.step (fun k => spec_l1Cur_world.eq k code at_ seed) (Ev.bind e1 <| Ev.bind e2 <| Ev.no n0 (Ev.yes (beq_iff_eq.2 r1) (Ev.bind e4 (Ev.now _)))), ⟨by simp only; omega, by simp only; omega⟩, H4.mono (by omega) (by omega)⟩
    · have n1 := beq_eq_false_iff_ne.2 r1
      by_cases r2 : r = 2
      · exact ⟨_, _, Ev.step (fun k => spec_l1Cur_world.eq k code at_ seed) (Ev.bind e1 <| Ev.bind e2 <| Ev.no n0 (Ev.no n1 (Ev.yes (beq_iff_eq.2 r2) (Ev.bind e5 (Ev.yes (fitS_of (by simp only; omega)) (Ev.now _)))))), ⟨by simp only; omega, by simp only; omega⟩, H5.mono (by omega) (by omega)⟩
      · have n2 := beq_eq_false_iff_ne.2 r2
        by_cases r3 : r = 3
        · exact ⟨_, _, Ev.step (fun k => spec_l1Cur_world.eq k code at_ seed) (Ev.bind e1 <| Ev.bind e2 <| Ev.no n0 (Ev.no n1 (Ev.no n2 (Ev.yes (beq_iff_eq.2 r3) (Ev.bind e6 (Ev.bind e7 (Ev.now _))))))), ⟨by simp only; omega, by simp only; omega⟩, H7.mono (by omega) (by omega)⟩
        · exact ⟨_, _, Ev.step (fun k => spec_l1Cur_world.eq k code at_ seed) (Ev.bind e1 <| Ev.bind e2 <| Ev.no n0 (Ev.no n1 (Ev.no n2 (Ev.no (beq_eq_false_iff_ne.2 r3) (Ev.now _))))), ⟨by simp only; omega, by simp only; omega⟩, H2.mono (by omega) (by omega)⟩

def spK (w : Int) (cs : ByteArray) (k : Nat) : Sp := ((k : Int) % w, ((k : Int) / w, bt cs k - 48))
def plP (w : Int) (cs : ByteArray) (n : Nat) : List Sp := ((List.range n).filter fun k => decide (bt cs k ≠ 48)).map (spK w cs)
def plSp (w : Int) (cs : ByteArray) : List Sp := plP w cs cs.size
theorem plP_succ (w : Int) (cs : ByteArray) (n : Nat) : plP w cs (n + 1) = if bt cs n = 48 then plP w cs n else plP w cs n ++ [spK w cs n] := by
  unfold plP
  rw [List.range_succ, List.filter_append, List.map_append]
  by_cases h : bt cs n = 48
  · rw [if_pos h]
    simp [h]
  · rw [if_neg h]
    simp [h]
theorem plP_len (w : Int) (cs : ByteArray) : ∀ n : Nat, (plP w cs n).length ≤ n
  | 0 => Nat.le_refl _
  | n + 1 => by
    have := plP_len w cs n
    rw [plP_succ]
    split
    · omega
    · rw [List.length_append, List.length_singleton]
      omega
theorem plain_inj {x y x' y' w : Int} (hx : 0 ≤ x ∧ x ≤ w - 1) (hx' : 0 ≤ x' ∧ x' ≤ w - 1) (h : y * w + x = y' * w + x') : x = x' ∧ y = y' := by
  have key : ∀ a b c d : Int, 0 ≤ c → c ≤ w - 1 → 0 ≤ d → d ≤ w - 1 → a * w + c = b * w + d → ¬ a < b := fun a b c d h1 h2 h3 h4 h5 h6 => by
    have := Int.mul_le_mul_of_nonneg_right (show a + 1 ≤ b by omega) (show 0 ≤ w by omega)
    rw [Int.add_mul, Int.one_mul] at this
    omega
  have k1 := key y y' x x' hx.1 hx.2 hx'.1 hx'.2 h
  have k2 := key y' y x' x hx'.1 hx'.2 hx.1 hx.2 h.symm
  obtain rfl : y = y' := by omega
  exact ⟨by omega, rfl⟩
theorem cellK_of {w h : Int} (hw : 1 ≤ w ∧ w ≤ 9) (hh : 1 ≤ h ∧ h ≤ 9) {k : Nat} (hk : (k : Int) < w * h) : (0 ≤ (k : Int) % w ∧ (k : Int) % w ≤ w - 1) ∧ (0 ≤ (k : Int) / w ∧ (k : Int) / w ≤ h - 1) ∧ (k : Int) / w * w + (k : Int) % w = (k : Int) := by
  have h1 := Int.emod_nonneg (k : Int) (show w ≠ 0 by omega)
  have h2 := Int.emod_lt_of_pos (k : Int) (show 0 < w by omega)
  have h3 : (k : Int) / w < h := Int.ediv_lt_of_lt_mul (by omega) (by rw [Int.mul_comm]; omega)
  have h4 : 0 ≤ (k : Int) / w := Int.ediv_nonneg (by omega) (by omega)
  exact ⟨⟨h1, by omega⟩, ⟨h4, by omega⟩, Int.ediv_mul_add_emod _ _⟩
theorem of_cell {w h x y : Int} (hw : 1 ≤ w ∧ w ≤ 9) (hh : 1 ≤ h ∧ h ≤ 9) (hx : 0 ≤ x ∧ x ≤ w - 1) (hy : 0 ≤ y ∧ y ≤ h - 1) : ((y * w + x).toNat : Int) = y * w + x ∧ y * w + x < w * h ∧ ((y * w + x).toNat : Int) % w = x ∧ ((y * w + x).toNat : Int) / w = y := by
  obtain ⟨a1, a2, a3, a4⟩ := at_range hx hy hw hh
  have e : ((y * w + x).toNat : Int) = y * w + x := by omega
  refine ⟨e, a4, ?_, ?_⟩
  · rw [e, Int.add_comm, Int.add_mul_emod_self_right, Int.emod_eq_of_lt hx.1 (by omega)]
  · rw [e, Int.add_comm, Int.add_mul_ediv_right _ _ (by omega), Int.ediv_eq_zero_of_lt hx.1 (by omega), Int.zero_add]
section
variable {w h : Int} {cs : ByteArray} (hw : 1 ≤ w ∧ w ≤ 9) (hh : 1 ≤ h ∧ h ≤ 9) (hs : (cs.size : Int) = w * h)
include hw hh hs
theorem plSp_mem {s : Sp} : s ∈ plSp w cs ↔ (0 ≤ s.1 ∧ s.1 ≤ w - 1) ∧ (0 ≤ s.2.1 ∧ s.2.1 ≤ h - 1) ∧ s.2.2 = colB w cs s.1 s.2.1 ∧ s.2.2 ≠ 0 := by
  unfold plSp plP
  rw [List.mem_map]
  constructor
  · rintro ⟨k, hk, rfl⟩
    obtain ⟨h1, h2⟩ := List.mem_filter.1 hk
    have h1 := List.mem_range.1 h1
    have h2 := of_decide_eq_true h2
    obtain ⟨c1, c2, c3⟩ := cellK_of hw hh (k := k) (by omega)
    refine ⟨c1, c2, ?_, ?_⟩
    · show bt cs k - 48 = bt cs ((k : Int) / w * w + (k : Int) % w).toNat - 48
      rw [c3, Int.toNat_natCast]
    · show bt cs k - 48 ≠ 0
      omega
  · obtain ⟨x, y, c⟩ := s
    rintro ⟨hx, hy, hc, hn⟩
    simp only at hx hy hc hn
    obtain ⟨e1, e2, e3, e4⟩ := of_cell hw hh hx hy
    unfold colB at hc
    refine ⟨(y * w + x).toNat, List.mem_filter.2 ⟨List.mem_range.2 (by omega), decide_eq_true (by omega)⟩, ?_⟩
    unfold spK
    rw [e3, e4, ← hc]
theorem plSp_sorted : (plSp w cs).Pairwise Less := by
  unfold plSp plP
  rw [List.pairwise_map]
  have hr : ((List.range cs.size).filter fun k => decide (bt cs k ≠ 48)).Pairwise (· < ·) := List.Pairwise.filter _ List.pairwise_lt_range
  refine List.Pairwise.imp_of_mem (R := (· < ·)) (fun {a b} ha hb hl => ?_) hr
  have ha := List.mem_range.1 (List.mem_filter.1 ha).1
  have hb := List.mem_range.1 (List.mem_filter.1 hb).1
  obtain ⟨p1, p2, p3⟩ := cellK_of hw hh (k := a) (by omega)
  obtain ⟨q1, q2, q3⟩ := cellK_of hw hh (k := b) (by omega)
  show (a : Int) / w < (b : Int) / w ∨ ((a : Int) / w = (b : Int) / w ∧ (a : Int) % w < (b : Int) % w)
  generalize (a : Int) / w = ya at *
  generalize (b : Int) / w = yb at *
  generalize (a : Int) % w = xa at *
  generalize (b : Int) % w = xb at *
  rcases Int.lt_trichotomy ya yb with hc | hc | hc
  · exact .inl hc
  · subst hc
    exact .inr ⟨rfl, by omega⟩
  · exfalso
    have := Int.mul_le_mul_of_nonneg_right (show yb + 1 ≤ ya by omega) (show 0 ≤ w by omega)
    rw [Int.add_mul, Int.one_mul] at this
    omega
theorem plSp_ok {rl : ByteArray} (hcs : CellsOk (rl.size : Int) cs) : SpotsOk rl.size (plSp w cs) := by
  refine ⟨fun s hm => ?_, plSp_sorted hw hh hs⟩
  obtain ⟨hx, hy, hc, hn⟩ := (plSp_mem hw hh hs).1 hm
  obtain ⟨c, _, e, c48, cti⟩ := cell_ex hw hh hs hcs hx hy
  rw [e] at hc
  unfold SpotOk Far
  omega
theorem plSp_col {x y : Int} (hx : 0 ≤ x ∧ x ≤ w - 1) (hy : 0 ≤ y ∧ y ≤ h - 1) : colF x y (plSp w cs) = colB w cs x y := by
  by_cases h0 : colB w cs x y = 0
  · rw [h0]
    refine col_no fun s hm e => ?_
    obtain ⟨_, _, hc, hn⟩ := (plSp_mem hw hh hs).1 hm
    rw [e.1, e.2, h0] at hc
    exact hn hc
  · exact col_mem (plSp_sorted hw hh hs) ((plSp_mem hw hh hs).2 ⟨hx, hy, rfl, h0⟩)
theorem plSp_paint {x y p : Int} (hx : 0 ≤ x ∧ x ≤ w - 1) (hy : 0 ≤ y ∧ y ≤ h - 1) (hp : 0 ≤ p ∧ p ≤ 9) : paintF x y p (plSp w cs) = plSp w (putB w cs x y p) := by
  have hz : ((putB w cs x y p).size : Int) = w * h := by unfold putB; rw [setByte_size]; exact hs
  have s1 := paint_sorted (x := x) (y := y) (p := p) (plSp_sorted hw hh hs)
  have s2 := plSp_sorted hw hh hz
  obtain ⟨e1, e2, _, _⟩ := of_cell hw hh hx hy
  have hcol : ∀ u v, 0 ≤ u ∧ u ≤ w - 1 → 0 ≤ v ∧ v ≤ h - 1 → colB w (putB w cs x y p) u v = if u = x ∧ v = y then p else colB w cs u v := fun u v hu hv => by
    obtain ⟨f1, f2, _, _⟩ := of_cell hw hh hu hv
    unfold colB putB
    rw [bt_set _ (by omega), toNat_ofNat8 (by omega)]
    by_cases e : u = x ∧ v = y
    · rw [if_pos e, e.1, e.2, if_pos rfl]
      omega
    · rw [if_neg e, if_neg fun e' => e ?_]
      have e3 : v * w + u = y * w + x := by omega
      exact plain_inj hu hx e3
  refine less_unique _ _ s1 s2 ((List.perm_ext_iff_of_nodup (sorted_nodup s1) (sorted_nodup s2)).2 fun s => ?_)
  rw [mem_paint, plSp_mem hw hh hs, plSp_mem hw hh hz]
  obtain ⟨u, v, c⟩ := s
  simp only
  constructor
  · rintro (⟨⟨hu, hv, hc, hn⟩, hne⟩ | ⟨hp0, he⟩)
    · rw [hcol u v hu hv, if_neg hne]
      exact ⟨hu, hv, hc, hn⟩
    · simp only [Prod.mk.injEq] at he
      obtain ⟨rfl, rfl, rfl⟩ := he
      rw [hcol _ _ hx hy, if_pos ⟨rfl, rfl⟩]
      exact ⟨hx, hy, rfl, by omega⟩
  · rintro ⟨hu, hv, hc, hn⟩
    rw [hcol u v hu hv] at hc
    by_cases e : u = x ∧ v = y
    · rw [if_pos e] at hc
      obtain ⟨rfl, rfl⟩ := e
      exact .inr ⟨by omega, by rw [hc]⟩
    · rw [if_neg e] at hc
      exact .inl ⟨⟨hu, hv, hc, hn⟩, e⟩
end
def laidP (W : Wo) : Pl := (W.1, plSp W.2.1 W.2.2.2.1, W.2.2.2.2)
theorem laid_ok {W : Wo} (H : OkO W) : OkP W.1 (laidP W).2 := by
  obtain ⟨hR, hw, hh, hs, hcs, hx, hy, hwy⟩ := H
  have hm := mul_range (a := W.2.1) (b := W.2.2.1) hw.1 hw.2 hh.1 hh.2
  have hl := plP_len W.2.1 W.2.2.2.1 W.2.2.2.1.size
  exact ⟨hR, by show (plSp W.2.1 W.2.2.2.1).length ≤ 300; unfold plSp; omega, ⟨by show Far W.2.2.2.2.1; unfold Far; omega, by show Far W.2.2.2.2.2.1; unfold Far; omega⟩, hwy, plSp_ok hw hh hs hcs⟩
theorem laid_step {W : Wo} (H : OkO W) (hx : 0 < W.2.2.2.2.1 ∧ W.2.2.2.2.1 < W.2.1 - 1) (hy : 0 < W.2.2.2.2.2.1 ∧ W.2.2.2.2.2.1 < W.2.2.1 - 1) : stepF W.1 (laidP W).2 = (laidP (stepO W)).2 := by
  obtain ⟨rl, w, h, cs, x, y, wy⟩ := W
  obtain ⟨hR, hw, hh, hs, hcs, hx', hy', hwy⟩ : WorldOk rl w h cs x y wy := id H
  simp only at hx hy
  have hr6 := hR.1
  obtain ⟨c, hc, eqc, c48, cti⟩ := cell_ex hw hh hs hcs hx' hy'
  have hcol : hereF (plSp w cs, x, y, wy) = colB w cs x y := plSp_col hw hh hs hx' hy'
  obtain ⟨b, hb⟩ := byte_at (cs := rl) (i := (colB w cs x y).toNat) (by omega)
  have hsg : signF rl (plSp w cs, x, y, wy) = b := by
    unfold signF
    rw [hcol, List.getD_eq_getElem?_getD, hb]
    rfl
  have hwb : wayB rl (colB w cs x y) wy = turnF wy b := by
    unfold wayB turnF
    rw [bt_at hb]
  have hp : 0 ≤ (colB w cs x y + 1) % (rl.size : Int) ∧ (colB w cs x y + 1) % (rl.size : Int) ≤ 9 := by
    have p1 := Int.emod_nonneg (colB w cs x y + 1) (show (rl.size : Int) ≠ 0 by omega)
    have p2 := Int.emod_lt_of_pos (colB w cs x y + 1) (show (0 : Int) < rl.size by omega)
    omega
  have go : ∀ {n m d : Int}, 0 < n ∧ n < m - 1 → -1 ≤ d ∧ d ≤ 1 → go1 n m d = n + d := fun {n m d} hn hd => by
    unfold go1
    rw [if_neg (by omega), if_neg (by omega)]
  obtain ⟨⟨d1, d2⟩, d3, d4⟩ := dW_range (turnF wy b)
  show (paintF x y ((hereF (plSp w cs, x, y, wy) + 1) % (rl.size : Int)) (plSp w cs), x + dxW (turnF wy (signF rl (plSp w cs, x, y, wy))), y + dyW (turnF wy (signF rl (plSp w cs, x, y, wy))), turnF wy (signF rl (plSp w cs, x, y, wy))) =
    (plSp w (putB w cs x y ((colB w cs x y + 1) % (rl.size : Int))), go1 x w (1 * dxW (wayB rl (colB w cs x y) wy)), go1 y h (1 * dyW (wayB rl (colB w cs x y) wy)), wayB rl (colB w cs x y) wy)
  rw [hsg, hwb, hcol, plSp_paint hw hh hs hx' hy' hp, go hx (by omega), go hy (by omega), Int.one_mul, Int.one_mul]

def bl (b : Bx) : List Int := [b.1, b.2.1, b.2.2.1, b.2.2.2]
def bxQ (b : Bx) (p : Pt) : Bx := (min b.1 p.1, max b.2.1 p.1, min b.2.2.1 p.2, max b.2.2.2 p.2)
theorem least_ev (a b : Int) : Ev (fun k => spec_l1Least k (a, b)) (min a b) := by
  refine Ev.step (fun k => spec_l1Least.eq k a b) ?_
  by_cases h : a < b
  · exact Ev.yes (decide_eq_true h) (Ev.now' (by omega))
  · exact Ev.no (decide_eq_false h) (Ev.now' (by omega))
theorem most_ev (a b : Int) : Ev (fun k => spec_l1Most k (a, b)) (max a b) := by
  refine Ev.step (fun k => spec_l1Most.eq k a b) ?_
  by_cases h : a > b
  · exact Ev.yes (decide_eq_true h) (Ev.now' (by omega))
  · exact Ev.no (decide_eq_false h) (Ev.now' (by omega))
theorem enBox_l_ev (sp : List Sp) (hl : sp.length ≤ 1048576) : ∀ (m i : Nat) (b : Bx), i + m = sp.length → Ev (fun k => spec_enBox_l k (bl b, sp, (sp.length : Int), (i : Int))) (bl ((sp.drop i).foldl bxS b))
  | 0, i, b, hi => Ev.step (fun k => spec_enBox_l.eq k (bl b) sp _ _) (Ev.no (not_lt_nat (by omega)) (Ev.now' (by rw [List.drop_of_length_le (by omega)]; rfl)))
  | m + 1, i, b, hi => by
    obtain ⟨s, hs⟩ := nat_list (l := sp) (i := i) (by omega)
    obtain ⟨h1, h2⟩ := List.getElem?_eq_some_iff.1 hs
    have ih := enBox_l_ev sp hl m (i + 1) (bxS b s) (by omega)
    rw [List.drop_eq_getElem_cons h1, h2, List.foldl_cons]
    refine Ev.step (fun k => spec_enBox_l.eq k (bl b) sp _ _) (Ev.yes (lt_nat (by omega)) (Ev.yes (inB_nat (by omega)) ?_))
    rw [Int.toNat_natCast, getD_at hs, w64_succ (by omega)]
    exact Ev.yes rfl (Ev.bind (least_ev b.1 s.1) (Ev.yes rfl (Ev.yes rfl (Ev.bind (most_ev b.2.1 s.1) (Ev.yes rfl (Ev.yes rfl (Ev.bind (least_ev b.2.2.1 s.2.1) (Ev.yes rfl (Ev.yes rfl (Ev.bind (most_ev b.2.2.2 s.2.1) (Ev.yes rfl ih)))))))))))
theorem enBox_ev (rl : ByteArray) (S : PlS) (hl : S.1.length ≤ 1048576) : Ev (fun k => spec_enBox k (rl, S)) (bl (boxF S)) := by
  obtain ⟨sp, x, y, wy⟩ := S
  exact Ev.step (fun k => spec_enBox.eq k rl sp x y wy) (Ev.bind (enBox_l_ev sp hl sp.length 0 (x, x, y, y) (by omega)) (Ev.now _))
theorem box_l_ev (ps : List Pt) (hl : ps.length ≤ 1048577) : ∀ (m i : Nat) (b : Bx), i + m = ps.length → Ev (fun k => impl_box_l k (bl b, ps, (ps.length : Int), (i : Int))) (bl ((ps.drop i).foldl bxQ b))
  | 0, i, b, hi => Ev.step (fun k => impl_box_l.eq k (bl b) ps _ _) (Ev.no (not_lt_nat (by omega)) (Ev.now' (by rw [List.drop_of_length_le (by omega)]; rfl)))
  | m + 1, i, b, hi => by
    obtain ⟨s, hs⟩ := nat_list (l := ps) (i := i) (by omega)
    obtain ⟨h1, h2⟩ := List.getElem?_eq_some_iff.1 hs
    have ih := box_l_ev ps hl m (i + 1) (bxQ b s) (by omega)
    rw [List.drop_eq_getElem_cons h1, h2, List.foldl_cons]
    refine Ev.step (fun k => impl_box_l.eq k (bl b) ps _ _) (Ev.yes (lt_nat (by omega)) (Ev.yes (inB_nat (by omega)) ?_))
    rw [Int.toNat_natCast, getD_at hs, w64_succ (by omega)]
    have e : [(if s.1 < b.1 then s.1 else b.1), (if s.1 > b.2.1 then s.1 else b.2.1), (if s.2 < b.2.2.1 then s.2 else b.2.2.1), (if s.2 > b.2.2.2 then s.2 else b.2.2.2)] = bl (bxQ b s) := by
      have e1 : (if s.1 < b.1 then s.1 else b.1) = min b.1 s.1 := by split <;> omega
      have e2 : (if s.1 > b.2.1 then s.1 else b.2.1) = max b.2.1 s.1 := by split <;> omega
      have e3 : (if s.2 < b.2.2.1 then s.2 else b.2.2.1) = min b.2.2.1 s.2 := by split <;> omega
      have e4 : (if s.2 > b.2.2.2 then s.2 else b.2.2.2) = max b.2.2.2 s.2 := by split <;> omega
      rw [e1, e2, e3, e4]
      rfl
    rw [← e] at ih
    exact Ev.yes rfl (Ev.yes rfl (Ev.yes rfl (Ev.yes rfl ih)))
theorem boxPts_l_ev (sp : List Sp) (hl : sp.length ≤ 1048576) (X Y : Int) : ∀ (m i : Nat), i + m = sp.length → Ev (fun k => impl_Plain_box_l k ((X, Y) :: (sp.take i).map (fun s => (s.1, s.2.1)), sp, (sp.length : Int), (i : Int))) ((X, Y) :: sp.map fun s => (s.1, s.2.1))
  | 0, i, hi => Ev.step (fun k => impl_Plain_box_l.eq k _ sp _ _) (Ev.no (not_lt_nat (by omega)) (Ev.now' (by rw [List.take_of_length_le (by omega)])))
  | m + 1, i, hi => by
    obtain ⟨s, hs⟩ := nat_list (l := sp) (i := i) (by omega)
    have ih := boxPts_l_ev sp hl X Y m (i + 1) (by omega)
    rw [take_next' hs, List.map_append] at ih
    refine Ev.step (fun k => impl_Plain_box_l.eq k _ sp _ _) (Ev.yes (lt_nat (by omega)) (Ev.yes (inB_nat (by omega)) ?_))
    rw [Int.toNat_natCast, getD_at hs, w64_succ (by omega)]
    exact Ev.yes (fits_of (by rw [List.length_cons, List.length_map, List.length_take]; omega)) ih
theorem boxI_ev (rl : ByteArray) (S : PlS) (hl : S.1.length ≤ 1048576) : Ev (fun k => impl_Plain_box k (rl, S)) (bl (boxF S)) := by
  obtain ⟨sp, x, y, wy⟩ := S
  have q := box_l_ev ((x, y) :: sp.map fun s => (s.1, s.2.1)) (by rw [List.length_cons, List.length_map]; simp only at hl; omega) _ 0 (x, x, y, y) (Nat.zero_add _)
  have e : (List.drop 0 ((x, y) :: sp.map fun s => (s.1, s.2.1))).foldl bxQ (x, x, y, y) = boxF (sp, x, y, wy) := by
    rw [List.drop_zero, List.foldl_cons]
    have e0 : bxQ (x, x, y, y) (x, y) = (x, x, y, y) := by
      unfold bxQ
      simp
    rw [e0, List.foldl_map]
    rfl
  rw [e] at q
  refine Ev.step (fun k => impl_Plain_box.eq k rl sp x y wy) (Ev.bind (boxPts_l_ev sp hl x y sp.length 0 (by omega)) (Ev.bind (Ev.step (fun k => impl_box.eq k _) ?_) (Ev.now _)))
  have i0 : inB 0 ((x, y) :: sp.map fun s : Sp => (s.1, s.2.1)).length = true := inB_of (by omega) (by rw [List.length_cons]; omega)
  exact Ev.yes i0 (Ev.yes i0 (Ev.yes i0 (Ev.yes i0 (Ev.bind q (Ev.now _)))))
theorem box_both (rl : ByteArray) (S : PlS) (hrl : rl.size ≤ 1048576) (hsp : S.1.length ≤ 1048576) : ∃ r, Ev (fun k => impl_BoxOfPlain k (rl, S)) r ∧ Ev (fun k => spec_BoxOfPlain k (rl, S)) r ∧ (OkP rl S → r = (bl (boxF S), true)) ∧ (¬ OkP rl S → r = ([], false)) := by
  have a1 := isPl_ev rl S hrl hsp
  have a2 := goodPl_ev rl S hrl hsp
  have q1 := boxI_ev rl S hsp
  have q2 := enBox_ev rl S hsp
  by_cases H : OkP rl S
  · have b1 := a1.isT H
    have b2 := a2.isT H
    refine ⟨_, ?_, ?_, fun _ => rfl, fun h => absurd H h⟩ <;> obtain ⟨sp, x, y, wy⟩ := S
    · exact Ev.step (fun k => impl_BoxOfPlain.eq k rl sp x y wy) (Ev.bind b1 (Ev.no rfl (Ev.bind q1 (Ev.now _))))
    · exact Ev.step (fun k => spec_BoxOfPlain.eq k rl sp x y wy) (Ev.bind b2 (Ev.no rfl (Ev.bind q2 (Ev.now _))))
  · have b1 := a1.isF H
    have b2 := a2.isF H
    refine ⟨([], false), ?_, ?_, fun h => absurd h H, fun _ => rfl⟩ <;> obtain ⟨sp, x, y, wy⟩ := S
    · exact Ev.step (fun k => impl_BoxOfPlain.eq k rl sp x y wy) (Ev.bind b1 (Ev.yes rfl (Ev.now _)))
    · exact Ev.step (fun k => spec_BoxOfPlain.eq k rl sp x y wy) (Ev.bind b2 (Ev.yes rfl (Ev.now _)))
/-! ### Pictures -/
theorem ofBytes_apps (a b : List Int) : ofBytes a ++ ofBytes b = ofBytes (a ++ b) := by
  apply ba_ext
  rw [append_list]
  unfold ofBytes
  simp
theorem ofBytes_len (l : List Int) : (ofBytes l).size = l.length := by
  rw [size_list]
  unfold ofBytes
  simp
theorem rowL_drop (b0 : Int) {W : Nat} (sp : List Sp) (y : Int) {k : Nat} (hk : k < W) : (rowL b0 W sp y).drop k = (48 + colF (b0 + (k : Int)) y sp) :: (rowL b0 W sp y).drop (k + 1) := by
  obtain ⟨h1, h2⟩ := List.getElem?_eq_some_iff.1 (rowL_get b0 sp y hk)
  rw [List.drop_eq_getElem_cons h1, h2]
section
variable {rl : ByteArray} {S : PlS} (H : OkP rl S) {W : Nat} (hW : (W : Int) = (boxF S).2.1 - (boxF S).1 + 1) (hW40 : W ≤ 40)
include H hW hW40
theorem picS_row (y : Int) (hy : Far y) : ∀ (m k : Nat) (out : ByteArray), k + m = W → out.size + m ≤ 100000 → Ev (fun j => spec_PictureOf_l_l j ((rl, S), bl (boxF S), out, y, (boxF S).1 + (k : Int))) ((rl, S), bl (boxF S), out ++ ofBytes ((rowL (boxF S).1 W S.1 y).drop k), y) := by
  obtain ⟨⟨⟨f1, f2⟩, f3, f4⟩, _, _⟩ := boxF_facts H
  unfold Far at f1 f2
  have hR1 := H.1.1
  intro m
  induction m with
  | zero =>
    intro k out hk ho
    have hd : (rowL (boxF S).1 W S.1 y).drop k = [] := List.drop_of_length_le (by rw [rowL_len]; omega)
    rw [hd]
    have he : out ++ ofBytes [] = out := by
      apply ba_ext
      rw [append_list]
      exact List.append_nil _
    rw [he]
    obtain ⟨sp, X, Y, wy⟩ := S
    exact Ev.step (fun k => spec_PictureOf_l_l.eq k rl sp X Y wy _ _ _ _) (Ev.yes rfl (Ev.no (decide_eq_false (show ¬ _ ≤ (boxF (sp, X, Y, wy)).2.1 by omega)) (Ev.now _)))
  | succ m ih =>
    intro k out hk ho
    obtain ⟨_, hlen, _, _, hS⟩ := id H
    have hc := col_range (x := (boxF S).1 + (k : Int)) (y := y) (show (1 : Int) ≤ (rl.size : Int) by omega) hS
    have q1 := enColourF_ev rl hS (by omega) S.2.1 S.2.2.1 S.2.2.2 ((boxF S).1 + (k : Int)) y
    have q2 := l1Num_ev (colF ((boxF S).1 + (k : Int)) y S.1) (by omega)
    have q := ih (k + 1) (out ++ ofBytes [48 + colF ((boxF S).1 + (k : Int)) y S.1]) (by omega) (by rw [ByteArray.size_append, ofBytes_len]; simp only [List.length_cons, List.length_nil]; omega)
    rw [ByteArray.append_assoc, ofBytes_apps, List.singleton_append, ← rowL_drop _ _ _ (by omega)] at q
    have e64 : w64 ((boxF S).1 + (k : Int) + 1) = (boxF S).1 + ((k + 1 : Nat) : Int) := by rw [w64_of (by omega) (by omega)]; omega
    have hle : (boxF S).1 + (k : Int) ≤ (boxF S).2.1 := by omega
    have hf : fitS out (ofBytes [48 + colF ((boxF S).1 + (k : Int)) y S.1]) = true := fitS_of (by rw [ofBytes_len]; simp only [List.length_cons, List.length_nil]; omega)
    obtain ⟨sp, X, Y, wy⟩ := S
    refine Ev.step (fun k => spec_PictureOf_l_l.eq k rl sp X Y wy _ _ _ _) (Ev.yes rfl (Ev.yes (decide_eq_true hle) (Ev.bind q1 (Ev.bind q2 (Ev.yes hf ?_)))))
    rw [e64]
    exact q
theorem picS_l (n0 : Nat) (hH : ((n0 + 1 : Nat) : Int) = (boxF S).2.2.2 - (boxF S).2.2.1 + 1) (hH40 : n0 + 1 ≤ 40) : ∀ (m n : Nat), n + m = n0 + 1 → Ev (fun j => spec_PictureOf_l j ((rl, S), bl (boxF S), ofBytes (pcL (boxF S).1 W (boxF S).2.2.1 S.1 n), (boxF S).2.2.1 + (n : Int))) (ofBytes (pcL (boxF S).1 W (boxF S).2.2.1 S.1 (n0 + 1))) := by
  obtain ⟨⟨⟨f1, f2⟩, f3, f4⟩, _, _⟩ := boxF_facts H
  have g3 := f3
  have g4 := f4
  unfold Far at f1 f2 f3 f4
  have hlen : ∀ n, n ≤ 40 → (pcL (boxF S).1 W (boxF S).2.2.1 S.1 n).length ≤ 2000 := fun n hn => by
    cases n with
    | zero => exact Nat.zero_le _
    | succ n =>
      have h1 := pcL_len (boxF S).1 W (boxF S).2.2.1 S.1 n
      have h2 : (n + 1) * (W + 1) ≤ 40 * 41 := Nat.mul_le_mul hn (by omega)
      omega
  intro m
  induction m with
  | zero =>
    intro n hn
    obtain rfl : n = n0 + 1 := by omega
    obtain ⟨sp, X, Y, wy⟩ := S
    exact Ev.step (fun k => spec_PictureOf_l.eq k rl sp X Y wy _ _ _) (Ev.yes rfl (Ev.no (decide_eq_false (show ¬ _ ≤ (boxF (sp, X, Y, wy)).2.2.2 by omega)) (Ev.now _)))
  | succ m ih =>
    intro n hn
    have hl := hlen n (by omega)
    have q := ih (n + 1) (by omega)
    have e64 : w64 ((boxF S).2.2.1 + (n : Int) + 1) = (boxF S).2.2.1 + ((n + 1 : Nat) : Int) := by rw [w64_of (by omega) (by omega)]; omega
    have hle : (boxF S).2.2.1 + (n : Int) ≤ (boxF S).2.2.2 := by omega
    have hFy : Far ((boxF S).2.2.1 + (n : Int)) := by unfold Far; omega
    have r1 := picS_row H hW hW40 ((boxF S).2.2.1 + (n : Int)) hFy W 0 (ofBytes (pcL (boxF S).1 W (boxF S).2.2.1 S.1 n)) (by omega) (by rw [ofBytes_len]; omega)
    have r2 := picS_row H hW hW40 ((boxF S).2.2.1 + (n : Int)) hFy W 0 (ofBytes (pcL (boxF S).1 W (boxF S).2.2.1 S.1 n) ++ bs [47]) (by omega) (by rw [ByteArray.size_append, ofBytes_len, show (bs [47]).size = 1 from rfl]; omega)
    have hz : (boxF S).1 + ((0 : Nat) : Int) = (boxF S).1 := Int.add_zero _
    rw [hz, List.drop_zero] at r1 r2
    have hf : fitS (ofBytes (pcL (boxF S).1 W (boxF S).2.2.1 S.1 n)) (bs [47]) = true := fitS_of (by rw [ofBytes_len, show (bs [47]).size = 1 from rfl]; omega)
    by_cases h0 : n = 0
    · subst h0
      have ep : ofBytes (pcL (boxF S).1 W (boxF S).2.2.1 S.1 0) ++ ofBytes (rowL (boxF S).1 W S.1 ((boxF S).2.2.1 + ((0 : Nat) : Int))) = ofBytes (pcL (boxF S).1 W (boxF S).2.2.1 S.1 (0 + 1)) := ofBytes_apps _ _
      rw [ep] at r1
      have hno : ¬ (boxF S).2.2.1 + ((0 : Nat) : Int) > (boxF S).2.2.1 := by omega
      obtain ⟨sp, X, Y, wy⟩ := S
      refine Ev.step (fun k => spec_PictureOf_l.eq k rl sp X Y wy _ _ _) (Ev.yes rfl (Ev.yes (decide_eq_true hle) (Ev.yes rfl (Ev.no (decide_eq_false hno) (Ev.yes rfl (Ev.bind r1 ?_))))))
      simp only [e64]
      exact q
    · have ep : ofBytes (pcL (boxF S).1 W (boxF S).2.2.1 S.1 n) ++ bs [47] ++ ofBytes (rowL (boxF S).1 W S.1 ((boxF S).2.2.1 + (n : Int))) = ofBytes (pcL (boxF S).1 W (boxF S).2.2.1 S.1 (n + 1)) := by
        show ofBytes _ ++ ofBytes [47] ++ ofBytes _ = ofBytes ((if n = 0 then [] else _ ++ [47]) ++ _)
        rw [if_neg h0, ofBytes_apps, ofBytes_apps]
      rw [ep] at r2
      have hyes : (boxF S).2.2.1 + (n : Int) > (boxF S).2.2.1 := by omega
      obtain ⟨sp, X, Y, wy⟩ := S
      refine Ev.step (fun k => spec_PictureOf_l.eq k rl sp X Y wy _ _ _) (Ev.yes rfl (Ev.yes (decide_eq_true hle) (Ev.yes rfl (Ev.yes (decide_eq_true hyes) (Ev.yes hf (Ev.yes rfl (Ev.bind r2 ?_)))))))
      simp only [e64]
      exact q
theorem picI_row (g : List (Pt × Int)) (hg : g.Perm (S.1.map ent)) (rows : List ByteArray) (y : Int) : ∀ (m k : Nat), k + m = W → Ev (fun j => impl_PictureOf_l_l j (bl (boxF S), g, rows, y, (rowL (boxF S).1 W S.1 y).take k, (boxF S).1 + (k : Int))) (bl (boxF S), g, rows, y, rowL (boxF S).1 W S.1 y) := by
  obtain ⟨⟨⟨f1, f2⟩, f3, f4⟩, _, _⟩ := boxF_facts H
  unfold Far at f1 f2
  have hR1 := H.1.1
  intro m
  induction m with
  | zero =>
    intro k hk
    have hd : (rowL (boxF S).1 W S.1 y).take k = rowL (boxF S).1 W S.1 y := List.take_of_length_le (by rw [rowL_len]; omega)
    rw [hd]
    exact Ev.step (fun k => impl_PictureOf_l_l.eq k (bl (boxF S)) g rows y _ _) (Ev.yes rfl (Ev.no (decide_eq_false (show ¬ _ ≤ (boxF S).2.1 by omega)) (Ev.now _)))
  | succ m ih =>
    intro k hk
    obtain ⟨_, hlen, _, _, hS⟩ := id H
    have hc := col_range (x := (boxF S).1 + (k : Int)) (y := y) (show (1 : Int) ≤ (rl.size : Int) by omega) hS
    have hget : mget (K := (Int × Int)) (α := Int) (Sh.eqT (.pair (.int .i64) (.int .i64))) g ((boxF S).1 + (k : Int), y) 0 = colF ((boxF S).1 + (k : Int)) y S.1 := gotF hS hg _ _
    have q := ih (k + 1) (by omega)
    have htk : (rowL (boxF S).1 W S.1 y).take (k + 1) = (rowL (boxF S).1 W S.1 y).take k ++ [48 + colF ((boxF S).1 + (k : Int)) y S.1] := by
      rw [List.take_add_one, rowL_get _ _ _ (by omega)]
      rfl
    rw [htk] at q
    have e64 : w64 ((boxF S).1 + (k : Int) + 1) = (boxF S).1 + ((k + 1 : Nat) : Int) := by rw [w64_of (by omega) (by omega)]; omega
    have hle : (boxF S).1 + (k : Int) ≤ (boxF S).2.1 := by omega
    refine Ev.step (fun k => impl_PictureOf_l_l.eq k (bl (boxF S)) g rows y _ _) (Ev.yes rfl (Ev.yes (decide_eq_true hle) (Ev.yes (fits_of (by rw [List.length_take, rowL_len]; omega)) ?_)))
    rw [hget, e64, w64_of (n := 48 + colF ((boxF S).1 + (k : Int)) y S.1) (by omega) (by omega), w8_of (by omega) (by omega)]
    exact q
theorem picI_l (g : List (Pt × Int)) (hg : g.Perm (S.1.map ent)) (n0 : Nat) (hH : ((n0 + 1 : Nat) : Int) = (boxF S).2.2.2 - (boxF S).2.2.1 + 1) (hH40 : n0 + 1 ≤ 40) : ∀ (m n : Nat), n + m = n0 + 1 → Ev (fun j => impl_PictureOf_l j (bl (boxF S), g, (List.range n).map (fun j : Nat => ofBytes (rowL (boxF S).1 W S.1 ((boxF S).2.2.1 + (j : Int)))), (boxF S).2.2.1 + (n : Int)))
    ((List.range (n0 + 1)).map fun j : Nat => ofBytes (rowL (boxF S).1 W S.1 ((boxF S).2.2.1 + (j : Int)))) := by
  obtain ⟨⟨⟨f1, f2⟩, f3, f4⟩, _, _⟩ := boxF_facts H
  unfold Far at f1 f2 f3 f4
  intro m
  induction m with
  | zero =>
    intro n hn
    obtain rfl : n = n0 + 1 := by omega
    exact Ev.step (fun k => impl_PictureOf_l.eq k (bl (boxF S)) g _ _) (Ev.yes rfl (Ev.no (decide_eq_false (show ¬ _ ≤ (boxF S).2.2.2 by omega)) (Ev.now _)))
  | succ m ih =>
    intro n hn
    have q := ih (n + 1) (by omega)
    rw [List.range_succ, List.map_append] at q
    have e64 : w64 ((boxF S).2.2.1 + (n : Int) + 1) = (boxF S).2.2.1 + ((n + 1 : Nat) : Int) := by rw [w64_of (by omega) (by omega)]; omega
    have hle : (boxF S).2.2.1 + (n : Int) ≤ (boxF S).2.2.2 := by omega
    have r1 := picI_row H hW hW40 g hg ((List.range n).map fun j : Nat => ofBytes (rowL (boxF S).1 W S.1 ((boxF S).2.2.1 + (j : Int)))) ((boxF S).2.2.1 + (n : Int)) W 0 (by omega)
    rw [show (boxF S).1 + ((0 : Nat) : Int) = (boxF S).1 from Int.add_zero _, List.take_zero] at r1
    refine Ev.step (fun k => impl_PictureOf_l.eq k (bl (boxF S)) g _ _) (Ev.yes rfl (Ev.yes (decide_eq_true hle) (Ev.yes rfl (Ev.bind r1 (Ev.yes (fits_of (by rw [List.length_map, List.length_range]; omega)) ?_)))))
    simp only [e64]
    exact q
end
theorem rows_join (f : Nat → List Int) (pc : Nat → List Int) (h0 : pc 1 = f 0) (hs : ∀ n, pc (n + 2) = pc (n + 1) ++ [47] ++ f (n + 1)) : ∀ n : Nat, Lib.join (((List.range (n + 1)).map fun j => ofBytes (f j)).map (·.data.toList)) (bs [47]).data.toList = (ofBytes (pc (n + 1))).data.toList
  | 0 => by
    rw [h0]
    exact Lib.join_one _ _
  | n + 1 => by
    have ih := rows_join f pc h0 hs n
    have snoc : ∀ (l : List (List UInt8)) (x sep : List UInt8), l ≠ [] → Lib.join (l ++ [x]) sep = Lib.join l sep ++ sep ++ x := fun l x sep h => by
      cases l with
      | nil => exact absurd rfl h
      | cons a r =>
        rw [List.cons_append, Lib.join_cons, Lib.join_cons]
        simp [Lib.joinTail]
    rw [List.range_succ, List.map_append, List.map_append, hs, ← ofBytes_apps, ← ofBytes_apps, append_list, append_list, ← ih]
    refine snoc _ _ _ ?_
    rw [List.range_succ, List.map_append, List.map_append]
    simp
def PicSmall (S : PlS) : Prop := (boxF S).2.1 - (boxF S).1 < 40 ∧ (boxF S).2.2.2 - (boxF S).2.2.1 < 40
theorem picture_both (rl : ByteArray) (S : PlS) (hrl : rl.size ≤ 1048576) (hsp : S.1.length ≤ 1048576) : ∃ r, Ev (fun k => impl_PictureOf k (rl, S)) r ∧ Ev (fun k => spec_PictureOf k (rl, S)) r ∧ (¬ (OkP rl S ∧ PicSmall S) → r = (ByteArray.empty, false)) ∧
    (OkP rl S → PicSmall S → ∃ W n : Nat, (W : Int) = (boxF S).2.1 - (boxF S).1 + 1 ∧ ((n + 1 : Nat) : Int) = (boxF S).2.2.2 - (boxF S).2.2.1 + 1 ∧ r = (ofBytes (pcL (boxF S).1 W (boxF S).2.2.1 S.1 (n + 1)), true)) := by
  have a1 := isPl_ev rl S hrl hsp
  have a2 := goodPl_ev rl S hrl hsp
  have q1 := boxI_ev rl S hsp
  have q2 := enBox_ev rl S hsp
  by_cases H : OkP rl S
  rotate_left
  · have b1 := a1.isF H
    have b2 := a2.isF H
    refine ⟨(ByteArray.empty, false), ?_, ?_, fun _ => rfl, fun h => absurd h H⟩ <;> obtain ⟨sp, x, y, wy⟩ := S
    · exact Ev.step (fun k => impl_PictureOf.eq k rl sp x y wy) (Ev.bind b1 (Ev.yes rfl (Ev.now _)))
    · exact Ev.step (fun k => spec_PictureOf.eq k rl sp x y wy) (Ev.bind b2 (Ev.yes rfl (Ev.now _)))
  have b1 := a1.isT H
  have b2 := a2.isT H
  obtain ⟨⟨⟨f1, f2⟩, f3, f4⟩, _, ⟨x1, x2⟩, y1, y2⟩ := boxF_facts H
  unfold Far at f1 f2 f3 f4
  have g := going_ev rl S.2.1 S.2.2.1 S.2.2.2 S.1 hsp (keys_of H.2.2.2.2.2)
  have ex : w64 ((boxF S).2.1 - (boxF S).1) = (boxF S).2.1 - (boxF S).1 := w64_of (by omega) (by omega)
  have ey : w64 ((boxF S).2.2.2 - (boxF S).2.2.1) = (boxF S).2.2.2 - (boxF S).2.2.1 := w64_of (by omega) (by omega)
  by_cases hx : (boxF S).2.1 - (boxF S).1 < 40
  rotate_left
  · have t1 : decide (w64 ((boxF S).2.1 - (boxF S).1) ≥ 40) = true := by rw [ex]; exact decide_eq_true (by omega)
    have t2 : decide (w64 ((boxF S).2.1 - (boxF S).1) > 39) = true := by rw [ex]; exact decide_eq_true (by omega)
    refine ⟨(ByteArray.empty, false), ?_, ?_, fun _ => rfl, fun _ h => absurd h.1 hx⟩ <;> obtain ⟨sp, x, y, wy⟩ := S
    · exact Ev.step (fun k => impl_PictureOf.eq k rl sp x y wy) (Ev.bind b1 (Ev.no rfl (Ev.bind q1 (Ev.bind g (Ev.yes rfl (Ev.yes rfl (Ev.yes t1 (Ev.now _))))))))
    · exact Ev.step (fun k => spec_PictureOf.eq k rl sp x y wy) (Ev.bind b2 (Ev.no rfl (Ev.bind q2 (Ev.yes rfl (Ev.yes rfl (Ev.yes t2 (Ev.now _)))))))
  have t1 : decide (w64 ((boxF S).2.1 - (boxF S).1) ≥ 40) = false := by rw [ex]; exact decide_eq_false (by omega)
  have t2 : decide (w64 ((boxF S).2.1 - (boxF S).1) > 39) = false := by rw [ex]; exact decide_eq_false (by omega)
  by_cases hy : (boxF S).2.2.2 - (boxF S).2.2.1 < 40
  rotate_left
  · have u1 : decide (w64 ((boxF S).2.2.2 - (boxF S).2.2.1) ≥ 40) = true := by rw [ey]; exact decide_eq_true (by omega)
    have u2 : decide (w64 ((boxF S).2.2.2 - (boxF S).2.2.1) > 39) = true := by rw [ey]; exact decide_eq_true (by omega)
    refine ⟨(ByteArray.empty, false), ?_, ?_, fun _ => rfl, fun _ h => absurd h.2 hy⟩ <;> obtain ⟨sp, x, y, wy⟩ := S
    · exact Ev.step (fun k => impl_PictureOf.eq k rl sp x y wy) (Ev.bind b1 (Ev.no rfl (Ev.bind q1 (Ev.bind g (Ev.yes rfl (Ev.yes rfl (Ev.no t1 (Ev.yes rfl (Ev.yes rfl (Ev.yes u1 (Ev.now _)))))))))))
    · exact Ev.step (fun k => spec_PictureOf.eq k rl sp x y wy) (Ev.bind b2 (Ev.no rfl (Ev.bind q2 (Ev.yes rfl (Ev.yes rfl (Ev.no t2 (Ev.yes rfl (Ev.yes rfl (Ev.yes u2 (Ev.now _))))))))))
  have u1 : decide (w64 ((boxF S).2.2.2 - (boxF S).2.2.1) ≥ 40) = false := by rw [ey]; exact decide_eq_false (by omega)
  have u2 : decide (w64 ((boxF S).2.2.2 - (boxF S).2.2.1) > 39) = false := by rw [ey]; exact decide_eq_false (by omega)
  obtain ⟨W, hW⟩ : ∃ W : Nat, (W : Int) = (boxF S).2.1 - (boxF S).1 + 1 := ⟨((boxF S).2.1 - (boxF S).1 + 1).toNat, by omega⟩
  obtain ⟨n, hn⟩ : ∃ n : Nat, ((n + 1 : Nat) : Int) = (boxF S).2.2.2 - (boxF S).2.2.1 + 1 := ⟨((boxF S).2.2.2 - (boxF S).2.2.1).toNat, by omega⟩
  have p1 := picI_l H hW (by omega) _ (List.Perm.refl _) n hn (by omega) (n + 1) 0 (by omega)
  have p2 := picS_l H hW (by omega) n hn (by omega) (n + 1) 0 (by omega)
  rw [show (boxF S).2.2.1 + ((0 : Nat) : Int) = (boxF S).2.2.1 from Int.add_zero _] at p1 p2
  have hj : Ev (fun k => strings_Join k ((List.range (n + 1)).map (fun j : Nat => ofBytes (rowL (boxF S).1 W S.1 ((boxF S).2.2.1 + (j : Int)))), bs [47])) (ofBytes (pcL (boxF S).1 W (boxF S).2.2.1 S.1 (n + 1))) := by
    have hjn := rows_join (fun j => rowL (boxF S).1 W S.1 ((boxF S).2.2.1 + (j : Int))) (pcL (boxF S).1 W (boxF S).2.2.1 S.1) (by
      show (if (0 : Nat) = 0 then [] else _) ++ _ = _
      rw [if_pos rfl, List.nil_append]) (fun n => by
      show (if n + 1 = 0 then [] else _) ++ _ = _
      rw [if_neg (by omega)]) n
    have hl := pcL_len (boxF S).1 W (boxF S).2.2.1 S.1 n
    have h2 : (n + 1) * (W + 1) ≤ 40 * 41 := Nat.mul_le_mul (by omega) (by omega)
    refine Ev.step (fun k => (strings_Join.eq k (_, bs [47])).trans (show joinS _ (bs [47]) = some (ofBytes (pcL (boxF S).1 W (boxF S).2.2.1 S.1 (n + 1))) from ?_)) (Ev.now _)
    unfold joinS
    rw [hjn, if_pos ⟨by rw [List.length_map, List.length_range]; omega, by rw [← size_list, ofBytes_len]; omega⟩]
  refine ⟨(ofBytes (pcL (boxF S).1 W (boxF S).2.2.1 S.1 (n + 1)), true), ?_, ?_, fun h => absurd ⟨H, hx, hy⟩ h, fun _ _ => ⟨W, n, hW, hn, rfl⟩⟩ <;> obtain ⟨sp, x, y, wy⟩ := S
  · exact Ev.step (fun k => impl_PictureOf.eq k rl sp x y wy) (Ev.bind b1 (Ev.no rfl (Ev.bind q1 (Ev.bind g (Ev.yes rfl (Ev.yes rfl (Ev.no t1 (Ev.yes rfl (Ev.yes rfl (Ev.no u1 (Ev.yes rfl (Ev.bind p1 (Ev.bind hj (Ev.now _))))))))))))))
  · exact Ev.step (fun k => spec_PictureOf.eq k rl sp x y wy) (Ev.bind b2 (Ev.no rfl (Ev.bind q2 (Ev.yes rfl (Ev.yes rfl (Ev.no t2 (Ev.yes rfl (Ev.yes rfl (Ev.no u2 (Ev.yes rfl (Ev.bind p2 (Ev.now _))))))))))))

theorem cellB {W : Wo} (H : OkO W) {k : Nat} (hk : k < W.2.2.2.1.size) : 48 ≤ bt W.2.2.2.1 k ∧ bt W.2.2.2.1 k ≤ 57 ∧ w64 (w8 (bt W.2.2.2.1 k - 48)) = bt W.2.2.2.1 k - 48 := by
  obtain ⟨hR, hw, hh, hs, hcs, _⟩ := H
  have hr6 := hR.1
  obtain ⟨c, hc⟩ := byte_at hk
  obtain ⟨c48, cti⟩ := hcs c (List.mem_of_getElem? hc)
  rw [bt_at hc]
  exact ⟨by omega, by omega, by rw [w8_of (by omega) (by omega), w64_of (by omega) (by omega)]⟩
theorem laidI_l {W : Wo} (H : OkO W) : ∀ (m i : Nat), i + m = W.2.2.2.1.size → Ev (fun k => impl_PlainOfWorld_l k (W, zeroP, (W.1, plP W.2.1 W.2.2.2.1 i, W.2.2.2.2), (W.2.2.2.1.size : Int), (i : Int))) (zeroP, laidP W) := by
  have hz := okO_size H
  intro m
  induction m with
  | zero =>
    intro i hi
    obtain rfl : i = W.2.2.2.1.size := by omega
    obtain ⟨rl, w, h, cs, x, y, wy⟩ := W
    exact Ev.step (fun k => impl_PlainOfWorld_l.eq k rl w h cs x y wy ByteArray.empty [] 0 0 0 _ _ _ _ _ _ _) (Ev.no (not_lt_nat (Nat.lt_irrefl _)) (Ev.now _))
  | succ m ih =>
    intro i hi
    have hlt : i < W.2.2.2.1.size := by omega
    have q := ih (i + 1) (by omega)
    rw [plP_succ] at q
    obtain ⟨c48, c57, e8⟩ := cellB H hlt
    have hl := plP_len W.2.1 W.2.2.2.1 i
    have hw : (W.2.1 != 0) = true := by have := H.2.1; rw [bne_iff_ne]; omega
    have t1 : ((i : Int)).tmod W.2.1 = (i : Int) % W.2.1 := Int.tmod_eq_emod_of_nonneg (by omega)
    have t2 : w64 (((i : Int)).tdiv W.2.1) = (i : Int) / W.2.1 := by
      have h1 : 0 ≤ (i : Int) / W.2.1 := Int.ediv_nonneg (by omega) (by have := H.2.1; omega)
      have h2 : (i : Int) / W.2.1 ≤ (i : Int) := Int.ediv_le_self _ (by omega)
      rw [Int.tdiv_eq_ediv_of_nonneg (by omega), w64_of (by omega) (by omega)]
    have hw1 := w64_succ (i := i) (by omega)
    have hff : fits ((plP W.2.1 W.2.2.2.1 i).length + 1) 24 = true := fits_of (by omega)
    have hpos : bt W.2.2.2.1 i ≠ 48 → decide (bt W.2.2.2.1 i - 48 > 0) = true := fun h => decide_eq_true (by omega)
    have hneg : bt W.2.2.2.1 i = 48 → decide (bt W.2.2.2.1 i - 48 > 0) = false := fun h => decide_eq_false (by omega)
    obtain ⟨rl, w, h, cs, x, y, wy⟩ := W
    simp only at t1 t2 e8
    refine Ev.step (fun k => impl_PlainOfWorld_l.eq k rl w h cs x y wy ByteArray.empty [] 0 0 0 _ _ _ _ _ _ _) (Ev.yes (lt_nat hlt) (Ev.yes (inB_nat hlt) ?_))
    rw [Int.toNat_natCast, e8, hw1]
    by_cases h0 : bt cs i = 48
    · rw [if_pos h0] at q
      exact Ev.no (hneg h0) q
    · rw [if_neg h0] at q
      refine Ev.yes (hpos h0) (Ev.yes hw (Ev.yes hw (Ev.yes hff ?_)))
      rw [t1, t2]
      exact q
theorem laidS_row {W : Wo} (H : OkO W) {wn hn : Nat} (ew : (wn : Int) = W.2.1) (eh : (hn : Int) = W.2.2.1) {y : Nat} (hy : y < hn) : ∀ (m x : Nat), x + m = wn → Ev (fun k => spec_PlainOfWorld_l_l k (W, zeroP, (W.1, plP W.2.1 W.2.2.2.1 (y * wn + x), W.2.2.2.2), (y : Int), (x : Int))) (W, zeroP, (W.1, plP W.2.1 W.2.2.2.1 (y * wn + wn), W.2.2.2.2), (y : Int)) := by
  have hz := okO_size H
  have hw := H.2.1
  have hh := H.2.2.1
  have hs := H.2.2.2.1
  intro m
  induction m with
  | zero =>
    intro x hx
    obtain rfl : x = wn := by omega
    obtain ⟨rl, w, h, cs, X, Y, wy⟩ := W
    exact Ev.step (fun k => spec_PlainOfWorld_l_l.eq k rl w h cs X Y wy ByteArray.empty [] 0 0 0 _ _ _ _ _ _ _) (Ev.no (decide_eq_false (show ¬ (x : Int) < w by have e : (x : Int) = w := ew; omega)) (Ev.now _))
  | succ m ih =>
    intro x hx
    have q := ih (x + 1) (by omega)
    rw [show y * wn + (x + 1) = y * wn + x + 1 from (Nat.add_assoc _ _ _).symm, plP_succ] at q
    obtain ⟨e1, e2, e3, e4⟩ := of_cell (w := W.2.1) (h := W.2.2.1) (x := (x : Int)) (y := (y : Int)) hw hh (by omega) (by omega)
    have en : ((y : Int) * W.2.1 + (x : Int)) = ((y * wn + x : Nat) : Int) := by rw [← ew, Int.natCast_add, Int.natCast_mul]
    have en2 : ((y : Int) * W.2.1 + (x : Int)).toNat = y * wn + x := by rw [en, Int.toNat_natCast]
    rw [en2] at e1 e3 e4
    have hlt : y * wn + x < W.2.2.2.1.size := by omega
    obtain ⟨c48, c57, e8⟩ := cellB H hlt
    have e64 := at64 (x := (x : Int)) (y := (y : Int)) (w := W.2.1) (h := W.2.2.1) (by omega) (by omega) hw hh
    have hl := plP_len W.2.1 W.2.2.2.1 (y * wn + x)
    have hw1 := w64_succ (i := x) (by omega)
    have hK : spK W.2.1 W.2.2.2.1 (y * wn + x) = ((x : Int), ((y : Int), bt W.2.2.2.1 (y * wn + x) - 48)) := by
      unfold spK
      rw [e3, e4]
    rw [hK] at q
    have hin : inB ((y * wn + x : Nat) : Int) W.2.2.2.1.size = true := inB_nat hlt
    have hxw : (x : Int) < W.2.1 := by omega
    have hcol : Ev (fun k => spec_woColour k (W, (x : Int), (y : Int))) (bt W.2.2.2.1 (y * wn + x) - 48) := by
      obtain ⟨rl, w, h, cs, X, Y, wy⟩ := W
      refine Ev.step (fun k => spec_woColour.eq k rl w h cs X Y wy (x : Int) (y : Int)) ?_
      rw [e64]
      simp only at en hin e8 ⊢
      rw [en, Int.toNat_natCast, e8]
      exact Ev.yes hin (Ev.now _)
    have hff : fits ((plP W.2.1 W.2.2.2.1 (y * wn + x)).length + 1) 24 = true := fits_of (by omega)
    have hpos : bt W.2.2.2.1 (y * wn + x) ≠ 48 → decide (bt W.2.2.2.1 (y * wn + x) - 48 > 0) = true := fun h => decide_eq_true (by omega)
    have hneg : bt W.2.2.2.1 (y * wn + x) = 48 → decide (bt W.2.2.2.1 (y * wn + x) - 48 > 0) = false := fun h => decide_eq_false (by omega)
    obtain ⟨rl, w, h, cs, X, Y, wy⟩ := W
    refine Ev.step (fun k => spec_PlainOfWorld_l_l.eq k rl w h cs X Y wy ByteArray.empty [] 0 0 0 _ _ _ _ _ _ _) (Ev.yes (decide_eq_true hxw) (Ev.bind hcol ?_))
    rw [hw1]
    by_cases h0 : bt cs (y * wn + x) = 48
    · rw [if_pos h0] at q
      exact Ev.no (hneg h0) q
    · rw [if_neg h0] at q
      exact Ev.yes (hpos h0) (Ev.yes hff q)
theorem laidS_l {W : Wo} (H : OkO W) {wn hn : Nat} (ew : (wn : Int) = W.2.1) (eh : (hn : Int) = W.2.2.1) : ∀ (m y : Nat), y + m = hn → Ev (fun k => spec_PlainOfWorld_l k (W, zeroP, (W.1, plP W.2.1 W.2.2.2.1 (y * wn), W.2.2.2.2), (y : Int))) (zeroP, laidP W) := by
  have hw := H.2.1
  have hh := H.2.2.1
  have hs := H.2.2.2.1
  intro m
  induction m with
  | zero =>
    intro y hy
    obtain rfl : y = hn := by omega
    have e : y * wn = W.2.2.2.1.size := by
      have : ((y * wn : Nat) : Int) = (W.2.2.2.1.size : Int) := by rw [hs, Int.natCast_mul, ew, eh, Int.mul_comm]
      omega
    rw [e]
    obtain ⟨rl, w, h, cs, X, Y, wy⟩ := W
    exact Ev.step (fun k => spec_PlainOfWorld_l.eq k rl w h cs X Y wy ByteArray.empty [] 0 0 0 _ _ _ _ _ _) (Ev.no (decide_eq_false (show ¬ (y : Int) < h by have e : (y : Int) = h := eh; omega)) (Ev.now _))
  | succ m ih =>
    intro y hy
    have q := ih (y + 1) (by omega)
    rw [Nat.succ_mul] at q
    have r := laidS_row H ew eh (y := y) (by omega) wn 0 (by omega)
    have hw1 := w64_succ (i := y) (by omega)
    have hyh : (y : Int) < W.2.2.1 := by omega
    obtain ⟨rl, w, h, cs, X, Y, wy⟩ := W
    refine Ev.step (fun k => spec_PlainOfWorld_l.eq k rl w h cs X Y wy ByteArray.empty [] 0 0 0 _ _ _ _ _ _) (Ev.yes (decide_eq_true hyh) (Ev.bind r ?_))
    simp only [hw1]
    exact q
theorem laid_both (W : Wo) (hr : W.1.size ≤ 1048576) (hc : W.2.2.2.1.size ≤ 1048576) : ∃ r, Ev (fun k => impl_PlainOfWorld k W) r ∧ Ev (fun k => spec_PlainOfWorld k W) r ∧ (OkO W → r = (laidP W, true)) ∧ (¬ OkO W → r = (zeroP, false)) := by
  have a1 := isW_ev W hr hc
  have a2 := goodW_ev W
  by_cases H : OkO W
  · have q1 := laidI_l H W.2.2.2.1.size 0 (by omega)
    have hw := H.2.1
    have hh := H.2.2.1
    have q2 := laidS_l H (wn := W.2.1.toNat) (hn := W.2.2.1.toNat) (by omega) (by omega) W.2.2.1.toNat 0 (by omega)
    rw [Nat.zero_mul] at q2
    have b1 := a1.isT H
    have b2 := a2.isT H
    refine ⟨(laidP W, true), ?_, ?_, fun _ => rfl, fun h => absurd H h⟩ <;> obtain ⟨rl, w, h, cs, X, Y, wy⟩ := W
    · exact Ev.step (fun k => impl_PlainOfWorld.eq k rl w h cs X Y wy) (Ev.bind b1 (Ev.no rfl (Ev.bind q1 (Ev.now _))))
    · exact Ev.step (fun k => spec_PlainOfWorld.eq k rl w h cs X Y wy) (Ev.bind b2 (Ev.no rfl (Ev.bind q2 (Ev.now _))))
  · have b1 := a1.isF H
    have b2 := a2.isF H
    refine ⟨(zeroP, false), ?_, ?_, fun h => absurd h H, fun _ => rfl⟩ <;> obtain ⟨rl, w, h, cs, X, Y, wy⟩ := W
    · exact Ev.step (fun k => impl_PlainOfWorld.eq k rl w h cs X Y wy) (Ev.bind b1 (Ev.yes rfl (Ev.now _)))
    · exact Ev.step (fun k => spec_PlainOfWorld.eq k rl w h cs X Y wy) (Ev.bind b2 (Ev.yes rfl (Ev.now _)))
theorem stepWI_ev (W : Wo) (hr : W.1.size ≤ 1048576) (hc : W.2.2.2.1.size ≤ 1048576) (H : OkO W) : Ev (fun k => impl_StepWorld k W) (stepO W, true) := by
  have a1 := (isW_ev W hr hc).isT H
  have s1 := stepI_ev W H
  have w1 := (within_ev 1 0 3000).isT (by omega)
  have e1 : w64 (0 + 1) = 1 := w64_of (by omega) (by omega)
  generalize stepO W = V at s1
  obtain ⟨rl, w, h, cs, x, y, wy⟩ := W
  obtain ⟨rl', w', h', cs', x', y', wy'⟩ := V
  have e0 : Ev (fun k => impl_WorldAfter_l k ((rl', w', h', cs', x', y', wy'), zeroO, 1, 1)) ((rl', w', h', cs', x', y', wy'), zeroO) := Ev.step (fun k => impl_WorldAfter_l.eq k rl' w' h' cs' x' y' wy' ByteArray.empty 0 0 ByteArray.empty 0 0 0 1 1) (Ev.no rfl (Ev.now _))
  refine Ev.step (fun k => impl_StepWorld.eq k rl w h cs x y wy) (Ev.bind (Ev.step (fun k => impl_WorldAfter.eq k rl w h cs x y wy 1) (Ev.bind (Ev.step (fun k => impl_isGoing.eq k rl w h cs x y wy 1) (Ev.bind a1 (Ev.yes rfl (Ev.bind w1 (Ev.now _))))) (Ev.no rfl (Ev.bind (a := ((rl', w', h', cs', x', y', wy'), zeroO)) (Ev.step (fun k => impl_WorldAfter_l.eq k rl w h cs x y wy ByteArray.empty 0 0 ByteArray.empty 0 0 0 1 0) (Ev.yes rfl (Ev.bind s1 ?_))) (Ev.now _))))) (Ev.now _))
  rw [e1]
  exact e0
theorem first_both (rl : ByteArray) (hr : rl.size ≤ 1048576) : ∃ b, Ev (fun k => impl_FirstPlain k rl) ((if b then (rl, [], 0, 0, 0) else zeroP), b) ∧ Ev (fun k => spec_FirstPlain k rl) ((if b then (rl, [], 0, 0, 0) else zeroP), b) ∧ Ev (fun k => impl_IsRule k rl) b := by
  have a1 := isRuleR_ev rl (by omega)
  have a2 := woRuleR_ev rl
  by_cases H : RuleOk rl
  · exact ⟨true, Ev.step (fun k => impl_FirstPlain.eq k rl) (Ev.bind (a1.isT H) (Ev.no rfl (Ev.now _))), Ev.step (fun k => spec_FirstPlain.eq k rl) (Ev.bind (a2.isT H) (Ev.no rfl (Ev.now _))), a1.isT H⟩
  · exact ⟨false, Ev.step (fun k => impl_FirstPlain.eq k rl) (Ev.bind (a1.isF H) (Ev.yes rfl (Ev.now _))), Ev.step (fun k => spec_FirstPlain.eq k rl) (Ev.bind (a2.isF H) (Ev.yes rfl (Ev.now _))), a1.isF H⟩
theorem dCount_ev (s : ByteArray) (l : List Int) (hl : s.size ≤ 1048576) (hb : ∀ i, i < s.size → l[i]? = some (bt s i)) (hz : l.length = s.size) : Ev (fun k => laws_dCount k (s, 48)) (cntN l : Int) := by
  have hcl : ∀ i, cntN (l.take i) ≤ i := fun i => by
    unfold cntN
    have h1 := List.countP_le_length (p := fun n : Int => n != 48) (l := l.take i)
    rw [List.length_take] at h1
    omega
  have loop : ∀ (m i : Nat), i + m = s.size → Ev (fun k => laws_dCount_l k (s, 48, (cntN (l.take i) : Int), (i : Int))) (cntN l : Int) := by
    intro m
    induction m with
    | zero =>
      intro i hi
      rw [List.take_of_length_le (by omega)]
      exact Ev.step (fun k => laws_dCount_l.eq k s 48 _ _) (Ev.no (not_lt_nat (by omega)) (Ev.now _))
    | succ m ih =>
      intro i hi
      have q := ih (i + 1) (by omega)
      have hc := hcl i
      have e : cntN (l.take (i + 1)) = cntN (l.take i) + if bt s i != 48 then 1 else 0 := by
        unfold cntN
        rw [List.take_add_one, hb i (by omega), List.countP_append]
        congr 1
        exact List.countP_singleton
      rw [e] at q
      refine Ev.step (fun k => laws_dCount_l.eq k s 48 _ _) (Ev.yes (lt_nat (by omega)) (Ev.yes (inB_nat (by omega)) ?_))
      rw [Int.toNat_natCast, w64_succ (by omega), w64_succ (by omega)]
      cases h : bt s i != 48 with
      | true =>
        rw [h, if_pos rfl] at q
        exact Ev.yes rfl q
      | false =>
        rw [h, if_neg Bool.false_ne_true] at q
        exact Ev.no rfl q
  exact Ev.step (fun k => laws_dCount.eq k s 48) (Ev.bind (loop s.size 0 (by omega)) (Ev.now _))
theorem laid_count (w : Int) (cs : ByteArray) : ∀ n : Nat, n ≤ cs.size → (plP w cs n).length = cntN ((List.range n).map fun k => bt cs k)
  | 0, _ => rfl
  | n + 1, h => by
    rw [plP_succ]
    have ih := laid_count w cs n (by omega)
    unfold cntN at *
    rw [List.range_succ, List.map_append, List.countP_append, ← ih]
    show _ = _ + List.countP _ [bt cs n]
    rw [List.countP_singleton]
    by_cases h0 : bt cs n = 48
    · rw [if_pos h0, if_neg (by rw [h0]; decide)]
      rfl
    · rw [if_neg h0, if_pos (by rw [bne_iff_ne]; exact h0), List.length_append, List.length_singleton]
theorem laidCount_ev (w : Int) (cs : ByteArray) (hc : cs.size ≤ 1048576) : Ev (fun k => laws_dCount k (cs, 48)) ((plSp w cs).length : Int) := by
  unfold plSp
  rw [laid_count w cs cs.size (Nat.le_refl _)]
  refine dCount_ev cs _ hc (fun i hi => ?_) (by rw [List.length_map, List.length_range])
  rw [List.getElem?_map, List.getElem?_range hi]
  rfl
/-! ### Draws -/
theorem paints_l_ev (rl : ByteArray) (hr : 1 ≤ rl.size ∧ rl.size ≤ 6) (X Y W : Int) : ∀ (m n : Nat) (c : CurT) (sp : List Sp), CurOk n c → n + 6 * m + 200 ≤ 1099511627776 → SpotsOk rl.size sp → sp.length + m ≤ 100 →
    ∃ sp' c', Ev (fun k => spec_l1Cur_plain_l k (c, zeroP, (rl, sp, X, Y, W), (m : Int), ())) (c', zeroP, (rl, sp', X, Y, W), ()) ∧ SpotsOk rl.size sp' ∧ sp'.length ≤ sp.length + m ∧ CurOk (n + 6 * m) c'
  | 0, n, c, sp, H, hn, hS, hl => by
    obtain ⟨code, at_, seed⟩ := c
    exact ⟨sp, _, Ev.step (fun k => spec_l1Cur_plain_l.eq k code at_ seed ByteArray.empty [] 0 0 0 rl sp X Y W _) (Ev.no rfl (Ev.now _)), hS, by omega, H⟩
  | m + 1, n, c, sp, H, hn, hS, hl => by
    obtain ⟨a, c1, e1, a0, a1, H1⟩ := pick_ev n c H (by omega) 5
    obtain ⟨b, c2, e2, b0, b1, H2⟩ := pick_ev _ c1 H1 (by omega) 5
    obtain ⟨p, c3, e3, p0, p1, H3⟩ := pick_ev _ c2 H2 (by omega) (rl.size : Int)
    have a1 := a1 (by omega)
    have b1 := b1 (by omega)
    have p1 := p1 (by omega)
    have ea : w64 (a - 2) = a - 2 := w64_of (by omega) (by omega)
    have eb : w64 (b - 2) = b - 2 := w64_of (by omega) (by omega)
    have hP := enPaintF_ev hS (by omega) (a - 2) (b - 2) p
    have hok := paint_ok hS (x := a - 2) (y := b - 2) (p := p) (by unfold Far; omega) (by omega)
    have hlen := paintF_len (x := a - 2) (y := b - 2) (p := p) hS
    obtain ⟨sp', c', g1, g2, g3, g4⟩ := paints_l_ev rl hr X Y W m (n + 6) c3 (paintF (a - 2) (b - 2) p sp) H3 (by omega) hok (by omega)
    obtain ⟨code, at_, seed⟩ := c
    refine ⟨sp', c', Ev.step (fun k => spec_l1Cur_plain_l.eq k code at_ seed ByteArray.empty [] 0 0 0 rl sp X Y W _) (Ev.yes (decide_eq_true (by omega)) (Ev.bind e1 (Ev.bind e2 (Ev.bind e3 ?_)))), g2, by omega, by rw [show n + 6 * (m + 1) = n + 6 + 6 * m by omega]; exact g4⟩
    rw [ea, eb, show w64 (((m + 1 : Nat) : Int) - 1) = (m : Int) by rw [w64_of (by omega) (by omega)]; omega]
    exact Ev.bind hP g1
theorem spots_l_ev (X Y W : Int) : ∀ (m n : Nat) (c : CurT) (sp : List Sp), CurOk n c → n + 2 * m + 200 ≤ 1099511627776 → 302 ≤ sp.length + m → sp.length ≤ 302 →
    ∃ sp' c', Ev (fun k => spec_l1Cur_plain_l_2 k (c, zeroP, (bs [76, 82], sp, X, Y, W), ())) (zeroP, (bs [76, 82], sp', X, Y, W), c') ∧ sp'.length ≤ 302 ∧ CurOk (n + 2 * m + 2) c'
  | 0, n, c, sp, H, hn, hm, hl => by
    obtain ⟨r, c1, e1, r0, r1, H1⟩ := pick_ev n c H (by omega) 2
    have r1 := r1 (by omega)
    obtain ⟨code, at_, seed⟩ := c
    exact ⟨sp, _, Ev.step (fun k => spec_l1Cur_plain_l_2.eq k code at_ seed ByteArray.empty [] 0 0 0 _ sp X Y W) (Ev.bind e1 (Ev.no (decide_eq_false (by rw [w64_of (by omega) (by omega)]; omega)) (Ev.now _))), hl, H1⟩
  | m + 1, n, c, sp, H, hn, hm, hl => by
    obtain ⟨r, c1, e1, r0, r1, H1⟩ := pick_ev n c H (by omega) 2
    have r1 := r1 (by omega)
    by_cases hc : (sp.length : Int) < 300 + r
    · obtain ⟨sp', c', g1, g2, g3⟩ := spots_l_ev X Y W m (n + 2) c1 (sp ++ [((sp.length : Int), (7, 1))]) H1 (by omega) (by rw [List.length_append, List.length_singleton]; omega) (by rw [List.length_append, List.length_singleton]; omega)
      obtain ⟨code, at_, seed⟩ := c
      exact ⟨sp', c', Ev.step (fun k => spec_l1Cur_plain_l_2.eq k code at_ seed ByteArray.empty [] 0 0 0 _ sp X Y W) (Ev.bind e1 (Ev.yes (decide_eq_true (by rw [w64_of (by omega) (by omega)]; exact hc)) (Ev.yes (fits_of (by omega)) g1))), g2, by rw [show n + 2 * (m + 1) + 2 = n + 2 + 2 * m + 2 by omega]; exact g3⟩
    · obtain ⟨code, at_, seed⟩ := c
      exact ⟨sp, _, Ev.step (fun k => spec_l1Cur_plain_l_2.eq k code at_ seed ByteArray.empty [] 0 0 0 _ sp X Y W) (Ev.bind e1 (Ev.no (decide_eq_false (by rw [w64_of (by omega) (by omega)]; exact hc)) (Ev.now _))), hl, H1.mono (by omega) (by omega)⟩
theorem plainD_ev (n : Nat) (c : CurT) (H : CurOk n c) (hn : n + 4000 ≤ 1099511627776) : ∃ p c', Ev (fun k => spec_l1Cur_plain k c) (p, c') ∧ (p.1.size ≤ 10 ∧ p.2.1.length ≤ 400) ∧ CurOk (n + 2000) c' := by
  obtain ⟨rl, c1, e1, hR, hr4, H1⟩ := sureRule_ev n c H (by omega)
  obtain ⟨a, c2, e2, _, _, H2⟩ := pick_ev _ c1 H1 (by omega) 5
  obtain ⟨b, c3, e3, _, _, H3⟩ := pick_ev _ c2 H2 (by omega) 5
  obtain ⟨w, c4, e4, _, _, H4⟩ := pick_ev _ c3 H3 (by omega) 4
  obtain ⟨r, c5, e5, r0, r1, H5⟩ := pick_ev _ c4 H4 (by omega) 6
  have r1 := r1 (by omega)
  obtain ⟨m, rfl⟩ := Int.eq_ofNat_of_zero_le r0
  obtain ⟨sp, c6, e6, hS, hl, H6⟩ := paints_l_ev rl hR.1 (w64 (a - 2)) (w64 (b - 2)) w m _ c5 [] H5 (by omega) ⟨fun s hs => (by cases hs), List.Pairwise.nil⟩ (by show 0 + m ≤ 100; omega)
  have hl : sp.length ≤ 6 := by simp only [List.length_nil] at hl; omega
  have H6 := H6.mono (m := n + 100) (by omega) (by omega)
  obtain ⟨s, c7, e7, _, _, H7⟩ := pick_ev _ c6 H6 (by omega) 18
  obtain ⟨x0, d0, f0, _, K0⟩ := among_ev _ c7 H7 (by omega) [(-1000), 1000, 1001, 4611686018427387904] (by decide)
  obtain ⟨x1, d1, f1, _, _, K1⟩ := pick_ev _ c7 H7 (by omega) 3
  obtain ⟨x2, d2, f2, _, K2⟩ := among_ev _ d1 K1 (by omega) [(-3), 0, 3, 1001] (by decide)
  obtain ⟨x3, d3, f3, _, K3⟩ := among_ev _ d2 K2 (by omega) [0, 1, 5, 6, (-1)] (by decide)
  obtain ⟨u, d4, f4, hu, K4⟩ := of_ev _ c7 H7 (by omega) [ByteArray.empty, (bs [76, 82, 88]), (bs [76, 82, 76, 82, 76, 82, 76]), (bs [108])] (by decide)
  obtain ⟨x5, d5, f5, _, K5⟩ := among_ev _ c7 H7 (by omega) [(-1), 4] (by decide)
  obtain ⟨sp6, d6, f6, hl6, K6⟩ := spots_l_ev (w64 (a - 2)) (w64 (b - 2)) w 302 _ c7 [] H7 (by omega) (by decide) (by decide)
  obtain ⟨x7, d7, f7, _, K7⟩ := among_ev _ c7 H7 (by omega) [(-990), (-2)] (by decide)
  have hu10 : u.size ≤ 10 := by
    simp only [List.mem_cons, List.not_mem_nil, or_false] at hu
    rcases hu with rfl | rfl | rfl | rfl <;> decide
  have M : ∀ {j : Nat} {d : CurT}, CurOk j d → j ≤ n + 2000 → CurOk (n + 2000) d := fun h hj => h.mono hj (by omega)
  obtain ⟨code, at_, seed⟩ := c
  cases s0 : s == 0 with
  | true => exact ⟨_, _, Ev.step (fun k => spec_l1Cur_plain.eq k code at_ seed) (Ev.bind e1 (Ev.bind e2 (Ev.bind e3 (Ev.bind e4 (Ev.bind e5 (Ev.bind e6 (Ev.bind e7 (Ev.yes s0 (Ev.bind f0 (Ev.now _)))))))))), ⟨by show rl.size ≤ 10; omega, by show sp.length ≤ 400; omega⟩, M K0 (by omega)⟩
  | false =>
  cases s1 : s == 1 with
  | true => exact ⟨_, _, Ev.step (fun k => spec_l1Cur_plain.eq k code at_ seed) (Ev.bind e1 (Ev.bind e2 (Ev.bind e3 (Ev.bind e4 (Ev.bind e5 (Ev.bind e6 (Ev.bind e7 (Ev.no s0 (Ev.yes s1 (Ev.bind f1 (Ev.bind f2 (Ev.bind f3 (Ev.yes (fits_of (by show (sp.length + 1) * 24 < _; omega)) (Ev.now _)))))))))))))), ⟨by show rl.size ≤ 10; omega, by show (sp ++ [(x1, (x2, x3))]).length ≤ 400; rw [List.length_append, List.length_singleton]; omega⟩, M K3 (by omega)⟩
  | false =>
  cases s2 : s == 2 with
  | true => exact ⟨_, _, Ev.step (fun k => spec_l1Cur_plain.eq k code at_ seed) (Ev.bind e1 (Ev.bind e2 (Ev.bind e3 (Ev.bind e4 (Ev.bind e5 (Ev.bind e6 (Ev.bind e7 (Ev.no s0 (Ev.no s1 (Ev.yes s2 (Ev.bind f4 (Ev.now _)))))))))))), ⟨hu10, by show sp.length ≤ 400; omega⟩, M K4 (by omega)⟩
  | false =>
  cases s3 : s == 3 with
  | true => exact ⟨_, _, Ev.step (fun k => spec_l1Cur_plain.eq k code at_ seed) (Ev.bind e1 (Ev.bind e2 (Ev.bind e3 (Ev.bind e4 (Ev.bind e5 (Ev.bind e6 (Ev.bind e7 (Ev.no s0 (Ev.no s1 (Ev.no s2 (Ev.yes s3 (Ev.bind f5 (Ev.now _))))))))))))), ⟨by show rl.size ≤ 10; omega, by show sp.length ≤ 400; omega⟩, M K5 (by omega)⟩
  | false =>
  cases s4 : s == 4 with
  | true => exact ⟨_, _, Ev.step (fun k => spec_l1Cur_plain.eq k code at_ seed) (Ev.bind e1 (Ev.bind e2 (Ev.bind e3 (Ev.bind e4 (Ev.bind e5 (Ev.bind e6 (Ev.bind e7 (Ev.no s0 (Ev.no s1 (Ev.no s2 (Ev.no s3 (Ev.yes s4 (Ev.bind f6 (Ev.now _)))))))))))))), ⟨by show (bs [76, 82]).size ≤ 10; decide, by show sp6.length ≤ 400; omega⟩, M K6 (by omega)⟩
  | false =>
  cases s5 : s == 5 with
  | true => exact ⟨_, _, Ev.step (fun k => spec_l1Cur_plain.eq k code at_ seed) (Ev.bind e1 (Ev.bind e2 (Ev.bind e3 (Ev.bind e4 (Ev.bind e5 (Ev.bind e6 (Ev.bind e7 (Ev.no s0 (Ev.no s1 (Ev.no s2 (Ev.no s3 (Ev.no s4 (Ev.yes s5 (Ev.bind f7 (Ev.now _))))))))))))))), ⟨by show (bs [78]).size ≤ 10; decide, by show ([] : List Sp).length ≤ 400; decide⟩, M K7 (by omega)⟩
  | false => exact ⟨_, _, Ev.step (fun k => spec_l1Cur_plain.eq k code at_ seed) (Ev.bind e1 (Ev.bind e2 (Ev.bind e3 (Ev.bind e4 (Ev.bind e5 (Ev.bind e6 (Ev.bind e7 (Ev.no s0 (Ev.no s1 (Ev.no s2 (Ev.no s3 (Ev.no s4 (Ev.no s5 (Ev.now _)))))))))))))), ⟨by show rl.size ≤ 10; omega, by show sp.length ≤ 400; omega⟩, M H7 (by omega)⟩
section
variable (code : List Int) (hc : ∀ x ∈ code, 0 ≤ x ∧ x ≤ 255)
include hc
theorem drawTurnP_ev : ∃ p : Pl, Ev (fun k => spec_DrawTurnPlain k code) p ∧ p.1.size ≤ 10 ∧ p.2.1.length ≤ 400 := by
  obtain ⟨p, c1, e1, ⟨z1, z2⟩, H1⟩ := plainD_ev 0 (code, 0, 0) (CurOk.start hc) (by omega)
  exact ⟨p, Ev.step (fun k => spec_DrawTurnPlain.eq k code) (Ev.bind (Ev.step (fun k => spec_DrawIsPlain.eq k code) (Ev.bind e1 (Ev.now _))) (Ev.now _)), z1, z2⟩
theorem drawMoveP_ev : ∃ (p : Pl) (x y : Int), Ev (fun k => spec_DrawMovePlain k code) (p, x, y) ∧ p.1.size ≤ 10 ∧ p.2.1.length ≤ 400 := by
  obtain ⟨b, c0, e0, H0⟩ := one_ev 0 (code, 0, 0) (CurOk.start hc) (by omega) 8
  obtain ⟨p, c1, e1, ⟨z1, z2⟩, H1⟩ := plainD_ev _ c0 H0 (by omega)
  obtain ⟨a, c2, e2, _, H2⟩ := among_ev _ c1 H1 (by omega) [(-1000), 1000, 1001, 0] (by decide)
  obtain ⟨a', c3, e3, _, H3⟩ := among_ev _ c2 H2 (by omega) [0, 998, 4611686018427387904] (by decide)
  obtain ⟨r, c4, e4, _, _, H4⟩ := pick_ev _ c1 H1 (by omega) 11
  obtain ⟨r', c5, e5, _, _, H5⟩ := pick_ev _ c4 H4 (by omega) 11
  cases b with
  | true => exact ⟨p, _, _, Ev.step (fun k => spec_DrawMovePlain.eq k code) (Ev.bind e0 (Ev.yes rfl (Ev.bind e1 (Ev.bind e2 (Ev.bind e3 (Ev.now _)))))), z1, z2⟩
  | false => exact ⟨p, _, _, Ev.step (fun k => spec_DrawMovePlain.eq k code) (Ev.bind e0 (Ev.no rfl (Ev.bind e1 (Ev.bind e4 (Ev.bind e5 (Ev.now _)))))), z1, z2⟩
theorem drawSpot_ev : ∃ (p : Pl) (x y : Int), Ev (fun k => spec_DrawColourOfSpot k code) (p, x, y) ∧ p.1.size ≤ 10 ∧ p.2.1.length ≤ 400 := by
  obtain ⟨p, c1, e1, ⟨z1, z2⟩, H1⟩ := plainD_ev 0 (code, 0, 0) (CurOk.start hc) (by omega)
  obtain ⟨b, c2, e2, H2⟩ := one_ev _ c1 H1 (by omega) 2
  obtain ⟨r, c3, e3, p3, q3, H3⟩ := pick_ev _ c2 H2 (by omega) (p.2.1.length : Int)
  obtain ⟨a, c4, e4, _, H4⟩ := among_ev _ c2 H2 (by omega) [0, 1, (-1), 2, 1000, 1001, 4611686018427387904] (by decide)
  obtain ⟨r', c5, e5, _, _, H5⟩ := pick_ev _ c4 H4 (by omega) 5
  obtain ⟨a2, c6, e6, _, H6⟩ := among_ev _ c1 H1 (by omega) [0, 1, (-1), 2, 1000, 1001, 4611686018427387904] (by decide)
  obtain ⟨r2, c7, e7, _, _, H7⟩ := pick_ev _ c6 H6 (by omega) 5
  by_cases h0 : (p.2.1.length : Int) > 0
  · cases b with
    | true => exact ⟨p, _, _, Ev.step (fun k => spec_DrawColourOfSpot.eq k code) (Ev.bind e1 (Ev.yes (decide_eq_true h0) (Ev.bind e2 (Ev.yes rfl (Ev.bind e3 (Ev.yes (inB_of p3 (q3 (by omega))) (Ev.now _))))))), z1, z2⟩
    | false => exact ⟨p, _, _, Ev.step (fun k => spec_DrawColourOfSpot.eq k code) (Ev.bind e1 (Ev.yes (decide_eq_true h0) (Ev.bind e2 (Ev.no rfl (Ev.bind e4 (Ev.bind e5 (Ev.now _))))))), z1, z2⟩
  · exact ⟨p, _, _, Ev.step (fun k => spec_DrawColourOfSpot.eq k code) (Ev.bind e1 (Ev.no (decide_eq_false h0) (Ev.bind e6 (Ev.bind e7 (Ev.now _))))), z1, z2⟩
theorem drawPaint_ev : ∃ (p : Pl) (x y c : Int), Ev (fun k => spec_DrawPaintSpot k code) (p, x, y, c) ∧ p.1.size ≤ 10 ∧ p.2.1.length ≤ 400 := by
  obtain ⟨p, x, y, e1, z1, z2⟩ := drawSpot_ev code hc
  obtain ⟨r, c2, e2, _, _, H2⟩ := pick_ev 0 (code, 0, 0) (CurOk.start hc) (by omega) 5
  obtain ⟨r', c3, e3, _, _, H3⟩ := pick_ev _ c2 H2 (by omega) 9
  exact ⟨p, x, y, _, Ev.step (fun k => spec_DrawPaintSpot.eq k code) (Ev.bind e1 (Ev.bind e2 (Ev.bind e3 (Ev.now _)))), z1, z2⟩
theorem drawLaid_ev : ∃ W : Wo, Ev (fun k => spec_DrawPlainOfWorld k code) W ∧ W.1.size ≤ 1000 ∧ W.2.2.2.1.size ≤ 1000 := by
  obtain ⟨W, c1, e1, ⟨z1, z2⟩, H1⟩ := world_ev 0 (code, 0, 0) (CurOk.start hc) (by omega)
  exact ⟨W, Ev.step (fun k => spec_DrawPlainOfWorld.eq k code) (Ev.bind e1 (Ev.now _)), z1, z2⟩
theorem drawFirst_ev : ∃ rl, Ev (fun k => spec_DrawFirstPlain k code) rl ∧ rl.size ≤ 10 := by
  obtain ⟨rl, c1, e1, z1, H1⟩ := rule_ev 0 (code, 0, 0) (CurOk.start hc) (by omega)
  exact ⟨rl, Ev.step (fun k => spec_DrawFirstPlain.eq k code) (Ev.bind e1 (Ev.now _)), z1⟩
end
end Go.Proofs.YtblgfbkifhfjpaaGreatDoorS
