/- Several texts in one: PuWo, PuWorldOk, PuGo, PuStep, PuColours. -/
import Derived.Test.YtmdgodjcfhimbaaGreatDoorPuDigits
namespace Go.Proofs.YtmdgodjcfhimbaaGreatDoorS
open Go
set_option linter.unusedVariables false
set_option linter.unusedSimpArgs false

abbrev Wo := ByteArray × Int × Int × ByteArray × Int × Int × Int
abbrev Cl := Int × (Int × Int)
def WorldOk (rl : ByteArray) (w h : Int) (cs : ByteArray) (x y wy : Int) : Prop :=
  RuleOk rl ∧ (1 ≤ w ∧ w ≤ 9) ∧ (1 ≤ h ∧ h ≤ 9) ∧ (cs.size : Int) = w * h ∧ CellsOk (rl.size : Int) cs ∧ (0 ≤ x ∧ x ≤ w - 1) ∧ (0 ≤ y ∧ y ≤ h - 1) ∧ (0 ≤ wy ∧ wy ≤ 3)
theorem at64 {x y w h : Int} (hx : 0 ≤ x ∧ x ≤ w - 1) (hy : 0 ≤ y ∧ y ≤ h - 1) (hw : 1 ≤ w ∧ w ≤ 9) (hh : 1 ≤ h ∧ h ≤ 9) : w64 (w64 (y * w) + x) = y * w + x := by
  obtain ⟨a1, a2, a3, a4⟩ := at_range hx hy hw hh
  rw [w64_of (n := y * w) (by omega) (by omega), w64_of (by omega) (by omega)]
theorem go1_in {n m d : Int} (h : 0 ≤ n ∧ n ≤ m - 1) (h1 : -1 ≤ d ∧ d ≤ 1) : 0 ≤ go1 n m d ∧ go1 n m d ≤ m - 1 := by
  have := go1_range (n := n) (m := m) (d := d) h.1 (by omega) h1.1 h1.2
  omega
theorem woPaint_ev (rl : ByteArray) (w h : Int) (cs : ByteArray) (X Y Wy x y p : Int) (hw : 1 ≤ w ∧ w ≤ 9) (hh : 1 ≤ h ∧ h ≤ 9) (hx : 0 ≤ x ∧ x ≤ w - 1) (hy : 0 ≤ y ∧ y ≤ h - 1) (hs : (cs.size : Int) = w * h) (hp : 0 ≤ p ∧ p ≤ 9) :
    Ev (fun k => spec_woPaint k ((rl, w, h, cs, X, Y, Wy), x, y, p)) ((), (rl, w, h, setByte cs (y * w + x).toNat (UInt8.ofNat (48 + p).toNat), X, Y, Wy)) := by
  obtain ⟨a1, a2, a3, a4⟩ := at_range hx hy hw hh
  have e0 := at64 hx hy hw hh
  have e1 : w64 (y * w + x + 1) = y * w + x + 1 := w64_of (by omega) (by omega)
  have hm := mul_range (a := w) (b := h) (by omega) (by omega) (by omega) (by omega)
  refine Ev.step (fun k => spec_woPaint.eq k rl w h cs X Y Wy x y p) ?_
  rw [e0]
  refine Ev.yes (by rw [decide_eq_true (by omega), decide_eq_true (by omega)]; rfl) (Ev.bind (l1Num_ev p hp) ?_)
  rw [e1]
  have z1 : ∀ n : Int, (ofBytes [n]).size = 1 := fun n => rfl
  have z2 : ∀ a b, (cs.extract a b).size ≤ 81 := fun a b => by rw [ByteArray.size_extract]; omega
  have z3 := z2 0 (y * w + x).toNat
  have z4 := z2 (y * w + x + 1).toNat cs.size
  refine Ev.yes (fitS_of (by rw [z1]; omega)) (Ev.yes (by rw [decide_eq_true (by omega), decide_eq_true (by omega)]; rfl) (Ev.yes (fitS_of (by rw [ByteArray.size_append, z1]; omega)) (Ev.now' ?_)))
  rw [show (y * w + x + 1).toNat = (y * w + x).toNat + 1 by omega, setByte_b cs _ _ (by omega)]
theorem woGo_ev (rl : ByteArray) (w h : Int) (cs : ByteArray) (x y way : Int) (hw : 1 ≤ w ∧ w ≤ 9) (hh : 1 ≤ h ∧ h ≤ 9) (hx : 0 ≤ x ∧ x ≤ w - 1) (hy : 0 ≤ y ∧ y ≤ h - 1) (hway : 0 ≤ way ∧ way ≤ 3) :
    Ev (fun k => spec_woGo k ((rl, w, h, cs, x, y, way), 1)) ((), (rl, w, h, cs, go1 x w (1 * dxW way), go1 y h (1 * dyW way), way)) := by
  have e1 : w64 (y - 1) = y + -1 := by rw [w64_of (by omega) (by omega)]; omega
  have e2 : w64 (x + 1) = x + 1 := w64_of (by omega) (by omega)
  have e3 : w64 (y + 1) = y + 1 := w64_of (by omega) (by omega)
  have e4 : w64 (x - 1) = x + -1 := by rw [w64_of (by omega) (by omega)]; omega
  have : way = 0 ∨ way = 1 ∨ way = 2 ∨ way = 3 := by omega
  rcases this with rfl | rfl | rfl | rfl
  · refine Ev.step (fun k => spec_woGo.eq k rl w h cs x y 0 1) (Ev.yes rfl ?_)
    rw [e1]
    refine Ev.bind (l1Mod_ev y h (-1) hy hh (by omega)) (Ev.now' ?_)
    show ((), (rl, w, h, cs, x, go1 y h (-1), (0 : Int))) = ((), (rl, w, h, cs, go1 x w 0, go1 y h (-1), (0 : Int)))
    rw [go1_zero hx]
  · refine Ev.step (fun k => spec_woGo.eq k rl w h cs x y 1 1) (Ev.no rfl (Ev.yes rfl ?_))
    rw [e2]
    refine Ev.bind (l1Mod_ev x w 1 hx hw (by omega)) (Ev.now' ?_)
    show ((), (rl, w, h, cs, go1 x w 1, y, (1 : Int))) = ((), (rl, w, h, cs, go1 x w 1, go1 y h 0, (1 : Int)))
    rw [go1_zero hy]
  · refine Ev.step (fun k => spec_woGo.eq k rl w h cs x y 2 1) (Ev.no rfl (Ev.no rfl (Ev.yes rfl ?_)))
    rw [e3]
    refine Ev.bind (l1Mod_ev y h 1 hy hh (by omega)) (Ev.now' ?_)
    show ((), (rl, w, h, cs, x, go1 y h 1, (2 : Int))) = ((), (rl, w, h, cs, go1 x w 0, go1 y h 1, (2 : Int)))
    rw [go1_zero hx]
  · refine Ev.step (fun k => spec_woGo.eq k rl w h cs x y 3 1) (Ev.no rfl (Ev.no rfl (Ev.no rfl ?_)))
    rw [e4]
    refine Ev.bind (l1Mod_ev x w (-1) hx hw (by omega)) (Ev.now' ?_)
    show ((), (rl, w, h, cs, go1 x w (-1), y, (3 : Int))) = ((), (rl, w, h, cs, go1 x w (-1), go1 y h 0, (3 : Int)))
    rw [go1_zero hy]
theorem wstep_ev (rl : ByteArray) (w h : Int) (cs : ByteArray) (x y wy : Int) (H : WorldOk rl w h cs x y wy) : ∃ cs' x' y' wy', Ev (fun k => impl_World_step k (rl, w, h, cs, x, y, wy)) (rl, w, h, cs', x', y', wy') ∧
    Ev (fun k => spec_woStep k (rl, w, h, cs, x, y, wy)) (rl, w, h, cs', x', y', wy') ∧ WorldOk rl w h cs' x' y' wy' := by
  obtain ⟨hR, hw, hh, hs, hcs, hx, hy, hwy⟩ := H
  obtain ⟨hr6, hsg⟩ := id hR
  obtain ⟨a1, a2, a3, a4⟩ := at_range hx hy hw hh
  have hm := mul_range (a := w) (b := h) (by omega) (by omega) (by omega) (by omega)
  obtain ⟨c, hc⟩ := byte_at (cs := cs) (i := (y * w + x).toNat) (by omega)
  obtain ⟨c48, cti⟩ := hcs c (List.mem_of_getElem? hc)
  have hclt := c.toNat_lt
  obtain ⟨b, hb⟩ := byte_at (cs := rl) (i := ((c.toNat : Int) - 48).toNat) (by omega)
  have hbt : bt rl ((c.toNat : Int) - 48).toNat = (b.toNat : Int) := bt_at hb
  have eA := at64 hx hy hw hh
  have eC : w64 (w8 (bt cs (y * w + x).toNat - 48)) = (c.toNat : Int) - 48 := by rw [bt_at hc, w8_of (by omega) (by omega), w64_of (by omega) (by omega)]
  obtain ⟨q0, q3⟩ := quartersB_range (b.toNat : Int)
  have eW : (w64 (wy + quartersB (b.toNat : Int))).tmod 4 = (wy + quartersB (b.toNat : Int)) % 4 := by rw [w64_of (by omega) (by omega), Int.tmod_eq_emod_of_nonneg (by omega)]
  have hwz : 0 ≤ (wy + quartersB (b.toNat : Int)) % 4 ∧ (wy + quartersB (b.toNat : Int)) % 4 ≤ 3 := by omega
  generalize (wy + quartersB (b.toNat : Int)) % 4 = wz at eW hwz
  have hl0 : (0 : Int) < (rl.size : Int) := by omega
  have eP : (w64 ((c.toNat : Int) - 48 + 1)).tmod (rl.size : Int) = ((c.toNat : Int) - 48 + 1) % (rl.size : Int) := by rw [w64_of (by omega) (by omega), Int.tmod_eq_emod_of_nonneg (by omega)]
  have hP : 0 ≤ ((c.toNat : Int) - 48 + 1) % (rl.size : Int) ∧ ((c.toNat : Int) - 48 + 1) % (rl.size : Int) ≤ (rl.size : Int) - 1 := by
    have p1 := Int.emod_nonneg ((c.toNat : Int) - 48 + 1) (show (rl.size : Int) ≠ 0 by omega)
    have p2 := Int.emod_lt_of_pos ((c.toNat : Int) - 48 + 1) hl0
    omega
  generalize ((c.toNat : Int) - 48 + 1) % (rl.size : Int) = p at eP hP
  have hinA : inB (y * w + x) cs.size = true := inB_of a3 (by omega)
  have hinC : inB ((c.toNat : Int) - 48) rl.size = true := inB_of (by omega) (by omega)
  have hne : ((rl.size : Int) != 0) = true := by rw [bne_iff_ne]; omega
  obtain ⟨⟨d1, d2⟩, d3, d4⟩ := dW_range wz
  refine ⟨setByte cs (y * w + x).toNat (UInt8.ofNat (48 + p).toNat), go1 x w (1 * dxW wz), go1 y h (1 * dyW wz), wz, ?_, ?_, hR, hw, hh, by rw [setByte_size]; exact hs, cells_set hcs _ hP (by omega), go1_in hx (by omega), go1_in hy (by omega), hwz⟩
  · refine Ev.step (fun k => impl_World_step.eq k rl w h cs x y wy) (Ev.bind (colour_ev _ w h cs x y wy hw hh hx hy hs hc c48) (Ev.yes hinC ?_))
    rw [hbt]
    refine Ev.bind (quarters_ev _) ?_
    simp only [eW, eP]
    exact Ev.bind (Ev.step (fun k => impl_World_at.eq k rl w h cs x y wz) (Ev.now' eA)) (Ev.yes hne (Ev.bind (painted_ev cs _ p ⟨a3, by omega⟩ (by omega)) (Ev.bind (gone_ev _ w h _ x y wz 1 hw hh hx hy hwz (.inl rfl)) (Ev.now _))))
  · refine Ev.step (fun k => spec_woStep.eq k rl w h cs x y wy) (Ev.bind (a := (c.toNat : Int) - 48) (Ev.step (fun k => spec_woColour.eq k rl w h cs x y wy x y) (by rw [eA]; exact Ev.yes hinA (Ev.now' eC))) (Ev.yes hinC ?_))
    rw [hbt]
    refine Ev.bind (woTurn_ev _) ?_
    simp only [eW, eP]
    exact Ev.yes hne (Ev.bind (woPaint_ev rl w h cs x y wz x y p hw hh hx hy hs (by omega)) (Ev.bind (woGo_ev rl w h _ x y wz hw hh hx hy hwz) (Ev.now _)))

section
variable (rl : ByteArray) (w h : Int) (cs : ByteArray) (x y wy : Int)
theorem isWorld_ev (hrl : rl.size ≤ 9223372036854775807) (hc : cs.size ≤ 9223372036854775807) : EvB (fun k => impl_IsWorld k (rl, w, h, cs, x, y, wy)) (WorldOk rl w h cs x y wy) := by
  have H : EvB (fun k => impl_IsWorld k (rl, w, h, cs, x, y, wy)) (RuleOk rl ∧ (((1 ≤ w ∧ w ≤ 9) ∧ (1 ≤ h ∧ h ≤ 9)) ∧ ((CellsOk (rl.size : Int) cs ∧ (cs.size : Int) = w * h) ∧ ((0 ≤ x ∧ x ≤ w - 1) ∧ ((0 ≤ y ∧ y ≤ h - 1) ∧ (0 ≤ wy ∧ wy ≤ 3)))))) := by
    refine EvB.step (fun k => impl_IsWorld.eq k rl w h cs x y wy) (EvB.and (isRuleR_ev rl hrl) fun hR => EvB.and (EvB.step (fun k => impl_isSize.eq k w h) (EvB.and (within_ev w 1 9) fun _ => (within_ev h 1 9).ret)) fun hs => ?_)
    have hm := mul_range (a := w) (b := h) (by omega) (by omega) (by omega) (by omega)
    have h6 := hR.1
    rw [w64_of (n := w * h) (by omega) (by omega)]
    exact EvB.and (areCells_ev (rl.size : Int) (by omega) cs hc (w * h)) fun _ => (isAnt_ev w h x y wy hs.1 hs.2).ret
  exact H.iff ⟨fun q => ⟨q.1, q.2.1.1, q.2.1.2, q.2.2.1.2, q.2.2.1.1, q.2.2.2.1, q.2.2.2.2.1, q.2.2.2.2.2⟩, fun q => ⟨q.1, ⟨q.2.1, q.2.2.1⟩, ⟨q.2.2.2.2.1, q.2.2.2.1⟩, q.2.2.2.2.2.1, q.2.2.2.2.2.2.1, q.2.2.2.2.2.2.2⟩⟩
theorem woGood_ev : EvB (fun k => spec_woGood k (rl, w, h, cs, x, y, wy)) (WorldOk rl w h cs x y wy) := by
  refine EvB.step (fun k => spec_woGood.eq k rl w h cs x y wy) (EvB.and' (woRuleR_ev rl) fun hR => EvB.and' (l1In_ev w 1 9) fun hw => EvB.and' (l1In_ev h 1 9) fun hh => ?_)
  have hm := mul_range (a := w) (b := h) (by omega) (by omega) (by omega) (by omega)
  have h6 := hR.1
  rw [w64_of (n := w * h) (by omega) (by omega)]
  refine EvB.ifN (P := (cs.size : Int) = w * h) (by rw [bne_eq_false_iff_eq]) fun _ => ?_
  have e1 : w64 ((rl.size : Int) - 1) = (rl.size : Int) - 1 := w64_of (by omega) (by omega)
  have step : ∀ (i : Nat) (c : UInt8), cs.data.toList[i]? = some c → ∀ r, Ev (fun k => (spec_l1In k ((c.toNat : Int) - 48, 0, (rl.size : Int) - 1)).bind fun r1 => cond (!r1) (some (.inl false)) (spec_woGood_l k ((rl, w, h, cs, x, y, wy), w64 ((i : Int) + 1)))) r → Ev (fun k => spec_woGood_l k ((rl, w, h, cs, x, y, wy), (i : Int))) r := fun i c hx r H => by
    have hi : i < cs.size := by rw [size_list]; exact (List.getElem?_eq_some_iff.1 hx).1
    exact Ev.step (fun k => spec_woGood_l.eq k rl w h cs x y wy (i : Int)) (Ev.yes (lt_nat hi) (Ev.yes (inB_nat hi) (by rw [Int.toNat_natCast, bt_at hx, num_of, e1]; exact H)))
  have srch := Ev.search (L := fun k i => spec_woGood_l k ((rl, w, h, cs, x, y, wy), i)) (n := cs.size) (fun i => ∃ c, cs.data.toList[i]? = some c ∧ ¬ (48 ≤ c.toNat ∧ (c.toNat : Int) ≤ 47 + (rl.size : Int))) (fun i => .inl false) (.inr (rl, w, h, cs, x, y, wy))
    (fun i hi hp r H => by
      obtain ⟨c, hx⟩ := byte_at hi
      have hr : 48 ≤ c.toNat ∧ (c.toNat : Int) ≤ 47 + (rl.size : Int) := Classical.byContradiction fun hn => hp ⟨c, hx, hn⟩
      exact step i c hx r (Ev.bind ((l1In_ev _ _ _).isT (by omega)) (Ev.no rfl (by rw [w64_succ (by omega)]; exact H))))
    (fun i hi hp => by
      obtain ⟨c, hx, hn⟩ := hp
      exact step i c hx _ (Ev.bind ((l1In_ev _ _ _).isF (by omega)) (Ev.yes rfl (Ev.now _))))
    (Ev.step (fun k => spec_woGood_l.eq k rl w h cs x y wy (cs.size : Int)) (Ev.no (not_lt_nat (Nat.lt_irrefl _)) (Ev.now _))) cs.size 0 (by omega)
  rcases srch with ⟨h1, h2⟩ | ⟨j, _, hj, ⟨c, hx, hn⟩, _, h2⟩
  · have hcs : CellsOk (rl.size : Int) cs := fun c hm => by
      obtain ⟨i, hi⟩ := List.mem_iff_getElem?.1 hm
      exact Classical.byContradiction fun hn => h1 i (Nat.zero_le _) (by rw [size_list]; exact (List.getElem?_eq_some_iff.1 hi).1) ⟨c, hi, hn⟩
    have rest : EvB (fun k => (spec_l1In k (x, 0, w64 (w - 1))).bind fun r7 => cond r7 ((spec_l1In k (y, 0, w64 (h - 1))).bind fun r8 => cond r8 ((spec_l1In k (wy, 0, 3)).bind fun r9 => some r9) (some false)) (some false)) ((0 ≤ x ∧ x ≤ w - 1) ∧ (0 ≤ y ∧ y ≤ h - 1) ∧ (0 ≤ wy ∧ wy ≤ 3)) := by
      rw [w64_of (n := w - 1) (by omega) (by omega), w64_of (n := h - 1) (by omega) (by omega)]
      exact EvB.and (l1In_ev _ _ _) fun _ => EvB.and (l1In_ev _ _ _) fun _ => (l1In_ev _ _ _).ret
    obtain ⟨b, q1, q2⟩ := rest
    exact ⟨b, Ev.bind h2 q1, q2.trans ⟨fun q => ⟨hcs, q⟩, fun q => q.2⟩⟩
  · exact ⟨false, Ev.bind h2 (Ev.now _), ⟨nofun, fun h => absurd (h.1 c (List.mem_of_getElem? hx)) hn⟩⟩
end

theorem go1_inv {n m M : Int} (hn : 0 ≤ n ∧ n ≤ M - 1) (hm : 0 ≤ m ∧ m ≤ M - 1) : (go1 n M (-1) = m ↔ n = go1 m M 1) ∧ (go1 n M 1 = m ↔ n = go1 m M (-1)) := by
  unfold go1
  constructor <;> split <;> first | omega | (split <;> first | omega | (split <;> first | omega | (split <;> omega)))
theorem back_go {n M d : Int} (h : 0 ≤ n ∧ n ≤ M - 1) (hd : d = 1 ∨ d = -1 ∨ d = 0) : go1 (go1 n M d) M (-d) = n := by
  have g1 := go1_in (d := 1) h (by omega)
  have g2 := go1_in (d := -1) h (by omega)
  rcases hd with rfl | rfl | rfl
  · exact ((go1_inv g1 h).1).2 rfl
  · exact ((go1_inv g2 h).2).2 rfl
  · rw [Int.neg_zero, go1_zero h, go1_zero h]
theorem dW_cases (wy : Int) : (dxW wy = 1 ∨ dxW wy = -1 ∨ dxW wy = 0) ∧ (dyW wy = 1 ∨ dyW wy = -1 ∨ dyW wy = 0) := by
  unfold dxW dyW
  constructor <;> split <;> first | omega | (split <;> omega)
theorem bt_set {s : ByteArray} {k : Nat} (j : Nat) (hk : k < s.size) (c : UInt8) : bt (setByte s k c) j = if j = k then (c.toNat : Int) else bt s j := by
  unfold bt setByte
  show ((((s.data.toList.set k c).toArray).getD j 0).toNat : Int) = _
  rw [Array.getD_eq_getD_getElem?, Array.getD_eq_getD_getElem?, List.getElem?_toArray, List.getElem?_set, ← Array.getElem?_toList]
  rw [size_list] at hk
  by_cases h : j = k
  · subst h
    have hk' : j < s.size := by rw [size_list]; exact hk
    simp [hk, hk']
  · rw [if_neg (fun e => h e.symm), if_neg h]
theorem set_twice {s : ByteArray} {k : Nat} {c d : UInt8} (h : s.data.toList[k]? = some d) : setByte (setByte s k c) k d = s := by
  apply ba_ext
  unfold setByte
  show ((s.data.toList.set k c).set k d) = s.data.toList
  rw [List.set_set]
  obtain ⟨h1, h2⟩ := List.getElem?_eq_some_iff.1 h
  rw [← h2, List.set_getElem_self]
theorem of_digit {c : UInt8} (h : 48 ≤ c.toNat) : UInt8.ofNat ((48 : Int) + ((c.toNat : Int) - 48)).toNat = c := by
  rw [show ((48 : Int) + ((c.toNat : Int) - 48)).toNat = c.toNat by omega]
  simp
theorem ba_beq (s : ByteArray) : (s == s) = true := by
  obtain ⟨d⟩ := s
  show (d == d) = true
  simp
theorem same7 (W : Wo) : (!((W.1 == W.1) && ((W.2.1 == W.2.1) && ((W.2.2.1 == W.2.2.1) && ((W.2.2.2.1 == W.2.2.2.1) && ((W.2.2.2.2.1 == W.2.2.2.2.1) && ((W.2.2.2.2.2.1 == W.2.2.2.2.2.1) && ((W.2.2.2.2.2.2 == W.2.2.2.2.2.2) && true)))))))) = false := by simp [ba_beq]
theorem sameB (b : Bool) : (!(b == b)) = false := by cases b <;> rfl
theorem sameS (s : ByteArray) : (!(strEq s s)) = false := by rw [strEq_self]; rfl
theorem good8 {x : Int} (h : (Sh.int IntKind.u8).good x) : 0 ≤ x ∧ x ≤ 255 := by
  have h : (Lit.int .u8 x).wf = true := h
  simp [Lit.wf, IntKind.min, IntKind.max, IntKind.bits, IntKind.signed] at h
  omega
theorem l1Mod_gen (n m : Int) (hm : 1 ≤ m ∧ m ≤ 1000000) (hn : -1000000000 ≤ n ∧ n ≤ 1000000000) : Ev (fun k => spec_l1Mod k (n, m)) (n % m) := by
  have h1 := Int.tmod_lt_of_pos n (show (0 : Int) < m by omega)
  have h2 : -m < n.tmod m := by
    by_cases h0 : 0 ≤ n
    · have := Int.tmod_nonneg m h0
      omega
    · have e : n.tmod m = -((-n).tmod m) := by rw [Int.neg_tmod, Int.neg_neg]
      have := Int.tmod_lt_of_pos (-n) (show (0 : Int) < m by omega)
      omega
  have e1 : w64 (n.tmod m + m) = n.tmod m + m := w64_of (by omega) (by omega)
  refine Ev.step (fun k => spec_l1Mod.eq k n m) (Ev.yes (by rw [bne_iff_ne]; omega) (Ev.yes (by rw [bne_iff_ne]; omega) (Ev.now' ?_)))
  rw [e1, Int.tmod_eq_emod_of_nonneg (by omega), Int.add_emod_right, Int.tmod_def, Int.sub_mul_emod_self_left]
theorem kSame_ev (a : List Int) (hl : a.length ≤ 1048576) : Ev (fun k => laws_kSame k (a, a)) true := by
  have h : ∀ (m i : Nat), i + m = a.length → Ev (fun k => laws_kSame_l k (a, a, (a.length : Int), (i : Int))) (.inr ()) := by
    intro m
    induction m with
    | zero => intro i h; exact Ev.step (fun k => laws_kSame_l.eq k a a (a.length : Int) i) (Ev.no (not_lt_nat (by omega)) (Ev.now _))
    | succ m ih =>
      intro i h
      refine Ev.step (fun k => laws_kSame_l.eq k a a (a.length : Int) i) (Ev.yes (lt_nat (by omega)) (Ev.yes (inB_nat (by omega)) (Ev.yes (inB_nat (by omega)) (Ev.no (neq_self _) ?_))))
      rw [w64_succ (by omega)]
      exact ih (i + 1) (by omega)
  exact Ev.step (fun k => laws_kSame.eq k a a) (Ev.no (neq_self _) (Ev.bind (h a.length 0 (by omega)) (Ev.now _)))
theorem kSum_ev (a : List Int) (hl : a.length ≤ 1048576) (hb : ∀ x ∈ a, 0 ≤ x ∧ x ≤ 1048576) : Ev (fun k => laws_kSum k a) a.sum := by
  have h : ∀ (m i : Nat) (s : Int), i + m = a.length → 0 ≤ s ∧ s ≤ 1048576 * (i : Int) → Ev (fun k => laws_kSum_l k (s, a, (a.length : Int), (i : Int))) (s + (a.drop i).sum) := by
    intro m
    induction m with
    | zero =>
      intro i s h hs
      rw [List.drop_eq_nil_of_le (by omega), List.sum_nil, Int.add_zero]
      exact Ev.step (fun k => laws_kSum_l.eq k s a (a.length : Int) i) (Ev.no (not_lt_nat (by omega)) (Ev.now _))
    | succ m ih =>
      intro i s h hs
      obtain ⟨x, hx⟩ := nat_list (l := a) (i := i) (by omega)
      have hxb := hb x (List.mem_of_getElem? hx)
      have e1 : w64 (s + x) = s + x := w64_of (by omega) (by omega)
      refine Ev.step (fun k => laws_kSum_l.eq k s a (a.length : Int) i) (Ev.yes (lt_nat (by omega)) (Ev.yes (inB_nat (by omega)) ?_))
      obtain ⟨hlt, he⟩ := List.getElem?_eq_some_iff.1 hx
      rw [Int.toNat_natCast, getD_at hx, e1, w64_succ (by omega), List.drop_eq_getElem_cons hlt, List.sum_cons, he, ← Int.add_assoc]
      exact ih (i + 1) (s + x) (by omega) (by omega)
  have := h a.length 0 0 (by omega) (by omega)
  rw [Int.zero_add] at this
  exact Ev.step (fun k => laws_kSum.eq k a) (Ev.bind this (Ev.now _))

def OkO (W : Wo) : Prop := WorldOk W.1 W.2.1 W.2.2.1 W.2.2.2.1 W.2.2.2.2.1 W.2.2.2.2.2.1 W.2.2.2.2.2.2
abbrev zeroO : Wo := (ByteArray.empty, 0, 0, ByteArray.empty, 0, 0, 0)
def colB (w : Int) (cs : ByteArray) (x y : Int) : Int := bt cs (y * w + x).toNat - 48
def putB (w : Int) (cs : ByteArray) (x y p : Int) : ByteArray := setByte cs (y * w + x).toNat (UInt8.ofNat (48 + p).toNat)
def wayB (rl : ByteArray) (c wy : Int) : Int := (wy + quartersB (bt rl c.toNat)) % 4
def stepO : Wo → Wo
  | (rl, w, h, cs, x, y, wy) => (rl, w, h, putB w cs x y ((colB w cs x y + 1) % (rl.size : Int)), go1 x w (1 * dxW (wayB rl (colB w cs x y) wy)), go1 y h (1 * dyW (wayB rl (colB w cs x y) wy)), wayB rl (colB w cs x y) wy)
def preX (w x wy : Int) : Int := go1 x w (-1 * dxW wy)
def preY (h y wy : Int) : Int := go1 y h (-1 * dyW wy)
def preC (rl : ByteArray) (w h : Int) (cs : ByteArray) (x y wy : Int) : Int := (colB w cs (preX w x wy) (preY h y wy) - 1) % (rl.size : Int)
def backO : Wo → Wo
  | (rl, w, h, cs, x, y, wy) => (rl, w, h, putB w cs (preX w x wy) (preY h y wy) (preC rl w h cs x y wy), preX w x wy, preY h y wy, (wy - quartersB (bt rl (preC rl w h cs x y wy).toNat)) % 4)
section
variable {rl : ByteArray} {w h : Int} {cs : ByteArray} {x y wy : Int}
theorem cell_ex (hw : 1 ≤ w ∧ w ≤ 9) (hh : 1 ≤ h ∧ h ≤ 9) (hs : (cs.size : Int) = w * h) (hcs : CellsOk (rl.size : Int) cs) (hx : 0 ≤ x ∧ x ≤ w - 1) (hy : 0 ≤ y ∧ y ≤ h - 1) : ∃ c : UInt8, cs.data.toList[(y * w + x).toNat]? = some c ∧ colB w cs x y = (c.toNat : Int) - 48 ∧ 48 ≤ c.toNat ∧ (c.toNat : Int) ≤ 47 + (rl.size : Int) := by
  obtain ⟨a1, a2, a3, a4⟩ := at_range hx hy hw hh
  obtain ⟨c, hc⟩ := byte_at (cs := cs) (i := (y * w + x).toNat) (by omega)
  obtain ⟨c48, cti⟩ := hcs c (List.mem_of_getElem? hc)
  exact ⟨c, hc, by unfold colB; rw [bt_at hc], c48, cti⟩
theorem put_same (hw : 1 ≤ w ∧ w ≤ 9) (hh : 1 ≤ h ∧ h ≤ 9) (hs : (cs.size : Int) = w * h) (hcs : CellsOk (rl.size : Int) cs) (hx : 0 ≤ x ∧ x ≤ w - 1) (hy : 0 ≤ y ∧ y ≤ h - 1) (p : Int) (hp : 0 ≤ p ∧ p ≤ 9) : colB w (putB w cs x y p) x y = p ∧ putB w (putB w cs x y p) x y (colB w cs x y) = cs := by
  obtain ⟨c, hc, e, c48, _⟩ := cell_ex hw hh hs hcs hx hy
  obtain ⟨a1, a2, a3, a4⟩ := at_range hx hy hw hh
  constructor
  · unfold colB putB
    rw [bt_set _ (by omega), if_pos rfl, toNat_ofNat8 (by omega)]
    omega
  · unfold putB
    rw [e, of_digit c48]
    exact set_twice hc
end
theorem put_put (w : Int) (cs : ByteArray) (x y p q : Int) : putB w (putB w cs x y p) x y q = putB w cs x y q := by
  apply ba_ext
  unfold putB setByte
  show ((cs.data.toList.set _ _).set _ _) = cs.data.toList.set _ _
  rw [List.set_set]
theorem step_ev : ∀ W : Wo, OkO W → Ev (fun k => impl_World_step k W) (stepO W) ∧ Ev (fun k => spec_woStep k W) (stepO W) ∧ OkO (stepO W)
  | (rl, w, h, cs, x, y, wy), H => by
    obtain ⟨hR, hw, hh, hs, hcs, hx, hy, hwy⟩ : WorldOk rl w h cs x y wy := H
    obtain ⟨hr6, hsg⟩ := id hR
    obtain ⟨a1, a2, a3, a4⟩ := at_range hx hy hw hh
    have hm := mul_range (a := w) (b := h) (by omega) (by omega) (by omega) (by omega)
    obtain ⟨c, hc, eqc, c48, cti⟩ := cell_ex hw hh hs hcs hx hy
    have hclt := c.toNat_lt
    obtain ⟨b, hb⟩ := byte_at (cs := rl) (i := ((c.toNat : Int) - 48).toNat) (by omega)
    have hbt : bt rl ((c.toNat : Int) - 48).toNat = (b.toNat : Int) := bt_at hb
    have eA := at64 hx hy hw hh
    have eC : w64 (w8 (bt cs (y * w + x).toNat - 48)) = (c.toNat : Int) - 48 := by rw [bt_at hc, w8_of (by omega) (by omega), w64_of (by omega) (by omega)]
    obtain ⟨q0, q3⟩ := quartersB_range (b.toNat : Int)
    have eW : (w64 (wy + quartersB (b.toNat : Int))).tmod 4 = wayB rl (colB w cs x y) wy := by
      unfold wayB
      rw [eqc, hbt, w64_of (by omega) (by omega), Int.tmod_eq_emod_of_nonneg (by omega)]
    have hwz : 0 ≤ wayB rl (colB w cs x y) wy ∧ wayB rl (colB w cs x y) wy ≤ 3 := by unfold wayB; omega
    have hl0 : (0 : Int) < (rl.size : Int) := by omega
    have eP : (w64 ((c.toNat : Int) - 48 + 1)).tmod (rl.size : Int) = (colB w cs x y + 1) % (rl.size : Int) := by rw [eqc, w64_of (by omega) (by omega), Int.tmod_eq_emod_of_nonneg (by omega)]
    have hP : 0 ≤ (colB w cs x y + 1) % (rl.size : Int) ∧ (colB w cs x y + 1) % (rl.size : Int) ≤ (rl.size : Int) - 1 := by
      have p1 := Int.emod_nonneg (colB w cs x y + 1) (show (rl.size : Int) ≠ 0 by omega)
      have p2 := Int.emod_lt_of_pos (colB w cs x y + 1) hl0
      omega
    show Ev (fun k => impl_World_step k (rl, w, h, cs, x, y, wy)) (rl, w, h, putB w cs x y ((colB w cs x y + 1) % (rl.size : Int)), go1 x w (1 * dxW (wayB rl (colB w cs x y) wy)), go1 y h (1 * dyW (wayB rl (colB w cs x y) wy)), wayB rl (colB w cs x y) wy) ∧
      Ev (fun k => spec_woStep k (rl, w, h, cs, x, y, wy)) (rl, w, h, putB w cs x y ((colB w cs x y + 1) % (rl.size : Int)), go1 x w (1 * dxW (wayB rl (colB w cs x y) wy)), go1 y h (1 * dyW (wayB rl (colB w cs x y) wy)), wayB rl (colB w cs x y) wy) ∧
      WorldOk rl w h (putB w cs x y ((colB w cs x y + 1) % (rl.size : Int))) (go1 x w (1 * dxW (wayB rl (colB w cs x y) wy))) (go1 y h (1 * dyW (wayB rl (colB w cs x y) wy))) (wayB rl (colB w cs x y) wy)
    generalize wayB rl (colB w cs x y) wy = wz at eW hwz
    generalize (colB w cs x y + 1) % (rl.size : Int) = p at eP hP
    have hinA : inB (y * w + x) cs.size = true := inB_of a3 (by omega)
    have hinC : inB ((c.toNat : Int) - 48) rl.size = true := inB_of (by omega) (by omega)
    have hne : ((rl.size : Int) != 0) = true := by rw [bne_iff_ne]; omega
    obtain ⟨⟨d1, d2⟩, d3, d4⟩ := dW_range wz
    unfold putB
    refine ⟨?_, ?_, hR, hw, hh, by rw [setByte_size]; exact hs, cells_set hcs _ hP (by omega), go1_in hx (by omega), go1_in hy (by omega), hwz⟩
    · refine Ev.step (fun k => impl_World_step.eq k rl w h cs x y wy) (Ev.bind (colour_ev _ w h cs x y wy hw hh hx hy hs hc c48) (Ev.yes hinC ?_))
      rw [hbt]
      refine Ev.bind (quarters_ev _) ?_
      simp only [eW, eP]
      exact Ev.bind (Ev.step (fun k => impl_World_at.eq k rl w h cs x y wz) (Ev.now' eA)) (Ev.yes hne (Ev.bind (painted_ev cs _ p ⟨a3, by omega⟩ (by omega)) (Ev.bind (gone_ev _ w h _ x y wz 1 hw hh hx hy hwz (.inl rfl)) (Ev.now _))))
    · refine Ev.step (fun k => spec_woStep.eq k rl w h cs x y wy) (Ev.bind (a := (c.toNat : Int) - 48) (Ev.step (fun k => spec_woColour.eq k rl w h cs x y wy x y) (by rw [eA]; exact Ev.yes hinA (Ev.now' eC))) (Ev.yes hinC ?_))
      rw [hbt]
      refine Ev.bind (woTurn_ev _) ?_
      simp only [eW, eP]
      exact Ev.yes hne (Ev.bind (woPaint_ev rl w h cs x y wz x y p hw hh hx hy hs (by omega)) (Ev.bind (woGo_ev rl w h _ x y wz hw hh hx hy hwz) (Ev.now _)))
theorem pred_succ {c k : Int} (h : 0 ≤ c ∧ c ≤ k - 1) : ((c + 1) % k - 1) % k = c ∧ ((c - 1) % k + 1) % k = c := by
  constructor
  · rw [Int.sub_emod, Int.emod_emod, ← Int.sub_emod, show c + 1 - 1 = c by omega, Int.emod_eq_of_lt h.1 (by omega)]
  · rw [Int.add_emod, Int.emod_emod, ← Int.add_emod, show c - 1 + 1 = c by omega, Int.emod_eq_of_lt h.1 (by omega)]
theorem mod_range (c : Int) {k : Int} (hk : 1 ≤ k) : 0 ≤ c % k ∧ c % k ≤ k - 1 := by
  have p1 := Int.emod_nonneg c (show k ≠ 0 by omega)
  have p2 := Int.emod_lt_of_pos c (show 0 < k by omega)
  omega
theorem pre_in {n M d : Int} (h : 0 ≤ n ∧ n ≤ M - 1) (hd : d = 1 ∨ d = -1 ∨ d = 0) : 0 ≤ go1 n M (-1 * d) ∧ go1 n M (-1 * d) ≤ M - 1 := go1_in h (by omega)
theorem back_ok : ∀ W : Wo, OkO W → OkO (backO W)
  | (rl, w, h, cs, x, y, wy), H => by
    obtain ⟨hR, hw, hh, hs, hcs, hx, hy, hwy⟩ : WorldOk rl w h cs x y wy := H
    obtain ⟨d1, d2⟩ := dW_cases wy
    have hr6 := hR.1
    have hp := mod_range (colB w cs (preX w x wy) (preY h y wy) - 1) (k := (rl.size : Int)) (by omega)
    refine ⟨hR, hw, hh, ?_, cells_set hcs _ hp (by omega), pre_in hx d1, pre_in hy d2, ?_⟩
    · show ((setByte cs _ _).size : Int) = _
      rw [setByte_size]
      exact hs
    · show 0 ≤ (wy - _) % 4 ∧ (wy - _) % 4 ≤ 3
      omega
theorem back_step : ∀ W : Wo, OkO W → backO (stepO W) = W
  | (rl, w, h, cs, x, y, wy), H => by
    obtain ⟨hR, hw, hh, hs, hcs, hx, hy, hwy⟩ : WorldOk rl w h cs x y wy := H
    have hr6 := hR.1
    obtain ⟨c, hc, eqc, c48, cti⟩ := cell_ex hw hh hs hcs hx hy
    have hp := mod_range (colB w cs x y + 1) (k := (rl.size : Int)) (by omega)
    obtain ⟨p1, p2⟩ := put_same hw hh hs hcs hx hy ((colB w cs x y + 1) % (rl.size : Int)) (by omega)
    obtain ⟨d1, d2⟩ := dW_cases (wayB rl (colB w cs x y) wy)
    have ps := (pred_succ (c := colB w cs x y) (k := (rl.size : Int)) (by omega)).1
    have ex : preX w (go1 x w (1 * dxW (wayB rl (colB w cs x y) wy))) (wayB rl (colB w cs x y) wy) = x := by
      unfold preX
      rw [Int.one_mul, show -1 * dxW (wayB rl (colB w cs x y) wy) = -(dxW (wayB rl (colB w cs x y) wy)) by omega]
      exact back_go hx d1
    have ey : preY h (go1 y h (1 * dyW (wayB rl (colB w cs x y) wy))) (wayB rl (colB w cs x y) wy) = y := by
      unfold preY
      rw [Int.one_mul, show -1 * dyW (wayB rl (colB w cs x y) wy) = -(dyW (wayB rl (colB w cs x y) wy)) by omega]
      exact back_go hy d2
    show (rl, w, h, putB w _ _ _ _, _, _, _) = (rl, w, h, cs, x, y, wy)
    simp only [preC, ex, ey, p1, ps, p2]
    have : (wayB rl (colB w cs x y) wy - quartersB (bt rl (colB w cs x y).toNat)) % 4 = wy := by unfold wayB; omega
    rw [this]
theorem step_back : ∀ W : Wo, OkO W → stepO (backO W) = W
  | (rl, w, h, cs, x, y, wy), H => by
    obtain ⟨hR, hw, hh, hs, hcs, hx, hy, hwy⟩ : WorldOk rl w h cs x y wy := H
    have hr6 := hR.1
    obtain ⟨d1, d2⟩ := dW_cases wy
    have hx0 := pre_in hx d1
    have hy0 := pre_in hy d2
    obtain ⟨c, hc, eqc, c48, cti⟩ := cell_ex hw hh hs hcs hx0 hy0
    have hp := mod_range (colB w cs (preX w x wy) (preY h y wy) - 1) (k := (rl.size : Int)) (by omega)
    obtain ⟨p1, p2⟩ := put_same hw hh hs hcs hx0 hy0 (preC rl w h cs x y wy) (by unfold preC; omega)
    have p1 : colB w (putB w cs (preX w x wy) (preY h y wy) (preC rl w h cs x y wy)) (preX w x wy) (preY h y wy) = preC rl w h cs x y wy := p1
    have p2 : putB w (putB w cs (preX w x wy) (preY h y wy) (preC rl w h cs x y wy)) (preX w x wy) (preY h y wy) (colB w cs (preX w x wy) (preY h y wy)) = cs := p2
    have eqc : colB w cs (preX w x wy) (preY h y wy) = (c.toNat : Int) - 48 := eqc
    have ps := (pred_succ (c := colB w cs (preX w x wy) (preY h y wy)) (k := (rl.size : Int)) (by omega)).2
    have ew : wayB rl (preC rl w h cs x y wy) ((wy - quartersB (bt rl (preC rl w h cs x y wy).toNat)) % 4) = wy := by unfold wayB; omega
    have ex : go1 (preX w x wy) w (1 * dxW wy) = x := by
      unfold preX
      have := back_go (d := -1 * dxW wy) hx (by omega)
      rwa [show -(-1 * dxW wy) = 1 * dxW wy by omega] at this
    have ey : go1 (preY h y wy) h (1 * dyW wy) = y := by
      unfold preY
      have := back_go (d := -1 * dyW wy) hy (by omega)
      rwa [show -(-1 * dyW wy) = 1 * dyW wy by omega] at this
    show (rl, w, h, putB w _ _ _ _, _, _, _) = (rl, w, h, cs, x, y, wy)
    have ps' : (preC rl w h cs x y wy + 1) % (rl.size : Int) = colB w cs (preX w x wy) (preY h y wy) := ps
    rw [p1, ew, ps', p2, ex, ey]
theorem woGoBack_ev (rl : ByteArray) (w h : Int) (cs : ByteArray) (x y way : Int) (hw : 1 ≤ w ∧ w ≤ 9) (hh : 1 ≤ h ∧ h ≤ 9) (hx : 0 ≤ x ∧ x ≤ w - 1) (hy : 0 ≤ y ∧ y ≤ h - 1) (hway : 0 ≤ way ∧ way ≤ 3) :
    Ev (fun k => spec_woGo k ((rl, w, h, cs, x, y, way), -1)) ((), (rl, w, h, cs, preX w x way, preY h y way, way)) := by
  have e1 : w64 (y - -1) = y + 1 := by rw [w64_of (by omega) (by omega)]; omega
  have e2 : w64 (x + -1) = x + -1 := w64_of (by omega) (by omega)
  have e3 : w64 (y + -1) = y + -1 := w64_of (by omega) (by omega)
  have e4 : w64 (x - -1) = x + 1 := by rw [w64_of (by omega) (by omega)]; omega
  have : way = 0 ∨ way = 1 ∨ way = 2 ∨ way = 3 := by omega
  rcases this with rfl | rfl | rfl | rfl
  · refine Ev.step (fun k => spec_woGo.eq k rl w h cs x y 0 (-1)) (Ev.yes rfl ?_)
    rw [e1]
    refine Ev.bind (l1Mod_ev y h 1 hy hh (by omega)) (Ev.now' ?_)
    show ((), (rl, w, h, cs, x, go1 y h 1, (0 : Int))) = ((), (rl, w, h, cs, go1 x w 0, go1 y h 1, (0 : Int)))
    rw [go1_zero hx]
  · refine Ev.step (fun k => spec_woGo.eq k rl w h cs x y 1 (-1)) (Ev.no rfl (Ev.yes rfl ?_))
    rw [e2]
    refine Ev.bind (l1Mod_ev x w (-1) hx hw (by omega)) (Ev.now' ?_)
    show ((), (rl, w, h, cs, go1 x w (-1), y, (1 : Int))) = ((), (rl, w, h, cs, go1 x w (-1), go1 y h 0, (1 : Int)))
    rw [go1_zero hy]
  · refine Ev.step (fun k => spec_woGo.eq k rl w h cs x y 2 (-1)) (Ev.no rfl (Ev.no rfl (Ev.yes rfl ?_)))
    rw [e3]
    refine Ev.bind (l1Mod_ev y h (-1) hy hh (by omega)) (Ev.now' ?_)
    show ((), (rl, w, h, cs, x, go1 y h (-1), (2 : Int))) = ((), (rl, w, h, cs, go1 x w 0, go1 y h (-1), (2 : Int)))
    rw [go1_zero hx]
  · refine Ev.step (fun k => spec_woGo.eq k rl w h cs x y 3 (-1)) (Ev.no rfl (Ev.no rfl (Ev.no rfl ?_)))
    rw [e4]
    refine Ev.bind (l1Mod_ev x w 1 hx hw (by omega)) (Ev.now' ?_)
    show ((), (rl, w, h, cs, go1 x w 1, y, (3 : Int))) = ((), (rl, w, h, cs, go1 x w 1, go1 y h 0, (3 : Int)))
    rw [go1_zero hy]
theorem backO_ev : ∀ W : Wo, OkO W → Ev (fun k => impl_World_back k W) (backO W) ∧ Ev (fun k => spec_woBack k W) (backO W)
  | (rl, w, h, cs, x, y, wy), H => by
    obtain ⟨hR, hw, hh, hs, hcs, hx, hy, hwy⟩ : WorldOk rl w h cs x y wy := H
    have hr6 := hR.1
    obtain ⟨d1, d2⟩ := dW_cases wy
    have hx0 : 0 ≤ preX w x wy ∧ preX w x wy ≤ w - 1 := pre_in hx d1
    have hy0 : 0 ≤ preY h y wy ∧ preY h y wy ≤ h - 1 := pre_in hy d2
    obtain ⟨a1, a2, a3, a4⟩ := at_range hx0 hy0 hw hh
    have hm := mul_range (a := w) (b := h) (by omega) (by omega) (by omega) (by omega)
    obtain ⟨c, hc, eqc, c48, cti⟩ := cell_ex hw hh hs hcs hx0 hy0
    have hclt := c.toNat_lt
    have eA := at64 hx0 hy0 hw hh
    have hp : 0 ≤ preC rl w h cs x y wy ∧ preC rl w h cs x y wy ≤ (rl.size : Int) - 1 := mod_range _ (by omega)
    have epc : ((c.toNat : Int) - 48 - 1) % (rl.size : Int) = preC rl w h cs x y wy := by unfold preC; rw [eqc]
    have eP : (w64 (w64 ((c.toNat : Int) - 48 + (rl.size : Int)) - 1)).tmod (rl.size : Int) = preC rl w h cs x y wy := by
      rw [w64_of (n := (c.toNat : Int) - 48 + (rl.size : Int)) (by omega) (by omega), w64_of (by omega) (by omega), Int.tmod_eq_emod_of_nonneg (by omega), show (c.toNat : Int) - 48 + (rl.size : Int) - 1 = (c.toNat : Int) - 48 - 1 + (rl.size : Int) by omega, Int.add_emod_right, epc]
    obtain ⟨q0, q3⟩ := quartersB_range (bt rl (preC rl w h cs x y wy).toNat)
    have eWI : (w64 (w64 (wy + 4) - quartersB (bt rl (preC rl w h cs x y wy).toNat))).tmod 4 = (wy - quartersB (bt rl (preC rl w h cs x y wy).toNat)) % 4 := by
      rw [w64_of (n := wy + 4) (by omega) (by omega), w64_of (by omega) (by omega), Int.tmod_eq_emod_of_nonneg (by omega)]
      omega
    have eWS : w64 (wy - quartersB (bt rl (preC rl w h cs x y wy).toNat)) = wy - quartersB (bt rl (preC rl w h cs x y wy).toNat) := w64_of (by omega) (by omega)
    have hne : ((rl.size : Int) != 0) = true := by rw [bne_iff_ne]; omega
    have hinC : inB (preC rl w h cs x y wy) rl.size = true := inB_of hp.1 (by omega)
    have hinA : inB (preY h y wy * w + preX w x wy) cs.size = true := inB_of a3 (by omega)
    have eC : w64 (w8 (bt cs (preY h y wy * w + preX w x wy).toNat - 48)) = (c.toNat : Int) - 48 := by rw [bt_at hc, w8_of (by omega) (by omega), w64_of (by omega) (by omega)]
    have eM : w64 ((c.toNat : Int) - 48 - 1) = (c.toNat : Int) - 48 - 1 := w64_of (by omega) (by omega)
    have hM := l1Mod_gen ((c.toNat : Int) - 48 - 1) (rl.size : Int) (by omega) (by omega)
    rw [epc] at hM
    have hM4 := l1Mod_gen (wy - quartersB (bt rl (preC rl w h cs x y wy).toNat)) 4 (by omega) (by omega)
    have hg : Ev (fun k => impl_World_gone k ((rl, w, h, cs, x, y, wy), -1)) (rl, w, h, cs, preX w x wy, preY h y wy, wy) := gone_ev rl w h cs x y wy (-1) hw hh hx hy hwy (.inr rfl)
    have hcol := colour_ev rl w h cs (preX w x wy) (preY h y wy) wy hw hh hx0 hy0 hs hc c48
    have hgS := woGoBack_ev rl w h cs x y wy hw hh hx hy hwy
    have hpt := painted_ev cs (preY h y wy * w + preX w x wy) (preC rl w h cs x y wy) ⟨a3, by omega⟩ (by omega)
    have hps := woPaint_ev rl w h cs (preX w x wy) (preY h y wy) wy (preX w x wy) (preY h y wy) (preC rl w h cs x y wy) hw hh hx0 hy0 hs (by omega)
    show Ev (fun k => impl_World_back k (rl, w, h, cs, x, y, wy)) (rl, w, h, setByte cs (preY h y wy * w + preX w x wy).toNat (UInt8.ofNat (48 + preC rl w h cs x y wy).toNat), preX w x wy, preY h y wy, (wy - quartersB (bt rl (preC rl w h cs x y wy).toNat)) % 4) ∧
      Ev (fun k => spec_woBack k (rl, w, h, cs, x, y, wy)) (rl, w, h, setByte cs (preY h y wy * w + preX w x wy).toNat (UInt8.ofNat (48 + preC rl w h cs x y wy).toNat), preX w x wy, preY h y wy, (wy - quartersB (bt rl (preC rl w h cs x y wy).toNat)) % 4)
    generalize preC rl w h cs x y wy = p at *
    constructor
    · refine Ev.step (fun k => impl_World_back.eq k rl w h cs x y wy) (Ev.bind hg (Ev.bind hcol (Ev.yes hne ?_)))
      simp only [eP]
      refine Ev.yes hinC (Ev.bind (quarters_ev _) ?_)
      simp only [eWI]
      exact Ev.bind (Ev.step (fun k => impl_World_at.eq k rl w h cs _ _ _) (Ev.now' eA)) (Ev.bind hpt (Ev.now _))
    · refine Ev.step (fun k => spec_woBack.eq k rl w h cs x y wy) (Ev.bind hgS (Ev.bind (a := (c.toNat : Int) - 48) (Ev.step (fun k => spec_woColour.eq k rl w h cs (preX w x wy) (preY h y wy) wy (preX w x wy) (preY h y wy)) (by rw [eA]; exact Ev.yes hinA (Ev.now' eC))) ?_))
      simp only [eM]
      refine Ev.bind hM (Ev.bind hps (Ev.yes hinC (Ev.bind (woTurn_ev _) ?_)))
      simp only [eWS]
      exact Ev.bind hM4 (Ev.now _)
/-! ### Many steps -/
def runO : Nat → Wo → Wo
  | 0, W => W
  | n + 1, W => runO n (stepO W)
def unrunO : Nat → Wo → Wo
  | 0, W => W
  | n + 1, W => unrunO n (backO W)
theorem step_ok (W : Wo) (H : OkO W) : OkO (stepO W) := (step_ev W H).2.2
theorem run_ok : ∀ (n : Nat) (W : Wo), OkO W → OkO (runO n W)
  | 0, W, H => H
  | n + 1, W, H => run_ok n (stepO W) (step_ok W H)
theorem unrun_ok : ∀ (n : Nat) (W : Wo), OkO W → OkO (unrunO n W)
  | 0, W, H => H
  | n + 1, W, H => unrun_ok n (backO W) (back_ok W H)
theorem run_succ : ∀ (n : Nat) (W : Wo), runO (n + 1) W = stepO (runO n W)
  | 0, W => rfl
  | n + 1, W => run_succ n (stepO W)
theorem unrun_run : ∀ (n : Nat) (W : Wo), OkO W → unrunO n (runO n W) = W
  | 0, W, H => rfl
  | n + 1, W, H => by
    rw [run_succ]
    show unrunO n (backO (stepO (runO n W))) = W
    rw [back_step _ (run_ok n W H)]
    exact unrun_run n W H
theorem run_unrun : ∀ (n : Nat) (W : Wo), OkO W → runO n (unrunO n W) = W
  | 0, W, H => rfl
  | n + 1, W, H => by
    rw [run_succ]
    show stepO (runO n (unrunO n (backO W))) = W
    rw [run_unrun n (backO W) (back_ok W H)]
    exact step_back W H
theorem okO_size {W : Wo} (H : OkO W) : W.1.size ≤ 6 ∧ W.2.2.2.1.size ≤ 81 := by
  obtain ⟨hR, hw, hh, hs, _⟩ := H
  have hr6 := hR.1
  have hm := mul_range (a := W.2.1) (b := W.2.2.1) (by omega) (by omega) (by omega) (by omega)
  omega
theorem after_l_ev : ∀ (m i : Nat) (n : Nat) (W : Wo), OkO W → i + m = n → n ≤ 100000 → Ev (fun k => impl_WorldAfter_l k (W, zeroO, (n : Int), (i : Int))) (runO m W, zeroO) ∧ Ev (fun k => spec_WorldAfter_l k ((m : Int), W, zeroO)) (runO m W, zeroO)
  | 0, i, n, W, H, hi, hn => by
    obtain ⟨rl, w, h, cs, x, y, wy⟩ := W
    exact ⟨Ev.step (fun k => impl_WorldAfter_l.eq k rl w h cs x y wy ByteArray.empty 0 0 ByteArray.empty 0 0 0 (n : Int) (i : Int)) (Ev.no (not_lt_nat (by omega)) (Ev.now _)), Ev.step (fun k => spec_WorldAfter_l.eq k 0 rl w h cs x y wy ByteArray.empty 0 0 ByteArray.empty 0 0 0) (Ev.no rfl (Ev.now _))⟩
  | m + 1, i, n, W, H, hi, hn => by
    obtain ⟨s1, s2, s3⟩ := step_ev W H
    obtain ⟨q1, q2⟩ := after_l_ev m (i + 1) n (stepO W) s3 (by omega) hn
    obtain ⟨rl, w, h, cs, x, y, wy⟩ := W
    refine ⟨Ev.step (fun k => impl_WorldAfter_l.eq k rl w h cs x y wy ByteArray.empty 0 0 ByteArray.empty 0 0 0 (n : Int) (i : Int)) (Ev.yes (lt_nat (by omega)) (Ev.bind s1 ?_)), Ev.step (fun k => spec_WorldAfter_l.eq k ((m + 1 : Nat) : Int) rl w h cs x y wy ByteArray.empty 0 0 ByteArray.empty 0 0 0) (Ev.yes (decide_eq_true (by omega)) (Ev.bind s2 ?_))⟩
    · rw [w64_succ (by omega)]
      exact q1
    · rw [show w64 (((m + 1 : Nat) : Int) - 1) = (m : Int) by rw [w64_of (by omega) (by omega)]; omega]
      exact q2
theorem before_l_ev : ∀ (m i : Nat) (n : Nat) (W : Wo), OkO W → i + m = n → n ≤ 100000 → Ev (fun k => impl_WorldBefore_l k (W, zeroO, (n : Int), (i : Int))) (unrunO m W, zeroO) ∧ Ev (fun k => spec_WorldBefore_l k ((m : Int), W, zeroO)) (unrunO m W, zeroO)
  | 0, i, n, W, H, hi, hn => by
    obtain ⟨rl, w, h, cs, x, y, wy⟩ := W
    exact ⟨Ev.step (fun k => impl_WorldBefore_l.eq k rl w h cs x y wy ByteArray.empty 0 0 ByteArray.empty 0 0 0 (n : Int) (i : Int)) (Ev.no (not_lt_nat (by omega)) (Ev.now _)), Ev.step (fun k => spec_WorldBefore_l.eq k 0 rl w h cs x y wy ByteArray.empty 0 0 ByteArray.empty 0 0 0) (Ev.no rfl (Ev.now _))⟩
  | m + 1, i, n, W, H, hi, hn => by
    obtain ⟨s1, s2⟩ := backO_ev W H
    obtain ⟨q1, q2⟩ := before_l_ev m (i + 1) n (backO W) (back_ok W H) (by omega) hn
    obtain ⟨rl, w, h, cs, x, y, wy⟩ := W
    refine ⟨Ev.step (fun k => impl_WorldBefore_l.eq k rl w h cs x y wy ByteArray.empty 0 0 ByteArray.empty 0 0 0 (n : Int) (i : Int)) (Ev.yes (lt_nat (by omega)) (Ev.bind s1 ?_)), Ev.step (fun k => spec_WorldBefore_l.eq k ((m + 1 : Nat) : Int) rl w h cs x y wy ByteArray.empty 0 0 ByteArray.empty 0 0 0) (Ev.yes (decide_eq_true (by omega)) (Ev.bind s2 ?_))⟩
    · rw [w64_succ (by omega)]
      exact q1
    · rw [show w64 (((m + 1 : Nat) : Int) - 1) = (m : Int) by rw [w64_of (by omega) (by omega)]; omega]
      exact q2
theorem goodW_ev (W : Wo) : EvB (fun k => spec_woGood k W) (OkO W) := woGood_ev W.1 W.2.1 W.2.2.1 W.2.2.2.1 W.2.2.2.2.1 W.2.2.2.2.2.1 W.2.2.2.2.2.2
section
variable (W : Wo) (hr : W.1.size ≤ 1048576) (hc : W.2.2.2.1.size ≤ 1048576)
include hr hc
theorem isW_ev : EvB (fun k => impl_IsWorld k W) (OkO W) := isWorld_ev W.1 W.2.1 W.2.2.1 W.2.2.2.1 W.2.2.2.2.1 W.2.2.2.2.2.1 W.2.2.2.2.2.2 (by omega) (by omega)
theorem isGoing_ev (n : Int) : EvB (fun k => impl_isGoing k (W, n)) (OkO W ∧ (0 ≤ n ∧ n ≤ 3000)) := by
  have a := isW_ev W hr hc
  obtain ⟨rl, w, h, cs, x, y, wy⟩ := W
  exact EvB.step (fun k => impl_isGoing.eq k rl w h cs x y wy n) (EvB.and a fun _ => (within_ev n 0 3000).ret)
theorem woSteps_ev (n : Int) : EvB (fun k => spec_woSteps k (W, n)) (OkO W ∧ (0 ≤ n ∧ n ≤ 3000)) := by
  have a := goodW_ev W
  obtain ⟨rl, w, h, cs, x, y, wy⟩ := W
  exact EvB.step (fun k => spec_woSteps.eq k rl w h cs x y wy n) (EvB.and a fun _ => (l1In_ev n 0 3000).ret)
theorem after_ev (n : Int) : (OkO W ∧ (0 ≤ n ∧ n ≤ 3000) → Ev (fun k => impl_WorldAfter k (W, n)) (runO n.toNat W, true) ∧ Ev (fun k => spec_WorldAfter k (W, n)) (runO n.toNat W, true)) ∧
    (¬ (OkO W ∧ (0 ≤ n ∧ n ≤ 3000)) → Ev (fun k => impl_WorldAfter k (W, n)) (zeroO, false) ∧ Ev (fun k => spec_WorldAfter k (W, n)) (zeroO, false)) := by
  have a := isGoing_ev W hr hc n
  have b := woSteps_ev W hr hc n
  constructor
  · intro H
    have a := a.isT H
    have b := b.isT H
    obtain ⟨q1, q2⟩ := after_l_ev n.toNat 0 n.toNat W H.1 (by omega) (by omega)
    rw [Int.toNat_of_nonneg H.2.1] at q1 q2
    obtain ⟨rl, w, h, cs, x, y, wy⟩ := W
    exact ⟨Ev.step (fun k => impl_WorldAfter.eq k rl w h cs x y wy n) (Ev.bind a (Ev.no rfl (Ev.bind q1 (Ev.now _)))), Ev.step (fun k => spec_WorldAfter.eq k rl w h cs x y wy n) (Ev.bind b (Ev.no rfl (Ev.bind q2 (Ev.now _))))⟩
  · intro H
    have a := a.isF H
    have b := b.isF H
    obtain ⟨rl, w, h, cs, x, y, wy⟩ := W
    exact ⟨Ev.step (fun k => impl_WorldAfter.eq k rl w h cs x y wy n) (Ev.bind a (Ev.yes rfl (Ev.now _))), Ev.step (fun k => spec_WorldAfter.eq k rl w h cs x y wy n) (Ev.bind b (Ev.yes rfl (Ev.now _)))⟩
theorem before_ev (n : Int) : (OkO W ∧ (0 ≤ n ∧ n ≤ 3000) → Ev (fun k => impl_WorldBefore k (W, n)) (unrunO n.toNat W, true) ∧ Ev (fun k => spec_WorldBefore k (W, n)) (unrunO n.toNat W, true)) ∧
    (¬ (OkO W ∧ (0 ≤ n ∧ n ≤ 3000)) → Ev (fun k => impl_WorldBefore k (W, n)) (zeroO, false) ∧ Ev (fun k => spec_WorldBefore k (W, n)) (zeroO, false)) := by
  have a := isGoing_ev W hr hc n
  have b := woSteps_ev W hr hc n
  constructor
  · intro H
    have a := a.isT H
    have b := b.isT H
    obtain ⟨q1, q2⟩ := before_l_ev n.toNat 0 n.toNat W H.1 (by omega) (by omega)
    rw [Int.toNat_of_nonneg H.2.1] at q1 q2
    obtain ⟨rl, w, h, cs, x, y, wy⟩ := W
    exact ⟨Ev.step (fun k => impl_WorldBefore.eq k rl w h cs x y wy n) (Ev.bind a (Ev.no rfl (Ev.bind q1 (Ev.now _)))), Ev.step (fun k => spec_WorldBefore.eq k rl w h cs x y wy n) (Ev.bind b (Ev.no rfl (Ev.bind q2 (Ev.now _))))⟩
  · intro H
    have a := a.isF H
    have b := b.isF H
    obtain ⟨rl, w, h, cs, x, y, wy⟩ := W
    exact ⟨Ev.step (fun k => impl_WorldBefore.eq k rl w h cs x y wy n) (Ev.bind a (Ev.yes rfl (Ev.now _))), Ev.step (fun k => spec_WorldBefore.eq k rl w h cs x y wy n) (Ev.bind b (Ev.yes rfl (Ev.now _)))⟩
theorem stepW_ev : (OkO W → Ev (fun k => impl_StepWorld k W) (stepO W, true)) ∧ (¬ OkO W → Ev (fun k => impl_StepWorld k W) (zeroO, false)) := by
  obtain ⟨a1, a2⟩ := after_ev W hr hc 1
  constructor
  · intro H
    have q := (a1 ⟨H, by omega⟩).1
    obtain ⟨rl, w, h, cs, x, y, wy⟩ := W
    exact Ev.step (fun k => impl_StepWorld.eq k rl w h cs x y wy) (Ev.bind q (Ev.now _))
  · intro H
    have q := (a2 fun h => H h.1).1
    obtain ⟨rl, w, h, cs, x, y, wy⟩ := W
    exact Ev.step (fun k => impl_StepWorld.eq k rl w h cs x y wy) (Ev.bind q (Ev.now _))
theorem stepWS_ev : (OkO W → Ev (fun k => spec_StepWorld k W) (stepO W, true)) ∧ (¬ OkO W → Ev (fun k => spec_StepWorld k W) (zeroO, false)) := by
  have a := goodW_ev W
  constructor
  · intro H
    have a := a.isT H
    have q := (step_ev W H).2.1
    obtain ⟨rl, w, h, cs, x, y, wy⟩ := W
    exact Ev.step (fun k => spec_StepWorld.eq k rl w h cs x y wy) (Ev.bind a (Ev.no rfl (Ev.bind q (Ev.now _))))
  · intro H
    have a := a.isF H
    obtain ⟨rl, w, h, cs, x, y, wy⟩ := W
    exact Ev.step (fun k => spec_StepWorld.eq k rl w h cs x y wy) (Ev.bind a (Ev.yes rfl (Ev.now _)))
theorem stepB_ev : (OkO W → Ev (fun k => impl_StepBack k W) (backO W, true)) ∧ (¬ OkO W → Ev (fun k => impl_StepBack k W) (zeroO, false)) := by
  obtain ⟨a1, a2⟩ := before_ev W hr hc 1
  constructor
  · intro H
    have q := (a1 ⟨H, by omega⟩).1
    obtain ⟨rl, w, h, cs, x, y, wy⟩ := W
    exact Ev.step (fun k => impl_StepBack.eq k rl w h cs x y wy) (Ev.bind q (Ev.now _))
  · intro H
    have q := (a2 fun h => H h.1).1
    obtain ⟨rl, w, h, cs, x, y, wy⟩ := W
    exact Ev.step (fun k => impl_StepBack.eq k rl w h cs x y wy) (Ev.bind q (Ev.now _))
theorem stepBS_ev : (OkO W → Ev (fun k => spec_StepBack k W) (backO W, true)) ∧ (¬ OkO W → Ev (fun k => spec_StepBack k W) (zeroO, false)) := by
  have a := goodW_ev W
  constructor
  · intro H
    have a := a.isT H
    have q := (backO_ev W H).2
    obtain ⟨rl, w, h, cs, x, y, wy⟩ := W
    exact Ev.step (fun k => spec_StepBack.eq k rl w h cs x y wy) (Ev.bind a (Ev.no rfl (Ev.bind q (Ev.now _))))
  · intro H
    have a := a.isF H
    obtain ⟨rl, w, h, cs, x, y, wy⟩ := W
    exact Ev.step (fun k => spec_StepBack.eq k rl w h cs x y wy) (Ev.bind a (Ev.yes rfl (Ev.now _)))
end
/-! ### The signs of the turns -/
def signO (W : Wo) : UInt8 := W.1.data.toList.getD (colB W.2.1 W.2.2.2.1 W.2.2.2.2.1 W.2.2.2.2.2.1).toNat 0
def turnsO : Nat → Wo → List UInt8
  | 0, _ => []
  | n + 1, W => signO W :: turnsO n (stepO W)
theorem turns_len : ∀ (n : Nat) (W : Wo), (turnsO n W).length = n
  | 0, _ => rfl
  | n + 1, W => by
    show (turnsO n (stepO W)).length + 1 = n + 1
    rw [turns_len n]
theorem sign_facts (rl : ByteArray) (w h : Int) (cs : ByteArray) (x y wy : Int) (H : WorldOk rl w h cs x y wy) : (0 ≤ colB w cs x y ∧ colB w cs x y ≤ (rl.size : Int) - 1) ∧ rl.data.toList[(colB w cs x y).toNat]? = some (signO (rl, w, h, cs, x, y, wy)) ∧ Ev (fun k => impl_World_colour k (rl, w, h, cs, x, y, wy)) (colB w cs x y) ∧ Ev (fun k => spec_woColour k ((rl, w, h, cs, x, y, wy), x, y)) (colB w cs x y) := by
  obtain ⟨hR, hw, hh, hs, hcs, hx, hy, hwy⟩ := H
  have hr6 := hR.1
  obtain ⟨a1, a2, a3, a4⟩ := at_range hx hy hw hh
  obtain ⟨c, hc, eqc, c48, cti⟩ := cell_ex hw hh hs hcs hx hy
  have hclt := c.toNat_lt
  have eA := at64 hx hy hw hh
  have eC : w64 (w8 (bt cs (y * w + x).toNat - 48)) = (c.toNat : Int) - 48 := by rw [bt_at hc, w8_of (by omega) (by omega), w64_of (by omega) (by omega)]
  have hinA : inB (y * w + x) cs.size = true := inB_of a3 (by omega)
  obtain ⟨b, hb⟩ := byte_at (cs := rl) (i := (colB w cs x y).toNat) (by omega)
  refine ⟨by omega, ?_, ?_, ?_⟩
  · rw [hb]
    show _ = some (rl.data.toList.getD (colB w cs x y).toNat 0)
    rw [List.getD_eq_getElem?_getD, hb]
    rfl
  · rw [eqc]
    exact colour_ev rl w h cs x y wy hw hh hx hy hs hc c48
  · rw [eqc]
    exact Ev.step (fun k => spec_woColour.eq k rl w h cs x y wy x y) (by rw [eA]; exact Ev.yes hinA (Ev.now' eC))
theorem turns_l_ev : ∀ (m i n : Nat) (W : Wo) (out : List UInt8), OkO W → i + m = n → n ≤ 100000 → out.length = i →
    Ev (fun k => impl_TurnsAfter_l k (W, out.map (fun c => (c.toNat : Int)), (n : Int), (i : Int))) ((out ++ turnsO m W).map (fun c => (c.toNat : Int))) ∧ Ev (fun k => spec_TurnsAfter_l k ((m : Int), W, bs out)) (bs (out ++ turnsO m W))
  | 0, i, n, W, out, H, hi, hn, ho => by
    obtain ⟨rl, w, h, cs, x, y, wy⟩ := W
    show Ev _ ((out ++ []).map _) ∧ Ev _ (bs (out ++ []))
    rw [List.append_nil]
    exact ⟨Ev.step (fun k => impl_TurnsAfter_l.eq k rl w h cs x y wy _ (n : Int) (i : Int)) (Ev.no (not_lt_nat (by omega)) (Ev.now _)), Ev.step (fun k => spec_TurnsAfter_l.eq k 0 rl w h cs x y wy _) (Ev.no rfl (Ev.now _))⟩
  | m + 1, i, n, W, out, H, hi, hn, ho => by
    obtain ⟨s1, s2, s3⟩ := step_ev W H
    obtain ⟨q1, q2⟩ := turns_l_ev m (i + 1) n (stepO W) (out ++ [signO W]) s3 (by omega) hn (by simp; omega)
    have ea : out ++ turnsO (m + 1) W = out ++ [signO W] ++ turnsO m (stepO W) := by
      show out ++ (signO W :: turnsO m (stepO W)) = _
      simp
    rw [ea]
    obtain ⟨rl, w, h, cs, x, y, wy⟩ := W
    obtain ⟨f1, f2, f3, f4⟩ := sign_facts rl w h cs x y wy H
    have hr6 : rl.size ≤ 6 := H.1.1.2
    have hin : inB (colB w cs x y) rl.size = true := inB_of f1.1 (by omega)
    have e1 : w64 (colB w cs x y + 1) = colB w cs x y + 1 := w64_of (by omega) (by omega)
    have e2 : (colB w cs x y + 1).toNat = (colB w cs x y).toNat + 1 := by omega
    have hcut : rl.extract (colB w cs x y).toNat ((colB w cs x y).toNat + 1) = bs [signO (rl, w, h, cs, x, y, wy)] := by
      apply ba_ext
      obtain ⟨hlt, he⟩ := List.getElem?_eq_some_iff.1 f2
      rw [extract_list, List.drop_take, show (colB w cs x y).toNat + 1 - (colB w cs x y).toNat = 1 by omega, List.drop_eq_getElem_cons hlt, he]
      rfl
    have hz : (bs out).size = out.length := by rw [size_list]; simp [bs]
    refine ⟨Ev.step (fun k => impl_TurnsAfter_l.eq k rl w h cs x y wy _ (n : Int) (i : Int)) (Ev.yes (lt_nat (by omega)) (Ev.bind f3 (Ev.yes hin (Ev.yes (fits_of (by rw [List.length_map]; omega)) (Ev.bind s1 ?_))))), Ev.step (fun k => spec_TurnsAfter_l.eq k ((m + 1 : Nat) : Int) rl w h cs x y wy _) (Ev.yes (decide_eq_true (by omega)) (Ev.bind f4 ?_))⟩
    · rw [w64_succ (by omega), bt_at f2]
      rw [List.map_append] at q1
      exact q1
    · simp only [e1, e2, hcut]
      refine Ev.yes (by rw [decide_eq_true (by omega), decide_eq_true (by omega), decide_eq_true (by omega), decide_eq_true (by omega)]; rfl) (Ev.yes (fitS_of (by rw [hz]; show out.length + 1 < _; omega)) (Ev.bind s2 ?_))
      rw [show w64 (((m + 1 : Nat) : Int) - 1) = (m : Int) by rw [w64_of (by omega) (by omega)]; omega, show bs out ++ bs [signO (rl, w, h, cs, x, y, wy)] = bs (out ++ [signO (rl, w, h, cs, x, y, wy)]) from ba_ext (by rw [append_list]; rfl)]
      exact q2
theorem turns_ev (W : Wo) (hr : W.1.size ≤ 1048576) (hc : W.2.2.2.1.size ≤ 1048576) (n : Int) : (OkO W ∧ (0 ≤ n ∧ n ≤ 3000) → Ev (fun k => impl_TurnsAfter k (W, n)) (bs (turnsO n.toNat W), true) ∧ Ev (fun k => spec_TurnsAfter k (W, n)) (bs (turnsO n.toNat W), true)) ∧
    (¬ (OkO W ∧ (0 ≤ n ∧ n ≤ 3000)) → Ev (fun k => impl_TurnsAfter k (W, n)) (ByteArray.empty, false) ∧ Ev (fun k => spec_TurnsAfter k (W, n)) (ByteArray.empty, false)) := by
  have a := isGoing_ev W hr hc n
  have b := woSteps_ev W hr hc n
  constructor
  · intro H
    have a := a.isT H
    have b := b.isT H
    obtain ⟨q1, q2⟩ := turns_l_ev n.toNat 0 n.toNat W [] H.1 (by omega) (by omega) rfl
    rw [Int.toNat_of_nonneg H.2.1] at q1 q2
    rw [List.nil_append] at q1 q2
    obtain ⟨rl, w, h, cs, x, y, wy⟩ := W
    exact ⟨Ev.step (fun k => impl_TurnsAfter.eq k rl w h cs x y wy n) (Ev.bind a (Ev.no rfl (Ev.bind q1 (Ev.now' (by rw [ofBytes_of]; rfl))))), Ev.step (fun k => spec_TurnsAfter.eq k rl w h cs x y wy n) (Ev.bind b (Ev.no rfl (Ev.bind q2 (Ev.now _))))⟩
  · intro H
    have a := a.isF H
    have b := b.isF H
    obtain ⟨rl, w, h, cs, x, y, wy⟩ := W
    exact ⟨Ev.step (fun k => impl_TurnsAfter.eq k rl w h cs x y wy n) (Ev.bind a (Ev.yes rfl (Ev.now _))), Ev.step (fun k => spec_TurnsAfter.eq k rl w h cs x y wy n) (Ev.bind b (Ev.yes rfl (Ev.now _)))⟩

def wsum : Int → List Int → Int
  | _, [] => 0
  | a, x :: l => a * x + wsum (a + 1) l
def dsum (l : List UInt8) : Int := (l.map fun c => (c.toNat : Int) - 48).sum
theorem sum_set : ∀ (l : List Int) (i : Nat) (x v : Int), l[i]? = some x → (l.set i v).sum = l.sum - x + v
  | [], i, x, v, h => by simp at h
  | y :: l, 0, x, v, h => by
    obtain rfl : y = x := by simpa using h
    simp only [List.set_cons_zero, List.sum_cons]
    omega
  | y :: l, i + 1, x, v, h => by
    have := sum_set l i x v (by simpa using h)
    simp only [List.set_cons_succ, List.sum_cons]
    omega
theorem wsum_set : ∀ (l : List Int) (a : Int) (i : Nat) (x v : Int), l[i]? = some x → wsum a (l.set i v) = wsum a l + (a + (i : Int)) * (v - x)
  | [], a, i, x, v, h => by simp at h
  | y :: l, a, 0, x, v, h => by
    obtain rfl : y = x := by simpa using h
    simp only [List.set_cons_zero, wsum]
    rw [show a + ((0 : Nat) : Int) = a by omega, Int.mul_sub]
    omega
  | y :: l, a, i + 1, x, v, h => by
    have := wsum_set l (a + 1) i x v (by simpa using h)
    simp only [List.set_cons_succ, wsum]
    rw [this, show a + ((i + 1 : Nat) : Int) = a + 1 + (i : Int) by omega]
    omega
theorem wsum_zero : ∀ (n : Nat) (a : Int), wsum a (List.replicate n 0) = 0
  | 0, _ => rfl
  | n + 1, a => by
    rw [List.replicate_succ]
    show a * 0 + wsum (a + 1) (List.replicate n 0) = 0
    rw [wsum_zero n, Int.mul_zero]
    rfl
theorem sum_zero : ∀ n : Nat, (List.replicate n (0 : Int)).sum = 0
  | 0 => rfl
  | n + 1 => by rw [List.replicate_succ, List.sum_cons, sum_zero n]; rfl
theorem dsum_set (l : List UInt8) (i : Nat) (x v : UInt8) (h : l[i]? = some x) : dsum (l.set i v) = dsum l - ((x.toNat : Int) - 48) + ((v.toNat : Int) - 48) := by
  unfold dsum
  rw [List.map_set]
  exact sum_set _ i _ _ (by rw [List.getElem?_map, h]; rfl)
theorem count_l_ev (rl : ByteArray) (w h : Int) (cs : ByteArray) (x y wy : Int) (hr : rl.size ≤ 6) (hz : cs.size ≤ 81) (hcs : CellsOk (rl.size : Int) cs) : ∀ (m i : Nat) (out : List Int), i + m = cs.size → out.length = rl.size → (∀ z ∈ out, 0 ≤ z ∧ z ≤ (i : Int)) →
    ∃ R : List Int, R.length = rl.size ∧ (∀ z ∈ R, 0 ≤ z ∧ z ≤ (cs.size : Int)) ∧ R.sum = out.sum + (m : Int) ∧ wsum 0 R = wsum 0 out + dsum (cs.data.toList.drop i) ∧ Ev (fun k => impl_CountColours_l k (out, bytesOf cs, (cs.size : Int), (i : Int))) R ∧ Ev (fun k => spec_CountColours_l k ((rl, w, h, cs, x, y, wy), out, (i : Int))) R
  | 0, i, out, hi, ho, hb => by
    refine ⟨out, ho, fun z hz' => by have := hb z hz'; omega, by omega, ?_, Ev.step (fun k => impl_CountColours_l.eq k out (bytesOf cs) (cs.size : Int) (i : Int)) (Ev.no (not_lt_nat (by omega)) (Ev.now _)), Ev.step (fun k => spec_CountColours_l.eq k rl w h cs x y wy out (i : Int)) (Ev.no (not_lt_nat (by omega)) (Ev.now _))⟩
    rw [List.drop_eq_nil_of_le (by rw [← size_list]; omega)]
    show _ = _ + (0 : Int)
    omega
  | m + 1, i, out, hi, ho, hb => by
    obtain ⟨c, hc⟩ := byte_at (cs := cs) (i := i) (by omega)
    obtain ⟨c48, cti⟩ := hcs c (List.mem_of_getElem? hc)
    have hclt := c.toNat_lt
    have hbl : (bytesOf cs).length = cs.size := by unfold bytesOf; rw [List.length_map, ← size_list]
    have hbg : (bytesOf cs).getD i default = (c.toNat : Int) := getD_at (by unfold bytesOf; rw [List.getElem?_map, hc]; rfl)
    have e8 : w8 ((c.toNat : Int) - 48) = (c.toNat : Int) - 48 := w8_of (by omega) (by omega)
    obtain ⟨v, hv⟩ := nat_list (l := out) (i := ((c.toNat : Int) - 48).toNat) (by omega)
    have hvb := hb v (List.mem_of_getElem? hv)
    have ev : w64 (out.getD ((c.toNat : Int) - 48).toNat default + 1) = v + 1 := by rw [getD_at hv, w64_of (by omega) (by omega)]
    have hin : inB ((c.toNat : Int) - 48) out.length = true := inB_of (by omega) (by omega)
    obtain ⟨R, r1, r2, r3, r4, r5, r6⟩ := count_l_ev rl w h cs x y wy hr hz hcs m (i + 1) (out.set ((c.toNat : Int) - 48).toNat (v + 1)) (by omega) (by rw [List.length_set]; exact ho) (fun z hz' => by
      rcases List.mem_or_eq_of_mem_set hz' with h | h
      · have := hb z h
        omega
      · omega)
    refine ⟨R, r1, r2, ?_, ?_, ?_, ?_⟩
    · rw [r3, sum_set out _ v (v + 1) hv]
      omega
    · rw [r4, wsum_set out 0 _ v (v + 1) hv]
      obtain ⟨hlt, he⟩ := List.getElem?_eq_some_iff.1 hc
      have : dsum (cs.data.toList.drop i) = ((c.toNat : Int) - 48) + dsum (cs.data.toList.drop (i + 1)) := by
        rw [List.drop_eq_getElem_cons hlt, he]
        unfold dsum
        rw [List.map_cons, List.sum_cons]
      rw [this, show v + 1 - v = 1 by omega, Int.mul_one]
      omega
    · refine Ev.step (fun k => impl_CountColours_l.eq k out (bytesOf cs) (cs.size : Int) (i : Int)) (Ev.yes (lt_nat (by omega)) (Ev.yes (inB_nat (by omega)) ?_))
      rw [Int.toNat_natCast, hbg, e8, ev, w64_succ (by omega)]
      exact Ev.yes hin (Ev.yes hin r5)
    · refine Ev.step (fun k => spec_CountColours_l.eq k rl w h cs x y wy out (i : Int)) (Ev.yes (lt_nat (by omega)) (Ev.yes (inB_nat (by omega)) ?_))
      rw [Int.toNat_natCast, bt_at hc, e8, ev, w64_succ (by omega)]
      exact Ev.yes hin (Ev.yes hin r6)
theorem count_ev : ∀ W : Wo, OkO W → ∃ R : List Int, R.length = W.1.size ∧ (∀ z ∈ R, 0 ≤ z ∧ z ≤ 81) ∧ R.sum = W.2.1 * W.2.2.1 ∧ wsum 0 R = dsum W.2.2.2.1.data.toList ∧ Ev (fun k => impl_CountColours k W) (R, true) ∧ Ev (fun k => spec_CountColours k W) (R, true)
  | (rl, w, h, cs, x, y, wy), H => by
    obtain ⟨z1, z2⟩ := okO_size H
    have a := (isW_ev (rl, w, h, cs, x, y, wy) (by simp only at z1 ⊢; omega) (by simp only at z2 ⊢; omega)).isT H
    have b := (goodW_ev (rl, w, h, cs, x, y, wy)).isT H
    obtain ⟨hR, hw, hh, hs, hcs, hx, hy, hwy⟩ : WorldOk rl w h cs x y wy := H
    simp only at z1 z2
    obtain ⟨R, r1, r2, r3, r4, r5, r6⟩ := count_l_ev rl w h cs x y wy z1 z2 hcs cs.size 0 (List.replicate rl.size 0) (by omega) (by simp) (fun z hz => by rw [List.eq_of_mem_replicate hz]; omega)
    have hbl : (bytesOf cs).length = cs.size := by unfold bytesOf; rw [List.length_map, ← size_list]
    have hg : (((decide ((0 : Int) ≤ (rl.size : Int))) && (decide ((rl.size : Int) ≤ (rl.size : Int)))) && (fits (rl.size : Int).toNat 8)) = true := by
      rw [decide_eq_true (by omega), decide_eq_true (by omega), fits_of (by omega)]
      rfl
    refine ⟨R, r1, fun z hz => by have := r2 z hz; omega, ?_, ?_, ?_, ?_⟩
    · show R.sum = w * h
      rw [r3, sum_zero]
      omega
    · rw [r4, wsum_zero, List.drop_zero, Int.zero_add]
    · refine Ev.step (fun k => impl_CountColours.eq k rl w h cs x y wy) (Ev.bind a (Ev.no rfl (Ev.yes hg ?_)))
      rw [Int.toNat_natCast, hbl]
      exact Ev.bind r5 (Ev.now _)
    · refine Ev.step (fun k => spec_CountColours.eq k rl w h cs x y wy) (Ev.bind b (Ev.no rfl (Ev.yes hg ?_)))
      rw [Int.toNat_natCast]
      exact Ev.bind r6 (Ev.now _)
theorem count_no (W : Wo) (hr : W.1.size ≤ 1048576) (hc : W.2.2.2.1.size ≤ 1048576) (H : ¬ OkO W) : Ev (fun k => impl_CountColours k W) ([], false) ∧ Ev (fun k => spec_CountColours k W) ([], false) := by
  have a := (isW_ev W hr hc).isF H
  have b := (goodW_ev W).isF H
  obtain ⟨rl, w, h, cs, x, y, wy⟩ := W
  exact ⟨Ev.step (fun k => impl_CountColours.eq k rl w h cs x y wy) (Ev.bind a (Ev.yes rfl (Ev.now _))), Ev.step (fun k => spec_CountColours.eq k rl w h cs x y wy) (Ev.bind b (Ev.yes rfl (Ev.now _)))⟩
theorem colourSum_l_ev (R : List Int) (hl : R.length ≤ 6) (hb : ∀ z ∈ R, 0 ≤ z ∧ z ≤ 81) : ∀ (m i : Nat) (s : Int), i + m = R.length → 0 ≤ s ∧ s ≤ 1000 * (i : Int) → Ev (fun k => impl_ColourSum_l k (R, s, (), (R.length : Int), (i : Int))) (R, s + wsum (i : Int) (R.drop i))
  | 0, i, s, hi, hs => by
    rw [List.drop_eq_nil_of_le (by omega)]
    show Ev _ (R, s + 0)
    rw [Int.add_zero]
    exact Ev.step (fun k => impl_ColourSum_l.eq k R s _ (i : Int)) (Ev.no (not_lt_nat (by omega)) (Ev.now _))
  | m + 1, i, s, hi, hs => by
    obtain ⟨z, hz⟩ := nat_list (l := R) (i := i) (by omega)
    have hzb := hb z (List.mem_of_getElem? hz)
    have hmul : 0 ≤ (i : Int) * z ∧ (i : Int) * z ≤ 1000 := by
      have h1 := Int.mul_nonneg (show 0 ≤ (i : Int) by omega) hzb.1
      have h2 := Int.mul_le_mul (show (i : Int) ≤ 6 by omega) hzb.2 hzb.1 (by omega)
      omega
    have e1 : w64 ((i : Int) * z) = (i : Int) * z := w64_of (by omega) (by omega)
    have e2 : w64 (s + (i : Int) * z) = s + (i : Int) * z := w64_of (by omega) (by omega)
    have ih := colourSum_l_ev R hl hb m (i + 1) (s + (i : Int) * z) (by omega) (by omega)
    obtain ⟨hlt, he⟩ := List.getElem?_eq_some_iff.1 hz
    refine Ev.step (fun k => impl_ColourSum_l.eq k R s _ (i : Int)) (Ev.yes (lt_nat (by omega)) (Ev.yes (inB_nat (by omega)) ?_))
    rw [Int.toNat_natCast, getD_at hz, e1, e2, w64_succ (by omega), List.drop_eq_getElem_cons hlt, he]
    show Ev _ (R, s + ((i : Int) * z + wsum ((i : Int) + 1) (R.drop (i + 1))))
    rw [← Int.add_assoc]
    exact ih
theorem dsum_nonneg : ∀ l : List UInt8, (∀ c ∈ l, 48 ≤ c.toNat) → 0 ≤ dsum l
  | [], _ => Int.le_refl _
  | c :: l, h => by
    have h1 := dsum_nonneg l fun d hd => h d (List.mem_cons_of_mem _ hd)
    have h2 := h c (by simp)
    unfold dsum at h1 ⊢
    rw [List.map_cons, List.sum_cons]
    omega
theorem colourSum_ev (W : Wo) (H : OkO W) : Ev (fun k => impl_ColourSum k W) (dsum W.2.2.2.1.data.toList % (W.1.size : Int), true) := by
  obtain ⟨R, r1, r2, r3, r4, r5, r6⟩ := count_ev W H
  obtain ⟨z1, z2⟩ := okO_size H
  have hR := H.1.1
  have hn := dsum_nonneg W.2.2.2.1.data.toList fun c hc => (H.2.2.2.2.1 c hc).1
  have q := colourSum_l_ev R (by omega) r2 R.length 0 0 (by omega) (by omega)
  rw [List.drop_zero, Int.zero_add] at q
  have q : Ev (fun k => impl_ColourSum_l k (R, 0, (), (R.length : Int), 0)) (R, wsum 0 R) := q
  have hne : ((R.length : Int) != 0) = true := by rw [bne_iff_ne]; omega
  have e : (wsum 0 R).tmod (R.length : Int) = dsum W.2.2.2.1.data.toList % (W.1.size : Int) := by rw [r4, r1, Int.tmod_eq_emod_of_nonneg hn]
  obtain ⟨rl, w, h, cs, x, y, wy⟩ := W
  exact Ev.step (fun k => impl_ColourSum.eq k rl w h cs x y wy) (Ev.bind r5 (Ev.no rfl (Ev.bind q (Ev.yes hne (Ev.now' (by rw [e]))))))
/-- The sum behind a step. -/
theorem dsum_step : ∀ W : Wo, OkO W → dsum (stepO W).2.2.2.1.data.toList % (W.1.size : Int) = (dsum W.2.2.2.1.data.toList % (W.1.size : Int) + 1) % (W.1.size : Int)
  | (rl, w, h, cs, x, y, wy), H => by
    obtain ⟨hR, hw, hh, hs, hcs, hx, hy, hwy⟩ : WorldOk rl w h cs x y wy := H
    have hr6 := hR.1
    obtain ⟨c, hc, eqc, c48, cti⟩ := cell_ex hw hh hs hcs hx hy
    have hp := mod_range (colB w cs x y + 1) (k := (rl.size : Int)) (by omega)
    show dsum (putB w cs x y ((colB w cs x y + 1) % (rl.size : Int))).data.toList % (rl.size : Int) = (dsum cs.data.toList % (rl.size : Int) + 1) % (rl.size : Int)
    unfold putB setByte
    rw [List.toList_toArray, dsum_set _ _ c _ hc, toNat_ofNat8 (by omega)]
    rw [show dsum cs.data.toList - ((c.toNat : Int) - 48) + (((48 + (colB w cs x y + 1) % (rl.size : Int)).toNat : Int) - 48) = dsum cs.data.toList - colB w cs x y + (colB w cs x y + 1) % (rl.size : Int) by omega]
    rw [Int.add_emod, Int.emod_emod, ← Int.add_emod, show dsum cs.data.toList - colB w cs x y + (colB w cs x y + 1) = dsum cs.data.toList + 1 by omega, Int.emod_add_emod]
end Go.Proofs.YtmdgodjcfhimbaaGreatDoorS
