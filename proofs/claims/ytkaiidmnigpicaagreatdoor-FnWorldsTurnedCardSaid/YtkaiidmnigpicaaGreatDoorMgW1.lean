/- Several texts in one: PuWo, PuWorldOk, PuGo, PuStep, PuOther, PuBackW, PuCur, PuWorldDraw, PuSym, PuSymB. -/
import Derived.Test.YtkaiidmnigpicaaGreatDoorMgTx
import Derived.Test.YtkaiidmnigpicaaGreatDoorSimZ
import Derived.Test.YtkaiidmnigpicaaGreatDoorPuBase
namespace Go.Proofs.YtkaiidmnigpicaaGreatDoorS
open Go
set_option linter.unusedVariables false
set_option linter.unusedSimpArgs false

abbrev Wo := ByteArray × Int × Int × ByteArray × Int × Int × Int
abbrev Cl := Int × (Int × Int)
def WorldOk (rl : ByteArray) (w h : Int) (cs : ByteArray) (x y wy : Int) : Prop :=
  RuleOk rl ∧ (1 ≤ w ∧ w ≤ 9) ∧ (1 ≤ h ∧ h ≤ 9) ∧ (cs.size : Int) = w * h ∧ CellsOk (rl.size : Int) cs ∧ (0 ≤ x ∧ x ≤ w - 1) ∧ (0 ≤ y ∧ y ≤ h - 1) ∧ (0 ≤ wy ∧ wy ≤ 3)
theorem at64 {x y w h : Int} (hx : 0 ≤ x ∧ x ≤ w - 1) (hy : 0 ≤ y ∧ y ≤ h - 1) (hw : 1 ≤ w ∧ w ≤ 9) (hh : 1 ≤ h ∧ h ≤ 9) : w64 (w64 (y * w) + x) = y * w + x := by
  obtain ⟨a1, a2, a3, a4⟩ := at_range hx hy hw hh
  rw [w64_of (n := y * w) (by omega) (by omega), w64_of (by omega) (by omega)]
theorem go1_in {n m d : Int} (h : 0 ≤ n ∧ n ≤ m - 1) (h1 : -1 ≤ d ∧ d ≤ 1) : 0 ≤ go1 n m d ∧ go1 n m d ≤ m - 1 := by
  have := go1_range (n := n) (m := m) (d := d) h.1 (by omega) h1.1 h1.2
  omega
theorem woPaint_ev (rl : ByteArray) (w h : Int) (cs : ByteArray) (X Y Wy x y p : Int) (hw : 1 ≤ w ∧ w ≤ 9) (hh : 1 ≤ h ∧ h ≤ 9) (hx : 0 ≤ x ∧ x ≤ w - 1) (hy : 0 ≤ y ∧ y ≤ h - 1) (hs : (cs.size : Int) = w * h) (hp : 0 ≤ p ∧ p ≤ 9) :
    Ev (fun k => spec_woPaint k ((rl, w, h, cs, X, Y, Wy), x, y, p)) ((), (rl, w, h, setByte cs (y * w + x).toNat (UInt8.ofNat (48 + p).toNat), X, Y, Wy)) := by
  obtain ⟨a1, a2, a3, a4⟩ := at_range hx hy hw hh
  have e0 := at64 hx hy hw hh
  have e1 : w64 (y * w + x + 1) = y * w + x + 1 := w64_of (by omega) (by omega)
  have hm := mul_range (a := w) (b := h) (by omega) (by omega) (by omega) (by omega)
  refine Ev.step (fun k => spec_woPaint.eq k rl w h cs X Y Wy x y p) ?_
  rw [e0]
  refine Ev.yes (by rw [decide_eq_true (by omega), decide_eq_true (by omega)]; rfl) (Ev.bind (l1Num_ev p hp) ?_)
  rw [e1]
  have z1 : ∀ n : Int, (ofBytes [n]).size = 1 := fun n => rfl
  have z2 : ∀ a b, (cs.extract a b).size ≤ 81 := fun a b => by rw [ByteArray.size_extract]; omega
  have z3 := z2 0 (y * w + x).toNat
  have z4 := z2 (y * w + x + 1).toNat cs.size
  refine Ev.yes (fitS_of (by rw [z1]; omega)) (Ev.yes (by rw [decide_eq_true (by omega), decide_eq_true (by omega)]; rfl) (Ev.yes (fitS_of (by rw [ByteArray.size_append, z1]; omega)) (Ev.now' ?_)))
  rw [show (y * w + x + 1).toNat = (y * w + x).toNat + 1 by omega, setByte_b cs _ _ (by omega)]
theorem woGo_ev (rl : ByteArray) (w h : Int) (cs : ByteArray) (x y way : Int) (hw : 1 ≤ w ∧ w ≤ 9) (hh : 1 ≤ h ∧ h ≤ 9) (hx : 0 ≤ x ∧ x ≤ w - 1) (hy : 0 ≤ y ∧ y ≤ h - 1) (hway : 0 ≤ way ∧ way ≤ 3) :
    Ev (fun k => spec_woGo k ((rl, w, h, cs, x, y, way), 1)) ((), (rl, w, h, cs, go1 x w (1 * dxW way), go1 y h (1 * dyW way), way)) := by
  have e1 : w64 (y - 1) = y + -1 := by rw [w64_of (by omega) (by omega)]; omega
  have e2 : w64 (x + 1) = x + 1 := w64_of (by omega) (by omega)
  have e3 : w64 (y + 1) = y + 1 := w64_of (by omega) (by omega)
  have e4 : w64 (x - 1) = x + -1 := by rw [w64_of (by omega) (by omega)]; omega
  have : way = 0 ∨ way = 1 ∨ way = 2 ∨ way = 3 := by omega
  rcases this with rfl | rfl | rfl | rfl
  · refine Ev.step (fun k => spec_woGo.eq k rl w h cs x y 0 1) (Ev.yes rfl ?_)
    rw [e1]
    refine Ev.bind (l1Mod_ev y h (-1) hy hh (by omega)) (Ev.now' ?_)
    show ((), (rl, w, h, cs, x, go1 y h (-1), (0 : Int))) = ((), (rl, w, h, cs, go1 x w 0, go1 y h (-1), (0 : Int)))
    rw [go1_zero hx]
  · refine Ev.step (fun k => spec_woGo.eq k rl w h cs x y 1 1) (Ev.no rfl (Ev.yes rfl ?_))
    rw [e2]
    refine Ev.bind (l1Mod_ev x w 1 hx hw (by omega)) (Ev.now' ?_)
    show ((), (rl, w, h, cs, go1 x w 1, y, (1 : Int))) = ((), (rl, w, h, cs, go1 x w 1, go1 y h 0, (1 : Int)))
    rw [go1_zero hy]
  · refine Ev.step (fun k => spec_woGo.eq k rl w h cs x y 2 1) (Ev.no rfl (Ev.no rfl (Ev.yes rfl ?_)))
    rw [e3]
    refine Ev.bind (l1Mod_ev y h 1 hy hh (by omega)) (Ev.now' ?_)
    show ((), (rl, w, h, cs, x, go1 y h 1, (2 : Int))) = ((), (rl, w, h, cs, go1 x w 0, go1 y h 1, (2 : Int)))
    rw [go1_zero hx]
  · refine Ev.step (fun k => spec_woGo.eq k rl w h cs x y 3 1) (Ev.no rfl (Ev.no rfl (Ev.no rfl ?_)))
    rw [e4]
    refine Ev.bind (l1Mod_ev x w (-1) hx hw (by omega)) (Ev.now' ?_)
    show ((), (rl, w, h, cs, go1 x w (-1), y, (3 : Int))) = ((), (rl, w, h, cs, go1 x w (-1), go1 y h 0, (3 : Int)))
    rw [go1_zero hy]

section
variable (rl : ByteArray) (w h : Int) (cs : ByteArray) (x y wy : Int)
theorem isWorld_ev (hrl : rl.size ≤ 9223372036854775807) (hc : cs.size ≤ 9223372036854775807) : EvB (fun k => impl_IsWorld k (rl, w, h, cs, x, y, wy)) (WorldOk rl w h cs x y wy) := by
  have H : EvB (fun k => impl_IsWorld k (rl, w, h, cs, x, y, wy)) (RuleOk rl ∧ (((1 ≤ w ∧ w ≤ 9) ∧ (1 ≤ h ∧ h ≤ 9)) ∧ ((CellsOk (rl.size : Int) cs ∧ (cs.size : Int) = w * h) ∧ ((0 ≤ x ∧ x ≤ w - 1) ∧ ((0 ≤ y ∧ y ≤ h - 1) ∧ (0 ≤ wy ∧ wy ≤ 3)))))) := by
    refine EvB.step (fun k => impl_IsWorld.eq k rl w h cs x y wy) (EvB.and (isRuleR_ev rl hrl) fun hR => EvB.and (EvB.step (fun k => impl_isSize.eq k w h) (EvB.and (within_ev w 1 9) fun _ => (within_ev h 1 9).ret)) fun hs => ?_)
    have hm := mul_range (a := w) (b := h) (by omega) (by omega) (by omega) (by omega)
    have h6 := hR.1
    rw [w64_of (n := w * h) (by omega) (by omega)]
    exact EvB.and (areCells_ev (rl.size : Int) (by omega) cs hc (w * h)) fun _ => (isAnt_ev w h x y wy hs.1 hs.2).ret
  exact H.iff ⟨fun q => ⟨q.1, q.2.1.1, q.2.1.2, q.2.2.1.2, q.2.2.1.1, q.2.2.2.1, q.2.2.2.2.1, q.2.2.2.2.2⟩, fun q => ⟨q.1, ⟨q.2.1, q.2.2.1⟩, ⟨q.2.2.2.2.1, q.2.2.2.1⟩, q.2.2.2.2.2.1, q.2.2.2.2.2.2.1, q.2.2.2.2.2.2.2⟩⟩
theorem woGood_ev : EvB (fun k => spec_woGood k (rl, w, h, cs, x, y, wy)) (WorldOk rl w h cs x y wy) := by
  refine EvB.step (fun k => spec_woGood.eq k rl w h cs x y wy) (EvB.and' (woRuleR_ev rl) fun hR => EvB.and' (l1In_ev w 1 9) fun hw => EvB.and' (l1In_ev h 1 9) fun hh => ?_)
  have hm := mul_range (a := w) (b := h) (by omega) (by omega) (by omega) (by omega)
  have h6 := hR.1
  rw [w64_of (n := w * h) (by omega) (by omega)]
  refine EvB.ifN (P := (cs.size : Int) = w * h) (by rw [bne_eq_false_iff_eq]) fun _ => ?_
  have e1 : w64 ((rl.size : Int) - 1) = (rl.size : Int) - 1 := w64_of (by omega) (by omega)
  have step : ∀ (i : Nat) (c : UInt8), cs.data.toList[i]? = some c → ∀ r, Ev (fun k => (spec_l1In k ((c.toNat : Int) - 48, 0, (rl.size : Int) - 1)).bind fun r1 => cond (!r1) (some (.inl false)) (spec_woGood_l k ((rl, w, h, cs, x, y, wy), w64 ((i : Int) + 1)))) r → Ev (fun k => spec_woGood_l k ((rl, w, h, cs, x, y, wy), (i : Int))) r := fun i c hx r H => by
    have hi : i < cs.size := by rw [size_list]; exact (List.getElem?_eq_some_iff.1 hx).1
    exact Ev.step (fun k => spec_woGood_l.eq k rl w h cs x y wy (i : Int)) (Ev.yes (lt_nat hi) (Ev.yes (inB_nat hi) (by rw [Int.toNat_natCast, bt_at hx, num_of, e1]; exact H)))
  have srch := Ev.search (L := fun k i => spec_woGood_l k ((rl, w, h, cs, x, y, wy), i)) (n := cs.size) (fun i => ∃ c, cs.data.toList[i]? = some c ∧ ¬ (48 ≤ c.toNat ∧ (c.toNat : Int) ≤ 47 + (rl.size : Int))) (fun i => .inl false) (.inr (rl, w, h, cs, x, y, wy))
    (fun i hi hp r H => by
      obtain ⟨c, hx⟩ := byte_at hi
      have hr : 48 ≤ c.toNat ∧ (c.toNat : Int) ≤ 47 + (rl.size : Int) := Classical.byContradiction fun hn => hp ⟨c, hx, hn⟩
      exact step i c hx r (Ev.bind ((l1In_ev _ _ _).isT (by omega)) (Ev.no rfl (by rw [w64_succ (by omega)]; exact H))))
    (fun i hi hp => by
      obtain ⟨c, hx, hn⟩ := hp
      exact step i c hx _ (Ev.bind ((l1In_ev _ _ _).isF (by omega)) (Ev.yes rfl (Ev.now _))))
    (Ev.step (fun k => spec_woGood_l.eq k rl w h cs x y wy (cs.size : Int)) (Ev.no (not_lt_nat (Nat.lt_irrefl _)) (Ev.now _))) cs.size 0 (by omega)
  rcases srch with ⟨h1, h2⟩ | ⟨j, _, hj, ⟨c, hx, hn⟩, _, h2⟩
  · have hcs : CellsOk (rl.size : Int) cs := fun c hm => by
      obtain ⟨i, hi⟩ := List.mem_iff_getElem?.1 hm
      exact Classical.byContradiction fun hn => h1 i (Nat.zero_le _) (by rw [size_list]; exact (List.getElem?_eq_some_iff.1 hi).1) ⟨c, hi, hn⟩
    have rest : EvB (fun k => (spec_l1In k (x, 0, w64 (w - 1))).bind fun r7 => cond r7 ((spec_l1In k (y, 0, w64 (h - 1))).bind fun r8 => cond r8 ((spec_l1In k (wy, 0, 3)).bind fun r9 => some r9) (some false)) (some false)) ((0 ≤ x ∧ x ≤ w - 1) ∧ (0 ≤ y ∧ y ≤ h - 1) ∧ (0 ≤ wy ∧ wy ≤ 3)) := by
      rw [w64_of (n := w - 1) (by omega) (by omega), w64_of (n := h - 1) (by omega) (by omega)]
      exact EvB.and (l1In_ev _ _ _) fun _ => EvB.and (l1In_ev _ _ _) fun _ => (l1In_ev _ _ _).ret
    obtain ⟨b, q1, q2⟩ := rest
    exact ⟨b, Ev.bind h2 q1, q2.trans ⟨fun q => ⟨hcs, q⟩, fun q => q.2⟩⟩
  · exact ⟨false, Ev.bind h2 (Ev.now _), ⟨nofun, fun h => absurd (h.1 c (List.mem_of_getElem? hx)) hn⟩⟩
end

theorem go1_inv {n m M : Int} (hn : 0 ≤ n ∧ n ≤ M - 1) (hm : 0 ≤ m ∧ m ≤ M - 1) : (go1 n M (-1) = m ↔ n = go1 m M 1) ∧ (go1 n M 1 = m ↔ n = go1 m M (-1)) := by
  unfold go1
  constructor <;> split <;> first | omega | (split <;> first | omega | (split <;> first | omega | (split <;> omega)))
theorem back_go {n M d : Int} (h : 0 ≤ n ∧ n ≤ M - 1) (hd : d = 1 ∨ d = -1 ∨ d = 0) : go1 (go1 n M d) M (-d) = n := by
  have g1 := go1_in (d := 1) h (by omega)
  have g2 := go1_in (d := -1) h (by omega)
  rcases hd with rfl | rfl | rfl
  · exact ((go1_inv g1 h).1).2 rfl
  · exact ((go1_inv g2 h).2).2 rfl
  · rw [Int.neg_zero, go1_zero h, go1_zero h]
theorem dW_cases (wy : Int) : (dxW wy = 1 ∨ dxW wy = -1 ∨ dxW wy = 0) ∧ (dyW wy = 1 ∨ dyW wy = -1 ∨ dyW wy = 0) := by
  unfold dxW dyW
  constructor <;> split <;> first | omega | (split <;> omega)
theorem bt_set {s : ByteArray} {k : Nat} (j : Nat) (hk : k < s.size) (c : UInt8) : bt (setByte s k c) j = if j = k then (c.toNat : Int) else bt s j := by
  unfold bt setByte
  show ((((s.data.toList.set k c).toArray).getD j 0).toNat : Int) = _
  rw [Array.getD_eq_getD_getElem?, Array.getD_eq_getD_getElem?, List.getElem?_toArray, List.getElem?_set, ← Array.getElem?_toList]
  rw [size_list] at hk
  by_cases h : j = k
  · subst h
    have hk' : j < s.size := by rw [size_list]; exact hk
    simp [hk, hk']
  · rw [if_neg (fun e => h e.symm), if_neg h]
theorem set_twice {s : ByteArray} {k : Nat} {c d : UInt8} (h : s.data.toList[k]? = some d) : setByte (setByte s k c) k d = s := by
  apply ba_ext
  unfold setByte
  show ((s.data.toList.set k c).set k d) = s.data.toList
  rw [List.set_set]
  obtain ⟨h1, h2⟩ := List.getElem?_eq_some_iff.1 h
  rw [← h2, List.set_getElem_self]
theorem of_digit {c : UInt8} (h : 48 ≤ c.toNat) : UInt8.ofNat ((48 : Int) + ((c.toNat : Int) - 48)).toNat = c := by
  rw [show ((48 : Int) + ((c.toNat : Int) - 48)).toNat = c.toNat by omega]
  simp
theorem ba_beq (s : ByteArray) : (s == s) = true := by
  obtain ⟨d⟩ := s
  show (d == d) = true
  simp
theorem same7 (W : Wo) : (!((W.1 == W.1) && ((W.2.1 == W.2.1) && ((W.2.2.1 == W.2.2.1) && ((W.2.2.2.1 == W.2.2.2.1) && ((W.2.2.2.2.1 == W.2.2.2.2.1) && ((W.2.2.2.2.2.1 == W.2.2.2.2.2.1) && ((W.2.2.2.2.2.2 == W.2.2.2.2.2.2) && true)))))))) = false := by simp [ba_beq]
theorem sameB (b : Bool) : (!(b == b)) = false := by cases b <;> rfl
theorem sameS (s : ByteArray) : (!(strEq s s)) = false := by rw [strEq_self]; rfl
theorem good8 {x : Int} (h : (Sh.int IntKind.u8).good x) : 0 ≤ x ∧ x ≤ 255 := by
  have h : (Lit.int .u8 x).wf = true := h
  simp [Lit.wf, IntKind.min, IntKind.max, IntKind.bits, IntKind.signed] at h
  omega
theorem l1Mod_gen (n m : Int) (hm : 1 ≤ m ∧ m ≤ 1000000) (hn : -1000000000 ≤ n ∧ n ≤ 1000000000) : Ev (fun k => spec_l1Mod k (n, m)) (n % m) := by
  have h1 := Int.tmod_lt_of_pos n (show (0 : Int) < m by omega)
  have h2 : -m < n.tmod m := by
    by_cases h0 : 0 ≤ n
    · have := Int.tmod_nonneg m h0
      omega
    · have e : n.tmod m = -((-n).tmod m) := by rw [Int.neg_tmod, Int.neg_neg]
      have := Int.tmod_lt_of_pos (-n) (show (0 : Int) < m by omega)
      omega
  have e1 : w64 (n.tmod m + m) = n.tmod m + m := w64_of (by omega) (by omega)
  refine Ev.step (fun k => spec_l1Mod.eq k n m) (Ev.yes (by rw [bne_iff_ne]; omega) (Ev.yes (by rw [bne_iff_ne]; omega) (Ev.now' ?_)))
  rw [e1, Int.tmod_eq_emod_of_nonneg (by omega), Int.add_emod_right, Int.tmod_def, Int.sub_mul_emod_self_left]

def OkO (W : Wo) : Prop := WorldOk W.1 W.2.1 W.2.2.1 W.2.2.2.1 W.2.2.2.2.1 W.2.2.2.2.2.1 W.2.2.2.2.2.2
abbrev zeroO : Wo := (ByteArray.empty, 0, 0, ByteArray.empty, 0, 0, 0)
def colB (w : Int) (cs : ByteArray) (x y : Int) : Int := bt cs (y * w + x).toNat - 48
def putB (w : Int) (cs : ByteArray) (x y p : Int) : ByteArray := setByte cs (y * w + x).toNat (UInt8.ofNat (48 + p).toNat)
def wayB (rl : ByteArray) (c wy : Int) : Int := (wy + quartersB (bt rl c.toNat)) % 4
def stepO : Wo → Wo
  | (rl, w, h, cs, x, y, wy) => (rl, w, h, putB w cs x y ((colB w cs x y + 1) % (rl.size : Int)), go1 x w (1 * dxW (wayB rl (colB w cs x y) wy)), go1 y h (1 * dyW (wayB rl (colB w cs x y) wy)), wayB rl (colB w cs x y) wy)
def preX (w x wy : Int) : Int := go1 x w (-1 * dxW wy)
def preY (h y wy : Int) : Int := go1 y h (-1 * dyW wy)
def preC (rl : ByteArray) (w h : Int) (cs : ByteArray) (x y wy : Int) : Int := (colB w cs (preX w x wy) (preY h y wy) - 1) % (rl.size : Int)
def backO : Wo → Wo
  | (rl, w, h, cs, x, y, wy) => (rl, w, h, putB w cs (preX w x wy) (preY h y wy) (preC rl w h cs x y wy), preX w x wy, preY h y wy, (wy - quartersB (bt rl (preC rl w h cs x y wy).toNat)) % 4)
section
variable {rl : ByteArray} {w h : Int} {cs : ByteArray} {x y wy : Int}
theorem cell_ex (hw : 1 ≤ w ∧ w ≤ 9) (hh : 1 ≤ h ∧ h ≤ 9) (hs : (cs.size : Int) = w * h) (hcs : CellsOk (rl.size : Int) cs) (hx : 0 ≤ x ∧ x ≤ w - 1) (hy : 0 ≤ y ∧ y ≤ h - 1) : ∃ c : UInt8, cs.data.toList[(y * w + x).toNat]? = some c ∧ colB w cs x y = (c.toNat : Int) - 48 ∧ 48 ≤ c.toNat ∧ (c.toNat : Int) ≤ 47 + (rl.size : Int) := by
  obtain ⟨a1, a2, a3, a4⟩ := at_range hx hy hw hh
  obtain ⟨c, hc⟩ := byte_at (cs := cs) (i := (y * w + x).toNat) (by omega)
  obtain ⟨c48, cti⟩ := hcs c (List.mem_of_getElem? hc)
  exact ⟨c, hc, by unfold colB; rw [bt_at hc], c48, cti⟩
theorem put_same (hw : 1 ≤ w ∧ w ≤ 9) (hh : 1 ≤ h ∧ h ≤ 9) (hs : (cs.size : Int) = w * h) (hcs : CellsOk (rl.size : Int) cs) (hx : 0 ≤ x ∧ x ≤ w - 1) (hy : 0 ≤ y ∧ y ≤ h - 1) (p : Int) (hp : 0 ≤ p ∧ p ≤ 9) : colB w (putB w cs x y p) x y = p ∧ putB w (putB w cs x y p) x y (colB w cs x y) = cs := by
  obtain ⟨c, hc, e, c48, _⟩ := cell_ex hw hh hs hcs hx hy
  obtain ⟨a1, a2, a3, a4⟩ := at_range hx hy hw hh
  constructor
  · unfold colB putB
    rw [bt_set _ (by omega), if_pos rfl, toNat_ofNat8 (by omega)]
    omega
  · unfold putB
    rw [e, of_digit c48]
    exact set_twice hc
end
theorem put_put (w : Int) (cs : ByteArray) (x y p q : Int) : putB w (putB w cs x y p) x y q = putB w cs x y q := by
  apply ba_ext
  unfold putB setByte
  show ((cs.data.toList.set _ _).set _ _) = cs.data.toList.set _ _
  rw [List.set_set]
theorem okO_step : ∀ W : Wo, OkO W → OkO (stepO W)
  | (rl, w, h, cs, x, y, wy), H => by
    obtain ⟨hR, hw, hh, hs, hcs, hx, hy, hwy⟩ : WorldOk rl w h cs x y wy := H
    obtain ⟨hr6, hsg⟩ := id hR
    have hwz : 0 ≤ wayB rl (colB w cs x y) wy ∧ wayB rl (colB w cs x y) wy ≤ 3 := by unfold wayB; omega
    have hP : 0 ≤ (colB w cs x y + 1) % (rl.size : Int) ∧ (colB w cs x y + 1) % (rl.size : Int) ≤ (rl.size : Int) - 1 := by
      have p1 := Int.emod_nonneg (colB w cs x y + 1) (show (rl.size : Int) ≠ 0 by omega)
      have p2 := Int.emod_lt_of_pos (colB w cs x y + 1) (show (0 : Int) < (rl.size : Int) by omega)
      omega
    show WorldOk rl w h (putB w cs x y ((colB w cs x y + 1) % (rl.size : Int))) (go1 x w (1 * dxW (wayB rl (colB w cs x y) wy))) (go1 y h (1 * dyW (wayB rl (colB w cs x y) wy))) (wayB rl (colB w cs x y) wy)
    generalize wayB rl (colB w cs x y) wy = wz at hwz
    generalize (colB w cs x y + 1) % (rl.size : Int) = p at hP
    obtain ⟨⟨d1, d2⟩, d3, d4⟩ := dW_range wz
    unfold putB
    exact ⟨hR, hw, hh, by rw [setByte_size]; exact hs, cells_set hcs _ hP (by omega), go1_in hx (by omega), go1_in hy (by omega), hwz⟩
theorem stepI_ev : ∀ W : Wo, OkO W → Ev (fun k => impl_World_step k W) (stepO W)
  | (rl, w, h, cs, x, y, wy), H => by
    obtain ⟨hR, hw, hh, hs, hcs, hx, hy, hwy⟩ : WorldOk rl w h cs x y wy := H
    obtain ⟨hr6, hsg⟩ := id hR
    obtain ⟨a1, a2, a3, a4⟩ := at_range hx hy hw hh
    obtain ⟨c, hc, eqc, c48, cti⟩ := cell_ex hw hh hs hcs hx hy
    have hclt := c.toNat_lt
    obtain ⟨b, hb⟩ := byte_at (cs := rl) (i := ((c.toNat : Int) - 48).toNat) (by omega)
    have hbt : bt rl ((c.toNat : Int) - 48).toNat = (b.toNat : Int) := bt_at hb
    have eA := at64 hx hy hw hh
    obtain ⟨q0, q3⟩ := quartersB_range (b.toNat : Int)
    have eW : (w64 (wy + quartersB (b.toNat : Int))).tmod 4 = wayB rl (colB w cs x y) wy := by
      unfold wayB
      rw [eqc, hbt, w64_of (by omega) (by omega), Int.tmod_eq_emod_of_nonneg (by omega)]
    have hwz : 0 ≤ wayB rl (colB w cs x y) wy ∧ wayB rl (colB w cs x y) wy ≤ 3 := by unfold wayB; omega
    have hl0 : (0 : Int) < (rl.size : Int) := by omega
    have eP : (w64 ((c.toNat : Int) - 48 + 1)).tmod (rl.size : Int) = (colB w cs x y + 1) % (rl.size : Int) := by rw [eqc, w64_of (by omega) (by omega), Int.tmod_eq_emod_of_nonneg (by omega)]
    have hP : 0 ≤ (colB w cs x y + 1) % (rl.size : Int) ∧ (colB w cs x y + 1) % (rl.size : Int) ≤ (rl.size : Int) - 1 := by
      have p1 := Int.emod_nonneg (colB w cs x y + 1) (show (rl.size : Int) ≠ 0 by omega)
      have p2 := Int.emod_lt_of_pos (colB w cs x y + 1) hl0
      omega
    show Ev (fun k => impl_World_step k (rl, w, h, cs, x, y, wy)) (rl, w, h, putB w cs x y ((colB w cs x y + 1) % (rl.size : Int)), go1 x w (1 * dxW (wayB rl (colB w cs x y) wy)), go1 y h (1 * dyW (wayB rl (colB w cs x y) wy)), wayB rl (colB w cs x y) wy)
    generalize wayB rl (colB w cs x y) wy = wz at eW hwz
    generalize (colB w cs x y + 1) % (rl.size : Int) = p at eP hP
    have hinC : inB ((c.toNat : Int) - 48) rl.size = true := inB_of (by omega) (by omega)
    have hne : ((rl.size : Int) != 0) = true := by rw [bne_iff_ne]; omega
    unfold putB
    refine Ev.step (fun k => impl_World_step.eq k rl w h cs x y wy) (Ev.bind (colour_ev _ w h cs x y wy hw hh hx hy hs hc c48) (Ev.yes hinC ?_))
    rw [hbt]
    refine Ev.bind (quarters_ev _) ?_
    simp only [eW, eP]
    exact Ev.bind (Ev.step (fun k => impl_World_at.eq k rl w h cs x y wz) (Ev.now' eA)) (Ev.yes hne (Ev.bind (painted_ev cs _ p ⟨a3, by omega⟩ (by omega)) (Ev.bind (gone_ev _ w h _ x y wz 1 hw hh hx hy hwz (.inl rfl)) (Ev.now _))))
theorem pred_succ {c k : Int} (h : 0 ≤ c ∧ c ≤ k - 1) : ((c + 1) % k - 1) % k = c ∧ ((c - 1) % k + 1) % k = c := by
  constructor
  · rw [Int.sub_emod, Int.emod_emod, ← Int.sub_emod, show c + 1 - 1 = c by omega, Int.emod_eq_of_lt h.1 (by omega)]
  · rw [Int.add_emod, Int.emod_emod, ← Int.add_emod, show c - 1 + 1 = c by omega, Int.emod_eq_of_lt h.1 (by omega)]
theorem mod_range (c : Int) {k : Int} (hk : 1 ≤ k) : 0 ≤ c % k ∧ c % k ≤ k - 1 := by
  have p1 := Int.emod_nonneg c (show k ≠ 0 by omega)
  have p2 := Int.emod_lt_of_pos c (show 0 < k by omega)
  omega
theorem pre_in {n M d : Int} (h : 0 ≤ n ∧ n ≤ M - 1) (hd : d = 1 ∨ d = -1 ∨ d = 0) : 0 ≤ go1 n M (-1 * d) ∧ go1 n M (-1 * d) ≤ M - 1 := go1_in h (by omega)
theorem back_ok : ∀ W : Wo, OkO W → OkO (backO W)
  | (rl, w, h, cs, x, y, wy), H => by
    obtain ⟨hR, hw, hh, hs, hcs, hx, hy, hwy⟩ : WorldOk rl w h cs x y wy := H
    obtain ⟨d1, d2⟩ := dW_cases wy
    have hr6 := hR.1
    have hp := mod_range (colB w cs (preX w x wy) (preY h y wy) - 1) (k := (rl.size : Int)) (by omega)
    refine ⟨hR, hw, hh, ?_, cells_set hcs _ hp (by omega), pre_in hx d1, pre_in hy d2, ?_⟩
    · show ((setByte cs _ _).size : Int) = _
      rw [setByte_size]
      exact hs
    · show 0 ≤ (wy - _) % 4 ∧ (wy - _) % 4 ≤ 3
      omega
theorem back_step : ∀ W : Wo, OkO W → backO (stepO W) = W
  | (rl, w, h, cs, x, y, wy), H => by
    obtain ⟨hR, hw, hh, hs, hcs, hx, hy, hwy⟩ : WorldOk rl w h cs x y wy := H
    have hr6 := hR.1
    obtain ⟨c, hc, eqc, c48, cti⟩ := cell_ex hw hh hs hcs hx hy
    have hp := mod_range (colB w cs x y + 1) (k := (rl.size : Int)) (by omega)
    obtain ⟨p1, p2⟩ := put_same hw hh hs hcs hx hy ((colB w cs x y + 1) % (rl.size : Int)) (by omega)
    obtain ⟨d1, d2⟩ := dW_cases (wayB rl (colB w cs x y) wy)
    have ps := (pred_succ (c := colB w cs x y) (k := (rl.size : Int)) (by omega)).1
    have ex : preX w (go1 x w (1 * dxW (wayB rl (colB w cs x y) wy))) (wayB rl (colB w cs x y) wy) = x := by
      unfold preX
      rw [Int.one_mul, show -1 * dxW (wayB rl (colB w cs x y) wy) = -(dxW (wayB rl (colB w cs x y) wy)) by omega]
      exact back_go hx d1
    have ey : preY h (go1 y h (1 * dyW (wayB rl (colB w cs x y) wy))) (wayB rl (colB w cs x y) wy) = y := by
      unfold preY
      rw [Int.one_mul, show -1 * dyW (wayB rl (colB w cs x y) wy) = -(dyW (wayB rl (colB w cs x y) wy)) by omega]
      exact back_go hy d2
    show (rl, w, h, putB w _ _ _ _, _, _, _) = (rl, w, h, cs, x, y, wy)
    simp only [preC, ex, ey, p1, ps, p2]
    have : (wayB rl (colB w cs x y) wy - quartersB (bt rl (colB w cs x y).toNat)) % 4 = wy := by unfold wayB; omega
    rw [this]
theorem step_back : ∀ W : Wo, OkO W → stepO (backO W) = W
  | (rl, w, h, cs, x, y, wy), H => by
    obtain ⟨hR, hw, hh, hs, hcs, hx, hy, hwy⟩ : WorldOk rl w h cs x y wy := H
    have hr6 := hR.1
    obtain ⟨d1, d2⟩ := dW_cases wy
    have hx0 := pre_in hx d1
    have hy0 := pre_in hy d2
    obtain ⟨c, hc, eqc, c48, cti⟩ := cell_ex hw hh hs hcs hx0 hy0
    have hp := mod_range (colB w cs (preX w x wy) (preY h y wy) - 1) (k := (rl.size : Int)) (by omega)
    obtain ⟨p1, p2⟩ := put_same hw hh hs hcs hx0 hy0 (preC rl w h cs x y wy) (by unfold preC; omega)
    have p1 : colB w (putB w cs (preX w x wy) (preY h y wy) (preC rl w h cs x y wy)) (preX w x wy) (preY h y wy) = preC rl w h cs x y wy := p1
    have p2 : putB w (putB w cs (preX w x wy) (preY h y wy) (preC rl w h cs x y wy)) (preX w x wy) (preY h y wy) (colB w cs (preX w x wy) (preY h y wy)) = cs := p2
    have eqc : colB w cs (preX w x wy) (preY h y wy) = (c.toNat : Int) - 48 := eqc
    have ps := (pred_succ (c := colB w cs (preX w x wy) (preY h y wy)) (k := (rl.size : Int)) (by omega)).2
    have ew : wayB rl (preC rl w h cs x y wy) ((wy - quartersB (bt rl (preC rl w h cs x y wy).toNat)) % 4) = wy := by unfold wayB; omega
    have ex : go1 (preX w x wy) w (1 * dxW wy) = x := by
      unfold preX
      have := back_go (d := -1 * dxW wy) hx (by omega)
      rwa [show -(-1 * dxW wy) = 1 * dxW wy by omega] at this
    have ey : go1 (preY h y wy) h (1 * dyW wy) = y := by
      unfold preY
      have := back_go (d := -1 * dyW wy) hy (by omega)
      rwa [show -(-1 * dyW wy) = 1 * dyW wy by omega] at this
    show (rl, w, h, putB w _ _ _ _, _, _, _) = (rl, w, h, cs, x, y, wy)
    have ps' : (preC rl w h cs x y wy + 1) % (rl.size : Int) = colB w cs (preX w x wy) (preY h y wy) := ps
    rw [p1, ew, ps', p2, ex, ey]
/-! ### Many steps -/
def runO : Nat → Wo → Wo
  | 0, W => W
  | n + 1, W => runO n (stepO W)
def unrunO : Nat → Wo → Wo
  | 0, W => W
  | n + 1, W => unrunO n (backO W)
theorem step_ok (W : Wo) (H : OkO W) : OkO (stepO W) := okO_step W H
theorem run_ok : ∀ (n : Nat) (W : Wo), OkO W → OkO (runO n W)
  | 0, W, H => H
  | n + 1, W, H => run_ok n (stepO W) (step_ok W H)
theorem unrun_ok : ∀ (n : Nat) (W : Wo), OkO W → OkO (unrunO n W)
  | 0, W, H => H
  | n + 1, W, H => unrun_ok n (backO W) (back_ok W H)
theorem run_succ : ∀ (n : Nat) (W : Wo), runO (n + 1) W = stepO (runO n W)
  | 0, W => rfl
  | n + 1, W => run_succ n (stepO W)
theorem unrun_run : ∀ (n : Nat) (W : Wo), OkO W → unrunO n (runO n W) = W
  | 0, W, H => rfl
  | n + 1, W, H => by
    rw [run_succ]
    show unrunO n (backO (stepO (runO n W))) = W
    rw [back_step _ (run_ok n W H)]
    exact unrun_run n W H
theorem run_unrun : ∀ (n : Nat) (W : Wo), OkO W → runO n (unrunO n W) = W
  | 0, W, H => rfl
  | n + 1, W, H => by
    rw [run_succ]
    show stepO (runO n (unrunO n (backO W))) = W
    rw [run_unrun n (backO W) (back_ok W H)]
    exact step_back W H
theorem okO_size {W : Wo} (H : OkO W) : W.1.size ≤ 6 ∧ W.2.2.2.1.size ≤ 81 := by
  obtain ⟨hR, hw, hh, hs, _⟩ := H
  have hr6 := hR.1
  have hm := mul_range (a := W.2.1) (b := W.2.2.1) (by omega) (by omega) (by omega) (by omega)
  omega
theorem goodW_ev (W : Wo) : EvB (fun k => spec_woGood k W) (OkO W) := woGood_ev W.1 W.2.1 W.2.2.1 W.2.2.2.1 W.2.2.2.2.1 W.2.2.2.2.2.1 W.2.2.2.2.2.2
section
variable (W : Wo) (hr : W.1.size ≤ 1048576) (hc : W.2.2.2.1.size ≤ 1048576)
include hr hc
theorem isW_ev : EvB (fun k => impl_IsWorld k W) (OkO W) := isWorld_ev W.1 W.2.1 W.2.2.1 W.2.2.2.1 W.2.2.2.2.1 W.2.2.2.2.2.1 W.2.2.2.2.2.2 (by omega) (by omega)
theorem isGoing_ev (n : Int) : EvB (fun k => impl_isGoing k (W, n)) (OkO W ∧ (0 ≤ n ∧ n ≤ 3000)) := by
  have a := isW_ev W hr hc
  obtain ⟨rl, w, h, cs, x, y, wy⟩ := W
  exact EvB.step (fun k => impl_isGoing.eq k rl w h cs x y wy n) (EvB.and a fun _ => (within_ev n 0 3000).ret)
end
/-! ### The signs of the turns -/
def signO (W : Wo) : UInt8 := W.1.data.toList.getD (colB W.2.1 W.2.2.2.1 W.2.2.2.2.1 W.2.2.2.2.2.1).toNat 0
def turnsO : Nat → Wo → List UInt8
  | 0, _ => []
  | n + 1, W => signO W :: turnsO n (stepO W)
theorem turns_len : ∀ (n : Nat) (W : Wo), (turnsO n W).length = n
  | 0, _ => rfl
  | n + 1, W => by
    show (turnsO n (stepO W)).length + 1 = n + 1
    rw [turns_len n]

def othC (c : UInt8) : UInt8 := if c = 76 then 82 else if c = 82 then 76 else c
def oth (s : ByteArray) : ByteArray := swapS (swp (76 : UInt8).toNat (82 : UInt8).toNat) s
theorem othC_eq (c : UInt8) : UInt8.ofNat (swp (76 : UInt8).toNat (82 : UInt8).toNat c.toNat) = othC c := by
  unfold othC swp swU
  by_cases h1 : c = 76
  · subst h1
    rfl
  · by_cases h2 : c = 82
    · subst h2
      rfl
    · rw [if_neg (fun e => h1 (UInt8.toNat_inj.1 e)), if_neg (fun e => h2 (UInt8.toNat_inj.1 e)), if_neg h1, if_neg h2]
      simp
theorem othC_othC (c : UInt8) : othC (othC c) = c := by
  unfold othC
  by_cases h1 : c = 76
  · subst h1
    rfl
  · by_cases h2 : c = 82
    · subst h2
      rfl
    · rw [if_neg h1, if_neg h2, if_neg h1, if_neg h2]
theorem oth_list (s : ByteArray) : (oth s).data.toList = s.data.toList.map othC := by
  show (s.data.toList.map fun c => UInt8.ofNat (swp (76 : UInt8).toNat (82 : UInt8).toNat c.toNat)).toArray.toList = _
  rw [List.toList_toArray]
  exact List.map_congr_left fun c _ => othC_eq c
theorem oth_size (s : ByteArray) : (oth s).size = s.size := by
  rw [size_list, size_list, oth_list, List.length_map]
theorem oth_oth (s : ByteArray) : oth (oth s) = s := by
  apply ba_ext
  rw [oth_list, oth_list, List.map_map]
  conv => rhs; rw [← List.map_id s.data.toList]
  exact List.map_congr_left fun c _ => othC_othC c
theorem signC_oth {c : UInt8} (h : SignC c) : SignC (othC c) := by
  unfold othC
  by_cases h1 : c = 76
  · subst h1
    simp [SignC]
  · by_cases h2 : c = 82
    · subst h2
      simp [SignC]
    · rw [if_neg h1, if_neg h2]
      exact h
theorem ruleOk_oth {s : ByteArray} (h : RuleOk s) : RuleOk (oth s) := by
  refine ⟨by rw [oth_size]; exact h.1, fun c hc => ?_⟩
  rw [oth_list] at hc
  obtain ⟨d, hd, rfl⟩ := List.mem_map.1 hc
  exact signC_oth (h.2 d hd)
theorem other_ev (s : ByteArray) (h : s.size ≤ 1048576) : Ev (fun k => impl_other k s) (oth s) :=
  Ev.step (fun k => (impl_other.eq k s).trans (show otherB 76 82 s = some (oth s) from if_pos (by omega))) (Ev.now _)
theorem otherWay_ev (wy : Int) (h : 0 ≤ wy ∧ wy ≤ 3) : Ev (fun k => impl_otherWay k wy) ((4 - wy) % 4) := Ev.step (fun k => impl_otherWay.eq k wy) (Ev.now' (by rw [w64_of (by omega) (by omega), Int.tmod_eq_emod_of_nonneg (by omega)]))
theorem cut_one {cs : ByteArray} {i : Nat} {c : UInt8} (h : cs.data.toList[i]? = some c) : cs.extract i (i + 1) = bs [c] := by
  apply ba_ext
  obtain ⟨hlt, he⟩ := List.getElem?_eq_some_iff.1 h
  rw [extract_list, List.drop_take, show i + 1 - i = 1 by omega, List.drop_eq_getElem_cons hlt, he]
  rfl
theorem woOther_l_ev (s : ByteArray) (hs : s.size ≤ 1048576) : ∀ (m i : Nat), i + m = s.size → Ev (fun k => spec_woOther_l k (s, bs ((s.data.toList.take i).map othC), (i : Int))) (oth s)
  | 0, i, hi => Ev.step (fun k => spec_woOther_l.eq k s _ i) (Ev.no (not_lt_nat (by omega)) (Ev.now' (by
      apply ba_ext
      rw [oth_list, List.take_of_length_le (by rw [← size_list]; omega)]
      rfl)))
  | m + 1, i, hi => by
    obtain ⟨c, hc⟩ := byte_at (cs := s) (i := i) (by omega)
    have ih := woOther_l_ev s hs m (i + 1) (by omega)
    have hz : (bs ((s.data.toList.take i).map othC)).size = i := by
      rw [size_list]
      simp only [bs, List.toList_toArray, List.length_map, List.length_take]
      rw [← size_list]
      omega
    have e1 : w64 ((i : Int) + 1) = ((i + 1 : Nat) : Int) := w64_succ (by omega)
    have ef : ∀ d : UInt8, fitS (bs ((s.data.toList.take i).map othC)) (bs [d]) = true := fun d => fitS_of (by rw [hz]; show i + 1 < _; omega)
    have ea : ∀ d : UInt8, d = othC c → bs ((s.data.toList.take i).map othC) ++ bs [d] = bs ((s.data.toList.take (i + 1)).map othC) := fun d hd => by
      apply ba_ext
      rw [append_list, List.take_add_one, hc, List.map_append]
      subst hd
      rfl
    refine Ev.step (fun k => spec_woOther_l.eq k s _ i) (Ev.yes (lt_nat (by omega)) (Ev.yes (inB_nat (by omega)) ?_))
    rw [Int.toNat_natCast, bt_at hc, e1]
    by_cases h1 : c = 76
    · refine Ev.yes (by rw [h1]; rfl) (Ev.yes (ef 82) ?_)
      rw [ea 82 (by rw [h1]; rfl)]
      exact ih
    · have n1 : ((c.toNat : Int) == 76) = false := by
        rw [beq_eq_false_iff_ne]
        intro e
        exact h1 (UInt8.toNat_inj.1 (by show c.toNat = 76; omega))
      refine Ev.no n1 ?_
      by_cases h2 : c = 82
      · refine Ev.yes (by rw [h2]; rfl) (Ev.yes (ef 76) ?_)
        rw [ea 76 (by rw [h2]; rfl)]
        exact ih
      · have n2 : ((c.toNat : Int) == 82) = false := by
          rw [beq_eq_false_iff_ne]
          intro e
          exact h2 (UInt8.toNat_inj.1 (by show c.toNat = 82; omega))
        rw [Int.toNat_natCast, cut_one hc]
        refine Ev.no n2 (Ev.yes (by rw [decide_eq_true (by omega), decide_eq_true (by omega), decide_eq_true (by omega), decide_eq_true (by omega)]; rfl) (Ev.yes (ef c) ?_))
        rw [ea c (by unfold othC; rw [if_neg h1, if_neg h2])]
        exact ih
theorem woOther_ev (s : ByteArray) (hs : s.size ≤ 1048576) : Ev (fun k => spec_woOther k s) (oth s) := Ev.step (fun k => spec_woOther.eq k s) (Ev.bind (woOther_l_ev s hs s.size 0 (by omega)) (Ev.now _))

def ng (k z : Int) : Int := (k - z) % k
def negC (k : Int) (c : UInt8) : UInt8 := UInt8.ofNat (48 + ng k ((c.toNat : Int) - 48)).toNat
def negS (k : Int) (cs : ByteArray) : ByteArray := bs (cs.data.toList.map (negC k))
def revR (rl : ByteArray) : ByteArray := bs (oth rl).data.toList.reverse
def revO : Wo → Wo
  | (rl, w, h, cs, x, y, wy) => (revR rl, w, h, negS (rl.size : Int) cs, go1 x w (1 * dxW ((wy + 2) % 4)), go1 y h (1 * dyW ((wy + 2) % 4)), (wy + 2) % 4)
theorem bs_list (l : List UInt8) : (bs l).data.toList = l := rfl
theorem bs_size (l : List UInt8) : (bs l).size = l.length := rfl
theorem revR_size (rl : ByteArray) : (revR rl).size = rl.size := by
  unfold revR
  rw [bs_size, List.length_reverse, ← size_list, oth_size]
theorem negS_size (k : Int) (cs : ByteArray) : (negS k cs).size = cs.size := by
  unfold negS
  rw [bs_size, List.length_map, ← size_list]
theorem ng_range (z : Int) {k : Int} (hk : 1 ≤ k) : 0 ≤ ng k z ∧ ng k z ≤ k - 1 := mod_range _ hk
theorem negC_nat {k : Int} (hk : 1 ≤ k ∧ k ≤ 6) (c : UInt8) : ((negC k c).toNat : Int) = 48 + ng k ((c.toNat : Int) - 48) := by
  have := ng_range ((c.toNat : Int) - 48) hk.1
  unfold negC
  rw [toNat_ofNat8 (by omega)]
  omega
theorem negS_put {k : Int} (hk : 1 ≤ k ∧ k ≤ 6) (w : Int) (cs : ByteArray) (x y p : Int) (hp : 0 ≤ p ∧ p ≤ 9) : negS k (putB w cs x y p) = putB w (negS k cs) x y (ng k p) := by
  apply ba_ext
  unfold negS putB setByte
  rw [bs_list, bs_list, List.toList_toArray, List.toList_toArray, List.map_set]
  congr 1
  have e : ((UInt8.ofNat (48 + p).toNat).toNat : Int) - 48 = p := by
    rw [toNat_ofNat8 (by omega)]
    omega
  unfold negC
  rw [e]
theorem negS_col {k w h : Int} (hk : 1 ≤ k ∧ k ≤ 6) {cs : ByteArray} {x y : Int} (hw : 1 ≤ w ∧ w ≤ 9) (hh : 1 ≤ h ∧ h ≤ 9) (hs : (cs.size : Int) = w * h) (hx : 0 ≤ x ∧ x ≤ w - 1) (hy : 0 ≤ y ∧ y ≤ h - 1) : colB w (negS k cs) x y = ng k (colB w cs x y) := by
  obtain ⟨a1, a2, a3, a4⟩ := at_range hx hy hw hh
  obtain ⟨c, hc⟩ := byte_at (cs := cs) (i := (y * w + x).toNat) (by omega)
  unfold colB
  have h2 : (negS k cs).data.toList[(y * w + x).toNat]? = some (negC k c) := by
    unfold negS
    rw [bs_list, List.getElem?_map, hc]
    rfl
  rw [bt_at hc, bt_at h2, negC_nat hk]
  omega
theorem negS_ok {k : Int} (hk : 1 ≤ k ∧ k ≤ 6) (cs : ByteArray) : CellsOk k (negS k cs) := fun b hb => by
  unfold negS at hb
  rw [bs_list] at hb
  obtain ⟨c, _, rfl⟩ := List.mem_map.1 hb
  have h1 := negC_nat hk c
  have h2 := ng_range ((c.toNat : Int) - 48) hk.1
  omega
theorem revR_ok {rl : ByteArray} (h : RuleOk rl) : RuleOk (revR rl) := by
  refine ⟨by rw [revR_size]; exact h.1, fun c hc => ?_⟩
  unfold revR at hc
  rw [bs_list] at hc
  exact (ruleOk_oth h).2 c (List.mem_reverse.1 hc)
theorem rev_ok : ∀ W : Wo, OkO W → OkO (revO W)
  | (rl, w, h, cs, x, y, wy), H => by
    obtain ⟨hR, hw, hh, hs, hcs, hx, hy, hwy⟩ : WorldOk rl w h cs x y wy := H
    have hr6 := hR.1
    obtain ⟨⟨d1, d2⟩, d3, d4⟩ := dW_range ((wy + 2) % 4)
    refine ⟨revR_ok hR, hw, hh, ?_, ?_, go1_in hx (by omega), go1_in hy (by omega), ?_⟩
    · show ((negS _ cs).size : Int) = w * h
      rw [negS_size]
      exact hs
    · show CellsOk ((revR rl).size : Int) (negS (rl.size : Int) cs)
      rw [revR_size]
      exact negS_ok (by omega) cs
    · show 0 ≤ (wy + 2) % 4 ∧ (wy + 2) % 4 ≤ 3
      omega
theorem quarters_oth {c : UInt8} (h : SignC c) : quartersB ((othC c).toNat : Int) = (4 - quartersB (c.toNat : Int)) % 4 := by
  rcases h with rfl | rfl | rfl | rfl <;> decide
theorem dW_op {wy : Int} (h : 0 ≤ wy ∧ wy ≤ 3) : dxW ((wy + 2) % 4) = -dxW wy ∧ dyW ((wy + 2) % 4) = -dyW wy := by
  have : wy = 0 ∨ wy = 1 ∨ wy = 2 ∨ wy = 3 := by omega
  rcases this with rfl | rfl | rfl | rfl <;> decide
/-- What leads back from behind a step comes before it. -/
theorem rev_step : ∀ W : Wo, OkO W → stepO (revO (stepO W)) = revO W
  | (rl, w, h, cs, x, y, wy), H => by
    obtain ⟨hR, hw, hh, hs, hcs, hx, hy, hwy⟩ : WorldOk rl w h cs x y wy := H
    have hr6 := hR.1
    have hk : (1 : Int) ≤ (rl.size : Int) ∧ (rl.size : Int) ≤ 6 := by omega
    obtain ⟨c, hc, eqc, c48, cti⟩ := cell_ex hw hh hs hcs hx hy
    obtain ⟨v, ev⟩ : ∃ v, colB w cs x y = v := ⟨_, rfl⟩
    have hv : 0 ≤ v ∧ v ≤ (rl.size : Int) - 1 := by omega
    have hp := mod_range (v + 1) hk.1
    obtain ⟨s, hs'⟩ := byte_at (cs := rl) (i := v.toNat) (by omega)
    have hsg := hR.2 s (List.mem_of_getElem? hs')
    have eq : bt rl v.toNat = (s.toNat : Int) := bt_at hs'
    obtain ⟨q0, q3⟩ := quartersB_range (s.toNat : Int)
    obtain ⟨wz, ewz⟩ : ∃ wz, wayB rl v wy = wz := ⟨_, rfl⟩
    have hwz : wz = (wy + quartersB (s.toNat : Int)) % 4 := by rw [← ewz]; unfold wayB; rw [eq]
    have hwz3 : 0 ≤ wz ∧ wz ≤ 3 := by omega
    obtain ⟨o1, o2⟩ := dW_op hwz3
    obtain ⟨d1, d2⟩ := dW_cases wz
    have ex : go1 (go1 x w (1 * dxW wz)) w (1 * dxW ((wz + 2) % 4)) = x := by
      rw [o1, Int.one_mul, Int.one_mul]
      exact back_go hx d1
    have ey : go1 (go1 y h (1 * dyW wz)) h (1 * dyW ((wz + 2) % 4)) = y := by
      rw [o2, Int.one_mul, Int.one_mul]
      exact back_go hy d2
    have hN : negS (rl.size : Int) (putB w cs x y ((v + 1) % (rl.size : Int))) = putB w (negS (rl.size : Int) cs) x y (ng (rl.size : Int) ((v + 1) % (rl.size : Int))) := negS_put hk w cs x y _ (by omega)
    have hns : ((negS (rl.size : Int) cs).size : Int) = w * h := by rw [negS_size]; exact hs
    have hnc : CellsOk ((revR rl).size : Int) (negS (rl.size : Int) cs) := by rw [revR_size]; exact negS_ok hk cs
    obtain ⟨c1, ec1⟩ : ∃ c1, ng (rl.size : Int) ((v + 1) % (rl.size : Int)) = c1 := ⟨_, rfl⟩
    have hc1 := ng_range ((v + 1) % (rl.size : Int)) hk.1
    rw [ec1] at hc1 hN
    -- where the colour lies: the reverse's sign, and the colour behind
    have key : (c1 + v = (rl.size : Int) - 1) ∧ (c1 + 1) % (rl.size : Int) = ng (rl.size : Int) v := by
      rw [← ec1]
      unfold ng
      by_cases hl : v + 1 = (rl.size : Int)
      · rw [hl, Int.emod_self, Int.sub_zero, Int.emod_self, show (rl.size : Int) - v = 1 by omega]
        exact ⟨by omega, by rw [Int.zero_add]⟩
      · rw [Int.emod_eq_of_lt (show 0 ≤ v + 1 by omega) (by omega), Int.emod_eq_of_lt (show 0 ≤ (rl.size : Int) - (v + 1) by omega) (by omega), show (rl.size : Int) - (v + 1) + 1 = (rl.size : Int) - v by omega]
        exact ⟨by omega, rfl⟩
    have hsign : bt (revR rl) c1.toNat = ((othC s).toNat : Int) := by
      apply bt_at
      unfold revR
      have hlen : (oth rl).data.toList.length = rl.size := by rw [← size_list, oth_size]
      rw [bs_list, List.getElem?_reverse (by omega), hlen, show rl.size - 1 - c1.toNat = v.toNat by omega, oth_list, List.getElem?_map, hs']
      rfl
    obtain ⟨p1, p2⟩ := put_same (rl := revR rl) hw hh hns hnc hx hy c1 (by omega)
    have hcol : colB w (negS (rl.size : Int) cs) x y = ng (rl.size : Int) v := by rw [negS_col hk hw hh hs hx hy, ev]
    have ew : wayB (revR rl) c1 ((wz + 2) % 4) = (wy + 2) % 4 := by
      unfold wayB
      rw [hsign, quarters_oth hsg]
      omega
    show stepO (revR rl, w, h, negS (rl.size : Int) (putB w cs x y ((colB w cs x y + 1) % (rl.size : Int))), go1 (go1 x w (1 * dxW (wayB rl (colB w cs x y) wy))) w (1 * dxW ((wayB rl (colB w cs x y) wy + 2) % 4)), go1 (go1 y h (1 * dyW (wayB rl (colB w cs x y) wy))) h (1 * dyW ((wayB rl (colB w cs x y) wy + 2) % 4)), (wayB rl (colB w cs x y) wy + 2) % 4) = _
    rw [ev, ewz, ex, ey, hN]
    show (revR rl, w, h, putB w (putB w (negS (rl.size : Int) cs) x y c1) x y ((colB w (putB w (negS (rl.size : Int) cs) x y c1) x y + 1) % ((revR rl).size : Int)), _, _, _) = (revR rl, w, h, negS (rl.size : Int) cs, _, _, _)
    rw [p1, revR_size, key.2, ew, ← hcol, p2]
theorem rev_l_ev : ∀ (n : Nat) (A M B : List Int), M.length = n → A.length + n + B.length ≤ 1000 → Ev (fun k => slices_Reverse_l k (A ++ M ++ B, (A.length : Int), (A.length : Int) + (n : Int) - 1, ())) (A ++ M.reverse ++ B)
  | 0, A, M, B, hM, hl => by
    obtain rfl := List.length_eq_zero_iff.1 hM
    exact Ev.step (fun k => slices_Reverse_l.eq k _ _ _) (Ev.no (decide_eq_false (by omega)) (Ev.now _))
  | 1, A, M, B, hM, hl => by
    match M, hM with
    | [z], _ => exact Ev.step (fun k => slices_Reverse_l.eq k _ _ _) (Ev.no (decide_eq_false (by omega)) (Ev.now _))
  | n + 2, A, M, B, hM, hl => by
    match M, hM with
    | z :: T, hM =>
      have hT : T ≠ [] := by intro e; rw [e] at hM; simp at hM
      obtain ⟨M', y, rfl⟩ : ∃ M' y, T = M' ++ [y] := ⟨T.dropLast, T.getLast hT, (List.dropLast_concat_getLast hT).symm⟩
      have hM' : M'.length = n := by simp at hM; omega
      have ih := rev_l_ev n (A ++ [y]) M' (z :: B) hM' (by simp; omega)
      have e0 : A ++ (z :: (M' ++ [y])) ++ B = A ++ (z :: (M' ++ (y :: B))) := by simp
      have gi : (A ++ (z :: (M' ++ (y :: B)))).getD A.length default = z := getD_at (by simp)
      have gj : (A ++ (z :: (M' ++ (y :: B)))).getD (A.length + n + 1) default = y := getD_at (by
        rw [List.getElem?_append_right (by omega), show A.length + n + 1 - A.length = n + 1 by omega, List.getElem?_cons_succ, List.getElem?_append_right (by omega), hM', Nat.sub_self]
        rfl)
      have s1 : ((A ++ (z :: (M' ++ (y :: B)))).set A.length y).set (A.length + n + 1) z = (A ++ [y]) ++ M' ++ (z :: B) := by
        rw [List.set_append_right _ _ (Nat.le_refl _), Nat.sub_self, List.set_cons_zero, List.set_append_right _ _ (by omega), show A.length + n + 1 - A.length = n + 1 by omega, List.set_cons_succ, List.set_append_right _ _ (by omega), hM', Nat.sub_self, List.set_cons_zero]
        simp
      have hlen : (A ++ (z :: (M' ++ (y :: B)))).length = A.length + n + 2 + B.length := by simp; omega
      have j1 : ((A.length : Int) + ((n + 2 : Nat) : Int) - 1) = ((A.length + n + 1 : Nat) : Int) := by omega
      have er : (z :: (M' ++ [y])).reverse = y :: M'.reverse ++ [z] := by simp
      rw [e0, j1, er]
      refine Ev.step (fun k => slices_Reverse_l.eq k _ _ _) (Ev.yes (decide_eq_true (by omega)) (Ev.yes (inB_nat (by rw [hlen]; omega)) (Ev.yes (inB_nat (by rw [hlen]; omega)) (Ev.yes (inB_nat (by rw [hlen]; omega)) (Ev.yes (inB_nat (by rw [List.length_set, hlen]; omega)) ?_)))))
      rw [Int.toNat_natCast, Int.toNat_natCast, gi, gj, s1, w64_succ (by omega), show w64 (((A.length + n + 1 : Nat) : Int) - 1) = ((A ++ [y]).length : Int) + (n : Int) - 1 by rw [w64_of (by omega) (by omega)]; simp; omega, show A.length + 1 = (A ++ [y]).length by simp]
      have e2 : A ++ (y :: M'.reverse ++ [z]) ++ B = (A ++ [y]) ++ M'.reverse ++ (z :: B) := by simp
      rw [e2]
      exact ih
theorem reverse_ev (l : List Int) (hl : l.length ≤ 1000) : Ev (fun k => slices_Reverse k l) ((), l.reverse) := by
  have q := rev_l_ev l.length [] l [] rfl (by simp; omega)
  rw [List.nil_append, List.append_nil, List.nil_append, List.append_nil] at q
  have e : w64 ((l.length : Int) - 1) = (([] : List Int).length : Int) + (l.length : Int) - 1 := by rw [w64_of (by omega) (by omega)]; simp
  refine Ev.step (fun k => slices_Reverse.eq k l) ?_
  rw [e]
  exact Ev.bind q (Ev.now _)
theorem backW_l_ev (W : Wo) (rule : List Int) (hr : 1 ≤ rule.length ∧ rule.length ≤ 6) : ∀ (M : List UInt8) (A : List Int) (n : Nat), A.length + M.length = n → n ≤ 1000 → (∀ c ∈ M, 48 ≤ c.toNat ∧ (c.toNat : Int) ≤ 47 + (rule.length : Int)) →
    Ev (fun k => impl_BackWorld_l k (W, zeroO, rule, A ++ M.map (fun c => (c.toNat : Int)), (), (n : Int), (A.length : Int))) (W, zeroO, rule, A ++ M.map (fun c => ((negC (rule.length : Int) c).toNat : Int)))
  | [], A, n, hn, h1, hM => by
    obtain ⟨rl, w, h, cs, x, y, wy⟩ := W
    exact Ev.step (fun k => impl_BackWorld_l.eq k rl w h cs x y wy ByteArray.empty 0 0 ByteArray.empty 0 0 0 rule _ (n : Int) (A.length : Int)) (Ev.no (not_lt_nat (by simp at hn; omega)) (Ev.now _))
  | c :: M, A, n, hn, h1, hM => by
    obtain ⟨c48, cti⟩ := hM c (by simp)
    have hk : (1 : Int) ≤ (rule.length : Int) ∧ (rule.length : Int) ≤ 6 := by omega
    have ih := backW_l_ev W rule hr M (A ++ [((negC (rule.length : Int) c).toNat : Int)]) n (by simp at hn ⊢; omega) h1 (fun d hd => hM d (List.mem_cons_of_mem _ hd))
    have hlen : (A ++ (c :: M).map (fun c => (c.toNat : Int))).length = n := by simp at hn ⊢; omega
    have hA : A.length < n := by simp at hn; omega
    have hg : (A ++ (c :: M).map (fun c => (c.toNat : Int))).getD A.length default = (c.toNat : Int) := getD_at (by simp)
    have hclt := c.toNat_lt
    have e1 : w64 (w8 ((c.toNat : Int) - 48)) = (c.toNat : Int) - 48 := by rw [w8_of (by omega) (by omega), w64_of (by omega) (by omega)]
    have hng := ng_range ((c.toNat : Int) - 48) hk.1
    have e2 : (w64 ((rule.length : Int) - ((c.toNat : Int) - 48))).tmod (rule.length : Int) = ng (rule.length : Int) ((c.toNat : Int) - 48) := by
      rw [w64_of (by omega) (by omega), Int.tmod_eq_emod_of_nonneg (by omega)]
      rfl
    have e3 : w8 (w64 (48 + ng (rule.length : Int) ((c.toNat : Int) - 48))) = ((negC (rule.length : Int) c).toNat : Int) := by
      rw [w64_of (by omega) (by omega), w8_of (by omega) (by omega), negC_nat hk]
    have hne : ((rule.length : Int) != 0) = true := by rw [bne_iff_ne]; omega
    have hset : (A ++ (c :: M).map (fun c => (c.toNat : Int))).set A.length ((negC (rule.length : Int) c).toNat : Int) = (A ++ [((negC (rule.length : Int) c).toNat : Int)]) ++ M.map (fun c => (c.toNat : Int)) := by
      rw [List.map_cons, List.set_append_right _ _ (Nat.le_refl _), Nat.sub_self, List.set_cons_zero]
      simp
    have hres : A ++ (c :: M).map (fun c => ((negC (rule.length : Int) c).toNat : Int)) = (A ++ [((negC (rule.length : Int) c).toNat : Int)]) ++ M.map (fun c => ((negC (rule.length : Int) c).toNat : Int)) := by simp
    have hsz : w64 ((A.length : Int) + 1) = ((A ++ [((negC (rule.length : Int) c).toNat : Int)]).length : Int) := by rw [w64_of (by omega) (by omega)]; simp
    rw [hres]
    obtain ⟨rl, w, h, cs, x, y, wy⟩ := W
    refine Ev.step (fun k => impl_BackWorld_l.eq k rl w h cs x y wy ByteArray.empty 0 0 ByteArray.empty 0 0 0 rule _ (n : Int) (A.length : Int)) (Ev.yes (lt_nat hA) (Ev.yes (inB_nat (by omega)) (Ev.yes hne (Ev.yes (inB_nat (by omega)) ?_))))
    rw [Int.toNat_natCast, hg, e1, e2, e3, hset, hsz]
    exact ih
theorem backWorld_ev : ∀ W : Wo, OkO W → Ev (fun k => impl_BackWorld k W) (revO W, true)
  | (rl, w, h, cs, x, y, wy), H => by
    obtain ⟨z1, z2⟩ := okO_size H
    have a := (isW_ev (rl, w, h, cs, x, y, wy) (by simp only at z1 ⊢; omega) (by simp only at z2 ⊢; omega)).isT H
    obtain ⟨hR, hw, hh, hs, hcs, hx, hy, hwy⟩ : WorldOk rl w h cs x y wy := H
    have hr6 := hR.1
    simp only at z1 z2
    have hrl : (bytesOf (oth rl)).reverse.length = rl.size := by
      rw [List.length_reverse]
      unfold bytesOf
      rw [List.length_map, ← size_list, oth_size]
    have hrev := reverse_ev (bytesOf (oth rl)) (by rw [← List.length_reverse, hrl]; omega)
    have hbl : (bytesOf cs).length = cs.size := by unfold bytesOf; rw [List.length_map, ← size_list]
    have q := backW_l_ev (rl, w, h, cs, x, y, wy) (bytesOf (oth rl)).reverse (by rw [hrl]; omega) cs.data.toList [] cs.size (by rw [size_list]; simp) (by omega) (fun c hc => by rw [hrl]; exact hcs c hc)
    rw [List.nil_append, List.nil_append, hrl] at q
    have hwz : 0 ≤ (wy + 2) % 4 ∧ (wy + 2) % 4 ≤ 3 := by omega
    have eW : (w64 (wy + 2)).tmod 4 = (wy + 2) % 4 := by rw [w64_of (by omega) (by omega), Int.tmod_eq_emod_of_nonneg (by omega)]
    have o1 : ofBytes (bytesOf (oth rl)).reverse = revR rl := by
      unfold bytesOf
      rw [← List.map_reverse, ofBytes_of]
      rfl
    have o2 : ofBytes (cs.data.toList.map (fun c => ((negC (rl.size : Int) c).toNat : Int))) = negS (rl.size : Int) cs := by
      rw [show cs.data.toList.map (fun c => ((negC (rl.size : Int) c).toNat : Int)) = (cs.data.toList.map (negC (rl.size : Int))).map (fun c => (c.toNat : Int)) by rw [List.map_map]; rfl, ofBytes_of]
      rfl
    have hg := gone_ev (revR rl) w h (negS (rl.size : Int) cs) x y ((wy + 2) % 4) 1 hw hh hx hy hwz (.inl rfl)
    refine Ev.step (fun k => impl_BackWorld.eq k rl w h cs x y wy) (Ev.bind a (Ev.no rfl (Ev.bind (other_ev rl (by omega)) (Ev.bind hrev ?_))))
    rw [hbl]
    refine Ev.bind q ?_
    dsimp only
    rw [o1, o2, eW]
    exact Ev.bind hg (Ev.now _)

abbrev CurT : Type := List Int × Int × Int
def CurOk (n : Nat) (c : CurT) : Prop := (∀ x ∈ c.1, 0 ≤ x ∧ x ≤ 255) ∧ (0 ≤ c.2.1 ∧ c.2.1 ≤ n) ∧ n ≤ 1099511627776
theorem CurOk.start {code : List Int} (h : ∀ x ∈ code, 0 ≤ x ∧ x ≤ 255) : CurOk 0 (code, 0, 0) := ⟨h, ⟨by show (0 : Int) ≤ 0; omega, by show (0 : Int) ≤ ((0 : Nat) : Int); omega⟩, by omega⟩
theorem and255 (x : Int) : 0 ≤ w64 (andI .u64 x 255) ∧ w64 (andI .u64 x 255) ≤ 255 := by
  have h : andI .u64 x 255 = ((BitVec.ofInt 64 x &&& BitVec.ofInt 64 255).toNat : Int) % 18446744073709551616 := by
    unfold andI
    simp only [IntKind.wrap, IntKind.bits, IntKind.signed]
    rfl
  have h2 : (BitVec.ofInt 64 x &&& BitVec.ofInt 64 255).toNat ≤ 255 := by
    rw [BitVec.toNat_and]
    exact Nat.and_le_right
  rw [h, Int.emod_eq_of_lt (by omega) (by omega), w64_of (by omega) (by omega)]
  omega
theorem next_ev (n : Nat) (c : CurT) (H : CurOk n c) (hn : n + 10 ≤ 1099511627776) : ∃ b c', Ev (fun k => spec_l1Cur_next k c) (b, c') ∧ (0 ≤ b ∧ b ≤ 255) ∧ CurOk (n + 1) c' := by
  obtain ⟨code, at_, seed⟩ := c
  obtain ⟨h1, ⟨h2, h3⟩, h4⟩ := H
  simp only at h1 h2 h3
  have e1 : w64 (at_ + 1) = at_ + 1 := w64_of (by omega) (by omega)
  have ok : ∀ z : Int, CurOk (n + 1) (code, w64 (at_ + 1), z) := fun z => ⟨h1, ⟨by show 0 ≤ w64 (at_ + 1); omega, by show w64 (at_ + 1) ≤ ((n + 1 : Nat) : Int); omega⟩, by omega⟩
  by_cases c1 : at_ < (code.length : Int)
  · have hi : inB at_ code.length = true := inB_of h2 c1
    obtain ⟨x, hx⟩ := nat_list (l := code) (i := at_.toNat) (by omega)
    have hg : code.getD at_.toNat default = x := getD_at hx
    obtain ⟨x0, x1⟩ := h1 x (List.mem_of_getElem? hx)
    exact ⟨w64 (code.getD at_.toNat default), _, Ev.step (fun k => spec_l1Cur_next.eq k code at_ seed) (Ev.yes (decide_eq_true c1) (Ev.yes hi (Ev.yes (decide_eq_true (by omega)) (Ev.now _)))), by rw [hg, w64_of (by omega) (by omega)]; exact ⟨x0, x1⟩, ok _⟩
  · exact ⟨_, _, Ev.step (fun k => spec_l1Cur_next.eq k code at_ seed) (Ev.no (decide_eq_false c1) (Ev.no (decide_eq_false (by omega)) (Ev.now _))), and255 _, ok _⟩
section
variable (n : Nat) (c : CurT) (H : CurOk n c) (hn : n + 40 ≤ 1099511627776)
include H hn
theorem pick_ev (m : Int) : ∃ r c', Ev (fun k => spec_l1Cur_pick k (c, m)) (r, c') ∧ 0 ≤ r ∧ (1 ≤ m → r < m) ∧ CurOk (n + 2) c' := by
  obtain ⟨b, c1, e1, ⟨b0, b1⟩, H1⟩ := next_ev n c H (by omega)
  obtain ⟨d, c2, e2, ⟨d0, d1⟩, H2⟩ := next_ev (n + 1) c1 H1 (by omega)
  obtain ⟨code, at_, seed⟩ := c
  have ok1 : ∀ {c : CurT}, CurOk (n + 1) c → CurOk (n + 2) c := fun ⟨h1, ⟨h2, h3⟩, h4⟩ => ⟨h1, ⟨h2, by omega⟩, by omega⟩
  by_cases c1' : m ≤ 1
  · exact ⟨0, _, Ev.step (fun k => spec_l1Cur_pick.eq k code at_ seed m) (Ev.yes (decide_eq_true c1') (Ev.now _)), by omega, fun _ => by omega, by obtain ⟨h1, ⟨h2, h3⟩, h4⟩ := H; exact ⟨h1, ⟨h2, by omega⟩, by omega⟩⟩
  · have hne : (m != 0) = true := by rw [bne_iff_ne]; omega
    by_cases c2' : m > 200
    · have e3 : w64 (w64 (b * 256) + d) = b * 256 + d := by rw [w64_of (n := b * 256) (by omega) (by omega), w64_of (by omega) (by omega)]
      refine ⟨_, c2, Ev.step (fun k => spec_l1Cur_pick.eq k code at_ seed m) (Ev.no (decide_eq_false c1') (Ev.bind e1 (Ev.yes (decide_eq_true c2') (Ev.bind e2 (Ev.yes hne (Ev.now _)))))), ?_, fun _ => ?_, H2⟩
      · show 0 ≤ (w64 (w64 (b * 256) + d)).tmod m
        rw [e3]
        exact Int.tmod_nonneg _ (by omega)
      · exact Int.tmod_lt_of_pos _ (by omega)
    · refine ⟨_, c1, Ev.step (fun k => spec_l1Cur_pick.eq k code at_ seed m) (Ev.no (decide_eq_false c1') (Ev.bind e1 (Ev.no (decide_eq_false c2') (Ev.yes hne (Ev.now _))))), ?_, fun _ => ?_, ok1 H1⟩
      · exact Int.tmod_nonneg _ b0
      · exact Int.tmod_lt_of_pos _ (by omega)
theorem one_ev (m : Int) : ∃ b c', Ev (fun k => spec_l1Cur_one k (c, m)) (b, c') ∧ CurOk (n + 2) c' := by
  obtain ⟨r, c', e, _, _, h⟩ := pick_ev n c H hn m
  obtain ⟨code, at_, seed⟩ := c
  exact ⟨_, c', Ev.step (fun k => spec_l1Cur_one.eq k code at_ seed m) (Ev.bind e (Ev.now _)), h⟩
theorem of_ev (l : List ByteArray) (hl : 1 ≤ l.length) : ∃ s c', Ev (fun k => spec_l1Cur_of k (c, l)) (s, c') ∧ s ∈ l ∧ CurOk (n + 2) c' := by
  obtain ⟨r, c', e, r0, r1, h⟩ := pick_ev n c H hn (l.length : Int)
  have r1 := r1 (by omega)
  obtain ⟨code, at_, seed⟩ := c
  obtain ⟨x, hx⟩ := nat_list (l := l) (i := r.toNat) (by omega)
  exact ⟨_, c', Ev.step (fun k => spec_l1Cur_of.eq k code at_ seed l) (Ev.bind e (Ev.yes (inB_of r0 r1) (Ev.now _))), by show l.getD r.toNat default ∈ l; rw [getD_at hx]; exact List.mem_of_getElem? hx, h⟩
theorem among_ev (l : List Int) (hl : 1 ≤ l.length) : ∃ s c', Ev (fun k => spec_l1Cur_among k (c, l)) (s, c') ∧ s ∈ l ∧ CurOk (n + 2) c' := by
  obtain ⟨r, c', e, r0, r1, h⟩ := pick_ev n c H hn (l.length : Int)
  have r1 := r1 (by omega)
  obtain ⟨code, at_, seed⟩ := c
  obtain ⟨x, hx⟩ := nat_list (l := l) (i := r.toNat) (by omega)
  exact ⟨_, c', Ev.step (fun k => spec_l1Cur_among.eq k code at_ seed l) (Ev.bind e (Ev.yes (inB_of r0 r1) (Ev.now _))), by show l.getD r.toNat default ∈ l; rw [getD_at hx]; exact List.mem_of_getElem? hx, h⟩
end
theorem spoilt_l_ev (wt : ByteArray) (hw : 1 ≤ wt.size) : ∀ (m n : Nat) (c : CurT) (t : ByteArray), CurOk n c → n + 6 * m + 40 ≤ 1099511627776 → t.size + m ≤ 1099511627776 → ∃ t' c', Ev (fun k => spec_l1Cur_spoilt_l k (c, t, wt, (m : Int), ())) (t', c') ∧ t'.size ≤ t.size + m ∧ CurOk (n + 6 * m) c'
  | 0, n, c, t, H, hn, ht => by
    obtain ⟨code, at_, seed⟩ := c
    exact ⟨t, _, Ev.step (fun k => spec_l1Cur_spoilt_l.eq k code at_ seed t wt 0) (Ev.no rfl (Ev.now _)), by omega, H⟩
  | m + 1, n, c, t, H, hn, ht => by
    have em : w64 (((m + 1 : Nat) : Int) - 1) = (m : Int) := by rw [w64_of (by omega) (by omega)]; omega
    have hpos : decide (((m + 1 : Nat) : Int) > 0) = true := decide_eq_true (by omega)
    obtain ⟨r, c1, e1, r0, r1, H1⟩ := pick_ev n c H (by omega) (t.size : Int)
    obtain ⟨s, c2, e2, s0, s1, H2⟩ := pick_ev _ c1 H1 (by omega) (wt.size : Int)
    obtain ⟨q, c3, e3, q0, q1, H3⟩ := pick_ev _ c2 H2 (by omega) 3
    have ih := fun t' h => spoilt_l_ev wt hw m (n + 6) c3 t' H3 (by omega) h
    have s1 := s1 (by omega)
    obtain ⟨code, at_, seed⟩ := c
    by_cases hz : (t.size : Int) > 0
    · have r1 := r1 (by omega)
      have i1 : inB s wt.size = true := inB_of s0 s1
      have a1 : ((decide ((0 : Int) ≤ r)) && (decide (r ≤ (t.size : Int)))) = true := by rw [decide_eq_true r0, decide_eq_true (by omega)]; rfl
      have er : w64 (r + 1) = r + 1 := w64_of (by omega) (by omega)
      have a2 : ((decide ((0 : Int) ≤ w64 (r + 1))) && (decide (w64 (r + 1) ≤ (t.size : Int)))) = true := by rw [er, decide_eq_true (by omega), decide_eq_true (by omega)]; rfl
      have z1 : ∀ n : Int, (ofBytes [n]).size = 1 := fun n => rfl
      have x1 : (t.extract 0 r.toNat).size = r.toNat := by rw [ByteArray.size_extract]; omega
      have x2 : (t.extract r.toNat t.size).size = t.size - r.toNat := by rw [ByteArray.size_extract]; omega
      have x3 : (t.extract (w64 (r + 1)).toNat t.size).size = t.size - (r.toNat + 1) := by rw [er, ByteArray.size_extract]; omega
      have f1 : ∀ z, fitS (t.extract 0 r.toNat) (ofBytes [z]) = true := fun z => fitS_of (by rw [z1, x1]; omega)
      by_cases q00 : q = 0
      · obtain ⟨t', c', g1, g2, g3⟩ := ih (((t.extract 0 r.toNat) ++ (ofBytes [(bt wt s.toNat)])) ++ (t.extract r.toNat t.size)) (by rw [ByteArray.size_append, ByteArray.size_append, x1, x2, z1]; omega)
        rw [ByteArray.size_append, ByteArray.size_append, x1, x2, z1] at g2
        refine ⟨t', c', Ev.step (fun k => spec_l1Cur_spoilt_l.eq k code at_ seed t wt ((m + 1 : Nat) : Int)) (Ev.yes hpos (Ev.yes (decide_eq_true hz) (Ev.bind e1 (Ev.bind e2 (Ev.yes i1 (Ev.bind e3 (Ev.yes (beq_iff_eq.2 q00) (Ev.yes a1 (Ev.yes (f1 _) (Ev.yes a1 (Ev.yes (fitS_of ?_) ?_))))))))))), by omega, by rw [show n + 6 * (m + 1) = n + 6 + 6 * m by omega]; exact g3⟩
        · show (_ ++ _ : ByteArray).size + _ < _
          rw [ByteArray.size_append, x1, x2, z1]
          omega
        · rw [em]
          exact g1
      · have qn : (q == 0) = false := beq_eq_false_iff_ne.2 q00
        by_cases q11 : q = 1
        · obtain ⟨t', c', g1, g2, g3⟩ := ih (((t.extract 0 r.toNat) ++ (ofBytes [(bt wt s.toNat)])) ++ (t.extract (w64 (r + 1)).toNat t.size)) (by rw [ByteArray.size_append, ByteArray.size_append, x1, x3, z1]; omega)
          rw [ByteArray.size_append, ByteArray.size_append, x1, x3, z1] at g2
          refine ⟨t', c', Ev.step (fun k => spec_l1Cur_spoilt_l.eq k code at_ seed t wt ((m + 1 : Nat) : Int)) (Ev.yes hpos (Ev.yes (decide_eq_true hz) (Ev.bind e1 (Ev.bind e2 (Ev.yes i1 (Ev.bind e3 (Ev.no qn (Ev.yes (beq_iff_eq.2 q11) (Ev.yes a1 (Ev.yes (f1 _) (Ev.yes a2 (Ev.yes (fitS_of ?_) ?_)))))))))))), by omega, by rw [show n + 6 * (m + 1) = n + 6 + 6 * m by omega]; exact g3⟩
          · show (_ ++ _ : ByteArray).size + _ < _
            rw [ByteArray.size_append, x1, x3, z1]
            omega
          · rw [em]
            exact g1
        · obtain ⟨t', c', g1, g2, g3⟩ := ih ((t.extract 0 r.toNat) ++ (t.extract (w64 (r + 1)).toNat t.size)) (by rw [ByteArray.size_append, x1, x3]; omega)
          rw [ByteArray.size_append, x1, x3] at g2
          refine ⟨t', c', Ev.step (fun k => spec_l1Cur_spoilt_l.eq k code at_ seed t wt ((m + 1 : Nat) : Int)) (Ev.yes hpos (Ev.yes (decide_eq_true hz) (Ev.bind e1 (Ev.bind e2 (Ev.yes i1 (Ev.bind e3 (Ev.no qn (Ev.no (beq_eq_false_iff_ne.2 q11) (Ev.yes a1 (Ev.yes a2 (Ev.yes (fitS_of ?_) ?_))))))))))), by omega, by rw [show n + 6 * (m + 1) = n + 6 + 6 * m by omega]; exact g3⟩
          · rw [x1, x3]
            omega
          · rw [em]
            exact g1
    · refine ⟨t, _, Ev.step (fun k => spec_l1Cur_spoilt_l.eq k code at_ seed t wt ((m + 1 : Nat) : Int)) (Ev.yes hpos (Ev.no (decide_eq_false hz) (Ev.now _))), by omega, ?_⟩
      obtain ⟨h1, ⟨h2, h3⟩, h4⟩ := H
      exact ⟨h1, ⟨h2, by omega⟩, by omega⟩
theorem spoilt_ev (n : Nat) (c : CurT) (t wt : ByteArray) (H : CurOk n c) (hn : n + 100 ≤ 1099511627776) (ht : t.size + 2 ≤ 1099511627776) (hw : 1 ≤ wt.size) : ∃ t' c', Ev (fun k => spec_l1Cur_spoilt k (c, t, wt)) (t', c') ∧ t'.size ≤ t.size + 2 ∧ CurOk (n + 14) c' := by
  obtain ⟨r, c1, e1, r0, r1, H1⟩ := pick_ev n c H (by omega) 2
  have r1 := r1 (by omega)
  obtain ⟨m, hm⟩ : ∃ m : Nat, 1 + r = (m : Int) := ⟨(1 + r).toNat, by omega⟩
  obtain ⟨t', c2, e2, h2, H2⟩ := spoilt_l_ev wt hw m (n + 2) c1 t H1 (by omega) (by omega)
  obtain ⟨code, at_, seed⟩ := c
  refine ⟨t', c2, Ev.step (fun k => spec_l1Cur_spoilt.eq k code at_ seed t wt) (Ev.bind e1 (Ev.bind ?_ (Ev.now _))), by omega, ?_⟩
  · show Ev (fun k => spec_l1Cur_spoilt_l k (c1, t, wt, w64 (1 + r), ())) _
    rw [w64_of (by omega) (by omega), hm]
    exact e2
  · obtain ⟨h1, ⟨h2, h3⟩, h4⟩ := H2
    exact ⟨h1, ⟨h2, by omega⟩, by omega⟩
theorem big_ev (code more : List Int) (h1 : code.length ≤ 9223372036854775807) (h2 : more.length ≤ 9223372036854775807) : ∃ b, Ev (fun k => laws_big k (code, more)) b ∧ (b = false → code.length ≤ 1048576 ∧ more.length ≤ 1048576) := by
  by_cases c1 : (code.length : Int) > 1048576
  · exact ⟨true, Ev.step (fun k => laws_big.eq k code more) (Ev.yes (decide_eq_true c1) (Ev.now _)), nofun⟩
  · have e1 := w64_of (n := 1048576 - (code.length : Int)) (by omega) (by omega)
    refine ⟨_, Ev.step (fun k => laws_big.eq k code more) (Ev.no (decide_eq_false c1) (Ev.now _)), fun h => ?_⟩
    have := of_decide_eq_false h
    rw [e1] at this
    omega

theorem CurOk.mono {n m : Nat} {c : CurT} (h : CurOk n c) (hm : n ≤ m) (h' : m ≤ 1099511627776) : CurOk m c := by
  obtain ⟨h1, ⟨h2, h3⟩, h4⟩ := h
  exact ⟨h1, ⟨h2, by omega⟩, h'⟩
theorem sureRule_l_ev : ∀ (m n : Nat) (c : CurT) (out : ByteArray), CurOk n c → n + 2 * m + 100 ≤ 1099511627776 → out.size + m ≤ 1000 → (∀ b ∈ out.data.toList, SignC b) → ∃ s c', Ev (fun k => spec_l1Cur_sureRule_l k (c, out, (m : Int), ())) (s, c') ∧ s.size = out.size + m ∧ (∀ b ∈ s.data.toList, SignC b) ∧ CurOk (n + 2 * m) c'
  | 0, n, c, out, H, hn, ho, hs => by
    obtain ⟨code, at_, seed⟩ := c
    exact ⟨out, _, Ev.step (fun k => spec_l1Cur_sureRule_l.eq k code at_ seed out 0) (Ev.no rfl (Ev.now _)), rfl, hs, H⟩
  | m + 1, n, c, out, H, hn, ho, hs => by
    obtain ⟨t, c1, e1, ht, H1⟩ := of_ev n c H (by omega) [(bs [76]), (bs [82]), (bs [76]), (bs [82]), (bs [78]), (bs [85])] (by decide)
    have h2 : t.size = 1 ∧ ∀ b ∈ t.data.toList, SignC b := by
      simp only [List.mem_cons, List.not_mem_nil, or_false] at ht
      rcases ht with rfl | rfl | rfl | rfl | rfl | rfl <;> exact ⟨rfl, fun b hb => by simp [bs] at hb; subst hb; simp [SignC]⟩
    have hz : (out ++ t).size = out.size + 1 := by rw [ByteArray.size_append, h2.1]
    obtain ⟨s, c2, e2, s1, s2, H2⟩ := sureRule_l_ev m (n + 2) c1 (out ++ t) H1 (by omega) (by omega) (fun b hb => by
      rw [append_list] at hb
      rcases List.mem_append.1 hb with hb | hb
      · exact hs b hb
      · exact h2.2 b hb)
    obtain ⟨code, at_, seed⟩ := c
    refine ⟨s, c2, Ev.step (fun k => spec_l1Cur_sureRule_l.eq k code at_ seed out ((m + 1 : Nat) : Int)) (Ev.yes (decide_eq_true (by omega)) (Ev.bind e1 (Ev.yes (fitS_of (by show out.size + t.size < _; omega)) ?_))), by omega, s2, by rw [show n + 2 * (m + 1) = n + 2 + 2 * m by omega]; exact H2⟩
    rw [show w64 (((m + 1 : Nat) : Int) - 1) = (m : Int) by rw [w64_of (by omega) (by omega)]; omega]
    exact e2
theorem sureRule_ev (n : Nat) (c : CurT) (H : CurOk n c) (hn : n + 200 ≤ 1099511627776) : ∃ s c', Ev (fun k => spec_l1Cur_sureRule k c) (s, c') ∧ RuleOk s ∧ s.size ≤ 4 ∧ CurOk (n + 20) c' := by
  obtain ⟨b, c1, e1, H1⟩ := one_ev n c H (by omega) 3
  obtain ⟨r, c2, e2, r0, r1, H2⟩ := pick_ev _ c1 H1 (by omega) 4
  have r1 := r1 (by omega)
  obtain ⟨m, hm⟩ : ∃ m : Nat, 1 + r = (m : Int) := ⟨(1 + r).toNat, by omega⟩
  obtain ⟨s, c3, e3, s1, s2, H3⟩ := sureRule_l_ev m _ c2 ByteArray.empty H2 (by omega) (by show 0 + m ≤ _; omega) (fun b hb => by cases hb)
  have e4 : w64 (1 + r) = (m : Int) := by rw [w64_of (by omega) (by omega), hm]
  have s1 : s.size = 0 + m := s1
  obtain ⟨code, at_, seed⟩ := c
  cases b with
  | true => exact ⟨_, _, Ev.step (fun k => spec_l1Cur_sureRule.eq k code at_ seed) (Ev.bind e1 (Ev.yes rfl (Ev.now _))), ⟨by decide, fun b hb => by simp [bs] at hb; rcases hb with rfl | rfl <;> simp [SignC]⟩, by decide, H1.mono (by omega) (by omega)⟩
  | false =>
    refine ⟨s, c3, Ev.step (fun k => spec_l1Cur_sureRule.eq k code at_ seed) (Ev.bind e1 (Ev.no rfl (Ev.bind e2 ?_))), ⟨by omega, s2⟩, by omega, H3.mono (by omega) (by omega)⟩
    simp only [e4]
    exact Ev.bind e3 (Ev.now _)
theorem rule_ev (n : Nat) (c : CurT) (H : CurOk n c) (hn : n + 300 ≤ 1099511627776) : ∃ s c', Ev (fun k => spec_l1Cur_rule k c) (s, c') ∧ s.size ≤ 10 ∧ CurOk (n + 30) c' := by
  obtain ⟨b, c1, e1, H1⟩ := one_ev n c H (by omega) 12
  obtain ⟨t, c2, e2, ht, H2⟩ := of_ev _ c1 H1 (by omega) [ByteArray.empty, (bs [76, 82, 76, 82, 76, 82, 76]), (bs [88]), (bs [108, 114]), (bs [76, 32, 82])] (by decide)
  obtain ⟨s, c3, e3, _, s4, H3⟩ := sureRule_ev _ c1 H1 (by omega)
  have h2 : t.size ≤ 10 := by
    simp only [List.mem_cons, List.not_mem_nil, or_false] at ht
    rcases ht with rfl | rfl | rfl | rfl | rfl <;> decide
  obtain ⟨code, at_, seed⟩ := c
  cases b with
  | true => exact ⟨t, _, Ev.step (fun k => spec_l1Cur_rule.eq k code at_ seed) (Ev.bind e1 (Ev.yes rfl (Ev.bind e2 (Ev.now _)))), h2, H2.mono (by omega) (by omega)⟩
  | false => exact ⟨s, _, Ev.step (fun k => spec_l1Cur_rule.eq k code at_ seed) (Ev.bind e1 (Ev.no rfl (Ev.bind e3 (Ev.now _)))), by omega, H3.mono (by omega) (by omega)⟩
theorem sureWorld_l_ev (rl : ByteArray) (hrl : 1 ≤ rl.size ∧ rl.size ≤ 6) (w h : Int) (blank : Bool) : ∀ (m n : Nat) (c : CurT) (out : ByteArray), CurOk n c → n + 2 * m + 100 ≤ 1099511627776 → out.size + m ≤ 1000 → CellsOk (rl.size : Int) out →
    ∃ s c', Ev (fun k => spec_l1Cur_sureWorld_l k (c, zeroO, (rl, w, h, out, 0, 0, 0), blank, (m : Int), ())) (c', zeroO, (rl, w, h, s, 0, 0, 0), ()) ∧ s.size = out.size + m ∧ CellsOk (rl.size : Int) s ∧ CurOk (n + 2 * m) c'
  | 0, n, c, out, H, hn, ho, hs => by
    obtain ⟨code, at_, seed⟩ := c
    exact ⟨out, _, Ev.step (fun k => spec_l1Cur_sureWorld_l.eq k code at_ seed ByteArray.empty 0 0 ByteArray.empty 0 0 0 rl w h out 0 0 0 blank 0) (Ev.no rfl (Ev.now _)), rfl, hs, H⟩
  | m + 1, n, c, out, H, hn, ho, hs => by
    obtain ⟨r, c1, e1, r0, r1, H1⟩ := pick_ev n c H (by omega) (rl.size : Int)
    have r1 := r1 (by omega)
    have eN := l1Num_ev r (by omega)
    have em : w64 (((m + 1 : Nat) : Int) - 1) = (m : Int) := by rw [w64_of (by omega) (by omega)]; omega
    have app : ∀ p : Int, 0 ≤ p ∧ p ≤ (rl.size : Int) - 1 → CellsOk (rl.size : Int) (out ++ ofBytes [48 + p]) := fun p hp b hb => by
      rw [append_list] at hb
      rcases List.mem_append.1 hb with hb | hb
      · exact hs b hb
      · have hb : b = UInt8.ofNat (48 + p).toNat := by simpa [ofBytes] using hb
        rw [hb, toNat_ofNat8 (by omega)]
        omega
    have hz : ∀ p : Int, (out ++ ofBytes [48 + p]).size = out.size + 1 := fun p => by rw [ByteArray.size_append]; rfl
    cases blank with
    | true =>
      obtain ⟨s, c2, e2, s1, s2, H2⟩ := sureWorld_l_ev rl hrl w h true m (n + 2) c (out ++ ofBytes [48 + 0]) (H.mono (by omega) (by omega)) (by omega) (by rw [hz]; omega) (app 0 (by omega))
      rw [hz] at s1
      obtain ⟨code, at_, seed⟩ := c
      refine ⟨s, c2, Ev.step (fun k => spec_l1Cur_sureWorld_l.eq k code at_ seed ByteArray.empty 0 0 ByteArray.empty 0 0 0 rl w h out 0 0 0 true ((m + 1 : Nat) : Int)) (Ev.yes (decide_eq_true (by omega)) (Ev.yes rfl (Ev.yes (fitS_of (by show out.size + 1 < _; omega)) ?_))), by omega, s2, by rw [show n + 2 * (m + 1) = n + 2 + 2 * m by omega]; exact H2⟩
      rw [em]
      exact e2
    | false =>
      obtain ⟨s, c2, e2, s1, s2, H2⟩ := sureWorld_l_ev rl hrl w h false m (n + 2) c1 (out ++ ofBytes [48 + r]) H1 (by omega) (by rw [hz]; omega) (app r (by omega))
      rw [hz] at s1
      obtain ⟨code, at_, seed⟩ := c
      refine ⟨s, c2, Ev.step (fun k => spec_l1Cur_sureWorld_l.eq k code at_ seed ByteArray.empty 0 0 ByteArray.empty 0 0 0 rl w h out 0 0 0 false ((m + 1 : Nat) : Int)) (Ev.yes (decide_eq_true (by omega)) (Ev.no rfl (Ev.bind e1 (Ev.bind eN (Ev.yes (fitS_of (by show out.size + 1 < _; omega)) ?_))))), by omega, s2, by rw [show n + 2 * (m + 1) = n + 2 + 2 * m by omega]; exact H2⟩
      rw [em]
      exact e2
theorem sureWorld_ev (n : Nat) (c : CurT) (H : CurOk n c) (hn : n + 1000 ≤ 1099511627776) (most : Int) (hmost : 1 ≤ most ∧ most ≤ 9) : ∃ W c', Ev (fun k => spec_l1Cur_sureWorld k (c, most)) (W, c') ∧ OkO W ∧ (W.2.1 ≤ most ∧ W.2.2.1 ≤ most) ∧ CurOk (n + 300) c' := by
  obtain ⟨rl, c1, e1, hR, hr4, H1⟩ := sureRule_ev n c H (by omega)
  obtain ⟨r2, c2, e2, p2, q2, H2⟩ := pick_ev _ c1 H1 (by omega) most
  obtain ⟨r3, c3, e3, p3, q3, H3⟩ := pick_ev _ c2 H2 (by omega) most
  have q2 := q2 hmost.1
  have q3 := q3 hmost.1
  obtain ⟨b, c4, e4, H4⟩ := one_ev _ c3 H3 (by omega) 2
  have w2 : w64 (1 + r2) = 1 + r2 := w64_of (by omega) (by omega)
  have w3 : w64 (1 + r3) = 1 + r3 := w64_of (by omega) (by omega)
  have hm := mul_range (a := 1 + r2) (b := 1 + r3) (by omega) (by omega) (by omega) (by omega)
  obtain ⟨m, em⟩ : ∃ m : Nat, (1 + r2) * (1 + r3) = (m : Int) := ⟨((1 + r2) * (1 + r3)).toNat, by omega⟩
  obtain ⟨s, c5, e5, s1, s2, H5⟩ := sureWorld_l_ev rl hR.1 (1 + r2) (1 + r3) b m _ c4 ByteArray.empty H4 (by omega) (by show 0 + m ≤ _; omega) (fun b hb => by cases hb)
  have s1 : s.size = 0 + m := s1
  obtain ⟨r6, c6, e6, p6, q6, H6⟩ := pick_ev _ c5 H5 (by omega) (1 + r2)
  obtain ⟨r7, c7, e7, p7, q7, H7⟩ := pick_ev _ c6 H6 (by omega) (1 + r3)
  obtain ⟨r8, c8, e8, p8, q8, H8⟩ := pick_ev _ c7 H7 (by omega) 4
  have q6 := q6 (by omega)
  have q7 := q7 (by omega)
  have q8 := q8 (by omega)
  obtain ⟨code, at_, seed⟩ := c
  refine ⟨(rl, 1 + r2, 1 + r3, s, r6, r7, r8), c8, Ev.step (fun k => spec_l1Cur_sureWorld.eq k code at_ seed most) (Ev.bind e1 (Ev.bind e2 (Ev.bind e3 (Ev.bind e4 ?_)))), ⟨hR, by simp only; omega, by simp only; omega, by simp only; omega, s2, by simp only; omega, by simp only; omega, by simp only; omega⟩, ⟨by simp only; omega, by simp only; omega⟩, H8.mono (by omega) (by omega)⟩
  have wm2 : w64 (m : Int) = (m : Int) := w64_of (by omega) (by omega)
  simp only [w2, w3, em, wm2]
  exact Ev.bind e5 (Ev.bind e6 (Ev.bind e7 (Ev.bind e8 (Ev.now _))))
theorem world_ev (n : Nat) (c : CurT) (H : CurOk n c) (hn : n + 2000 ≤ 1099511627776) : ∃ W c', Ev (fun k => spec_l1Cur_world k c) (W, c') ∧ (W.1.size ≤ 1000 ∧ W.2.2.2.1.size ≤ 1000) ∧ CurOk (n + 400) c' := by
  obtain ⟨W, c1, e1, HW, _, H1⟩ := sureWorld_ev n c H (by omega) 5 (by omega)
  obtain ⟨s1, s2⟩ := okO_size HW
  obtain ⟨r, c2, e2, p, q, H2⟩ := pick_ev _ c1 H1 (by omega) 18
  obtain ⟨rl, c3, e3, hrl, H3⟩ := rule_ev _ c2 H2 (by omega)
  obtain ⟨a, c4, e4, _, H4⟩ := among_ev _ c2 H2 (by omega) [0, 1, 10, (-1), 4611686018427387904] (by decide)
  obtain ⟨t, c5, e5, ht, H5⟩ := of_ev _ c2 H2 (by omega) [(bs [48]), ByteArray.empty, (bs [55])] (by decide)
  have ht1 : t.size ≤ 1 := by
    simp only [List.mem_cons, List.not_mem_nil, or_false] at ht
    rcases ht with rfl | rfl | rfl <;> decide
  obtain ⟨a6, c6, e6, _, H6⟩ := among_ev _ c2 H2 (by omega) [(-1), 0, 9, 4611686018427387904] (by decide)
  obtain ⟨a7, c7, e7, _, H7⟩ := among_ev _ c6 H6 (by omega) [0, 4, (-1), 3] (by decide)
  have hz : (W.2.2.2.1 ++ t).size = W.2.2.2.1.size + t.size := ByteArray.size_append
  obtain ⟨code, at_, seed⟩ := c
  by_cases r0 : r = 0
  · exact ⟨_, _, Ev.step (fun k => spec_l1Cur_world.eq k code at_ seed) (Ev.bind e1 <| Ev.bind e2 <| Ev.yes (beq_iff_eq.2 r0) (Ev.bind e3 (Ev.now _))), ⟨by simp only; omega, by simp only; omega⟩, H3.mono (by omega) (by omega)⟩
  · have n0 := beq_eq_false_iff_ne.2 r0
    by_cases r1 : r = 1
    · exact ⟨_, _, Ev.step (fun k => spec_l1Cur_world.eq k code at_ seed) (Ev.bind e1 <| Ev.bind e2 <| Ev.no n0 (Ev.yes (beq_iff_eq.2 r1) (Ev.bind e4 (Ev.now _)))), ⟨by simp only; omega, by simp only; omega⟩, H4.mono (by omega) (by omega)⟩
    · have n1 := beq_eq_false_iff_ne.2 r1
      by_cases r2 : r = 2
      · exact ⟨_, _, Ev.step (fun k => spec_l1Cur_world.eq k code at_ seed) (Ev.bind e1 <| Ev.bind e2 <| Ev.no n0 (Ev.no n1 (Ev.yes (beq_iff_eq.2 r2) (Ev.bind e5 (Ev.yes (fitS_of (by simp only; omega)) (Ev.now _)))))), ⟨by simp only; omega, by simp only; omega⟩, H5.mono (by omega) (by omega)⟩
      · have n2 := beq_eq_false_iff_ne.2 r2
        by_cases r3 : r = 3
        · exact ⟨_, _, Ev.step (fun k => spec_l1Cur_world.eq k code at_ seed) (Ev.bind e1 <| Ev.bind e2 <| Ev.no n0 (Ev.no n1 (Ev.no n2 (Ev.yes (beq_iff_eq.2 r3) (Ev.bind e6 (Ev.bind e7 (Ev.now _))))))), ⟨by simp only; omega, by simp only; omega⟩, H7.mono (by omega) (by omega)⟩
        · exact ⟨_, _, Ev.step (fun k => spec_l1Cur_world.eq k code at_ seed) (Ev.bind e1 <| Ev.bind e2 <| Ev.no n0 (Ev.no n1 (Ev.no n2 (Ev.no (beq_eq_false_iff_ne.2 r3) (Ev.now _))))), ⟨by simp only; omega, by simp only; omega⟩, H2.mono (by omega) (by omega)⟩

def InR (w h x y : Int) : Prop := (0 ≤ x ∧ x ≤ w - 1) ∧ (0 ≤ y ∧ y ≤ h - 1)
/-- A map of the cells of a board to those of another one, with its reverse; what becomes of ways and rules. -/
structure Sym where
  f : Int → Int → Int × Int
  g : Int → Int → Int × Int
  wf : Int → Int
  rf : ByteArray → ByteArray
structure SymOk (S : Sym) (w h w' h' : Int) : Prop where
  fwd : ∀ x y, InR w h x y → InR w' h' (S.f x y).1 (S.f x y).2 ∧ S.g (S.f x y).1 (S.f x y).2 = (x, y)
  bwd : ∀ a b, InR w' h' a b → InR w h (S.g a b).1 (S.g a b).2 ∧ S.f (S.g a b).1 (S.g a b).2 = (a, b)
  way : ∀ v, 0 ≤ v ∧ v ≤ 3 → 0 ≤ S.wf v ∧ S.wf v ≤ 3
  go : ∀ x y v, InR w h x y → 0 ≤ v ∧ v ≤ 3 → S.f (go1 x w (1 * dxW v)) (go1 y h (1 * dyW v)) = (go1 (S.f x y).1 w' (1 * dxW (S.wf v)), go1 (S.f x y).2 h' (1 * dyW (S.wf v)))
  rule : ∀ rl, (S.rf rl).size = rl.size
  turn : ∀ rl v (c : Int), RuleOk rl → 0 ≤ v ∧ v ≤ 3 → 0 ≤ c ∧ c ≤ (rl.size : Int) - 1 → S.wf (wayB rl c v) = wayB (S.rf rl) c (S.wf v)
/-- A world is the other one's picture. -/
def Pic (S : Sym) (w' h' : Int) : Wo → Wo → Prop
  | (rl, w, h, cs, x, y, wy), (rl', w2, h2, cs', x', y', wy') => rl' = S.rf rl ∧ w2 = w' ∧ h2 = h' ∧ (cs'.size : Int) = w' * h' ∧ (∀ a b, InR w h a b → cs'.data.toList[((S.f a b).2 * w' + (S.f a b).1).toNat]? = cs.data.toList[(b * w + a).toNat]?) ∧ (x', y') = S.f x y ∧ wy' = S.wf wy
theorem at_inj {x y x' y' w : Int} (hx : 0 ≤ x ∧ x ≤ w - 1) (hx' : 0 ≤ x' ∧ x' ≤ w - 1) : y * w + x = y' * w + x' ↔ x = x' ∧ y = y' := by
  constructor
  · intro h
    have key : ∀ a b c d : Int, 0 ≤ c → c ≤ w - 1 → 0 ≤ d → d ≤ w - 1 → a * w + c = b * w + d → ¬ a < b := fun a b c d h1 h2 h3 h4 h5 h6 => by
      have := Int.mul_le_mul_of_nonneg_right (show a + 1 ≤ b by omega) (show 0 ≤ w by omega)
      rw [Int.add_mul, Int.one_mul] at this
      omega
    have k1 := key y y' x x' hx.1 hx.2 hx'.1 hx'.2 h
    have k2 := key y' y x' x hx'.1 hx'.2 hx.1 hx.2 h.symm
    obtain rfl : y = y' := by omega
    exact ⟨by omega, rfl⟩
  · rintro ⟨rfl, rfl⟩
    rfl
theorem cell_of_index {w h : Int} (hw : 1 ≤ w ∧ w ≤ 9) (hh : 1 ≤ h ∧ h ≤ 9) (i : Nat) (hi : (i : Int) < w * h) : ∃ x y, InR w h x y ∧ (y * w + x).toNat = i := by
  refine ⟨(i : Int) % w, (i : Int) / w, ⟨⟨Int.emod_nonneg _ (by omega), by have := Int.emod_lt_of_pos (i : Int) (show 0 < w by omega); omega⟩, Int.ediv_nonneg (by omega) (by omega), ?_⟩, ?_⟩
  · have : (i : Int) / w < h := Int.ediv_lt_of_lt_mul (by omega) (by rw [Int.mul_comm]; exact hi)
    omega
  · have := Int.mul_ediv_add_emod (i : Int) w
    rw [Int.mul_comm] at this
    omega
theorem ba_of_cells {w h : Int} (hw : 1 ≤ w ∧ w ≤ 9) (hh : 1 ≤ h ∧ h ≤ 9) {a b : ByteArray} (ha : (a.size : Int) = w * h) (hb : (b.size : Int) = w * h) (he : ∀ x y, InR w h x y → a.data.toList[(y * w + x).toNat]? = b.data.toList[(y * w + x).toNat]?) : a = b := by
  apply ba_ext
  apply List.ext_getElem?
  intro i
  by_cases hi : (i : Int) < w * h
  · obtain ⟨x, y, hr, rfl⟩ := cell_of_index hw hh i hi
    exact he x y hr
  · rw [List.getElem?_eq_none (by rw [← size_list]; omega), List.getElem?_eq_none (by rw [← size_list]; omega)]
theorem pic_unique {S : Sym} {w' h' : Int} (hw' : 1 ≤ w' ∧ w' ≤ 9) (hh' : 1 ≤ h' ∧ h' ≤ 9) : ∀ {W V V' : Wo}, SymOk S W.2.1 W.2.2.1 w' h' → Pic S w' h' W V → Pic S w' h' W V' → V = V'
  | (rl, w, h, cs, x, y, wy), (rl1, w1, h1, cs1, x1, y1, wy1), (rl2, w2, h2, cs2, x2, y2, wy2), O, P, Q => by
    obtain ⟨rfl, rfl, rfl, s1, c1, p1, rfl⟩ := P
    obtain ⟨rfl, rfl, rfl, s2, c2, p2, rfl⟩ := Q
    have ec : cs1 = cs2 := ba_of_cells hw' hh' s1 s2 fun a b hab => by
      obtain ⟨g1, g2⟩ := O.bwd a b hab
      have q1 := c1 _ _ g1
      have q2 := c2 _ _ g1
      rw [g2] at q1 q2
      rw [q1, q2]
    have ep := p1.trans p2.symm
    simp only [Prod.mk.injEq] at ep
    rw [ec, ep.1, ep.2]
theorem pic_ok {S : Sym} {w' h' : Int} (hw' : 1 ≤ w' ∧ w' ≤ 9) (hh' : 1 ≤ h' ∧ h' ≤ 9) (hrule : ∀ rl, RuleOk rl → RuleOk (S.rf rl)) : ∀ {W V : Wo}, SymOk S W.2.1 W.2.2.1 w' h' → OkO W → Pic S w' h' W V → OkO V
  | (rl, w, h, cs, x, y, wy), (rl1, w1, h1, cs1, x1, y1, wy1), O, H, P => by
    obtain ⟨rfl, rfl, rfl, s1, c1, p1, rfl⟩ := P
    obtain ⟨hR, hw, hh, hs, hcs, hx, hy, hwy⟩ : WorldOk rl w h cs x y wy := H
    have hf := (O.fwd x y ⟨hx, hy⟩).1
    rw [← p1] at hf
    refine ⟨hrule rl hR, hw', hh', s1, fun c hc => ?_, hf.1, hf.2, O.way wy hwy⟩
    obtain ⟨i, hi⟩ := List.mem_iff_getElem?.1 hc
    have hlt : i < cs1.size := by rw [size_list]; exact (List.getElem?_eq_some_iff.1 hi).1
    obtain ⟨a, b, hab, rfl⟩ := cell_of_index hw' hh' i (by omega)
    obtain ⟨g1, g2⟩ := O.bwd a b hab
    have q1 := c1 _ _ g1
    rw [g2] at q1
    have hi : cs1.data.toList[(b * w1 + a).toNat]? = some c := hi
    have q1 : cs1.data.toList[(b * w1 + a).toNat]? = _ := q1
    rw [q1] at hi
    show 48 ≤ c.toNat ∧ (c.toNat : Int) ≤ 47 + ((S.rf rl).size : Int)
    rw [O.rule]
    exact hcs c (List.mem_of_getElem? hi)
/-- A picture's step is the picture of the step. -/
theorem pic_step {S : Sym} {w' h' : Int} (hw' : 1 ≤ w' ∧ w' ≤ 9) (hh' : 1 ≤ h' ∧ h' ≤ 9) : ∀ {W V : Wo}, SymOk S W.2.1 W.2.2.1 w' h' → OkO W → Pic S w' h' W V → Pic S w' h' (stepO W) (stepO V)
  | (rl, w, h, cs, x, y, wy), (rl1, w1, h1, cs1, x1, y1, wy1), O, H, P => by
    obtain ⟨rfl, rfl, rfl, s1, c1, p1, rfl⟩ := P
    obtain ⟨hR, hw, hh, hs, hcs, hx, hy, hwy⟩ : WorldOk rl w h cs x y wy := H
    have hr6 := hR.1
    obtain ⟨c, hc, eqc, c48, cti⟩ := cell_ex hw hh hs hcs hx hy
    obtain ⟨f1, f2⟩ := O.fwd x y ⟨hx, hy⟩
    have ep : x1 = (S.f x y).1 ∧ y1 = (S.f x y).2 := ⟨congrArg Prod.fst p1, congrArg Prod.snd p1⟩
    obtain ⟨rfl, rfl⟩ := ep
    have e1 : colB w1 cs1 (S.f x y).1 (S.f x y).2 = colB w cs x y := by
      have := c1 x y ⟨hx, hy⟩
      rw [hc] at this
      unfold colB
      rw [bt_at this, bt_at hc]
    obtain ⟨v, hv⟩ : ∃ v, colB w cs x y = v := ⟨_, rfl⟩
    have hv' : 0 ≤ v ∧ v ≤ (rl.size : Int) - 1 := by omega
    have hwv : 0 ≤ wayB rl v wy ∧ wayB rl v wy ≤ 3 := by unfold wayB; omega
    have eway := O.turn rl wy v hR hwy hv'
    have ego := O.go x y (wayB rl v wy) ⟨hx, hy⟩ hwv
    show Pic S w1 h1 (rl, w, h, putB w cs x y ((colB w cs x y + 1) % (rl.size : Int)), go1 x w (1 * dxW (wayB rl (colB w cs x y) wy)), go1 y h (1 * dyW (wayB rl (colB w cs x y) wy)), wayB rl (colB w cs x y) wy)
      (S.rf rl, w1, h1, putB w1 cs1 (S.f x y).1 (S.f x y).2 ((colB w1 cs1 (S.f x y).1 (S.f x y).2 + 1) % ((S.rf rl).size : Int)), go1 (S.f x y).1 w1 (1 * dxW (wayB (S.rf rl) (colB w1 cs1 (S.f x y).1 (S.f x y).2) (S.wf wy))), go1 (S.f x y).2 h1 (1 * dyW (wayB (S.rf rl) (colB w1 cs1 (S.f x y).1 (S.f x y).2) (S.wf wy))), wayB (S.rf rl) (colB w1 cs1 (S.f x y).1 (S.f x y).2) (S.wf wy))
    rw [e1, hv, O.rule, ← eway]
    have hp := mod_range (v + 1) (k := (rl.size : Int)) (by omega)
    generalize (v + 1) % (rl.size : Int) = p at hp
    refine ⟨rfl, rfl, rfl, ?_, fun a b hab => ?_, ego.symm, rfl⟩
    · unfold putB
      rw [setByte_size]
      exact s1
    · obtain ⟨g1, g2⟩ := O.fwd a b hab
      obtain ⟨a1, a2, a3, a4⟩ := at_range hx hy hw hh
      obtain ⟨b1, b2, b3, b4⟩ := at_range f1.1 f1.2 hw' hh'
      obtain ⟨d1, d2, d3, d4⟩ := at_range hab.1 hab.2 hw hh
      obtain ⟨i1, i2, i3, i4⟩ := at_range g1.1 g1.2 hw' hh'
      unfold putB setByte
      rw [List.toList_toArray, List.toList_toArray, List.getElem?_set, List.getElem?_set]
      by_cases e : a = x ∧ b = y
      · obtain ⟨rfl, rfl⟩ := e
        rw [if_pos rfl, if_pos rfl, if_pos (by rw [← size_list]; omega), if_pos (by rw [← size_list]; omega)]
      · have n1 : ¬ (y * w + x).toNat = (b * w + a).toNat := fun h => e (by
          have := (at_inj (y := y) (y' := b) hx hab.1).1 (by omega)
          exact ⟨this.1.symm, this.2.symm⟩)
        have n2 : ¬ ((S.f x y).2 * w1 + (S.f x y).1).toNat = ((S.f a b).2 * w1 + (S.f a b).1).toNat := fun h => e (by
          have := (at_inj (y := (S.f x y).2) (y' := (S.f a b).2) f1.1 g1.1).1 (by omega)
          rw [this.1, this.2, g2] at f2
          exact ⟨congrArg Prod.fst f2, congrArg Prod.snd f2⟩)
        rw [if_neg n1, if_neg n2]
        exact c1 a b hab
/-! ### The three maps -/
def turnS (h : Int) : Sym := ⟨fun x y => (h - 1 - y, x), fun a b => (b, h - 1 - a), fun v => (v + 1) % 4, fun rl => rl⟩
def mirS (w : Int) : Sym := ⟨fun x y => (w - 1 - x, y), fun a b => (w - 1 - a, b), fun v => (4 - v) % 4, oth⟩
def shiS (w h r d : Int) : Sym := ⟨fun x y => ((x + r) % w, (y + d) % h), fun a b => ((a - r) % w, (b - d) % h), fun v => v, fun rl => rl⟩
theorem way4 {v : Int} (h : 0 ≤ v ∧ v ≤ 3) : v = 0 ∨ v = 1 ∨ v = 2 ∨ v = 3 := by omega
theorem go1_flip {n M : Int} (h : 0 ≤ n ∧ n ≤ M - 1) : (M - 1 - go1 n M 1 = go1 (M - 1 - n) M (-1)) ∧ (M - 1 - go1 n M (-1) = go1 (M - 1 - n) M 1) := by
  unfold go1
  constructor <;> split <;> first | omega | (split <;> first | omega | (split <;> first | omega | (split <;> omega)))
theorem turnS_ok {w h : Int} (hw : 1 ≤ w ∧ w ≤ 9) (hh : 1 ≤ h ∧ h ≤ 9) : SymOk (turnS h) w h h w := by
  refine ⟨fun x y hr => ?_, fun a b hr => ?_, fun v hv => ?_, fun x y v hr hv => ?_, fun rl => rfl, fun rl v c hR hv hc => ?_⟩
  · unfold InR at hr ⊢
    refine ⟨by simp only [turnS]; omega, ?_⟩
    show (x, h - 1 - (h - 1 - y)) = (x, y)
    rw [show h - 1 - (h - 1 - y) = y by omega]
  · unfold InR at hr ⊢
    refine ⟨by simp only [turnS]; omega, ?_⟩
    show (h - 1 - (h - 1 - a), b) = (a, b)
    rw [show h - 1 - (h - 1 - a) = a by omega]
  · show 0 ≤ (v + 1) % 4 ∧ (v + 1) % 4 ≤ 3
    omega
  · obtain ⟨hx, hy⟩ := hr
    obtain ⟨k1, k2⟩ := go1_flip hy
    have hy2 : 0 ≤ h - 1 - y ∧ h - 1 - y ≤ h - 1 := by omega
    rcases way4 hv with rfl | rfl | rfl | rfl
    · show (h - 1 - go1 y h (-1), go1 x w 0) = (go1 (h - 1 - y) h 1, go1 x w 0)
      rw [k2]
    · show (h - 1 - go1 y h 0, go1 x w 1) = (go1 (h - 1 - y) h 0, go1 x w 1)
      rw [go1_zero hy, go1_zero hy2]
    · show (h - 1 - go1 y h 1, go1 x w 0) = (go1 (h - 1 - y) h (-1), go1 x w 0)
      rw [k1]
    · show (h - 1 - go1 y h 0, go1 x w (-1)) = (go1 (h - 1 - y) h 0, go1 x w (-1))
      rw [go1_zero hy, go1_zero hy2]
  · show ((v + quartersB (bt rl c.toNat)) % 4 + 1) % 4 = ((v + 1) % 4 + quartersB (bt rl c.toNat)) % 4
    omega
theorem mirS_ok {w h : Int} (hw : 1 ≤ w ∧ w ≤ 9) (hh : 1 ≤ h ∧ h ≤ 9) : SymOk (mirS w) w h w h := by
  refine ⟨fun x y hr => ?_, fun a b hr => ?_, fun v hv => ?_, fun x y v hr hv => ?_, fun rl => oth_size rl, fun rl v c hR hv hc => ?_⟩
  · unfold InR at hr ⊢
    refine ⟨by simp only [mirS]; omega, ?_⟩
    show (w - 1 - (w - 1 - x), y) = (x, y)
    rw [show w - 1 - (w - 1 - x) = x by omega]
  · unfold InR at hr ⊢
    refine ⟨by simp only [mirS]; omega, ?_⟩
    show (w - 1 - (w - 1 - a), b) = (a, b)
    rw [show w - 1 - (w - 1 - a) = a by omega]
  · show 0 ≤ (4 - v) % 4 ∧ (4 - v) % 4 ≤ 3
    omega
  · obtain ⟨hx, hy⟩ := hr
    obtain ⟨k1, k2⟩ := go1_flip hx
    have hx2 : 0 ≤ w - 1 - x ∧ w - 1 - x ≤ w - 1 := by omega
    rcases way4 hv with rfl | rfl | rfl | rfl
    · show (w - 1 - go1 x w 0, go1 y h (-1)) = (go1 (w - 1 - x) w 0, go1 y h (-1))
      rw [go1_zero hx, go1_zero hx2]
    · show (w - 1 - go1 x w 1, go1 y h 0) = (go1 (w - 1 - x) w (-1), go1 y h 0)
      rw [k1]
    · show (w - 1 - go1 x w 0, go1 y h 1) = (go1 (w - 1 - x) w 0, go1 y h 1)
      rw [go1_zero hx, go1_zero hx2]
    · show (w - 1 - go1 x w (-1), go1 y h 0) = (go1 (w - 1 - x) w 1, go1 y h 0)
      rw [k2]
  · obtain ⟨s, hs⟩ := byte_at (cs := rl) (i := c.toNat) (by omega)
    have hs' : (oth rl).data.toList[c.toNat]? = some (othC s) := by rw [oth_list, List.getElem?_map, hs]; rfl
    have hq := quarters_oth (hR.2 s (List.mem_of_getElem? hs))
    obtain ⟨q0, q3⟩ := quartersB_range (s.toNat : Int)
    show (4 - (v + quartersB (bt rl c.toNat)) % 4) % 4 = ((4 - v) % 4 + quartersB (bt (oth rl) c.toNat)) % 4
    rw [bt_at hs, bt_at hs', hq]
    omega
theorem shift_inv {n M r : Int} (h : 0 ≤ n ∧ n ≤ M - 1) (hr : 0 ≤ r ∧ r ≤ M - 1) : (0 ≤ (n + r) % M ∧ (n + r) % M ≤ M - 1) ∧ ((n + r) % M - r) % M = n ∧ (0 ≤ (n - r) % M ∧ (n - r) % M ≤ M - 1) ∧ ((n - r) % M + r) % M = n := by
  refine ⟨mod_range _ (by omega), ?_, mod_range _ (by omega), ?_⟩
  · rw [Int.sub_emod, Int.emod_emod, ← Int.sub_emod, show n + r - r = n by omega, Int.emod_eq_of_lt h.1 (by omega)]
  · rw [Int.add_emod, Int.emod_emod, ← Int.add_emod, show n - r + r = n by omega, Int.emod_eq_of_lt h.1 (by omega)]
theorem go1_mod {n M d : Int} (h : 0 ≤ n ∧ n ≤ M - 1) (hd : d = 1 ∨ d = -1 ∨ d = 0) : go1 n M d = (n + d) % M := by
  unfold go1
  split
  · rename_i e
    rw [e, Int.emod_self]
  · split
    · rw [show n + d = M - 1 + -M by omega, Int.add_neg_emod_self, Int.emod_eq_of_lt (by omega) (by omega)]
    · rw [Int.emod_eq_of_lt (by omega) (by omega)]
theorem go1_shift {n M r d : Int} (h : 0 ≤ n ∧ n ≤ M - 1) (hr : 0 ≤ r ∧ r ≤ M - 1) (hd : d = 1 ∨ d = -1 ∨ d = 0) : (go1 n M d + r) % M = go1 ((n + r) % M) M d := by
  rw [go1_mod h hd, go1_mod (shift_inv h hr).1 hd, Int.emod_add_emod, Int.emod_add_emod, show n + d + r = n + r + d by omega]
theorem shiS_ok {w h r d : Int} (hw : 1 ≤ w ∧ w ≤ 9) (hh : 1 ≤ h ∧ h ≤ 9) (hr : InR w h r d) : SymOk (shiS w h r d) w h w h := by
  obtain ⟨hr1, hr2⟩ := hr
  refine ⟨fun x y hr => ?_, fun a b hr => ?_, fun v hv => hv, fun x y v hr hv => ?_, fun rl => rfl, fun rl v c hR hv hc => rfl⟩
  · obtain ⟨hx, hy⟩ := hr
    have s1 := shift_inv hx hr1
    have s2 := shift_inv hy hr2
    refine ⟨⟨s1.1, s2.1⟩, ?_⟩
    show (((x + r) % w - r) % w, ((y + d) % h - d) % h) = (x, y)
    rw [s1.2.1, s2.2.1]
  · obtain ⟨hx, hy⟩ := hr
    have s1 := shift_inv hx hr1
    have s2 := shift_inv hy hr2
    refine ⟨⟨s1.2.2.1, s2.2.2.1⟩, ?_⟩
    show (((a - r) % w + r) % w, ((b - d) % h + d) % h) = (a, b)
    rw [s1.2.2.2, s2.2.2.2]
  · obtain ⟨hx, hy⟩ := hr
    obtain ⟨e1, e2⟩ := dW_cases v
    show ((go1 x w (1 * dxW v) + r) % w, (go1 y h (1 * dyW v) + d) % h) = (go1 ((x + r) % w) w (1 * dxW v), go1 ((y + d) % h) h (1 * dyW v))
    rw [Int.one_mul, Int.one_mul, go1_shift hx hr1 e1, go1_shift hy hr2 e2]
/-! ### Maps one behind the other -/
theorem pic_self {w h : Int} (hw : 1 ≤ w ∧ w ≤ 9) (hh : 1 ≤ h ∧ h ≤ 9) : ∀ {W V : Wo}, W.2.1 = w → W.2.2.1 = h → (W.2.2.2.1.size : Int) = w * h → V.1 = W.1 → V.2.1 = w → V.2.2.1 = h → (V.2.2.2.1.size : Int) = w * h → (∀ a b, InR w h a b → V.2.2.2.1.data.toList[(b * w + a).toNat]? = W.2.2.2.1.data.toList[(b * w + a).toNat]?) → V.2.2.2.2.1 = W.2.2.2.2.1 → V.2.2.2.2.2.1 = W.2.2.2.2.2.1 → V.2.2.2.2.2.2 = W.2.2.2.2.2.2 → V = W
  | (rl, w1, h1, cs, x, y, wy), (rl2, w2, h2, cs2, x2, y2, wy2), e1, e2, e3, e4, e5, e6, e7, e8, e9, e10, e11 => by
    simp only at e1 e2 e3 e4 e5 e6 e7 e8 e9 e10 e11
    subst e1 e2 e4 e5 e6 e9 e10 e11
    rw [ba_of_cells hw hh e7 e3 e8]

theorem turn4 : ∀ {W V1 V2 V3 V4 : Wo}, OkO W → Pic (turnS W.2.2.1) W.2.2.1 W.2.1 W V1 → Pic (turnS W.2.1) W.2.1 W.2.2.1 V1 V2 → Pic (turnS W.2.2.1) W.2.2.1 W.2.1 V2 V3 → Pic (turnS W.2.1) W.2.1 W.2.2.1 V3 V4 → V4 = W
  | (rl, w, h, cs, x, y, wy), (rl1, w1, h1, cs1, x1, y1, wy1), (rl2, w2, h2, cs2, x2, y2, wy2), (rl3, w3, h3, cs3, x3, y3, wy3), (rl4, w4, h4, cs4, x4, y4, wy4), H, P1, P2, P3, P4 => by
    obtain ⟨hR, hw, hh, hs, hcs, hx, hy, hwy⟩ : WorldOk rl w h cs x y wy := H
    obtain ⟨a1, b1, d1, s1, c1, p1, q1⟩ := P1
    obtain ⟨a2, b2, d2, s2, c2, p2, q2⟩ := P2
    obtain ⟨a3, b3, d3, s3, c3, p3, q3⟩ := P3
    obtain ⟨a4, b4, d4, s4, c4, p4, q4⟩ := P4
    simp only [turnS, Prod.mk.injEq] at a1 a2 a3 a4 b1 b2 b3 b4 d1 d2 d3 d4 p1 p2 p3 p4 q1 q2 q3 q4 s1 s2 s3 s4 c1 c2 c3 c4
    obtain rfl := a1.symm
    obtain rfl := b1.symm
    obtain rfl := d1.symm
    obtain rfl := a2.symm
    obtain rfl := b2.symm
    obtain rfl := d2.symm
    obtain rfl := a3.symm
    obtain rfl := b3.symm
    obtain rfl := d3.symm
    obtain rfl := a4.symm
    obtain rfl := b4.symm
    obtain rfl := d4.symm
    have ex : x4 = x := by omega
    have ey : y4 = y := by omega
    have ew : wy4 = wy := by omega
    have ec : cs4 = cs := ba_of_cells hw hh s4 hs fun a b hab => by
      obtain ⟨ha, hb⟩ := hab
      have k1 := c1 a b ⟨ha, hb⟩
      have k2 := c2 (h - 1 - b) a ⟨by omega, by omega⟩
      have k3 := c3 (w - 1 - a) (h - 1 - b) ⟨by omega, by omega⟩
      have k4 := c4 (h - 1 - (h - 1 - b)) (w - 1 - a) ⟨by omega, by omega⟩
      rw [show w - 1 - (w - 1 - a) = a by omega, show h - 1 - (h - 1 - b) = b by omega] at k4
      rw [show h - 1 - (h - 1 - b) = b by omega] at k3
      rw [k4, k3, k2, k1]
    rw [ex, ey, ew, ec]
theorem mir2 : ∀ {W V1 V2 : Wo}, OkO W → Pic (mirS W.2.1) W.2.1 W.2.2.1 W V1 → Pic (mirS W.2.1) W.2.1 W.2.2.1 V1 V2 → V2 = W
  | (rl, w, h, cs, x, y, wy), (rl1, w1, h1, cs1, x1, y1, wy1), (rl2, w2, h2, cs2, x2, y2, wy2), H, P1, P2 => by
    obtain ⟨hR, hw, hh, hs, hcs, hx, hy, hwy⟩ : WorldOk rl w h cs x y wy := H
    obtain ⟨a1, b1, d1, s1, c1, p1, q1⟩ := P1
    obtain ⟨a2, b2, d2, s2, c2, p2, q2⟩ := P2
    simp only [mirS, Prod.mk.injEq] at a1 a2 b1 b2 d1 d2 p1 p2 q1 q2 s1 s2 c1 c2
    obtain rfl := a1.symm
    obtain rfl := b1.symm
    obtain rfl := d1.symm
    obtain rfl := b2.symm
    obtain rfl := d2.symm
    subst a2
    have ex : x2 = x := by omega
    have ey : y2 = y := by omega
    have ew : wy2 = wy := by omega
    have ec : cs2 = cs := ba_of_cells hw hh s2 hs fun a b hab => by
      obtain ⟨ha, hb⟩ := hab
      have k1 := c1 a b ⟨ha, hb⟩
      have k2 := c2 (w - 1 - a) b ⟨by omega, by omega⟩
      rw [show w - 1 - (w - 1 - a) = a by omega] at k2
      rw [k2, k1]
    rw [ex, ey, ew, ec, oth_oth]
theorem there_back {n M r : Int} (h : 0 ≤ n ∧ n ≤ M - 1) (hr : 0 ≤ r ∧ r ≤ M - 1) : ((n + r) % M + (M - r) % M) % M = n := by
  rw [← Int.add_emod, show n + r + (M - r) = n + M by omega, Int.add_emod_right, Int.emod_eq_of_lt h.1 (by omega)]
theorem shi2 : ∀ {W V1 V2 : Wo} {r d : Int}, OkO W → InR W.2.1 W.2.2.1 r d → Pic (shiS W.2.1 W.2.2.1 r d) W.2.1 W.2.2.1 W V1 → Pic (shiS W.2.1 W.2.2.1 ((W.2.1 - r) % W.2.1) ((W.2.2.1 - d) % W.2.2.1)) W.2.1 W.2.2.1 V1 V2 → V2 = W
  | (rl, w, h, cs, x, y, wy), (rl1, w1, h1, cs1, x1, y1, wy1), (rl2, w2, h2, cs2, x2, y2, wy2), r, d, H, hrd, P1, P2 => by
    obtain ⟨hR, hw, hh, hs, hcs, hx, hy, hwy⟩ : WorldOk rl w h cs x y wy := H
    obtain ⟨hr, hd⟩ : InR w h r d := hrd
    obtain ⟨a1, b1, d1, s1, c1, p1, q1⟩ := P1
    obtain ⟨a2, b2, d2, s2, c2, p2, q2⟩ := P2
    simp only [shiS, Prod.mk.injEq] at a1 a2 b1 b2 d1 d2 p1 p2 q1 q2 s1 s2 c1 c2
    obtain rfl := a1.symm
    obtain rfl := b1.symm
    obtain rfl := d1.symm
    obtain rfl := a2.symm
    obtain rfl := b2.symm
    obtain rfl := d2.symm
    have ex : x2 = x := by rw [p2.1, p1.1]; exact there_back hx hr
    have ey : y2 = y := by rw [p2.2, p1.2]; exact there_back hy hd
    have ew : wy2 = wy := by omega
    have ec : cs2 = cs := ba_of_cells hw hh s2 hs fun a b hab => by
      obtain ⟨ha, hb⟩ := hab
      have k1 := c1 a b ⟨ha, hb⟩
      have k2 := c2 ((a + r) % w) ((b + d) % h) ⟨(shift_inv ha hr).1, (shift_inv hb hd).1⟩
      rw [there_back ha hr, there_back hb hd] at k2
      rw [k2, k1]
    rw [ex, ey, ew, ec]
/-- A picture of the cells alone. -/
def PicC (S : Sym) (w h : Int) (cs : ByteArray) (w' h' : Int) (cs' : ByteArray) : Prop := (cs'.size : Int) = w' * h' ∧ ∀ a b, InR w h a b → cs'.data.toList[((S.f a b).2 * w' + (S.f a b).1).toNat]? = cs.data.toList[(b * w + a).toNat]?
theorem picC_unique {S : Sym} {w h w' h' : Int} (hw' : 1 ≤ w' ∧ w' ≤ 9) (hh' : 1 ≤ h' ∧ h' ≤ 9) {cs c1 c2 : ByteArray} (O : SymOk S w h w' h') (P : PicC S w h cs w' h' c1) (Q : PicC S w h cs w' h' c2) : c1 = c2 :=
  ba_of_cells hw' hh' P.1 Q.1 fun a b hab => by
    obtain ⟨g1, g2⟩ := O.bwd a b hab
    have q1 := P.2 _ _ g1
    have q2 := Q.2 _ _ g1
    rw [g2] at q1 q2
    rw [q1, q2]
/-- Cells laid one by one, in order of their numbers. -/
def Laid (S : Sym) (w h : Int) (cs : ByteArray) (w' h' : Int) (i : Int) (cs' : ByteArray) : Prop := (cs'.size : Int) = w' * h' ∧ ∀ a b, InR w h a b → b * w + a < i → cs'.data.toList[((S.f a b).2 * w' + (S.f a b).1).toNat]? = cs.data.toList[(b * w + a).toNat]?
theorem Laid.start {S : Sym} {w h w' h' : Int} {cs cs' : ByteArray} (hw : 1 ≤ w) (hz : (cs'.size : Int) = w' * h') : Laid S w h cs w' h' 0 cs' := ⟨hz, fun a b hab hi => by
  have := Int.mul_nonneg hab.2.1 (show 0 ≤ w by omega)
  have := hab.1.1
  omega⟩
theorem Laid.next {S : Sym} {w h w' h' : Int} (hw : 1 ≤ w ∧ w ≤ 9) (hh : 1 ≤ h ∧ h ≤ 9) (hw' : 1 ≤ w' ∧ w' ≤ 9) (hh' : 1 ≤ h' ∧ h' ≤ 9) (O : SymOk S w h w' h') {cs cs' : ByteArray} {x y : Int} {c : UInt8} (hxy : InR w h x y) (hc : cs.data.toList[(y * w + x).toNat]? = some c) (L : Laid S w h cs w' h' (y * w + x) cs') :
    Laid S w h cs w' h' (y * w + x + 1) (setByte cs' ((S.f x y).2 * w' + (S.f x y).1).toNat c) := by
  obtain ⟨hz, hl⟩ := L
  refine ⟨by rw [setByte_size]; exact hz, fun a b hab hi => ?_⟩
  obtain ⟨f1, f2⟩ := O.fwd x y hxy
  obtain ⟨g1, g2⟩ := O.fwd a b hab
  obtain ⟨b1, b2, b3, b4⟩ := at_range f1.1 f1.2 hw' hh'
  obtain ⟨i1, i2, i3, i4⟩ := at_range g1.1 g1.2 hw' hh'
  unfold setByte
  rw [List.toList_toArray, List.getElem?_set]
  by_cases e : a = x ∧ b = y
  · obtain ⟨rfl, rfl⟩ := e
    rw [if_pos rfl, if_pos (by rw [← size_list]; omega), hc]
  · have n2 : ¬ ((S.f x y).2 * w' + (S.f x y).1).toNat = ((S.f a b).2 * w' + (S.f a b).1).toNat := fun h => e (by
      have := (at_inj (y := (S.f x y).2) (y' := (S.f a b).2) f1.1 g1.1).1 (by omega)
      rw [this.1, this.2, g2] at f2
      exact ⟨congrArg Prod.fst f2, congrArg Prod.snd f2⟩)
    rw [if_neg n2]
    refine hl a b hab ?_
    have n1 : ¬ (b * w + a = y * w + x) := fun h => e ((at_inj hab.1 hxy.1).1 h)
    omega
theorem Laid.done {S : Sym} {w h w' h' : Int} (hw : 1 ≤ w ∧ w ≤ 9) (hh : 1 ≤ h ∧ h ≤ 9) {cs cs' : ByteArray} (L : Laid S w h cs w' h' (w * h) cs') : PicC S w h cs w' h' cs' := ⟨L.1, fun a b hab => L.2 a b hab (by
  obtain ⟨a1, a2, a3, a4⟩ := at_range hab.1 hab.2 hw hh
  omega)⟩
end Go.Proofs.YtkaiidmnigpicaaGreatDoorS
