/- Several texts in one: PuWormDie, PuWormLaw, PuWmA, PuWmB, PuWmC, PuWmD, PuWormDraw, PuWmE, PuWmF. -/
import Derived.Test.YtplamonjnlgomaaGreatDoorPuWorm
import Derived.Test.YtplamonjnlgomaaGreatDoorPuCur
import Derived.Test.YtplamonjnlgomaaGreatDoorSimRp
namespace Go.Proofs.YtplamonjnlgomaaGreatDoorS
open Go
set_option linter.unusedVariables false
set_option linter.unusedSimpArgs false

abbrev WT : Type := Int × Int × ByteArray × ByteArray × Int × Int × Int
def OkW (W : WT) : Prop := WormOk W.1 W.2.1 W.2.2.1 W.2.2.2.1 W.2.2.2.2.1 W.2.2.2.2.2.1 W.2.2.2.2.2.2
def onesW (W : WT) : Nat := ones W.2.2.1 + ones W.2.2.2.1
def nodeW (W : WT) : Int := W.2.2.2.2.2.1 * W.1 + W.2.2.2.2.1
def hasW (W : WT) (x y way : Int) : Bool := hasB W.1 W.2.1 W.2.2.1 W.2.2.2.1 x y way
def Stuck (ts : ByteArray) (W : WT) : Prop := Ev (fun k => spec_wmEat k (W, ts)) (ByteArray.empty, W) ∧ Ev (fun k => impl_Worm_eat k (W, ts)) (zeroW, 0, false) ∧ ∀ c ∈ ts.data.toList, hasW W W.2.2.2.2.1 W.2.2.2.2.2.1 ((W.2.2.2.2.2.2 + quartersB (c.toNat : Int)) % 4) = false
def Bite (ts : ByteArray) (W : WT) (c : UInt8) (V : WT) : Prop := ∃ wz, c ∈ ts.data.toList ∧ wz = (W.2.2.2.2.2.2 + quartersB (c.toNat : Int)) % 4 ∧ hasW W W.2.2.2.2.1 W.2.2.2.2.2.1 wz = true ∧
  V = (W.1, W.2.1, setR W.1 W.2.1 W.2.2.1 W.2.2.2.2.1 W.2.2.2.2.2.1 wz 0, setD W.1 W.2.1 W.2.2.2.1 W.2.2.2.2.1 W.2.2.2.2.2.1 wz 0, go1 W.2.2.2.2.1 W.1 (1 * dxW wz), go1 W.2.2.2.2.2.1 W.2.1 (1 * dyW wz), wz)
def Eats (ts : ByteArray) (W : WT) (c : UInt8) (V : WT) : Prop := Ev (fun k => spec_wmEat k (W, ts)) (ofBytes [(c.toNat : Int)], V) ∧ Ev (fun k => impl_Worm_eat k (W, ts)) (V, (c.toNat : Int), true) ∧ OkW V ∧ onesW V + 1 = onesW W ∧ Bite ts W c V
theorem eat_or (ts : ByteArray) (hts : ∀ c ∈ ts.data.toList, c.toNat < 128) (hsz : ts.size ≤ 1048576) : ∀ W : WT, OkW W → Stuck ts W ∨ ∃ c V, Eats ts W c V := by
  rintro ⟨w, h, ri, dn, x, y, wy⟩ H
  rcases eat_full w h ri dn x y wy H ts hts hsz with ⟨h1, h2, h3⟩ | ⟨c, ri', dn', x', y', wy', h1, h2, h3, h4, h5, h6, h7, rfl, rfl, rfl, rfl, _⟩
  · exact .inl ⟨h1, h2, h3⟩
  · exact .inr ⟨c, _, h1, h2, h3, h4, wy', h5, h6, h7, rfl⟩
inductive Lives (ts : ByteArray) : WT → WT → List Int → List Int → Prop
  | dead {W : WT} : Stuck ts W → Lives ts W W [] []
  | step {W V D : WT} {c : UInt8} {tr ml : List Int} : Eats ts W c V → Lives ts V D tr ml → Lives ts W D (nodeW V :: tr) ((c.toNat : Int) :: ml)
theorem lives_ex (ts : ByteArray) (hts : ∀ c ∈ ts.data.toList, c.toNat < 128) (hsz : ts.size ≤ 1048576) : ∀ (m : Nat) (W : WT), OkW W → onesW W = m → ∃ D tr ml, Lives ts W D tr ml
  | 0, W, H, hm => by
    rcases eat_or ts hts hsz W H with h | ⟨c, V, h⟩
    · exact ⟨_, _, _, .dead h⟩
    · have := h.2.2.2.1
      omega
  | m + 1, W, H, hm => by
    rcases eat_or ts hts hsz W H with h | ⟨c, V, h⟩
    · exact ⟨_, _, _, .dead h⟩
    · obtain ⟨D, tr, ml, hl⟩ := lives_ex ts hts hsz m V h.2.2.1 (by have := h.2.2.2.1; omega)
      exact ⟨_, _, _, .step h hl⟩
theorem Lives.facts {ts : ByteArray} {W D : WT} {tr ml : List Int} (H : Lives ts W D tr ml) : OkW W → OkW D ∧ onesW D + ml.length = onesW W ∧ tr.length = ml.length ∧ Stuck ts D ∧ (nodeW W :: tr)[ml.length]? = some (nodeW D) ∧ ∀ c ∈ ml, 0 ≤ c ∧ c < 256 := by
  induction H with
  | dead h => exact fun H => ⟨H, rfl, rfl, h, rfl, fun c hc => by cases hc⟩
  | @step W V D c tr ml h hl ih =>
    intro H
    obtain ⟨a1, a2, a3, a4, a5, a6⟩ := ih h.2.2.1
    refine ⟨a1, ?_, by simp only [List.length_cons, a3], a4, ?_, fun c' hc => ?_⟩
    · have := h.2.2.2.1
      simp only [List.length_cons]
      omega
    · simp only [List.length_cons, List.getElem?_cons_succ]
      exact a5
    · rcases List.mem_cons.1 hc with rfl | hc
      · have := c.toNat_lt
        omega
      · exact a6 c' hc
theorem ones_small {W : WT} (H : OkW W) : onesW W ≤ 72 := by
  have hw := H.1
  have hh := H.2.1
  have hs := H.2.2.1
  have hm6 : W.1 * W.2.1 ≤ 36 := by have := Int.mul_le_mul hw.2 hh.2 (by omega) (by omega); omega
  have o1 := ones_le W.2.2.1
  have o2 := ones_le W.2.2.2.1
  unfold onesW
  omega
theorem node64 {W : WT} (H : OkW W) : w64 (w64 (W.2.2.2.2.2.1 * W.1) + W.2.2.2.2.1) = nodeW W := at64 H.2.2.2.2.1 H.2.2.2.2.2.1 (by have := H.1; omega) (by have := H.2.1; omega)
theorem node_ev' (w h : Int) (ri dn : ByteArray) (x y wy : Int) (e : w64 (w64 (y * w) + x) = y * w + x) : Ev (fun k => impl_Worm_node k (w, h, ri, dn, x, y, wy)) (y * w + x) :=
  Ev.step (fun k => impl_Worm_node.eq k w h ri dn x y wy) (Ev.bind (Ev.step (fun k => impl_Worm_world.eq k w h ri dn x y wy) (Ev.now _)) (Ev.bind (Ev.step (fun k => impl_World_at.eq k _ w h _ x y wy) (Ev.now' e)) (Ev.now _)))
theorem node_ev : ∀ W : WT, OkW W → Ev (fun k => impl_Worm_node k W) (nodeW W)
  | (w, h, ri, dn, x, y, wy), H => by
    obtain ⟨hw, hh, _, _, hx, hy, _⟩ : WormOk w h ri dn x y wy := H
    have e : w64 (w64 (y * w) + x) = y * w + x := at64 hx hy (by omega) (by omega)
    exact node_ev' w h ri dn x y wy e
theorem Lives.loops {ts : ByteArray} {W D : WT} {tr ml : List Int} (H : Lives ts W D tr ml) : OkW W → ∀ track meals : List Int, meals.length + ml.length ≤ 200 → track.length = meals.length + 1 →
    Ev (fun k => spec_wmLife_l k (ts, W, zeroW, ofBytes meals, track)) (D, ofBytes (meals ++ ml), track ++ tr) ∧ Ev (fun k => impl_Worm_life_l k (ts, W, zeroW, track, meals)) (D, track ++ tr, ofBytes (meals ++ ml)) := by
  induction H with
  | @dead W h =>
    intro H track meals hl ht
    obtain ⟨w, h', ri, dn, x, y, wy⟩ := W
    rw [List.append_nil, List.append_nil]
    exact ⟨Ev.step (fun k => spec_wmLife_l.eq k ts w h' ri dn x y wy 0 0 ByteArray.empty ByteArray.empty 0 0 0 (ofBytes meals) track) (Ev.bind h.1 (Ev.yes (strEq_self _) (Ev.now _))),
      Ev.step (fun k => impl_Worm_life_l.eq k ts w h' ri dn x y wy 0 0 ByteArray.empty ByteArray.empty 0 0 0 track meals) (Ev.bind h.2.1 (Ev.yes rfl (Ev.now _)))⟩
  | @step W V D c tr ml h hl ih =>
    intro H track meals hle ht
    have hV := h.2.2.1
    have e64 := node64 hV
    simp only [List.length_cons] at hle
    obtain ⟨q1, q2⟩ := ih hV (track ++ [nodeW V]) (meals ++ [(c.toNat : Int)]) (by simp; omega) (by simp; omega)
    have hsm : (ofBytes meals).size = meals.length := by rw [size_list]; unfold ofBytes; simp
    obtain ⟨w, h', ri, dn, x, y, wy⟩ := W
    have a1 : track ++ [nodeW V] ++ tr = track ++ nodeW V :: tr := by simp
    have a2 : meals ++ [(c.toNat : Int)] ++ ml = meals ++ (c.toNat : Int) :: ml := by simp
    rw [a1, a2] at q1 q2
    have hN := node_ev V hV
    refine ⟨?_, ?_⟩
    · refine Ev.step (fun k => spec_wmLife_l.eq k ts w h' ri dn x y wy 0 0 ByteArray.empty ByteArray.empty 0 0 0 (ofBytes meals) track) (Ev.bind h.1 (Ev.no (one_byte _) (Ev.yes (fitS_of ?_) (Ev.yes (fits_of (by omega)) ?_))))
      · show (ofBytes meals).size + 1 < _
        omega
      · obtain ⟨w, h', ri, dn, x, y, wy⟩ := V
        simp only [e64, ofBytes_append]
        exact q1
    · refine Ev.step (fun k => impl_Worm_life_l.eq k ts w h' ri dn x y wy 0 0 ByteArray.empty ByteArray.empty 0 0 0 track meals) (Ev.bind h.2.1 (Ev.no rfl (Ev.bind hN (Ev.yes (fits_of (by omega)) (Ev.yes (fits_of (by omega)) ?_)))))
      exact q2
theorem Lives.life {ts : ByteArray} {W D : WT} {tr ml : List Int} (L : Lives ts W D tr ml) (H : OkW W) : Ev (fun k => spec_wmLife k (W, ts)) (D, ofBytes ml, nodeW W :: tr) ∧ Ev (fun k => impl_Worm_life k (W, ts)) (D, nodeW W :: tr, ofBytes ml) := by
  have h72 := ones_small H
  have hf := (L.facts H).2.1
  obtain ⟨q1, q2⟩ := L.loops H [nodeW W] [] (by simp; omega) rfl
  have e64 := node64 H
  have hN := node_ev W H
  obtain ⟨w, h, ri, dn, x, y, wy⟩ := W
  refine ⟨Ev.step (fun k => spec_wmLife.eq k w h ri dn x y wy ts) ?_, Ev.step (fun k => impl_Worm_life.eq k w h ri dn x y wy ts) (Ev.bind hN (Ev.bind q2 (Ev.now _)))⟩
  simp only [e64]
  exact Ev.bind q1 (Ev.now _)
/-! ### Lines: which node has which -/
theorem go1_inv {n m M : Int} (hn : 0 ≤ n ∧ n ≤ M - 1) (hm : 0 ≤ m ∧ m ≤ M - 1) : (go1 n M (-1) = m ↔ n = go1 m M 1) ∧ (go1 n M 1 = m ↔ n = go1 m M (-1)) := by
  unfold go1
  constructor <;> split <;> first | omega | (split <;> first | omega | (split <;> first | omega | (split <;> omega)))
theorem go1_inj {n m M : Int} (hn : 0 ≤ n ∧ n ≤ M - 1) (hm : 0 ≤ m ∧ m ≤ M - 1) : go1 n M (-1) = go1 m M (-1) ↔ n = m := by
  constructor
  · unfold go1
    split <;> first | omega | (split <;> first | omega | (split <;> first | omega | (split <;> omega)))
  · rintro rfl
    rfl
theorem at_inj {x y x' y' w : Int} (hx : 0 ≤ x ∧ x ≤ w - 1) (hx' : 0 ≤ x' ∧ x' ≤ w - 1) : y * w + x = y' * w + x' ↔ x = x' ∧ y = y' := by
  constructor
  · intro h
    have key : ∀ a b c d : Int, 0 ≤ c → c ≤ w - 1 → 0 ≤ d → d ≤ w - 1 → a * w + c = b * w + d → ¬ a < b := fun a b c d h1 h2 h3 h4 h5 h6 => by
      have := Int.mul_le_mul_of_nonneg_right (show a + 1 ≤ b by omega) (show 0 ≤ w by omega)
      rw [Int.add_mul, Int.one_mul] at this
      omega
    have k1 := key y y' x x' hx.1 hx.2 hx'.1 hx'.2 h
    have k2 := key y' y x' x hx'.1 hx'.2 hx.1 hx.2 h.symm
    obtain rfl : y = y' := by omega
    exact ⟨by omega, rfl⟩
  · rintro ⟨rfl, rfl⟩
    rfl
def opW (way : Int) : Int := if way = 0 then 2 else if way = 1 then 3 else if way = 2 then 0 else 1
theorem opW_range (way : Int) : 0 ≤ opW way ∧ opW way ≤ 3 := by
  unfold opW
  split <;> first | omega | (split <;> first | omega | (split <;> omega))
theorem opW_eq {way : Int} (h : 0 ≤ way ∧ way ≤ 3) : (way + 2) % 4 = opW way := by
  have : way = 0 ∨ way = 1 ∨ way = 2 ∨ way = 3 := by omega
  rcases this with rfl | rfl | rfl | rfl <;> rfl
theorem edge_iff {w h x y wz u v way : Int} (hw : 3 ≤ w ∧ w ≤ 6) (hh : 3 ≤ h ∧ h ≤ 6) (hx : 0 ≤ x ∧ x ≤ w - 1) (hy : 0 ≤ y ∧ y ≤ h - 1) (hz : 0 ≤ wz ∧ wz ≤ 3) (hu : 0 ≤ u ∧ u ≤ w - 1) (hv : 0 ≤ v ∧ v ≤ h - 1) (hway : 0 ≤ way ∧ way ≤ 3) :
    (lnD way = lnD wz ∧ lnK w h u v way = lnK w h x y wz) ↔ (u = x ∧ v = y ∧ way = wz) ∨ (u = go1 x w (1 * dxW wz) ∧ v = go1 y h (1 * dyW wz) ∧ way = opW wz) := by
  have gx := go1_in (d := -1) hx (by omega)
  have gy := go1_in (d := -1) hy (by omega)
  have gu := go1_in (d := -1) hu (by omega)
  have gv := go1_in (d := -1) hv (by omega)
  have i1 := go1_inv hu hx
  have i2 := go1_inv hv hy
  have j1 := go1_inv hx hu
  have j2 := go1_inv hy hv
  have z1 := go1_zero hx
  have z2 := go1_zero hy
  have n1 := go1_inj hu hx
  have n2 := go1_inj hv hy
  have c1 : way = 0 ∨ way = 1 ∨ way = 2 ∨ way = 3 := by omega
  have c2 : wz = 0 ∨ wz = 1 ∨ wz = 2 ∨ wz = 3 := by omega
  have kk : ∀ a b c d : Int, 0 ≤ b ∧ b ≤ w - 1 → 0 ≤ d ∧ d ≤ w - 1 → (a * w + b = c * w + d ↔ b = d ∧ a = c) := fun a b c d h1 h2 => at_inj h1 h2
  have D1 : (1 : Int) * dxW 0 = 0 ∧ (1 : Int) * dxW 1 = 1 ∧ (1 : Int) * dxW 2 = 0 ∧ (1 : Int) * dxW 3 = -1 := by decide
  have D2 : (1 : Int) * dyW 0 = -1 ∧ (1 : Int) * dyW 1 = 0 ∧ (1 : Int) * dyW 2 = 1 ∧ (1 : Int) * dyW 3 = 0 := by decide
  have K0 : ∀ a b : Int, lnK w h a b 0 = go1 b h (-1) * w + a := fun a b => rfl
  have K1 : ∀ a b : Int, lnK w h a b 1 = b * w + a := fun a b => rfl
  have K2 : ∀ a b : Int, lnK w h a b 2 = b * w + a := fun a b => rfl
  have K3 : ∀ a b : Int, lnK w h a b 3 = b * w + go1 a w (-1) := fun a b => rfl
  have L : lnD 0 = true ∧ lnD 1 = false ∧ lnD 2 = true ∧ lnD 3 = false := ⟨rfl, rfl, rfl, rfl⟩
  have O : opW 0 = 2 ∧ opW 1 = 3 ∧ opW 2 = 0 ∧ opW 3 = 1 := ⟨rfl, rfl, rfl, rfl⟩
  rcases c1 with rfl | rfl | rfl | rfl <;> rcases c2 with rfl | rfl | rfl | rfl <;> simp only [D1, D2, K0, K1, K2, K3, L, O, z1, z2, kk _ _ _ _ hu hx, kk _ _ _ _ hu gx, kk _ _ _ _ gu hx, kk _ _ _ _ gu gx, n1, n2, i1.1, i2.1, true_and, and_true, false_and, and_false, or_false, false_or, reduceCtorEq]
  all_goals first | omega | simp
theorem bt_set {s : ByteArray} {k : Nat} (j : Nat) (hk : k < s.size) (c : UInt8) : bt (setByte s k c) j = if j = k then (c.toNat : Int) else bt s j := by
  unfold bt setByte
  show ((((s.data.toList.set k c).toArray).getD j 0).toNat : Int) = _
  rw [Array.getD_eq_getD_getElem?, Array.getD_eq_getD_getElem?, List.getElem?_toArray, List.getElem?_set, ← Array.getElem?_toList]
  rw [size_list] at hk
  by_cases h : j = k
  · subst h
    have hk' : j < s.size := by rw [size_list]; exact hk
    simp [hk, hk']
  · rw [if_neg (fun e => h e.symm), if_neg h]
theorem has_same {W : WT} {u v way x y wz : Int} (h : lnD way = lnD wz ∧ lnK W.1 W.2.1 u v way = lnK W.1 W.2.1 x y wz) : hasW W u v way = hasW W x y wz := by
  unfold hasW hasB
  rw [h.1, h.2]
theorem has_bite {ts : ByteArray} {W V : WT} {c : UInt8} (H : OkW W) (B : Bite ts W c V) {u v way : Int} (hu : 0 ≤ u ∧ u ≤ W.1 - 1) (hv : 0 ≤ v ∧ v ≤ W.2.1 - 1) (hway : 0 ≤ way ∧ way ≤ 3) :
    hasW V u v way = (hasW W u v way && !decide ((u = W.2.2.2.2.1 ∧ v = W.2.2.2.2.2.1 ∧ way = V.2.2.2.2.2.2) ∨ (u = V.2.2.2.2.1 ∧ v = V.2.2.2.2.2.1 ∧ way = opW V.2.2.2.2.2.2))) := by
  obtain ⟨w, h, ri, dn, x, y, wy⟩ := W
  obtain ⟨wz, h1, h2, h3, rfl⟩ := B
  obtain ⟨hw, hh, ⟨hri, hdn⟩, ⟨cri, cdn⟩, hx, hy, hwy⟩ := id H
  obtain ⟨q0, q3⟩ := quartersB_range (c.toNat : Int)
  simp only at hw hh hri hdn hx hy hwy h2 h3 hu hv
  have hz : 0 ≤ wz ∧ wz ≤ 3 := by omega
  have e := edge_iff hw hh hx hy hz hu hv hway
  obtain ⟨k1, k2⟩ := lnK_range (w := w) (h := h) (way := wz) hx hy (by omega) (by omega)
  obtain ⟨l1, l2⟩ := lnK_range (w := w) (h := h) (way := way) hu hv (by omega) (by omega)
  show hasB w h (setR w h ri x y wz 0) (setD w h dn x y wz 0) u v way = (hasB w h ri dn u v way && !decide ((u = x ∧ v = y ∧ way = wz) ∨ (u = go1 x w (1 * dxW wz) ∧ v = go1 y h (1 * dyW wz) ∧ way = opW wz)))
  have e' : decide (lnD way = lnD wz ∧ lnK w h u v way = lnK w h x y wz) = decide ((u = x ∧ v = y ∧ way = wz) ∨ (u = go1 x w (1 * dxW wz) ∧ v = go1 y h (1 * dyW wz) ∧ way = opW wz)) := decide_eq_decide.2 e
  rw [← e']
  have e49 : (((UInt8.ofNat ((48 : Int) + 0).toNat).toNat : Int) == 49) = false := by decide
  have one : ∀ s : ByteArray, (s.size : Int) = w * h → (bt (setByte s (lnK w h x y wz).toNat (UInt8.ofNat ((48 : Int) + 0).toNat)) (lnK w h u v way).toNat == 49) = ((bt s (lnK w h u v way).toNat == 49) && !decide (lnK w h u v way = lnK w h x y wz)) := fun s hs => by
    rw [bt_set _ (by omega)]
    by_cases hk : lnK w h u v way = lnK w h x y wz
    · rw [if_pos (by rw [hk]), e49, decide_eq_true hk]
      simp
    · rw [if_neg (by omega), decide_eq_false hk]
      simp
  unfold hasB setR setD
  rcases Bool.eq_false_or_eq_true (lnD way) with hD | hD <;> rcases Bool.eq_false_or_eq_true (lnD wz) with hZ | hZ <;> simp only [hD, hZ]
  · simp only [if_true, true_and]
    exact one dn hdn
  · simp
  · simp
  · simp only [Bool.false_eq_true, if_false, true_and]
    exact one ri hri
theorem moved_off {x y w h wz : Int} (hw : 3 ≤ w ∧ w ≤ 6) (hh : 3 ≤ h ∧ h ≤ 6) (hx : 0 ≤ x ∧ x ≤ w - 1) (hy : 0 ≤ y ∧ y ≤ h - 1) (hz : 0 ≤ wz ∧ wz ≤ 3) : ¬ (x = go1 x w (1 * dxW wz) ∧ y = go1 y h (1 * dyW wz)) := by
  have c2 : wz = 0 ∨ wz = 1 ∨ wz = 2 ∨ wz = 3 := by omega
  have D1 : (1 : Int) * dxW 1 = 1 ∧ (1 : Int) * dxW 3 = -1 := by decide
  have D2 : (1 : Int) * dyW 0 = -1 ∧ (1 : Int) * dyW 2 = 1 := by decide
  rintro ⟨h1, h2⟩
  rcases c2 with rfl | rfl | rfl | rfl
  · rw [D2.1] at h2
    unfold go1 at h2
    split at h2
    · omega
    · split at h2 <;> omega
  · rw [D1.1] at h1
    unfold go1 at h1
    split at h1
    · omega
    · split at h1 <;> omega
  · rw [D2.2] at h2
    unfold go1 at h2
    split at h2
    · omega
    · split at h2 <;> omega
  · rw [D1.2] at h1
    unfold go1 at h1
    split at h1
    · omega
    · split at h1 <;> omega
def parW (W : WT) (u v : Int) : Bool := Bool.xor (Bool.xor (hasW W u v 0) (hasW W u v 1)) (Bool.xor (hasW W u v 2) (hasW W u v 3))
theorem par_bite {ts : ByteArray} {W V : WT} {c : UInt8} (H : OkW W) (B : Bite ts W c V) {u v : Int} (hu : 0 ≤ u ∧ u ≤ W.1 - 1) (hv : 0 ≤ v ∧ v ≤ W.2.1 - 1) :
    parW V u v = Bool.xor (parW W u v) (Bool.xor (decide (u = W.2.2.2.2.1 ∧ v = W.2.2.2.2.2.1)) (decide (u = V.2.2.2.2.1 ∧ v = V.2.2.2.2.2.1))) := by
  have hb := fun (way : Int) (h : 0 ≤ way ∧ way ≤ 3) => has_bite H B hu hv h
  obtain ⟨w, h, ri, dn, x, y, wy⟩ := W
  obtain ⟨wz, h1, h2, h3, rfl⟩ := B
  obtain ⟨hw, hh, ⟨hri, hdn⟩, ⟨cri, cdn⟩, hx, hy, hwy⟩ := id H
  obtain ⟨q0, q3⟩ := quartersB_range (c.toNat : Int)
  simp only at hw hh hri hdn hx hy hwy h2 h3 hu hv hb ⊢
  have hz : 0 ≤ wz ∧ wz ≤ 3 := by omega
  clear h2
  have off := moved_off hw hh hx hy hz
  obtain ⟨⟨d1, d2⟩, d3, d4⟩ := dW_range wz
  have gx := go1_in (d := 1 * dxW wz) hx (by omega)
  have gy := go1_in (d := 1 * dyW wz) hy (by omega)
  have hop := opW_range wz
  have e := (edge_iff hw hh hx hy hz gx gy hop).2 (.inr ⟨rfl, rfl, rfl⟩)
  have h4 : hasW (w, h, ri, dn, x, y, wy) (go1 x w (1 * dxW wz)) (go1 y h (1 * dyW wz)) (opW wz) = true := (has_same e).trans h3
  generalize go1 x w (1 * dxW wz) = x' at *
  generalize go1 y h (1 * dyW wz) = y' at *
  unfold parW
  rw [hb 0 (by omega), hb 1 (by omega), hb 2 (by omega), hb 3 (by omega)]
  have c2 : wz = 0 ∨ wz = 1 ∨ wz = 2 ∨ wz = 3 := by omega
  have O : opW 0 = 2 ∧ opW 1 = 3 ∧ opW 2 = 0 ∧ opW 3 = 1 := ⟨rfl, rfl, rfl, rfl⟩
  by_cases P : u = x ∧ v = y
  · obtain ⟨rfl, rfl⟩ := P
    have Q : ∀ p : Prop, ¬ (u = x' ∧ v = y' ∧ p) := fun p q => off ⟨q.1, q.2.1⟩
    simp only [Q, or_false, true_and, and_self, decide_true, decide_eq_false off]
    rcases c2 with rfl | rfl | rfl | rfl <;> simp [h3]
  · have P' : ∀ p : Prop, ¬ (u = x ∧ v = y ∧ p) := fun p q => P ⟨q.1, q.2.1⟩
    by_cases Q : u = x' ∧ v = y'
    · obtain ⟨rfl, rfl⟩ := Q
      simp only [P', false_or, true_and, and_self, decide_true, decide_eq_false P]
      rcases c2 with rfl | rfl | rfl | rfl <;> simp only [O] at h4 ⊢ <;> simp [h4]
    · have Q' : ∀ p : Prop, ¬ (u = x' ∧ v = y' ∧ p) := fun p q => Q ⟨q.1, q.2.1⟩
      simp [P', Q', P, Q]
def backW (W : WT) : Prop := hasW W W.2.2.2.2.1 W.2.2.2.2.2.1 ((W.2.2.2.2.2.2 + 2) % 4) = false
theorem back_bite {ts : ByteArray} {W V : WT} {c : UInt8} (H : OkW W) (HV : OkW V) (B : Bite ts W c V) : backW V := by
  have hw : V.1 = W.1 ∧ V.2.1 = W.2.1 := by obtain ⟨wz, _, _, _, rfl⟩ := B; exact ⟨rfl, rfl⟩
  obtain ⟨_, _, _, _, hx, hy, hwy⟩ := HV
  unfold backW
  rw [opW_eq hwy, has_bite H B (by rw [← hw.1]; exact hx) (by rw [← hw.2]; exact hy) (opW_range _), decide_eq_true (.inr ⟨rfl, rfl, rfl⟩)]
  simp
theorem Lives.home {ts : ByteArray} (t76 : (76 : UInt8) ∈ ts.data.toList) (t78 : (78 : UInt8) ∈ ts.data.toList) (t82 : (82 : UInt8) ∈ ts.data.toList) {W D : WT} {tr ml : List Int} (L : Lives ts W D tr ml) (sx sy : Int) :
    OkW W → (∀ u v, 0 ≤ u ∧ u ≤ W.1 - 1 → 0 ≤ v ∧ v ≤ W.2.1 - 1 → parW W u v = Bool.xor (decide (u = sx ∧ v = sy)) (decide (u = W.2.2.2.2.1 ∧ v = W.2.2.2.2.2.1))) → backW W → D.2.2.2.2.1 = sx ∧ D.2.2.2.2.2.1 = sy := by
  induction L with
  | @dead W h =>
    intro H hp hb
    have s1 := h.2.2 76 t76
    have s2 := h.2.2 78 t78
    have s3 := h.2.2 82 t82
    unfold backW at hb
    obtain ⟨w, h', ri, dn, x, y, wy⟩ := W
    obtain ⟨_, _, _, _, hx, hy, hwy⟩ := H
    have p := hp x y hx hy
    have q1 : quartersB (((76 : UInt8).toNat : Nat) : Int) = 3 := rfl
    have q2 : quartersB (((78 : UInt8).toNat : Nat) : Int) = 0 := rfl
    have q3 : quartersB (((82 : UInt8).toNat : Nat) : Int) = 1 := rfl
    rw [q1] at s1
    rw [q2] at s2
    rw [q3] at s3
    simp only at s1 s2 s3 hb hwy p
    have all : ∀ way, 0 ≤ way ∧ way ≤ 3 → hasW (w, h', ri, dn, x, y, wy) x y way = false := fun way hw => by
      have : way = (wy + 3) % 4 ∨ way = (wy + 0) % 4 ∨ way = (wy + 1) % 4 ∨ way = (wy + 2) % 4 := by omega
      rcases this with e | e | e | e <;> rw [e] <;> assumption
    unfold parW at p
    rw [all 0 (by omega), all 1 (by omega), all 2 (by omega), all 3 (by omega)] at p
    show x = sx ∧ y = sy
    simpa using p
  | @step W V D c tr ml h hl ih =>
    intro H hp hb
    obtain ⟨_, _, HV, _, B⟩ := h
    have hw : V.1 = W.1 ∧ V.2.1 = W.2.1 := by obtain ⟨wz, _, _, _, rfl⟩ := B; exact ⟨rfl, rfl⟩
    refine ih HV (fun u v hu hv => ?_) (back_bite H HV B)
    rw [hw.1] at hu
    rw [hw.2] at hv
    rw [par_bite H B hu hv, hp u v hu hv]
    cases decide (u = sx ∧ v = sy) <;> cases decide (u = W.2.2.2.2.1 ∧ v = W.2.2.2.2.2.1) <;> cases decide (u = V.2.2.2.2.1 ∧ v = V.2.2.2.2.2.1) <;> rfl
theorem all49 {s : ByteArray} (h : ones s = s.size) {i : Nat} (hi : i < s.size) : (bt s i == 49) = true := by
  obtain ⟨c, hc⟩ := byte_at hi
  have h2 := List.count_eq_length.1 (show s.data.toList.count 49 = s.data.toList.length by rw [← size_list]; exact h) c (List.mem_of_getElem? hc)
  rw [bt_at hc, ← h2]
  rfl
theorem fresh_home {ts : ByteArray} (t76 : (76 : UInt8) ∈ ts.data.toList) (t78 : (78 : UInt8) ∈ ts.data.toList) (t82 : (82 : UInt8) ∈ ts.data.toList) {W D : WT} {tr ml : List Int} (L : Lives ts W D tr ml) (H : OkW W) (hf : (onesW W : Int) = 2 * (W.1 * W.2.1)) : nodeW D = nodeW W := by
  have hs := H.2.2.1
  have o1 := ones_le W.2.2.1
  have o2 := ones_le W.2.2.2.1
  have hf' : ((ones W.2.2.1 + ones W.2.2.2.1 : Nat) : Int) = 2 * (W.1 * W.2.1) := hf
  have a1 : ones W.2.2.1 = W.2.2.1.size := by omega
  have a2 : ones W.2.2.2.1 = W.2.2.2.1.size := by omega
  cases L with
  | dead h => rfl
  | @step _ V _ c tr ml h hl =>
    obtain ⟨_, _, HV, _, B⟩ := h
    have hw : V.1 = W.1 ∧ V.2.1 = W.2.1 := by obtain ⟨wz, _, _, _, rfl⟩ := B; exact ⟨rfl, rfl⟩
    have hw3 := H.1
    have hh3 := H.2.1
    have all : ∀ u v way, 0 ≤ u ∧ u ≤ W.1 - 1 → 0 ≤ v ∧ v ≤ W.2.1 - 1 → hasW W u v way = true := fun u v way hu hv => by
      obtain ⟨k1, k2⟩ := lnK_range (w := W.1) (h := W.2.1) (way := way) hu hv (by omega) (by omega)
      unfold hasW hasB
      cases lnD way
      · exact all49 a1 (by omega)
      · exact all49 a2 (by omega)
    obtain ⟨e1, e2⟩ := hl.home t76 t78 t82 W.2.2.2.2.1 W.2.2.2.2.2.1 HV (fun u v hu hv => by
      rw [hw.1] at hu
      rw [hw.2] at hv
      rw [par_bite H B hu hv]
      unfold parW
      rw [all u v 0 hu hv, all u v 1 hu hv, all u v 2 hu hv, all u v 3 hu hv]
      simp) (back_bite H HV B)
    have hD : D.1 = W.1 := by
      have key : ∀ {A B : WT} {tr ml : List Int}, Lives ts A B tr ml → B.1 = A.1 := fun {A B tr ml} L => by
        induction L with
        | dead h => rfl
        | step h hl ih =>
          obtain ⟨_, _, _, _, wz, _, _, _, rfl⟩ := h
          exact ih
      exact (key hl).trans hw.1
    unfold nodeW
    rw [e1, e2, hD]

section
variable (W : WT) (ts : ByteArray) (hr : W.2.2.1.size ≤ 1048576) (hd : W.2.2.2.1.size ≤ 1048576)
include hr hd
theorem askI_ev : EvB (fun k => impl_isTasting k (W, ts)) (OkW W ∧ ts ∈ tasteL) := by
  obtain ⟨w, h, ri, dn, x, y, wy⟩ := W
  exact EvB.step (fun k => impl_isTasting.eq k w h ri dn x y wy ts) (EvB.and (isWorm_ev w h ri dn x y wy hr hd) fun _ => (isTaste_ev ts).ret)
theorem askS_ev : EvB (fun k => spec_wmAsked k (W, ts)) (OkW W ∧ ts ∈ tasteL) := by
  obtain ⟨w, h, ri, dn, x, y, wy⟩ := W
  exact EvB.step (fun k => spec_wmAsked.eq k w h ri dn x y wy ts) (EvB.and (wmGood_ev w h ri dn x y wy hr hd) fun _ => (wmTaste_ev ts).ret)
end
theorem OkW.size {W : WT} (H : OkW W) : W.2.2.1.size ≤ 1048576 ∧ W.2.2.2.1.size ≤ 1048576 := by
  have hw := H.1
  have hh := H.2.1
  have hs := H.2.2.1
  have hm6 : W.1 * W.2.1 ≤ 36 := by have := Int.mul_le_mul hw.2 hh.2 (by omega) (by omega); omega
  omega
/-! ### Lines left; a line given back -/
theorem left_ev {W : WT} (H : OkW W) : Ev (fun k => impl_LinesLeft k W) ((onesW W : Int), true) := by
  obtain ⟨sr, sd⟩ := H.size
  obtain ⟨w, h, ri, dn, x, y, wy⟩ := W
  have hc : strCount1 (ri ++ dn) (bs [49]) = some ((ones ri + ones dn : Nat) : Int) := by
    show some (((ri ++ dn).data.toList.count 49 : Nat) : Int) = _
    rw [append_list, List.count_append]
    rfl
  have hf : fitS ri dn = true := fitS_of (by simp only at sr sd; omega)
  exact Ev.step (fun k => impl_LinesLeft.eq k w h ri dn x y wy) (Ev.bind ((isWorm_ev w h ri dn x y wy sr sd).isT H) (Ev.no rfl (Ev.yes hf (Ev.bind (a := ((ones ri + ones dn : Nat) : Int)) (Ev.step (fun k => (strings_Count.eq k (ri ++ dn, bs [49])).trans hc) (Ev.now _)) (Ev.now _)))))
theorem set_twice {s : ByteArray} {k : Nat} {c d : UInt8} (h : s.data.toList[k]? = some d) : setByte (setByte s k c) k d = s := by
  apply ba_ext
  unfold setByte
  show ((s.data.toList.set k c).set k d) = s.data.toList
  rw [List.set_set]
  obtain ⟨h1, h2⟩ := List.getElem?_eq_some_iff.1 h
  rw [← h2, List.set_getElem_self]
theorem back_go {n M d : Int} (h : 0 ≤ n ∧ n ≤ M - 1) (hd : d = 1 ∨ d = -1 ∨ d = 0) : go1 (go1 n M d) M (-d) = n := by
  have g1 := go1_in (d := 1) h (by omega)
  have g2 := go1_in (d := -1) h (by omega)
  rcases hd with rfl | rfl | rfl
  · exact ((go1_inv g1 h).1).2 rfl
  · exact ((go1_inv g2 h).2).2 rfl
  · rw [Int.neg_zero, go1_zero h, go1_zero h]
theorem giveBack_ev {ts : ByteArray} (hq : ∀ c ∈ ts.data.toList, quartersB (c.toNat : Int) ≠ 2) {W V : WT} {c : UInt8} (H : OkW W) (E : Eats ts W c V) : Ev (fun k => impl_GiveBack k (V, W.2.2.2.2.2.2)) (W, true) := by
  obtain ⟨_, _, HV, _, B⟩ := E
  obtain ⟨sr, sd⟩ := HV.size
  have hb := has_bite (way := V.2.2.2.2.2.2) H B H.2.2.2.2.1 H.2.2.2.2.2.1 HV.2.2.2.2.2.2
  have hN := node_ev V HV
  obtain ⟨w, h, ri, dn, x, y, wy⟩ := W
  obtain ⟨wz, h1, h2, h3, rfl⟩ := B
  rw [decide_eq_true (.inl ⟨rfl, rfl, rfl⟩)] at hb
  obtain ⟨hw, hh, ⟨hri, hdn⟩, ⟨cri, cdn⟩, hx, hy, hwy⟩ : WormOk w h ri dn x y wy := H
  simp only at h2 h3 hb
  have hz : 0 ≤ wz ∧ wz ≤ 3 := by omega
  have ho := opW_range wz
  have hq' := hq c h1
  obtain ⟨q0, q3⟩ := quartersB_range (c.toNat : Int)
  have hw9 : 1 ≤ w ∧ w ≤ 9 := by omega
  have hh9 : 1 ≤ h ∧ h ≤ 9 := by omega
  obtain ⟨⟨d1, d2⟩, d3, d4⟩ := dW_range wz
  have gx := go1_in (d := 1 * dxW wz) hx (by omega)
  have gy := go1_in (d := 1 * dyW wz) hy (by omega)
  have eo : (w64 (wz + 2)).tmod 4 = opW wz := by rw [w64_of (by omega) (by omega), Int.tmod_eq_emod_of_nonneg (by omega)]; exact opW_eq hz
  have ne : (wy == (w64 (wz + 2)).tmod 4) = false := by
    rw [eo, ← opW_eq hz, beq_eq_false_iff_ne]
    omega
  have hdx : (1 : Int) * dxW (opW wz) = -(1 * dxW wz) ∧ (1 : Int) * dyW (opW wz) = -(1 * dyW wz) ∧ (1 * dxW wz = 1 ∨ 1 * dxW wz = -1 ∨ 1 * dxW wz = 0) ∧ (1 * dyW wz = 1 ∨ 1 * dyW wz = -1 ∨ 1 * dyW wz = 0) := by
    have c2 : wz = 0 ∨ wz = 1 ∨ wz = 2 ∨ wz = 3 := by omega
    rcases c2 with e | e | e | e <;> rw [e] <;> decide
  have hne : (w != 0) = true := by rw [bne_iff_ne]; omega
  have hri' : ((setR w h ri x y wz 0).size : Int) = w * h := HV.2.2.1.1
  have hdn' : ((setD w h dn x y wz 0).size : Int) = w * h := HV.2.2.1.2
  obtain ⟨k1, k2⟩ := lnK_range (w := w) (h := h) (way := wz) hx hy hw9 hh9
  have e49 : UInt8.ofNat ((48 : Int) + 1).toNat = 49 := by decide
  have b49 : ∀ s : ByteArray, (s.size : Int) = w * h → (bt s (lnK w h x y wz).toNat == 49) = true → s.data.toList[(lnK w h x y wz).toNat]? = some 49 := fun s hs hbt => by
    obtain ⟨d, hd⟩ := byte_at (cs := s) (i := (lnK w h x y wz).toNat) (by omega)
    rw [bt_at hd, beq_iff_eq] at hbt
    rw [hd]
    congr 1
    apply UInt8.toNat_inj.1
    show d.toNat = 49
    omega
  have sR : setR w h (setR w h ri x y wz 0) x y wz 1 = ri := by
    unfold hasW hasB at h3
    unfold setR
    cases hD : lnD wz with
    | true => rfl
    | false =>
      rw [hD] at h3
      simp only [Bool.false_eq_true, if_false]
      rw [e49]
      exact set_twice (b49 ri hri h3)
  have sD : setD w h (setD w h dn x y wz 0) x y wz 1 = dn := by
    unfold hasW hasB at h3
    unfold setD
    cases hD : lnD wz with
    | false => rfl
    | true =>
      rw [hD] at h3
      simp only [if_true]
      rw [e49]
      exact set_twice (b49 dn hdn h3)
  obtain ⟨p1, p2⟩ := node_parts w h x y wz hw9 hh9 hx hy hz
  have be := beside_ev w h (setR w h ri x y wz 0) (setD w h dn x y wz 0) (go1 x w (1 * dxW wz)) (go1 y h (1 * dyW wz)) wz (go1 x w (1 * dxW wz)) (go1 y h (1 * dyW wz)) (opW wz) hw9 hh9 gx gy ho
  rw [hdx.1, hdx.2.1, back_go hx hdx.2.2.1, back_go hy hdx.2.2.2] at be
  have th := there_ev w h (setR w h ri x y wz 0) (setD w h dn x y wz 0) (go1 x w (1 * dxW wz)) (go1 y h (1 * dyW wz)) wz x y wz hw9 hh9 hx hy hz hri' hdn'
  have th' : hasB w h (setR w h ri x y wz 0) (setD w h dn x y wz 0) x y wz = false := by
    have hb' : hasB w h (setR w h ri x y wz 0) (setD w h dn x y wz 0) x y wz = (hasB w h ri dn x y wz && !true) := hb
    rw [hb']
    simp
  rw [th'] at th
  have md := made_ev w h (setR w h ri x y wz 0) (setD w h dn x y wz 0) (go1 x w (1 * dxW wz)) (go1 y h (1 * dyW wz)) wz x y wz hw9 hh9 hx hy hz hri' hdn' 1 (by omega)
  rw [sR, sD] at md
  refine Ev.step (fun k => impl_GiveBack.eq k w h (setR w h ri x y wz 0) (setD w h dn x y wz 0) (go1 x w (1 * dxW wz)) (go1 y h (1 * dyW wz)) wz wy) (Ev.bind ((isWorm_ev _ _ _ _ _ _ _ sr sd).isT HV) (Ev.no rfl (Ev.bind (Ev.step (fun k => impl_isWay.eq k wy) ((within_ev wy 0 3).isT hwy |>.bind (Ev.now _))) (Ev.no rfl (Ev.no ne (Ev.bind hN ?_))))))
  rw [eo]
  refine Ev.bind be (Ev.bind th (Ev.no rfl (Ev.bind md (Ev.yes hne (Ev.yes hne (Ev.now' ?_))))))
  simp only [p1, p2]

/-! ### Sums and counts over the first numbers -/
def sm : Nat → (Nat → Nat) → Nat
  | 0, _ => 0
  | n + 1, f => sm n f + f n
theorem sm_congr {f g : Nat → Nat} : ∀ {N : Nat}, (∀ a, a < N → f a = g a) → sm N f = sm N g
  | 0, _ => rfl
  | N + 1, h => by
    show sm N f + f N = sm N g + g N
    rw [sm_congr fun a ha => h a (by omega), h N (by omega)]
theorem sm_zero : ∀ N : Nat, sm N (fun _ => 0) = 0
  | 0 => rfl
  | N + 1 => by
    show sm N _ + 0 = 0
    rw [sm_zero N]
theorem sm_add (f g : Nat → Nat) : ∀ N : Nat, sm N (fun a => f a + g a) = sm N f + sm N g
  | 0 => rfl
  | N + 1 => by
    show sm N _ + (f N + g N) = (sm N f + f N) + (sm N g + g N)
    rw [sm_add f g N]
    omega
theorem sm_swap (g : Nat → Nat → Nat) (M : Nat) : ∀ N : Nat, sm N (fun n => sm M (g n)) = sm M (fun m => sm N fun n => g n m)
  | 0 => (sm_zero M).symm
  | N + 1 => by
    show sm N _ + sm M (g N) = sm M (fun m => sm N (fun n => g n m) + g N m)
    rw [sm_add, sm_swap g M N]
theorem sm_single (f : Nat → Nat) {b : Nat} : ∀ {N : Nat}, b < N → sm N (fun m => if m = b then f m else 0) = f b
  | 0, h => by omega
  | N + 1, h => by
    show sm N _ + (if N = b then f N else 0) = f b
    by_cases e : N = b
    · subst e
      rw [if_pos rfl, sm_congr (g := fun _ => 0) fun a ha => if_neg (by omega), sm_zero, Nat.zero_add]
    · rw [if_neg e, sm_single f (by omega), Nat.add_zero]
theorem sm_perm {N : Nat} (f p q : Nat → Nat) (hp : ∀ a, a < N → p a < N ∧ q (p a) = a) (hq : ∀ a, a < N → q a < N ∧ p (q a) = a) : sm N (fun a => f (p a)) = sm N f := by
  have h1 : sm N (fun a => f (p a)) = sm N (fun n => sm N fun m => if m = p n then f m else 0) := sm_congr fun a ha => (sm_single f (hp a ha).1).symm
  rw [h1, sm_swap]
  refine sm_congr fun m hm => ?_
  rw [sm_congr (g := fun n => if n = q m then f m else 0) fun n hn => ?_]
  · exact sm_single (fun _ => f m) (hq m hm).1
  · by_cases e : m = p n
    · rw [if_pos e, if_pos (by rw [e, (hp n hn).2])]
    · rw [if_neg e, if_neg fun e' => e (by rw [e', (hq m hm).2])]
def cf (N : Nat) (P : Nat → Bool) : Nat := sm N fun a => (P a).toNat
theorem cf_succ (N : Nat) (P : Nat → Bool) : cf (N + 1) P = cf N P + (P N).toNat := rfl
theorem cf_congr {N : Nat} {P Q : Nat → Bool} (h : ∀ a, a < N → P a = Q a) : cf N P = cf N Q := sm_congr fun a ha => by rw [h a ha]
theorem cf_mono {P Q : Nat → Bool} : ∀ {N : Nat}, (∀ a, a < N → P a = true → Q a = true) → cf N P ≤ cf N Q
  | 0, _ => Nat.le_refl _
  | N + 1, h => by
    rw [cf_succ, cf_succ]
    have h1 := cf_mono (N := N) (fun a ha => h a (by omega))
    have h2 := h N (by omega)
    cases hP : P N with
    | false => rw [Bool.toNat_false]; omega
    | true => rw [h2 hP]; omega
theorem cf_le (P : Nat → Bool) : ∀ N : Nat, cf N P ≤ N
  | 0 => Nat.le_refl _
  | N + 1 => by
    rw [cf_succ]
    have := cf_le P N
    have h2 : (P N).toNat ≤ 1 := by cases P N <;> decide
    omega
theorem cf_add {P : Nat → Bool} {b : Nat} (hp : P b = false) : ∀ {N : Nat}, b < N → cf N (fun a => P a || a == b) = cf N P + 1
  | 0, h => by omega
  | N + 1, h => by
    rw [cf_succ, cf_succ]
    by_cases e : N = b
    · subst e
      rw [cf_congr (Q := P) fun a ha => by rw [show (a == N) = false by rw [beq_eq_false_iff_ne]; omega, Bool.or_false], hp, beq_self_eq_true]
      rfl
    · rw [cf_add hp (by omega), show (N == b) = false by rw [beq_eq_false_iff_ne]; exact e, Bool.or_false]
      omega
theorem cf_full {P : Nat → Bool} : ∀ {N : Nat}, (∀ a, a < N → P a = true) → cf N P = N
  | 0, _ => rfl
  | N + 1, h => by
    rw [cf_succ, cf_full (N := N) (fun a ha => h a (by omega)), h N (by omega)]
    rfl
theorem cf_none {P : Nat → Bool} : ∀ {N : Nat}, (∀ a, a < N → P a = false) → cf N P = 0
  | 0, _ => rfl
  | N + 1, h => by
    rw [cf_succ, cf_none (N := N) (fun a ha => h a (by omega)), h N (by omega)]
    rfl
theorem ones_pre (s : ByteArray) : ∀ N : Nat, N ≤ s.size → (s.data.toList.take N).count 49 = cf N fun k => bt s k == 49
  | 0, _ => by simp [cf, sm]
  | N + 1, h => by
    obtain ⟨c, hc⟩ := byte_at (cs := s) (i := N) (by omega)
    rw [List.take_add_one, hc, List.count_append, ones_pre s N (by omega), cf_succ, bt_at hc]
    congr 1
    by_cases e : c = 49
    · subst e
      rfl
    · have : (((c.toNat : Int)) == 49) = false := by
        rw [beq_eq_false_iff_ne]
        intro h2
        exact e (UInt8.toNat_inj.1 (show c.toNat = (49 : UInt8).toNat by show c.toNat = 49; omega))
      rw [this]
      show List.count 49 [c] = 0
      rw [List.count_singleton]
      exact if_neg (by simpa using e)
theorem ones_cf {s : ByteArray} {N : Nat} (h : s.size = N) : ones s = cf N fun k => bt s k == 49 := by
  have := ones_pre s N (by omega)
  rw [List.take_of_length_le (by rw [← size_list]; omega)] at this
  exact this
/-! ### Nodes -/
def SzW (W : WT) : Prop := (3 ≤ W.1 ∧ W.1 ≤ 6) ∧ (3 ≤ W.2.1 ∧ W.2.1 ≤ 6)
theorem OkW.sz {W : WT} (H : OkW W) : SzW W := ⟨H.1, H.2.1⟩
def nN (W : WT) : Nat := (W.1 * W.2.1).toNat
def nX (W : WT) (a : Nat) : Int := (a : Int) % W.1
def nY (W : WT) (a : Nat) : Int := (a : Int) / W.1
def sig (W : WT) (dx dy : Int) (a : Nat) : Nat := (((nY W a + dy) % W.2.1) * W.1 + (nX W a + dx) % W.1).toNat
theorem SzW.n {W : WT} (H : SzW W) : (nN W : Int) = W.1 * W.2.1 ∧ 9 ≤ nN W ∧ nN W ≤ 36 := by
  obtain ⟨hw, hh⟩ := H
  have h1 := Int.mul_le_mul hw.1 hh.1 (by omega) (by omega)
  have h2 := Int.mul_le_mul hw.2 hh.2 (by omega) (by omega)
  unfold nN
  omega
theorem nXY {W : WT} (H : SzW W) {a : Nat} (ha : a < nN W) : (0 ≤ nX W a ∧ nX W a ≤ W.1 - 1) ∧ (0 ≤ nY W a ∧ nY W a ≤ W.2.1 - 1) ∧ nY W a * W.1 + nX W a = (a : Int) := by
  have hn := H.n.1
  obtain ⟨hw, hh⟩ := H
  have h1 := Int.emod_nonneg (a : Int) (show W.1 ≠ 0 by omega)
  have h2 := Int.emod_lt_of_pos (a : Int) (show 0 < W.1 by omega)
  have h3 : (a : Int) / W.1 < W.2.1 := Int.ediv_lt_of_lt_mul (by omega) (by rw [Int.mul_comm]; omega)
  have h4 : 0 ≤ (a : Int) / W.1 := Int.ediv_nonneg (by omega) (by omega)
  exact ⟨⟨h1, by unfold nX; omega⟩, ⟨h4, by unfold nY; omega⟩, Int.ediv_mul_add_emod _ _⟩
theorem at_node {W : WT} (H : SzW W) {x y : Int} (hx : 0 ≤ x ∧ x ≤ W.1 - 1) (hy : 0 ≤ y ∧ y ≤ W.2.1 - 1) : (y * W.1 + x).toNat < nN W ∧ ((y * W.1 + x).toNat : Int) = y * W.1 + x ∧ nX W (y * W.1 + x).toNat = x ∧ nY W (y * W.1 + x).toNat = y := by
  have hn := H.n.1
  obtain ⟨hw, hh⟩ := H
  obtain ⟨a1, a2, a3, a4⟩ := at_range hx hy (show 1 ≤ W.1 ∧ W.1 ≤ 9 by omega) (show 1 ≤ W.2.1 ∧ W.2.1 ≤ 9 by omega)
  have e : ((y * W.1 + x).toNat : Int) = y * W.1 + x := by omega
  refine ⟨by omega, e, ?_, ?_⟩
  · unfold nX
    rw [e, Int.add_comm, Int.add_mul_emod_self_right, Int.emod_eq_of_lt hx.1 (by omega)]
  · unfold nY
    rw [e, Int.add_comm, Int.add_mul_ediv_right _ _ (by omega), Int.ediv_eq_zero_of_lt hx.1 (by omega), Int.zero_add]
theorem sig_at {W : WT} (H : SzW W) (dx dy : Int) (a : Nat) : sig W dx dy a < nN W ∧ nX W (sig W dx dy a) = (nX W a + dx) % W.1 ∧ nY W (sig W dx dy a) = (nY W a + dy) % W.2.1 ∧ (sig W dx dy a : Int) = ((nY W a + dy) % W.2.1) * W.1 + (nX W a + dx) % W.1 := by
  have hw := H.1
  have hh := H.2
  have h1 := Int.emod_nonneg (nX W a + dx) (show W.1 ≠ 0 by omega)
  have h2 := Int.emod_lt_of_pos (nX W a + dx) (show 0 < W.1 by omega)
  have h3 := Int.emod_nonneg (nY W a + dy) (show W.2.1 ≠ 0 by omega)
  have h4 := Int.emod_lt_of_pos (nY W a + dy) (show 0 < W.2.1 by omega)
  obtain ⟨q1, q2, q3, q4⟩ := at_node H (x := (nX W a + dx) % W.1) (y := (nY W a + dy) % W.2.1) (by omega) (by omega)
  exact ⟨q1, q3, q4, q2⟩
theorem sig_sig {W : WT} (H : SzW W) (dx dy ex ey : Int) (a : Nat) : sig W dx dy (sig W ex ey a) = sig W (ex + dx) (ey + dy) a := by
  obtain ⟨_, q1, q2, _⟩ := sig_at H ex ey a
  unfold sig at *
  rw [q1, q2, Int.emod_add_emod, Int.emod_add_emod, Int.add_assoc, Int.add_assoc]
theorem sig_mod (W : WT) {dx dy ex ey : Int} (h : dx % W.1 = ex % W.1) (h' : dy % W.2.1 = ey % W.2.1) (a : Nat) : sig W dx dy a = sig W ex ey a := by
  unfold sig
  rw [Int.add_emod (nX W a) dx, Int.add_emod (nY W a) dy, h, h', ← Int.add_emod, ← Int.add_emod]
theorem sig_zero {W : WT} (H : SzW W) {a : Nat} (ha : a < nN W) : sig W 0 0 a = a := by
  obtain ⟨hx, hy, e⟩ := nXY H ha
  unfold sig
  rw [Int.add_zero, Int.add_zero, Int.emod_eq_of_lt hx.1 (by omega), Int.emod_eq_of_lt hy.1 (by omega), e]
  rfl
theorem sig_inv {W : WT} (H : SzW W) (dx dy : Int) {a : Nat} (ha : a < nN W) : sig W (-dx) (-dy) (sig W dx dy a) = a ∧ sig W dx dy (sig W (-dx) (-dy) a) = a := by
  rw [sig_sig H, sig_sig H, Int.add_right_neg, Int.add_right_neg, Int.add_left_neg, Int.add_left_neg]
  exact ⟨sig_zero H ha, sig_zero H ha⟩
theorem go1_mod {n M d : Int} (h : 0 ≤ n ∧ n ≤ M - 1) (hd : -1 ≤ d ∧ d ≤ 1) : go1 n M d = (n + d) % M := by
  unfold go1
  split
  · rename_i e
    rw [e, Int.emod_self]
  · split
    · rw [← Int.add_emod_right, Int.emod_eq_of_lt (by omega) (by omega)]
      omega
    · rw [Int.emod_eq_of_lt (by omega) (by omega)]
def nb (W : WT) (a : Nat) (t : Int) : Nat := sig W (dxW t) (dyW t) a
def lnW (W : WT) (a : Nat) (t : Int) : Bool := hasW W (nX W a) (nY W a) t
def dnW (W : WT) (k : Nat) : Bool := bt W.2.2.2.1 k == 49
def riW (W : WT) (k : Nat) : Bool := bt W.2.2.1 k == 49
theorem nb_lt {W : WT} (H : SzW W) (a : Nat) (t : Int) : nb W a t < nN W := (sig_at H _ _ a).1
theorem nb_op {W : WT} (H : SzW W) {a : Nat} (ha : a < nN W) {t : Int} (ht : 0 ≤ t ∧ t ≤ 3) : nb W (nb W a t) (opW t) = a := by
  have : t = 0 ∨ t = 1 ∨ t = 2 ∨ t = 3 := by omega
  have e := (sig_inv H (dxW t) (dyW t) ha).1
  rcases this with rfl | rfl | rfl | rfl <;> exact e
theorem ln_eq {W : WT} (H : SzW W) {a : Nat} (ha : a < nN W) : lnW W a 0 = dnW W (nb W a 0) ∧ lnW W a 1 = riW W a ∧ lnW W a 2 = dnW W a ∧ lnW W a 3 = riW W (nb W a 3) := by
  obtain ⟨hx, hy, e⟩ := nXY H ha
  have k0 : lnK W.1 W.2.1 (nX W a) (nY W a) 0 = (nb W a 0 : Int) := by
    rw [show (nb W a 0 : Int) = _ from (sig_at H _ _ a).2.2.2]
    show go1 (nY W a) W.2.1 (-1) * W.1 + nX W a = (nY W a + -1) % W.2.1 * W.1 + (nX W a + 0) % W.1
    rw [go1_mod hy (by omega), Int.add_zero, Int.emod_eq_of_lt hx.1 (by omega)]
  have k3 : lnK W.1 W.2.1 (nX W a) (nY W a) 3 = (nb W a 3 : Int) := by
    rw [show (nb W a 3 : Int) = _ from (sig_at H _ _ a).2.2.2]
    show nY W a * W.1 + go1 (nX W a) W.1 (-1) = (nY W a + 0) % W.2.1 * W.1 + (nX W a + -1) % W.1
    rw [go1_mod hx (by omega), Int.add_zero, Int.emod_eq_of_lt hy.1 (by omega)]
  have k1 : lnK W.1 W.2.1 (nX W a) (nY W a) 1 = (a : Int) := e
  have k2 : lnK W.1 W.2.1 (nX W a) (nY W a) 2 = (a : Int) := e
  unfold lnW hasW hasB
  rw [k0, k1, k2, k3]
  exact ⟨rfl, rfl, rfl, rfl⟩
theorem ln_op {W : WT} (H : SzW W) {a : Nat} (ha : a < nN W) {t : Int} (ht : 0 ≤ t ∧ t ≤ 3) : lnW W (nb W a t) (opW t) = lnW W a t := by
  have q := nb_op H ha ht
  obtain ⟨a0, a1, a2, a3⟩ := ln_eq H ha
  obtain ⟨b0, b1, b2, b3⟩ := ln_eq H (nb_lt H a t)
  have : t = 0 ∨ t = 1 ∨ t = 2 ∨ t = 3 := by omega
  rcases this with rfl | rfl | rfl | rfl
  · exact b2.trans a0.symm
  · have q : nb W (nb W a 1) 3 = a := q
    exact b3.trans (by rw [q]; exact a1.symm)
  · have q : nb W (nb W a 2) 0 = a := q
    exact b0.trans (by rw [q]; exact a2.symm)
  · exact b1.trans a3.symm
/-! ### What the program tells of nodes -/
section
variable {W : WT} (H : OkW W) {a : Nat} (ha : a < nN W) {t : Int} (ht : 0 ≤ t ∧ t ≤ 3)
include H ha ht
theorem there_at : Ev (fun k => impl_Worm_there k (W, (a : Int), t)) (lnW W a t) := by
  obtain ⟨hx, hy, e⟩ := nXY H.sz ha
  have hw := H.1
  have hh := H.2.1
  have hs := H.2.2.1
  unfold lnW
  rw [← e]
  obtain ⟨w, h, ri, dn, X, Y, Wy⟩ := W
  exact there_ev w h ri dn X Y Wy _ _ t (by simp only at hw; omega) (by simp only at hh; omega) hx hy ht hs.1 hs.2
omit ht in
theorem nb_go : go1 (nY W a) W.2.1 (1 * dyW t) * W.1 + go1 (nX W a) W.1 (1 * dxW t) = (nb W a t : Int) := by
  obtain ⟨hx, hy, e⟩ := nXY H.sz ha
  obtain ⟨⟨d1, d2⟩, d3, d4⟩ := dW_range t
  rw [show (nb W a t : Int) = _ from (sig_at H.sz _ _ a).2.2.2, go1_mod hy (by omega), go1_mod hx (by omega), Int.one_mul, Int.one_mul]
theorem beside_at : Ev (fun k => impl_Worm_beside k (W, (a : Int), t)) (nb W a t : Int) := by
  obtain ⟨hx, hy, e⟩ := nXY H.sz ha
  have hw := H.1
  have hh := H.2.1
  have hs := H.2.2.1
  rw [← nb_go H ha]
  have q := beside_ev W.1 W.2.1 W.2.2.1 W.2.2.2.1 W.2.2.2.2.1 W.2.2.2.2.2.1 W.2.2.2.2.2.2 _ _ t (by omega) (by omega) hx hy ht
  rw [e] at q
  exact q
theorem has_at (X Y Wy : Int) : Ev (fun k => spec_wmHas k ((W.1, W.2.1, W.2.2.1, W.2.2.2.1, X, Y, Wy), nX W a, nY W a, t)) (lnW W a t) := by
  obtain ⟨hx, hy, e⟩ := nXY H.sz ha
  have hw := H.1
  have hh := H.2.1
  have hs := H.2.2.1
  exact wmHas_ev W.1 W.2.1 W.2.2.1 W.2.2.2.1 X Y Wy _ _ t (by omega) (by omega) hx hy ht hs.1 hs.2
theorem go_at : Ev (fun k => spec_wmGo k ((W.1, W.2.1, W.2.2.1, W.2.2.2.1, nX W a, nY W a, W.2.2.2.2.2.2), t, 1)) ((), (W.1, W.2.1, W.2.2.1, W.2.2.2.1, nX W (nb W a t), nY W (nb W a t), W.2.2.2.2.2.2)) := by
  obtain ⟨hx, hy, e⟩ := nXY H.sz ha
  have hw := H.1
  have hh := H.2.1
  have q := wmGo_ev W.1 W.2.1 W.2.2.1 W.2.2.2.1 (nX W a) (nY W a) t (by omega) (by omega) hx hy ht W.2.2.2.2.2.2
  obtain ⟨⟨d1, d2⟩, d3, d4⟩ := dW_range t
  obtain ⟨_, q1, q2, _⟩ := sig_at H.sz (dxW t) (dyW t) a
  rw [go1_mod hy (by omega), go1_mod hx (by omega), Int.one_mul, Int.one_mul, ← q1, ← q2] at q
  exact q
end
theorem node_tm {W : WT} (H : SzW W) {a : Nat} (ha : a < nN W) : (a : Int).tmod W.1 = nX W a ∧ w64 ((a : Int).tdiv W.1) = nY W a ∧ (W.1 != 0) = true := by
  obtain ⟨hx, hy, e⟩ := nXY H ha
  have hh := H.2
  have hw := H.1
  refine ⟨Int.tmod_eq_emod_of_nonneg (by omega), ?_, by rw [bne_iff_ne]; omega⟩
  rw [Int.tdiv_eq_ediv_of_nonneg (by omega)]
  show w64 (nY W a) = nY W a
  exact w64_of (by omega) (by omega)
/-! ### How many lines are at a node -/
def degW (W : WT) (a : Nat) : Nat := (lnW W a 0).toNat + (lnW W a 1).toNat + (lnW W a 2).toNat + (lnW W a 3).toNat
theorem deg_le (W : WT) (a : Nat) : degW W a ≤ 4 := by
  unfold degW
  cases lnW W a 0 <;> cases lnW W a 1 <;> cases lnW W a 2 <;> cases lnW W a 3 <;> decide
theorem linesAt_at {W : WT} (H : OkW W) {a : Nat} (ha : a < nN W) : Ev (fun k => impl_Worm_linesAt k (W, (a : Int))) (degW W a : Int) := by
  have h0 := there_at H ha (t := 0) (by omega)
  have h1 := there_at H ha (t := 1) (by omega)
  have h2 := there_at H ha (t := 2) (by omega)
  have h3 := there_at H ha (t := 3) (by omega)
  have bit : ∀ b : Bool, Ev (fun k => impl_bit k b) (b.toNat : Int) := fun b => Ev.step (fun k => impl_bit.eq k b) (by cases b <;> exact Ev.now _)
  have b1 : ∀ b : Bool, b.toNat ≤ 1 := fun b => by cases b <;> decide
  have e0 := b1 (lnW W a 0)
  have e1 := b1 (lnW W a 1)
  have e2 := b1 (lnW W a 2)
  have e3 := b1 (lnW W a 3)
  unfold degW
  generalize lnW W a 0 = c0 at *
  generalize lnW W a 1 = c1 at *
  generalize lnW W a 2 = c2 at *
  generalize lnW W a 3 = c3 at *
  obtain ⟨w, h, ri, dn, x, y, wy⟩ := W
  have step : ∀ (m t : Int) (c : Bool) (r : Int), 0 ≤ m ∧ m ≤ 10 → 0 ≤ t ∧ t ≤ 3 → Ev (fun k => impl_Worm_there k ((w, h, ri, dn, x, y, wy), (a : Int), t)) c → Ev (fun k => impl_Worm_linesAt_l k ((a : Int), (w, h, ri, dn, x, y, wy), m + c.toNat, t + 1)) r → Ev (fun k => impl_Worm_linesAt_l k ((a : Int), (w, h, ri, dn, x, y, wy), m, t)) r := fun m t c r hm ht hc hr => by
    have := b1 c
    refine Ev.step (fun k => impl_Worm_linesAt_l.eq k (a : Int) w h ri dn x y wy m t) (Ev.yes (decide_eq_true (by omega)) (Ev.bind hc (Ev.bind (bit c) ?_)))
    rw [w64_of (n := m + (c.toNat : Int)) (by omega) (by omega), w64_of (n := t + 1) (by omega) (by omega)]
    exact hr
  refine Ev.step (fun k => impl_Worm_linesAt.eq k w h ri dn x y wy (a : Int)) (Ev.bind (step 0 0 c0 _ (by omega) (by omega) h0 (step _ 1 c1 _ (by omega) (by omega) h1 (step _ 2 c2 _ (by omega) (by omega) h2 (step _ 3 c3 _ (by omega) (by omega) h3 ?_)))) (Ev.now _))
  exact Ev.step (fun k => impl_Worm_linesAt_l.eq k (a : Int) w h ri dn x y wy _ _) (Ev.no (by decide) (Ev.now' (by omega)))
theorem wmAt_at {W : WT} (H : OkW W) {a : Nat} (ha : a < nN W) : Ev (fun k => spec_wmAt k (W, nX W a, nY W a)) (degW W a : Int) := by
  have h0 := has_at H ha (t := 0) (by omega) W.2.2.2.2.1 W.2.2.2.2.2.1 W.2.2.2.2.2.2
  have h1 := has_at H ha (t := 1) (by omega) W.2.2.2.2.1 W.2.2.2.2.2.1 W.2.2.2.2.2.2
  have h2 := has_at H ha (t := 2) (by omega) W.2.2.2.2.1 W.2.2.2.2.2.1 W.2.2.2.2.2.2
  have h3 := has_at H ha (t := 3) (by omega) W.2.2.2.2.1 W.2.2.2.2.2.1 W.2.2.2.2.2.2
  have b1 : ∀ b : Bool, b.toNat ≤ 1 := fun b => by cases b <;> decide
  have e0 := b1 (lnW W a 0)
  have e1 := b1 (lnW W a 1)
  have e2 := b1 (lnW W a 2)
  have e3 := b1 (lnW W a 3)
  unfold degW
  generalize lnW W a 0 = c0 at *
  generalize lnW W a 1 = c1 at *
  generalize lnW W a 2 = c2 at *
  generalize lnW W a 3 = c3 at *
  generalize nX W a = X at *
  generalize nY W a = Y at *
  obtain ⟨w, h, ri, dn, x, y, wy⟩ := W
  have step : ∀ (m t : Int) (c : Bool) (r : Int), 0 ≤ m ∧ m ≤ 10 → 0 ≤ t ∧ t ≤ 3 → Ev (fun k => spec_wmHas k ((w, h, ri, dn, x, y, wy), X, Y, t)) c → Ev (fun k => spec_wmAt_l k (X, Y, (w, h, ri, dn, x, y, wy), m + c.toNat, t + 1)) r → Ev (fun k => spec_wmAt_l k (X, Y, (w, h, ri, dn, x, y, wy), m, t)) r := fun m t c r hm ht hc hr => by
    refine Ev.step (fun k => spec_wmAt_l.eq k X Y w h ri dn x y wy m t) (Ev.yes (decide_eq_true (by omega)) (Ev.bind hc ?_))
    rw [w64_of (n := m + 1) (by omega) (by omega), w64_of (n := t + 1) (by omega) (by omega)]
    cases c with
    | true => exact Ev.yes rfl hr
    | false =>
      rw [show m + ((false.toNat : Nat) : Int) = m from Int.add_zero m] at hr
      exact Ev.no rfl hr
  refine Ev.step (fun k => spec_wmAt.eq k w h ri dn x y wy X Y) (Ev.bind (step 0 0 c0 _ (by omega) (by omega) h0 (step _ 1 c1 _ (by omega) (by omega) h1 (step _ 2 c2 _ (by omega) (by omega) h2 (step _ 3 c3 _ (by omega) (by omega) h3 ?_)))) (Ev.now _))
  exact Ev.step (fun k => spec_wmAt_l.eq k X Y w h ri dn x y wy _ _) (Ev.no (by decide) (Ev.now' (by omega)))
/-- The sum of all: each line is told at both its ends. -/
theorem deg_sum {W : WT} (H : OkW W) : sm (nN W) (degW W) = 2 * onesW W := by
  have S := H.sz
  have hn := S.n.1
  have hs := H.2.2.1
  have o1 : onesW W = cf (nN W) (riW W) + cf (nN W) (dnW W) := by
    unfold onesW
    rw [ones_cf (s := W.2.2.1) (N := nN W) (by omega), ones_cf (s := W.2.2.2.1) (N := nN W) (by omega)]
    rfl
  have e : sm (nN W) (degW W) = sm (nN W) (fun a => (dnW W (nb W a 0)).toNat + (riW W a).toNat + (dnW W a).toNat + (riW W (nb W a 3)).toNat) := sm_congr fun a ha => by
    obtain ⟨a0, a1, a2, a3⟩ := ln_eq S ha
    unfold degW
    rw [a0, a1, a2, a3]
  have p0 : sm (nN W) (fun a => (dnW W (nb W a 0)).toNat) = cf (nN W) (dnW W) := sm_perm (fun a => (dnW W a).toNat) (fun a => nb W a 0) (fun a => nb W a 2) (fun a ha => ⟨nb_lt S _ _, nb_op S ha (t := 0) (by omega)⟩) (fun a ha => ⟨nb_lt S _ _, nb_op S ha (t := 2) (by omega)⟩)
  have p3 : sm (nN W) (fun a => (riW W (nb W a 3)).toNat) = cf (nN W) (riW W) := sm_perm (fun a => (riW W a).toNat) (fun a => nb W a 3) (fun a => nb W a 1) (fun a ha => ⟨nb_lt S _ _, nb_op S ha (t := 3) (by omega)⟩) (fun a ha => ⟨nb_lt S _ _, nb_op S ha (t := 1) (by omega)⟩)
  rw [e, sm_add, sm_add, sm_add, p0, p3, o1]
  show cf _ _ + cf _ _ + cf _ _ + cf _ _ = _
  omega
theorem odd_even (f : Nat → Nat) : ∀ N : Nat, sm N f % 2 = cf N (fun a => decide (f a % 2 = 1)) % 2
  | 0 => rfl
  | N + 1 => by
    rw [cf_succ]
    show (sm N f + f N) % 2 = _
    have := odd_even f N
    by_cases h : f N % 2 = 1
    · rw [decide_eq_true h, Bool.toNat_true]
      omega
    · rw [decide_eq_false h, Bool.toNat_false]
      omega

theorem wmCount_ev (s : ByteArray) (hs : s.size ≤ 1048576) : Ev (fun k => spec_wmCount k s) (ones s : Int) := by
  have loop : ∀ (m i : Nat), i + m = s.size → Ev (fun k => spec_wmCount_l k (s, (cf i (fun k => bt s k == 49) : Int), (i : Int))) (ones s : Int) := by
    intro m
    induction m with
    | zero =>
      intro i hi
      obtain rfl : i = s.size := by omega
      exact Ev.step (fun k => spec_wmCount_l.eq k s _ _) (Ev.no (not_lt_nat (by omega)) (Ev.now' (by rw [ones_cf rfl])))
    | succ m ih =>
      intro i hi
      have := cf_le (fun k => bt s k == 49) i
      have q := ih (i + 1) (by omega)
      rw [cf_succ] at q
      refine Ev.step (fun k => spec_wmCount_l.eq k s _ _) (Ev.yes (lt_nat (by omega)) (Ev.yes (inB_nat (by omega)) ?_))
      rw [Int.toNat_natCast, w64_succ (by omega), w64_succ (by omega)]
      cases h : bt s i == 49 with
      | true =>
        rw [h] at q
        exact Ev.yes rfl q
      | false =>
        rw [h] at q
        exact Ev.no rfl q
  exact Ev.step (fun k => spec_wmCount.eq k s) (Ev.bind (loop s.size 0 (by omega)) (Ev.now _))
section
variable (W : WT) (hr : W.2.2.1.size ≤ 1048576) (hd : W.2.2.2.1.size ≤ 1048576)
include hr hd
theorem left_both : ∃ r, Ev (fun k => impl_LinesLeft k W) r ∧ Ev (fun k => spec_LinesLeft k W) r ∧ (OkW W → r = ((onesW W : Int), true)) ∧ (¬ OkW W → r = (0, false)) := by
  have b1 := isWorm_ev W.1 W.2.1 W.2.2.1 W.2.2.2.1 W.2.2.2.2.1 W.2.2.2.2.2.1 W.2.2.2.2.2.2 hr hd
  have b2 := wmGood_ev W.1 W.2.1 W.2.2.1 W.2.2.2.1 W.2.2.2.2.1 W.2.2.2.2.2.1 W.2.2.2.2.2.2 hr hd
  have c1 := wmCount_ev _ hr
  have c2 := wmCount_ev _ hd
  by_cases H : OkW W
  · have e := left_ev H
    have o1 := ones_le W.2.2.1
    have o2 := ones_le W.2.2.2.1
    obtain ⟨w, h, ri, dn, x, y, wy⟩ := W
    refine ⟨_, e, Ev.step (fun k => spec_LinesLeft.eq k w h ri dn x y wy) (Ev.bind (b2.isT H) (Ev.no rfl (Ev.bind c1 (Ev.bind c2 (Ev.now' ?_))))), fun _ => rfl, fun h => absurd H h⟩
    have o1 : ones ri ≤ ri.size := o1
    have o2 : ones dn ≤ dn.size := o2
    have hr : ri.size ≤ 1048576 := hr
    have hd : dn.size ≤ 1048576 := hd
    rw [w64_of (by omega) (by omega)]
    show ((ones ri : Int) + (ones dn : Int), true) = (((ones ri + ones dn : Nat) : Int), true)
    rw [Int.natCast_add]
  · obtain ⟨w, h, ri, dn, x, y, wy⟩ := W
    exact ⟨(0, false), Ev.step (fun k => impl_LinesLeft.eq k w h ri dn x y wy) (Ev.bind (b1.isF H) (Ev.yes rfl (Ev.now _))), Ev.step (fun k => spec_LinesLeft.eq k w h ri dn x y wy) (Ev.bind (b2.isF H) (Ev.yes rfl (Ev.now _))), fun h => absurd h H, fun _ => rfl⟩
theorem linesAt_both (x y : Int) : ∃ r, Ev (fun k => impl_LinesAt k (W, x, y)) r ∧ Ev (fun k => spec_LinesAt k (W, x, y)) r ∧ ∀ a : Nat, OkW W → a < nN W → x = nX W a → y = nY W a → r = ((degW W a : Int), true) := by
  have b1 := isWorm_ev W.1 W.2.1 W.2.2.1 W.2.2.2.1 W.2.2.2.2.1 W.2.2.2.2.2.1 W.2.2.2.2.2.2 hr hd
  have b2 := wmGood_ev W.1 W.2.1 W.2.2.1 W.2.2.2.1 W.2.2.2.2.1 W.2.2.2.2.2.1 W.2.2.2.2.2.2 hr hd
  by_cases H : OkW W
  rotate_left
  · obtain ⟨w, h, ri, dn, X, Y, wy⟩ := W
    exact ⟨(0, false), Ev.step (fun k => impl_LinesAt.eq k w h ri dn X Y wy x y) (Ev.bind (b1.isF H) (Ev.yes rfl (Ev.now _))), Ev.step (fun k => spec_LinesAt.eq k w h ri dn X Y wy x y) (Ev.bind (b2.isF H) (Ev.yes rfl (Ev.now _))), fun a h => absurd h H⟩
  have hw := H.1
  have hh := H.2.1
  have a1 := isAnt_ev W.1 W.2.1 x y 0 (by omega) (by omega)
  have l1 := l1In_ev x 0 (W.1 - 1)
  have l2 := l1In_ev y 0 (W.2.1 - 1)
  have e1 : w64 (W.1 - 1) = W.1 - 1 := w64_of (by omega) (by omega)
  have e2 : w64 (W.2.1 - 1) = W.2.1 - 1 := w64_of (by omega) (by omega)
  by_cases hx : 0 ≤ x ∧ x ≤ W.1 - 1
  rotate_left
  · refine ⟨(0, false), ?_, ?_, fun a _ ha ex ey => absurd (ex ▸ (nXY H.sz ha).1) hx⟩
    · have q := a1.isF fun h => hx h.1
      obtain ⟨w, h, ri, dn, X, Y, wy⟩ := W
      exact Ev.step (fun k => impl_LinesAt.eq k w h ri dn X Y wy x y) (Ev.bind (b1.isT H) (Ev.no rfl (Ev.bind q (Ev.yes rfl (Ev.now _)))))
    · have q := l1.isF hx
      rw [← e1] at q
      obtain ⟨w, h, ri, dn, X, Y, wy⟩ := W
      exact Ev.step (fun k => spec_LinesAt.eq k w h ri dn X Y wy x y) (Ev.bind (b2.isT H) (Ev.no rfl (Ev.bind q (Ev.yes rfl (Ev.now _)))))
  by_cases hy : 0 ≤ y ∧ y ≤ W.2.1 - 1
  rotate_left
  · refine ⟨(0, false), ?_, ?_, fun a _ ha ex ey => absurd (ey ▸ (nXY H.sz ha).2.1) hy⟩
    · have q := a1.isF fun h => hy h.2.1
      obtain ⟨w, h, ri, dn, X, Y, wy⟩ := W
      exact Ev.step (fun k => impl_LinesAt.eq k w h ri dn X Y wy x y) (Ev.bind (b1.isT H) (Ev.no rfl (Ev.bind q (Ev.yes rfl (Ev.now _)))))
    · have p := l1.isT hx
      have q := l2.isF hy
      rw [← e1] at p
      rw [← e2] at q
      obtain ⟨w, h, ri, dn, X, Y, wy⟩ := W
      exact Ev.step (fun k => spec_LinesAt.eq k w h ri dn X Y wy x y) (Ev.bind (b2.isT H) (Ev.no rfl (Ev.bind p (Ev.no rfl (Ev.bind q (Ev.yes rfl (Ev.now _)))))))
  obtain ⟨q1, q2, q3, q4⟩ := at_node H.sz hx hy
  have r1 := linesAt_at H q1
  have r2 := wmAt_at H q1
  have e64 := at64 hx hy (w := W.1) (h := W.2.1) (by omega) (by omega)
  rw [q3, q4] at r2
  rw [q2] at r1
  have r1 : Ev (fun k => impl_Worm_linesAt k (W, w64 (w64 (y * W.1) + x))) (degW W (y * W.1 + x).toNat : Int) := by rw [e64]; exact r1
  refine ⟨((degW W (y * W.1 + x).toNat : Int), true), ?_, ?_, fun a _ ha ex ey => ?_⟩
  rotate_left
  · have p := l1.isT hx
    have q := l2.isT hy
    rw [← e1] at p
    rw [← e2] at q
    obtain ⟨w, h, ri, dn, X, Y, wy⟩ := W
    exact Ev.step (fun k => spec_LinesAt.eq k w h ri dn X Y wy x y) (Ev.bind (b2.isT H) (Ev.no rfl (Ev.bind p (Ev.no rfl (Ev.bind q (Ev.no rfl (Ev.bind r2 (Ev.now _))))))))
  · have e : (y * W.1 + x).toNat = a := by
      have := (nXY H.sz ha).2.2
      rw [← ex, ← ey] at this
      omega
    rw [e]
  · have p := a1.isT ⟨hx, hy, by omega, by omega⟩
    obtain ⟨w, h, ri, dn, X, Y, wy⟩ := W
    exact Ev.step (fun k => impl_LinesAt.eq k w h ri dn X Y wy x y) (Ev.bind (b1.isT H) (Ev.no rfl (Ev.bind p (Ev.no rfl (Ev.bind r1 (Ev.now _))))))
end
/-! ### Odd nodes -/
def oddF (W : WT) (n : Nat) : List Int := ((List.range n).filter fun a => decide (degW W a % 2 = 1)).map fun a : Nat => (a : Int)
theorem oddF_succ (W : WT) (n : Nat) : oddF W (n + 1) = if degW W n % 2 = 1 then oddF W n ++ [(n : Int)] else oddF W n := by
  unfold oddF
  rw [List.range_succ, List.filter_append, List.map_append]
  by_cases h : degW W n % 2 = 1
  · rw [if_pos h]
    simp [h]
  · rw [if_neg h]
    simp [h]
theorem oddF_len (W : WT) : ∀ n : Nat, (oddF W n).length = cf n fun a => decide (degW W a % 2 = 1)
  | 0 => rfl
  | n + 1 => by
    rw [oddF_succ, cf_succ, ← oddF_len W n]
    by_cases h : degW W n % 2 = 1
    · rw [if_pos h, decide_eq_true h, List.length_append]
      rfl
    · rw [if_neg h, decide_eq_false h]
      rfl
theorem oddF_mem {W : WT} {n a : Nat} (h : a < n) : (a : Int) ∈ oddF W n ↔ degW W a % 2 = 1 := by
  unfold oddF
  rw [List.mem_map]
  constructor
  · rintro ⟨b, hb, e⟩
    obtain rfl : b = a := by omega
    exact of_decide_eq_true (List.mem_filter.1 hb).2
  · exact fun hd => ⟨a, List.mem_filter.2 ⟨List.mem_range.2 h, decide_eq_true hd⟩, rfl⟩
theorem odd_both (W : WT) (hr : W.2.2.1.size ≤ 1048576) (hd : W.2.2.2.1.size ≤ 1048576) : ∃ r, Ev (fun k => impl_OddNodes k W) r ∧ Ev (fun k => spec_OddNodes k W) r ∧ (OkW W → r = (oddF W (nN W), true)) ∧ (¬ OkW W → r = ([], false)) := by
  have b1 := isWorm_ev W.1 W.2.1 W.2.2.1 W.2.2.2.1 W.2.2.2.2.1 W.2.2.2.2.2.1 W.2.2.2.2.2.2 hr hd
  have b2 := wmGood_ev W.1 W.2.1 W.2.2.1 W.2.2.2.1 W.2.2.2.2.1 W.2.2.2.2.2.1 W.2.2.2.2.2.2 hr hd
  by_cases H : OkW W
  rotate_left
  · obtain ⟨w, h, ri, dn, X, Y, wy⟩ := W
    exact ⟨([], false), Ev.step (fun k => impl_OddNodes.eq k w h ri dn X Y wy) (Ev.bind (b1.isF H) (Ev.yes rfl (Ev.now _))), Ev.step (fun k => spec_OddNodes.eq k w h ri dn X Y wy) (Ev.bind (b2.isF H) (Ev.yes rfl (Ev.now _))), fun h => absurd h H, fun _ => rfl⟩
  have hs := H.2.2.1
  obtain ⟨n1, n2, n3⟩ := H.sz.n
  have hN : W.2.2.1.size = nN W := by omega
  have par : ∀ a, ((((degW W a : Int)).tmod 2) == 1) = decide (degW W a % 2 = 1) := fun a => by
    rw [Int.tmod_eq_emod_of_nonneg (by omega)]
    by_cases h : degW W a % 2 = 1
    · rw [decide_eq_true h, beq_iff_eq]
      omega
    · rw [decide_eq_false h, beq_eq_false_iff_ne]
      omega
  have loop : ∀ (m i : Nat), i + m = nN W → Ev (fun k => impl_OddNodes_l k (W, oddF W i, (nN W : Int), (i : Int))) (oddF W (nN W)) ∧ Ev (fun k => spec_OddNodes_l k (W, oddF W i, (i : Int))) (oddF W (nN W)) := by
    intro m
    induction m with
    | zero =>
      intro i hi
      obtain rfl : i = nN W := by omega
      obtain ⟨w, h, ri, dn, X, Y, wy⟩ := W
      exact ⟨Ev.step (fun k => impl_OddNodes_l.eq k w h ri dn X Y wy _ _ _) (Ev.no (not_lt_nat (by omega)) (Ev.now _)), Ev.step (fun k => spec_OddNodes_l.eq k w h ri dn X Y wy _ _) (Ev.no (not_lt_nat (by simp only at hN; omega)) (Ev.now _))⟩
    | succ m ih =>
      intro i hi
      have hi' : i < nN W := by omega
      obtain ⟨q1, q2⟩ := ih (i + 1) (by omega)
      have r1 := linesAt_at H hi'
      have r2 := wmAt_at H hi'
      obtain ⟨t1, t2, t3⟩ := node_tm H.sz hi'
      have hl := oddF_len W i
      have hc := cf_le (fun a => decide (degW W a % 2 = 1)) i
      have pr := par i
      rw [oddF_succ] at q1 q2
      rw [← t1, ← t2] at r2
      have hir : i < W.2.2.1.size := by omega
      have hw1 := w64_succ (i := i) (by omega)
      obtain ⟨w, h, ri, dn, X, Y, wy⟩ := W
      refine ⟨Ev.step (fun k => impl_OddNodes_l.eq k w h ri dn X Y wy _ _ _) (Ev.yes (lt_nat hi') (Ev.bind r1 ?_)), Ev.step (fun k => spec_OddNodes_l.eq k w h ri dn X Y wy _ _) (Ev.yes (lt_nat hir) (Ev.yes t3 (Ev.yes t3 (Ev.bind r2 ?_))))⟩ <;> rw [hw1, pr] <;> by_cases hd : degW (w, h, ri, dn, X, Y, wy) i % 2 = 1
      · rw [if_pos hd] at q1
        exact Ev.yes (decide_eq_true hd) (Ev.yes (fits_of (by omega)) q1)
      · rw [if_neg hd] at q1
        exact Ev.no (decide_eq_false hd) q1
      · rw [if_pos hd] at q2
        exact Ev.yes (decide_eq_true hd) (Ev.yes (fits_of (by omega)) q2)
      · rw [if_neg hd] at q2
        exact Ev.no (decide_eq_false hd) q2
  obtain ⟨q1, q2⟩ := loop (nN W) 0 (by omega)
  rw [← hN] at q1
  obtain ⟨w, h, ri, dn, X, Y, wy⟩ := W
  simp only at hN
  refine ⟨(oddF (w, h, ri, dn, X, Y, wy) (nN (w, h, ri, dn, X, Y, wy)), true), Ev.step (fun k => impl_OddNodes.eq k w h ri dn X Y wy) (Ev.bind (b1.isT H) (Ev.no rfl (Ev.bind q1 (Ev.now' ?_)))), Ev.step (fun k => spec_OddNodes.eq k w h ri dn X Y wy) (Ev.bind (b2.isT H) (Ev.no rfl (Ev.bind q2 (Ev.now _)))), fun _ => rfl, fun h => absurd H h⟩
  simp only [hN]
theorem odd_len {W : WT} (H : OkW W) : (oddF W (nN W)).length % 2 = 0 := by
  rw [oddF_len, ← odd_even, deg_sum H]
  omega

def sv (N : Nat) (S : Nat → Bool) : List Bool := (List.range N).map S
def nl (l : List Nat) : List Int := l.map fun n : Nat => (n : Int)
theorem sv_len (N : Nat) (S : Nat → Bool) : (sv N S).length = N := by
  unfold sv
  rw [List.length_map, List.length_range]
theorem sv_get {N : Nat} (S : Nat → Bool) {b : Nat} (hb : b < N) : (sv N S).getD b default = S b := by
  unfold sv
  refine getD_at ?_
  rw [List.getElem?_map, List.getElem?_range hb]
  rfl
theorem sv_set (N : Nat) (S : Nat → Bool) (b : Nat) : (sv N S).set b true = sv N fun c => S c || c == b := by
  unfold sv
  refine List.ext_getElem? fun j => ?_
  rw [List.getElem?_set, List.getElem?_map, List.getElem?_map, List.length_map, List.length_range]
  by_cases hj : j < N
  · rw [List.getElem?_range hj]
    by_cases e : b = j
    · subst e
      rw [if_pos rfl, if_pos hj]
      simp
    · rw [if_neg e]
      have : (j == b) = false := by rw [beq_eq_false_iff_ne]; exact fun h => e h.symm
      simp [this]
  · rw [List.getElem?_eq_none (by rw [List.length_range]; omega)]
    by_cases e : b = j
    · subst e
      rw [if_pos rfl, if_neg hj]
      rfl
    · rw [if_neg e]
      rfl
theorem sv_new (N : Nat) : List.replicate N false = sv N fun _ => false := by
  unfold sv
  rw [List.map_const', List.length_range]
theorem nl_len (l : List Nat) : (nl l).length = l.length := by unfold nl; rw [List.length_map]
theorem nl_get {l : List Nat} {i a : Nat} (h : l[i]? = some a) : (nl l).getD i default = (a : Int) := by
  refine getD_at ?_
  unfold nl
  rw [List.getElem?_map, h]
  rfl
theorem nl_snoc (l : List Nat) (b : Nat) : nl l ++ [(b : Int)] = nl (l ++ [b]) := by
  unfold nl
  rw [List.map_append]
  rfl
/-! ### Who was seen, and by which lines -/
structure PInv (W : WT) (S UD UR : Nat → Bool) (many : Nat) : Prop where
  ud : ∀ k, k < nN W → UD k = true → dnW W k = true ∧ S k = true ∧ S (nb W k 2) = true
  ur : ∀ k, k < nN W → UR k = true → riW W k = true ∧ S k = true ∧ S (nb W k 1) = true
  sum : cf (nN W) S = many + cf (nN W) UD + cf (nN W) UR
abbrev plus (S : Nat → Bool) (b : Nat) : Nat → Bool := fun c => S c || c == b
theorem plus_old {S : Nat → Bool} {b c : Nat} (h : S c = true) : plus S b c = true := by
  show (S c || c == b) = true
  rw [h, Bool.true_or]
theorem plus_new {S : Nat → Bool} {b : Nat} : plus S b b = true := by
  show (S b || b == b) = true
  rw [beq_self_eq_true, Bool.or_true]
theorem plus_or {S : Nat → Bool} {b c : Nat} (h : plus S b c = true) : S c = true ∨ c = b := by
  rcases (Bool.or_eq_true _ _).mp h with h | h
  · exact .inl h
  · exact .inr (beq_iff_eq.1 h)
theorem PInv.root {W : WT} {S UD UR : Nat → Bool} {many i : Nat} (P : PInv W S UD UR many) (hi : i < nN W) (h : S i = false) : PInv W (plus S i) UD UR (many + 1) :=
  ⟨fun k hk hu => ⟨(P.ud k hk hu).1, plus_old (P.ud k hk hu).2.1, plus_old (P.ud k hk hu).2.2⟩, fun k hk hu => ⟨(P.ur k hk hu).1, plus_old (P.ur k hk hu).2.1, plus_old (P.ur k hk hu).2.2⟩, by
    have := P.sum
    have e : cf (nN W) (plus S i) = cf (nN W) S + 1 := cf_add h hi
    omega⟩
theorem PInv.addD {W : WT} {S UD UR : Nat → Bool} {many b k0 : Nat} (P : PInv W S UD UR many) (hb : b < nN W) (h : S b = false) (hk : k0 < nN W) (hl : dnW W k0 = true) (hu : UD k0 = false) (e1 : plus S b k0 = true) (e2 : plus S b (nb W k0 2) = true) : PInv W (plus S b) (plus UD k0) UR many :=
  ⟨fun k hk' hu => by
    rcases plus_or hu with hu | rfl
    · exact ⟨(P.ud k hk' hu).1, plus_old (P.ud k hk' hu).2.1, plus_old (P.ud k hk' hu).2.2⟩
    · exact ⟨hl, e1, e2⟩, fun k hk hu => ⟨(P.ur k hk hu).1, plus_old (P.ur k hk hu).2.1, plus_old (P.ur k hk hu).2.2⟩, by
    have := P.sum
    have e : cf (nN W) (plus S b) = cf (nN W) S + 1 := cf_add h hb
    have e' : cf (nN W) (plus UD k0) = cf (nN W) UD + 1 := cf_add hu hk
    omega⟩
theorem PInv.addR {W : WT} {S UD UR : Nat → Bool} {many b k0 : Nat} (P : PInv W S UD UR many) (hb : b < nN W) (h : S b = false) (hk : k0 < nN W) (hl : riW W k0 = true) (hu : UR k0 = false) (e1 : plus S b k0 = true) (e2 : plus S b (nb W k0 1) = true) : PInv W (plus S b) UD (plus UR k0) many :=
  ⟨fun k hk hu => ⟨(P.ud k hk hu).1, plus_old (P.ud k hk hu).2.1, plus_old (P.ud k hk hu).2.2⟩, fun k hk' hu => by
    rcases plus_or hu with hu | rfl
    · exact ⟨(P.ur k hk' hu).1, plus_old (P.ur k hk' hu).2.1, plus_old (P.ur k hk' hu).2.2⟩
    · exact ⟨hl, e1, e2⟩, by
    have := P.sum
    have e : cf (nN W) (plus S b) = cf (nN W) S + 1 := cf_add h hb
    have e' : cf (nN W) (plus UR k0) = cf (nN W) UR + 1 := cf_add hu hk
    omega⟩
theorem PInv.next {W : WT} (Z : SzW W) {S UD UR : Nat → Bool} {many a : Nat} {t : Int} (P : PInv W S UD UR many) (ha : a < nN W) (hs : S a = true) (ht : 0 ≤ t ∧ t ≤ 3) (hl : lnW W a t = true) (h : S (nb W a t) = false) : ∃ UD' UR', PInv W (plus S (nb W a t)) UD' UR' many := by
  obtain ⟨a0, a1, a2, a3⟩ := ln_eq Z ha
  have hb := nb_lt Z a t
  have hop := nb_op Z ha ht
  have no : ∀ {U : Bool}, (U = true → S (nb W a t) = true) → U = false := fun {U} hU => by
    cases U with
    | false => rfl
    | true => rw [hU rfl] at h; exact h
  have : t = 0 ∨ t = 1 ∨ t = 2 ∨ t = 3 := by omega
  rcases this with rfl | rfl | rfl | rfl
  · have hop : nb W (nb W a 0) 2 = a := hop
    exact ⟨_, _, P.addD hb h hb (a0 ▸ hl) (no fun u => (P.ud _ hb u).2.1) plus_new (by rw [hop]; exact plus_old hs)⟩
  · exact ⟨_, _, P.addR hb h ha (a1 ▸ hl) (no fun u => (P.ur _ ha u).2.2) (plus_old hs) plus_new⟩
  · exact ⟨_, _, P.addD hb h ha (a2 ▸ hl) (no fun u => (P.ud _ ha u).2.2) (plus_old hs) plus_new⟩
  · have hop : nb W (nb W a 3) 1 = a := hop
    exact ⟨_, _, P.addR hb h hb (a3 ▸ hl) (no fun u => (P.ur _ hb u).2.1) plus_new (by rw [hop]; exact plus_old hs)⟩
/-! ### One node's ways -/
section
variable {W : WT} (H : OkW W) {a i t : Nat} (ha : a < nN W) (ht : t < 4) {S : Nat → Bool} {many T I : Int} {l : List Nat} (hl : l[i]? = some a)
include H ha ht hl
theorem wayI {r : WT × List Bool × Int × List Int × Int × Int × Int} (Hr : Ev (fun k => cond (lnW W a (t : Int)) (cond (!(S (nb W a (t : Int)))) (cond (fits (l.length + 1) 8) (impl_PiecesLeft_l_l_l k (W, sv (nN W) (plus S (nb W a (t : Int))), many, nl (l ++ [nb W a (t : Int)]), (i : Int), T, I, ((t + 1 : Nat) : Int))) none)
      (impl_PiecesLeft_l_l_l k (W, sv (nN W) S, many, nl l, (i : Int), T, I, ((t + 1 : Nat) : Int)))) (impl_PiecesLeft_l_l_l k (W, sv (nN W) S, many, nl l, (i : Int), T, I, ((t + 1 : Nat) : Int)))) r) :
    Ev (fun k => impl_PiecesLeft_l_l_l k (W, sv (nN W) S, many, nl l, (i : Int), T, I, (t : Int))) r := by
  have h1 := beside_at H ha (t := (t : Int)) (by omega)
  have h2 := there_at H ha (t := (t : Int)) (by omega)
  have hb := nb_lt H.sz a (t : Int)
  have hi : inB (i : Int) (nl l).length = true := by
    rw [nl_len]
    exact inB_nat (List.getElem?_eq_some_iff.1 hl).1
  have hbb : inB ((nb W a (t : Int) : Nat) : Int) (sv (nN W) S).length = true := by
    rw [sv_len]
    exact inB_nat hb
  have hw1 := w64_succ (i := t) (by omega)
  have hlen := nl_len l
  have hg := nl_get hl
  have hset := sv_set (nN W) S (nb W a (t : Int))
  have hsg := sv_get S hb
  have hsn := nl_snoc l (nb W a (t : Int))
  generalize lnW W a (t : Int) = c at *
  generalize nb W a (t : Int) = b at *
  obtain ⟨w, h, ri, dn, x, y, wy⟩ := W
  refine Ev.step (fun k => impl_PiecesLeft_l_l_l.eq k w h ri dn x y wy _ _ _ _ _ _ _) (Ev.yes (decide_eq_true (by omega)) (Ev.yes hi ?_))
  rw [Int.toNat_natCast, hg]
  refine Ev.bind h1 (Ev.yes hi (Ev.bind h2 ?_))
  cases c with
  | false =>
    refine Ev.no rfl ?_
    rw [hw1]
    exact Hr
  | true =>
    refine Ev.yes rfl (Ev.yes hbb ?_)
    rw [Int.toNat_natCast, hsg, hw1, hset, hlen, hsn, hbb]
    exact Hr
theorem wayS {r : WT × List Bool × Int × List Int × Int × Int × Int} (Hr : Ev (fun k => cond (lnW W a (t : Int)) (cond (!(S (nb W a (t : Int)))) (cond (fits (l.length + 1) 8) (spec_PiecesLeft_l_l_l k (W, sv (nN W) (plus S (nb W a (t : Int))), many, nl (l ++ [nb W a (t : Int)]), (i : Int), ((t + 1 : Nat) : Int), T, I)) none)
      (spec_PiecesLeft_l_l_l k (W, sv (nN W) S, many, nl l, (i : Int), ((t + 1 : Nat) : Int), T, I))) (spec_PiecesLeft_l_l_l k (W, sv (nN W) S, many, nl l, (i : Int), ((t + 1 : Nat) : Int), T, I))) r) :
    Ev (fun k => spec_PiecesLeft_l_l_l k (W, sv (nN W) S, many, nl l, (i : Int), (t : Int), T, I)) r := by
  have h1 := has_at H ha (t := (t : Int)) (by omega) W.2.2.2.2.1 W.2.2.2.2.2.1 W.2.2.2.2.2.2
  have h2 := go_at H ha (t := (t : Int)) (by omega)
  have hb := nb_lt H.sz a (t : Int)
  obtain ⟨t1, t2, t3⟩ := node_tm H.sz ha
  obtain ⟨x1, x2, x3⟩ := nXY H.sz hb
  have e64 := at64 x1 x2 (by have := H.1; omega) (by have := H.2.1; omega)
  rw [x3] at e64
  have hi : inB (i : Int) (nl l).length = true := by
    rw [nl_len]
    exact inB_nat (List.getElem?_eq_some_iff.1 hl).1
  have hbb : inB ((nb W a (t : Int) : Nat) : Int) (sv (nN W) S).length = true := by
    rw [sv_len]
    exact inB_nat hb
  have hw1 := w64_succ (i := t) (by omega)
  have hlen := nl_len l
  have hg := nl_get hl
  have hset := sv_set (nN W) S (nb W a (t : Int))
  have hsg := sv_get S hb
  have hsn := nl_snoc l (nb W a (t : Int))
  generalize lnW W a (t : Int) = c at *
  generalize nb W a (t : Int) = b at *
  generalize nX W b = X at *
  generalize nY W b = Y at *
  generalize nX W a = x' at *
  generalize nY W a = y' at *
  obtain ⟨w, h, ri, dn, x, y, wy⟩ := W
  refine Ev.step (fun k => spec_PiecesLeft_l_l_l.eq k w h ri dn x y wy _ _ _ _ _ _ _) (Ev.yes (decide_eq_true (by omega)) (Ev.yes hi (Ev.yes t3 (Ev.yes hi (Ev.yes t3 ?_)))))
  simp only at t1 t2 e64
  rw [Int.toNat_natCast, hg, t1, t2]
  refine Ev.bind h1 ?_
  cases c with
  | false =>
    refine Ev.yes rfl ?_
    rw [hw1]
    exact Hr
  | true =>
    refine Ev.no rfl (Ev.bind h2 ?_)
    show Ev (fun k => cond (inB (w64 (w64 (Y * w) + X)) _) _ _) r
    simp only [e64]
    refine Ev.yes hbb ?_
    simp only [Int.toNat_natCast, hsg, hw1, hset, hlen, hsn, hbb]
    exact Hr
end
theorem ways_ev {W : WT} (H : OkW W) {a i many : Nat} (ha : a < nN W) (T I : Int) : ∀ (m t : Nat), t + m = 4 → ∀ (S UD UR : Nat → Bool) (l : List Nat), PInv W S UD UR many → (∀ c ∈ l, c < nN W ∧ S c = true) → l.length ≤ cf (nN W) S → l[i]? = some a →
    (∀ t' : Nat, t' < t → lnW W a (t' : Int) = true → S (nb W a (t' : Int)) = true) →
    ∃ (S' UD' UR' : Nat → Bool) (e : List Nat), PInv W S' UD' UR' many ∧ (∀ c ∈ l ++ e, c < nN W ∧ S' c = true) ∧ (l ++ e).length ≤ cf (nN W) S' ∧ (∀ c, S c = true → S' c = true) ∧ (∀ c, S' c = true → S c = true ∨ c ∈ e) ∧ (∀ t' : Nat, t' < 4 → lnW W a (t' : Int) = true → S' (nb W a (t' : Int)) = true) ∧
      Ev (fun k => impl_PiecesLeft_l_l_l k (W, sv (nN W) S, (many : Int), nl l, (i : Int), T, I, (t : Int))) (W, sv (nN W) S', (many : Int), nl (l ++ e), (i : Int), T, I) ∧
      Ev (fun k => spec_PiecesLeft_l_l_l k (W, sv (nN W) S, (many : Int), nl l, (i : Int), (t : Int), T, I)) (W, sv (nN W) S', (many : Int), nl (l ++ e), (i : Int), T, I) := by
  intro m
  induction m with
  | zero =>
    intro t htm S UD UR l P hm hle hl hd
    obtain rfl : t = 4 := by omega
    refine ⟨S, UD, UR, [], P, by rw [List.append_nil]; exact hm, by rw [List.append_nil]; exact hle, fun c h => h, fun c h => .inl h, hd, ?_, ?_⟩ <;> rw [List.append_nil]
    · obtain ⟨w, h, ri, dn, x, y, wy⟩ := W
      exact Ev.step (fun k => impl_PiecesLeft_l_l_l.eq k w h ri dn x y wy _ _ _ _ _ _ _) (Ev.no (by decide) (Ev.now _))
    · obtain ⟨w, h, ri, dn, x, y, wy⟩ := W
      exact Ev.step (fun k => spec_PiecesLeft_l_l_l.eq k w h ri dn x y wy _ _ _ _ _ _ _) (Ev.no (by decide) (Ev.now _))
  | succ m ih =>
    intro t htm S UD UR l P hm hle hl hd
    have hlt := (List.getElem?_eq_some_iff.1 hl).1
    have hs := (hm a (List.mem_of_getElem? hl)).2
    have hN := H.sz.n
    have hcf := cf_le S (nN W)
    have tI := fun {r} => wayI H ha (t := t) (by omega) (S := S) (many := (many : Int)) (T := T) (I := I) hl (r := r)
    have tS := fun {r} => wayS H ha (t := t) (by omega) (S := S) (many := (many : Int)) (T := T) (I := I) hl (r := r)
    by_cases hc : lnW W a (t : Int) = true ∧ S (nb W a (t : Int)) = false
    · obtain ⟨hc1, hc2⟩ := hc
      have hb := nb_lt H.sz a (t : Int)
      obtain ⟨UD1, UR1, P1⟩ := P.next H.sz ha hs (t := (t : Int)) (by omega) hc1 hc2
      have ecf : cf (nN W) (plus S (nb W a (t : Int))) = cf (nN W) S + 1 := cf_add hc2 hb
      obtain ⟨S', UD', UR', e, P', q1, q2, q3, q4, q5, q6, q7⟩ := ih (t + 1) (by omega) (plus S (nb W a (t : Int))) UD1 UR1 (l ++ [nb W a (t : Int)]) P1 (fun c hcm => by
        rcases List.mem_append.1 hcm with h | h
        · exact ⟨(hm c h).1, plus_old (hm c h).2⟩
        · rw [List.mem_singleton] at h
          rw [h]
          exact ⟨hb, plus_new⟩) (by rw [ecf, List.length_append, List.length_singleton]; omega) (by rw [List.getElem?_append_left hlt]; exact hl) (fun t' h1 h2 => by
        by_cases e : t' = t
        · rw [e]
          exact plus_new
        · exact plus_old (hd t' (by omega) h2))
      rw [List.append_assoc] at q1 q2 q6 q7
      refine ⟨S', UD', UR', nb W a (t : Int) :: e, P', q1, q2, fun c h => q3 c (plus_old h), fun c h => ?_, q5, tI ?_, tS ?_⟩
      · rcases q4 c h with h | h
        · rcases plus_or h with h | h
          · exact .inl h
          · exact .inr (List.mem_cons.2 (.inl h))
        · exact .inr (List.mem_cons.2 (.inr h))
      · rw [hc1, hc2]
        exact Ev.yes rfl (Ev.yes rfl (Ev.yes (fits_of (by omega)) q6))
      · rw [hc1, hc2]
        exact Ev.yes rfl (Ev.yes rfl (Ev.yes (fits_of (by omega)) q7))
    · obtain ⟨S', UD', UR', e, P', q1, q2, q3, q4, q5, q6, q7⟩ := ih (t + 1) (by omega) S UD UR l P hm hle hl (fun t' h1 h2 => by
        by_cases e : t' = t
        · subst e
          cases h3 : S (nb W a (t' : Int)) with
          | true => rfl
          | false => exact absurd ⟨h2, h3⟩ hc
        · exact hd t' (by omega) h2)
      refine ⟨S', UD', UR', e, P', q1, q2, q3, q4, q5, tI ?_, tS ?_⟩
      · cases h1 : lnW W a (t : Int) with
        | false => exact Ev.no rfl q6
        | true =>
          cases h3 : S (nb W a (t : Int)) with
          | true => exact Ev.yes rfl (Ev.no rfl q6)
          | false => exact absurd ⟨h1, h3⟩ hc
      · cases h1 : lnW W a (t : Int) with
        | false => exact Ev.no rfl q7
        | true =>
          cases h3 : S (nb W a (t : Int)) with
          | true => exact Ev.yes rfl (Ev.no rfl q7)
          | false => exact absurd ⟨h1, h3⟩ hc
/-! ### A piece -/
def Cl (W : WT) (S : Nat → Bool) (a : Nat) : Prop := ∀ t : Nat, t < 4 → lnW W a (t : Int) = true → S (nb W a (t : Int)) = true
theorem Cl.mono {W : WT} {S S' : Nat → Bool} {a : Nat} (h : Cl W S a) (hs : ∀ c, S c = true → S' c = true) : Cl W S' a := fun t ht hl => hs _ (h t ht hl)
theorem queue_ev {W : WT} (H : OkW W) {many : Nat} (T I : Int) : ∀ (m i : Nat) (S UD UR : Nat → Bool) (l : List Nat), nN W ≤ i + m → PInv W S UD UR many → (∀ c ∈ l, c < nN W ∧ S c = true) → l.length ≤ cf (nN W) S →
    (∀ c, c < nN W → S c = true → Cl W S c ∨ c ∈ l.drop i) → ∃ S' UD' UR' : Nat → Bool, PInv W S' UD' UR' many ∧ (∀ c, S c = true → S' c = true) ∧ (∀ c, c < nN W → S' c = true → Cl W S' c) ∧
      Ev (fun k => impl_PiecesLeft_l_l k (W, sv (nN W) S, (many : Int), nl l, (i : Int), T, I)) (W, sv (nN W) S', (many : Int), T, I) ∧ Ev (fun k => spec_PiecesLeft_l_l k (W, sv (nN W) S, (many : Int), nl l, (i : Int), T, I)) (W, sv (nN W) S', (many : Int), T, I) := by
  intro m
  induction m with
  | zero =>
    intro i S UD UR l hi P hm hle hd
    have hcf := cf_le S (nN W)
    refine ⟨S, UD, UR, P, fun c h => h, fun c hc hs => ?_, ?_, ?_⟩
    · rcases hd c hc hs with h | h
      · exact h
      · rw [List.drop_of_length_le (by omega)] at h
        exact absurd h List.not_mem_nil
    · obtain ⟨w, h, ri, dn, x, y, wy⟩ := W
      exact Ev.step (fun k => impl_PiecesLeft_l_l.eq k w h ri dn x y wy _ _ _ _ _ _) (Ev.no (not_lt_nat (by rw [nl_len]; omega)) (Ev.now _))
    · obtain ⟨w, h, ri, dn, x, y, wy⟩ := W
      exact Ev.step (fun k => spec_PiecesLeft_l_l.eq k w h ri dn x y wy _ _ _ _ _ _) (Ev.no (not_lt_nat (by rw [nl_len]; omega)) (Ev.now _))
  | succ m ih =>
    intro i S UD UR l hi P hm hle hd
    have hcf := cf_le S (nN W)
    by_cases hlt : i < l.length
    · obtain ⟨a, hl⟩ := nat_list hlt
      obtain ⟨ha, hs⟩ := hm a (List.mem_of_getElem? hl)
      obtain ⟨S1, UD1, UR1, e, P1, q1, q2, q3, q4, q5, q6, q7⟩ := ways_ev H (i := i) ha T I 4 0 rfl S UD UR l P hm hle hl (fun t h => by omega)
      obtain ⟨S2, UD2, UR2, P2, r1, r2, r3, r4⟩ := ih (i + 1) S1 UD1 UR1 (l ++ e) (by omega) P1 q1 q2 (fun c hc hsc => by
        rw [List.drop_append_of_le_length (by omega)]
        rcases q4 c hsc with h | h
        · rcases hd c hc h with h | h
          · exact .inl (h.mono q3)
          · obtain ⟨h1, h2⟩ := List.getElem?_eq_some_iff.1 hl
            rw [List.drop_eq_getElem_cons h1, h2] at h
            rcases List.mem_cons.1 h with h | h
            · rw [h]
              exact .inl q5
            · exact .inr (List.mem_append.2 (.inl h))
        · exact .inr (List.mem_append.2 (.inr h)))
      have hw := w64_succ (i := i) (by have := H.sz.n; omega)
      refine ⟨S2, UD2, UR2, P2, fun c h => r1 c (q3 c h), r2, ?_, ?_⟩
      · obtain ⟨w, h, ri, dn, x, y, wy⟩ := W
        refine Ev.step (fun k => impl_PiecesLeft_l_l.eq k w h ri dn x y wy _ _ _ _ _ _) (Ev.yes (lt_nat (by rw [nl_len]; exact hlt)) (Ev.bind q6 ?_))
        simp only [hw]
        exact r3
      · obtain ⟨w, h, ri, dn, x, y, wy⟩ := W
        refine Ev.step (fun k => spec_PiecesLeft_l_l.eq k w h ri dn x y wy _ _ _ _ _ _) (Ev.yes (lt_nat (by rw [nl_len]; exact hlt)) (Ev.bind q7 ?_))
        simp only [hw]
        exact r4
    · refine ⟨S, UD, UR, P, fun c h => h, fun c hc hs => ?_, ?_, ?_⟩
      · rcases hd c hc hs with h | h
        · exact h
        · rw [List.drop_of_length_le (by omega)] at h
          exact absurd h List.not_mem_nil
      · obtain ⟨w, h, ri, dn, x, y, wy⟩ := W
        exact Ev.step (fun k => impl_PiecesLeft_l_l.eq k w h ri dn x y wy _ _ _ _ _ _) (Ev.no (not_lt_nat (by rw [nl_len]; omega)) (Ev.now _))
      · obtain ⟨w, h, ri, dn, x, y, wy⟩ := W
        exact Ev.step (fun k => spec_PiecesLeft_l_l.eq k w h ri dn x y wy _ _ _ _ _ _) (Ev.no (not_lt_nat (by rw [nl_len]; omega)) (Ev.now _))
/-! ### All pieces -/
def FullW (W : WT) : Prop := ∀ k, k < nN W → dnW W k = true ∧ riW W k = true
theorem spread {W : WT} (Z : SzW W) (F : FullW W) {S : Nat → Bool} (h0 : S 0 = true) (hc : ∀ c, c < nN W → S c = true → Cl W S c) : ∀ j, j < nN W → S j = true := by
  have hn := Z.n
  have n0 : 0 < nN W := by omega
  have X0 : nX W 0 = 0 := by
    unfold nX
    exact Int.zero_emod _
  have Y0 : nY W 0 = 0 := by
    unfold nY
    exact Int.zero_ediv _
  have row : ∀ x : Nat, S (sig W (x : Int) 0 0) = true := by
    intro x
    induction x with
    | zero =>
      rw [show ((0 : Nat) : Int) = 0 from rfl, sig_zero Z n0]
      exact h0
    | succ x ih =>
      have hlt := (sig_at Z (x : Int) 0 0).1
      have := hc _ hlt ih 1 (by omega) (((ln_eq Z hlt).2.1).trans (F _ hlt).2)
      have e : nb W (sig W (x : Int) 0 0) ((1 : Nat) : Int) = sig W ((x + 1 : Nat) : Int) 0 0 := by
        show sig W 1 0 _ = _
        rw [sig_sig Z]
        rfl
      rw [e] at this
      exact this
  have all : ∀ x y : Nat, S (sig W (x : Int) (y : Int) 0) = true := by
    intro x y
    induction y with
    | zero => exact row x
    | succ y ih =>
      have hlt := (sig_at Z (x : Int) (y : Int) 0).1
      have := hc _ hlt ih 2 (by omega) (((ln_eq Z hlt).2.2.1).trans (F _ hlt).1)
      have e : nb W (sig W (x : Int) (y : Int) 0) ((2 : Nat) : Int) = sig W (x : Int) ((y + 1 : Nat) : Int) 0 := by
        show sig W 0 1 _ = _
        rw [sig_sig Z, Int.add_zero]
        rfl
      rw [e] at this
      exact this
  intro j hj
  obtain ⟨hx, hy, e⟩ := nXY Z hj
  have := all (nX W j).toNat (nY W j).toNat
  rw [Int.toNat_of_nonneg hx.1, Int.toNat_of_nonneg hy.1] at this
  have e2 : sig W (nX W j) (nY W j) 0 = j := by
    unfold sig
    rw [X0, Y0, Int.zero_add, Int.zero_add, Int.emod_eq_of_lt hx.1 (by omega), Int.emod_eq_of_lt hy.1 (by omega), e]
    rfl
  rw [e2] at this
  exact this
theorem pieces_l_ev {W : WT} (H : OkW W) : ∀ (m i : Nat) (S UD UR : Nat → Bool) (many : Nat), i + m = nN W → PInv W S UD UR many → (∀ j, j < i → S j = true) → (∀ c, c < nN W → S c = true → Cl W S c) → (∀ j, j < nN W → S j = true → 1 ≤ many) →
    (FullW W → (many = 0 ∧ ∀ j, j < nN W → S j = false) ∨ (many = 1 ∧ ∀ j, j < nN W → S j = true)) →
    ∃ p : Nat, Ev (fun k => impl_PiecesLeft_l k (W, sv (nN W) S, (many : Int), (nN W : Int), (i : Int))) (p : Int) ∧ Ev (fun k => spec_PiecesLeft_l k (W, sv (nN W) S, (many : Int), (nN W : Int), (i : Int))) (p : Int) ∧
      1 ≤ p ∧ p ≤ nN W ∧ nN W ≤ p + onesW W ∧ (FullW W → p = 1) := by
  have hn := H.sz.n
  intro m
  induction m with
  | zero =>
    intro i S UD UR many hi P hall hcl h1 hf
    obtain rfl : i = nN W := by omega
    have e := cf_full hall
    have hsum := P.sum
    have c1 := cf_mono (N := nN W) fun k hk hu => (P.ud k hk hu).1
    have c2 := cf_mono (N := nN W) fun k hk hu => (P.ur k hk hu).1
    have hs := H.2.2.1
    have o1 : onesW W = cf (nN W) (riW W) + cf (nN W) (dnW W) := by
      unfold onesW
      rw [ones_cf (s := W.2.2.1) (N := nN W) (by omega), ones_cf (s := W.2.2.2.1) (N := nN W) (by omega)]
      rfl
    refine ⟨many, ?_, ?_, h1 0 (by omega) (hall 0 (by omega)), by omega, by omega, fun F => ?_⟩
    · obtain ⟨w, h, ri, dn, x, y, wy⟩ := W
      exact Ev.step (fun k => impl_PiecesLeft_l.eq k w h ri dn x y wy _ _ _ _) (Ev.no (not_lt_nat (by omega)) (Ev.now _))
    · obtain ⟨w, h, ri, dn, x, y, wy⟩ := W
      exact Ev.step (fun k => spec_PiecesLeft_l.eq k w h ri dn x y wy _ _ _ _) (Ev.no (not_lt_nat (by omega)) (Ev.now _))
    · rcases hf F with h | h
      · have h0 := h.2 0 (by omega)
        rw [hall 0 (by omega)] at h0
        exact Bool.noConfusion h0
      · exact h.1
  | succ m ih =>
    intro i S UD UR many hi P hall hcl h1 hf
    have hlt : i < nN W := by omega
    have hcf := cf_le S (nN W)
    have hsum := P.sum
    have hw := w64_succ (i := i) (by omega)
    have hm := w64_succ (i := many) (by omega)
    have hib : inB (i : Int) (sv (nN W) S).length = true := by rw [sv_len]; exact inB_nat hlt
    have hg := sv_get S hlt
    have hset := sv_set (nN W) S i
    cases hS : S i with
    | true =>
      obtain ⟨p, p1, p2, p3⟩ := ih (i + 1) S UD UR many (by omega) P (fun j hj => by
        by_cases e : j = i
        · rw [e]
          exact hS
        · exact hall j (by omega)) hcl h1 hf
      refine ⟨p, ?_, ?_, p3⟩
      · obtain ⟨w, h, ri, dn, x, y, wy⟩ := W
        refine Ev.step (fun k => impl_PiecesLeft_l.eq k w h ri dn x y wy _ _ _ _) (Ev.yes (lt_nat hlt) (Ev.yes hib ?_))
        rw [Int.toNat_natCast, hg, hS, hw]
        exact p1
      · obtain ⟨w, h, ri, dn, x, y, wy⟩ := W
        refine Ev.step (fun k => spec_PiecesLeft_l.eq k w h ri dn x y wy _ _ _ _) (Ev.yes (lt_nat hlt) (Ev.yes hib ?_))
        rw [Int.toNat_natCast, hg, hS, hw]
        exact p2
    | false =>
      have P1 := P.root hlt hS
      have ecf : cf (nN W) (plus S i) = cf (nN W) S + 1 := cf_add hS hlt
      obtain ⟨S2, UD2, UR2, P2, q1, q2, q3, q4⟩ := queue_ev H (many := many + 1) (nN W : Int) (i : Int) (nN W) 0 (plus S i) UD UR [i] (by omega) P1 (fun c hc => by
        rw [List.mem_singleton] at hc
        rw [hc]
        exact ⟨hlt, plus_new⟩) (by rw [ecf, List.length_singleton]; omega) (fun c hc hs => by
        rcases plus_or hs with h | h
        · exact .inl ((hcl c hc h).mono fun d hd => plus_old hd)
        · rw [h]
          exact .inr (List.mem_singleton.2 rfl))
      obtain ⟨p, p1, p2, p3⟩ := ih (i + 1) S2 UD2 UR2 (many + 1) (by omega) P2 (fun j hj => by
        by_cases e : j = i
        · rw [e]
          exact q1 i plus_new
        · exact q1 j (plus_old (hall j (by omega)))) q2 (fun _ _ _ => by omega) (fun F => .inr (by
        rcases hf F with h | h
        · refine ⟨by omega, spread H.sz F ?_ q2⟩
          by_cases e : i = 0
          · rw [← e]
            exact q1 i plus_new
          · exact q1 0 (plus_old (hall 0 (by omega)))
        · rw [h.2 i hlt] at hS
          exact Bool.noConfusion hS))
      refine ⟨p, ?_, ?_, p3⟩
      · obtain ⟨w, h, ri, dn, x, y, wy⟩ := W
        refine Ev.step (fun k => impl_PiecesLeft_l.eq k w h ri dn x y wy _ _ _ _) (Ev.yes (lt_nat hlt) (Ev.yes hib ?_))
        rw [Int.toNat_natCast, hg, hS]
        refine Ev.no rfl (Ev.yes hib ?_)
        rw [hset, hm]
        refine Ev.bind q3 ?_
        simp only [hw]
        exact p1
      · obtain ⟨w, h, ri, dn, x, y, wy⟩ := W
        refine Ev.step (fun k => spec_PiecesLeft_l.eq k w h ri dn x y wy _ _ _ _) (Ev.yes (lt_nat hlt) (Ev.yes hib ?_))
        rw [Int.toNat_natCast, hg, hS]
        refine Ev.no rfl (Ev.yes hib ?_)
        rw [hset, hm]
        refine Ev.bind q4 ?_
        simp only [hw]
        exact p2
theorem pieces_both (W : WT) (hr : W.2.2.1.size ≤ 1048576) (hd : W.2.2.2.1.size ≤ 1048576) : ∃ r, Ev (fun k => impl_PiecesLeft k W) r ∧ Ev (fun k => spec_PiecesLeft k W) r ∧ (¬ OkW W → r = (0, false)) ∧
    (OkW W → ∃ p : Nat, r = ((p : Int), true) ∧ 1 ≤ p ∧ p ≤ nN W ∧ nN W ≤ p + onesW W ∧ (FullW W → p = 1)) := by
  have b1 := isWorm_ev W.1 W.2.1 W.2.2.1 W.2.2.2.1 W.2.2.2.2.1 W.2.2.2.2.2.1 W.2.2.2.2.2.2 hr hd
  have b2 := wmGood_ev W.1 W.2.1 W.2.2.1 W.2.2.2.1 W.2.2.2.2.1 W.2.2.2.2.2.1 W.2.2.2.2.2.2 hr hd
  by_cases H : OkW W
  rotate_left
  · obtain ⟨w, h, ri, dn, X, Y, wy⟩ := W
    exact ⟨(0, false), Ev.step (fun k => impl_PiecesLeft.eq k w h ri dn X Y wy) (Ev.bind (b1.isF H) (Ev.yes rfl (Ev.now _))), Ev.step (fun k => spec_PiecesLeft.eq k w h ri dn X Y wy) (Ev.bind (b2.isF H) (Ev.yes rfl (Ev.now _))), fun _ => rfl, fun h => absurd h H⟩
  have hs := H.2.2.1
  have hn := H.sz.n
  have hN : W.2.2.1.size = nN W := by omega
  obtain ⟨p, p1, p2, p3⟩ := pieces_l_ev H (nN W) 0 (fun _ => false) (fun _ => false) (fun _ => false) 0 (by omega) ⟨fun k hk h => Bool.noConfusion h, fun k hk h => Bool.noConfusion h, by rw [cf_none fun _ _ => rfl]⟩ (fun j hj => by omega) (fun c hc h => Bool.noConfusion h) (fun c hc h => Bool.noConfusion h) (fun _ => .inl ⟨rfl, fun _ _ => rfl⟩)
  have hlen : ((List.replicate (W.2.2.1.size : Int).toNat false).length : Int) = (nN W : Int) := by rw [List.length_replicate, Int.toNat_natCast, hN]
  have hnew : List.replicate (W.2.2.1.size : Int).toNat false = sv (nN W) fun _ => false := by rw [Int.toNat_natCast, hN, sv_new]
  have hfit : (((decide ((0 : Int) ≤ (W.2.2.1.size : Int))) && (decide ((W.2.2.1.size : Int) ≤ (W.2.2.1.size : Int)))) && (fits (W.2.2.1.size : Int).toNat 1)) = true := by
    rw [decide_eq_true (by omega), decide_eq_true (by omega), fits_of (by rw [Int.toNat_natCast]; omega)]
    rfl
  rw [← hnew, ← hlen] at p1 p2
  obtain ⟨w, h, ri, dn, X, Y, wy⟩ := W
  exact ⟨((p : Int), true), Ev.step (fun k => impl_PiecesLeft.eq k w h ri dn X Y wy) (Ev.bind (b1.isT H) (Ev.no rfl (Ev.yes hfit (Ev.bind p1 (Ev.now _))))), Ev.step (fun k => spec_PiecesLeft.eq k w h ri dn X Y wy) (Ev.bind (b2.isT H) (Ev.no rfl (Ev.yes hfit (Ev.bind p2 (Ev.now _))))), fun h => absurd H h, fun _ => ⟨p, rfl, p3⟩⟩

theorem life_told {ts : ByteArray} (ht : ts ∈ tasteL) {W D : WT} {tr ml : List Int} (L : Lives ts W D tr ml) (H : OkW W) : Ev (fun k => impl_LifeOf k (W, ts)) ((ml.length : Int), true) := by
  obtain ⟨sr, sd⟩ := H.size
  have a1 := (askI_ev W ts sr sd).isT ⟨H, ht⟩
  obtain ⟨l1, l2⟩ := L.life H
  obtain ⟨w, h, ri, dn, x, y, wy⟩ := W
  have hz : ((ofBytes ml).size : Int) = (ml.length : Int) := by rw [size_list]; unfold ofBytes; simp
  have m1 : Ev (fun k => impl_MealsOfWorm k ((w, h, ri, dn, x, y, wy), ts)) (ofBytes ml, true) := Ev.step (fun k => impl_MealsOfWorm.eq k w h ri dn x y wy ts) (Ev.bind a1 (Ev.no rfl (Ev.bind l2 (Ev.now _))))
  exact Ev.step (fun k => impl_LifeOf.eq k w h ri dn x y wy ts) (Ev.bind m1 (Ev.now' (by rw [hz])))
def LifeIs (W : WT) (t : ByteArray) (n : Nat) : Prop := n ≤ 200 ∧ Ev (fun k => impl_LifeOf k (W, t)) ((n : Int), true) ∧ ∃ (D : WT) (sg : ByteArray) (tr : List Int), sg.size = n ∧ Ev (fun k => spec_wmLife k (W, t)) (D, sg, tr) ∧ Ev (fun k => impl_Worm_life k (W, t)) (D, tr, sg)
theorem lf_ex {W : WT} (H : OkW W) : ∃ lf : ByteArray → Nat, ∀ t ∈ tasteL, LifeIs W t (lf t) := by
  have one : ∀ t ∈ tasteL, ∃ n, LifeIs W t n := fun t ht => by
    obtain ⟨t1, t2⟩ := tasteL_ok t ht
    obtain ⟨D, tr, ml, L⟩ := lives_ex t t1 t2 _ W H rfl
    have f := (L.facts H).2.1
    have := ones_small H
    obtain ⟨l1, l2⟩ := L.life H
    exact ⟨ml.length, by omega, life_told ht L H, D, ofBytes ml, _, by rw [size_list]; unfold ofBytes; simp, l1, l2⟩
  classical
  refine ⟨fun t => if h : ∃ n, LifeIs W t n then Classical.choose h else 0, fun t ht => ?_⟩
  show LifeIs W t (if h : ∃ n, LifeIs W t n then Classical.choose h else 0)
  rw [dif_pos (one t ht)]
  exact Classical.choose_spec (one t ht)
theorem best_l_ev {W : WT} (H : OkW W) {lf : ByteArray → Nat} (hlf : ∀ t ∈ tasteL, LifeIs W t (lf t)) : ∀ (m i : Nat) (out : List ByteArray) (most : Int), i + m = tasteL.length → out.length ≤ i → (-1 ≤ most ∧ most ≤ 200) → (i = 0 → most = -1) → (0 < i → out ≠ [] ∧ 0 ≤ most) →
    (∀ t, t ∈ tasteL.take i → (lf t : Int) ≤ most) → (∀ t, t ∈ out ↔ t ∈ tasteL.take i ∧ (lf t : Int) = most) →
    ∃ (out' : List ByteArray) (most' : Int), Ev (fun k => spec_LongestLife_l k (W, out, most, tasteL, (tasteL.length : Int), (i : Int))) (out', most') ∧ Ev (fun k => impl_LongestLife_l k (W, out, most, tasteL, (tasteL.length : Int), (i : Int))) (out', most') ∧
      out'.length ≤ 6 ∧ out' ≠ [] ∧ (∀ t ∈ tasteL, (lf t : Int) ≤ most') ∧ (∀ t ∈ tasteL, t ∈ out' ↔ (lf t : Int) = most') := by
  have h6 : tasteL.length = 6 := rfl
  intro m
  induction m with
  | zero =>
    intro i out most hi ho hm h0 h1 hall hmem
    rw [List.take_of_length_le (by omega)] at hall hmem
    obtain ⟨w, h, ri, dn, x, y, wy⟩ := W
    exact ⟨out, most, Ev.step (fun k => spec_LongestLife_l.eq k w h ri dn x y wy out most tasteL (tasteL.length : Int) (i : Int)) (Ev.no (not_lt_nat (by omega)) (Ev.now _)), Ev.step (fun k => impl_LongestLife_l.eq k w h ri dn x y wy out most tasteL (tasteL.length : Int) (i : Int)) (Ev.no (not_lt_nat (by omega)) (Ev.now _)), by omega, (h1 (by omega)).1, hall, fun t ht => (hmem t).trans ⟨fun q => q.2, fun q => ⟨ht, q⟩⟩⟩
  | succ m ih =>
    intro i out most hi ho hm h0 h1 hall hmem
    obtain ⟨t, ht⟩ := nat_list (l := tasteL) (i := i) (by omega)
    obtain ⟨t200, _, W', sg, tr, hsg, p1, p2⟩ := hlf t (List.mem_of_getElem? ht)
    have htake : tasteL.take (i + 1) = tasteL.take i ++ [t] := by rw [List.take_add_one, ht]; rfl
    have ih := ih (i + 1)
    rw [htake] at ih
    have S : ∀ r, Ev (fun k => cond (decide ((sg.size : Int) > most)) (cond ((sg.size : Int) == (sg.size : Int)) (cond (fits 1 16) (spec_LongestLife_l k (W, [t], (sg.size : Int), tasteL, (tasteL.length : Int), w64 ((i : Int) + 1))) none) (spec_LongestLife_l k (W, [], (sg.size : Int), tasteL, (tasteL.length : Int), w64 ((i : Int) + 1))))
        (cond ((sg.size : Int) == most) (cond (fits (out.length + 1) 16) (spec_LongestLife_l k (W, out ++ [t], most, tasteL, (tasteL.length : Int), w64 ((i : Int) + 1))) none) (spec_LongestLife_l k (W, out, most, tasteL, (tasteL.length : Int), w64 ((i : Int) + 1))))) r → Ev (fun k => spec_LongestLife_l k (W, out, most, tasteL, (tasteL.length : Int), (i : Int))) r := fun r Hr => by
      obtain ⟨w, h, ri, dn, x, y, wy⟩ := W
      refine Ev.step (fun k => spec_LongestLife_l.eq k w h ri dn x y wy out most tasteL (tasteL.length : Int) (i : Int)) (Ev.yes (lt_nat (by omega)) (Ev.yes (inB_nat (by omega)) ?_))
      rw [Int.toNat_natCast, getD_at ht]
      exact Ev.bind p1 Hr
    have I : ∀ r, Ev (fun k => cond (decide ((sg.size : Int) > most)) (cond ((sg.size : Int) == (sg.size : Int)) (cond (fits 1 16) (impl_LongestLife_l k (W, [t], (sg.size : Int), tasteL, (tasteL.length : Int), w64 ((i : Int) + 1))) none) (impl_LongestLife_l k (W, [], (sg.size : Int), tasteL, (tasteL.length : Int), w64 ((i : Int) + 1))))
        (cond ((sg.size : Int) == most) (cond (fits (out.length + 1) 16) (impl_LongestLife_l k (W, out ++ [t], most, tasteL, (tasteL.length : Int), w64 ((i : Int) + 1))) none) (impl_LongestLife_l k (W, out, most, tasteL, (tasteL.length : Int), w64 ((i : Int) + 1))))) r → Ev (fun k => impl_LongestLife_l k (W, out, most, tasteL, (tasteL.length : Int), (i : Int))) r := fun r Hr => by
      obtain ⟨w, h, ri, dn, x, y, wy⟩ := W
      refine Ev.step (fun k => impl_LongestLife_l.eq k w h ri dn x y wy out most tasteL (tasteL.length : Int) (i : Int)) (Ev.yes (lt_nat (by omega)) (Ev.yes (inB_nat (by omega)) ?_))
      rw [Int.toNat_natCast, getD_at ht]
      exact Ev.bind p2 Hr
    rw [w64_succ (by omega)] at S I
    have hi' : i < 6 := by omega
    by_cases c1 : (sg.size : Int) > most
    · obtain ⟨R, M, r1, r2, r3⟩ := ih [t] (sg.size : Int) (by omega) (by simp) (by omega) (by omega) (fun _ => ⟨by simp, by omega⟩) (fun s hs => by
        rcases List.mem_append.1 hs with h | h
        · have := hall s h
          omega
        · rw [List.mem_singleton.1 h]
          omega) (fun s => by
        rw [List.mem_singleton, List.mem_append, List.mem_singleton]
        constructor
        · intro e
          rw [e]
          exact ⟨.inr rfl, by omega⟩
        · rintro ⟨h | h, e⟩
          · have := hall s h
            omega
          · exact h)
      exact ⟨R, M, S _ (Ev.yes (decide_eq_true c1) (Ev.yes (by simp) (Ev.yes rfl r1))), I _ (Ev.yes (decide_eq_true c1) (Ev.yes (by simp) (Ev.yes rfl r2))), r3⟩
    · have hi0 : i ≠ 0 := fun e => by
        have := h0 e
        omega
      obtain ⟨o1, o2⟩ := h1 (by omega)
      by_cases c2 : (sg.size : Int) = most
      · obtain ⟨R, M, r1, r2, r3⟩ := ih (out ++ [t]) most (by omega) (by simp; omega) hm (by omega) (fun _ => ⟨by simp, o2⟩) (fun s hs => by
          rcases List.mem_append.1 hs with h | h
          · exact hall s h
          · rw [List.mem_singleton.1 h]
            omega) (fun s => by
          rw [List.mem_append, List.mem_append, List.mem_singleton, hmem s]
          constructor
          · rintro (⟨h, e⟩ | e)
            · exact ⟨.inl h, e⟩
            · rw [e]
              exact ⟨.inr rfl, by omega⟩
          · rintro ⟨h | h, e⟩
            · exact .inl ⟨h, e⟩
            · exact .inr h)
        exact ⟨R, M, S _ (Ev.no (decide_eq_false c1) (Ev.yes (beq_iff_eq.2 c2) (Ev.yes (fits_of (by omega)) r1))), I _ (Ev.no (decide_eq_false c1) (Ev.yes (beq_iff_eq.2 c2) (Ev.yes (fits_of (by omega)) r2))), r3⟩
      · obtain ⟨R, M, r1, r2, r3⟩ := ih out most (by omega) (by omega) hm (by omega) (fun _ => ⟨o1, o2⟩) (fun s hs => by
          rcases List.mem_append.1 hs with h | h
          · exact hall s h
          · rw [List.mem_singleton.1 h]
            omega) (fun s => by
          rw [List.mem_append, List.mem_singleton, hmem s]
          constructor
          · rintro ⟨h, e⟩
            exact ⟨.inl h, e⟩
          · rintro ⟨h | h, e⟩
            · exact ⟨h, e⟩
            · rw [h] at e
              omega)
        have c3 : ((sg.size : Int) == most) = false := by rw [beq_eq_false_iff_ne]; exact c2
        exact ⟨R, M, S _ (Ev.no (decide_eq_false c1) (Ev.no c3 r1)), I _ (Ev.no (decide_eq_false c1) (Ev.no c3 r2)), r3⟩
theorem longest_both (W : WT) (hr : W.2.2.1.size ≤ 1048576) (hd : W.2.2.2.1.size ≤ 1048576) : ∃ r, Ev (fun k => impl_LongestLife k W) r ∧ Ev (fun k => spec_LongestLife k W) r ∧ (¬ OkW W → r = ([], 0, false)) ∧
    (OkW W → r.2.2 = true ∧ r.1.length ≤ 6 ∧ r.1 ≠ [] ∧ ∃ lf : ByteArray → Nat, ∀ t ∈ tasteL, Ev (fun k => impl_LifeOf k (W, t)) ((lf t : Int), true) ∧ (lf t : Int) ≤ r.2.1 ∧ (t ∈ r.1 ↔ (lf t : Int) = r.2.1)) := by
  have b1 := isWorm_ev W.1 W.2.1 W.2.2.1 W.2.2.2.1 W.2.2.2.2.1 W.2.2.2.2.2.1 W.2.2.2.2.2.2 hr hd
  have b2 := wmGood_ev W.1 W.2.1 W.2.2.1 W.2.2.2.1 W.2.2.2.2.1 W.2.2.2.2.2.1 W.2.2.2.2.2.2 hr hd
  by_cases H : OkW W
  rotate_left
  · obtain ⟨w, h, ri, dn, X, Y, wy⟩ := W
    exact ⟨([], 0, false), Ev.step (fun k => impl_LongestLife.eq k w h ri dn X Y wy) (Ev.bind (b1.isF H) (Ev.yes rfl (Ev.now _))), Ev.step (fun k => spec_LongestLife.eq k w h ri dn X Y wy) (Ev.bind (b2.isF H) (Ev.yes rfl (Ev.now _))), fun _ => rfl, fun h => absurd h H⟩
  obtain ⟨lf, hlf⟩ := lf_ex H
  obtain ⟨out, most, r1, r2, r3, r4, r5, r6⟩ := best_l_ev H hlf tasteL.length 0 [] (-1) (by omega) (by simp) (by omega) (fun _ => rfl) (fun h => by omega) (fun t ht => absurd ht List.not_mem_nil) (fun t => ⟨fun h => absurd h List.not_mem_nil, fun h => absurd h.1 List.not_mem_nil⟩)
  refine ⟨(out, most, true), ?_, ?_, fun h => absurd H h, fun _ => ⟨rfl, r3, r4, lf, fun t ht => ⟨(hlf t ht).2.1, r5 t ht, r6 t ht⟩⟩⟩
  · obtain ⟨w, h, ri, dn, x, y, wy⟩ := W
    exact Ev.step (fun k => impl_LongestLife.eq k w h ri dn x y wy) (Ev.bind (b1.isT H) (Ev.no rfl (Ev.bind (a := tasteL) (Ev.step (fun k => impl_tastes.eq k) (Ev.now _)) (Ev.bind r2 (Ev.now _)))))
  · obtain ⟨w, h, ri, dn, x, y, wy⟩ := W
    exact Ev.step (fun k => spec_LongestLife.eq k w h ri dn x y wy) (Ev.bind (b2.isT H) (Ev.no rfl (Ev.bind (a := tasteL) (Ev.step (fun k => spec_wmTastes.eq k) (Ev.now _)) (Ev.bind r1 (Ev.now _)))))
/-! ### Shifted worms -/
theorem bt_of {l : List Int} {j : Nat} {v : Int} (h : l[j]? = some v) (h0 : 0 ≤ v ∧ v < 256) : bt (ofBytes l) j = v := by
  have e : (ofBytes l).data.toList[j]? = some (UInt8.ofNat v.toNat) := by
    unfold ofBytes
    show (l.map fun n => UInt8.ofNat n.toNat)[j]? = _
    rw [List.getElem?_map, h]
    rfl
  rw [bt_at e, toNat_ofNat8 (by omega)]
  omega
theorem ofBytes_size (l : List Int) : (ofBytes l).size = l.length := by
  rw [size_list]
  unfold ofBytes
  simp
theorem ba_bt {x y : ByteArray} (h : x.size = y.size) (hb : ∀ j, j < x.size → bt x j = bt y j) : x = y := by
  apply ba_ext
  refine List.ext_getElem? fun j => ?_
  by_cases hj : j < x.size
  · obtain ⟨c, hc⟩ := byte_at hj
    obtain ⟨d, hd⟩ := byte_at (cs := y) (i := j) (by omega)
    have := hb j hj
    rw [bt_at hc, bt_at hd] at this
    rw [hc, hd, UInt8.toNat_inj.1 (show c.toNat = d.toNat by omega)]
  · rw [List.getElem?_eq_none (by rw [← size_list]; omega), List.getElem?_eq_none (by rw [← size_list]; omega)]
def sft (W : WT) (dx dy : Int) (cs : ByteArray) : ByteArray := ofBytes ((List.range (nN W)).map fun j => bt cs (sig W (-dx) (-dy) j))
def shW (W : WT) (dx dy : Int) : WT := (W.1, W.2.1, sft W dx dy W.2.2.1, sft W dx dy W.2.2.2.1, (W.2.2.2.2.1 + dx) % W.1, (W.2.2.2.2.2.1 + dy) % W.2.1, W.2.2.2.2.2.2)
theorem sft_size (W : WT) (dx dy : Int) (cs : ByteArray) : (sft W dx dy cs).size = nN W := by
  unfold sft
  rw [ofBytes_size, List.length_map, List.length_range]
theorem sft_bt (W : WT) (dx dy : Int) (cs : ByteArray) {j : Nat} (hj : j < nN W) : bt (sft W dx dy cs) j = bt cs (sig W (-dx) (-dy) j) := by
  refine bt_of (v := bt cs (sig W (-dx) (-dy) j)) ?_ ⟨bt_ge _ _, bt_lt _ _⟩
  rw [List.getElem?_map, List.getElem?_range hj]
  rfl
theorem sft_cells {W : WT} (Z : SzW W) (dx dy : Int) {cs : ByteArray} (h : CellsOk 2 cs) (hs : cs.size = nN W) : CellsOk 2 (sft W dx dy cs) := by
  intro c hc
  obtain ⟨j, hj⟩ := List.mem_iff_getElem?.1 hc
  have hlt : j < nN W := by
    have := (List.getElem?_eq_some_iff.1 hj).1
    rw [← size_list, sft_size] at this
    exact this
  have e := sft_bt W dx dy cs hlt
  rw [bt_at hj] at e
  obtain ⟨d, hd⟩ := byte_at (cs := cs) (i := sig W (-dx) (-dy) j) (by rw [hs]; exact (sig_at Z _ _ _).1)
  rw [bt_at hd] at e
  have := h d (List.mem_of_getElem? hd)
  omega
theorem shW_ok {W : WT} (H : OkW W) (dx dy : Int) : OkW (shW W dx dy) := by
  have hs := H.2.2.1
  have hn := H.sz.n
  have hw := H.1
  have hh := H.2.1
  have h1 := Int.emod_nonneg (W.2.2.2.2.1 + dx) (show W.1 ≠ 0 by omega)
  have h2 := Int.emod_lt_of_pos (W.2.2.2.2.1 + dx) (show 0 < W.1 by omega)
  have h3 := Int.emod_nonneg (W.2.2.2.2.2.1 + dy) (show W.2.1 ≠ 0 by omega)
  have h4 := Int.emod_lt_of_pos (W.2.2.2.2.2.1 + dy) (show 0 < W.2.1 by omega)
  refine ⟨hw, hh, ⟨?_, ?_⟩, ⟨sft_cells H.sz dx dy H.2.2.2.1.1 (by omega), sft_cells H.sz dx dy H.2.2.2.1.2 (by omega)⟩, ?_, ?_, H.2.2.2.2.2.2⟩
  · show ((sft W dx dy W.2.2.1).size : Int) = W.1 * W.2.1
    rw [sft_size]
    exact hn.1
  · show ((sft W dx dy W.2.2.2.1).size : Int) = W.1 * W.2.1
    rw [sft_size]
    exact hn.1
  · show 0 ≤ (W.2.2.2.2.1 + dx) % W.1 ∧ (W.2.2.2.2.1 + dx) % W.1 ≤ W.1 - 1
    omega
  · show 0 ≤ (W.2.2.2.2.2.1 + dy) % W.2.1 ∧ (W.2.2.2.2.2.1 + dy) % W.2.1 ≤ W.2.1 - 1
    omega
theorem sft_sft {W : WT} (Z : SzW W) {dx dy ex ey : Int} (hx : (ex + dx) % W.1 = 0) (hy : (ey + dy) % W.2.1 = 0) {cs : ByteArray} (hs : cs.size = nN W) : sft (shW W dx dy) ex ey (sft W dx dy cs) = cs := by
  have e1 : nN (shW W dx dy) = nN W := rfl
  have e2 : ∀ a b j, sig (shW W dx dy) a b j = sig W a b j := fun a b j => rfl
  refine ba_bt (by rw [sft_size, e1, hs]) fun j hj => ?_
  rw [sft_size, e1] at hj
  rw [sft_bt (shW W dx dy) ex ey _ (by rw [e1]; exact hj), e2, sft_bt W dx dy cs (sig_at Z _ _ _).1, sig_sig Z, sig_mod W (ex := 0) (ey := 0) ?_ ?_, sig_zero Z hj]
  · rw [show -ex + -dx = -(ex + dx) by omega, Int.zero_emod]
    exact Int.emod_eq_zero_of_dvd ((Int.dvd_neg).2 (Int.dvd_of_emod_eq_zero hx))
  · rw [show -ey + -dy = -(ey + dy) by omega, Int.zero_emod]
    exact Int.emod_eq_zero_of_dvd ((Int.dvd_neg).2 (Int.dvd_of_emod_eq_zero hy))
theorem shW_home {W : WT} (H : OkW W) {dx dy ex ey : Int} (hx : (ex + dx) % W.1 = 0) (hy : (ey + dy) % W.2.1 = 0) : shW (shW W dx dy) ex ey = W := by
  have hs := H.2.2.1
  have hn := H.sz.n
  have p := H.2.2.2.2.1
  have q := H.2.2.2.2.2.1
  have z : ∀ {a d e M : Int}, 0 ≤ a ∧ a ≤ M - 1 → (e + d) % M = 0 → ((a + d) % M + e) % M = a := fun {a d e M} ha h => by
    rw [Int.emod_add_emod, Int.add_assoc, Int.add_comm d e, Int.add_emod, h, Int.add_zero, Int.emod_emod_of_dvd _ (Int.dvd_refl _), Int.emod_eq_of_lt ha.1 (by omega)]
  show (W.1, W.2.1, sft (shW W dx dy) ex ey (sft W dx dy W.2.2.1), sft (shW W dx dy) ex ey (sft W dx dy W.2.2.2.1), ((W.2.2.2.2.1 + dx) % W.1 + ex) % W.1, ((W.2.2.2.2.2.1 + dy) % W.2.1 + ey) % W.2.1, W.2.2.2.2.2.2) = W
  rw [sft_sft H.sz hx hy (by omega), sft_sft H.sz hx hy (by omega), z p hx, z q hy]
/-! ### What the program tells of shifts -/
def mvL (W : WT) (dx dy : Int) (cs : ByteArray) (n : Nat) : List Int := (List.range (nN W)).map fun j => if sig W (-dx) (-dy) j < n then bt cs (sig W (-dx) (-dy) j) else 0
theorem mvL_len (W : WT) (dx dy : Int) (cs : ByteArray) (n : Nat) : (mvL W dx dy cs n).length = nN W := by
  unfold mvL
  rw [List.length_map, List.length_range]
theorem mvL_set {W : WT} (Z : SzW W) (dx dy : Int) (cs : ByteArray) {n : Nat} (hn : n < nN W) : (mvL W dx dy cs n).set (sig W dx dy n) (bt cs n) = mvL W dx dy cs (n + 1) := by
  have hi := (sig_inv Z dx dy hn).1
  unfold mvL
  refine List.ext_getElem? fun j => ?_
  rw [List.getElem?_set, List.getElem?_map, List.getElem?_map, List.length_map, List.length_range]
  by_cases hj : j < nN W
  · rw [List.getElem?_range hj]
    by_cases e : sig W dx dy n = j
    · rw [if_pos e, if_pos (by rw [e]; exact hj), ← e]
      show some _ = some (if sig W (-dx) (-dy) (sig W dx dy n) < n + 1 then bt cs (sig W (-dx) (-dy) (sig W dx dy n)) else 0)
      rw [hi, if_pos (by omega)]
    · rw [if_neg e]
      have hne : sig W (-dx) (-dy) j ≠ n := fun h => e (by rw [← h]; exact (sig_inv Z dx dy hj).2)
      show some (if sig W (-dx) (-dy) j < n then bt cs (sig W (-dx) (-dy) j) else 0) = some (if sig W (-dx) (-dy) j < n + 1 then bt cs (sig W (-dx) (-dy) j) else 0)
      congr 1
      by_cases h : sig W (-dx) (-dy) j < n
      · rw [if_pos h, if_pos (by omega)]
      · rw [if_neg h, if_neg (by omega)]
  · rw [List.getElem?_eq_none (by rw [List.length_range]; omega)]
    by_cases e : sig W dx dy n = j
    · exact absurd (e ▸ (sig_at Z dx dy n).1) hj
    · rw [if_neg e]
      rfl
theorem to_ev {W : WT} (H : OkW W) {x y dx dy : Int} (hx : 0 ≤ x ∧ x ≤ 10) (hy : 0 ≤ y ∧ y ≤ 10) (hdx : 0 ≤ dx ∧ dx ≤ 10) (hdy : 0 ≤ dy ∧ dy ≤ 10) (V : WT) (h1 : V.1 = W.1) (h2 : V.2.1 = W.2.1) : Ev (fun k => impl_ShiftWorm_1 k (x, y, dx, V, dy)) ((x + dx) % W.1, (y + dy) % W.2.1) := by
  have hw := H.1
  have hh := H.2.1
  obtain ⟨w, h, ri, dn, X, Y, wy⟩ := V
  simp only at h1 h2
  subst h1 h2
  refine Ev.step (fun k => impl_ShiftWorm_1.eq k x y dx W.1 W.2.1 ri dn X Y wy dy) (Ev.yes (by rw [bne_iff_ne]; omega) (Ev.yes (by rw [bne_iff_ne]; omega) (Ev.now' ?_)))
  rw [w64_of (n := x + dx) (by omega) (by omega), w64_of (n := y + dy) (by omega) (by omega), Int.tmod_eq_emod_of_nonneg (by omega), Int.tmod_eq_emod_of_nonneg (by omega)]
theorem moved_ev {W : WT} (H : OkW W) {dx dy : Int} (hdx : 0 ≤ dx ∧ dx ≤ 10) (hdy : 0 ≤ dy ∧ dy ≤ 10) {cs : ByteArray} (hs : cs.size = nN W) : Ev (fun k => impl_moved k (cs, W.1, W.1, W.2.1, (dx, W, dy))) (sft W dx dy cs) := by
  have Z := H.sz
  have hn := Z.n
  have hw := H.1
  have loop : ∀ (m n : Nat), n + m = nN W → Ev (fun k => impl_moved_l k (cs, W.1, W.1, (dx, W, dy), mvL W dx dy cs n, (nN W : Int), (n : Int))) (mvL W dx dy cs (nN W)) := by
    intro m
    induction m with
    | zero =>
      intro n hnm
      obtain rfl : n = nN W := by omega
      obtain ⟨w, h, ri, dn, x, y, wy⟩ := W
      exact Ev.step (fun k => impl_moved_l.eq k cs _ _ dx w h ri dn x y wy dy _ _ _) (Ev.no (not_lt_nat (by omega)) (Ev.now _))
    | succ m ih =>
      intro n hnm
      have hlt : n < nN W := by omega
      have q := ih (n + 1) (by omega)
      rw [← mvL_set Z dx dy cs hlt] at q
      obtain ⟨t1, t2, t3⟩ := node_tm Z hlt
      obtain ⟨x1, x2, x3⟩ := nXY Z hlt
      obtain ⟨s1, s2, s3, s4⟩ := sig_at Z dx dy n
      obtain ⟨y1, y2, y3⟩ := nXY Z s1
      have e64 := at64 y1 y2 (by omega) (by have := H.2.1; omega)
      rw [y3, s2, s3] at e64
      have h1 := to_ev H (x := nX W n) (y := nY W n) (dx := dx) (dy := dy) (by omega) (by have := H.2.1; omega) hdx hdy W rfl rfl
      rw [← t1, ← t2] at h1
      have hlen := mvL_len W dx dy cs n
      have hb1 : inB (n : Int) cs.size = true := inB_nat (by omega)
      have hb2 : inB ((sig W dx dy n : Nat) : Int) (mvL W dx dy cs n).length = true := inB_nat (by rw [hlen]; exact s1)
      have hw1 := w64_succ (i := n) (by omega)
      rw [t1, t2] at h1
      generalize nX W n = X at *
      generalize nY W n = Y at *
      obtain ⟨w, h, ri, dn, x, y, wy⟩ := W
      refine Ev.step (fun k => impl_moved_l.eq k cs _ _ dx w h ri dn x y wy dy _ _ _) (Ev.yes (lt_nat hlt) (Ev.yes t3 (Ev.yes t3 ?_)))
      simp only at t1 t2 e64
      rw [t1, t2]
      refine Ev.bind h1 (Ev.yes hb1 ?_)
      simp only [e64]
      refine Ev.yes hb2 ?_
      rw [Int.toNat_natCast, Int.toNat_natCast, hw1]
      exact q
  have q := loop (nN W) 0 (by omega)
  have e0 : mvL W dx dy cs 0 = List.replicate (w64 (W.1 * W.2.1)).toNat 0 := by
    unfold mvL
    rw [w64_of (by omega) (by omega), ← hn.1, Int.toNat_natCast, ← List.length_range (n := nN W), ← List.map_const', List.length_range]
    refine List.map_congr_left fun j _ => ?_
    rw [if_neg (by omega)]
  have e1 : ofBytes (mvL W dx dy cs (nN W)) = sft W dx dy cs := by
    unfold mvL sft
    congr 1
    refine List.map_congr_left fun j hj => ?_
    rw [if_pos (sig_at Z _ _ _).1]
  have hfit : (((decide ((0 : Int) ≤ (w64 (W.1 * W.2.1)))) && (decide ((w64 (W.1 * W.2.1)) ≤ (w64 (W.1 * W.2.1))))) && (fits (w64 (W.1 * W.2.1)).toNat 1)) = true := by
    rw [w64_of (n := W.1 * W.2.1) (by omega) (by omega), decide_eq_true (by omega), decide_eq_true (by omega), fits_of (by omega)]
    rfl
  rw [e0, ← hs] at q
  obtain ⟨w, h, ri, dn, x, y, wy⟩ := W
  exact Ev.step (fun k => impl_moved.eq k cs _ _ _ dx w h ri dn x y wy dy) (Ev.yes hfit (Ev.bind q (Ev.now' (by rw [hs]; exact e1))))
theorem l1Mod_gen {n m : Int} (hn : -100 ≤ n ∧ n ≤ 100) (hm : 1 ≤ m ∧ m ≤ 9) : Ev (fun k => spec_l1Mod k (n, m)) (n % m) := by
  have h1 := Int.lt_tmod_of_pos n (show 0 < m by omega)
  have h2 := Int.tmod_lt_of_pos n (show 0 < m by omega)
  have h3 := Int.mul_tdiv_add_tmod n m
  have hne : (m != 0) = true := by rw [bne_iff_ne]; omega
  refine Ev.step (fun k => spec_l1Mod.eq k n m) (Ev.yes hne (Ev.yes hne (Ev.now' ?_)))
  rw [w64_of (by omega) (by omega), Int.tmod_eq_emod_of_nonneg (by omega), Int.add_emod_right]
  rw [show n.tmod m = n + m * (-(n.tdiv m)) by rw [Int.mul_neg]; omega, Int.add_mul_emod_self_left]

theorem CurOk.mono {n m : Nat} {c : CurT} (h : CurOk n c) (hm : n ≤ m) (h' : m ≤ 1099511627776) : CurOk m c := by
  obtain ⟨h1, ⟨h2, h3⟩, h4⟩ := h
  exact ⟨h1, ⟨h2, by omega⟩, h'⟩
theorem wmOnes_l_ev : ∀ (m : Nat) (out : ByteArray), out.size + m ≤ 1048576 → (∀ c ∈ out.data.toList, c = 49) → ∃ s, Ev (fun k => spec_wmOnes_l k ((m : Int), out)) s ∧ s.size = out.size + m ∧ ∀ c ∈ s.data.toList, c = 49
  | 0, out, h, ho => ⟨out, Ev.step (fun k => spec_wmOnes_l.eq k 0 out) (Ev.no rfl (Ev.now _)), rfl, ho⟩
  | m + 1, out, h, ho => by
    have hz : (out ++ bs [49]).size = out.size + 1 := by rw [ByteArray.size_append]; rfl
    obtain ⟨s, h1, h2, h3⟩ := wmOnes_l_ev m (out ++ bs [49]) (by omega) (fun c hc => by
      rw [append_list] at hc
      rcases List.mem_append.1 hc with hc | hc
      · exact ho c hc
      · simpa [bs] using hc)
    refine ⟨s, Ev.step (fun k => spec_wmOnes_l.eq k ((m + 1 : Nat) : Int) out) (Ev.yes (decide_eq_true (by omega)) (Ev.yes (fitS_of ?_) ?_)), by omega, h3⟩
    · show out.size + 1 < _
      omega
    · rw [show w64 (((m + 1 : Nat) : Int) - 1) = (m : Int) by rw [w64_of (by omega) (by omega)]; omega]
      exact h1
theorem wmOnes_ev (n : Int) (h : 0 ≤ n ∧ n ≤ 1000) : ∃ s, Ev (fun k => spec_wmOnes k n) s ∧ (s.size : Int) = n ∧ ∀ c ∈ s.data.toList, c = 49 := by
  obtain ⟨m, rfl⟩ := Int.eq_ofNat_of_zero_le h.1
  obtain ⟨s, h1, h2, h3⟩ := wmOnes_l_ev m ByteArray.empty (by show 0 + m ≤ _; omega) (fun c hc => by cases hc)
  exact ⟨s, Ev.step (fun k => spec_wmOnes.eq k m) (Ev.bind h1 (Ev.now _)), by rw [h2]; show (((0 : Nat) + m : Nat) : Int) = m; omega, h3⟩
theorem cells_ones {s : ByteArray} (h : ∀ c ∈ s.data.toList, c = 49) : CellsOk 2 s := fun c hc => by
  rw [h c hc]
  decide
theorem eatn_ev (ts : ByteArray) (hts : ∀ c ∈ ts.data.toList, c.toNat < 128) (hsz : ts.size ≤ 1048576) (c : CurT) : ∀ (m : Nat) (W : WT), m ≤ 1000 → OkW W → ∃ V, Ev (fun k => spec_l1Cur_sureWorm_l k (c, zeroW, W, ts, (m : Int), ())) (c, zeroW, V, ()) ∧ OkW V
  | 0, W, hm, H => by
    obtain ⟨code, at_, seed⟩ := c
    obtain ⟨w, h, ri, dn, x, y, wy⟩ := W
    exact ⟨_, Ev.step (fun k => spec_l1Cur_sureWorm_l.eq k code at_ seed 0 0 ByteArray.empty ByteArray.empty 0 0 0 w h ri dn x y wy ts 0) (Ev.no rfl (Ev.now _)), H⟩
  | m + 1, W, hm, H => by
    have e : w64 (((m + 1 : Nat) : Int) - 1) = (m : Int) := by rw [w64_of (by omega) (by omega)]; omega
    have go : ∀ (s : ByteArray) (V : WT), Ev (fun k => spec_wmEat k (W, ts)) (s, V) → OkW V → ∃ V, Ev (fun k => spec_l1Cur_sureWorm_l k (c, zeroW, W, ts, ((m + 1 : Nat) : Int), ())) (c, zeroW, V, ()) ∧ OkW V := fun s V h HV => by
      obtain ⟨U, h1, h2⟩ := eatn_ev ts hts hsz c m V (by omega) HV
      obtain ⟨code, at_, seed⟩ := c
      obtain ⟨w, h', ri, dn, x, y, wy⟩ := W
      refine ⟨U, Ev.step (fun k => spec_l1Cur_sureWorm_l.eq k code at_ seed 0 0 ByteArray.empty ByteArray.empty 0 0 0 w h' ri dn x y wy ts ((m + 1 : Nat) : Int)) (Ev.yes (decide_eq_true (by omega)) (Ev.bind h ?_)), h2⟩
      rw [e]
      exact h1
    rcases eat_or ts hts hsz W H with h | ⟨s, V, h⟩
    · exact go _ _ h.1 H
    · exact go _ _ h.1 h.2.2.1
def SmallW (W : WT) : Prop := W.2.2.1.size ≤ 1000 ∧ W.2.2.2.1.size ≤ 1000
theorem OkW.small {W : WT} (H : OkW W) : W.2.2.1.size ≤ 36 ∧ W.2.2.2.1.size ≤ 36 := by
  have hw := H.1
  have hh := H.2.1
  have hs := H.2.2.1
  have hm6 : W.1 * W.2.1 ≤ 36 := by have := Int.mul_le_mul hw.2 hh.2 (by omega) (by omega); omega
  omega
section
variable (n : Nat) (c : CurT) (H : CurOk n c) (hn : n + 1000 ≤ 1099511627776)
include H hn
theorem taste_ev : ∃ s c', Ev (fun k => spec_l1Cur_taste k c) (s, c') ∧ s ∈ tasteL ∧ CurOk (n + 2) c' := by
  obtain ⟨s, c', h1, h2, h3⟩ := of_ev n c H (by omega) tasteL (by decide)
  obtain ⟨code, at_, seed⟩ := c
  exact ⟨s, c', Ev.step (fun k => spec_l1Cur_taste.eq k code at_ seed) (Ev.bind (Ev.step (fun k => spec_wmTastes.eq k) (Ev.now _)) (Ev.bind h1 (Ev.now _))), h2, h3⟩
theorem sureWorm_ev : ∃ W c', Ev (fun k => spec_l1Cur_sureWorm k c) (W, c') ∧ SmallW W ∧ CurOk (n + 100) c' ∧ OkW W := by
  obtain ⟨r1, c1, e1, p1, q1, H1⟩ := pick_ev n c H (by omega) 3
  obtain ⟨r2, c2, e2, p2, q2, H2⟩ := pick_ev _ c1 H1 (by omega) 3
  obtain ⟨r3, c3, e3, p3, q3, H3⟩ := pick_ev _ c2 H2 (by omega) 4
  have q1 := q1 (by omega)
  have q2 := q2 (by omega)
  have q3 := q3 (by omega)
  have w1 : w64 (3 + r1) = 3 + r1 := w64_of (by omega) (by omega)
  have w2 : w64 (3 + r2) = 3 + r2 := w64_of (by omega) (by omega)
  obtain ⟨r4, c4, e4, p4, q4, H4⟩ := pick_ev _ c3 H3 (by omega) (3 + r1)
  obtain ⟨r5, c5, e5, p5, q5, H5⟩ := pick_ev _ c4 H4 (by omega) (3 + r2)
  have q4 := q4 (by omega)
  have q5 := q5 (by omega)
  have hm := mul_range (a := 3 + r1) (b := 3 + r2) (by omega) (by omega) (by omega) (by omega)
  have hm6 : (3 + r1) * (3 + r2) ≤ 36 := by have := Int.mul_le_mul (show 3 + r1 ≤ 6 by omega) (show 3 + r2 ≤ 6 by omega) (by omega) (by omega); omega
  have w3 : w64 ((3 + r1) * (3 + r2)) = (3 + r1) * (3 + r2) := w64_of (by omega) (by omega)
  obtain ⟨o, eo, so, ao⟩ := wmOnes_ev ((3 + r1) * (3 + r2)) (by omega)
  obtain ⟨b7, c7, e7, H7⟩ := one_ev _ c5 H5 (by omega) 2
  have W0 : OkW (3 + r1, 3 + r2, o, o, r4, r5, r3) := ⟨by simp only; omega, by simp only; omega, ⟨so, so⟩, ⟨cells_ones ao, cells_ones ao⟩, by simp only; omega, by simp only; omega, by simp only; omega⟩
  have hs1000 : (bs [48, 49]).size = 2 := rfl
  -- the end: spoilt or not
  have tail : ∀ (m : Nat) (W : WT) (c : CurT), OkW W → CurOk m c → m + 200 ≤ 1099511627776 → ∃ b c8, Ev (fun k => spec_l1Cur_one k (c, 4)) (b, c8) ∧ CurOk (m + 2) c8 ∧ ∃ t1 c9 t2 c10 g o2, Ev (fun k => spec_l1Cur_spoilt k (c8, W.2.2.1, bs [48, 49])) (t1, c9) ∧ Ev (fun k => spec_l1Cur_spoilt k (c9, W.2.2.2.1, bs [48, 49])) (t2, c10) ∧
      CurOk (m + 30) c10 ∧ Ev (fun k => spec_wmGood k (W.1, W.2.1, t1, t2, W.2.2.2.2.1, W.2.2.2.2.2.1, W.2.2.2.2.2.2)) g ∧ Ev (fun k => spec_wmOnes k (w64 (W.1 * W.2.1))) o2 ∧ t1.size ≤ 1000 ∧ t2.size ≤ 1000 ∧ o2.size ≤ 1000 ∧ (g = true → OkW (W.1, W.2.1, t1, t2, W.2.2.2.2.1, W.2.2.2.2.2.1, W.2.2.2.2.2.2)) ∧ OkW (W.1, W.2.1, o2, o2, W.2.2.2.2.1, W.2.2.2.2.2.1, W.2.2.2.2.2.2) := fun m W c HW Hc hm => by
    obtain ⟨b, c8, e8, H8⟩ := one_ev m c Hc (by omega) 4
    have sm := HW.small
    obtain ⟨t1, c9, e9, s9, H9⟩ := spoilt_ev _ c8 W.2.2.1 (bs [48, 49]) H8 (by omega) (by omega) (by rw [hs1000]; omega)
    obtain ⟨t2, c10, e10, s10, H10⟩ := spoilt_ev _ c9 W.2.2.2.1 (bs [48, 49]) H9 (by omega) (by omega) (by rw [hs1000]; omega)
    obtain ⟨g, eg, hgo⟩ := wmGood_ev W.1 W.2.1 t1 t2 W.2.2.2.2.1 W.2.2.2.2.2.1 W.2.2.2.2.2.2 (by omega) (by omega)
    have hw := HW.1
    have hh := HW.2.1
    have hm := mul_range (a := W.1) (b := W.2.1) (by omega) (by omega) (by omega) (by omega)
    obtain ⟨o2, eo2, so2, ao2⟩ := wmOnes_ev (w64 (W.1 * W.2.1)) (by rw [w64_of (by omega) (by omega)]; omega)
    rw [w64_of (by omega) (by omega)] at so2
    exact ⟨b, c8, e8, H8, t1, c9, t2, c10, g, o2, e9, e10, H10.mono (by omega) (by omega), eg, eo2, by omega, by omega, by omega, fun hg => hgo.1 hg, ⟨HW.1, HW.2.1, ⟨so2, so2⟩, ⟨cells_ones ao2, cells_ones ao2⟩, HW.2.2.2.2⟩⟩
  have start : ∀ r, Ev (fun k => cond b7
   ((spec_l1Cur_taste k c7).bind fun r8 =>
   (spec_l1Cur_pick k (r8.2, 30)).bind fun r9 =>
   (spec_l1Cur_sureWorm_l k (r9.2, (0, 0, ByteArray.empty, ByteArray.empty, 0, 0, 0), (3 + r1, 3 + r2, o, o, r4, r5, r3), r8.1, r9.1, ())).bind fun r10 =>
   (spec_l1Cur_one k (r10.1, 4)).bind fun r11 =>
   cond r11.1
   ((spec_l1Cur_spoilt k (r11.2, r10.2.2.1.2.2.1, (bs [48, 49]))).bind fun r12 =>
    (spec_l1Cur_spoilt k (r12.2, r10.2.2.1.2.2.2.1, (bs [48, 49]))).bind fun r13 =>
    (spec_wmGood k (r10.2.2.1.1, r10.2.2.1.2.1, r12.1, r13.1, r10.2.2.1.2.2.2.2.1, r10.2.2.1.2.2.2.2.2.1, r10.2.2.1.2.2.2.2.2.2)).bind fun r14 =>
    cond (!r14)
    ((spec_wmOnes k (w64 (r10.2.2.1.1 * r10.2.2.1.2.1))).bind fun r15 =>
     some ((r10.2.2.1.1, r10.2.2.1.2.1, r15, r15, r10.2.2.1.2.2.2.2.1, r10.2.2.1.2.2.2.2.2.1, r10.2.2.1.2.2.2.2.2.2), r13.2))
    (some ((r10.2.2.1.1, r10.2.2.1.2.1, r12.1, r13.1, r10.2.2.1.2.2.2.2.1, r10.2.2.1.2.2.2.2.2.1, r10.2.2.1.2.2.2.2.2.2), r13.2)))
   (some (r10.2.2.1, r11.2)))
  ((spec_l1Cur_one k (c7, 4)).bind fun r16 =>
   cond r16.1
   ((spec_l1Cur_spoilt k (r16.2, o, (bs [48, 49]))).bind fun r17 =>
    (spec_l1Cur_spoilt k (r17.2, o, (bs [48, 49]))).bind fun r18 =>
    (spec_wmGood k (3 + r1, 3 + r2, r17.1, r18.1, r4, r5, r3)).bind fun r19 =>
    cond (!r19)
    ((spec_wmOnes k ((3 + r1) * (3 + r2))).bind fun r20 =>
     some ((3 + r1, 3 + r2, r20, r20, r4, r5, r3), r18.2))
    (some ((3 + r1, 3 + r2, r17.1, r18.1, r4, r5, r3), r18.2)))
   (some ((3 + r1, 3 + r2, o, o, r4, r5, r3), r16.2)))) r → Ev (fun k => spec_l1Cur_sureWorm k c) r := fun r h => by
    obtain ⟨code, at_, seed⟩ := c
    refine Ev.step (fun k => spec_l1Cur_sureWorm.eq k code at_ seed) (Ev.bind e1 (Ev.bind e2 (Ev.bind e3 ?_)))
    simp only [w1, w2]
    refine Ev.bind e4 (Ev.bind e5 ?_)
    rw [w3]
    refine Ev.bind eo (Ev.bind e7 ?_)
    exact h
  cases b7 with
  | true =>
    obtain ⟨ts, c8, e8, hts, H8⟩ := of_ev _ c7 H7 (by omega) tasteL (by decide)
    have e8' : Ev (fun k => spec_l1Cur_taste k c7) (ts, c8) := by
      obtain ⟨code, at_, seed⟩ := c7
      exact Ev.step (fun k => spec_l1Cur_taste.eq k code at_ seed) (Ev.bind (Ev.step (fun k => spec_wmTastes.eq k) (Ev.now _)) (Ev.bind e8 (Ev.now _)))
    obtain ⟨t1, t2⟩ := tasteL_ok ts hts
    obtain ⟨r9, c9, e9, p9, q9, H9⟩ := pick_ev _ c8 H8 (by omega) 30
    have q9 := q9 (by omega)
    obtain ⟨m, rfl⟩ := Int.eq_ofNat_of_zero_le p9
    obtain ⟨V, eV, HV⟩ := eatn_ev ts t1 t2 c9 m _ (by omega) W0
    obtain ⟨b, c10, e10, H10, s1, c11, s2, c12, g, o2, g1, g2, g3, g4, g5, z1, z2, z3, zg, zo⟩ := tail _ V c9 HV H9 (by omega)
    have go := fun r h => start r (Ev.yes rfl (Ev.bind e8' (Ev.bind e9 (Ev.bind eV (Ev.bind e10 h)))))
    have sm := HV.small
    cases b with
    | true =>
      cases g with
      | true => exact ⟨_, _, go _ (Ev.yes rfl (Ev.bind g1 (Ev.bind g2 (Ev.bind g4 (Ev.no rfl (Ev.now _)))))), ⟨z1, z2⟩, g3.mono (by omega) (by omega), zg rfl⟩
      | false => exact ⟨_, _, go _ (Ev.yes rfl (Ev.bind g1 (Ev.bind g2 (Ev.bind g4 (Ev.yes rfl (Ev.bind g5 (Ev.now _))))))), ⟨z3, z3⟩, g3.mono (by omega) (by omega), zo⟩
    | false => exact ⟨_, _, go _ (Ev.no rfl (Ev.now _)), ⟨by show V.2.2.1.size ≤ 1000; omega, by show V.2.2.2.1.size ≤ 1000; omega⟩, H10.mono (by omega) (by omega), HV⟩
  | false =>
    obtain ⟨b, c10, e10, H10, s1, c11, s2, c12, g, o2, g1, g2, g3, g4, g5, z1, z2, z3, zg, zo⟩ := tail _ _ c7 W0 H7 (by omega)
    have g5 : Ev (fun k => spec_wmOnes k ((3 + r1) * (3 + r2))) o2 := by
      rw [← w3]
      exact g5
    have go := fun r h => start r (Ev.no rfl (Ev.bind e10 h))
    cases b with
    | true =>
      cases g with
      | true => exact ⟨_, _, go _ (Ev.yes rfl (Ev.bind g1 (Ev.bind g2 (Ev.bind g4 (Ev.no rfl (Ev.now _)))))), ⟨z1, z2⟩, g3.mono (by omega) (by omega), zg rfl⟩
      | false => exact ⟨_, _, go _ (Ev.yes rfl (Ev.bind g1 (Ev.bind g2 (Ev.bind g4 (Ev.yes rfl (Ev.bind g5 (Ev.now _))))))), ⟨z3, z3⟩, g3.mono (by omega) (by omega), zo⟩
    | false => exact ⟨_, _, go _ (Ev.no rfl (Ev.now _)), ⟨by show o.size ≤ 1000; omega, by show o.size ≤ 1000; omega⟩, H10.mono (by omega) (by omega), W0⟩
theorem worm_ev : ∃ W c', Ev (fun k => spec_l1Cur_worm k c) (W, c') ∧ (W.2.2.1.size ≤ 2000 ∧ W.2.2.2.1.size ≤ 2000) ∧ CurOk (n + 200) c' := by
  obtain ⟨W, c1, e1, sm, H1, _⟩ := sureWorm_ev n c H hn
  obtain ⟨s1, s2⟩ := sm
  obtain ⟨r, c2, e2, p, q, H2⟩ := pick_ev _ c1 H1 (by omega) 18
  obtain ⟨a, c3, e3, _, H3⟩ := among_ev _ c2 H2 (by omega) [(-1), 0, 2, 6, 7, 4611686018427387904] (by decide)
  obtain ⟨a', c3', e3', _, H3'⟩ := among_ev _ c2 H2 (by omega) [(-1), 4] (by decide)
  have h3 : (bs [48, 49, 50]).size = 3 := rfl
  obtain ⟨t, c4, e4, s4, H4⟩ := spoilt_ev _ c2 W.2.2.2.1 (bs [48, 49, 50]) H2 (by omega) (by omega) (by rw [h3]; omega)
  obtain ⟨code, at_, seed⟩ := c
  have hz : (W.2.2.1 ++ bs [49]).size = W.2.2.1.size + 1 := by rw [ByteArray.size_append]; rfl
  by_cases r0 : r = 0
  · exact ⟨_, _, Ev.step (fun k => spec_l1Cur_worm.eq k code at_ seed) (Ev.bind e1 <| Ev.bind e2 <| Ev.yes (beq_iff_eq.2 r0) (Ev.bind e3 (Ev.now _))), ⟨by simp only; omega, by simp only; omega⟩, H3.mono (by omega) (by omega)⟩
  · have n0 := beq_eq_false_iff_ne.2 r0
    by_cases r1 : r = 1
    · exact ⟨_, _, Ev.step (fun k => spec_l1Cur_worm.eq k code at_ seed) (Ev.bind e1 <| Ev.bind e2 <| Ev.no n0 (Ev.yes (beq_iff_eq.2 r1) (Ev.yes (fitS_of (by show W.2.2.1.size + 1 < _; omega)) (Ev.now _)))), ⟨by simp only; omega, by simp only; omega⟩, H2.mono (by omega) (by omega)⟩
    · have n1 := beq_eq_false_iff_ne.2 r1
      by_cases r2 : r = 2
      · exact ⟨_, _, Ev.step (fun k => spec_l1Cur_worm.eq k code at_ seed) (Ev.bind e1 <| Ev.bind e2 <| Ev.no n0 (Ev.no n1 (Ev.yes (beq_iff_eq.2 r2) (Ev.bind e3' (Ev.now _))))), ⟨by simp only; omega, by simp only; omega⟩, H3'.mono (by omega) (by omega)⟩
      · have n2 := beq_eq_false_iff_ne.2 r2
        by_cases r3 : r = 3
        · exact ⟨_, _, Ev.step (fun k => spec_l1Cur_worm.eq k code at_ seed) (Ev.bind e1 <| Ev.bind e2 <| Ev.no n0 (Ev.no n1 (Ev.no n2 (Ev.yes (beq_iff_eq.2 r3) (Ev.bind e4 (Ev.now _)))))), ⟨by simp only; omega, by simp only; omega⟩, H4.mono (by omega) (by omega)⟩
        · exact ⟨_, _, Ev.step (fun k => spec_l1Cur_worm.eq k code at_ seed) (Ev.bind e1 <| Ev.bind e2 <| Ev.no n0 (Ev.no n1 (Ev.no n2 (Ev.no (beq_eq_false_iff_ne.2 r3) (Ev.now _))))), ⟨by simp only; omega, by simp only; omega⟩, H2.mono (by omega) (by omega)⟩
end
theorem eater_ev (n : Nat) (c : CurT) (H : CurOk n c) (hn : n + 3000 ≤ 1099511627776) : ∃ W ts c', Ev (fun k => spec_l1Cur_eater k c) ((W, ts), c') ∧ (W.2.2.1.size ≤ 2000 ∧ W.2.2.2.1.size ≤ 2000) ∧ CurOk (n + 300) c' := by
  obtain ⟨b, c1, e1, H1⟩ := one_ev n c H (by omega) 16
  obtain ⟨W, c2, e2, sm, H2⟩ := worm_ev _ c1 H1 (by omega)
  obtain ⟨s, c3, e3, _, H3⟩ := of_ev _ c2 H2 (by omega) [ByteArray.empty, (bs [76, 78, 78]), (bs [76, 78, 82, 85]), (bs [108, 110, 114]), (bs [76, 78])] (by decide)
  obtain ⟨s', c3', e3', _, H3'⟩ := taste_ev _ c2 H2 (by omega)
  obtain ⟨code, at_, seed⟩ := c
  cases b with
  | true => exact ⟨W, s, _, Ev.step (fun k => spec_l1Cur_eater.eq k code at_ seed) (Ev.bind e1 <| Ev.yes rfl (Ev.bind e2 (Ev.bind e3 (Ev.now _)))), sm, H3.mono (by omega) (by omega)⟩
  | false => exact ⟨W, s', _, Ev.step (fun k => spec_l1Cur_eater.eq k code at_ seed) (Ev.bind e1 <| Ev.no rfl (Ev.bind e2 (Ev.bind e3' (Ev.now _)))), sm, H3'.mono (by omega) (by omega)⟩

def shR (W : WT) (dx dy : Int) (cs : ByteArray) (n : Nat) : ByteArray := ofBytes ((List.range n).map fun j => bt cs (sig W (-dx) (-dy) j))
theorem shR_succ (W : WT) (dx dy : Int) (cs : ByteArray) (n : Nat) : shR W dx dy cs n ++ ofBytes [bt cs (sig W (-dx) (-dy) n)] = shR W dx dy cs (n + 1) := by
  unfold shR
  rw [ofBytes_append, List.range_succ, List.map_append]
  rfl
theorem shR_size (W : WT) (dx dy : Int) (cs : ByteArray) (n : Nat) : (shR W dx dy cs n).size = n := by
  unfold shR
  rw [ofBytes_size, List.length_map, List.length_range]
theorem shiftS_l {W : WT} (H : OkW W) {dx dy : Int} (hdx : 0 ≤ dx ∧ dx ≤ 10) (hdy : 0 ≤ dy ∧ dy ≤ 10) : ∀ (m n : Nat), n + m = nN W →
    Ev (fun k => spec_ShiftWorm_l k (dx, dy, W, zeroW, (W.1, W.2.1, shR W dx dy W.2.2.1 n, shR W dx dy W.2.2.2.1 n, 0, 0, W.2.2.2.2.2.2), (n : Int))) (dx, dy, W, zeroW, (W.1, W.2.1, sft W dx dy W.2.2.1, sft W dx dy W.2.2.2.1, 0, 0, W.2.2.2.2.2.2)) := by
  have Z := H.sz
  have hn := Z.n
  have hw := H.1
  have hh := H.2.1
  have hs := H.2.2.1
  have hN : W.2.2.1.size = nN W := by omega
  have hD : W.2.2.2.1.size = nN W := by omega
  intro m
  induction m with
  | zero =>
    intro n hnm
    obtain rfl : n = nN W := by omega
    obtain ⟨w, h, ri, dn, x, y, wy⟩ := W
    exact Ev.step (fun k => spec_ShiftWorm_l.eq k dx dy w h ri dn x y wy 0 0 ByteArray.empty ByteArray.empty 0 0 0 w h _ _ 0 0 wy _) (Ev.no (not_lt_nat (by simp only at hN; omega)) (Ev.now _))
  | succ m ih =>
    intro n hnm
    have hlt : n < nN W := by omega
    have q := ih (n + 1) (by omega)
    rw [← shR_succ, ← shR_succ] at q
    obtain ⟨t1, t2, t3⟩ := node_tm Z hlt
    obtain ⟨x1, x2, x3⟩ := nXY Z hlt
    obtain ⟨s1, s2, s3, s4⟩ := sig_at Z (-dx) (-dy) n
    obtain ⟨y1, y2, y3⟩ := nXY Z s1
    have e64 := at64 y1 y2 (by omega) (by omega)
    rw [y3, s2, s3] at e64
    have m1 := l1Mod_gen (n := nY W n + -dy) (m := W.2.1) (by omega) (by omega)
    have m2 := l1Mod_gen (n := nX W n + -dx) (m := W.1) (by omega) (by omega)
    have f1 : w64 (nY W n - dy) = nY W n + -dy := by rw [w64_of (by omega) (by omega)]; omega
    have f2 : w64 (nX W n - dx) = nX W n + -dx := by rw [w64_of (by omega) (by omega)]; omega
    have z1 := shR_size W dx dy W.2.2.1 n
    have z2 := shR_size W dx dy W.2.2.2.1 n
    have hw1 := w64_succ (i := n) (by omega)
    have hw2 := w64_succ (i := sig W (-dx) (-dy) n) (by omega)
    obtain ⟨c, hc⟩ := byte_at (cs := W.2.2.1) (i := sig W (-dx) (-dy) n) (by omega)
    obtain ⟨d, hd⟩ := byte_at (cs := W.2.2.2.1) (i := sig W (-dx) (-dy) n) (by omega)
    have c1 := sub_one hc
    have d1 := sub_one hd
    rw [bt_at hc, bt_at hd] at q
    have hdec : ∀ cs : ByteArray, cs.size = nN W → (((decide ((0 : Int) ≤ ((sig W (-dx) (-dy) n + 1 : Nat) : Int))) && (decide (((sig W (-dx) (-dy) n + 1 : Nat) : Int) ≤ (cs.size : Int)))) && ((decide ((0 : Int) ≤ ((sig W (-dx) (-dy) n : Nat) : Int))) && (decide (((sig W (-dx) (-dy) n : Nat) : Int) ≤ ((sig W (-dx) (-dy) n + 1 : Nat) : Int))))) = true := fun cs hcs => by
      rw [decide_eq_true (by omega), decide_eq_true (by omega), decide_eq_true (by omega), decide_eq_true (by omega)]
      rfl
    have hr := hdec _ hN
    have hdn := hdec _ hD
    have zo : ∀ v : Int, (ofBytes [v]).size = 1 := fun v => rfl
    have g1 : fitS (shR W dx dy W.2.2.1 n) (ofBytes [(c.toNat : Int)]) = true := fitS_of (by rw [z1, zo]; omega)
    have g2 : fitS (shR W dx dy W.2.2.2.1 n) (ofBytes [(d.toNat : Int)]) = true := fitS_of (by rw [z2, zo]; omega)
    have hlt' : n < W.2.2.1.size := by omega
    generalize shR W dx dy W.2.2.1 n = R at *
    generalize shR W dx dy W.2.2.2.1 n = D at *
    generalize sig W (-dx) (-dy) n = b at *
    generalize nX W n = X at *
    generalize nY W n = Y at *
    obtain ⟨w, h, ri, dn, x, y, wy⟩ := W
    refine Ev.step (fun k => spec_ShiftWorm_l.eq k dx dy w h ri dn x y wy 0 0 ByteArray.empty ByteArray.empty 0 0 0 w h _ _ 0 0 wy _) (Ev.yes (lt_nat hlt') (Ev.yes t3 ?_))
    simp only at t1 t2 e64 c1 d1
    rw [t1, t2, f1, f2]
    refine Ev.bind m1 (Ev.yes t3 (Ev.bind m2 ?_))
    simp only [e64, hw2, hw1, Int.toNat_natCast]
    refine Ev.yes hr ?_
    rw [c1]
    refine Ev.yes g1 (Ev.yes hdn ?_)
    rw [d1]
    exact Ev.yes g2 q
def ShArg (W : WT) (dx dy : Int) : Prop := OkW W ∧ (0 ≤ dx ∧ dx ≤ W.1 - 1) ∧ (0 ≤ dy ∧ dy ≤ W.2.1 - 1)
theorem shift_both (W : WT) (hr : W.2.2.1.size ≤ 1048576) (hd : W.2.2.2.1.size ≤ 1048576) (dx dy : Int) : ∃ r, Ev (fun k => impl_ShiftWorm k (W, dx, dy)) r ∧ Ev (fun k => spec_ShiftWorm k (W, dx, dy)) r ∧ (ShArg W dx dy → r = (shW W dx dy, true)) ∧ (¬ ShArg W dx dy → r = (zeroW, false)) := by
  have b1 := isWorm_ev W.1 W.2.1 W.2.2.1 W.2.2.2.1 W.2.2.2.2.1 W.2.2.2.2.2.1 W.2.2.2.2.2.2 hr hd
  have b2 := wmGood_ev W.1 W.2.1 W.2.2.1 W.2.2.2.1 W.2.2.2.2.1 W.2.2.2.2.2.1 W.2.2.2.2.2.2 hr hd
  by_cases H : OkW W
  rotate_left
  · obtain ⟨w, h, ri, dn, X, Y, wy⟩ := W
    exact ⟨(zeroW, false), Ev.step (fun k => impl_ShiftWorm.eq k w h ri dn X Y wy dx dy) (Ev.bind (b1.isF H) (Ev.yes rfl (Ev.now _))), Ev.step (fun k => spec_ShiftWorm.eq k w h ri dn X Y wy dx dy) (Ev.bind (b2.isF H) (Ev.yes rfl (Ev.now _))), fun h => absurd h.1 H, fun _ => rfl⟩
  have hw := H.1
  have hh := H.2.1
  have a1 := isAnt_ev W.1 W.2.1 dx dy 0 (by omega) (by omega)
  have l1 := l1In_ev dx 0 (W.1 - 1)
  have l2 := l1In_ev dy 0 (W.2.1 - 1)
  have e1 : w64 (W.1 - 1) = W.1 - 1 := w64_of (by omega) (by omega)
  have e2 : w64 (W.2.1 - 1) = W.2.1 - 1 := w64_of (by omega) (by omega)
  rw [← e1] at l1
  rw [← e2] at l2
  by_cases A : ShArg W dx dy
  rotate_left
  · refine ⟨(zeroW, false), ?_, ?_, fun h => absurd h A, fun _ => rfl⟩
    · have q := a1.isF fun h => A ⟨H, h.1, h.2.1⟩
      obtain ⟨w, h, ri, dn, X, Y, wy⟩ := W
      exact Ev.step (fun k => impl_ShiftWorm.eq k w h ri dn X Y wy dx dy) (Ev.bind (b1.isT H) (Ev.no rfl (Ev.bind q (Ev.yes rfl (Ev.now _)))))
    · by_cases hx : 0 ≤ dx ∧ dx ≤ w64 (W.1 - 1)
      · have p := l1.isT hx
        have q := l2.isF fun h => A ⟨H, e1 ▸ hx, e2 ▸ h⟩
        obtain ⟨w, h, ri, dn, X, Y, wy⟩ := W
        exact Ev.step (fun k => spec_ShiftWorm.eq k w h ri dn X Y wy dx dy) (Ev.bind (b2.isT H) (Ev.no rfl (Ev.bind p (Ev.no rfl (Ev.bind q (Ev.yes rfl (Ev.now _)))))))
      · have p := l1.isF hx
        obtain ⟨w, h, ri, dn, X, Y, wy⟩ := W
        exact Ev.step (fun k => spec_ShiftWorm.eq k w h ri dn X Y wy dx dy) (Ev.bind (b2.isT H) (Ev.no rfl (Ev.bind p (Ev.yes rfl (Ev.now _)))))
  obtain ⟨_, hx, hy⟩ := A
  have hs := H.2.2.1
  have hn := H.sz.n
  have px := H.2.2.2.2.1
  have py := H.2.2.2.2.2.1
  have m1 := moved_ev H (dx := dx) (dy := dy) (by omega) (by omega) (cs := W.2.2.1) (by omega)
  have m2 := moved_ev H (dx := dx) (dy := dy) (by omega) (by omega) (cs := W.2.2.2.1) (by omega)
  have m3 := to_ev H (x := W.2.2.2.2.1) (y := W.2.2.2.2.2.1) (dx := dx) (dy := dy) (by omega) (by omega) (by omega) (by omega) (W.1, W.2.1, sft W dx dy W.2.2.1, sft W dx dy W.2.2.2.1, W.2.2.2.2.1, W.2.2.2.2.2.1, W.2.2.2.2.2.2) rfl rfl
  have L := shiftS_l H (dx := dx) (dy := dy) (by omega) (by omega) (nN W) 0 (by omega)
  have n1 : (W.1 != 0) = true := by rw [bne_iff_ne]; omega
  have n2 : (W.2.1 != 0) = true := by rw [bne_iff_ne]; omega
  have t1 : (w64 (W.2.2.2.2.1 + dx)).tmod W.1 = (W.2.2.2.2.1 + dx) % W.1 := by rw [w64_of (by omega) (by omega), Int.tmod_eq_emod_of_nonneg (by omega)]
  have t2 : (w64 (W.2.2.2.2.2.1 + dy)).tmod W.2.1 = (W.2.2.2.2.2.1 + dy) % W.2.1 := by rw [w64_of (by omega) (by omega), Int.tmod_eq_emod_of_nonneg (by omega)]
  refine ⟨(shW W dx dy, true), ?_, ?_, fun _ => rfl, fun h => absurd ⟨H, hx, hy⟩ h⟩
  · have q := a1.isT ⟨hx, hy, by omega, by omega⟩
    obtain ⟨w, h, ri, dn, X, Y, wy⟩ := W
    exact Ev.step (fun k => impl_ShiftWorm.eq k w h ri dn X Y wy dx dy) (Ev.bind (b1.isT H) (Ev.no rfl (Ev.bind q (Ev.no rfl (Ev.bind m1 (Ev.bind m2 (Ev.bind m3 (Ev.now _))))))))
  · have p := l1.isT (by rw [e1]; exact hx)
    have q := l2.isT (by rw [e2]; exact hy)
    obtain ⟨w, h, ri, dn, X, Y, wy⟩ := W
    exact Ev.step (fun k => spec_ShiftWorm.eq k w h ri dn X Y wy dx dy) (Ev.bind (b2.isT H) (Ev.no rfl (Ev.bind p (Ev.no rfl (Ev.bind q (Ev.no rfl (Ev.bind L (Ev.yes n1 (Ev.yes n2 (Ev.now' (by
      show ((w, h, sft _ dx dy ri, sft _ dx dy dn, (w64 (X + dx)).tmod w, (w64 (Y + dy)).tmod h, wy), true) = _
      rw [show (w64 (X + dx)).tmod w = (X + dx) % w from t1, show (w64 (Y + dy)).tmod h = (Y + dy) % h from t2]
      rfl)))))))))))
/-! ### Lives of shifted worms -/
theorem eat_first (ts : ByteArray) (hts : ∀ c ∈ ts.data.toList, c.toNat < 128) (hsz : ts.size ≤ 1048576) : ∀ W : WT, OkW W → Stuck ts W ∨ ∃ c V, Eats ts W c V ∧ V.2.2.2.2.2.2 = (W.2.2.2.2.2.2 + quartersB (c.toNat : Int)) % 4 ∧ hasW W W.2.2.2.2.1 W.2.2.2.2.2.1 V.2.2.2.2.2.2 = true ∧ ∃ j : Nat, ts.data.toList[j]? = some c ∧ ∀ l d, l < j → ts.data.toList[l]? = some d → hasW W W.2.2.2.2.1 W.2.2.2.2.2.1 ((W.2.2.2.2.2.2 + quartersB (d.toNat : Int)) % 4) = false := by
  rintro ⟨w, h, ri, dn, x, y, wy⟩ H
  rcases eat_full w h ri dn x y wy H ts hts hsz with ⟨h1, h2, h3⟩ | ⟨c, ri', dn', x', y', wy', h1, h2, h3, h4, h5, h6, h7, rfl, rfl, rfl, rfl, h8⟩
  · exact .inl ⟨h1, h2, h3⟩
  · exact .inr ⟨c, _, ⟨h1, h2, h3, h4, wy', h5, h6, h7, rfl⟩, h6, h7, h8⟩
structure Shf (W V : WT) (dx dy : Int) : Prop where
  w : V.1 = W.1
  h : V.2.1 = W.2.1
  way : V.2.2.2.2.2.2 = W.2.2.2.2.2.2
  x : V.2.2.2.2.1 = (W.2.2.2.2.1 + dx) % W.1
  y : V.2.2.2.2.2.1 = (W.2.2.2.2.2.1 + dy) % W.2.1
  has : ∀ u v t, 0 ≤ u ∧ u ≤ W.1 - 1 → 0 ≤ v ∧ v ≤ W.2.1 - 1 → 0 ≤ t ∧ t ≤ 3 → hasW V ((u + dx) % W.1) ((v + dy) % W.2.1) t = hasW W u v t
theorem sh_inj {u x M d : Int} (hu : 0 ≤ u ∧ u ≤ M - 1) (hx : 0 ≤ x ∧ x ≤ M - 1) : (u + d) % M = (x + d) % M ↔ u = x := by
  constructor
  · intro h
    have e : ((u + d) % M + -d) % M = ((x + d) % M + -d) % M := by rw [h]
    rw [Int.emod_add_emod, Int.emod_add_emod, Int.add_assoc, Int.add_assoc, Int.add_right_neg, Int.add_zero, Int.add_zero, Int.emod_eq_of_lt hu.1 (by omega), Int.emod_eq_of_lt hx.1 (by omega)] at e
    exact e
  · rintro rfl
    rfl
theorem sh_range {u M d : Int} (hM : 3 ≤ M) : 0 ≤ (u + d) % M ∧ (u + d) % M ≤ M - 1 := by
  have h1 := Int.emod_nonneg (u + d) (show M ≠ 0 by omega)
  have h2 := Int.emod_lt_of_pos (u + d) (show 0 < M by omega)
  omega
theorem sh_go {u M d e : Int} (hM : 3 ≤ M) (hu : 0 ≤ u ∧ u ≤ M - 1) (he : -1 ≤ e ∧ e ≤ 1) : go1 ((u + d) % M) M e = (go1 u M e + d) % M := by
  rw [go1_mod (sh_range hM) he, go1_mod hu he, Int.emod_add_emod, Int.emod_add_emod, Int.add_assoc, Int.add_assoc, Int.add_comm d e]
theorem Shf.bite {ts : ByteArray} {W V W' V' : WT} {dx dy : Int} {c : UInt8} (S : Shf W V dx dy) (H : OkW W) (G : OkW V) (B : Bite ts W c W') (C : Bite ts V c V') : Shf W' V' dx dy := by
  have hb := fun {u v t : Int} (hu : 0 ≤ u ∧ u ≤ W.1 - 1) (hv : 0 ≤ v ∧ v ≤ W.2.1 - 1) (ht : 0 ≤ t ∧ t ≤ 3) => has_bite H B hu hv ht
  have hc := fun {u v t : Int} (hu : 0 ≤ u ∧ u ≤ V.1 - 1) (hv : 0 ≤ v ∧ v ≤ V.2.1 - 1) (ht : 0 ≤ t ∧ t ≤ 3) => has_bite G C hu hv ht
  obtain ⟨sw, sh, sway, sx, sy, shas⟩ := S
  have hw := H.1
  have hh := H.2.1
  have px := H.2.2.2.2.1
  have py := H.2.2.2.2.2.1
  have wz4 : ∀ z : Int, -1 ≤ 1 * dxW z ∧ 1 * dxW z ≤ 1 ∧ -1 ≤ 1 * dyW z ∧ 1 * dyW z ≤ 1 := fun z => by
    obtain ⟨⟨d1, d2⟩, d3, d4⟩ := dW_range z
    omega
  obtain ⟨wz, _, ez, _, eW⟩ := B
  obtain ⟨wz', _, ez', _, eV⟩ := C
  obtain rfl : wz' = wz := by rw [ez, ez', sway]
  have w1 : W'.1 = W.1 := by rw [eW]
  have w2 : W'.2.1 = W.2.1 := by rw [eW]
  have w3 : W'.2.2.2.2.2.2 = wz' := by rw [eW]
  have w4 : W'.2.2.2.2.1 = go1 W.2.2.2.2.1 W.1 (1 * dxW wz') := by rw [eW]
  have w5 : W'.2.2.2.2.2.1 = go1 W.2.2.2.2.2.1 W.2.1 (1 * dyW wz') := by rw [eW]
  have v1 : V'.1 = W.1 := by rw [eV]; exact sw
  have v2 : V'.2.1 = W.2.1 := by rw [eV]; exact sh
  have v3 : V'.2.2.2.2.2.2 = wz' := by rw [eV]
  obtain ⟨g1, g2, g3, g4⟩ := wz4 wz'
  have v4 : V'.2.2.2.2.1 = (W'.2.2.2.2.1 + dx) % W.1 := by
    rw [w4, ← sh_go hw.1 px ⟨g1, g2⟩, ← sx, eV, sw]
  have v5 : V'.2.2.2.2.2.1 = (W'.2.2.2.2.2.1 + dy) % W.2.1 := by
    rw [w5, ← sh_go hh.1 py ⟨g3, g4⟩, ← sy, eV, sh]
  have gx := go1_in (d := 1 * dxW wz') px ⟨g1, g2⟩
  have gy := go1_in (d := 1 * dyW wz') py ⟨g3, g4⟩
  rw [← w4] at gx
  rw [← w5] at gy
  refine ⟨by rw [v1, w1], by rw [v2, w2], by rw [v3, w3], by rw [v4, w1], by rw [v5, w2], fun u v t hu hv ht => ?_⟩
  rw [w1] at hu
  rw [w2] at hv
  rw [w1, w2, hb hu hv ht, hc (by rw [sw]; exact sh_range hw.1) (by rw [sh]; exact sh_range hh.1) ht, shas u v t hu hv ht, sx, sy, v4, v5, v3, w3]
  congr 2
  refine decide_eq_decide.2 ?_
  rw [sh_inj hu px, sh_inj hv py, sh_inj hu gx, sh_inj hv gy]
theorem Shf.life {ts : ByteArray} (hts : ∀ c ∈ ts.data.toList, c.toNat < 128) (hsz : ts.size ≤ 1048576) {dx dy : Int} : ∀ (m : Nat) (W V : WT), onesW W ≤ m → OkW W → OkW V → Shf W V dx dy →
    ∃ D tr ml D' tr' ml', Lives ts W D tr ml ∧ Lives ts V D' tr' ml' ∧ ml.length = ml'.length := by
  intro m
  induction m with
  | zero =>
    intro W V hm H G S
    have hs := S.has
    rcases eat_first ts hts hsz W H with h | ⟨c, W', E, _⟩
    · rcases eat_first ts hts hsz V G with g | ⟨d, V', F, f1, f2, j, f3, _⟩
      · exact ⟨_, _, _, _, _, _, .dead h, .dead g, rfl⟩
      · exfalso
        have := h.2.2 d (List.mem_of_getElem? f3)
        have q := quartersB_range (d.toNat : Int)
        rw [f1, S.x, S.y, S.way, hs _ _ _ H.2.2.2.2.1 H.2.2.2.2.2.1 (by omega), this] at f2
        exact Bool.noConfusion f2
    · have := E.2.2.2.1
      omega
  | succ m ih =>
    intro W V hm H G S
    have hs := S.has
    rcases eat_first ts hts hsz W H with h | ⟨c, W', E, e1, e2, i, e3, e4⟩
    · rcases eat_first ts hts hsz V G with g | ⟨d, V', F, f1, f2, j, f3, _⟩
      · exact ⟨_, _, _, _, _, _, .dead h, .dead g, rfl⟩
      · exfalso
        have := h.2.2 d (List.mem_of_getElem? f3)
        have q := quartersB_range (d.toNat : Int)
        rw [f1, S.x, S.y, S.way, hs _ _ _ H.2.2.2.2.1 H.2.2.2.2.2.1 (by omega), this] at f2
        exact Bool.noConfusion f2
    · rcases eat_first ts hts hsz V G with g | ⟨d, V', F, f1, f2, j, f3, f4⟩
      · exfalso
        have := g.2.2 c (List.mem_of_getElem? e3)
        rw [S.x, S.y, S.way, hs _ _ _ H.2.2.2.2.1 H.2.2.2.2.2.1 (by omega), ← e1, e2] at this
        exact Bool.noConfusion this
      · have hij : i = j := by
          rcases Nat.lt_trichotomy i j with h | h | h
          · exfalso
            have := f4 i c h e3
            rw [S.x, S.y, S.way, hs _ _ _ H.2.2.2.2.1 H.2.2.2.2.2.1 (by omega), ← e1, e2] at this
            exact Bool.noConfusion this
          · exact h
          · exfalso
            have := e4 j d h f3
            rw [f1, S.x, S.y, S.way, hs _ _ _ H.2.2.2.2.1 H.2.2.2.2.2.1 (by omega), this] at f2
            exact Bool.noConfusion f2
        subst hij
        rw [e3] at f3
        cases f3
        obtain ⟨D, tr, ml, D', tr', ml', l1, l2, l3⟩ := ih W' V' (by have := E.2.2.2.1; omega) E.2.2.1 F.2.2.1 (S.bite H G E.2.2.2.2 F.2.2.2.2)
        exact ⟨_, _, _, _, _, _, .step E l1, .step F l2, by rw [List.length_cons, List.length_cons, l3]⟩
theorem sft_back {W : WT} (Z : SzW W) (dx dy : Int) (cs : ByteArray) {k : Nat} (hk : k < nN W) : bt (sft W dx dy cs) (sig W dx dy k) = bt cs k := by
  rw [sft_bt W dx dy cs (sig_at Z _ _ _).1, (sig_inv Z dx dy hk).1]
theorem shW_shf {W : WT} (H : OkW W) (dx dy : Int) : Shf W (shW W dx dy) dx dy := by
  refine ⟨rfl, rfl, rfl, rfl, rfl, fun u v t hu hv ht => ?_⟩
  have Z := H.sz
  obtain ⟨n1, n2, n3, n4⟩ := at_node Z hu hv
  generalize (v * W.1 + u).toNat = a at *
  have G := (shW_ok H dx dy).sz
  obtain ⟨s1, s2, s3, s4⟩ := sig_at Z dx dy a
  obtain ⟨a0, a1, a2, a3⟩ := ln_eq Z n1
  obtain ⟨b0, b1, b2, b3⟩ := ln_eq (W := shW W dx dy) G (a := sig W dx dy a) s1
  have key : lnW (shW W dx dy) (sig W dx dy a) t = lnW W a t := by
    have cm : ∀ d e, sig W d e (sig W dx dy a) = sig W dx dy (sig W d e a) := fun d e => by
      rw [sig_sig Z, sig_sig Z, Int.add_comm dx d, Int.add_comm dy e]
    have : t = 0 ∨ t = 1 ∨ t = 2 ∨ t = 3 := by omega
    rcases this with rfl | rfl | rfl | rfl
    · rw [b0, a0]
      show (bt (sft W dx dy W.2.2.2.1) (sig W (dxW 0) (dyW 0) (sig W dx dy a)) == 49) = (bt W.2.2.2.1 (sig W (dxW 0) (dyW 0) a) == 49)
      rw [cm, sft_back Z dx dy _ (sig_at Z _ _ _).1]
    · rw [b1, a1]
      show (bt (sft W dx dy W.2.2.1) (sig W dx dy a) == 49) = (bt W.2.2.1 a == 49)
      rw [sft_back Z dx dy _ n1]
    · rw [b2, a2]
      show (bt (sft W dx dy W.2.2.2.1) (sig W dx dy a) == 49) = (bt W.2.2.2.1 a == 49)
      rw [sft_back Z dx dy _ n1]
    · rw [b3, a3]
      show (bt (sft W dx dy W.2.2.1) (sig W (dxW 3) (dyW 3) (sig W dx dy a)) == 49) = (bt W.2.2.1 (sig W (dxW 3) (dyW 3) a) == 49)
      rw [cm, sft_back Z dx dy _ (sig_at Z _ _ _).1]
  unfold lnW at key
  rw [n3, n4] at key
  rw [← key]
  show _ = hasW (shW W dx dy) (nX W (sig W dx dy a)) (nY W (sig W dx dy a)) t
  rw [s2, s3, n3, n4]
theorem shift_life {W : WT} (H : OkW W) (dx dy : Int) {t : ByteArray} (ht : t ∈ tasteL) : ∃ n : Nat, Ev (fun k => impl_LifeOf k (W, t)) ((n : Int), true) ∧ Ev (fun k => impl_LifeOf k (shW W dx dy, t)) ((n : Int), true) := by
  obtain ⟨t1, t2⟩ := tasteL_ok t ht
  have G := shW_ok H dx dy
  obtain ⟨D, tr, ml, D', tr', ml', l1, l2, l3⟩ := Shf.life t1 t2 _ W (shW W dx dy) (Nat.le_refl _) H G (shW_shf H dx dy)
  exact ⟨ml.length, life_told ht l1 H, by rw [l3]; exact life_told ht l2 G⟩

theorem op_op {t : Int} (ht : 0 ≤ t ∧ t ≤ 3) : opW (opW t) = t := by
  have : t = 0 ∨ t = 1 ∨ t = 2 ∨ t = 3 := by omega
  rcases this with rfl | rfl | rfl | rfl <;> rfl
theorem wmGo_back (w h : Int) (ri dn : ByteArray) (x y way : Int) (hw : 1 ≤ w ∧ w ≤ 9) (hh : 1 ≤ h ∧ h ≤ 9) (hx : 0 ≤ x ∧ x ≤ w - 1) (hy : 0 ≤ y ∧ y ≤ h - 1) (hway : 0 ≤ way ∧ way ≤ 3) (Wy' : Int) :
    Ev (fun k => spec_wmGo k ((w, h, ri, dn, x, y, Wy'), way, -1)) ((), (w, h, ri, dn, go1 x w (1 * dxW (opW way)), go1 y h (1 * dyW (opW way)), Wy')) := by
  have e1 : w64 (y - -1) = y + 1 := by rw [w64_of (by omega) (by omega)]; omega
  have e2 : w64 (x + -1) = x + -1 := w64_of (by omega) (by omega)
  have e3 : w64 (y + -1) = y + -1 := w64_of (by omega) (by omega)
  have e4 : w64 (x - -1) = x + 1 := by rw [w64_of (by omega) (by omega)]; omega
  have : way = 0 ∨ way = 1 ∨ way = 2 ∨ way = 3 := by omega
  rcases this with rfl | rfl | rfl | rfl
  · refine Ev.step (fun k => spec_wmGo.eq k w h ri dn x y Wy' 0 (-1)) (Ev.yes rfl ?_)
    rw [e1]
    refine Ev.bind (l1Mod_ev y h 1 hy hh (by omega)) (Ev.now' ?_)
    show ((), (w, h, ri, dn, x, go1 y h 1, Wy')) = ((), (w, h, ri, dn, go1 x w 0, go1 y h 1, Wy'))
    rw [go1_zero hx]
  · refine Ev.step (fun k => spec_wmGo.eq k w h ri dn x y Wy' 1 (-1)) (Ev.no rfl (Ev.yes rfl ?_))
    rw [e2]
    refine Ev.bind (l1Mod_ev x w (-1) hx hw (by omega)) (Ev.now' ?_)
    show ((), (w, h, ri, dn, go1 x w (-1), y, Wy')) = ((), (w, h, ri, dn, go1 x w (-1), go1 y h 0, Wy'))
    rw [go1_zero hy]
  · refine Ev.step (fun k => spec_wmGo.eq k w h ri dn x y Wy' 2 (-1)) (Ev.no rfl (Ev.no rfl (Ev.yes rfl ?_)))
    rw [e3]
    refine Ev.bind (l1Mod_ev y h (-1) hy hh (by omega)) (Ev.now' ?_)
    show ((), (w, h, ri, dn, x, go1 y h (-1), Wy')) = ((), (w, h, ri, dn, go1 x w 0, go1 y h (-1), Wy'))
    rw [go1_zero hx]
  · refine Ev.step (fun k => spec_wmGo.eq k w h ri dn x y Wy' 3 (-1)) (Ev.no rfl (Ev.no rfl (Ev.no rfl ?_)))
    rw [e4]
    refine Ev.bind (l1Mod_ev x w 1 hx hw (by omega)) (Ev.now' ?_)
    show ((), (w, h, ri, dn, go1 x w 1, y, Wy')) = ((), (w, h, ri, dn, go1 x w 1, go1 y h 0, Wy'))
    rw [go1_zero hy]
theorem count_set48 : ∀ (l : List UInt8) (i : Nat) (c : UInt8), l[i]? = some c → c ≠ 49 → (l.set i 49).count 49 = l.count 49 + 1
  | [], _, _, h, _ => by simp at h
  | a :: l, 0, c, h, hc => by
    obtain rfl : a = c := by simpa using h
    rw [List.set_cons_zero, List.count_cons_self, List.count_cons_of_ne hc]
  | a :: l, i + 1, c, h, hc => by
    have := count_set48 l i c (by simpa using h) hc
    rw [List.set_cons_succ, List.count_cons, List.count_cons]
    omega
theorem ones_back {cs : ByteArray} {i : Nat} (hi : i < cs.size) (h : (bt cs i == 49) = false) : ones (setByte cs i (UInt8.ofNat ((48 : Int) + 1).toNat)) = ones cs + 1 := by
  obtain ⟨c, hc⟩ := byte_at hi
  rw [bt_at hc, beq_eq_false_iff_ne] at h
  exact count_set48 _ _ c hc fun e => h (by rw [e]; rfl)
theorem give_both (W : WT) (hr : W.2.2.1.size ≤ 1048576) (hd : W.2.2.2.1.size ≤ 1048576) (way : Int) : ∃ r, Ev (fun k => impl_GiveBack k (W, way)) r ∧ Ev (fun k => spec_GiveBack k (W, way)) r ∧ (r.2 = true → OkW W ∧ OkW r.1 ∧ onesW r.1 = onesW W + 1 ∧ r.1.2.2.2.2.2.2 = way) := by
  have b1 := isWorm_ev W.1 W.2.1 W.2.2.1 W.2.2.2.1 W.2.2.2.2.1 W.2.2.2.2.2.1 W.2.2.2.2.2.2 hr hd
  have b2 := wmGood_ev W.1 W.2.1 W.2.2.1 W.2.2.2.1 W.2.2.2.2.1 W.2.2.2.2.2.1 W.2.2.2.2.2.2 hr hd
  by_cases H : OkW W
  rotate_left
  · obtain ⟨w, h, ri, dn, X, Y, wy⟩ := W
    exact ⟨(zeroW, false), Ev.step (fun k => impl_GiveBack.eq k w h ri dn X Y wy way) (Ev.bind (b1.isF H) (Ev.yes rfl (Ev.now _))), Ev.step (fun k => spec_GiveBack.eq k w h ri dn X Y wy way) (Ev.bind (b2.isF H) (Ev.yes rfl (Ev.now _))), fun h => Bool.noConfusion h⟩
  have i1 : EvB (fun k => impl_isWay k way) (0 ≤ way ∧ way ≤ 3) := EvB.step (fun k => impl_isWay.eq k way) (within_ev way 0 3).ret
  have i2 := l1In_ev way 0 3
  by_cases hway : 0 ≤ way ∧ way ≤ 3
  rotate_left
  · obtain ⟨w, h, ri, dn, X, Y, wy⟩ := W
    exact ⟨(zeroW, false), Ev.step (fun k => impl_GiveBack.eq k w h ri dn X Y wy way) (Ev.bind (b1.isT H) (Ev.no rfl (Ev.bind (i1.isF hway) (Ev.yes rfl (Ev.now _))))), Ev.step (fun k => spec_GiveBack.eq k w h ri dn X Y wy way) (Ev.bind (b2.isT H) (Ev.no rfl (Ev.bind (i2.isF hway) (Ev.yes rfl (Ev.now _))))), fun h => Bool.noConfusion h⟩
  have hN := node_ev W H
  obtain ⟨w, h, ri, dn, x, y, wy⟩ := W
  obtain ⟨hw, hh, ⟨hri, hdn⟩, ⟨cri, cdn⟩, hx, hy, hwy⟩ : WormOk w h ri dn x y wy := id H
  have hw9 : 1 ≤ w ∧ w ≤ 9 := by omega
  have hh9 : 1 ≤ h ∧ h ≤ 9 := by omega
  have e4 : (w64 (wy + 2)).tmod 4 = opW wy := by rw [w64_of (by omega) (by omega), Int.tmod_eq_emod_of_nonneg (by omega), opW_eq hwy]
  have ho := opW_range wy
  by_cases hq : way = opW wy
  · exact ⟨(zeroW, false), Ev.step (fun k => impl_GiveBack.eq k w h ri dn x y wy way) (Ev.bind (b1.isT H) (Ev.no rfl (Ev.bind (i1.isT hway) (Ev.no rfl (Ev.yes (by rw [e4, beq_iff_eq]; exact hq) (Ev.now _)))))), Ev.step (fun k => spec_GiveBack.eq k w h ri dn x y wy way) (Ev.bind (b2.isT H) (Ev.no rfl (Ev.bind (i2.isT hway) (Ev.no rfl (Ev.yes (by rw [e4, beq_iff_eq]; exact hq) (Ev.now _)))))), fun h => Bool.noConfusion h⟩
  have hqf : (way == (w64 (wy + 2)).tmod 4) = false := by rw [e4, beq_eq_false_iff_ne]; exact hq
  have gx := go1_in (d := 1 * dxW (opW wy)) hx (by obtain ⟨⟨d1, d2⟩, d3, d4⟩ := dW_range (opW wy); omega)
  have gy := go1_in (d := 1 * dyW (opW wy)) hy (by obtain ⟨⟨d1, d2⟩, d3, d4⟩ := dW_range (opW wy); omega)
  have edge := (edge_iff hw hh hx hy ho gx gy hwy).2 (.inr ⟨rfl, rfl, (op_op hwy).symm⟩)
  have hB := beside_ev w h ri dn x y wy x y (opW wy) hw9 hh9 hx hy ho
  have hT := there_ev w h ri dn x y wy _ _ wy hw9 hh9 gx gy hwy hri hdn
  have hM := made_ev w h ri dn x y wy _ _ wy hw9 hh9 gx gy hwy hri hdn 1 (by omega)
  have hS := wmHas_ev w h ri dn x y wy x y (opW wy) hw9 hh9 hx hy ho hri hdn
  have hC := wmSet_ev w h ri dn x y wy x y (opW wy) hw9 hh9 hx hy ho hri hdn 1 (by omega)
  obtain ⟨p1, p2⟩ := node_parts w h _ _ wy hw9 hh9 gx gy hwy
  obtain ⟨k1, k2⟩ := lnK_range (way := opW wy) hx hy hw9 hh9
  have hG := fun ri' dn' => wmGo_back w h ri' dn' x y wy hw9 hh9 hx hy hwy wy
  have hsame : hasB w h ri dn (go1 x w (1 * dxW (opW wy))) (go1 y h (1 * dyW (opW wy))) wy = hasB w h ri dn x y (opW wy) := by
    unfold hasB
    rw [edge.1, edge.2]
  have hsR : setR w h ri (go1 x w (1 * dxW (opW wy))) (go1 y h (1 * dyW (opW wy))) wy 1 = setR w h ri x y (opW wy) 1 := by
    unfold setR
    rw [edge.1, edge.2]
  have hsD : setD w h dn (go1 x w (1 * dxW (opW wy))) (go1 y h (1 * dyW (opW wy))) wy 1 = setD w h dn x y (opW wy) 1 := by
    unfold setD
    rw [edge.1, edge.2]
  rw [hsame] at hT
  rw [hsR, hsD] at hM
  have hN : Ev (fun k => impl_Worm_node k (w, h, ri, dn, x, y, wy)) (y * w + x) := hN
  have goI : ∀ r, Ev (fun k => cond (hasB w h ri dn x y (opW wy)) (some (zeroW, false)) ((impl_Worm_made k ((w, h, ri, dn, x, y, wy), go1 y h (1 * dyW (opW wy)) * w + go1 x w (1 * dxW (opW wy)), wy, 1)).bind fun r6 => cond (w != 0) (cond (w != 0) (some ((r6.1, r6.2.1, r6.2.2.1, r6.2.2.2.1, (go1 y h (1 * dyW (opW wy)) * w + go1 x w (1 * dxW (opW wy))).tmod w, w64 ((go1 y h (1 * dyW (opW wy)) * w + go1 x w (1 * dxW (opW wy))).tdiv w), way), true)) none) none)) r → Ev (fun k => impl_GiveBack k ((w, h, ri, dn, x, y, wy), way)) r := fun r h' => by
    refine Ev.step (fun k => impl_GiveBack.eq k w h ri dn x y wy way) (Ev.bind (b1.isT H) (Ev.no rfl (Ev.bind (i1.isT hway) (Ev.no rfl (Ev.no hqf (Ev.bind hN ?_))))))
    rw [e4]
    exact Ev.bind hB (Ev.bind hT h')
  have goS : ∀ r, Ev (fun k => cond (hasB w h ri dn x y (opW wy)) (some (zeroW, false)) ((spec_wmSet k ((w, h, ri, dn, x, y, wy), x, y, opW wy, bs [49])).bind fun r4 => (spec_wmGo k (r4.2, r4.2.2.2.2.2.2.2, (-1))).bind fun r5 => some ((r5.2.1, r5.2.2.1, r5.2.2.2.1, r5.2.2.2.2.1, r5.2.2.2.2.2.1, r5.2.2.2.2.2.2.1, way), true))) r → Ev (fun k => spec_GiveBack k ((w, h, ri, dn, x, y, wy), way)) r := fun r h' => by
    refine Ev.step (fun k => spec_GiveBack.eq k w h ri dn x y wy way) (Ev.bind (b2.isT H) (Ev.no rfl (Ev.bind (i2.isT hway) (Ev.no rfl (Ev.no hqf ?_)))))
    rw [e4]
    exact Ev.bind hS h'
  cases hb : hasB w h ri dn x y (opW wy) with
  | true =>
    rw [hb] at goI goS
    exact ⟨(zeroW, false), goI _ (Ev.yes rfl (Ev.now _)), goS _ (Ev.yes rfl (Ev.now _)), fun h => Bool.noConfusion h⟩
  | false =>
    rw [hb] at goI goS
    have hne : (w != 0) = true := by rw [bne_iff_ne]; omega
    refine ⟨((w, h, setR w h ri x y (opW wy) 1, setD w h dn x y (opW wy) 1, go1 x w (1 * dxW (opW wy)), go1 y h (1 * dyW (opW wy)), way), true), goI _ (Ev.no rfl (Ev.bind hM (Ev.yes hne (Ev.yes hne (Ev.now' ?_))))), goS _ (Ev.no rfl (Ev.bind hC (Ev.bind (hG _ _) (Ev.now _)))), fun _ => ⟨H, ⟨hw, hh, ?_, ?_, gx, gy, hway⟩, ?_, rfl⟩⟩
    · simp only [p1, p2]
    · unfold setR setD
      cases lnD (opW wy) with
      | true => exact ⟨hri, by show ((setByte _ _ _).size : Int) = _; rw [setByte_size]; exact hdn⟩
      | false => exact ⟨by show ((setByte _ _ _).size : Int) = _; rw [setByte_size]; exact hri, hdn⟩
    · unfold setR setD
      cases lnD (opW wy) with
      | true => exact ⟨cri, cells_set cdn _ (by omega) (by omega)⟩
      | false => exact ⟨cells_set cri _ (by omega) (by omega), cdn⟩
    · show ones (setR w h ri x y (opW wy) 1) + ones (setD w h dn x y (opW wy) 1) = ones ri + ones dn + 1
      unfold setR setD
      unfold hasB at hb
      cases hD : lnD (opW wy) with
      | true =>
        rw [hD] at hb
        have := ones_back (cs := dn) (i := (lnK w h x y (opW wy)).toNat) (by omega) hb
        show ones ri + ones (setByte dn _ _) = _
        omega
      | false =>
        rw [hD] at hb
        have := ones_back (cs := ri) (i := (lnK w h x y (opW wy)).toNat) (by omega) hb
        show ones (setByte ri _ _) + ones dn = _
        omega
/-! ### Fresh worms -/
theorem full_of {W : WT} (H : OkW W) (hr : ∀ c ∈ W.2.2.1.data.toList, c = 49) (hd : ∀ c ∈ W.2.2.2.1.data.toList, c = 49) : FullW W := by
  have hs := H.2.2.1
  have hn := H.sz.n
  have one : ∀ s : ByteArray, s.size = nN W → (∀ c ∈ s.data.toList, c = 49) → ∀ k, k < nN W → (bt s k == 49) = true := fun s hz hc k hk => by
    obtain ⟨c, h⟩ := byte_at (cs := s) (i := k) (by omega)
    rw [bt_at h, hc c (List.mem_of_getElem? h)]
    rfl
  exact fun k hk => ⟨one _ (by omega) hd k hk, one _ (by omega) hr k hk⟩
theorem full_ones {W : WT} (H : OkW W) (F : FullW W) : onesW W = 2 * nN W := by
  have hs := H.2.2.1
  have hn := H.sz.n
  unfold onesW
  rw [ones_cf (s := W.2.2.1) (N := nN W) (by omega), ones_cf (s := W.2.2.2.1) (N := nN W) (by omega), cf_full (P := fun k => bt W.2.2.1 k == 49) fun k hk => (F k hk).2, cf_full (P := fun k => bt W.2.2.2.1 k == 49) fun k hk => (F k hk).1]
  omega
theorem full_odd {W : WT} (H : OkW W) (F : FullW W) : (oddF W (nN W)).length = 0 := by
  rw [oddF_len]
  refine cf_none fun a ha => ?_
  obtain ⟨a0, a1, a2, a3⟩ := ln_eq H.sz ha
  have e : degW W a = 4 := by
    unfold degW
    rw [a0, a1, a2, a3, (F _ (nb_lt H.sz a 0)).1, (F a ha).2, (F a ha).1, (F _ (nb_lt H.sz a 3)).2]
    rfl
  rw [e]
  rfl
theorem all_same {s t : ByteArray} (hz : s.size = t.size) (hs : ∀ c ∈ s.data.toList, c = 49) (ht : ∀ c ∈ t.data.toList, c = 49) : s = t := by
  apply ba_ext
  rw [List.eq_replicate_iff.2 ⟨rfl, hs⟩, List.eq_replicate_iff.2 ⟨rfl, ht⟩, ← size_list, ← size_list, hz]
theorem repeat_ones : ∀ n : Nat, ∀ c ∈ Lib.repeatL [49] n, c = (49 : UInt8)
  | 0 => fun c h => absurd h List.not_mem_nil
  | n + 1 => fun c h => by
    rcases List.mem_append.1 (show c ∈ [49] ++ Lib.repeatL [49] n from h) with h | h
    · exact List.mem_singleton.1 h
    · exact repeat_ones n c h
def mkB49 (n : Nat) : ByteArray := ⟨(Lib.repeatL [49] n).toArray⟩
theorem fresh_both (a b : Int) : ∃ r, Ev (fun k => impl_FreshWorm k (a, b)) r ∧ Ev (fun k => spec_FreshWorm k (a, b)) r ∧ (r.2 = true → OkW r.1 ∧ FullW r.1 ∧ r.1.1 = a ∧ r.1.2.1 = b) := by
  have g1 : EvB (fun k => impl_isGrid k (a, b)) ((3 ≤ a ∧ a ≤ 6) ∧ (3 ≤ b ∧ b ≤ 6)) := EvB.step (fun k => impl_isGrid.eq k a b) (EvB.and (within_ev a 3 6) fun _ => (within_ev b 3 6).ret)
  have l1 := l1In_ev a 3 6
  have l2 := l1In_ev b 3 6
  by_cases h1 : 3 ≤ a ∧ a ≤ 6
  rotate_left
  · exact ⟨(zeroW, false), Ev.step (fun k => impl_FreshWorm.eq k a b) (Ev.bind (g1.isF fun h => h1 h.1) (Ev.yes rfl (Ev.now _))), Ev.step (fun k => spec_FreshWorm.eq k a b) (Ev.bind (l1.isF h1) (Ev.yes rfl (Ev.now _))), fun h => Bool.noConfusion h⟩
  by_cases h2 : 3 ≤ b ∧ b ≤ 6
  rotate_left
  · exact ⟨(zeroW, false), Ev.step (fun k => impl_FreshWorm.eq k a b) (Ev.bind (g1.isF fun h => h2 h.2) (Ev.yes rfl (Ev.now _))), Ev.step (fun k => spec_FreshWorm.eq k a b) (Ev.bind (l1.isT h1) (Ev.no rfl (Ev.bind (l2.isF h2) (Ev.yes rfl (Ev.now _))))), fun h => Bool.noConfusion h⟩
  have hm := mul_range (a := a) (b := b) (by omega) (by omega) (by omega) (by omega)
  have e64 : w64 (a * b) = a * b := w64_of (by omega) (by omega)
  obtain ⟨o, eo, so, ao⟩ := wmOnes_ev (w64 (a * b)) (by omega)
  have hz : (mkB49 (a * b).toNat).size = o.size := by
    rw [size_list]
    show (Lib.repeatL [49] (a * b).toNat).length = _
    rw [Lib.repeatL_length, List.length_singleton]
    omega
  have eR : mkB49 (a * b).toNat = o := all_same hz (repeat_ones _) ao
  have hR : Ev (fun k => strings_Repeat k (bs [49], w64 (a * b))) o := by
    refine Ev.step (fun k => (strings_Repeat.eq k (bs [49], w64 (a * b))).trans (show strRep (bs [49]) (w64 (a * b)) = some o from ?_)) (Ev.now _)
    unfold strRep
    have z1 : (bs [49]).size = 1 := rfl
    rw [e64, if_pos (by omega)]
    show some (mkB49 (a * b).toNat) = some o
    rw [eR]
  have HW : OkW (a, b, o, o, 0, 0, 0) := ⟨h1, h2, ⟨by show (o.size : Int) = a * b; omega, by show (o.size : Int) = a * b; omega⟩, ⟨cells_ones ao, cells_ones ao⟩, by show (0 : Int) ≤ 0 ∧ 0 ≤ a - 1; omega, by show (0 : Int) ≤ 0 ∧ 0 ≤ b - 1; omega, by show (0 : Int) ≤ 0 ∧ (0 : Int) ≤ 3; omega⟩
  exact ⟨((a, b, o, o, 0, 0, 0), true), Ev.step (fun k => impl_FreshWorm.eq k a b) (Ev.bind (g1.isT ⟨h1, h2⟩) (Ev.no rfl (Ev.bind hR (Ev.now _)))), Ev.step (fun k => spec_FreshWorm.eq k a b) (Ev.bind (l1.isT h1) (Ev.no rfl (Ev.bind (l2.isT h2) (Ev.no rfl (Ev.bind eo (Ev.bind eo (Ev.now _))))))), fun _ => ⟨HW, full_of HW ao ao, rfl, rfl⟩⟩
/-! ### What is drawn -/
section
variable (code : List Int) (hc : ∀ x ∈ code, 0 ≤ x ∧ x ≤ 255)
include hc
theorem drawOdd_ev : ∃ W, Ev (fun k => spec_DrawOddNodes k code) W ∧ W.2.2.1.size ≤ 2000 ∧ W.2.2.2.1.size ≤ 2000 := by
  obtain ⟨W, c1, e1, ⟨z1, z2⟩, _⟩ := worm_ev 0 (code, 0, 0) (CurOk.start hc) (by omega)
  exact ⟨W, Ev.step (fun k => spec_DrawOddNodes.eq k code) (Ev.bind (Ev.step (fun k => spec_DrawIsWorm.eq k code) (Ev.bind e1 (Ev.now _))) (Ev.now _)), z1, z2⟩
theorem drawShift_ev : ∃ (W : WT) (x y : Int), Ev (fun k => spec_DrawShiftWorm k code) (W, x, y) ∧ W.2.2.1.size ≤ 2000 ∧ W.2.2.2.1.size ≤ 2000 := by
  obtain ⟨W, c1, e1, ⟨z1, z2⟩, H1⟩ := worm_ev 0 (code, 0, 0) (CurOk.start hc) (by omega)
  obtain ⟨r2, c2, e2, _, _, H2⟩ := pick_ev _ c1 H1 (by omega) 6
  obtain ⟨r3, c3, e3, _, _, H3⟩ := pick_ev _ c2 H2 (by omega) 9
  obtain ⟨r4, c4, e4, _, _, H4⟩ := pick_ev _ c3 H3 (by omega) 6
  exact ⟨W, _, _, Ev.step (fun k => spec_DrawShiftWorm.eq k code) (Ev.bind e1 (Ev.bind e2 (Ev.bind e3 (Ev.bind e4 (Ev.now _))))), z1, z2⟩
theorem drawGive_ev : ∃ (W : WT) (way : Int), Ev (fun k => spec_DrawGiveBack k code) (W, way) ∧ W.2.2.1.size ≤ 2000 ∧ W.2.2.2.1.size ≤ 2000 := by
  obtain ⟨W, ts, c1, e1, ⟨z1, z2⟩, H1⟩ := eater_ev 0 (code, 0, 0) (CurOk.start hc) (by omega)
  have A := askS_ev W ts (by omega) (by omega)
  by_cases H : OkW W ∧ ts ∈ tasteL
  · obtain ⟨b, c2, e2, H2⟩ := one_ev _ c1 H1 (by omega) 4
    obtain ⟨r, c3, e3, _, _, H3⟩ := pick_ev _ c2 H2 (by omega) 6
    cases b with
    | true => exact ⟨W, _, Ev.step (fun k => spec_DrawGiveBack.eq k code) (Ev.bind e1 (Ev.bind (A.isT H) (Ev.yes rfl (Ev.bind e2 (Ev.no rfl (Ev.bind e3 (Ev.now _))))))), z1, z2⟩
    | false =>
      obtain ⟨t1, t2⟩ := tasteL_ok ts H.2
      rcases eat_or ts t1 t2 W H.1 with h | ⟨c, V, E⟩
      · exact ⟨W, _, Ev.step (fun k => spec_DrawGiveBack.eq k code) (Ev.bind e1 (Ev.bind (A.isT H) (Ev.yes rfl (Ev.bind e2 (Ev.yes rfl (Ev.bind h.1 (Ev.no (by rw [strEq_self]; rfl) (Ev.bind e3 (Ev.now _))))))))), z1, z2⟩
      · have sm := E.2.2.1.small
        exact ⟨V, _, Ev.step (fun k => spec_DrawGiveBack.eq k code) (Ev.bind e1 (Ev.bind (A.isT H) (Ev.yes rfl (Ev.bind e2 (Ev.yes rfl (Ev.bind E.1 (Ev.yes (by rw [one_byte]; rfl) (Ev.now _)))))))), by omega, by omega⟩
  · obtain ⟨r, c3, e3, _, _, H3⟩ := pick_ev _ c1 H1 (by omega) 6
    exact ⟨W, _, Ev.step (fun k => spec_DrawGiveBack.eq k code) (Ev.bind e1 (Ev.bind (A.isF H) (Ev.no rfl (Ev.bind e3 (Ev.now _))))), z1, z2⟩
theorem drawFresh_ev : ∃ a b : Int, Ev (fun k => spec_DrawFreshWorm k code) (a, b) := by
  obtain ⟨a, c1, e1, _, H1⟩ := among_ev 0 (code, 0, 0) (CurOk.start hc) (by omega) [3, 4, 5, 6, 2, 7, (-1)] (by decide)
  obtain ⟨b, c2, e2, _, _⟩ := among_ev _ c1 H1 (by omega) [3, 4, 5, 6, 2, 7, 4611686018427387904] (by decide)
  exact ⟨a, b, Ev.step (fun k => spec_DrawFreshWorm.eq k code) (Ev.bind e1 (Ev.bind e2 (Ev.now _)))⟩
theorem drawAt_ev : ∃ (W : WT) (x y : Int), Ev (fun k => spec_DrawLinesAt k code) (W, x, y) ∧ W.2.2.1.size ≤ 2000 ∧ W.2.2.2.1.size ≤ 2000 := by
  obtain ⟨W, c1, e1, ⟨z1, z2⟩, H1⟩ := worm_ev 0 (code, 0, 0) (CurOk.start hc) (by omega)
  obtain ⟨r2, c2, e2, _, _, H2⟩ := pick_ev _ c1 H1 (by omega) 6
  obtain ⟨r3, c3, e3, _, _, H3⟩ := pick_ev _ c2 H2 (by omega) 9
  obtain ⟨r4, c4, e4, _, _, H4⟩ := pick_ev _ c3 H3 (by omega) 6
  obtain ⟨r5, c5, e5, _, _, H5⟩ := pick_ev _ c4 H4 (by omega) 9
  exact ⟨W, _, _, Ev.step (fun k => spec_DrawLinesAt.eq k code) (Ev.bind e1 (Ev.bind e2 (Ev.bind e3 (Ev.bind e4 (Ev.bind e5 (Ev.now _)))))), z1, z2⟩
end
end Go.Proofs.YtplamonjnlgomaaGreatDoorS
