/- Worms: whole lives, and why a fresh one dies where it began. -/
import Derived.Test.YtmdgodjcfhimbaaPuWorm
namespace Go.Proofs.YtmdgodjcfhimbaaS
open Go
set_option linter.unusedVariables false
set_option linter.unusedSimpArgs false

abbrev WT : Type := Int × Int × ByteArray × ByteArray × Int × Int × Int
def OkW (W : WT) : Prop := WormOk W.1 W.2.1 W.2.2.1 W.2.2.2.1 W.2.2.2.2.1 W.2.2.2.2.2.1 W.2.2.2.2.2.2
def onesW (W : WT) : Nat := ones W.2.2.1 + ones W.2.2.2.1
def nodeW (W : WT) : Int := W.2.2.2.2.2.1 * W.1 + W.2.2.2.2.1
def hasW (W : WT) (x y way : Int) : Bool := hasB W.1 W.2.1 W.2.2.1 W.2.2.2.1 x y way
def Stuck (ts : ByteArray) (W : WT) : Prop := Ev (fun k => spec_wmEat k (W, ts)) (ByteArray.empty, W) ∧ Ev (fun k => impl_Worm_eat k (W, ts)) (zeroW, 0, false) ∧ ∀ c ∈ ts.data.toList, hasW W W.2.2.2.2.1 W.2.2.2.2.2.1 ((W.2.2.2.2.2.2 + quartersB (c.toNat : Int)) % 4) = false
def Bite (ts : ByteArray) (W : WT) (c : UInt8) (V : WT) : Prop := ∃ wz, c ∈ ts.data.toList ∧ wz = (W.2.2.2.2.2.2 + quartersB (c.toNat : Int)) % 4 ∧ hasW W W.2.2.2.2.1 W.2.2.2.2.2.1 wz = true ∧
  V = (W.1, W.2.1, setR W.1 W.2.1 W.2.2.1 W.2.2.2.2.1 W.2.2.2.2.2.1 wz 0, setD W.1 W.2.1 W.2.2.2.1 W.2.2.2.2.1 W.2.2.2.2.2.1 wz 0, go1 W.2.2.2.2.1 W.1 (1 * dxW wz), go1 W.2.2.2.2.2.1 W.2.1 (1 * dyW wz), wz)
def Eats (ts : ByteArray) (W : WT) (c : UInt8) (V : WT) : Prop := Ev (fun k => spec_wmEat k (W, ts)) (ofBytes [(c.toNat : Int)], V) ∧ Ev (fun k => impl_Worm_eat k (W, ts)) (V, (c.toNat : Int), true) ∧ OkW V ∧ onesW V + 1 = onesW W ∧ Bite ts W c V
theorem eat_or (ts : ByteArray) (hts : ∀ c ∈ ts.data.toList, c.toNat < 128) (hsz : ts.size ≤ 1048576) : ∀ W : WT, OkW W → Stuck ts W ∨ ∃ c V, Eats ts W c V := by
  rintro ⟨w, h, ri, dn, x, y, wy⟩ H
  rcases eat_full w h ri dn x y wy H ts hts hsz with ⟨h1, h2, h3⟩ | ⟨c, ri', dn', x', y', wy', h1, h2, h3, h4, h5, h6, h7, rfl, rfl, rfl, rfl⟩
  · exact .inl ⟨h1, h2, h3⟩
  · exact .inr ⟨c, _, h1, h2, h3, h4, wy', h5, h6, h7, rfl⟩
inductive Lives (ts : ByteArray) : WT → WT → List Int → List Int → Prop
  | dead {W : WT} : Stuck ts W → Lives ts W W [] []
  | step {W V D : WT} {c : UInt8} {tr ml : List Int} : Eats ts W c V → Lives ts V D tr ml → Lives ts W D (nodeW V :: tr) ((c.toNat : Int) :: ml)
theorem lives_ex (ts : ByteArray) (hts : ∀ c ∈ ts.data.toList, c.toNat < 128) (hsz : ts.size ≤ 1048576) : ∀ (m : Nat) (W : WT), OkW W → onesW W = m → ∃ D tr ml, Lives ts W D tr ml
  | 0, W, H, hm => by
    rcases eat_or ts hts hsz W H with h | ⟨c, V, h⟩
    · exact ⟨_, _, _, .dead h⟩
    · have := h.2.2.2.1
      omega
  | m + 1, W, H, hm => by
    rcases eat_or ts hts hsz W H with h | ⟨c, V, h⟩
    · exact ⟨_, _, _, .dead h⟩
    · obtain ⟨D, tr, ml, hl⟩ := lives_ex ts hts hsz m V h.2.2.1 (by have := h.2.2.2.1; omega)
      exact ⟨_, _, _, .step h hl⟩
theorem Lives.facts {ts : ByteArray} {W D : WT} {tr ml : List Int} (H : Lives ts W D tr ml) : OkW W → OkW D ∧ onesW D + ml.length = onesW W ∧ tr.length = ml.length ∧ Stuck ts D ∧ (nodeW W :: tr)[ml.length]? = some (nodeW D) ∧ ∀ c ∈ ml, 0 ≤ c ∧ c < 256 := by
  induction H with
  | dead h => exact fun H => ⟨H, rfl, rfl, h, rfl, fun c hc => by cases hc⟩
  | @step W V D c tr ml h hl ih =>
    intro H
    obtain ⟨a1, a2, a3, a4, a5, a6⟩ := ih h.2.2.1
    refine ⟨a1, ?_, by simp only [List.length_cons, a3], a4, ?_, fun c' hc => ?_⟩
    · have := h.2.2.2.1
      simp only [List.length_cons]
      omega
    · simp only [List.length_cons, List.getElem?_cons_succ]
      exact a5
    · rcases List.mem_cons.1 hc with rfl | hc
      · have := c.toNat_lt
        omega
      · exact a6 c' hc
theorem ones_small {W : WT} (H : OkW W) : onesW W ≤ 72 := by
  have hw := H.1
  have hh := H.2.1
  have hs := H.2.2.1
  have hm6 : W.1 * W.2.1 ≤ 36 := by have := Int.mul_le_mul hw.2 hh.2 (by omega) (by omega); omega
  have o1 := ones_le W.2.2.1
  have o2 := ones_le W.2.2.2.1
  unfold onesW
  omega
theorem node64 {W : WT} (H : OkW W) : w64 (w64 (W.2.2.2.2.2.1 * W.1) + W.2.2.2.2.1) = nodeW W := at64 H.2.2.2.2.1 H.2.2.2.2.2.1 (by have := H.1; omega) (by have := H.2.1; omega)
theorem node_ev' (w h : Int) (ri dn : ByteArray) (x y wy : Int) (e : w64 (w64 (y * w) + x) = y * w + x) : Ev (fun k => impl_Worm_node k (w, h, ri, dn, x, y, wy)) (y * w + x) :=
  Ev.step (fun k => impl_Worm_node.eq k w h ri dn x y wy) (Ev.bind (Ev.step (fun k => impl_Worm_world.eq k w h ri dn x y wy) (Ev.now _)) (Ev.bind (Ev.step (fun k => impl_World_at.eq k _ w h _ x y wy) (Ev.now' e)) (Ev.now _)))
theorem node_ev : ∀ W : WT, OkW W → Ev (fun k => impl_Worm_node k W) (nodeW W)
  | (w, h, ri, dn, x, y, wy), H => by
    obtain ⟨hw, hh, _, _, hx, hy, _⟩ : WormOk w h ri dn x y wy := H
    have e : w64 (w64 (y * w) + x) = y * w + x := at64 hx hy (by omega) (by omega)
    exact node_ev' w h ri dn x y wy e
theorem Lives.loops {ts : ByteArray} {W D : WT} {tr ml : List Int} (H : Lives ts W D tr ml) : OkW W → ∀ track meals : List Int, meals.length + ml.length ≤ 200 → track.length = meals.length + 1 →
    Ev (fun k => spec_wmLife_l k (ts, W, zeroW, ofBytes meals, track)) (D, ofBytes (meals ++ ml), track ++ tr) ∧ Ev (fun k => impl_Worm_life_l k (ts, W, zeroW, track, meals)) (D, track ++ tr, ofBytes (meals ++ ml)) := by
  induction H with
  | @dead W h =>
    intro H track meals hl ht
    obtain ⟨w, h', ri, dn, x, y, wy⟩ := W
    rw [List.append_nil, List.append_nil]
    exact ⟨Ev.step (fun k => spec_wmLife_l.eq k ts w h' ri dn x y wy 0 0 ByteArray.empty ByteArray.empty 0 0 0 (ofBytes meals) track) (Ev.bind h.1 (Ev.yes (strEq_self _) (Ev.now _))),
      Ev.step (fun k => impl_Worm_life_l.eq k ts w h' ri dn x y wy 0 0 ByteArray.empty ByteArray.empty 0 0 0 track meals) (Ev.bind h.2.1 (Ev.yes rfl (Ev.now _)))⟩
  | @step W V D c tr ml h hl ih =>
    intro H track meals hle ht
    have hV := h.2.2.1
    have e64 := node64 hV
    simp only [List.length_cons] at hle
    obtain ⟨q1, q2⟩ := ih hV (track ++ [nodeW V]) (meals ++ [(c.toNat : Int)]) (by simp; omega) (by simp; omega)
    have hsm : (ofBytes meals).size = meals.length := by rw [size_list]; unfold ofBytes; simp
    obtain ⟨w, h', ri, dn, x, y, wy⟩ := W
    have a1 : track ++ [nodeW V] ++ tr = track ++ nodeW V :: tr := by simp
    have a2 : meals ++ [(c.toNat : Int)] ++ ml = meals ++ (c.toNat : Int) :: ml := by simp
    rw [a1, a2] at q1 q2
    have hN := node_ev V hV
    refine ⟨?_, ?_⟩
    · refine Ev.step (fun k => spec_wmLife_l.eq k ts w h' ri dn x y wy 0 0 ByteArray.empty ByteArray.empty 0 0 0 (ofBytes meals) track) (Ev.bind h.1 (Ev.no (one_byte _) (Ev.yes (fitS_of ?_) (Ev.yes (fits_of (by omega)) ?_))))
      · show (ofBytes meals).size + 1 < _
        omega
      · obtain ⟨w, h', ri, dn, x, y, wy⟩ := V
        simp only [e64, ofBytes_append]
        exact q1
    · refine Ev.step (fun k => impl_Worm_life_l.eq k ts w h' ri dn x y wy 0 0 ByteArray.empty ByteArray.empty 0 0 0 track meals) (Ev.bind h.2.1 (Ev.no rfl (Ev.bind hN (Ev.yes (fits_of (by omega)) (Ev.yes (fits_of (by omega)) ?_)))))
      exact q2
theorem Lives.life {ts : ByteArray} {W D : WT} {tr ml : List Int} (L : Lives ts W D tr ml) (H : OkW W) : Ev (fun k => spec_wmLife k (W, ts)) (D, ofBytes ml, nodeW W :: tr) ∧ Ev (fun k => impl_Worm_life k (W, ts)) (D, nodeW W :: tr, ofBytes ml) := by
  have h72 := ones_small H
  have hf := (L.facts H).2.1
  obtain ⟨q1, q2⟩ := L.loops H [nodeW W] [] (by simp; omega) rfl
  have e64 := node64 H
  have hN := node_ev W H
  obtain ⟨w, h, ri, dn, x, y, wy⟩ := W
  refine ⟨Ev.step (fun k => spec_wmLife.eq k w h ri dn x y wy ts) ?_, Ev.step (fun k => impl_Worm_life.eq k w h ri dn x y wy ts) (Ev.bind hN (Ev.bind q2 (Ev.now _)))⟩
  simp only [e64]
  exact Ev.bind q1 (Ev.now _)
/-! ### Lines: which node has which -/
theorem go1_inv {n m M : Int} (hn : 0 ≤ n ∧ n ≤ M - 1) (hm : 0 ≤ m ∧ m ≤ M - 1) : (go1 n M (-1) = m ↔ n = go1 m M 1) ∧ (go1 n M 1 = m ↔ n = go1 m M (-1)) := by
  unfold go1
  constructor <;> split <;> first | omega | (split <;> first | omega | (split <;> first | omega | (split <;> omega)))
theorem go1_inj {n m M : Int} (hn : 0 ≤ n ∧ n ≤ M - 1) (hm : 0 ≤ m ∧ m ≤ M - 1) : go1 n M (-1) = go1 m M (-1) ↔ n = m := by
  constructor
  · unfold go1
    split <;> first | omega | (split <;> first | omega | (split <;> first | omega | (split <;> omega)))
  · rintro rfl
    rfl
theorem at_inj {x y x' y' w : Int} (hx : 0 ≤ x ∧ x ≤ w - 1) (hx' : 0 ≤ x' ∧ x' ≤ w - 1) : y * w + x = y' * w + x' ↔ x = x' ∧ y = y' := by
  constructor
  · intro h
    have key : ∀ a b c d : Int, 0 ≤ c → c ≤ w - 1 → 0 ≤ d → d ≤ w - 1 → a * w + c = b * w + d → ¬ a < b := fun a b c d h1 h2 h3 h4 h5 h6 => by
      have := Int.mul_le_mul_of_nonneg_right (show a + 1 ≤ b by omega) (show 0 ≤ w by omega)
      rw [Int.add_mul, Int.one_mul] at this
      omega
    have k1 := key y y' x x' hx.1 hx.2 hx'.1 hx'.2 h
    have k2 := key y' y x' x hx'.1 hx'.2 hx.1 hx.2 h.symm
    obtain rfl : y = y' := by omega
    exact ⟨by omega, rfl⟩
  · rintro ⟨rfl, rfl⟩
    rfl
def opW (way : Int) : Int := if way = 0 then 2 else if way = 1 then 3 else if way = 2 then 0 else 1
theorem opW_range (way : Int) : 0 ≤ opW way ∧ opW way ≤ 3 := by
  unfold opW
  split <;> first | omega | (split <;> first | omega | (split <;> omega))
theorem opW_eq {way : Int} (h : 0 ≤ way ∧ way ≤ 3) : (way + 2) % 4 = opW way := by
  have : way = 0 ∨ way = 1 ∨ way = 2 ∨ way = 3 := by omega
  rcases this with rfl | rfl | rfl | rfl <;> rfl
theorem edge_iff {w h x y wz u v way : Int} (hw : 3 ≤ w ∧ w ≤ 6) (hh : 3 ≤ h ∧ h ≤ 6) (hx : 0 ≤ x ∧ x ≤ w - 1) (hy : 0 ≤ y ∧ y ≤ h - 1) (hz : 0 ≤ wz ∧ wz ≤ 3) (hu : 0 ≤ u ∧ u ≤ w - 1) (hv : 0 ≤ v ∧ v ≤ h - 1) (hway : 0 ≤ way ∧ way ≤ 3) :
    (lnD way = lnD wz ∧ lnK w h u v way = lnK w h x y wz) ↔ (u = x ∧ v = y ∧ way = wz) ∨ (u = go1 x w (1 * dxW wz) ∧ v = go1 y h (1 * dyW wz) ∧ way = opW wz) := by
  have gx := go1_in (d := -1) hx (by omega)
  have gy := go1_in (d := -1) hy (by omega)
  have gu := go1_in (d := -1) hu (by omega)
  have gv := go1_in (d := -1) hv (by omega)
  have i1 := go1_inv hu hx
  have i2 := go1_inv hv hy
  have j1 := go1_inv hx hu
  have j2 := go1_inv hy hv
  have z1 := go1_zero hx
  have z2 := go1_zero hy
  have n1 := go1_inj hu hx
  have n2 := go1_inj hv hy
  have c1 : way = 0 ∨ way = 1 ∨ way = 2 ∨ way = 3 := by omega
  have c2 : wz = 0 ∨ wz = 1 ∨ wz = 2 ∨ wz = 3 := by omega
  have kk : ∀ a b c d : Int, 0 ≤ b ∧ b ≤ w - 1 → 0 ≤ d ∧ d ≤ w - 1 → (a * w + b = c * w + d ↔ b = d ∧ a = c) := fun a b c d h1 h2 => at_inj h1 h2
  have D1 : (1 : Int) * dxW 0 = 0 ∧ (1 : Int) * dxW 1 = 1 ∧ (1 : Int) * dxW 2 = 0 ∧ (1 : Int) * dxW 3 = -1 := by decide
  have D2 : (1 : Int) * dyW 0 = -1 ∧ (1 : Int) * dyW 1 = 0 ∧ (1 : Int) * dyW 2 = 1 ∧ (1 : Int) * dyW 3 = 0 := by decide
  have K0 : ∀ a b : Int, lnK w h a b 0 = go1 b h (-1) * w + a := fun a b => rfl
  have K1 : ∀ a b : Int, lnK w h a b 1 = b * w + a := fun a b => rfl
  have K2 : ∀ a b : Int, lnK w h a b 2 = b * w + a := fun a b => rfl
  have K3 : ∀ a b : Int, lnK w h a b 3 = b * w + go1 a w (-1) := fun a b => rfl
  have L : lnD 0 = true ∧ lnD 1 = false ∧ lnD 2 = true ∧ lnD 3 = false := ⟨rfl, rfl, rfl, rfl⟩
  have O : opW 0 = 2 ∧ opW 1 = 3 ∧ opW 2 = 0 ∧ opW 3 = 1 := ⟨rfl, rfl, rfl, rfl⟩
  rcases c1 with rfl | rfl | rfl | rfl <;> rcases c2 with rfl | rfl | rfl | rfl <;> simp only [D1, D2, K0, K1, K2, K3, L, O, z1, z2, kk _ _ _ _ hu hx, kk _ _ _ _ hu gx, kk _ _ _ _ gu hx, kk _ _ _ _ gu gx, n1, n2, i1.1, i2.1, true_and, and_true, false_and, and_false, or_false, false_or, reduceCtorEq]
  all_goals first | omega | simp
theorem bt_set {s : ByteArray} {k : Nat} (j : Nat) (hk : k < s.size) (c : UInt8) : bt (setByte s k c) j = if j = k then (c.toNat : Int) else bt s j := by
  unfold bt setByte
  show ((((s.data.toList.set k c).toArray).getD j 0).toNat : Int) = _
  rw [Array.getD_eq_getD_getElem?, Array.getD_eq_getD_getElem?, List.getElem?_toArray, List.getElem?_set, ← Array.getElem?_toList]
  rw [size_list] at hk
  by_cases h : j = k
  · subst h
    have hk' : j < s.size := by rw [size_list]; exact hk
    simp [hk, hk']
  · rw [if_neg (fun e => h e.symm), if_neg h]
theorem has_same {W : WT} {u v way x y wz : Int} (h : lnD way = lnD wz ∧ lnK W.1 W.2.1 u v way = lnK W.1 W.2.1 x y wz) : hasW W u v way = hasW W x y wz := by
  unfold hasW hasB
  rw [h.1, h.2]
theorem has_bite {ts : ByteArray} {W V : WT} {c : UInt8} (H : OkW W) (B : Bite ts W c V) {u v way : Int} (hu : 0 ≤ u ∧ u ≤ W.1 - 1) (hv : 0 ≤ v ∧ v ≤ W.2.1 - 1) (hway : 0 ≤ way ∧ way ≤ 3) :
    hasW V u v way = (hasW W u v way && !decide ((u = W.2.2.2.2.1 ∧ v = W.2.2.2.2.2.1 ∧ way = V.2.2.2.2.2.2) ∨ (u = V.2.2.2.2.1 ∧ v = V.2.2.2.2.2.1 ∧ way = opW V.2.2.2.2.2.2))) := by
  obtain ⟨w, h, ri, dn, x, y, wy⟩ := W
  obtain ⟨wz, h1, h2, h3, rfl⟩ := B
  obtain ⟨hw, hh, ⟨hri, hdn⟩, ⟨cri, cdn⟩, hx, hy, hwy⟩ := id H
  obtain ⟨q0, q3⟩ := quartersB_range (c.toNat : Int)
  simp only at hw hh hri hdn hx hy hwy h2 h3 hu hv
  have hz : 0 ≤ wz ∧ wz ≤ 3 := by omega
  have e := edge_iff hw hh hx hy hz hu hv hway
  obtain ⟨k1, k2⟩ := lnK_range (w := w) (h := h) (way := wz) hx hy (by omega) (by omega)
  obtain ⟨l1, l2⟩ := lnK_range (w := w) (h := h) (way := way) hu hv (by omega) (by omega)
  show hasB w h (setR w h ri x y wz 0) (setD w h dn x y wz 0) u v way = (hasB w h ri dn u v way && !decide ((u = x ∧ v = y ∧ way = wz) ∨ (u = go1 x w (1 * dxW wz) ∧ v = go1 y h (1 * dyW wz) ∧ way = opW wz)))
  have e' : decide (lnD way = lnD wz ∧ lnK w h u v way = lnK w h x y wz) = decide ((u = x ∧ v = y ∧ way = wz) ∨ (u = go1 x w (1 * dxW wz) ∧ v = go1 y h (1 * dyW wz) ∧ way = opW wz)) := decide_eq_decide.2 e
  rw [← e']
  have e49 : (((UInt8.ofNat ((48 : Int) + 0).toNat).toNat : Int) == 49) = false := by decide
  have one : ∀ s : ByteArray, (s.size : Int) = w * h → (bt (setByte s (lnK w h x y wz).toNat (UInt8.ofNat ((48 : Int) + 0).toNat)) (lnK w h u v way).toNat == 49) = ((bt s (lnK w h u v way).toNat == 49) && !decide (lnK w h u v way = lnK w h x y wz)) := fun s hs => by
    rw [bt_set _ (by omega)]
    by_cases hk : lnK w h u v way = lnK w h x y wz
    · rw [if_pos (by rw [hk]), e49, decide_eq_true hk]
      simp
    · rw [if_neg (by omega), decide_eq_false hk]
      simp
  unfold hasB setR setD
  rcases Bool.eq_false_or_eq_true (lnD way) with hD | hD <;> rcases Bool.eq_false_or_eq_true (lnD wz) with hZ | hZ <;> simp only [hD, hZ]
  · simp only [if_true, true_and]
    exact one dn hdn
  · simp
  · simp
  · simp only [Bool.false_eq_true, if_false, true_and]
    exact one ri hri
theorem moved_off {x y w h wz : Int} (hw : 3 ≤ w ∧ w ≤ 6) (hh : 3 ≤ h ∧ h ≤ 6) (hx : 0 ≤ x ∧ x ≤ w - 1) (hy : 0 ≤ y ∧ y ≤ h - 1) (hz : 0 ≤ wz ∧ wz ≤ 3) : ¬ (x = go1 x w (1 * dxW wz) ∧ y = go1 y h (1 * dyW wz)) := by
  have c2 : wz = 0 ∨ wz = 1 ∨ wz = 2 ∨ wz = 3 := by omega
  have D1 : (1 : Int) * dxW 1 = 1 ∧ (1 : Int) * dxW 3 = -1 := by decide
  have D2 : (1 : Int) * dyW 0 = -1 ∧ (1 : Int) * dyW 2 = 1 := by decide
  rintro ⟨h1, h2⟩
  rcases c2 with rfl | rfl | rfl | rfl
  · rw [D2.1] at h2
    unfold go1 at h2
    split at h2
    · omega
    · split at h2 <;> omega
  · rw [D1.1] at h1
    unfold go1 at h1
    split at h1
    · omega
    · split at h1 <;> omega
  · rw [D2.2] at h2
    unfold go1 at h2
    split at h2
    · omega
    · split at h2 <;> omega
  · rw [D1.2] at h1
    unfold go1 at h1
    split at h1
    · omega
    · split at h1 <;> omega
def parW (W : WT) (u v : Int) : Bool := Bool.xor (Bool.xor (hasW W u v 0) (hasW W u v 1)) (Bool.xor (hasW W u v 2) (hasW W u v 3))
theorem par_bite {ts : ByteArray} {W V : WT} {c : UInt8} (H : OkW W) (B : Bite ts W c V) {u v : Int} (hu : 0 ≤ u ∧ u ≤ W.1 - 1) (hv : 0 ≤ v ∧ v ≤ W.2.1 - 1) :
    parW V u v = Bool.xor (parW W u v) (Bool.xor (decide (u = W.2.2.2.2.1 ∧ v = W.2.2.2.2.2.1)) (decide (u = V.2.2.2.2.1 ∧ v = V.2.2.2.2.2.1))) := by
  have hb := fun (way : Int) (h : 0 ≤ way ∧ way ≤ 3) => has_bite H B hu hv h
  obtain ⟨w, h, ri, dn, x, y, wy⟩ := W
  obtain ⟨wz, h1, h2, h3, rfl⟩ := B
  obtain ⟨hw, hh, ⟨hri, hdn⟩, ⟨cri, cdn⟩, hx, hy, hwy⟩ := id H
  obtain ⟨q0, q3⟩ := quartersB_range (c.toNat : Int)
  simp only at hw hh hri hdn hx hy hwy h2 h3 hu hv hb ⊢
  have hz : 0 ≤ wz ∧ wz ≤ 3 := by omega
  clear h2
  have off := moved_off hw hh hx hy hz
  obtain ⟨⟨d1, d2⟩, d3, d4⟩ := dW_range wz
  have gx := go1_in (d := 1 * dxW wz) hx (by omega)
  have gy := go1_in (d := 1 * dyW wz) hy (by omega)
  have hop := opW_range wz
  have e := (edge_iff hw hh hx hy hz gx gy hop).2 (.inr ⟨rfl, rfl, rfl⟩)
  have h4 : hasW (w, h, ri, dn, x, y, wy) (go1 x w (1 * dxW wz)) (go1 y h (1 * dyW wz)) (opW wz) = true := (has_same e).trans h3
  generalize go1 x w (1 * dxW wz) = x' at *
  generalize go1 y h (1 * dyW wz) = y' at *
  unfold parW
  rw [hb 0 (by omega), hb 1 (by omega), hb 2 (by omega), hb 3 (by omega)]
  have c2 : wz = 0 ∨ wz = 1 ∨ wz = 2 ∨ wz = 3 := by omega
  have O : opW 0 = 2 ∧ opW 1 = 3 ∧ opW 2 = 0 ∧ opW 3 = 1 := ⟨rfl, rfl, rfl, rfl⟩
  by_cases P : u = x ∧ v = y
  · obtain ⟨rfl, rfl⟩ := P
    have Q : ∀ p : Prop, ¬ (u = x' ∧ v = y' ∧ p) := fun p q => off ⟨q.1, q.2.1⟩
    simp only [Q, or_false, true_and, and_self, decide_true, decide_eq_false off]
    rcases c2 with rfl | rfl | rfl | rfl <;> simp [h3]
  · have P' : ∀ p : Prop, ¬ (u = x ∧ v = y ∧ p) := fun p q => P ⟨q.1, q.2.1⟩
    by_cases Q : u = x' ∧ v = y'
    · obtain ⟨rfl, rfl⟩ := Q
      simp only [P', false_or, true_and, and_self, decide_true, decide_eq_false P]
      rcases c2 with rfl | rfl | rfl | rfl <;> simp only [O] at h4 ⊢ <;> simp [h4]
    · have Q' : ∀ p : Prop, ¬ (u = x' ∧ v = y' ∧ p) := fun p q => Q ⟨q.1, q.2.1⟩
      simp [P', Q', P, Q]
def backW (W : WT) : Prop := hasW W W.2.2.2.2.1 W.2.2.2.2.2.1 ((W.2.2.2.2.2.2 + 2) % 4) = false
theorem back_bite {ts : ByteArray} {W V : WT} {c : UInt8} (H : OkW W) (HV : OkW V) (B : Bite ts W c V) : backW V := by
  have hw : V.1 = W.1 ∧ V.2.1 = W.2.1 := by obtain ⟨wz, _, _, _, rfl⟩ := B; exact ⟨rfl, rfl⟩
  obtain ⟨_, _, _, _, hx, hy, hwy⟩ := HV
  unfold backW
  rw [opW_eq hwy, has_bite H B (by rw [← hw.1]; exact hx) (by rw [← hw.2]; exact hy) (opW_range _), decide_eq_true (.inr ⟨rfl, rfl, rfl⟩)]
  simp
theorem Lives.home {ts : ByteArray} (t76 : (76 : UInt8) ∈ ts.data.toList) (t78 : (78 : UInt8) ∈ ts.data.toList) (t82 : (82 : UInt8) ∈ ts.data.toList) {W D : WT} {tr ml : List Int} (L : Lives ts W D tr ml) (sx sy : Int) :
    OkW W → (∀ u v, 0 ≤ u ∧ u ≤ W.1 - 1 → 0 ≤ v ∧ v ≤ W.2.1 - 1 → parW W u v = Bool.xor (decide (u = sx ∧ v = sy)) (decide (u = W.2.2.2.2.1 ∧ v = W.2.2.2.2.2.1))) → backW W → D.2.2.2.2.1 = sx ∧ D.2.2.2.2.2.1 = sy := by
  induction L with
  | @dead W h =>
    intro H hp hb
    have s1 := h.2.2 76 t76
    have s2 := h.2.2 78 t78
    have s3 := h.2.2 82 t82
    unfold backW at hb
    obtain ⟨w, h', ri, dn, x, y, wy⟩ := W
    obtain ⟨_, _, _, _, hx, hy, hwy⟩ := H
    have p := hp x y hx hy
    have q1 : quartersB (((76 : UInt8).toNat : Nat) : Int) = 3 := rfl
    have q2 : quartersB (((78 : UInt8).toNat : Nat) : Int) = 0 := rfl
    have q3 : quartersB (((82 : UInt8).toNat : Nat) : Int) = 1 := rfl
    rw [q1] at s1
    rw [q2] at s2
    rw [q3] at s3
    simp only at s1 s2 s3 hb hwy p
    have all : ∀ way, 0 ≤ way ∧ way ≤ 3 → hasW (w, h', ri, dn, x, y, wy) x y way = false := fun way hw => by
      have : way = (wy + 3) % 4 ∨ way = (wy + 0) % 4 ∨ way = (wy + 1) % 4 ∨ way = (wy + 2) % 4 := by omega
      rcases this with e | e | e | e <;> rw [e] <;> assumption
    unfold parW at p
    rw [all 0 (by omega), all 1 (by omega), all 2 (by omega), all 3 (by omega)] at p
    show x = sx ∧ y = sy
    simpa using p
  | @step W V D c tr ml h hl ih =>
    intro H hp hb
    obtain ⟨_, _, HV, _, B⟩ := h
    have hw : V.1 = W.1 ∧ V.2.1 = W.2.1 := by obtain ⟨wz, _, _, _, rfl⟩ := B; exact ⟨rfl, rfl⟩
    refine ih HV (fun u v hu hv => ?_) (back_bite H HV B)
    rw [hw.1] at hu
    rw [hw.2] at hv
    rw [par_bite H B hu hv, hp u v hu hv]
    cases decide (u = sx ∧ v = sy) <;> cases decide (u = W.2.2.2.2.1 ∧ v = W.2.2.2.2.2.1) <;> cases decide (u = V.2.2.2.2.1 ∧ v = V.2.2.2.2.2.1) <;> rfl
theorem all49 {s : ByteArray} (h : ones s = s.size) {i : Nat} (hi : i < s.size) : (bt s i == 49) = true := by
  obtain ⟨c, hc⟩ := byte_at hi
  have h2 := List.count_eq_length.1 (show s.data.toList.count 49 = s.data.toList.length by rw [← size_list]; exact h) c (List.mem_of_getElem? hc)
  rw [bt_at hc, ← h2]
  rfl
theorem fresh_home {ts : ByteArray} (t76 : (76 : UInt8) ∈ ts.data.toList) (t78 : (78 : UInt8) ∈ ts.data.toList) (t82 : (82 : UInt8) ∈ ts.data.toList) {W D : WT} {tr ml : List Int} (L : Lives ts W D tr ml) (H : OkW W) (hf : (onesW W : Int) = 2 * (W.1 * W.2.1)) : nodeW D = nodeW W := by
  have hs := H.2.2.1
  have o1 := ones_le W.2.2.1
  have o2 := ones_le W.2.2.2.1
  have hf' : ((ones W.2.2.1 + ones W.2.2.2.1 : Nat) : Int) = 2 * (W.1 * W.2.1) := hf
  have a1 : ones W.2.2.1 = W.2.2.1.size := by omega
  have a2 : ones W.2.2.2.1 = W.2.2.2.1.size := by omega
  cases L with
  | dead h => rfl
  | @step _ V _ c tr ml h hl =>
    obtain ⟨_, _, HV, _, B⟩ := h
    have hw : V.1 = W.1 ∧ V.2.1 = W.2.1 := by obtain ⟨wz, _, _, _, rfl⟩ := B; exact ⟨rfl, rfl⟩
    have hw3 := H.1
    have hh3 := H.2.1
    have all : ∀ u v way, 0 ≤ u ∧ u ≤ W.1 - 1 → 0 ≤ v ∧ v ≤ W.2.1 - 1 → hasW W u v way = true := fun u v way hu hv => by
      obtain ⟨k1, k2⟩ := lnK_range (w := W.1) (h := W.2.1) (way := way) hu hv (by omega) (by omega)
      unfold hasW hasB
      cases lnD way
      · exact all49 a1 (by omega)
      · exact all49 a2 (by omega)
    obtain ⟨e1, e2⟩ := hl.home t76 t78 t82 W.2.2.2.2.1 W.2.2.2.2.2.1 HV (fun u v hu hv => by
      rw [hw.1] at hu
      rw [hw.2] at hv
      rw [par_bite H B hu hv]
      unfold parW
      rw [all u v 0 hu hv, all u v 1 hu hv, all u v 2 hu hv, all u v 3 hu hv]
      simp) (back_bite H HV B)
    have hD : D.1 = W.1 := by
      have key : ∀ {A B : WT} {tr ml : List Int}, Lives ts A B tr ml → B.1 = A.1 := fun {A B tr ml} L => by
        induction L with
        | dead h => rfl
        | step h hl ih =>
          obtain ⟨_, _, _, _, wz, _, _, _, rfl⟩ := h
          exact ih
      exact (key hl).trans hw.1
    unfold nodeW
    rw [e1, e2, hD]
end Go.Proofs.YtmdgodjcfhimbaaS
