/- Worms: what the functions that lead a life tell. -/
import Derived.Test.YtmdgodjcfhimbaaPuWormDie
namespace Go.Proofs.YtmdgodjcfhimbaaS
open Go
set_option linter.unusedVariables false
set_option linter.unusedSimpArgs false

section
variable (W : WT) (ts : ByteArray) (hr : W.2.2.1.size ≤ 1048576) (hd : W.2.2.2.1.size ≤ 1048576)
include hr hd
theorem askI_ev : EvB (fun k => impl_isTasting k (W, ts)) (OkW W ∧ ts ∈ tasteL) := by
  obtain ⟨w, h, ri, dn, x, y, wy⟩ := W
  exact EvB.step (fun k => impl_isTasting.eq k w h ri dn x y wy ts) (EvB.and (isWorm_ev w h ri dn x y wy hr hd) fun _ => (isTaste_ev ts).ret)
theorem askS_ev : EvB (fun k => spec_wmAsked k (W, ts)) (OkW W ∧ ts ∈ tasteL) := by
  obtain ⟨w, h, ri, dn, x, y, wy⟩ := W
  exact EvB.step (fun k => spec_wmAsked.eq k w h ri dn x y wy ts) (EvB.and (wmGood_ev w h ri dn x y wy hr hd) fun _ => (wmTaste_ev ts).ret)
/-- What all of them tell of a life, and of none. -/
theorem noLife (H : ¬ (OkW W ∧ ts ∈ tasteL)) : (Ev (fun k => impl_LifeOf k (W, ts)) (0, false) ∧ Ev (fun k => spec_LifeOf k (W, ts)) (0, false)) ∧ (Ev (fun k => impl_DeathOf k (W, ts)) (zeroW, false) ∧ Ev (fun k => spec_DeathOf k (W, ts)) (zeroW, false)) ∧
    (Ev (fun k => impl_TrackOfWorm k (W, ts)) ([], false) ∧ Ev (fun k => spec_TrackOfWorm k (W, ts)) ([], false)) ∧ (Ev (fun k => impl_MealsOfWorm k (W, ts)) (ByteArray.empty, false) ∧ Ev (fun k => spec_MealsOfWorm k (W, ts)) (ByteArray.empty, false)) ∧
    (∀ n, Ev (fun k => impl_WormAfter k (W, ts, n)) (zeroW, false) ∧ Ev (fun k => spec_WormAfter k (W, ts, n)) (zeroW, false)) ∧ Ev (fun k => impl_EatLine k (W, ts)) (zeroW, false) ∧ Ev (fun k => spec_EatLine k (W, ts)) (zeroW, false) := by
  have a1 := (askI_ev W ts hr hd).isF H
  have a2 := (askS_ev W ts hr hd).isF H
  obtain ⟨w, h, ri, dn, x, y, wy⟩ := W
  have m1 : Ev (fun k => impl_MealsOfWorm k ((w, h, ri, dn, x, y, wy), ts)) (ByteArray.empty, false) := Ev.step (fun k => impl_MealsOfWorm.eq k w h ri dn x y wy ts) (Ev.bind a1 (Ev.yes rfl (Ev.now _)))
  have n1 : ∀ n, Ev (fun k => impl_WormAfter k ((w, h, ri, dn, x, y, wy), ts, n)) (zeroW, false) := fun n => Ev.step (fun k => impl_WormAfter.eq k w h ri dn x y wy ts n) (Ev.bind a1 (Ev.yes rfl (Ev.now _)))
  exact ⟨⟨Ev.step (fun k => impl_LifeOf.eq k w h ri dn x y wy ts) (Ev.bind m1 (Ev.now _)), Ev.step (fun k => spec_LifeOf.eq k w h ri dn x y wy ts) (Ev.bind a2 (Ev.yes rfl (Ev.now _)))⟩,
    ⟨Ev.step (fun k => impl_DeathOf.eq k w h ri dn x y wy ts) (Ev.bind a1 (Ev.yes rfl (Ev.now _))), Ev.step (fun k => spec_DeathOf.eq k w h ri dn x y wy ts) (Ev.bind a2 (Ev.yes rfl (Ev.now _)))⟩,
    ⟨Ev.step (fun k => impl_TrackOfWorm.eq k w h ri dn x y wy ts) (Ev.bind a1 (Ev.yes rfl (Ev.now _))), Ev.step (fun k => spec_TrackOfWorm.eq k w h ri dn x y wy ts) (Ev.bind a2 (Ev.yes rfl (Ev.now _)))⟩,
    ⟨m1, Ev.step (fun k => spec_MealsOfWorm.eq k w h ri dn x y wy ts) (Ev.bind a2 (Ev.yes rfl (Ev.now _)))⟩,
    fun n => ⟨n1 n, Ev.step (fun k => spec_WormAfter.eq k w h ri dn x y wy ts n) (Ev.bind a2 (Ev.yes rfl (Ev.now _)))⟩,
    Ev.step (fun k => impl_EatLine.eq k w h ri dn x y wy ts) (Ev.bind (n1 1) (Ev.now _)), Ev.step (fun k => spec_EatLine.eq k w h ri dn x y wy ts) (Ev.bind a2 (Ev.yes rfl (Ev.now _)))⟩
end
theorem OkW.size {W : WT} (H : OkW W) : W.2.2.1.size ≤ 1048576 ∧ W.2.2.2.1.size ≤ 1048576 := by
  have hw := H.1
  have hh := H.2.1
  have hs := H.2.2.1
  have hm6 : W.1 * W.2.1 ≤ 36 := by have := Int.mul_le_mul hw.2 hh.2 (by omega) (by omega); omega
  omega
theorem Lives.told {ts : ByteArray} (ht : ts ∈ tasteL) {W D : WT} {tr ml : List Int} (L : Lives ts W D tr ml) (H : OkW W) : (Ev (fun k => impl_LifeOf k (W, ts)) ((ml.length : Int), true) ∧ Ev (fun k => spec_LifeOf k (W, ts)) ((ml.length : Int), true)) ∧
    (Ev (fun k => impl_DeathOf k (W, ts)) (D, true) ∧ Ev (fun k => spec_DeathOf k (W, ts)) (D, true)) ∧ (Ev (fun k => impl_TrackOfWorm k (W, ts)) (nodeW W :: tr, true) ∧ Ev (fun k => spec_TrackOfWorm k (W, ts)) (nodeW W :: tr, true)) ∧
    (Ev (fun k => impl_MealsOfWorm k (W, ts)) (ofBytes ml, true) ∧ Ev (fun k => spec_MealsOfWorm k (W, ts)) (ofBytes ml, true)) := by
  obtain ⟨sr, sd⟩ := H.size
  have a1 := (askI_ev W ts sr sd).isT ⟨H, ht⟩
  have a2 := (askS_ev W ts sr sd).isT ⟨H, ht⟩
  obtain ⟨l1, l2⟩ := L.life H
  obtain ⟨w, h, ri, dn, x, y, wy⟩ := W
  have hz : ((ofBytes ml).size : Int) = (ml.length : Int) := by rw [size_list]; unfold ofBytes; simp
  have m1 : Ev (fun k => impl_MealsOfWorm k ((w, h, ri, dn, x, y, wy), ts)) (ofBytes ml, true) := Ev.step (fun k => impl_MealsOfWorm.eq k w h ri dn x y wy ts) (Ev.bind a1 (Ev.no rfl (Ev.bind l2 (Ev.now _))))
  exact ⟨⟨Ev.step (fun k => impl_LifeOf.eq k w h ri dn x y wy ts) (Ev.bind m1 (Ev.now' (by rw [hz]))), Ev.step (fun k => spec_LifeOf.eq k w h ri dn x y wy ts) (Ev.bind a2 (Ev.no rfl (Ev.bind l1 (Ev.now' (by rw [hz])))))⟩,
    ⟨Ev.step (fun k => impl_DeathOf.eq k w h ri dn x y wy ts) (Ev.bind a1 (Ev.no rfl (Ev.bind l2 (Ev.now _)))), Ev.step (fun k => spec_DeathOf.eq k w h ri dn x y wy ts) (Ev.bind a2 (Ev.no rfl (Ev.bind l1 (Ev.now _))))⟩,
    ⟨Ev.step (fun k => impl_TrackOfWorm.eq k w h ri dn x y wy ts) (Ev.bind a1 (Ev.no rfl (Ev.bind l2 (Ev.now _)))), Ev.step (fun k => spec_TrackOfWorm.eq k w h ri dn x y wy ts) (Ev.bind a2 (Ev.no rfl (Ev.bind l1 (Ev.now _))))⟩,
    ⟨m1, Ev.step (fun k => spec_MealsOfWorm.eq k w h ri dn x y wy ts) (Ev.bind a2 (Ev.no rfl (Ev.bind l1 (Ev.now _))))⟩⟩
/-! ### So many steps -/
inductive Runs (ts : ByteArray) : Nat → WT → Option WT → Prop
  | zero {W : WT} : Runs ts 0 W (some W)
  | stuck {m : Nat} {W : WT} : Stuck ts W → Runs ts (m + 1) W none
  | step {m : Nat} {W V : WT} {c : UInt8} {r : Option WT} : Eats ts W c V → Runs ts m V r → Runs ts (m + 1) W r
theorem runs_ex (ts : ByteArray) (hts : ∀ c ∈ ts.data.toList, c.toNat < 128) (hsz : ts.size ≤ 1048576) : ∀ (m : Nat) (W : WT), OkW W → ∃ r, Runs ts m W r
  | 0, W, H => ⟨_, .zero⟩
  | m + 1, W, H => by
    rcases eat_or ts hts hsz W H with h | ⟨c, V, h⟩
    · exact ⟨_, .stuck h⟩
    · obtain ⟨r, hr⟩ := runs_ex ts hts hsz m V h.2.2.1
      exact ⟨r, .step h hr⟩
theorem Lives.runs {ts : ByteArray} {W D : WT} {tr ml : List Int} (L : Lives ts W D tr ml) : Runs ts ml.length W (some D) := by
  induction L with
  | dead h => exact .zero
  | step h hl ih => exact .step h ih
def outW : Option WT → (WT × Bool) ⊕ (WT × WT) | none => .inl (zeroW, false) | some V => .inr (V, zeroW)
theorem Runs.loops {ts : ByteArray} {m : Nat} {W : WT} {r : Option WT} (R : Runs ts m W r) : ∀ i n : Nat, i + m = n → n ≤ 1000 → Ev (fun k => spec_WormAfter_l k (ts, (m : Int), W, zeroW)) (outW r) ∧ Ev (fun k => impl_WormAfter_l k (ts, W, zeroW, (n : Int), (i : Int))) (outW r) := by
  induction R with
  | @zero W =>
    intro i n hi hn
    obtain ⟨w, h, ri, dn, x, y, wy⟩ := W
    exact ⟨Ev.step (fun k => spec_WormAfter_l.eq k ts 0 w h ri dn x y wy 0 0 ByteArray.empty ByteArray.empty 0 0 0) (Ev.no rfl (Ev.now _)), Ev.step (fun k => impl_WormAfter_l.eq k ts w h ri dn x y wy 0 0 ByteArray.empty ByteArray.empty 0 0 0 (n : Int) (i : Int)) (Ev.no (not_lt_nat (by omega)) (Ev.now _))⟩
  | @stuck m W h =>
    intro i n hi hn
    obtain ⟨w, h', ri, dn, x, y, wy⟩ := W
    exact ⟨Ev.step (fun k => spec_WormAfter_l.eq k ts ((m + 1 : Nat) : Int) w h' ri dn x y wy 0 0 ByteArray.empty ByteArray.empty 0 0 0) (Ev.yes (decide_eq_true (by omega)) (Ev.bind h.1 (Ev.yes (strEq_self _) (Ev.now _)))),
      Ev.step (fun k => impl_WormAfter_l.eq k ts w h' ri dn x y wy 0 0 ByteArray.empty ByteArray.empty 0 0 0 (n : Int) (i : Int)) (Ev.yes (lt_nat (by omega)) (Ev.bind h.2.1 (Ev.yes rfl (Ev.now _))))⟩
  | @step m W V c r h hr ih =>
    intro i n hi hn
    obtain ⟨q1, q2⟩ := ih (i + 1) n (by omega) hn
    obtain ⟨w, h', ri, dn, x, y, wy⟩ := W
    refine ⟨Ev.step (fun k => spec_WormAfter_l.eq k ts ((m + 1 : Nat) : Int) w h' ri dn x y wy 0 0 ByteArray.empty ByteArray.empty 0 0 0) (Ev.yes (decide_eq_true (by omega)) (Ev.bind h.1 (Ev.no (one_byte _) ?_))),
      Ev.step (fun k => impl_WormAfter_l.eq k ts w h' ri dn x y wy 0 0 ByteArray.empty ByteArray.empty 0 0 0 (n : Int) (i : Int)) (Ev.yes (lt_nat (by omega)) (Ev.bind h.2.1 (Ev.no rfl ?_)))⟩
    · rw [show w64 (((m + 1 : Nat) : Int) - 1) = (m : Int) by rw [w64_of (by omega) (by omega)]; omega]
      exact q1
    · rw [w64_succ (by omega)]
      exact q2
def endW : Option WT → WT × Bool | none => (zeroW, false) | some V => (V, true)
theorem Runs.after {ts : ByteArray} (ht : ts ∈ tasteL) {m : Nat} {W : WT} {r : Option WT} (R : Runs ts m W r) (H : OkW W) (hm : m ≤ 100) : Ev (fun k => impl_WormAfter k (W, ts, (m : Int))) (endW r) ∧ Ev (fun k => spec_WormAfter k (W, ts, (m : Int))) (endW r) := by
  obtain ⟨sr, sd⟩ := H.size
  have a1 := (askI_ev W ts sr sd).isT ⟨H, ht⟩
  have a2 := (askS_ev W ts sr sd).isT ⟨H, ht⟩
  obtain ⟨l1, l2⟩ := R.loops 0 m (by omega) (by omega)
  obtain ⟨w, h, ri, dn, x, y, wy⟩ := W
  have b1 := (within_ev (m : Int) 0 100).isT (by omega)
  have b2 := (l1In_ev (m : Int) 0 100).isT (by omega)
  cases r with
  | none => exact ⟨Ev.step (fun k => impl_WormAfter.eq k w h ri dn x y wy ts (m : Int)) (Ev.bind a1 (Ev.no rfl (Ev.bind b1 (Ev.no rfl (Ev.bind l2 (Ev.now _)))))), Ev.step (fun k => spec_WormAfter.eq k w h ri dn x y wy ts (m : Int)) (Ev.bind a2 (Ev.no rfl (Ev.bind b2 (Ev.no rfl (Ev.bind l1 (Ev.now _))))))⟩
  | some V => exact ⟨Ev.step (fun k => impl_WormAfter.eq k w h ri dn x y wy ts (m : Int)) (Ev.bind a1 (Ev.no rfl (Ev.bind b1 (Ev.no rfl (Ev.bind l2 (Ev.now _)))))), Ev.step (fun k => spec_WormAfter.eq k w h ri dn x y wy ts (m : Int)) (Ev.bind a2 (Ev.no rfl (Ev.bind b2 (Ev.no rfl (Ev.bind l1 (Ev.now _))))))⟩
theorem after_out (W : WT) (ts : ByteArray) (n : Int) (hr : W.2.2.1.size ≤ 1048576) (hd : W.2.2.2.1.size ≤ 1048576) (hn : ¬ (0 ≤ n ∧ n ≤ 100)) : Ev (fun k => impl_WormAfter k (W, ts, n)) (zeroW, false) ∧ Ev (fun k => spec_WormAfter k (W, ts, n)) (zeroW, false) := by
  by_cases H : OkW W ∧ ts ∈ tasteL
  · have a1 := (askI_ev W ts hr hd).isT H
    have a2 := (askS_ev W ts hr hd).isT H
    obtain ⟨w, h, ri, dn, x, y, wy⟩ := W
    exact ⟨Ev.step (fun k => impl_WormAfter.eq k w h ri dn x y wy ts n) (Ev.bind a1 (Ev.no rfl (Ev.bind ((within_ev n 0 100).isF hn) (Ev.yes rfl (Ev.now _))))), Ev.step (fun k => spec_WormAfter.eq k w h ri dn x y wy ts n) (Ev.bind a2 (Ev.no rfl (Ev.bind ((l1In_ev n 0 100).isF hn) (Ev.yes rfl (Ev.now _)))))⟩
  · exact (noLife W ts hr hd H).2.2.2.2.1 n
theorem eatLine_ev {ts : ByteArray} (ht : ts ∈ tasteL) {W : WT} (H : OkW W) : (∀ c V, Eats ts W c V → Ev (fun k => impl_EatLine k (W, ts)) (V, true) ∧ Ev (fun k => spec_EatLine k (W, ts)) (V, true)) ∧ (Stuck ts W → Ev (fun k => impl_EatLine k (W, ts)) (zeroW, false) ∧ Ev (fun k => spec_EatLine k (W, ts)) (zeroW, false)) := by
  obtain ⟨sr, sd⟩ := H.size
  have a2 := (askS_ev W ts sr sd).isT ⟨H, ht⟩
  constructor
  · intro c V h
    have q := ((Runs.step h (Runs.zero (ts := ts))).after ht H (by omega)).1
    obtain ⟨w, h', ri, dn, x, y, wy⟩ := W
    exact ⟨Ev.step (fun k => impl_EatLine.eq k w h' ri dn x y wy ts) (Ev.bind q (Ev.now _)), Ev.step (fun k => spec_EatLine.eq k w h' ri dn x y wy ts) (Ev.bind a2 (Ev.no rfl (Ev.bind h.1 (Ev.no (one_byte _) (Ev.now _)))))⟩
  · intro h
    have q := ((Runs.stuck (m := 0) h).after ht H (by omega)).1
    obtain ⟨w, h', ri, dn, x, y, wy⟩ := W
    exact ⟨Ev.step (fun k => impl_EatLine.eq k w h' ri dn x y wy ts) (Ev.bind q (Ev.now _)), Ev.step (fun k => spec_EatLine.eq k w h' ri dn x y wy ts) (Ev.bind a2 (Ev.no rfl (Ev.bind h.1 (Ev.yes (strEq_self _) (Ev.now _)))))⟩
/-! ### Lines left; a line given back -/
theorem left_ev {W : WT} (H : OkW W) : Ev (fun k => impl_LinesLeft k W) ((onesW W : Int), true) := by
  obtain ⟨sr, sd⟩ := H.size
  obtain ⟨w, h, ri, dn, x, y, wy⟩ := W
  have hc : strCount1 (ri ++ dn) (bs [49]) = some ((ones ri + ones dn : Nat) : Int) := by
    show some (((ri ++ dn).data.toList.count 49 : Nat) : Int) = _
    rw [append_list, List.count_append]
    rfl
  have hf : fitS ri dn = true := fitS_of (by simp only at sr sd; omega)
  exact Ev.step (fun k => impl_LinesLeft.eq k w h ri dn x y wy) (Ev.bind ((isWorm_ev w h ri dn x y wy sr sd).isT H) (Ev.no rfl (Ev.yes hf (Ev.bind (a := ((ones ri + ones dn : Nat) : Int)) (Ev.step (fun k => (strings_Count.eq k (ri ++ dn, bs [49])).trans hc) (Ev.now _)) (Ev.now _)))))
theorem set_twice {s : ByteArray} {k : Nat} {c d : UInt8} (h : s.data.toList[k]? = some d) : setByte (setByte s k c) k d = s := by
  apply ba_ext
  unfold setByte
  show ((s.data.toList.set k c).set k d) = s.data.toList
  rw [List.set_set]
  obtain ⟨h1, h2⟩ := List.getElem?_eq_some_iff.1 h
  rw [← h2, List.set_getElem_self]
theorem back_go {n M d : Int} (h : 0 ≤ n ∧ n ≤ M - 1) (hd : d = 1 ∨ d = -1 ∨ d = 0) : go1 (go1 n M d) M (-d) = n := by
  have g1 := go1_in (d := 1) h (by omega)
  have g2 := go1_in (d := -1) h (by omega)
  rcases hd with rfl | rfl | rfl
  · exact ((go1_inv g1 h).1).2 rfl
  · exact ((go1_inv g2 h).2).2 rfl
  · rw [Int.neg_zero, go1_zero h, go1_zero h]
theorem giveBack_ev {ts : ByteArray} (hq : ∀ c ∈ ts.data.toList, quartersB (c.toNat : Int) ≠ 2) {W V : WT} {c : UInt8} (H : OkW W) (E : Eats ts W c V) : Ev (fun k => impl_GiveBack k (V, W.2.2.2.2.2.2)) (W, true) := by
  obtain ⟨_, _, HV, _, B⟩ := E
  obtain ⟨sr, sd⟩ := HV.size
  have hb := has_bite (way := V.2.2.2.2.2.2) H B H.2.2.2.2.1 H.2.2.2.2.2.1 HV.2.2.2.2.2.2
  have hN := node_ev V HV
  obtain ⟨w, h, ri, dn, x, y, wy⟩ := W
  obtain ⟨wz, h1, h2, h3, rfl⟩ := B
  rw [decide_eq_true (.inl ⟨rfl, rfl, rfl⟩)] at hb
  obtain ⟨hw, hh, ⟨hri, hdn⟩, ⟨cri, cdn⟩, hx, hy, hwy⟩ : WormOk w h ri dn x y wy := H
  simp only at h2 h3 hb
  have hz : 0 ≤ wz ∧ wz ≤ 3 := by omega
  have ho := opW_range wz
  have hq' := hq c h1
  obtain ⟨q0, q3⟩ := quartersB_range (c.toNat : Int)
  have hw9 : 1 ≤ w ∧ w ≤ 9 := by omega
  have hh9 : 1 ≤ h ∧ h ≤ 9 := by omega
  obtain ⟨⟨d1, d2⟩, d3, d4⟩ := dW_range wz
  have gx := go1_in (d := 1 * dxW wz) hx (by omega)
  have gy := go1_in (d := 1 * dyW wz) hy (by omega)
  have eo : (w64 (wz + 2)).tmod 4 = opW wz := by rw [w64_of (by omega) (by omega), Int.tmod_eq_emod_of_nonneg (by omega)]; exact opW_eq hz
  have ne : (wy == (w64 (wz + 2)).tmod 4) = false := by
    rw [eo, ← opW_eq hz, beq_eq_false_iff_ne]
    omega
  have hdx : (1 : Int) * dxW (opW wz) = -(1 * dxW wz) ∧ (1 : Int) * dyW (opW wz) = -(1 * dyW wz) ∧ (1 * dxW wz = 1 ∨ 1 * dxW wz = -1 ∨ 1 * dxW wz = 0) ∧ (1 * dyW wz = 1 ∨ 1 * dyW wz = -1 ∨ 1 * dyW wz = 0) := by
    have c2 : wz = 0 ∨ wz = 1 ∨ wz = 2 ∨ wz = 3 := by omega
    rcases c2 with e | e | e | e <;> rw [e] <;> decide
  have hne : (w != 0) = true := by rw [bne_iff_ne]; omega
  have hri' : ((setR w h ri x y wz 0).size : Int) = w * h := HV.2.2.1.1
  have hdn' : ((setD w h dn x y wz 0).size : Int) = w * h := HV.2.2.1.2
  obtain ⟨k1, k2⟩ := lnK_range (w := w) (h := h) (way := wz) hx hy hw9 hh9
  have e49 : UInt8.ofNat ((48 : Int) + 1).toNat = 49 := by decide
  have b49 : ∀ s : ByteArray, (s.size : Int) = w * h → (bt s (lnK w h x y wz).toNat == 49) = true → s.data.toList[(lnK w h x y wz).toNat]? = some 49 := fun s hs hbt => by
    obtain ⟨d, hd⟩ := byte_at (cs := s) (i := (lnK w h x y wz).toNat) (by omega)
    rw [bt_at hd, beq_iff_eq] at hbt
    rw [hd]
    congr 1
    apply UInt8.toNat_inj.1
    show d.toNat = 49
    omega
  have sR : setR w h (setR w h ri x y wz 0) x y wz 1 = ri := by
    unfold hasW hasB at h3
    unfold setR
    cases hD : lnD wz with
    | true => rfl
    | false =>
      rw [hD] at h3
      simp only [Bool.false_eq_true, if_false]
      rw [e49]
      exact set_twice (b49 ri hri h3)
  have sD : setD w h (setD w h dn x y wz 0) x y wz 1 = dn := by
    unfold hasW hasB at h3
    unfold setD
    cases hD : lnD wz with
    | false => rfl
    | true =>
      rw [hD] at h3
      simp only [if_true]
      rw [e49]
      exact set_twice (b49 dn hdn h3)
  obtain ⟨p1, p2⟩ := node_parts w h x y wz hw9 hh9 hx hy hz
  have be := beside_ev w h (setR w h ri x y wz 0) (setD w h dn x y wz 0) (go1 x w (1 * dxW wz)) (go1 y h (1 * dyW wz)) wz (go1 x w (1 * dxW wz)) (go1 y h (1 * dyW wz)) (opW wz) hw9 hh9 gx gy ho
  rw [hdx.1, hdx.2.1, back_go hx hdx.2.2.1, back_go hy hdx.2.2.2] at be
  have th := there_ev w h (setR w h ri x y wz 0) (setD w h dn x y wz 0) (go1 x w (1 * dxW wz)) (go1 y h (1 * dyW wz)) wz x y wz hw9 hh9 hx hy hz hri' hdn'
  have th' : hasB w h (setR w h ri x y wz 0) (setD w h dn x y wz 0) x y wz = false := by
    have hb' : hasB w h (setR w h ri x y wz 0) (setD w h dn x y wz 0) x y wz = (hasB w h ri dn x y wz && !true) := hb
    rw [hb']
    simp
  rw [th'] at th
  have md := made_ev w h (setR w h ri x y wz 0) (setD w h dn x y wz 0) (go1 x w (1 * dxW wz)) (go1 y h (1 * dyW wz)) wz x y wz hw9 hh9 hx hy hz hri' hdn' 1 (by omega)
  rw [sR, sD] at md
  refine Ev.step (fun k => impl_GiveBack.eq k w h (setR w h ri x y wz 0) (setD w h dn x y wz 0) (go1 x w (1 * dxW wz)) (go1 y h (1 * dyW wz)) wz wy) (Ev.bind ((isWorm_ev _ _ _ _ _ _ _ sr sd).isT HV) (Ev.no rfl (Ev.bind (Ev.step (fun k => impl_isWay.eq k wy) ((within_ev wy 0 3).isT hwy |>.bind (Ev.now _))) (Ev.no rfl (Ev.no ne (Ev.bind hN ?_))))))
  rw [eo]
  refine Ev.bind be (Ev.bind th (Ev.no rfl (Ev.bind md (Ev.yes hne (Ev.yes hne (Ev.now' ?_))))))
  simp only [p1, p2]
end Go.Proofs.YtmdgodjcfhimbaaS
