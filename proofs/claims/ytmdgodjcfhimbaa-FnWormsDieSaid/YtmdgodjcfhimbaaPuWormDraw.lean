/- Worms: the draws. -/
import Derived.Test.YtmdgodjcfhimbaaPuWormDie
import Derived.Test.YtmdgodjcfhimbaaPuCur
namespace Go.Proofs.YtmdgodjcfhimbaaS
open Go
set_option linter.unusedVariables false
set_option linter.unusedSimpArgs false

theorem CurOk.mono {n m : Nat} {c : CurT} (h : CurOk n c) (hm : n ≤ m) (h' : m ≤ 1099511627776) : CurOk m c := by
  obtain ⟨h1, ⟨h2, h3⟩, h4⟩ := h
  exact ⟨h1, ⟨h2, by omega⟩, h'⟩
theorem wmOnes_l_ev : ∀ (m : Nat) (out : ByteArray), out.size + m ≤ 1048576 → (∀ c ∈ out.data.toList, c = 49) → ∃ s, Ev (fun k => spec_wmOnes_l k ((m : Int), out)) s ∧ s.size = out.size + m ∧ ∀ c ∈ s.data.toList, c = 49
  | 0, out, h, ho => ⟨out, Ev.step (fun k => spec_wmOnes_l.eq k 0 out) (Ev.no rfl (Ev.now _)), rfl, ho⟩
  | m + 1, out, h, ho => by
    have hz : (out ++ bs [49]).size = out.size + 1 := by rw [ByteArray.size_append]; rfl
    obtain ⟨s, h1, h2, h3⟩ := wmOnes_l_ev m (out ++ bs [49]) (by omega) (fun c hc => by
      rw [append_list] at hc
      rcases List.mem_append.1 hc with hc | hc
      · exact ho c hc
      · simpa [bs] using hc)
    refine ⟨s, Ev.step (fun k => spec_wmOnes_l.eq k ((m + 1 : Nat) : Int) out) (Ev.yes (decide_eq_true (by omega)) (Ev.yes (fitS_of ?_) ?_)), by omega, h3⟩
    · show out.size + 1 < _
      omega
    · rw [show w64 (((m + 1 : Nat) : Int) - 1) = (m : Int) by rw [w64_of (by omega) (by omega)]; omega]
      exact h1
theorem wmOnes_ev (n : Int) (h : 0 ≤ n ∧ n ≤ 1000) : ∃ s, Ev (fun k => spec_wmOnes k n) s ∧ (s.size : Int) = n ∧ ∀ c ∈ s.data.toList, c = 49 := by
  obtain ⟨m, rfl⟩ := Int.eq_ofNat_of_zero_le h.1
  obtain ⟨s, h1, h2, h3⟩ := wmOnes_l_ev m ByteArray.empty (by show 0 + m ≤ _; omega) (fun c hc => by cases hc)
  exact ⟨s, Ev.step (fun k => spec_wmOnes.eq k m) (Ev.bind h1 (Ev.now _)), by rw [h2]; show (((0 : Nat) + m : Nat) : Int) = m; omega, h3⟩
theorem cells_ones {s : ByteArray} (h : ∀ c ∈ s.data.toList, c = 49) : CellsOk 2 s := fun c hc => by
  rw [h c hc]
  decide
theorem eatn_ev (ts : ByteArray) (hts : ∀ c ∈ ts.data.toList, c.toNat < 128) (hsz : ts.size ≤ 1048576) (c : CurT) : ∀ (m : Nat) (W : WT), m ≤ 1000 → OkW W → ∃ V, Ev (fun k => spec_l1Cur_sureWorm_l k (c, zeroW, W, ts, (m : Int), ())) (c, zeroW, V, ()) ∧ OkW V
  | 0, W, hm, H => by
    obtain ⟨code, at_, seed⟩ := c
    obtain ⟨w, h, ri, dn, x, y, wy⟩ := W
    exact ⟨_, Ev.step (fun k => spec_l1Cur_sureWorm_l.eq k code at_ seed 0 0 ByteArray.empty ByteArray.empty 0 0 0 w h ri dn x y wy ts 0) (Ev.no rfl (Ev.now _)), H⟩
  | m + 1, W, hm, H => by
    have e : w64 (((m + 1 : Nat) : Int) - 1) = (m : Int) := by rw [w64_of (by omega) (by omega)]; omega
    have go : ∀ (s : ByteArray) (V : WT), Ev (fun k => spec_wmEat k (W, ts)) (s, V) → OkW V → ∃ V, Ev (fun k => spec_l1Cur_sureWorm_l k (c, zeroW, W, ts, ((m + 1 : Nat) : Int), ())) (c, zeroW, V, ()) ∧ OkW V := fun s V h HV => by
      obtain ⟨U, h1, h2⟩ := eatn_ev ts hts hsz c m V (by omega) HV
      obtain ⟨code, at_, seed⟩ := c
      obtain ⟨w, h', ri, dn, x, y, wy⟩ := W
      refine ⟨U, Ev.step (fun k => spec_l1Cur_sureWorm_l.eq k code at_ seed 0 0 ByteArray.empty ByteArray.empty 0 0 0 w h' ri dn x y wy ts ((m + 1 : Nat) : Int)) (Ev.yes (decide_eq_true (by omega)) (Ev.bind h ?_)), h2⟩
      rw [e]
      exact h1
    rcases eat_or ts hts hsz W H with h | ⟨s, V, h⟩
    · exact go _ _ h.1 H
    · exact go _ _ h.1 h.2.2.1
def SmallW (W : WT) : Prop := W.2.2.1.size ≤ 1000 ∧ W.2.2.2.1.size ≤ 1000
theorem OkW.small {W : WT} (H : OkW W) : W.2.2.1.size ≤ 36 ∧ W.2.2.2.1.size ≤ 36 := by
  have hw := H.1
  have hh := H.2.1
  have hs := H.2.2.1
  have hm6 : W.1 * W.2.1 ≤ 36 := by have := Int.mul_le_mul hw.2 hh.2 (by omega) (by omega); omega
  omega
section
variable (n : Nat) (c : CurT) (H : CurOk n c) (hn : n + 1000 ≤ 1099511627776)
include H hn
theorem taste_ev : ∃ s c', Ev (fun k => spec_l1Cur_taste k c) (s, c') ∧ s ∈ tasteL ∧ CurOk (n + 2) c' := by
  obtain ⟨s, c', h1, h2, h3⟩ := of_ev n c H (by omega) tasteL (by decide)
  obtain ⟨code, at_, seed⟩ := c
  exact ⟨s, c', Ev.step (fun k => spec_l1Cur_taste.eq k code at_ seed) (Ev.bind (Ev.step (fun k => spec_wmTastes.eq k) (Ev.now _)) (Ev.bind h1 (Ev.now _))), h2, h3⟩
theorem sureWorm_ev : ∃ W c', Ev (fun k => spec_l1Cur_sureWorm k c) (W, c') ∧ SmallW W ∧ CurOk (n + 100) c' := by
  obtain ⟨r1, c1, e1, p1, q1, H1⟩ := pick_ev n c H (by omega) 3
  obtain ⟨r2, c2, e2, p2, q2, H2⟩ := pick_ev _ c1 H1 (by omega) 3
  obtain ⟨r3, c3, e3, p3, q3, H3⟩ := pick_ev _ c2 H2 (by omega) 4
  have q1 := q1 (by omega)
  have q2 := q2 (by omega)
  have q3 := q3 (by omega)
  have w1 : w64 (3 + r1) = 3 + r1 := w64_of (by omega) (by omega)
  have w2 : w64 (3 + r2) = 3 + r2 := w64_of (by omega) (by omega)
  obtain ⟨r4, c4, e4, p4, q4, H4⟩ := pick_ev _ c3 H3 (by omega) (3 + r1)
  obtain ⟨r5, c5, e5, p5, q5, H5⟩ := pick_ev _ c4 H4 (by omega) (3 + r2)
  have q4 := q4 (by omega)
  have q5 := q5 (by omega)
  have hm := mul_range (a := 3 + r1) (b := 3 + r2) (by omega) (by omega) (by omega) (by omega)
  have hm6 : (3 + r1) * (3 + r2) ≤ 36 := by have := Int.mul_le_mul (show 3 + r1 ≤ 6 by omega) (show 3 + r2 ≤ 6 by omega) (by omega) (by omega); omega
  have w3 : w64 ((3 + r1) * (3 + r2)) = (3 + r1) * (3 + r2) := w64_of (by omega) (by omega)
  obtain ⟨o, eo, so, ao⟩ := wmOnes_ev ((3 + r1) * (3 + r2)) (by omega)
  obtain ⟨b7, c7, e7, H7⟩ := one_ev _ c5 H5 (by omega) 2
  have W0 : OkW (3 + r1, 3 + r2, o, o, r4, r5, r3) := ⟨by simp only; omega, by simp only; omega, ⟨so, so⟩, ⟨cells_ones ao, cells_ones ao⟩, by simp only; omega, by simp only; omega, by simp only; omega⟩
  have hs1000 : (bs [48, 49]).size = 2 := rfl
  -- the end: spoilt or not
  have tail : ∀ (m : Nat) (W : WT) (c : CurT), OkW W → CurOk m c → m + 200 ≤ 1099511627776 → ∃ b c8, Ev (fun k => spec_l1Cur_one k (c, 4)) (b, c8) ∧ CurOk (m + 2) c8 ∧ ∃ t1 c9 t2 c10 g o2, Ev (fun k => spec_l1Cur_spoilt k (c8, W.2.2.1, bs [48, 49])) (t1, c9) ∧ Ev (fun k => spec_l1Cur_spoilt k (c9, W.2.2.2.1, bs [48, 49])) (t2, c10) ∧
      CurOk (m + 30) c10 ∧ Ev (fun k => spec_wmGood k (W.1, W.2.1, t1, t2, W.2.2.2.2.1, W.2.2.2.2.2.1, W.2.2.2.2.2.2)) g ∧ Ev (fun k => spec_wmOnes k (w64 (W.1 * W.2.1))) o2 ∧ t1.size ≤ 1000 ∧ t2.size ≤ 1000 ∧ o2.size ≤ 1000 := fun m W c HW Hc hm => by
    obtain ⟨b, c8, e8, H8⟩ := one_ev m c Hc (by omega) 4
    have sm := HW.small
    obtain ⟨t1, c9, e9, s9, H9⟩ := spoilt_ev _ c8 W.2.2.1 (bs [48, 49]) H8 (by omega) (by omega) (by rw [hs1000]; omega)
    obtain ⟨t2, c10, e10, s10, H10⟩ := spoilt_ev _ c9 W.2.2.2.1 (bs [48, 49]) H9 (by omega) (by omega) (by rw [hs1000]; omega)
    obtain ⟨g, eg, _⟩ := wmGood_ev W.1 W.2.1 t1 t2 W.2.2.2.2.1 W.2.2.2.2.2.1 W.2.2.2.2.2.2 (by omega) (by omega)
    have hw := HW.1
    have hh := HW.2.1
    have hm := mul_range (a := W.1) (b := W.2.1) (by omega) (by omega) (by omega) (by omega)
    obtain ⟨o2, eo2, so2, _⟩ := wmOnes_ev (w64 (W.1 * W.2.1)) (by rw [w64_of (by omega) (by omega)]; omega)
    rw [w64_of (by omega) (by omega)] at so2
    exact ⟨b, c8, e8, H8, t1, c9, t2, c10, g, o2, e9, e10, H10.mono (by omega) (by omega), eg, eo2, by omega, by omega, by omega⟩
  have start : ∀ r, Ev (fun k => cond b7
   ((spec_l1Cur_taste k c7).bind fun r8 =>
   (spec_l1Cur_pick k (r8.2, 30)).bind fun r9 =>
   (spec_l1Cur_sureWorm_l k (r9.2, (0, 0, ByteArray.empty, ByteArray.empty, 0, 0, 0), (3 + r1, 3 + r2, o, o, r4, r5, r3), r8.1, r9.1, ())).bind fun r10 =>
   (spec_l1Cur_one k (r10.1, 4)).bind fun r11 =>
   cond r11.1
   ((spec_l1Cur_spoilt k (r11.2, r10.2.2.1.2.2.1, (bs [48, 49]))).bind fun r12 =>
    (spec_l1Cur_spoilt k (r12.2, r10.2.2.1.2.2.2.1, (bs [48, 49]))).bind fun r13 =>
    (spec_wmGood k (r10.2.2.1.1, r10.2.2.1.2.1, r12.1, r13.1, r10.2.2.1.2.2.2.2.1, r10.2.2.1.2.2.2.2.2.1, r10.2.2.1.2.2.2.2.2.2)).bind fun r14 =>
    cond (!r14)
    ((spec_wmOnes k (w64 (r10.2.2.1.1 * r10.2.2.1.2.1))).bind fun r15 =>
     some ((r10.2.2.1.1, r10.2.2.1.2.1, r15, r15, r10.2.2.1.2.2.2.2.1, r10.2.2.1.2.2.2.2.2.1, r10.2.2.1.2.2.2.2.2.2), r13.2))
    (some ((r10.2.2.1.1, r10.2.2.1.2.1, r12.1, r13.1, r10.2.2.1.2.2.2.2.1, r10.2.2.1.2.2.2.2.2.1, r10.2.2.1.2.2.2.2.2.2), r13.2)))
   (some (r10.2.2.1, r11.2)))
  ((spec_l1Cur_one k (c7, 4)).bind fun r16 =>
   cond r16.1
   ((spec_l1Cur_spoilt k (r16.2, o, (bs [48, 49]))).bind fun r17 =>
    (spec_l1Cur_spoilt k (r17.2, o, (bs [48, 49]))).bind fun r18 =>
    (spec_wmGood k (3 + r1, 3 + r2, r17.1, r18.1, r4, r5, r3)).bind fun r19 =>
    cond (!r19)
    ((spec_wmOnes k ((3 + r1) * (3 + r2))).bind fun r20 =>
     some ((3 + r1, 3 + r2, r20, r20, r4, r5, r3), r18.2))
    (some ((3 + r1, 3 + r2, r17.1, r18.1, r4, r5, r3), r18.2)))
   (some ((3 + r1, 3 + r2, o, o, r4, r5, r3), r16.2)))) r → Ev (fun k => spec_l1Cur_sureWorm k c) r := fun r h => by
    obtain ⟨code, at_, seed⟩ := c
    refine Ev.step (fun k => spec_l1Cur_sureWorm.eq k code at_ seed) (Ev.bind e1 (Ev.bind e2 (Ev.bind e3 ?_)))
    simp only [w1, w2]
    refine Ev.bind e4 (Ev.bind e5 ?_)
    rw [w3]
    refine Ev.bind eo (Ev.bind e7 ?_)
    exact h
  cases b7 with
  | true =>
    obtain ⟨ts, c8, e8, hts, H8⟩ := of_ev _ c7 H7 (by omega) tasteL (by decide)
    have e8' : Ev (fun k => spec_l1Cur_taste k c7) (ts, c8) := by
      obtain ⟨code, at_, seed⟩ := c7
      exact Ev.step (fun k => spec_l1Cur_taste.eq k code at_ seed) (Ev.bind (Ev.step (fun k => spec_wmTastes.eq k) (Ev.now _)) (Ev.bind e8 (Ev.now _)))
    obtain ⟨t1, t2⟩ := tasteL_ok ts hts
    obtain ⟨r9, c9, e9, p9, q9, H9⟩ := pick_ev _ c8 H8 (by omega) 30
    have q9 := q9 (by omega)
    obtain ⟨m, rfl⟩ := Int.eq_ofNat_of_zero_le p9
    obtain ⟨V, eV, HV⟩ := eatn_ev ts t1 t2 c9 m _ (by omega) W0
    obtain ⟨b, c10, e10, H10, s1, c11, s2, c12, g, o2, g1, g2, g3, g4, g5, z1, z2, z3⟩ := tail _ V c9 HV H9 (by omega)
    have go := fun r h => start r (Ev.yes rfl (Ev.bind e8' (Ev.bind e9 (Ev.bind eV (Ev.bind e10 h)))))
    have sm := HV.small
    cases b with
    | true =>
      cases g with
      | true => exact ⟨_, _, go _ (Ev.yes rfl (Ev.bind g1 (Ev.bind g2 (Ev.bind g4 (Ev.no rfl (Ev.now _)))))), ⟨z1, z2⟩, g3.mono (by omega) (by omega)⟩
      | false => exact ⟨_, _, go _ (Ev.yes rfl (Ev.bind g1 (Ev.bind g2 (Ev.bind g4 (Ev.yes rfl (Ev.bind g5 (Ev.now _))))))), ⟨z3, z3⟩, g3.mono (by omega) (by omega)⟩
    | false => exact ⟨_, _, go _ (Ev.no rfl (Ev.now _)), ⟨by show V.2.2.1.size ≤ 1000; omega, by show V.2.2.2.1.size ≤ 1000; omega⟩, H10.mono (by omega) (by omega)⟩
  | false =>
    obtain ⟨b, c10, e10, H10, s1, c11, s2, c12, g, o2, g1, g2, g3, g4, g5, z1, z2, z3⟩ := tail _ _ c7 W0 H7 (by omega)
    have g5 : Ev (fun k => spec_wmOnes k ((3 + r1) * (3 + r2))) o2 := by
      rw [← w3]
      exact g5
    have go := fun r h => start r (Ev.no rfl (Ev.bind e10 h))
    cases b with
    | true =>
      cases g with
      | true => exact ⟨_, _, go _ (Ev.yes rfl (Ev.bind g1 (Ev.bind g2 (Ev.bind g4 (Ev.no rfl (Ev.now _)))))), ⟨z1, z2⟩, g3.mono (by omega) (by omega)⟩
      | false => exact ⟨_, _, go _ (Ev.yes rfl (Ev.bind g1 (Ev.bind g2 (Ev.bind g4 (Ev.yes rfl (Ev.bind g5 (Ev.now _))))))), ⟨z3, z3⟩, g3.mono (by omega) (by omega)⟩
    | false => exact ⟨_, _, go _ (Ev.no rfl (Ev.now _)), ⟨by show o.size ≤ 1000; omega, by show o.size ≤ 1000; omega⟩, H10.mono (by omega) (by omega)⟩
theorem worm_ev : ∃ W c', Ev (fun k => spec_l1Cur_worm k c) (W, c') ∧ (W.2.2.1.size ≤ 2000 ∧ W.2.2.2.1.size ≤ 2000) ∧ CurOk (n + 200) c' := by
  obtain ⟨W, c1, e1, sm, H1⟩ := sureWorm_ev n c H hn
  obtain ⟨s1, s2⟩ := sm
  obtain ⟨r, c2, e2, p, q, H2⟩ := pick_ev _ c1 H1 (by omega) 18
  obtain ⟨a, c3, e3, _, H3⟩ := among_ev _ c2 H2 (by omega) [(-1), 0, 2, 6, 7, 4611686018427387904] (by decide)
  obtain ⟨a', c3', e3', _, H3'⟩ := among_ev _ c2 H2 (by omega) [(-1), 4] (by decide)
  have h3 : (bs [48, 49, 50]).size = 3 := rfl
  obtain ⟨t, c4, e4, s4, H4⟩ := spoilt_ev _ c2 W.2.2.2.1 (bs [48, 49, 50]) H2 (by omega) (by omega) (by rw [h3]; omega)
  obtain ⟨code, at_, seed⟩ := c
  have hz : (W.2.2.1 ++ bs [49]).size = W.2.2.1.size + 1 := by rw [ByteArray.size_append]; rfl
  by_cases r0 : r = 0
  · exact ⟨_, _, Ev.step (fun k => spec_l1Cur_worm.eq k code at_ seed) (Ev.bind e1 <| Ev.bind e2 <| Ev.yes (beq_iff_eq.2 r0) (Ev.bind e3 (Ev.now _))), ⟨by simp only; omega, by simp only; omega⟩, H3.mono (by omega) (by omega)⟩
  · have n0 := beq_eq_false_iff_ne.2 r0
    by_cases r1 : r = 1
    · exact ⟨_, _, Ev.step (fun k => spec_l1Cur_worm.eq k code at_ seed) (Ev.bind e1 <| Ev.bind e2 <| Ev.no n0 (Ev.yes (beq_iff_eq.2 r1) (Ev.yes (fitS_of (by show W.2.2.1.size + 1 < _; omega)) (Ev.now _)))), ⟨by simp only; omega, by simp only; omega⟩, H2.mono (by omega) (by omega)⟩
    · have n1 := beq_eq_false_iff_ne.2 r1
      by_cases r2 : r = 2
      · exact ⟨_, _, Ev.step (fun k => spec_l1Cur_worm.eq k code at_ seed) (Ev.bind e1 <| Ev.bind e2 <| Ev.no n0 (Ev.no n1 (Ev.yes (beq_iff_eq.2 r2) (Ev.bind e3' (Ev.now _))))), ⟨by simp only; omega, by simp only; omega⟩, H3'.mono (by omega) (by omega)⟩
      · have n2 := beq_eq_false_iff_ne.2 r2
        by_cases r3 : r = 3
        · exact ⟨_, _, Ev.step (fun k => spec_l1Cur_worm.eq k code at_ seed) (Ev.bind e1 <| Ev.bind e2 <| Ev.no n0 (Ev.no n1 (Ev.no n2 (Ev.yes (beq_iff_eq.2 r3) (Ev.bind e4 (Ev.now _)))))), ⟨by simp only; omega, by simp only; omega⟩, H4.mono (by omega) (by omega)⟩
        · exact ⟨_, _, Ev.step (fun k => spec_l1Cur_worm.eq k code at_ seed) (Ev.bind e1 <| Ev.bind e2 <| Ev.no n0 (Ev.no n1 (Ev.no n2 (Ev.no (beq_eq_false_iff_ne.2 r3) (Ev.now _))))), ⟨by simp only; omega, by simp only; omega⟩, H2.mono (by omega) (by omega)⟩
end
theorem eater_ev (n : Nat) (c : CurT) (H : CurOk n c) (hn : n + 3000 ≤ 1099511627776) : ∃ W ts c', Ev (fun k => spec_l1Cur_eater k c) ((W, ts), c') ∧ (W.2.2.1.size ≤ 2000 ∧ W.2.2.2.1.size ≤ 2000) ∧ CurOk (n + 300) c' := by
  obtain ⟨b, c1, e1, H1⟩ := one_ev n c H (by omega) 16
  obtain ⟨W, c2, e2, sm, H2⟩ := worm_ev _ c1 H1 (by omega)
  obtain ⟨s, c3, e3, _, H3⟩ := of_ev _ c2 H2 (by omega) [ByteArray.empty, (bs [76, 78, 78]), (bs [76, 78, 82, 85]), (bs [108, 110, 114]), (bs [76, 78])] (by decide)
  obtain ⟨s', c3', e3', _, H3'⟩ := taste_ev _ c2 H2 (by omega)
  obtain ⟨code, at_, seed⟩ := c
  cases b with
  | true => exact ⟨W, s, _, Ev.step (fun k => spec_l1Cur_eater.eq k code at_ seed) (Ev.bind e1 <| Ev.yes rfl (Ev.bind e2 (Ev.bind e3 (Ev.now _)))), sm, H3.mono (by omega) (by omega)⟩
  | false => exact ⟨W, s', _, Ev.step (fun k => spec_l1Cur_eater.eq k code at_ seed) (Ev.bind e1 <| Ev.no rfl (Ev.bind e2 (Ev.bind e3' (Ev.now _)))), sm, H3'.mono (by omega) (by omega)⟩
end Go.Proofs.YtmdgodjcfhimbaaS
