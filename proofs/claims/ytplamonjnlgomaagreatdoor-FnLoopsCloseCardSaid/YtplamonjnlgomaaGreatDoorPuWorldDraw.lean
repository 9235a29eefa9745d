/- Worlds: the draws. -/
import Derived.Test.YtplamonjnlgomaaGreatDoorPuStep
import Derived.Test.YtplamonjnlgomaaGreatDoorPuCur
namespace Go.Proofs.YtplamonjnlgomaaGreatDoorS
open Go
set_option linter.unusedVariables false
set_option linter.unusedSimpArgs false

theorem CurOk.mono {n m : Nat} {c : CurT} (h : CurOk n c) (hm : n ≤ m) (h' : m ≤ 1099511627776) : CurOk m c := by
  obtain ⟨h1, ⟨h2, h3⟩, h4⟩ := h
  exact ⟨h1, ⟨h2, by omega⟩, h'⟩
theorem sureRule_l_ev : ∀ (m n : Nat) (c : CurT) (out : ByteArray), CurOk n c → n + 2 * m + 100 ≤ 1099511627776 → out.size + m ≤ 1000 → (∀ b ∈ out.data.toList, SignC b) → ∃ s c', Ev (fun k => spec_l1Cur_sureRule_l k (c, out, (m : Int), ())) (s, c') ∧ s.size = out.size + m ∧ (∀ b ∈ s.data.toList, SignC b) ∧ CurOk (n + 2 * m) c'
  | 0, n, c, out, H, hn, ho, hs => by
    obtain ⟨code, at_, seed⟩ := c
    exact ⟨out, _, Ev.step (fun k => spec_l1Cur_sureRule_l.eq k code at_ seed out 0) (Ev.no rfl (Ev.now _)), rfl, hs, H⟩
  | m + 1, n, c, out, H, hn, ho, hs => by
    obtain ⟨t, c1, e1, ht, H1⟩ := of_ev n c H (by omega) [(bs [76]), (bs [82]), (bs [76]), (bs [82]), (bs [78]), (bs [85])] (by decide)
    have h2 : t.size = 1 ∧ ∀ b ∈ t.data.toList, SignC b := by
      simp only [List.mem_cons, List.not_mem_nil, or_false] at ht
      rcases ht with rfl | rfl | rfl | rfl | rfl | rfl <;> exact ⟨rfl, fun b hb => by simp [bs] at hb; subst hb; simp [SignC]⟩
    have hz : (out ++ t).size = out.size + 1 := by rw [ByteArray.size_append, h2.1]
    obtain ⟨s, c2, e2, s1, s2, H2⟩ := sureRule_l_ev m (n + 2) c1 (out ++ t) H1 (by omega) (by omega) (fun b hb => by
      rw [append_list] at hb
      rcases List.mem_append.1 hb with hb | hb
      · exact hs b hb
      · exact h2.2 b hb)
    obtain ⟨code, at_, seed⟩ := c
    refine ⟨s, c2, Ev.step (fun k => spec_l1Cur_sureRule_l.eq k code at_ seed out ((m + 1 : Nat) : Int)) (Ev.yes (decide_eq_true (by omega)) (Ev.bind e1 (Ev.yes (fitS_of (by show out.size + t.size < _; omega)) ?_))), by omega, s2, by rw [show n + 2 * (m + 1) = n + 2 + 2 * m by omega]; exact H2⟩
    rw [show w64 (((m + 1 : Nat) : Int) - 1) = (m : Int) by rw [w64_of (by omega) (by omega)]; omega]
    exact e2
theorem sureRule_ev (n : Nat) (c : CurT) (H : CurOk n c) (hn : n + 200 ≤ 1099511627776) : ∃ s c', Ev (fun k => spec_l1Cur_sureRule k c) (s, c') ∧ RuleOk s ∧ s.size ≤ 4 ∧ CurOk (n + 20) c' := by
  obtain ⟨b, c1, e1, H1⟩ := one_ev n c H (by omega) 3
  obtain ⟨r, c2, e2, r0, r1, H2⟩ := pick_ev _ c1 H1 (by omega) 4
  have r1 := r1 (by omega)
  obtain ⟨m, hm⟩ : ∃ m : Nat, 1 + r = (m : Int) := ⟨(1 + r).toNat, by omega⟩
  obtain ⟨s, c3, e3, s1, s2, H3⟩ := sureRule_l_ev m _ c2 ByteArray.empty H2 (by omega) (by show 0 + m ≤ _; omega) (fun b hb => by cases hb)
  have e4 : w64 (1 + r) = (m : Int) := by rw [w64_of (by omega) (by omega), hm]
  have s1 : s.size = 0 + m := s1
  obtain ⟨code, at_, seed⟩ := c
  cases b with
  | true => exact ⟨_, _, Ev.step (fun k => spec_l1Cur_sureRule.eq k code at_ seed) (Ev.bind e1 (Ev.yes rfl (Ev.now _))), ⟨by decide, fun b hb => by simp [bs] at hb; rcases hb with rfl | rfl <;> simp [SignC]⟩, by decide, H1.mono (by omega) (by omega)⟩
  | false =>
    refine ⟨s, c3, Ev.step (fun k => spec_l1Cur_sureRule.eq k code at_ seed) (Ev.bind e1 (Ev.no rfl (Ev.bind e2 ?_))), ⟨by omega, s2⟩, by omega, H3.mono (by omega) (by omega)⟩
    simp only [e4]
    exact Ev.bind e3 (Ev.now _)
theorem rule_ev (n : Nat) (c : CurT) (H : CurOk n c) (hn : n + 300 ≤ 1099511627776) : ∃ s c', Ev (fun k => spec_l1Cur_rule k c) (s, c') ∧ s.size ≤ 10 ∧ CurOk (n + 30) c' := by
  obtain ⟨b, c1, e1, H1⟩ := one_ev n c H (by omega) 12
  obtain ⟨t, c2, e2, ht, H2⟩ := of_ev _ c1 H1 (by omega) [ByteArray.empty, (bs [76, 82, 76, 82, 76, 82, 76]), (bs [88]), (bs [108, 114]), (bs [76, 32, 82])] (by decide)
  obtain ⟨s, c3, e3, _, s4, H3⟩ := sureRule_ev _ c1 H1 (by omega)
  have h2 : t.size ≤ 10 := by
    simp only [List.mem_cons, List.not_mem_nil, or_false] at ht
    rcases ht with rfl | rfl | rfl | rfl | rfl <;> decide
  obtain ⟨code, at_, seed⟩ := c
  cases b with
  | true => exact ⟨t, _, Ev.step (fun k => spec_l1Cur_rule.eq k code at_ seed) (Ev.bind e1 (Ev.yes rfl (Ev.bind e2 (Ev.now _)))), h2, H2.mono (by omega) (by omega)⟩
  | false => exact ⟨s, _, Ev.step (fun k => spec_l1Cur_rule.eq k code at_ seed) (Ev.bind e1 (Ev.no rfl (Ev.bind e3 (Ev.now _)))), by omega, H3.mono (by omega) (by omega)⟩
theorem sureWorld_l_ev (rl : ByteArray) (hrl : 1 ≤ rl.size ∧ rl.size ≤ 6) (w h : Int) (blank : Bool) : ∀ (m n : Nat) (c : CurT) (out : ByteArray), CurOk n c → n + 2 * m + 100 ≤ 1099511627776 → out.size + m ≤ 1000 → CellsOk (rl.size : Int) out →
    ∃ s c', Ev (fun k => spec_l1Cur_sureWorld_l k (c, zeroO, (rl, w, h, out, 0, 0, 0), blank, (m : Int), ())) (c', zeroO, (rl, w, h, s, 0, 0, 0), ()) ∧ s.size = out.size + m ∧ CellsOk (rl.size : Int) s ∧ CurOk (n + 2 * m) c'
  | 0, n, c, out, H, hn, ho, hs => by
    obtain ⟨code, at_, seed⟩ := c
    exact ⟨out, _, Ev.step (fun k => spec_l1Cur_sureWorld_l.eq k code at_ seed ByteArray.empty 0 0 ByteArray.empty 0 0 0 rl w h out 0 0 0 blank 0) (Ev.no rfl (Ev.now _)), rfl, hs, H⟩
  | m + 1, n, c, out, H, hn, ho, hs => by
    obtain ⟨r, c1, e1, r0, r1, H1⟩ := pick_ev n c H (by omega) (rl.size : Int)
    have r1 := r1 (by omega)
    have eN := l1Num_ev r (by omega)
    have em : w64 (((m + 1 : Nat) : Int) - 1) = (m : Int) := by rw [w64_of (by omega) (by omega)]; omega
    have app : ∀ p : Int, 0 ≤ p ∧ p ≤ (rl.size : Int) - 1 → CellsOk (rl.size : Int) (out ++ ofBytes [48 + p]) := fun p hp b hb => by
      rw [append_list] at hb
      rcases List.mem_append.1 hb with hb | hb
      · exact hs b hb
      · have hb : b = UInt8.ofNat (48 + p).toNat := by simpa [ofBytes] using hb
        rw [hb, toNat_ofNat8 (by omega)]
        omega
    have hz : ∀ p : Int, (out ++ ofBytes [48 + p]).size = out.size + 1 := fun p => by rw [ByteArray.size_append]; rfl
    cases blank with
    | true =>
      obtain ⟨s, c2, e2, s1, s2, H2⟩ := sureWorld_l_ev rl hrl w h true m (n + 2) c (out ++ ofBytes [48 + 0]) (H.mono (by omega) (by omega)) (by omega) (by rw [hz]; omega) (app 0 (by omega))
      rw [hz] at s1
      obtain ⟨code, at_, seed⟩ := c
      refine ⟨s, c2, Ev.step (fun k => spec_l1Cur_sureWorld_l.eq k code at_ seed ByteArray.empty 0 0 ByteArray.empty 0 0 0 rl w h out 0 0 0 true ((m + 1 : Nat) : Int)) (Ev.yes (decide_eq_true (by omega)) (Ev.yes rfl (Ev.yes (fitS_of (by show out.size + 1 < _; omega)) ?_))), by omega, s2, by rw [show n + 2 * (m + 1) = n + 2 + 2 * m by omega]; exact H2⟩
      rw [em]
      exact e2
    | false =>
      obtain ⟨s, c2, e2, s1, s2, H2⟩ := sureWorld_l_ev rl hrl w h false m (n + 2) c1 (out ++ ofBytes [48 + r]) H1 (by omega) (by rw [hz]; omega) (app r (by omega))
      rw [hz] at s1
      obtain ⟨code, at_, seed⟩ := c
      refine ⟨s, c2, Ev.step (fun k => spec_l1Cur_sureWorld_l.eq k code at_ seed ByteArray.empty 0 0 ByteArray.empty 0 0 0 rl w h out 0 0 0 false ((m + 1 : Nat) : Int)) (Ev.yes (decide_eq_true (by omega)) (Ev.no rfl (Ev.bind e1 (Ev.bind eN (Ev.yes (fitS_of (by show out.size + 1 < _; omega)) ?_))))), by omega, s2, by rw [show n + 2 * (m + 1) = n + 2 + 2 * m by omega]; exact H2⟩
      rw [em]
      exact e2
theorem sureWorld_ev (n : Nat) (c : CurT) (H : CurOk n c) (hn : n + 1000 ≤ 1099511627776) (most : Int) (hmost : 1 ≤ most ∧ most ≤ 9) : ∃ W c', Ev (fun k => spec_l1Cur_sureWorld k (c, most)) (W, c') ∧ OkO W ∧ (W.2.1 ≤ most ∧ W.2.2.1 ≤ most) ∧ CurOk (n + 300) c' := by
  obtain ⟨rl, c1, e1, hR, hr4, H1⟩ := sureRule_ev n c H (by omega)
  obtain ⟨r2, c2, e2, p2, q2, H2⟩ := pick_ev _ c1 H1 (by omega) most
  obtain ⟨r3, c3, e3, p3, q3, H3⟩ := pick_ev _ c2 H2 (by omega) most
  have q2 := q2 hmost.1
  have q3 := q3 hmost.1
  obtain ⟨b, c4, e4, H4⟩ := one_ev _ c3 H3 (by omega) 2
  have w2 : w64 (1 + r2) = 1 + r2 := w64_of (by omega) (by omega)
  have w3 : w64 (1 + r3) = 1 + r3 := w64_of (by omega) (by omega)
  have hm := mul_range (a := 1 + r2) (b := 1 + r3) (by omega) (by omega) (by omega) (by omega)
  obtain ⟨m, em⟩ : ∃ m : Nat, (1 + r2) * (1 + r3) = (m : Int) := ⟨((1 + r2) * (1 + r3)).toNat, by omega⟩
  obtain ⟨s, c5, e5, s1, s2, H5⟩ := sureWorld_l_ev rl hR.1 (1 + r2) (1 + r3) b m _ c4 ByteArray.empty H4 (by omega) (by show 0 + m ≤ _; omega) (fun b hb => by cases hb)
  have s1 : s.size = 0 + m := s1
  obtain ⟨r6, c6, e6, p6, q6, H6⟩ := pick_ev _ c5 H5 (by omega) (1 + r2)
  obtain ⟨r7, c7, e7, p7, q7, H7⟩ := pick_ev _ c6 H6 (by omega) (1 + r3)
  obtain ⟨r8, c8, e8, p8, q8, H8⟩ := pick_ev _ c7 H7 (by omega) 4
  have q6 := q6 (by omega)
  have q7 := q7 (by omega)
  have q8 := q8 (by omega)
  obtain ⟨code, at_, seed⟩ := c
  refine ⟨(rl, 1 + r2, 1 + r3, s, r6, r7, r8), c8, Ev.step (fun k => spec_l1Cur_sureWorld.eq k code at_ seed most) (Ev.bind e1 (Ev.bind e2 (Ev.bind e3 (Ev.bind e4 ?_)))), ⟨hR, by simp only; omega, by simp only; omega, by simp only; omega, s2, by simp only; omega, by simp only; omega, by simp only; omega⟩, ⟨by simp only; omega, by simp only; omega⟩, H8.mono (by omega) (by omega)⟩
  have wm2 : w64 (m : Int) = (m : Int) := w64_of (by omega) (by omega)
  simp only [w2, w3, em, wm2]
  exact Ev.bind e5 (Ev.bind e6 (Ev.bind e7 (Ev.bind e8 (Ev.now _))))
theorem world_ev (n : Nat) (c : CurT) (H : CurOk n c) (hn : n + 2000 ≤ 1099511627776) : ∃ W c', Ev (fun k => spec_l1Cur_world k c) (W, c') ∧ (W.1.size ≤ 1000 ∧ W.2.2.2.1.size ≤ 1000) ∧ CurOk (n + 400) c' := by
  obtain ⟨W, c1, e1, HW, _, H1⟩ := sureWorld_ev n c H (by omega) 5 (by omega)
  obtain ⟨s1, s2⟩ := okO_size HW
  obtain ⟨r, c2, e2, p, q, H2⟩ := pick_ev _ c1 H1 (by omega) 18
  obtain ⟨rl, c3, e3, hrl, H3⟩ := rule_ev _ c2 H2 (by omega)
  obtain ⟨a, c4, e4, _, H4⟩ := among_ev _ c2 H2 (by omega) [0, 1, 10, (-1), 4611686018427387904] (by decide)
  obtain ⟨t, c5, e5, ht, H5⟩ := of_ev _ c2 H2 (by omega) [(bs [48]), ByteArray.empty, (bs [55])] (by decide)
  have ht1 : t.size ≤ 1 := by
    simp only [List.mem_cons, List.not_mem_nil, or_false] at ht
    rcases ht with rfl | rfl | rfl <;> decide
  obtain ⟨a6, c6, e6, _, H6⟩ := among_ev _ c2 H2 (by omega) [(-1), 0, 9, 4611686018427387904] (by decide)
  obtain ⟨a7, c7, e7, _, H7⟩ := among_ev _ c6 H6 (by omega) [0, 4, (-1), 3] (by decide)
  have hz : (W.2.2.2.1 ++ t).size = W.2.2.2.1.size + t.size := ByteArray.size_append
  obtain ⟨code, at_, seed⟩ := c
  by_cases r0 : r = 0
  · exact ⟨_, _, Ev.step (fun k => spec_l1Cur_world.eq k code at_ seed) (Ev.bind e1 <| Ev.bind e2 <| Ev.yes (beq_iff_eq.2 r0) (Ev.bind e3 (Ev.now _))), ⟨by simp only; omega, by simp only; omega⟩, H3.mono (by omega) (by omega)⟩
  · have n0 := beq_eq_false_iff_ne.2 r0
    by_cases r1 : r = 1
    · exact ⟨_, _, Ev.step (fun k => spec_l1Cur_world.eq k code at_ seed) (Ev.bind e1 <| Ev.bind e2 <| Ev.no n0 (Ev.yes (beq_iff_eq.2 r1) (Ev.bind e4 (Ev.now _)))), ⟨by simp only; omega, by simp only; omega⟩, H4.mono (by omega) (by omega)⟩
    · have n1 := beq_eq_false_iff_ne.2 r1
      by_cases r2 : r = 2
      · exact ⟨_, _, Ev.step (fun k => spec_l1Cur_world.eq k code at_ seed) (Ev.bind e1 <| Ev.bind e2 <| Ev.no n0 (Ev.no n1 (Ev.yes (beq_iff_eq.2 r2) (Ev.bind e5 (Ev.yes (fitS_of (by simp only; omega)) (Ev.now _)))))), ⟨by simp only; omega, by simp only; omega⟩, H5.mono (by omega) (by omega)⟩
      · have n2 := beq_eq_false_iff_ne.2 r2
        by_cases r3 : r = 3
        · exact ⟨_, _, Ev.step (fun k => spec_l1Cur_world.eq k code at_ seed) (Ev.bind e1 <| Ev.bind e2 <| Ev.no n0 (Ev.no n1 (Ev.no n2 (Ev.yes (beq_iff_eq.2 r3) (Ev.bind e6 (Ev.bind e7 (Ev.now _))))))), ⟨by simp only; omega, by simp only; omega⟩, H7.mono (by omega) (by omega)⟩
        · exact ⟨_, _, Ev.step (fun k => spec_l1Cur_world.eq k code at_ seed) (Ev.bind e1 <| Ev.bind e2 <| Ev.no n0 (Ev.no n1 (Ev.no n2 (Ev.no (beq_eq_false_iff_ne.2 r3) (Ev.now _))))), ⟨by simp only; omega, by simp only; omega⟩, H2.mono (by omega) (by omega)⟩
theorem steps_ev (n : Nat) (c : CurT) (H : CurOk n c) (hn : n + 100 ≤ 1099511627776) : ∃ s c', Ev (fun k => spec_l1Cur_steps k c) (s, c') ∧ CurOk (n + 10) c' := by
  obtain ⟨b, c1, e1, H1⟩ := one_ev n c H (by omega) 8
  obtain ⟨a, c2, e2, _, H2⟩ := among_ev _ c1 H1 (by omega) [0, 1, 3000, 3001, (-1), 4611686018427387904] (by decide)
  obtain ⟨r, c3, e3, _, _, H3⟩ := pick_ev _ c1 H1 (by omega) 60
  obtain ⟨code, at_, seed⟩ := c
  cases b with
  | true => exact ⟨_, _, Ev.step (fun k => spec_l1Cur_steps.eq k code at_ seed) (Ev.bind e1 (Ev.yes rfl (Ev.bind e2 (Ev.now _)))), H2.mono (by omega) (by omega)⟩
  | false => exact ⟨_, _, Ev.step (fun k => spec_l1Cur_steps.eq k code at_ seed) (Ev.bind e1 (Ev.no rfl (Ev.bind e3 (Ev.now _)))), H3.mono (by omega) (by omega)⟩
end Go.Proofs.YtplamonjnlgomaaGreatDoorS
