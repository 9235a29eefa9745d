/- Several texts in one: PuCur, PuWorldDraw, PuHidD. -/
import Derived.Test.YtmdgodjcfhimbaaGreatDoorMgHid
import Derived.Laws.RangeString
namespace Go.Proofs.YtmdgodjcfhimbaaGreatDoorS
open Go
set_option linter.unusedVariables false
set_option linter.unusedSimpArgs false

abbrev CurT : Type := List Int × Int × Int
def CurOk (n : Nat) (c : CurT) : Prop := (∀ x ∈ c.1, 0 ≤ x ∧ x ≤ 255) ∧ (0 ≤ c.2.1 ∧ c.2.1 ≤ n) ∧ n ≤ 1099511627776
theorem CurOk.start {code : List Int} (h : ∀ x ∈ code, 0 ≤ x ∧ x ≤ 255) : CurOk 0 (code, 0, 0) := ⟨h, ⟨by show (0 : Int) ≤ 0; omega, by show (0 : Int) ≤ ((0 : Nat) : Int); omega⟩, by omega⟩
theorem and255 (x : Int) : 0 ≤ w64 (andI .u64 x 255) ∧ w64 (andI .u64 x 255) ≤ 255 := by
  have h : andI .u64 x 255 = ((BitVec.ofInt 64 x &&& BitVec.ofInt 64 255).toNat : Int) % 18446744073709551616 := by
    unfold andI
    simp only [IntKind.wrap, IntKind.bits, IntKind.signed]
    rfl
  have h2 : (BitVec.ofInt 64 x &&& BitVec.ofInt 64 255).toNat ≤ 255 := by
    rw [BitVec.toNat_and]
    exact Nat.and_le_right
  rw [h, Int.emod_eq_of_lt (by omega) (by omega), w64_of (by omega) (by omega)]
  omega
theorem next_ev (n : Nat) (c : CurT) (H : CurOk n c) (hn : n + 10 ≤ 1099511627776) : ∃ b c', Ev (fun k => spec_l1Cur_next k c) (b, c') ∧ (0 ≤ b ∧ b ≤ 255) ∧ CurOk (n + 1) c' := by
  obtain ⟨code, at_, seed⟩ := c
  obtain ⟨h1, ⟨h2, h3⟩, h4⟩ := H
  simp only at h1 h2 h3
  have e1 : w64 (at_ + 1) = at_ + 1 := w64_of (by omega) (by omega)
  have ok : ∀ z : Int, CurOk (n + 1) (code, w64 (at_ + 1), z) := fun z => ⟨h1, ⟨by show 0 ≤ w64 (at_ + 1); omega, by show w64 (at_ + 1) ≤ ((n + 1 : Nat) : Int); omega⟩, by omega⟩
  by_cases c1 : at_ < (code.length : Int)
  · have hi : inB at_ code.length = true := inB_of h2 c1
    obtain ⟨x, hx⟩ := nat_list (l := code) (i := at_.toNat) (by omega)
    have hg : code.getD at_.toNat default = x := getD_at hx
    obtain ⟨x0, x1⟩ := h1 x (List.mem_of_getElem? hx)
    exact ⟨w64 (code.getD at_.toNat default), _, Ev.step (fun k => spec_l1Cur_next.eq k code at_ seed) (Ev.yes (decide_eq_true c1) (Ev.yes hi (Ev.yes (decide_eq_true (by omega)) (Ev.now _)))), by rw [hg, w64_of (by omega) (by omega)]; exact ⟨x0, x1⟩, ok _⟩
  · exact ⟨_, _, Ev.step (fun k => spec_l1Cur_next.eq k code at_ seed) (Ev.no (decide_eq_false c1) (Ev.no (decide_eq_false (by omega)) (Ev.now _))), and255 _, ok _⟩
section
variable (n : Nat) (c : CurT) (H : CurOk n c) (hn : n + 40 ≤ 1099511627776)
include H hn
theorem pick_ev (m : Int) : ∃ r c', Ev (fun k => spec_l1Cur_pick k (c, m)) (r, c') ∧ 0 ≤ r ∧ (1 ≤ m → r < m) ∧ CurOk (n + 2) c' := by
  obtain ⟨b, c1, e1, ⟨b0, b1⟩, H1⟩ := next_ev n c H (by omega)
  obtain ⟨d, c2, e2, ⟨d0, d1⟩, H2⟩ := next_ev (n + 1) c1 H1 (by omega)
  obtain ⟨code, at_, seed⟩ := c
  have ok1 : ∀ {c : CurT}, CurOk (n + 1) c → CurOk (n + 2) c := fun ⟨h1, ⟨h2, h3⟩, h4⟩ => ⟨h1, ⟨h2, by omega⟩, by omega⟩
  by_cases c1' : m ≤ 1
  · exact ⟨0, _, Ev.step (fun k => spec_l1Cur_pick.eq k code at_ seed m) (Ev.yes (decide_eq_true c1') (Ev.now _)), by omega, fun _ => by omega, by obtain ⟨h1, ⟨h2, h3⟩, h4⟩ := H; exact ⟨h1, ⟨h2, by omega⟩, by omega⟩⟩
  · have hne : (m != 0) = true := by rw [bne_iff_ne]; omega
    by_cases c2' : m > 200
    · have e3 : w64 (w64 (b * 256) + d) = b * 256 + d := by rw [w64_of (n := b * 256) (by omega) (by omega), w64_of (by omega) (by omega)]
      refine ⟨_, c2, Ev.step (fun k => spec_l1Cur_pick.eq k code at_ seed m) (Ev.no (decide_eq_false c1') (Ev.bind e1 (Ev.yes (decide_eq_true c2') (Ev.bind e2 (Ev.yes hne (Ev.now _)))))), ?_, fun _ => ?_, H2⟩
      · show 0 ≤ (w64 (w64 (b * 256) + d)).tmod m
        rw [e3]
        exact Int.tmod_nonneg _ (by omega)
      · exact Int.tmod_lt_of_pos _ (by omega)
    · refine ⟨_, c1, Ev.step (fun k => spec_l1Cur_pick.eq k code at_ seed m) (Ev.no (decide_eq_false c1') (Ev.bind e1 (Ev.no (decide_eq_false c2') (Ev.yes hne (Ev.now _))))), ?_, fun _ => ?_, ok1 H1⟩
      · exact Int.tmod_nonneg _ b0
      · exact Int.tmod_lt_of_pos _ (by omega)
theorem one_ev (m : Int) : ∃ b c', Ev (fun k => spec_l1Cur_one k (c, m)) (b, c') ∧ CurOk (n + 2) c' := by
  obtain ⟨r, c', e, _, _, h⟩ := pick_ev n c H hn m
  obtain ⟨code, at_, seed⟩ := c
  exact ⟨_, c', Ev.step (fun k => spec_l1Cur_one.eq k code at_ seed m) (Ev.bind e (Ev.now _)), h⟩
theorem of_ev (l : List ByteArray) (hl : 1 ≤ l.length) : ∃ s c', Ev (fun k => spec_l1Cur_of k (c, l)) (s, c') ∧ s ∈ l ∧ CurOk (n + 2) c' := by
  obtain ⟨r, c', e, r0, r1, h⟩ := pick_ev n c H hn (l.length : Int)
  have r1 := r1 (by omega)
  obtain ⟨code, at_, seed⟩ := c
  obtain ⟨x, hx⟩ := nat_list (l := l) (i := r.toNat) (by omega)
  exact ⟨_, c', Ev.step (fun k => spec_l1Cur_of.eq k code at_ seed l) (Ev.bind e (Ev.yes (inB_of r0 r1) (Ev.now _))), by show l.getD r.toNat default ∈ l; rw [getD_at hx]; exact List.mem_of_getElem? hx, h⟩
theorem among_ev (l : List Int) (hl : 1 ≤ l.length) : ∃ s c', Ev (fun k => spec_l1Cur_among k (c, l)) (s, c') ∧ s ∈ l ∧ CurOk (n + 2) c' := by
  obtain ⟨r, c', e, r0, r1, h⟩ := pick_ev n c H hn (l.length : Int)
  have r1 := r1 (by omega)
  obtain ⟨code, at_, seed⟩ := c
  obtain ⟨x, hx⟩ := nat_list (l := l) (i := r.toNat) (by omega)
  exact ⟨_, c', Ev.step (fun k => spec_l1Cur_among.eq k code at_ seed l) (Ev.bind e (Ev.yes (inB_of r0 r1) (Ev.now _))), by show l.getD r.toNat default ∈ l; rw [getD_at hx]; exact List.mem_of_getElem? hx, h⟩
end
theorem big_ev (code more : List Int) (h1 : code.length ≤ 9223372036854775807) (h2 : more.length ≤ 9223372036854775807) : ∃ b, Ev (fun k => laws_big k (code, more)) b ∧ (b = false → code.length ≤ 1048576 ∧ more.length ≤ 1048576) := by
  by_cases c1 : (code.length : Int) > 1048576
  · exact ⟨true, Ev.step (fun k => laws_big.eq k code more) (Ev.yes (decide_eq_true c1) (Ev.now _)), nofun⟩
  · have e1 := w64_of (n := 1048576 - (code.length : Int)) (by omega) (by omega)
    refine ⟨_, Ev.step (fun k => laws_big.eq k code more) (Ev.no (decide_eq_false c1) (Ev.now _)), fun h => ?_⟩
    have := of_decide_eq_false h
    rw [e1] at this
    omega

theorem CurOk.mono {n m : Nat} {c : CurT} (h : CurOk n c) (hm : n ≤ m) (h' : m ≤ 1099511627776) : CurOk m c := by
  obtain ⟨h1, ⟨h2, h3⟩, h4⟩ := h
  exact ⟨h1, ⟨h2, by omega⟩, h'⟩
theorem sureRule_l_ev : ∀ (m n : Nat) (c : CurT) (out : ByteArray), CurOk n c → n + 2 * m + 100 ≤ 1099511627776 → out.size + m ≤ 1000 → (∀ b ∈ out.data.toList, SignC b) → ∃ s c', Ev (fun k => spec_l1Cur_sureRule_l k (c, out, (m : Int), ())) (s, c') ∧ s.size = out.size + m ∧ (∀ b ∈ s.data.toList, SignC b) ∧ CurOk (n + 2 * m) c'
  | 0, n, c, out, H, hn, ho, hs => by
    obtain ⟨code, at_, seed⟩ := c
    exact ⟨out, _, Ev.step (fun k => spec_l1Cur_sureRule_l.eq k code at_ seed out 0) (Ev.no rfl (Ev.now _)), rfl, hs, H⟩
  | m + 1, n, c, out, H, hn, ho, hs => by
    obtain ⟨t, c1, e1, ht, H1⟩ := of_ev n c H (by omega) [(bs [76]), (bs [82]), (bs [76]), (bs [82]), (bs [78]), (bs [85])] (by decide)
    have h2 : t.size = 1 ∧ ∀ b ∈ t.data.toList, SignC b := by
      simp only [List.mem_cons, List.not_mem_nil, or_false] at ht
      rcases ht with rfl | rfl | rfl | rfl | rfl | rfl <;> exact ⟨rfl, fun b hb => by simp [bs] at hb; subst hb; simp [SignC]⟩
    have hz : (out ++ t).size = out.size + 1 := by rw [ByteArray.size_append, h2.1]
    obtain ⟨s, c2, e2, s1, s2, H2⟩ := sureRule_l_ev m (n + 2) c1 (out ++ t) H1 (by omega) (by omega) (fun b hb => by
      rw [append_list] at hb
      rcases List.mem_append.1 hb with hb | hb
      · exact hs b hb
      · exact h2.2 b hb)
    obtain ⟨code, at_, seed⟩ := c
    refine ⟨s, c2, Ev.step (fun k => spec_l1Cur_sureRule_l.eq k code at_ seed out ((m + 1 : Nat) : Int)) (Ev.yes (decide_eq_true (by omega)) (Ev.bind e1 (Ev.yes (fitS_of (by show out.size + t.size < _; omega)) ?_))), by omega, s2, by rw [show n + 2 * (m + 1) = n + 2 + 2 * m by omega]; exact H2⟩
    rw [show w64 (((m + 1 : Nat) : Int) - 1) = (m : Int) by rw [w64_of (by omega) (by omega)]; omega]
    exact e2
theorem sureRule_ev (n : Nat) (c : CurT) (H : CurOk n c) (hn : n + 200 ≤ 1099511627776) : ∃ s c', Ev (fun k => spec_l1Cur_sureRule k c) (s, c') ∧ RuleOk s ∧ s.size ≤ 4 ∧ CurOk (n + 20) c' := by
  obtain ⟨b, c1, e1, H1⟩ := one_ev n c H (by omega) 3
  obtain ⟨r, c2, e2, r0, r1, H2⟩ := pick_ev _ c1 H1 (by omega) 4
  have r1 := r1 (by omega)
  obtain ⟨m, hm⟩ : ∃ m : Nat, 1 + r = (m : Int) := ⟨(1 + r).toNat, by omega⟩
  obtain ⟨s, c3, e3, s1, s2, H3⟩ := sureRule_l_ev m _ c2 ByteArray.empty H2 (by omega) (by show 0 + m ≤ _; omega) (fun b hb => by cases hb)
  have e4 : w64 (1 + r) = (m : Int) := by rw [w64_of (by omega) (by omega), hm]
  have s1 : s.size = 0 + m := s1
  obtain ⟨code, at_, seed⟩ := c
  cases b with
  | true => exact ⟨_, _, Ev.step (fun k => spec_l1Cur_sureRule.eq k code at_ seed) (Ev.bind e1 (Ev.yes rfl (Ev.now _))), ⟨by decide, fun b hb => by simp [bs] at hb; rcases hb with rfl | rfl <;> simp [SignC]⟩, by decide, H1.mono (by omega) (by omega)⟩
  | false =>
    refine ⟨s, c3, Ev.step (fun k => spec_l1Cur_sureRule.eq k code at_ seed) (Ev.bind e1 (Ev.no rfl (Ev.bind e2 ?_))), ⟨by omega, s2⟩, by omega, H3.mono (by omega) (by omega)⟩
    simp only [e4]
    exact Ev.bind e3 (Ev.now _)
theorem rule_ev (n : Nat) (c : CurT) (H : CurOk n c) (hn : n + 300 ≤ 1099511627776) : ∃ s c', Ev (fun k => spec_l1Cur_rule k c) (s, c') ∧ s.size ≤ 10 ∧ CurOk (n + 30) c' := by
  obtain ⟨b, c1, e1, H1⟩ := one_ev n c H (by omega) 12
  obtain ⟨t, c2, e2, ht, H2⟩ := of_ev _ c1 H1 (by omega) [ByteArray.empty, (bs [76, 82, 76, 82, 76, 82, 76]), (bs [88]), (bs [108, 114]), (bs [76, 32, 82])] (by decide)
  obtain ⟨s, c3, e3, _, s4, H3⟩ := sureRule_ev _ c1 H1 (by omega)
  have h2 : t.size ≤ 10 := by
    simp only [List.mem_cons, List.not_mem_nil, or_false] at ht
    rcases ht with rfl | rfl | rfl | rfl | rfl <;> decide
  obtain ⟨code, at_, seed⟩ := c
  cases b with
  | true => exact ⟨t, _, Ev.step (fun k => spec_l1Cur_rule.eq k code at_ seed) (Ev.bind e1 (Ev.yes rfl (Ev.bind e2 (Ev.now _)))), h2, H2.mono (by omega) (by omega)⟩
  | false => exact ⟨s, _, Ev.step (fun k => spec_l1Cur_rule.eq k code at_ seed) (Ev.bind e1 (Ev.no rfl (Ev.bind e3 (Ev.now _)))), by omega, H3.mono (by omega) (by omega)⟩
theorem sureWorld_l_ev (rl : ByteArray) (hrl : 1 ≤ rl.size ∧ rl.size ≤ 6) (w h : Int) (blank : Bool) : ∀ (m n : Nat) (c : CurT) (out : ByteArray), CurOk n c → n + 2 * m + 100 ≤ 1099511627776 → out.size + m ≤ 1000 → CellsOk (rl.size : Int) out →
    ∃ s c', Ev (fun k => spec_l1Cur_sureWorld_l k (c, zeroO, (rl, w, h, out, 0, 0, 0), blank, (m : Int), ())) (c', zeroO, (rl, w, h, s, 0, 0, 0), ()) ∧ s.size = out.size + m ∧ CellsOk (rl.size : Int) s ∧ CurOk (n + 2 * m) c'
  | 0, n, c, out, H, hn, ho, hs => by
    obtain ⟨code, at_, seed⟩ := c
    exact ⟨out, _, Ev.step (fun k => spec_l1Cur_sureWorld_l.eq k code at_ seed ByteArray.empty 0 0 ByteArray.empty 0 0 0 rl w h out 0 0 0 blank 0) (Ev.no rfl (Ev.now _)), rfl, hs, H⟩
  | m + 1, n, c, out, H, hn, ho, hs => by
    obtain ⟨r, c1, e1, r0, r1, H1⟩ := pick_ev n c H (by omega) (rl.size : Int)
    have r1 := r1 (by omega)
    have eN := l1Num_ev r (by omega)
    have em : w64 (((m + 1 : Nat) : Int) - 1) = (m : Int) := by rw [w64_of (by omega) (by omega)]; omega
    have app : ∀ p : Int, 0 ≤ p ∧ p ≤ (rl.size : Int) - 1 → CellsOk (rl.size : Int) (out ++ ofBytes [48 + p]) := fun p hp b hb => by
      rw [append_list] at hb
      rcases List.mem_append.1 hb with hb | hb
      · exact hs b hb
      · have hb : b = UInt8.ofNat (48 + p).toNat := by simpa [ofBytes] using hb
        rw [hb, toNat_ofNat8 (by omega)]
        omega
    have hz : ∀ p : Int, (out ++ ofBytes [48 + p]).size = out.size + 1 := fun p => by rw [ByteArray.size_append]; rfl
    cases blank with
    | true =>
      obtain ⟨s, c2, e2, s1, s2, H2⟩ := sureWorld_l_ev rl hrl w h true m (n + 2) c (out ++ ofBytes [48 + 0]) (H.mono (by omega) (by omega)) (by omega) (by rw [hz]; omega) (app 0 (by omega))
      rw [hz] at s1
      obtain ⟨code, at_, seed⟩ := c
      refine ⟨s, c2, Ev.step (fun k => spec_l1Cur_sureWorld_l.eq k code at_ seed ByteArray.empty 0 0 ByteArray.empty 0 0 0 rl w h out 0 0 0 true ((m + 1 : Nat) : Int)) (Ev.yes (decide_eq_true (by omega)) (Ev.yes rfl (Ev.yes (fitS_of (by show out.size + 1 < _; omega)) ?_))), by omega, s2, by rw [show n + 2 * (m + 1) = n + 2 + 2 * m by omega]; exact H2⟩
      rw [em]
      exact e2
    | false =>
      obtain ⟨s, c2, e2, s1, s2, H2⟩ := sureWorld_l_ev rl hrl w h false m (n + 2) c1 (out ++ ofBytes [48 + r]) H1 (by omega) (by rw [hz]; omega) (app r (by omega))
      rw [hz] at s1
      obtain ⟨code, at_, seed⟩ := c
      refine ⟨s, c2, Ev.step (fun k => spec_l1Cur_sureWorld_l.eq k code at_ seed ByteArray.empty 0 0 ByteArray.empty 0 0 0 rl w h out 0 0 0 false ((m + 1 : Nat) : Int)) (Ev.yes (decide_eq_true (by omega)) (Ev.no rfl (Ev.bind e1 (Ev.bind eN (Ev.yes (fitS_of (by show out.size + 1 < _; omega)) ?_))))), by omega, s2, by rw [show n + 2 * (m + 1) = n + 2 + 2 * m by omega]; exact H2⟩
      rw [em]
      exact e2
theorem sureWorld_ev (n : Nat) (c : CurT) (H : CurOk n c) (hn : n + 1000 ≤ 1099511627776) (most : Int) (hmost : 1 ≤ most ∧ most ≤ 9) : ∃ W c', Ev (fun k => spec_l1Cur_sureWorld k (c, most)) (W, c') ∧ OkO W ∧ (W.2.1 ≤ most ∧ W.2.2.1 ≤ most) ∧ CurOk (n + 300) c' := by
  obtain ⟨rl, c1, e1, hR, hr4, H1⟩ := sureRule_ev n c H (by omega)
  obtain ⟨r2, c2, e2, p2, q2, H2⟩ := pick_ev _ c1 H1 (by omega) most
  obtain ⟨r3, c3, e3, p3, q3, H3⟩ := pick_ev _ c2 H2 (by omega) most
  have q2 := q2 hmost.1
  have q3 := q3 hmost.1
  obtain ⟨b, c4, e4, H4⟩ := one_ev _ c3 H3 (by omega) 2
  have w2 : w64 (1 + r2) = 1 + r2 := w64_of (by omega) (by omega)
  have w3 : w64 (1 + r3) = 1 + r3 := w64_of (by omega) (by omega)
  have hm := mul_range (a := 1 + r2) (b := 1 + r3) (by omega) (by omega) (by omega) (by omega)
  obtain ⟨m, em⟩ : ∃ m : Nat, (1 + r2) * (1 + r3) = (m : Int) := ⟨((1 + r2) * (1 + r3)).toNat, by omega⟩
  obtain ⟨s, c5, e5, s1, s2, H5⟩ := sureWorld_l_ev rl hR.1 (1 + r2) (1 + r3) b m _ c4 ByteArray.empty H4 (by omega) (by show 0 + m ≤ _; omega) (fun b hb => by cases hb)
  have s1 : s.size = 0 + m := s1
  obtain ⟨r6, c6, e6, p6, q6, H6⟩ := pick_ev _ c5 H5 (by omega) (1 + r2)
  obtain ⟨r7, c7, e7, p7, q7, H7⟩ := pick_ev _ c6 H6 (by omega) (1 + r3)
  obtain ⟨r8, c8, e8, p8, q8, H8⟩ := pick_ev _ c7 H7 (by omega) 4
  have q6 := q6 (by omega)
  have q7 := q7 (by omega)
  have q8 := q8 (by omega)
  obtain ⟨code, at_, seed⟩ := c
  refine ⟨(rl, 1 + r2, 1 + r3, s, r6, r7, r8), c8, Ev.step (fun k => spec_l1Cur_sureWorld.eq k code at_ seed most) (Ev.bind e1 (Ev.bind e2 (Ev.bind e3 (Ev.bind e4 ?_)))), ⟨hR, by simp only; omega, by simp only; omega, by simp only; omega, s2, by simp only; omega, by simp only; omega, by simp only; omega⟩, ⟨by simp only; omega, by simp only; omega⟩, H8.mono (by omega) (by omega)⟩
  have wm2 : w64 (m : Int) = (m : Int) := w64_of (by omega) (by omega)
  simp only [w2, w3, em, wm2]
  exact Ev.bind e5 (Ev.bind e6 (Ev.bind e7 (Ev.bind e8 (Ev.now _))))
theorem world_ev (n : Nat) (c : CurT) (H : CurOk n c) (hn : n + 2000 ≤ 1099511627776) : ∃ W c', Ev (fun k => spec_l1Cur_world k c) (W, c') ∧ (W.1.size ≤ 1000 ∧ W.2.2.2.1.size ≤ 1000) ∧ CurOk (n + 400) c' := by
  obtain ⟨W, c1, e1, HW, _, H1⟩ := sureWorld_ev n c H (by omega) 5 (by omega)
  obtain ⟨s1, s2⟩ := okO_size HW
  obtain ⟨r, c2, e2, p, q, H2⟩ := pick_ev _ c1 H1 (by omega) 18
  obtain ⟨rl, c3, e3, hrl, H3⟩ := rule_ev _ c2 H2 (by omega)
  obtain ⟨a, c4, e4, _, H4⟩ := among_ev _ c2 H2 (by omega) [0, 1, 10, (-1), 4611686018427387904] (by decide)
  obtain ⟨t, c5, e5, ht, H5⟩ := of_ev _ c2 H2 (by omega) [(bs [48]), ByteArray.empty, (bs [55])] (by decide)
  have ht1 : t.size ≤ 1 := by
    simp only [List.mem_cons, List.not_mem_nil, or_false] at ht
    rcases ht with rfl | rfl | rfl <;> decide
  obtain ⟨a6, c6, e6, _, H6⟩ := among_ev _ c2 H2 (by omega) [(-1), 0, 9, 4611686018427387904] (by decide)
  obtain ⟨a7, c7, e7, _, H7⟩ := among_ev _ c6 H6 (by omega) [0, 4, (-1), 3] (by decide)
  have hz : (W.2.2.2.1 ++ t).size = W.2.2.2.1.size + t.size := ByteArray.size_append
  obtain ⟨code, at_, seed⟩ := c
  by_cases r0 : r = 0
  · exact ⟨_, _, Ev.step (fun k => spec_l1Cur_world.eq k code at_ seed) (Ev.bind e1 <| Ev.bind e2 <| Ev.yes (beq_iff_eq.2 r0) (Ev.bind e3 (Ev.now _))), ⟨by simp only; omega, by simp only; omega⟩, H3.mono (by omega) (by omega)⟩
  · have n0 := beq_eq_false_iff_ne.2 r0
    by_cases r1 : r = 1
    · exact ⟨_, _, Ev.step (fun k => spec_l1Cur_world.eq k code at_ seed) (Ev.bind e1 <| Ev.bind e2 <| Ev.no n0 (Ev.yes (beq_iff_eq.2 r1) (Ev.bind e4 (Ev.now _)))), ⟨by simp only; omega, by simp only; omega⟩, H4.mono (by omega) (by omega)⟩
    · have n1 := beq_eq_false_iff_ne.2 r1
      by_cases r2 : r = 2
      · exact ⟨_, _, Ev.step (fun k => spec_l1Cur_world.eq k code at_ seed) (Ev.bind e1 <| Ev.bind e2 <| Ev.no n0 (Ev.no n1 (Ev.yes (beq_iff_eq.2 r2) (Ev.bind e5 (Ev.yes (fitS_of (by simp only; omega)) (Ev.now _)))))), ⟨by simp only; omega, by simp only; omega⟩, H5.mono (by omega) (by omega)⟩
      · have n2 := beq_eq_false_iff_ne.2 r2
        by_cases r3 : r = 3
        · exact ⟨_, _, Ev.step (fun k => spec_l1Cur_world.eq k code at_ seed) (Ev.bind e1 <| Ev.bind e2 <| Ev.no n0 (Ev.no n1 (Ev.no n2 (Ev.yes (beq_iff_eq.2 r3) (Ev.bind e6 (Ev.bind e7 (Ev.now _))))))), ⟨by simp only; omega, by simp only; omega⟩, H7.mono (by omega) (by omega)⟩
        · exact ⟨_, _, Ev.step (fun k => spec_l1Cur_world.eq k code at_ seed) (Ev.bind e1 <| Ev.bind e2 <| Ev.no n0 (Ev.no n1 (Ev.no n2 (Ev.no (beq_eq_false_iff_ne.2 r3) (Ev.now _))))), ⟨by simp only; omega, by simp only; omega⟩, H2.mono (by omega) (by omega)⟩
theorem steps_ev (n : Nat) (c : CurT) (H : CurOk n c) (hn : n + 100 ≤ 1099511627776) : ∃ s c', Ev (fun k => spec_l1Cur_steps k c) (s, c') ∧ CurOk (n + 10) c' := by
  obtain ⟨b, c1, e1, H1⟩ := one_ev n c H (by omega) 8
  obtain ⟨a, c2, e2, _, H2⟩ := among_ev _ c1 H1 (by omega) [0, 1, 3000, 3001, (-1), 4611686018427387904] (by decide)
  obtain ⟨r, c3, e3, _, _, H3⟩ := pick_ev _ c1 H1 (by omega) 60
  obtain ⟨code, at_, seed⟩ := c
  cases b with
  | true => exact ⟨_, _, Ev.step (fun k => spec_l1Cur_steps.eq k code at_ seed) (Ev.bind e1 (Ev.yes rfl (Ev.bind e2 (Ev.now _)))), H2.mono (by omega) (by omega)⟩
  | false => exact ⟨_, _, Ev.step (fun k => spec_l1Cur_steps.eq k code at_ seed) (Ev.bind e1 (Ev.no rfl (Ev.bind e3 (Ev.now _)))), H3.mono (by omega) (by omega)⟩

abbrev Pz : Type := ByteArray × Int × Int × List Cl
theorem rune_ascii {s : ByteArray} {i : Nat} {c : UInt8} (h : s.data.toList[i]? = some c) (hc : c.toNat < 128) : runeEnd s i = i + 1 := by
  obtain ⟨hlt, he⟩ := List.getElem?_eq_some_iff.1 h
  have hi : i < s.size := by rw [size_list]; exact hlt
  have hg : s[i]'hi = c := by
    rw [← he]
    simp [ByteArray.getElem_eq_getElem_data]
  unfold runeEnd
  rw [decode_ascii s i hi (by rw [hg]; exact hc)]
theorem pow_le {t N a b : Nat} (ht : t ≤ a) (ha : 1 ≤ a) (hN : N ≤ b) (h : a ^ b ≤ 300) : t ^ N ≤ 300 := Nat.le_trans (Nat.pow_le_pow_left ht N) (Nat.le_trans (Nat.pow_le_pow_right ha hN) h)
theorem hidden_l_ev (rl : ByteArray) (w h : Int) (hr : 1 ≤ rl.size ∧ rl.size ≤ 6) (hw : 1 ≤ w ∧ w ≤ 9) (hh : 1 ≤ h ∧ h ≤ 9) : ∀ (m n : Nat) (c : CurT) (cs : ByteArray), CurOk n c → n + 2 * m + 200 ≤ 1099511627776 → ((cs.size + m : Nat) : Int) = w * h → CellsOk (rl.size : Int) cs →
    ∃ cs' c', Ev (fun k => spec_l1Cur_hidden_l k (c, zeroO, (rl, w, h, cs, 0, 0, 0), ())) (zeroO, (rl, w, h, cs', 0, 0, 0), c') ∧ (cs'.size : Int) = w * h ∧ CellsOk (rl.size : Int) cs' ∧ CurOk (n + 2 * m) c'
  | 0, n, c, cs, H, hn, hs, hc => by
    have hm := mul_range (a := w) (b := h) (by omega) (by omega) (by omega) (by omega)
    have e64 : w64 (w * h) = w * h := w64_of (by omega) (by omega)
    obtain ⟨code, at_, seed⟩ := c
    refine ⟨cs, _, Ev.step (fun k => spec_l1Cur_hidden_l.eq k code at_ seed ByteArray.empty 0 0 ByteArray.empty 0 0 0 rl w h cs 0 0 0) ?_, by omega, hc, H⟩
    rw [e64]
    exact Ev.no (decide_eq_false (by omega)) (Ev.now _)
  | m + 1, n, c, cs, H, hn, hs, hc => by
    have hm := mul_range (a := w) (b := h) (by omega) (by omega) (by omega) (by omega)
    have e64 : w64 (w * h) = w * h := w64_of (by omega) (by omega)
    obtain ⟨r, c1, e1, r0, r1, H1⟩ := pick_ev n c H (by omega) (rl.size : Int)
    have r1 := r1 (by omega)
    obtain ⟨d, rfl⟩ := Int.eq_ofNat_of_zero_le r0
    have zn : (ofBytes [48 + (d : Int)]).size = 1 := rfl
    obtain ⟨cs', c', g1, g2, g3, g4⟩ := hidden_l_ev rl w h hr hw hh m (n + 2) c1 (cs ++ ofBytes [48 + (d : Int)]) H1 (by omega) (by rw [ByteArray.size_append, zn]; omega) (cells_digit hc (by omega) (by omega))
    obtain ⟨code, at_, seed⟩ := c
    refine ⟨cs', c', Ev.step (fun k => spec_l1Cur_hidden_l.eq k code at_ seed ByteArray.empty 0 0 ByteArray.empty 0 0 0 rl w h cs 0 0 0) ?_, g2, g3, by rw [show n + 2 * (m + 1) = n + 2 + 2 * m by omega]; exact g4⟩
    rw [e64]
    exact Ev.yes (decide_eq_true (by omega)) (Ev.bind e1 (Ev.bind (l1Num_ev _ (by omega)) (Ev.yes (fitS_of (by rw [zn]; omega)) g1)))
theorem hidden_ev (n : Nat) (c : CurT) (H : CurOk n c) (hn : n + 1000 ≤ 1099511627776) : ∃ W c', Ev (fun k => spec_l1Cur_hidden k c) (W, c') ∧ HidO W ∧ CurOk (n + 200) c' := by
  obtain ⟨rl, c1, e1, hrl, H1⟩ := of_ev n c H (by omega) [(bs [76, 82]), (bs [76, 82]), (bs [82, 76]), (bs [76, 82, 78]), (bs [76, 85]), (bs [78]), (bs [76, 76, 82, 82]), (bs [82, 76, 85])] (by decide)
  obtain ⟨a, c2, e2, a0, a1, H2⟩ := pick_ev _ c1 H1 (by omega) 2
  obtain ⟨b, c3, e3, b0, b1, H3⟩ := pick_ev _ c2 H2 (by omega) 2
  obtain ⟨o, c4, e4, H4⟩ := one_ev _ c3 H3 (by omega) 3
  have a1 := a1 (by omega)
  have b1 := b1 (by omega)
  have ea : w64 (1 + a) = 1 + a := w64_of (by omega) (by omega)
  have eb : w64 (1 + b) = 1 + b := w64_of (by omega) (by omega)
  have hR : RuleOk rl ∧ rl.size ≤ 4 := by
    simp only [List.mem_cons, List.not_mem_nil, or_false] at hrl
    rcases hrl with rfl | rfl | rfl | rfl | rfl | rfl | rfl | rfl <;> exact ⟨⟨by decide, by unfold SignC; decide⟩, by decide⟩
  obtain ⟨hR, hR4⟩ := hR
  have hR1 := hR.1
  have key : ∀ w h : Int, (1 ≤ w ∧ w ≤ 3) → (1 ≤ h ∧ h ≤ 2) → (w ≤ 2 ∨ rl.size ≤ 2) → ∃ W c', Ev (fun k => spec_l1Cur_hidden_l k (c4, zeroO, (rl, w, h, ByteArray.empty, 0, 0, 0), ())) (zeroO, W, c') ∧ HidO W ∧ CurOk (n + 200) c' := by
    intro w h hw hh hor
    have hm := mul_range (a := w) (b := h) (by omega) (by omega) (by omega) (by omega)
    have hm6 : w * h ≤ 6 ∧ (w ≤ 2 → w * h ≤ 4) := by
      have : h = 1 ∨ h = 2 := by omega
      rcases this with rfl | rfl <;> omega
    have z0 : ByteArray.empty.size = 0 := rfl
    obtain ⟨cs', c', g1, g2, g3, g4⟩ := hidden_l_ev rl w h hR1 (by omega) (by omega) (w * h).toNat _ c4 ByteArray.empty H4 (by omega) (by rw [z0]; omega) (fun c hc => by cases hc)
    refine ⟨(rl, w, h, cs', 0, 0, 0), c', g1, ⟨⟨hR, by show 1 ≤ w ∧ w ≤ 9; omega, by show 1 ≤ h ∧ h ≤ 9; omega, by show w * h ≤ 9; omega, ?_⟩, ⟨hR, by show 1 ≤ w ∧ w ≤ 9; omega, by show 1 ≤ h ∧ h ≤ 9; omega, g2, g3, by show (0 : Int) ≤ 0 ∧ (0 : Int) ≤ w - 1; omega, by show (0 : Int) ≤ 0 ∧ (0 : Int) ≤ h - 1; omega, by show (0 : Int) ≤ 0 ∧ (0 : Int) ≤ 3; omega⟩, rfl, rfl, rfl⟩, g4.mono (by omega) (by omega)⟩
    show rl.size ^ (w * h).toNat ≤ 300
    rcases hor with hor | hor
    · exact pow_le (a := 4) (b := 4) hR4 (by omega) (by have := hm6.2 hor; omega) (by decide)
    · exact pow_le (a := 2) (b := 6) hor (by omega) (by omega) (by decide)
  obtain ⟨W1, d1, f1, k1, K1⟩ := key (1 + a) (1 + b) (by omega) (by omega) (.inl (by omega))
  obtain ⟨code, at_, seed⟩ := c
  cases o with
  | false =>
    refine ⟨W1, d1, Ev.step (fun k => spec_l1Cur_hidden.eq k code at_ seed) (Ev.bind e1 (Ev.bind e2 (Ev.bind e3 (Ev.bind e4 (Ev.no rfl ?_))))), k1, K1⟩
    rw [ea, eb]
    exact Ev.bind f1 (Ev.now _)
  | true =>
    by_cases h3 : rl.size ≤ 2
    · obtain ⟨W2, d2, f2, k2, K2⟩ := key 3 (1 + b) (by omega) (by omega) (.inr h3)
      refine ⟨W2, d2, Ev.step (fun k => spec_l1Cur_hidden.eq k code at_ seed) (Ev.bind e1 (Ev.bind e2 (Ev.bind e3 (Ev.bind e4 (Ev.yes rfl (Ev.yes (decide_eq_true (by show (rl.size : Int) < 3; omega)) ?_)))))), k2, K2⟩
      rw [eb]
      exact Ev.bind f2 (Ev.now _)
    · refine ⟨W1, d1, Ev.step (fun k => spec_l1Cur_hidden.eq k code at_ seed) (Ev.bind e1 (Ev.bind e2 (Ev.bind e3 (Ev.bind e4 (Ev.yes rfl (Ev.no (decide_eq_false (by show ¬ (rl.size : Int) < 3; omega)) ?_)))))), k1, K1⟩
      rw [ea, eb]
      exact Ev.bind f1 (Ev.now _)
theorem hid_size {W : Wo} (H : HidO W) : W.1.size ≤ 6 ∧ W.2.2.2.1.size ≤ 9 ∧ OkO W := by
  obtain ⟨hS, hW, _⟩ := H
  have := hS.2.2.2.1
  have := hW.2.2.2.1
  exact ⟨hS.1.1.2, by omega, hW⟩
theorem clue_ev (n : Nat) (c : CurT) (H : CurOk n c) (hn : n + 1000 ≤ 1099511627776) : ∃ x c', Ev (fun k => spec_l1Cur_clue k c) (x, c') ∧ CurOk (n + 100) c' := by
  obtain ⟨r1, c1, e1, _, _, H1⟩ := pick_ev n c H (by omega) 5
  obtain ⟨r2, c2, e2, _, _, H2⟩ := pick_ev _ c1 H1 (by omega) 9
  obtain ⟨r3, c3, e3, _, _, H3⟩ := pick_ev _ c2 H2 (by omega) 4
  obtain ⟨r4, c4, e4, _, _, H4⟩ := pick_ev _ c3 H3 (by omega) 9
  obtain ⟨r5, c5, e5, _, _, H5⟩ := pick_ev _ c4 H4 (by omega) 4
  obtain ⟨r6, c6, e6, _, _, H6⟩ := pick_ev _ c5 H5 (by omega) 9
  obtain ⟨b, c7, e7, H7⟩ := one_ev _ c6 H6 (by omega) 6
  obtain ⟨code, at_, seed⟩ := c
  have M6 := H6.mono (m := n + 100) (by omega) (by omega)
  have M7 := H7.mono (m := n + 100) (by omega) (by omega)
  cases e : (w64 (r1 + (w64 (r2.tdiv 8)))) == 4 with
  | false => exact ⟨_, _, Ev.step (fun k => spec_l1Cur_clue.eq k code at_ seed) (Ev.bind e1 (Ev.bind e2 (Ev.bind e3 (Ev.bind e4 (Ev.bind e5 (Ev.bind e6 (Ev.no e (Ev.now _)))))))), M6⟩
  | true =>
    cases b with
    | false => exact ⟨_, _, Ev.step (fun k => spec_l1Cur_clue.eq k code at_ seed) (Ev.bind e1 (Ev.bind e2 (Ev.bind e3 (Ev.bind e4 (Ev.bind e5 (Ev.bind e6 (Ev.yes e (Ev.bind e7 (Ev.yes rfl (Ev.now _)))))))))), M7⟩
    | true => exact ⟨_, _, Ev.step (fun k => spec_l1Cur_clue.eq k code at_ seed) (Ev.bind e1 (Ev.bind e2 (Ev.bind e3 (Ev.bind e4 (Ev.bind e5 (Ev.bind e6 (Ev.yes e (Ev.bind e7 (Ev.no rfl (Ev.now _)))))))))), M7⟩
/-- A puzzle made of a hidden world: with so many clues. -/
theorem madeS_ev (W : Wo) (H : HidO W) (n z : Int) (hn : 0 ≤ n ∧ n ≤ 6) (hz : 0 ≤ z ∧ z ≤ 9999) : ∃ P : List Cl, (P.length : Int) = n ∧ Ev (fun k => spec_MakePuzzle k (W, n, z)) ((W.1, W.2.1, W.2.2.1, P), true) := by
  obtain ⟨h1, h2, _⟩ := hid_size H
  obtain ⟨P, p1, _, p2, _⟩ := (make_ev W (by omega) (by omega) n z).1 ⟨H, hn, hz⟩
  exact ⟨P, p1, p2⟩
theorem surePz_ev (n : Nat) (c : CurT) (H : CurOk n c) (hn : n + 1000 ≤ 1099511627776) : ∃ p c', Ev (fun k => spec_l1Cur_surePuzzle k (c, 5)) (p, c') ∧ (p.1.size ≤ 10 ∧ p.2.2.2.length ≤ 6) ∧ CurOk (n + 300) c' := by
  obtain ⟨W, c1, e1, hW, H1⟩ := hidden_ev n c H (by omega)
  obtain ⟨a, c2, e2, a0, a1, H2⟩ := pick_ev _ c1 H1 (by omega) 6
  obtain ⟨z, c3, e3, z0, z1, H3⟩ := pick_ev _ c2 H2 (by omega) 10000
  have a1 := a1 (by omega)
  have z1 := z1 (by omega)
  obtain ⟨P, p1, p2⟩ := madeS_ev W hW a z (by omega) (by omega)
  obtain ⟨h1, _⟩ := hid_size hW
  obtain ⟨code, at_, seed⟩ := c
  exact ⟨(W.1, W.2.1, W.2.2.1, P), _, Ev.step (fun k => spec_l1Cur_surePuzzle.eq k code at_ seed 5) (Ev.bind e1 (Ev.bind e2 (Ev.bind e3 (Ev.bind p2 (Ev.now _))))), ⟨by show W.1.size ≤ 10; omega, by show P.length ≤ 6; omega⟩, H3.mono (by omega) (by omega)⟩
theorem many_l_ev : ∀ (m n : Nat) (c : CurT) (p : Pz), CurOk n c → n + 2 * m + 200 ≤ 1099511627776 → 8 ≤ p.2.2.2.length + m → p.2.2.2.length ≤ 8 → ∃ p' c', Ev (fun k => spec_l1Cur_puzzle_l k (c, zeroP, p, ())) (zeroP, p', c') ∧ (p'.1 = p.1 ∧ p'.2.2.2.length ≤ 8) ∧ CurOk (n + 2 * m + 2) c'
  | 0, n, c, (rl, w, h, cl), H, hn, hm, hp => by
    obtain ⟨r, c1, e1, r0, r1, H1⟩ := pick_ev n c H (by omega) 2
    have r1 := r1 (by omega)
    simp only at hm hp
    obtain ⟨code, at_, seed⟩ := c
    exact ⟨(rl, w, h, cl), _, Ev.step (fun k => spec_l1Cur_puzzle_l.eq k code at_ seed ByteArray.empty 0 0 [] rl w h cl) (Ev.bind e1 (Ev.no (decide_eq_false (by rw [w64_of (by omega) (by omega)]; omega)) (Ev.now _))), ⟨rfl, hp⟩, H1⟩
  | m + 1, n, c, (rl, w, h, cl), H, hn, hm, hp => by
    obtain ⟨r, c1, e1, r0, r1, H1⟩ := pick_ev n c H (by omega) 2
    have r1 := r1 (by omega)
    simp only at hm hp
    by_cases hc : (cl.length : Int) < 6 + r
    · obtain ⟨p', c', g1, ⟨g2, g3⟩, g4⟩ := many_l_ev m (n + 2) c1 (rl, w, h, cl ++ [(4, (1, 0))]) H1 (by omega) (by show 8 ≤ (cl ++ [(4, (1, 0))] : List Cl).length + m; rw [List.length_append, List.length_singleton]; omega) (by show (cl ++ [(4, (1, 0))] : List Cl).length ≤ 8; rw [List.length_append, List.length_singleton]; omega)
      obtain ⟨code, at_, seed⟩ := c
      exact ⟨p', c', Ev.step (fun k => spec_l1Cur_puzzle_l.eq k code at_ seed ByteArray.empty 0 0 [] rl w h cl) (Ev.bind e1 (Ev.yes (decide_eq_true (by rw [w64_of (by omega) (by omega)]; exact hc)) (Ev.yes (fits_of (by omega)) g1))), ⟨g2, g3⟩, by rw [show n + 2 * (m + 1) + 2 = n + 2 + 2 * m + 2 by omega]; exact g4⟩
    · obtain ⟨code, at_, seed⟩ := c
      exact ⟨(rl, w, h, cl), _, Ev.step (fun k => spec_l1Cur_puzzle_l.eq k code at_ seed ByteArray.empty 0 0 [] rl w h cl) (Ev.bind e1 (Ev.no (decide_eq_false (by rw [w64_of (by omega) (by omega)]; exact hc)) (Ev.now _))), ⟨rfl, hp⟩, H1.mono (by omega) (by omega)⟩
theorem puzzle_ev (n : Nat) (c : CurT) (H : CurOk n c) (hn : n + 2000 ≤ 1099511627776) : ∃ p c', Ev (fun k => spec_l1Cur_puzzle k c) (p, c') ∧ (p.1.size ≤ 10 ∧ p.2.2.2.length ≤ 8) ∧ CurOk (n + 500) c' := by
  obtain ⟨p, c1, e1, ⟨z1, z2⟩, H1⟩ := surePz_ev n c H (by omega)
  obtain ⟨r, c2, e2, _, _, H2⟩ := pick_ev _ c1 H1 (by omega) 12
  obtain ⟨x, c3, e3, _, H3⟩ := among_ev _ c2 H2 (by omega) [0, 1, 3, 9, 10, 4611686018427387904] (by decide)
  obtain ⟨d, c4, e4, H4⟩ := clue_ev _ c2 H2 (by omega)
  obtain ⟨q, c5, e5, ⟨q1, q2⟩, H5⟩ := many_l_ev 8 _ c2 p H2 (by omega) (by omega) (by omega)
  obtain ⟨u, c6, e6, hu, H6⟩ := rule_ev _ c2 H2 (by omega)
  obtain ⟨code, at_, seed⟩ := c
  have M2 := H2.mono (m := n + 500) (by omega) (by omega)
  have M3 := H3.mono (m := n + 500) (by omega) (by omega)
  have M4 := H4.mono (m := n + 500) (by omega) (by omega)
  have M5 := H5.mono (m := n + 500) (by omega) (by omega)
  have M6 := H6.mono (m := n + 500) (by omega) (by omega)
  cases r0 : r == 0 with
  | true => exact ⟨_, _, Ev.step (fun k => spec_l1Cur_puzzle.eq k code at_ seed) (Ev.bind e1 (Ev.bind e2 (Ev.yes r0 (Ev.bind e3 (Ev.now _))))), ⟨by show p.1.size ≤ 10; omega, by show p.2.2.2.length ≤ 8; omega⟩, M3⟩
  | false =>
  cases r1 : r == 1 with
  | true => exact ⟨_, _, Ev.step (fun k => spec_l1Cur_puzzle.eq k code at_ seed) (Ev.bind e1 (Ev.bind e2 (Ev.no r0 (Ev.yes r1 (Ev.bind e4 (Ev.yes (fits_of (by show (p.2.2.2.length + 1) * 24 < _; omega)) (Ev.now _))))))), ⟨by show p.1.size ≤ 10; omega, by show (p.2.2.2 ++ [d]).length ≤ 8; rw [List.length_append, List.length_singleton]; omega⟩, M4⟩
  | false =>
  cases r2 : r == 2 with
  | true => exact ⟨_, _, Ev.step (fun k => spec_l1Cur_puzzle.eq k code at_ seed) (Ev.bind e1 (Ev.bind e2 (Ev.no r0 (Ev.no r1 (Ev.yes r2 (Ev.bind e5 (Ev.now _))))))), ⟨by show q.1.size ≤ 10; rw [q1]; omega, q2⟩, M5⟩
  | false =>
  cases r3 : r == 3 with
  | true => exact ⟨_, _, Ev.step (fun k => spec_l1Cur_puzzle.eq k code at_ seed) (Ev.bind e1 (Ev.bind e2 (Ev.no r0 (Ev.no r1 (Ev.no r2 (Ev.yes r3 (Ev.bind e6 (Ev.now _)))))))), ⟨hu, by show p.2.2.2.length ≤ 8; omega⟩, M6⟩
  | false => exact ⟨_, _, Ev.step (fun k => spec_l1Cur_puzzle.eq k code at_ seed) (Ev.bind e1 (Ev.bind e2 (Ev.no r0 (Ev.no r1 (Ev.no r2 (Ev.no r3 (Ev.now _))))))), ⟨by show p.1.size ≤ 10; omega, by show p.2.2.2.length ≤ 8; omega⟩, M2⟩
theorem drawHard_l_ev (W : Wo) (H : HidO W) : ∀ (m i : Nat) (p : Pz), i + m = W.2.2.2.1.size → p.2.2.2.length ≤ 8 → ∃ cl', Ev (fun k => spec_DrawHarderPuzzle_l k (zeroP, W, p, (W.2.2.2.1, i))) (zeroP, p.1, p.2.1, p.2.2.1, cl') ∧ cl'.length ≤ 8
  | 0, i, (rl', w', h', cl), hi, hl => by
    obtain ⟨rl, w, h, cs, x, y, wy⟩ := W
    simp only at hi hl
    exact ⟨cl, Ev.step (fun k => spec_DrawHarderPuzzle_l.eq k ByteArray.empty 0 0 [] rl w h cs x y wy rl' w' h' cl cs i) (Ev.no (decide_eq_false (by omega)) (Ev.now _)), hl⟩
  | m + 1, i, (rl', w', h', cl), hi, hl => by
    obtain ⟨h1, h2, hW⟩ := hid_size H
    obtain ⟨rl, w, h, cs, x, y, wy⟩ := W
    simp only at hi hl h1 h2
    have hW' : WorldOk rl w h cs x y wy := hW
    obtain ⟨c, hc⟩ := byte_at (cs := cs) (i := i) (by omega)
    obtain ⟨c48, cti⟩ := hW'.2.2.2.2.1 c (List.mem_of_getElem? hc)
    have hr := rune_ascii hc (by omega)
    by_cases h6 : (cl.length : Int) < 6
    · obtain ⟨v, _, v2⟩ := value_ev rl w h cs x y wy hW' 0 (i : Int) (.inl ⟨rfl, by omega, by omega⟩)
      have ho : Ev (fun k => spec_pzOf k (0, (i : Int), (rl, w, h, cs, x, y, wy))) (0, (i : Int), v) := Ev.step (fun k => spec_pzOf.eq k 0 (i : Int) rl w h cs x y wy) (Ev.no rfl (Ev.bind v2 (Ev.now _)))
      obtain ⟨cl', g1, g2⟩ := drawHard_l_ev (rl, w, h, cs, x, y, wy) H m (i + 1) (rl', w', h', cl ++ [(0, (i : Int), v)]) (by simp only; omega) (by show (cl ++ [_]).length ≤ 8; rw [List.length_append, List.length_singleton]; omega)
      refine ⟨cl', Ev.step (fun k => spec_DrawHarderPuzzle_l.eq k ByteArray.empty 0 0 [] rl w h cs x y wy rl' w' h' cl cs i) (Ev.yes (decide_eq_true (by omega)) (Ev.yes (decide_eq_true h6) (Ev.bind ho (Ev.yes (fits_of (by omega)) ?_)))), g2⟩
      rw [hr]
      exact g1
    · obtain ⟨cl', g1, g2⟩ := drawHard_l_ev (rl, w, h, cs, x, y, wy) H m (i + 1) (rl', w', h', cl) (by simp only; omega) hl
      refine ⟨cl', Ev.step (fun k => spec_DrawHarderPuzzle_l.eq k ByteArray.empty 0 0 [] rl w h cs x y wy rl' w' h' cl cs i) (Ev.yes (decide_eq_true (by omega)) (Ev.no (decide_eq_false h6) ?_)), g2⟩
      rw [hr]
      exact g1
section
variable (code : List Int) (hc : ∀ x ∈ code, 0 ≤ x ∧ x ≤ 255)
include hc
theorem drawMake_ev : ∃ W n z, Ev (fun k => spec_DrawMakePuzzle k code) (W, n, z) ∧ W.1.size ≤ 1000 ∧ W.2.2.2.1.size ≤ 1000 := by
  obtain ⟨b, c1, e1, H1⟩ := one_ev 0 (code, 0, 0) (CurOk.start hc) (by omega) 12
  cases b with
  | true =>
    obtain ⟨W, c2, e2, ⟨z1, z2⟩, H2⟩ := world_ev _ c1 H1 (by omega)
    obtain ⟨a, c3, e3, _, H3⟩ := among_ev _ c2 H2 (by omega) [(-1), 6, 7] (by decide)
    obtain ⟨z, c4, e4, _, H4⟩ := among_ev _ c3 H3 (by omega) [(-1), 9999, 10000] (by decide)
    exact ⟨W, a, z, Ev.step (fun k => spec_DrawMakePuzzle.eq k code) (Ev.bind e1 (Ev.yes rfl (Ev.bind e2 (Ev.bind e3 (Ev.bind e4 (Ev.now _)))))), by omega, by omega⟩
  | false =>
    obtain ⟨W, c2, e2, hW, H2⟩ := hidden_ev _ c1 H1 (by omega)
    obtain ⟨a, c3, e3, _, _, H3⟩ := pick_ev _ c2 H2 (by omega) 7
    obtain ⟨z, c4, e4, _, _, H4⟩ := pick_ev _ c3 H3 (by omega) 10000
    obtain ⟨h1, h2, _⟩ := hid_size hW
    exact ⟨W, a, z, Ev.step (fun k => spec_DrawMakePuzzle.eq k code) (Ev.bind e1 (Ev.no rfl (Ev.bind e2 (Ev.bind e3 (Ev.bind e4 (Ev.now _)))))), by omega, by omega⟩
theorem drawHard_ev : ∃ p, Ev (fun k => spec_DrawHarderPuzzle k code) p ∧ p.1.size ≤ 10 ∧ p.2.2.2.length ≤ 8 := by
  obtain ⟨b, c1, e1, H1⟩ := one_ev 0 (code, 0, 0) (CurOk.start hc) (by omega) 4
  cases b with
  | true =>
    obtain ⟨p, c2, e2, ⟨z1, z2⟩, H2⟩ := puzzle_ev _ c1 H1 (by omega)
    exact ⟨p, Ev.step (fun k => spec_DrawHarderPuzzle.eq k code) (Ev.bind e1 (Ev.yes rfl (Ev.bind e2 (Ev.now _)))), z1, z2⟩
  | false =>
    obtain ⟨W, c2, e2, hW, H2⟩ := hidden_ev _ c1 H1 (by omega)
    obtain ⟨a, c3, e3, a0, a1, H3⟩ := pick_ev _ c2 H2 (by omega) 3
    obtain ⟨z, c4, e4, z0, z1, H4⟩ := pick_ev _ c3 H3 (by omega) 10000
    have a1 := a1 (by omega)
    have z1 := z1 (by omega)
    obtain ⟨P, p1, p2⟩ := madeS_ev W hW a z (by omega) (by omega)
    obtain ⟨h1, h2, _⟩ := hid_size hW
    obtain ⟨cl', g1, g2⟩ := drawHard_l_ev W hW W.2.2.2.1.size 0 (W.1, W.2.1, W.2.2.1, P) (by omega) (by show P.length ≤ 8; omega)
    exact ⟨_, Ev.step (fun k => spec_DrawHarderPuzzle.eq k code) (Ev.bind e1 (Ev.no rfl (Ev.bind e2 (Ev.bind e3 (Ev.bind e4 (Ev.bind p2 (Ev.bind g1 (Ev.now _)))))))), by show W.1.size ≤ 10; omega, g2⟩
theorem drawAdd_ev : ∃ p c, Ev (fun k => spec_DrawAddClue k code) (p, c) ∧ p.1.size ≤ 10 ∧ p.2.2.2.length ≤ 8 := by
  obtain ⟨p, c1, e1, ⟨z1, z2⟩, H1⟩ := puzzle_ev 0 (code, 0, 0) (CurOk.start hc) (by omega)
  obtain ⟨x, c2, e2, H2⟩ := clue_ev _ c1 H1 (by omega)
  exact ⟨p, x, Ev.step (fun k => spec_DrawAddClue.eq k code) (Ev.bind e1 (Ev.bind e2 (Ev.now _))), z1, z2⟩
theorem drawDrop_ev : ∃ p i, Ev (fun k => spec_DrawDropClue k code) (p, i) ∧ p.1.size ≤ 10 ∧ p.2.2.2.length ≤ 8 := by
  obtain ⟨p, c1, e1, ⟨z1, z2⟩, H1⟩ := puzzle_ev 0 (code, 0, 0) (CurOk.start hc) (by omega)
  obtain ⟨a, c2, e2, _, _, H2⟩ := pick_ev _ c1 H1 (by omega) 6
  obtain ⟨b, c3, e3, _, _, H3⟩ := pick_ev _ c2 H2 (by omega) 9
  exact ⟨p, _, Ev.step (fun k => spec_DrawDropClue.eq k code) (Ev.bind e1 (Ev.bind e2 (Ev.bind e3 (Ev.now _)))), z1, z2⟩
theorem drawFit_ev : ∃ x W, Ev (fun k => spec_DrawDoesFit k code) (x, W) ∧ W.1.size ≤ 1000 ∧ W.2.2.2.1.size ≤ 1000 := by
  obtain ⟨V, c1, e1, hV, H1⟩ := hidden_ev 0 (code, 0, 0) (CurOk.start hc) (by omega)
  obtain ⟨z, c2, e2, z0, z1, H2⟩ := pick_ev _ c1 H1 (by omega) 10000
  have z1 := z1 (by omega)
  obtain ⟨P, p1, p2⟩ := madeS_ev V hV 1 z (by omega) (by omega)
  obtain ⟨h1, h2, _⟩ := hid_size hV
  obtain ⟨b, c3, e3, H3⟩ := one_ev _ c2 H2 (by omega) 3
  cases b with
  | true => exact ⟨_, V, Ev.step (fun k => spec_DrawDoesFit.eq k code) (Ev.bind e1 (Ev.bind e2 (Ev.bind p2 (Ev.yes rfl (Ev.bind e3 (Ev.yes rfl (Ev.yes (inB_of (by omega) (by show (0 : Int) < ((P.length : Nat) : Int); omega)) (Ev.now _)))))))), by omega, by omega⟩
  | false =>
    obtain ⟨d, c4, e4, H4⟩ := one_ev _ c3 H3 (by omega) 8
    cases d with
    | true =>
      obtain ⟨W, c5, e5, ⟨w1, w2⟩, H5⟩ := world_ev _ c4 H4 (by omega)
      obtain ⟨x, c6, e6, H6⟩ := clue_ev _ c5 H5 (by omega)
      exact ⟨x, W, Ev.step (fun k => spec_DrawDoesFit.eq k code) (Ev.bind e1 (Ev.bind e2 (Ev.bind p2 (Ev.yes rfl (Ev.bind e3 (Ev.no rfl (Ev.bind e4 (Ev.yes rfl (Ev.bind e5 (Ev.bind e6 (Ev.now _))))))))))), w1, w2⟩
    | false =>
      obtain ⟨x, c5, e5, H5⟩ := clue_ev _ c4 H4 (by omega)
      exact ⟨x, V, Ev.step (fun k => spec_DrawDoesFit.eq k code) (Ev.bind e1 (Ev.bind e2 (Ev.bind p2 (Ev.yes rfl (Ev.bind e3 (Ev.no rfl (Ev.bind e4 (Ev.no rfl (Ev.bind e5 (Ev.now _)))))))))), by omega, by omega⟩
theorem drawIsClue_ev : ∃ rl n x, Ev (fun k => spec_DrawIsClue k code) (rl, n, x) ∧ rl.size ≤ 10 := by
  obtain ⟨b, c1, e1, H1⟩ := one_ev 0 (code, 0, 0) (CurOk.start hc) (by omega) 8
  cases b with
  | true =>
    obtain ⟨rl, c2, e2, hr, H2⟩ := rule_ev _ c1 H1 (by omega)
    obtain ⟨n, c3, e3, _, H3⟩ := among_ev _ c2 H2 (by omega) [0, 1, 9, 10, (-1)] (by decide)
    obtain ⟨a, c4, e4, _, _, H4⟩ := pick_ev _ c3 H3 (by omega) 6
    obtain ⟨d, c5, e5, _, _, H5⟩ := pick_ev _ c4 H4 (by omega) 9
    obtain ⟨f, c6, e6, _, H6⟩ := among_ev _ c5 H5 (by omega) [(-1), 0, 8, 9, 50, 51, 100, 101, 4611686018427387904] (by decide)
    obtain ⟨g, c7, e7, _, H7⟩ := among_ev _ c6 H6 (by omega) [(-1), 0, 3, 4, 9, 10] (by decide)
    exact ⟨rl, n, _, Ev.step (fun k => spec_DrawIsClue.eq k code) (Ev.bind e1 (Ev.yes rfl (Ev.bind e2 (Ev.bind e3 (Ev.bind e4 (Ev.bind e5 (Ev.bind e6 (Ev.bind e7 (Ev.now _))))))))), hr⟩
  | false =>
    obtain ⟨rl, c2, e2, _, hr, H2⟩ := sureRule_ev _ c1 H1 (by omega)
    obtain ⟨a, c3, e3, _, _, H3⟩ := pick_ev _ c2 H2 (by omega) 8
    obtain ⟨x, c4, e4, H4⟩ := clue_ev _ c3 H3 (by omega)
    exact ⟨rl, _, x, Ev.step (fun k => spec_DrawIsClue.eq k code) (Ev.bind e1 (Ev.no rfl (Ev.bind e2 (Ev.bind e3 (Ev.bind e4 (Ev.now _)))))), by omega⟩
theorem drawBoards_ev : ∃ rl w h, Ev (fun k => spec_DrawCountBoards k code) (rl, w, h) ∧ rl.size ≤ 10 := by
  obtain ⟨rl, c1, e1, hr, H1⟩ := rule_ev 0 (code, 0, 0) (CurOk.start hc) (by omega)
  obtain ⟨w, c2, e2, _, H2⟩ := among_ev _ c1 H1 (by omega) [1, 2, 3, 9, 10, 0] (by decide)
  obtain ⟨h, c3, e3, _, H3⟩ := among_ev _ c2 H2 (by omega) [1, 2, 3, 1, 2, (-1), 4611686018427387904] (by decide)
  exact ⟨rl, w, h, Ev.step (fun k => spec_DrawCountBoards.eq k code) (Ev.bind e1 (Ev.bind e2 (Ev.bind e3 (Ev.now _)))), hr⟩
end
end Go.Proofs.YtmdgodjcfhimbaaGreatDoorS
