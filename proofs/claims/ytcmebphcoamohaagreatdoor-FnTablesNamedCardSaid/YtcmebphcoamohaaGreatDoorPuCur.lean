/- The draws' choices: each ends, with a number below its bound. -/
import Derived.Test.YtcmebphcoamohaaGreatDoorPuBase
namespace Go.Proofs.YtcmebphcoamohaaGreatDoorS
open Go
set_option linter.unusedVariables false
set_option linter.unusedSimpArgs false

abbrev CurT : Type := List Int × Int × Int
def CurOk (n : Nat) (c : CurT) : Prop := (∀ x ∈ c.1, 0 ≤ x ∧ x ≤ 255) ∧ (0 ≤ c.2.1 ∧ c.2.1 ≤ n) ∧ n ≤ 1099511627776
theorem CurOk.start {code : List Int} (h : ∀ x ∈ code, 0 ≤ x ∧ x ≤ 255) : CurOk 0 (code, 0, 0) := ⟨h, ⟨by show (0 : Int) ≤ 0; omega, by show (0 : Int) ≤ ((0 : Nat) : Int); omega⟩, by omega⟩
theorem and255 (x : Int) : 0 ≤ w64 (andI .u64 x 255) ∧ w64 (andI .u64 x 255) ≤ 255 := by
  have h : andI .u64 x 255 = ((BitVec.ofInt 64 x &&& BitVec.ofInt 64 255).toNat : Int) % 18446744073709551616 := by
    unfold andI
    simp only [IntKind.wrap, IntKind.bits, IntKind.signed]
    rfl
  have h2 : (BitVec.ofInt 64 x &&& BitVec.ofInt 64 255).toNat ≤ 255 := by
    rw [BitVec.toNat_and]
    exact Nat.and_le_right
  rw [h, Int.emod_eq_of_lt (by omega) (by omega), w64_of (by omega) (by omega)]
  omega
theorem next_ev (n : Nat) (c : CurT) (H : CurOk n c) (hn : n + 10 ≤ 1099511627776) : ∃ b c', Ev (fun k => spec_l1Cur_next k c) (b, c') ∧ (0 ≤ b ∧ b ≤ 255) ∧ CurOk (n + 1) c' := by
  obtain ⟨code, at_, seed⟩ := c
  obtain ⟨h1, ⟨h2, h3⟩, h4⟩ := H
  simp only at h1 h2 h3
  have e1 : w64 (at_ + 1) = at_ + 1 := w64_of (by omega) (by omega)
  have ok : ∀ z : Int, CurOk (n + 1) (code, w64 (at_ + 1), z) := fun z => ⟨h1, ⟨by show 0 ≤ w64 (at_ + 1); omega, by show w64 (at_ + 1) ≤ ((n + 1 : Nat) : Int); omega⟩, by omega⟩
  by_cases c1 : at_ < (code.length : Int)
  · have hi : inB at_ code.length = true := inB_of h2 c1
    obtain ⟨x, hx⟩ := nat_list (l := code) (i := at_.toNat) (by omega)
    have hg : code.getD at_.toNat default = x := getD_at hx
    obtain ⟨x0, x1⟩ := h1 x (List.mem_of_getElem? hx)
    exact ⟨w64 (code.getD at_.toNat default), _, Ev.step (fun k => spec_l1Cur_next.eq k code at_ seed) (Ev.yes (decide_eq_true c1) (Ev.yes hi (Ev.yes (decide_eq_true (by omega)) (Ev.now _)))), by rw [hg, w64_of (by omega) (by omega)]; exact ⟨x0, x1⟩, ok _⟩
  · exact ⟨_, _, Ev.step (fun k => spec_l1Cur_next.eq k code at_ seed) (Ev.no (decide_eq_false c1) (Ev.no (decide_eq_false (by omega)) (Ev.now _))), and255 _, ok _⟩
section
variable (n : Nat) (c : CurT) (H : CurOk n c) (hn : n + 40 ≤ 1099511627776)
include H hn
theorem pick_ev (m : Int) : ∃ r c', Ev (fun k => spec_l1Cur_pick k (c, m)) (r, c') ∧ 0 ≤ r ∧ (1 ≤ m → r < m) ∧ CurOk (n + 2) c' := by
  obtain ⟨b, c1, e1, ⟨b0, b1⟩, H1⟩ := next_ev n c H (by omega)
  obtain ⟨d, c2, e2, ⟨d0, d1⟩, H2⟩ := next_ev (n + 1) c1 H1 (by omega)
  obtain ⟨code, at_, seed⟩ := c
  have ok1 : ∀ {c : CurT}, CurOk (n + 1) c → CurOk (n + 2) c := fun ⟨h1, ⟨h2, h3⟩, h4⟩ => ⟨h1, ⟨h2, by omega⟩, by omega⟩
  by_cases c1' : m ≤ 1
  · exact ⟨0, _, Ev.step (fun k => spec_l1Cur_pick.eq k code at_ seed m) (Ev.yes (decide_eq_true c1') (Ev.now _)), by omega, fun _ => by omega, by obtain ⟨h1, ⟨h2, h3⟩, h4⟩ := H; exact ⟨h1, ⟨h2, by omega⟩, by omega⟩⟩
  · have hne : (m != 0) = true := by rw [bne_iff_ne]; omega
    by_cases c2' : m > 200
    · have e3 : w64 (w64 (b * 256) + d) = b * 256 + d := by rw [w64_of (n := b * 256) (by omega) (by omega), w64_of (by omega) (by omega)]
      refine ⟨_, c2, Ev.step (fun k => spec_l1Cur_pick.eq k code at_ seed m) (Ev.no (decide_eq_false c1') (Ev.bind e1 (Ev.yes (decide_eq_true c2') (Ev.bind e2 (Ev.yes hne (Ev.now _)))))), ?_, fun _ => ?_, H2⟩
      · show 0 ≤ (w64 (w64 (b * 256) + d)).tmod m
        rw [e3]
        exact Int.tmod_nonneg _ (by omega)
      · exact Int.tmod_lt_of_pos _ (by omega)
    · refine ⟨_, c1, Ev.step (fun k => spec_l1Cur_pick.eq k code at_ seed m) (Ev.no (decide_eq_false c1') (Ev.bind e1 (Ev.no (decide_eq_false c2') (Ev.yes hne (Ev.now _))))), ?_, fun _ => ?_, ok1 H1⟩
      · exact Int.tmod_nonneg _ b0
      · exact Int.tmod_lt_of_pos _ (by omega)
theorem one_ev (m : Int) : ∃ b c', Ev (fun k => spec_l1Cur_one k (c, m)) (b, c') ∧ CurOk (n + 2) c' := by
  obtain ⟨r, c', e, _, _, h⟩ := pick_ev n c H hn m
  obtain ⟨code, at_, seed⟩ := c
  exact ⟨_, c', Ev.step (fun k => spec_l1Cur_one.eq k code at_ seed m) (Ev.bind e (Ev.now _)), h⟩
theorem of_ev (l : List ByteArray) (hl : 1 ≤ l.length) : ∃ s c', Ev (fun k => spec_l1Cur_of k (c, l)) (s, c') ∧ s ∈ l ∧ CurOk (n + 2) c' := by
  obtain ⟨r, c', e, r0, r1, h⟩ := pick_ev n c H hn (l.length : Int)
  have r1 := r1 (by omega)
  obtain ⟨code, at_, seed⟩ := c
  obtain ⟨x, hx⟩ := nat_list (l := l) (i := r.toNat) (by omega)
  exact ⟨_, c', Ev.step (fun k => spec_l1Cur_of.eq k code at_ seed l) (Ev.bind e (Ev.yes (inB_of r0 r1) (Ev.now _))), by show l.getD r.toNat default ∈ l; rw [getD_at hx]; exact List.mem_of_getElem? hx, h⟩
theorem among_ev (l : List Int) (hl : 1 ≤ l.length) : ∃ s c', Ev (fun k => spec_l1Cur_among k (c, l)) (s, c') ∧ s ∈ l ∧ CurOk (n + 2) c' := by
  obtain ⟨r, c', e, r0, r1, h⟩ := pick_ev n c H hn (l.length : Int)
  have r1 := r1 (by omega)
  obtain ⟨code, at_, seed⟩ := c
  obtain ⟨x, hx⟩ := nat_list (l := l) (i := r.toNat) (by omega)
  exact ⟨_, c', Ev.step (fun k => spec_l1Cur_among.eq k code at_ seed l) (Ev.bind e (Ev.yes (inB_of r0 r1) (Ev.now _))), by show l.getD r.toNat default ∈ l; rw [getD_at hx]; exact List.mem_of_getElem? hx, h⟩
end
theorem spoilt_l_ev (wt : ByteArray) (hw : 1 ≤ wt.size) : ∀ (m n : Nat) (c : CurT) (t : ByteArray), CurOk n c → n + 6 * m + 40 ≤ 1099511627776 → t.size + m ≤ 1099511627776 → ∃ t' c', Ev (fun k => spec_l1Cur_spoilt_l k (c, t, wt, (m : Int), ())) (t', c') ∧ t'.size ≤ t.size + m ∧ CurOk (n + 6 * m) c'
  | 0, n, c, t, H, hn, ht => by
    obtain ⟨code, at_, seed⟩ := c
    exact ⟨t, _, Ev.step (fun k => spec_l1Cur_spoilt_l.eq k code at_ seed t wt 0) (Ev.no rfl (Ev.now _)), by omega, H⟩
  | m + 1, n, c, t, H, hn, ht => by
    have em : w64 (((m + 1 : Nat) : Int) - 1) = (m : Int) := by rw [w64_of (by omega) (by omega)]; omega
    have hpos : decide (((m + 1 : Nat) : Int) > 0) = true := decide_eq_true (by omega)
    obtain ⟨r, c1, e1, r0, r1, H1⟩ := pick_ev n c H (by omega) (t.size : Int)
    obtain ⟨s, c2, e2, s0, s1, H2⟩ := pick_ev _ c1 H1 (by omega) (wt.size : Int)
    obtain ⟨q, c3, e3, q0, q1, H3⟩ := pick_ev _ c2 H2 (by omega) 3
    have ih := fun t' h => spoilt_l_ev wt hw m (n + 6) c3 t' H3 (by omega) h
    have s1 := s1 (by omega)
    obtain ⟨code, at_, seed⟩ := c
    by_cases hz : (t.size : Int) > 0
    · have r1 := r1 (by omega)
      have i1 : inB s wt.size = true := inB_of s0 s1
      have a1 : ((decide ((0 : Int) ≤ r)) && (decide (r ≤ (t.size : Int)))) = true := by rw [decide_eq_true r0, decide_eq_true (by omega)]; rfl
      have er : w64 (r + 1) = r + 1 := w64_of (by omega) (by omega)
      have a2 : ((decide ((0 : Int) ≤ w64 (r + 1))) && (decide (w64 (r + 1) ≤ (t.size : Int)))) = true := by rw [er, decide_eq_true (by omega), decide_eq_true (by omega)]; rfl
      have z1 : ∀ n : Int, (ofBytes [n]).size = 1 := fun n => rfl
      have x1 : (t.extract 0 r.toNat).size = r.toNat := by rw [ByteArray.size_extract]; omega
      have x2 : (t.extract r.toNat t.size).size = t.size - r.toNat := by rw [ByteArray.size_extract]; omega
      have x3 : (t.extract (w64 (r + 1)).toNat t.size).size = t.size - (r.toNat + 1) := by rw [er, ByteArray.size_extract]; omega
      have f1 : ∀ z, fitS (t.extract 0 r.toNat) (ofBytes [z]) = true := fun z => fitS_of (by rw [z1, x1]; omega)
      by_cases q00 : q = 0
      · obtain ⟨t', c', g1, g2, g3⟩ := ih (((t.extract 0 r.toNat) ++ (ofBytes [(bt wt s.toNat)])) ++ (t.extract r.toNat t.size)) (by rw [ByteArray.size_append, ByteArray.size_append, x1, x2, z1]; omega)
        rw [ByteArray.size_append, ByteArray.size_append, x1, x2, z1] at g2
        refine ⟨t', c', Ev.step (fun k => spec_l1Cur_spoilt_l.eq k code at_ seed t wt ((m + 1 : Nat) : Int)) (Ev.yes hpos (Ev.yes (decide_eq_true hz) (Ev.bind e1 (Ev.bind e2 (Ev.yes i1 (Ev.bind e3 (Ev.yes (beq_iff_eq.2 q00) (Ev.yes a1 (Ev.yes (f1 _) (Ev.yes a1 (Ev.yes (fitS_of ?_) ?_))))))))))), by omega, by rw [show n + 6 * (m + 1) = n + 6 + 6 * m by omega]; exact g3⟩
        · show (_ ++ _ : ByteArray).size + _ < _
          rw [ByteArray.size_append, x1, x2, z1]
          omega
        · rw [em]
          exact g1
      · have qn : (q == 0) = false := beq_eq_false_iff_ne.2 q00
        by_cases q11 : q = 1
        · obtain ⟨t', c', g1, g2, g3⟩ := ih (((t.extract 0 r.toNat) ++ (ofBytes [(bt wt s.toNat)])) ++ (t.extract (w64 (r + 1)).toNat t.size)) (by rw [ByteArray.size_append, ByteArray.size_append, x1, x3, z1]; omega)
          rw [ByteArray.size_append, ByteArray.size_append, x1, x3, z1] at g2
          refine ⟨t', c', Ev.step (fun k => spec_l1Cur_spoilt_l.eq k code at_ seed t wt ((m + 1 : Nat) : Int)) (Ev.yes hpos (Ev.yes (decide_eq_true hz) (Ev.bind e1 (Ev.bind e2 (Ev.yes i1 (Ev.bind e3 (Ev.no qn (Ev.yes (beq_iff_eq.2 q11) (Ev.yes a1 (Ev.yes (f1 _) (Ev.yes a2 (Ev.yes (fitS_of ?_) ?_)))))))))))), by omega, by rw [show n + 6 * (m + 1) = n + 6 + 6 * m by omega]; exact g3⟩
          · show (_ ++ _ : ByteArray).size + _ < _
            rw [ByteArray.size_append, x1, x3, z1]
            omega
          · rw [em]
            exact g1
        · obtain ⟨t', c', g1, g2, g3⟩ := ih ((t.extract 0 r.toNat) ++ (t.extract (w64 (r + 1)).toNat t.size)) (by rw [ByteArray.size_append, x1, x3]; omega)
          rw [ByteArray.size_append, x1, x3] at g2
          refine ⟨t', c', Ev.step (fun k => spec_l1Cur_spoilt_l.eq k code at_ seed t wt ((m + 1 : Nat) : Int)) (Ev.yes hpos (Ev.yes (decide_eq_true hz) (Ev.bind e1 (Ev.bind e2 (Ev.yes i1 (Ev.bind e3 (Ev.no qn (Ev.no (beq_eq_false_iff_ne.2 q11) (Ev.yes a1 (Ev.yes a2 (Ev.yes (fitS_of ?_) ?_))))))))))), by omega, by rw [show n + 6 * (m + 1) = n + 6 + 6 * m by omega]; exact g3⟩
          · rw [x1, x3]
            omega
          · rw [em]
            exact g1
    · refine ⟨t, _, Ev.step (fun k => spec_l1Cur_spoilt_l.eq k code at_ seed t wt ((m + 1 : Nat) : Int)) (Ev.yes hpos (Ev.no (decide_eq_false hz) (Ev.now _))), by omega, ?_⟩
      obtain ⟨h1, ⟨h2, h3⟩, h4⟩ := H
      exact ⟨h1, ⟨h2, by omega⟩, by omega⟩
theorem spoilt_ev (n : Nat) (c : CurT) (t wt : ByteArray) (H : CurOk n c) (hn : n + 100 ≤ 1099511627776) (ht : t.size + 2 ≤ 1099511627776) (hw : 1 ≤ wt.size) : ∃ t' c', Ev (fun k => spec_l1Cur_spoilt k (c, t, wt)) (t', c') ∧ t'.size ≤ t.size + 2 ∧ CurOk (n + 14) c' := by
  obtain ⟨r, c1, e1, r0, r1, H1⟩ := pick_ev n c H (by omega) 2
  have r1 := r1 (by omega)
  obtain ⟨m, hm⟩ : ∃ m : Nat, 1 + r = (m : Int) := ⟨(1 + r).toNat, by omega⟩
  obtain ⟨t', c2, e2, h2, H2⟩ := spoilt_l_ev wt hw m (n + 2) c1 t H1 (by omega) (by omega)
  obtain ⟨code, at_, seed⟩ := c
  refine ⟨t', c2, Ev.step (fun k => spec_l1Cur_spoilt.eq k code at_ seed t wt) (Ev.bind e1 (Ev.bind ?_ (Ev.now _))), by omega, ?_⟩
  · show Ev (fun k => spec_l1Cur_spoilt_l k (c1, t, wt, w64 (1 + r), ())) _
    rw [w64_of (by omega) (by omega), hm]
    exact e2
  · obtain ⟨h1, ⟨h2, h3⟩, h4⟩ := H2
    exact ⟨h1, ⟨h2, by omega⟩, by omega⟩
theorem big_ev (code more : List Int) (h1 : code.length ≤ 9223372036854775807) (h2 : more.length ≤ 9223372036854775807) : ∃ b, Ev (fun k => laws_big k (code, more)) b ∧ (b = false → code.length ≤ 1048576 ∧ more.length ≤ 1048576) := by
  by_cases c1 : (code.length : Int) > 1048576
  · exact ⟨true, Ev.step (fun k => laws_big.eq k code more) (Ev.yes (decide_eq_true c1) (Ev.now _)), nofun⟩
  · have e1 := w64_of (n := 1048576 - (code.length : Int)) (by omega) (by omega)
    refine ⟨_, Ev.step (fun k => laws_big.eq k code more) (Ev.no (decide_eq_false c1) (Ev.now _)), fun h => ?_⟩
    have := of_decide_eq_false h
    rw [e1] at this
    omega
end Go.Proofs.YtcmebphcoamohaaGreatDoorS
