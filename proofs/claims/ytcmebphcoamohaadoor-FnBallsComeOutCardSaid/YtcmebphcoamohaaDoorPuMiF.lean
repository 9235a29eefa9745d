/- Mirrors: the draws. -/
import Derived.Test.YtcmebphcoamohaaDoorPuMiE
import Derived.Test.YtcmebphcoamohaaDoorPuCur
namespace Go.Proofs.YtcmebphcoamohaaDoorS
open Go
set_option linter.unusedVariables false
set_option linter.unusedSimpArgs false
theorem CurOk.up {n m : Nat} {c : CurT} (h : CurOk n c) (hm : n ≤ m) (h' : m ≤ 1099511627776) : CurOk m c := by
  obtain ⟨h1, ⟨h2, h3⟩, h4⟩ := h
  exact ⟨h1, ⟨h2, by omega⟩, h'⟩
theorem sureMaze_l_ev (w h : Int) (tn : Bool) (hw : 1 ≤ w ∧ w ≤ 9) (hh : 1 ≤ h ∧ h ≤ 9) : ∀ (r n : Nat) (c : CurT) (cs : ByteArray), CurOk n c → n + 2 * r + 100 ≤ 1099511627776 → ((cs.size + r : Nat) : Int) = w * h → (∀ c ∈ cs.data.toList, SignM c) →
    ∃ s c', Ev (fun k => spec_l1Cur_sureMaze_l k (c, zeroMz, (w, h, cs, tn), ())) (zeroMz, (w, h, s, tn), c') ∧ MazeOk w h s ∧ CurOk (n + 2 * r) c'
  | 0, n, c, cs, H, hn, hs, hc => by
    obtain ⟨code, at_, seed⟩ := c
    refine ⟨cs, _, Ev.step (fun k => spec_l1Cur_sureMaze_l.eq k code at_ seed 0 0 ByteArray.empty false w h cs tn) (Ev.no (decide_eq_false (by rw [mw64 hw hh]; omega)) (Ev.now _)), ⟨hw, hh, hs, hc⟩, H⟩
  | r + 1, n, c, cs, H, hn, hs, hc => by
    have hm := mul_range hw.1 hw.2 hh.1 hh.2
    obtain ⟨t, c1, e1, ht, H1⟩ := of_ev n c H (by omega) [(bs [46]), (bs [90]), (bs [83])] (by decide)
    have h2 : t.size = 1 ∧ ∀ b ∈ t.data.toList, SignM b := by
      simp only [List.mem_cons, List.not_mem_nil, or_false] at ht
      rcases ht with rfl | rfl | rfl <;> exact ⟨rfl, fun b hb => by simp [bs] at hb; subst hb; simp [SignM]⟩
    have hz : (cs ++ t).size = cs.size + 1 := by rw [ByteArray.size_append, h2.1]
    obtain ⟨s, c2, e2, s1, H2⟩ := sureMaze_l_ev w h tn hw hh r (n + 2) c1 (cs ++ t) H1 (by omega) (by rw [hz]; omega) (fun b hb => by
      rw [append_list] at hb
      rcases List.mem_append.1 hb with hb | hb
      · exact hc b hb
      · exact h2.2 b hb)
    obtain ⟨code, at_, seed⟩ := c
    exact ⟨s, c2, Ev.step (fun k => spec_l1Cur_sureMaze_l.eq k code at_ seed 0 0 ByteArray.empty false w h cs tn) (Ev.yes (decide_eq_true (by rw [mw64 hw hh]; omega)) (Ev.bind e1 (Ev.yes (fitS_of (by simp only; omega)) e2))), s1, by rw [show n + 2 * (r + 1) = n + 2 + 2 * r by omega]; exact H2⟩
theorem sureMaze_ev (n : Nat) (c : CurT) (H : CurOk n c) (hn : n + 1000 ≤ 1099511627776) (most : Int) (hmost : 1 ≤ most ∧ most ≤ 9) : ∃ m c', Ev (fun k => spec_l1Cur_sureMaze k (c, most)) (m, c') ∧ OkMz m ∧ CurOk (n + 300) c' := by
  obtain ⟨r1, c1, e1, p1, q1, H1⟩ := pick_ev n c H (by omega) most
  obtain ⟨r2, c2, e2, p2, q2, H2⟩ := pick_ev _ c1 H1 (by omega) most
  have q1 := q1 hmost.1
  have q2 := q2 hmost.1
  obtain ⟨b, c3, e3, H3⟩ := one_ev _ c2 H2 (by omega) 2
  have w1 : w64 (1 + r1) = 1 + r1 := w64_of (by omega) (by omega)
  have w2 : w64 (1 + r2) = 1 + r2 := w64_of (by omega) (by omega)
  have hm := mul_range (a := 1 + r1) (b := 1 + r2) (by omega) (by omega) (by omega) (by omega)
  obtain ⟨s, c4, e4, s1, H4⟩ := sureMaze_l_ev (1 + r1) (1 + r2) b (by omega) (by omega) ((1 + r1) * (1 + r2)).toNat _ c3 ByteArray.empty H3 (by omega) (by show ((0 + _ : Nat) : Int) = _; omega) (fun c hc => by cases hc)
  obtain ⟨code, at_, seed⟩ := c
  refine ⟨(1 + r1, 1 + r2, s, b), c4, Ev.step (fun k => spec_l1Cur_sureMaze.eq k code at_ seed most) (Ev.bind e1 (Ev.bind e2 (Ev.bind e3 ?_))), s1, H4.up (by omega) (by omega)⟩
  simp only [w1, w2]
  exact Ev.bind e4 (Ev.now _)
theorem maze_ev (n : Nat) (c : CurT) (H : CurOk n c) (hn : n + 2000 ≤ 1099511627776) : ∃ m c', Ev (fun k => spec_l1Cur_maze k c) (m, c') ∧ m.2.2.1.size ≤ 1000 ∧ CurOk (n + 400) c' := by
  obtain ⟨M, c1, e1, HM, H1⟩ := sureMaze_ev n c H (by omega) 5 (by omega)
  have hz := HM.size
  obtain ⟨r, c2, e2, p, q, H2⟩ := pick_ev _ c1 H1 (by omega) 16
  obtain ⟨a, c4, e4, _, H4⟩ := among_ev _ c2 H2 (by omega) [(-1), 0, 1, 9, 10, 4611686018427387904] (by decide)
  obtain ⟨t, c5, e5, ht, H5⟩ := of_ev _ c2 H2 (by omega) [(bs [46]), (bs [120]), (bs [90])] (by decide)
  have ht1 : t.size ≤ 1 := by
    simp only [List.mem_cons, List.not_mem_nil, or_false] at ht
    rcases ht with rfl | rfl | rfl <;> decide
  obtain ⟨u, c6, e6, hu, H6⟩ := spoilt_ev _ c2 M.2.2.1 (bs [90, 83, 46, 120]) H2 (by omega) (by omega) (by decide)
  have hz2 : (M.2.2.1 ++ t).size = M.2.2.1.size + t.size := ByteArray.size_append
  obtain ⟨code, at_, seed⟩ := c
  by_cases r0 : r = 0
  · exact ⟨_, _, Ev.step (fun k => spec_l1Cur_maze.eq k code at_ seed) (Ev.bind e1 <| Ev.bind e2 <| Ev.yes (beq_iff_eq.2 r0) (Ev.bind e4 (Ev.now _))), by simp only; omega, H4.up (by omega) (by omega)⟩
  · have n0 := beq_eq_false_iff_ne.2 r0
    by_cases r1 : r = 1
    · exact ⟨_, _, Ev.step (fun k => spec_l1Cur_maze.eq k code at_ seed) (Ev.bind e1 <| Ev.bind e2 <| Ev.no n0 (Ev.yes (beq_iff_eq.2 r1) (Ev.bind e5 (Ev.yes (fitS_of (by simp only; omega)) (Ev.now _))))), by simp only; omega, H5.up (by omega) (by omega)⟩
    · have n1 := beq_eq_false_iff_ne.2 r1
      by_cases r2 : r = 2
      · exact ⟨_, _, Ev.step (fun k => spec_l1Cur_maze.eq k code at_ seed) (Ev.bind e1 <| Ev.bind e2 <| Ev.no n0 (Ev.no n1 (Ev.yes (beq_iff_eq.2 r2) (Ev.bind e6 (Ev.now _))))), by simp only; omega, H6.up (by omega) (by omega)⟩
      · exact ⟨_, _, Ev.step (fun k => spec_l1Cur_maze.eq k code at_ seed) (Ev.bind e1 <| Ev.bind e2 <| Ev.no n0 (Ev.no n1 (Ev.no (beq_eq_false_iff_ne.2 r2) (Ev.now _)))), by simp only; omega, H2.up (by omega) (by omega)⟩
theorem ball_ev (n : Nat) (c : CurT) (H : CurOk n c) (hn : n + 3000 ≤ 1099511627776) : ∃ m b c', Ev (fun k => spec_l1Cur_ball k c) ((m, b), c') ∧ m.2.2.1.size ≤ 1000 := by
  obtain ⟨M, c1, e1, hz, H1⟩ := maze_ev n c H (by omega)
  obtain ⟨g, eg, _⟩ := miGood_ev M.1 M.2.1 M.2.2.1 M.2.2.2 (by omega)
  obtain ⟨o, c2, e2, H2⟩ := one_ev _ c1 H1 (by omega) 14
  have out : ∀ (m : Nat) (c : CurT), CurOk m c → m + 100 ≤ 1099511627776 → ∃ a c3 x c4 y c5, Ev (fun k => spec_l1Cur_among k (c, [(-1), 0, 9, 4611686018427387904])) (a, c3) ∧ Ev (fun k => spec_l1Cur_pick k (c3, 3)) (x, c4) ∧ Ev (fun k => spec_l1Cur_pick k (c4, 6)) (y, c5) := fun m c Hc hm => by
    obtain ⟨a, c3, e3, _, H3⟩ := among_ev _ c Hc (by omega) [(-1), 0, 9, 4611686018427387904] (by decide)
    obtain ⟨x, c4, e4, _, _, H4⟩ := pick_ev _ c3 H3 (by omega) 3
    obtain ⟨y, c5, e5, _, _, H5⟩ := pick_ev _ c4 H4 (by omega) 6
    exact ⟨a, c3, x, c4, y, c5, e3, e4, e5⟩
  obtain ⟨code, at_, seed⟩ := c
  cases g with
  | false =>
    obtain ⟨a, c3, x, c4, y, c5, e3, e4, e5⟩ := out _ c1 H1 (by omega)
    exact ⟨M, _, _, Ev.step (fun k => spec_l1Cur_ball.eq k code at_ seed) (Ev.bind e1 (Ev.bind eg (Ev.yes rfl (Ev.bind e3 (Ev.bind e4 (Ev.bind e5 (Ev.now _))))))), hz⟩
  | true =>
    cases o with
    | true =>
      obtain ⟨a, c3, x, c4, y, c5, e3, e4, e5⟩ := out _ c2 H2 (by omega)
      exact ⟨M, _, _, Ev.step (fun k => spec_l1Cur_ball.eq k code at_ seed) (Ev.bind e1 (Ev.bind eg (Ev.no rfl (Ev.bind e2 (Ev.yes rfl (Ev.bind e3 (Ev.bind e4 (Ev.bind e5 (Ev.now _))))))))), hz⟩
    | false =>
      obtain ⟨x, c3, e3, _, _, H3⟩ := pick_ev _ c2 H2 (by omega) M.1
      obtain ⟨y, c4, e4, _, _, H4⟩ := pick_ev _ c3 H3 (by omega) M.2.1
      obtain ⟨z, c5, e5, _, _, H5⟩ := pick_ev _ c4 H4 (by omega) 4
      exact ⟨M, _, _, Ev.step (fun k => spec_l1Cur_ball.eq k code at_ seed) (Ev.bind e1 (Ev.bind eg (Ev.no rfl (Ev.bind e2 (Ev.no rfl (Ev.bind e3 (Ev.bind e4 (Ev.bind e5 (Ev.now _))))))))), hz⟩
theorem end_ev (n : Nat) (c : CurT) (H : CurOk n c) (hn : n + 3000 ≤ 1099511627776) : ∃ m e c', Ev (fun k => spec_l1Cur_end k c) ((m, e), c') ∧ m.2.2.1.size ≤ 1000 ∧ CurOk (n + 500) c' := by
  obtain ⟨M, c1, e1, hz, H1⟩ := maze_ev n c H (by omega)
  obtain ⟨g, eg, hg⟩ := miGood_ev M.1 M.2.1 M.2.2.1 M.2.2.2 (by omega)
  obtain ⟨o, c2, e2, H2⟩ := one_ev _ c1 H1 (by omega) 14
  obtain ⟨code, at_, seed⟩ := c
  cases g with
  | false =>
    obtain ⟨a, c3, e3, _, H3⟩ := among_ev _ c1 H1 (by omega) [(-1), 0, 36, 4611686018427387904] (by decide)
    exact ⟨M, _, _, Ev.step (fun k => spec_l1Cur_end.eq k code at_ seed) (Ev.bind e1 (Ev.bind eg (Ev.yes rfl (Ev.bind e3 (Ev.now _))))), hz, H3.up (by omega) (by omega)⟩
  | true =>
    cases o with
    | true =>
      obtain ⟨a, c3, e3, _, H3⟩ := among_ev _ c2 H2 (by omega) [(-1), 0, 36, 4611686018427387904] (by decide)
      exact ⟨M, _, _, Ev.step (fun k => spec_l1Cur_end.eq k code at_ seed) (Ev.bind e1 (Ev.bind eg (Ev.no rfl (Ev.bind e2 (Ev.yes rfl (Ev.bind e3 (Ev.now _))))))), hz, H3.up (by omega) (by omega)⟩
    | false =>
      have hM := hg.1 rfl
      obtain ⟨x, c3, e3, _, _, H3⟩ := pick_ev _ c2 H2 (by omega) (2 * (M.1 + M.2.1))
      exact ⟨M, _, _, Ev.step (fun k => spec_l1Cur_end.eq k code at_ seed) (Ev.bind e1 (Ev.bind eg (Ev.no rfl (Ev.bind e2 (Ev.no rfl (Ev.bind (miEnds_ev hM.1 hM.2.1 M.2.2.1 M.2.2.2) (Ev.bind e3 (Ev.now _)))))))), hz, H3.up (by omega) (by omega)⟩
end Go.Proofs.YtcmebphcoamohaaDoorS
