/- Programs: the draws. -/
import Derived.Test.YtfklcheeoieniaaGreatPuMadeA
import Derived.Test.YtfklcheeoieniaaGreatPuMadeB
import Derived.Test.YtfklcheeoieniaaGreatPuCur
namespace Go.Proofs.YtfklcheeoieniaaGreatS
open Go
set_option linter.unusedVariables false
set_option linter.unusedSimpArgs false

theorem CurOk.mono {n m : Nat} {c : CurT} (h : CurOk n c) (hm : n ≤ m) (hb : m ≤ 1099511627776) : CurOk m c := ⟨h.1, ⟨h.2.1.1, by have := h.2.1.2; omega⟩, hb⟩
theorem surep_l_ev : ∀ (m n : Nat) (c : CurT) (s : ByteArray), CurOk n c → m ≤ 6 → n + 4 * m + 200 ≤ 1099511627776 → s.size + 2 * m ≤ 100 → ∃ s' c', Ev (fun k => spec_l1Cur_sureProgram_l k (c, s, (m : Int), ())) (s', c') ∧ s'.size ≤ s.size + 2 * m ∧ CurOk (n + 4 * m) c'
  | 0, n, c, s, H, hm, hn, hs => by
    obtain ⟨code, at_, seed⟩ := c
    exact ⟨s, _, Ev.step (fun k => spec_l1Cur_sureProgram_l.eq k code at_ seed s _) (Ev.no rfl (Ev.now _)), by omega, H⟩
  | m + 1, n, c, s, H, hm, hn, hs => by
    have em : w64 (((m + 1 : Nat) : Int) - 1) = (m : Int) := by rw [w64_of (by omega) (by omega)]; omega
    obtain ⟨r, c1, e1, r0, r1, H1⟩ := pick_ev n c H (by omega) 5
    have r1 := r1 (by omega)
    obtain ⟨t, c2, e2, ht, H2⟩ := of_ev (n + 2) c1 H1 (by omega) [(bs [76]), (bs [82]), (bs [82]), (bs [76]), (bs [78]), (bs [85])] (by decide)
    have zt : t.size = 1 := by
      simp only [List.mem_cons, List.not_mem_nil, or_false] at ht
      rcases ht with rfl | rfl | rfl | rfl | rfl | rfl <;> rfl
    have zn : (ofBytes [48 + r]).size = 1 := rfl
    have za : (ofBytes [48 + r] ++ t).size = 2 := by rw [ByteArray.size_append, zn, zt]
    obtain ⟨s', c', g1, g2, g3⟩ := surep_l_ev m (n + 4) c2 (s ++ (ofBytes [48 + r] ++ t)) H2 (by omega) (by omega) (by rw [ByteArray.size_append, za]; omega)
    rw [ByteArray.size_append, za] at g2
    obtain ⟨code, at_, seed⟩ := c
    refine ⟨s', c', Ev.step (fun k => spec_l1Cur_sureProgram_l.eq k code at_ seed s _) (Ev.yes (decide_eq_true (by omega)) (Ev.bind e1 (Ev.bind (l1Num_ev r (by omega)) (Ev.bind e2 (Ev.yes (fitS_of (by rw [zn, zt]; omega)) (Ev.yes (fitS_of (by rw [za]; omega)) ?_)))))), by omega, by rw [show n + 4 * (m + 1) = n + 4 + 4 * m by omega]; exact g3⟩
    rw [em]
    exact g1
theorem surep_ev (n : Nat) (c : CurT) (H : CurOk n c) (hn : n + 300 ≤ 1099511627776) : ∃ s c', Ev (fun k => spec_l1Cur_sureProgram k (c, 6)) (s, c') ∧ s.size ≤ 20 ∧ CurOk (n + 40) c' := by
  obtain ⟨b, c1, e1, H1⟩ := one_ev n c H (by omega) 4
  obtain ⟨r, c2, e2, r0, r1, H2⟩ := pick_ev (n + 2) c1 H1 (by omega) 6
  have r1 := r1 (by omega)
  obtain ⟨m, hm⟩ : ∃ m : Nat, 1 + r = (m : Int) := ⟨(1 + r).toNat, by omega⟩
  have ew : w64 (1 + r) = (m : Int) := by rw [w64_of (by omega) (by omega), hm]
  obtain ⟨code, at_, seed⟩ := c
  cases b with
  | true =>
    have hs := (spiral_ev [] (by decide) m (by omega) ⟨fun x hx => absurd hx (by simp), fun i x y hx => absurd hx (by simp)⟩).2
    have hz := enc_size (spiP m [])
    rw [spi_len] at hz
    refine ⟨enc (spiP m []), c2, Ev.step (fun k => spec_l1Cur_sureProgram.eq k code at_ seed 6) (Ev.bind e1 (Ev.yes rfl (Ev.bind e2 ?_))), by omega, H2.mono (by omega) (by omega)⟩
    rw [ew]
    exact Ev.bind hs (Ev.now _)
  | false =>
    have z0 : ByteArray.empty.size = 0 := rfl
    obtain ⟨s, c3, e3, z3, H3⟩ := surep_l_ev m (n + 4) c2 ByteArray.empty H2 (by omega) (by omega) (by omega)
    refine ⟨s, c3, Ev.step (fun k => spec_l1Cur_sureProgram.eq k code at_ seed 6) (Ev.bind e1 (Ev.no rfl (Ev.bind e2 ?_))), by omega, H3.mono (by omega) (by omega)⟩
    rw [ew]
    exact Ev.bind e3 (Ev.now _)
theorem program_ev (n : Nat) (c : CurT) (H : CurOk n c) (hn : n + 400 ≤ 1099511627776) : ∃ s c', Ev (fun k => spec_l1Cur_program k c) (s, c') ∧ s.size ≤ 100 ∧ CurOk (n + 50) c' := by
  obtain ⟨s, c1, e1, z1, H1⟩ := surep_ev n c H (by omega)
  obtain ⟨b, c2, e2, H2⟩ := one_ev (n + 40) c1 H1 (by omega) 10
  obtain ⟨t, c3, e3, ht, H3⟩ := of_ev (n + 42) c2 H2 (by omega) [ByteArray.empty, (bs [49]), (bs [82, 49]), (bs [49, 82, 50]), (bs [49, 88]), ((s ++ s) ++ s), (bs [49, 114])] (by simp)
  have zt : t.size ≤ 100 := by
    simp only [List.mem_cons, List.not_mem_nil, or_false] at ht
    rcases ht with rfl | rfl | rfl | rfl | rfl | rfl | rfl
    · decide
    · decide
    · decide
    · decide
    · decide
    · rw [ByteArray.size_append, ByteArray.size_append]; omega
    · decide
  obtain ⟨code, at_, seed⟩ := c
  cases b with
  | true => exact ⟨t, c3, Ev.step (fun k => spec_l1Cur_program.eq k code at_ seed) (Ev.bind e1 (Ev.bind e2 (Ev.yes rfl (Ev.yes (fitS_of (by show s.size + s.size < _; omega)) (Ev.yes (fitS_of (by show (s ++ s).size + s.size < _; rw [ByteArray.size_append]; omega)) (Ev.bind e3 (Ev.now _))))))), zt, H3.mono (by omega) (by omega)⟩
  | false => exact ⟨s, c2, Ev.step (fun k => spec_l1Cur_program.eq k code at_ seed) (Ev.bind e1 (Ev.bind e2 (Ev.no rfl (Ev.now _)))), by omega, H2.mono (by omega) (by omega)⟩
section
variable (code : List Int) (hc : ∀ x ∈ code, 0 ≤ x ∧ x ≤ 255)
include hc
theorem drawBackP_ev : ∃ s, Ev (fun k => spec_DrawBackProgram k code) s ∧ s.size ≤ 100 := by
  obtain ⟨s, c1, e1, z1, H1⟩ := program_ev 0 (code, 0, 0) (CurOk.start hc) (by omega)
  exact ⟨s, Ev.step (fun k => spec_DrawBackProgram.eq k code) (Ev.bind (Ev.step (fun k => spec_DrawIsProgram.eq k code) (Ev.bind e1 (Ev.now _))) (Ev.now _)), z1⟩
theorem drawJoin_ev : ∃ s t, Ev (fun k => spec_DrawJoinPrograms k code) (s, t) ∧ s.size ≤ 100 ∧ t.size ≤ 100 := by
  obtain ⟨s, c1, e1, z1, H1⟩ := program_ev 0 (code, 0, 0) (CurOk.start hc) (by omega)
  obtain ⟨t, c2, e2, z2, H2⟩ := program_ev _ c1 H1 (by omega)
  exact ⟨s, t, Ev.step (fun k => spec_DrawJoinPrograms.eq k code) (Ev.bind e1 (Ev.bind e2 (Ev.now _))), z1, z2⟩
theorem drawGrow_ev : ∃ s K, Ev (fun k => spec_DrawGrowProgram k code) (s, K) ∧ s.size ≤ 100 := by
  obtain ⟨s, c1, e1, z1, H1⟩ := program_ev 0 (code, 0, 0) (CurOk.start hc) (by omega)
  obtain ⟨K, c2, e2, hK, H2⟩ := among_ev _ c1 H1 (by omega) [1, 2, 3, 9, 10, 0, (-1)] (by decide)
  exact ⟨s, K, Ev.step (fun k => spec_DrawGrowProgram.eq k code) (Ev.bind e1 (Ev.bind e2 (Ev.now _))), z1⟩
end
theorem drawSpiral_l_ev (N : Nat) (hN : N ≤ 10) : ∀ (m j n : Nat) (c : CurT) (l : List Int), j + m = N + 1 → CurOk n c → n + 2 * m + 200 ≤ 1099511627776 → l.length ≤ j → ∃ c' l', Ev (fun k => spec_DrawSpiralProgram_l k (c, (N : Int), l, (j : Int))) (c', (N : Int), l') ∧ l'.length ≤ N + 1 ∧ CurOk (n + 2 * m) c'
  | 0, j, n, c, l, h, H, hn, hl => by
    obtain ⟨code, at_, seed⟩ := c
    exact ⟨_, l, Ev.step (fun k => spec_DrawSpiralProgram_l.eq k code at_ seed _ l _) (Ev.no (decide_eq_false (by omega)) (Ev.now _)), by omega, H⟩
  | m + 1, j, n, c, l, h, H, hn, hl => by
    obtain ⟨b, c1, e1, H1⟩ := one_ev n c H (by omega) 3
    obtain ⟨code, at_, seed⟩ := c
    cases b with
    | true =>
      obtain ⟨c', l', g1, g2, g3⟩ := drawSpiral_l_ev N hN m (j + 1) (n + 2) c1 (l ++ [(j : Int)]) (by omega) H1 (by omega) (by rw [List.length_append, List.length_singleton]; omega)
      refine ⟨c', l', Ev.step (fun k => spec_DrawSpiralProgram_l.eq k code at_ seed _ l _) (Ev.yes (decide_eq_true (by omega)) (Ev.bind e1 (Ev.yes rfl (Ev.yes (fits_of (by omega)) ?_)))), g2, by rw [show n + 2 * (m + 1) = n + 2 + 2 * m by omega]; exact g3⟩
      rw [w64_succ (by omega)]
      exact g1
    | false =>
      obtain ⟨c', l', g1, g2, g3⟩ := drawSpiral_l_ev N hN m (j + 1) (n + 2) c1 l (by omega) H1 (by omega) (by omega)
      refine ⟨c', l', Ev.step (fun k => spec_DrawSpiralProgram_l.eq k code at_ seed _ l _) (Ev.yes (decide_eq_true (by omega)) (Ev.bind e1 (Ev.no rfl ?_))), g2, by rw [show n + 2 * (m + 1) = n + 2 + 2 * m by omega]; exact g3⟩
      rw [w64_succ (by omega)]
      exact g1
theorem drawSpiral_ev (code : List Int) (hc : ∀ x ∈ code, 0 ≤ x ∧ x ≤ 255) : ∃ n l, Ev (fun k => spec_DrawSpiralProgram k code) (n, l) ∧ l.length ≤ 20 := by
  obtain ⟨n, c1, e1, hn, H1⟩ := among_ev 0 (code, 0, 0) (CurOk.start hc) (by omega) [1, 2, 3, 5, 9, 10, 0] (by decide)
  obtain ⟨N, hN, rfl⟩ : ∃ N : Nat, N ≤ 10 ∧ n = (N : Int) := by
    simp only [List.mem_cons, List.not_mem_nil, or_false] at hn
    exact ⟨n.toNat, by omega, by omega⟩
  obtain ⟨c2, l, e2, hl, H2⟩ := drawSpiral_l_ev N hN N 1 (0 + 2) c1 [] (by omega) H1 (by omega) (by decide)
  have H2 := H2.mono (m := 40) (by omega) (by omega)
  obtain ⟨b, c3, e3, H3⟩ := one_ev 40 c2 H2 (by omega) 10
  cases b with
  | true =>
    obtain ⟨z, c4, e4, _, _⟩ := among_ev 42 c3 H3 (by omega) [0, 1, (w64 ((N : Int) + 1)), (-1)] (by simp)
    exact ⟨_, _, Ev.step (fun k => spec_DrawSpiralProgram.eq k code) (Ev.bind e1 (Ev.bind e2 (Ev.bind e3 (Ev.yes rfl (Ev.bind e4 (Ev.yes (fits_of (by show (l.length + 1) * 8 < _; omega)) (Ev.now _))))))), by show (l ++ [z]).length ≤ 20; rw [List.length_append, List.length_singleton]; omega⟩
  | false => exact ⟨_, _, Ev.step (fun k => spec_DrawSpiralProgram.eq k code) (Ev.bind e1 (Ev.bind e2 (Ev.bind e3 (Ev.no rfl (Ev.now _))))), by show l.length ≤ 20; omega⟩
end Go.Proofs.YtfklcheeoieniaaGreatS
