/- Rules: the draws. -/
import Derived.Test.YtplamonjnlgomaaGreatDoorPuDigits
import Derived.Test.YtplamonjnlgomaaGreatDoorPuCur
namespace Go.Proofs.YtplamonjnlgomaaGreatDoorS
open Go
set_option linter.unusedVariables false
set_option linter.unusedSimpArgs false

theorem CurOk.mono {n m : Nat} {c : CurT} (h : CurOk n c) (hm : n ≤ m) (h' : m ≤ 1099511627776) : CurOk m c := by
  obtain ⟨h1, ⟨h2, h3⟩, h4⟩ := h
  exact ⟨h1, ⟨h2, by omega⟩, h'⟩
theorem sureRule_l_ev : ∀ (m n : Nat) (c : CurT) (out : ByteArray), CurOk n c → n + 2 * m + 100 ≤ 1099511627776 → out.size + m ≤ 1000 → (∀ b ∈ out.data.toList, SignC b) → ∃ s c', Ev (fun k => spec_l1Cur_sureRule_l k (c, out, (m : Int), ())) (s, c') ∧ s.size = out.size + m ∧ (∀ b ∈ s.data.toList, SignC b) ∧ CurOk (n + 2 * m) c'
  | 0, n, c, out, H, hn, ho, hs => by
    obtain ⟨code, at_, seed⟩ := c
    exact ⟨out, _, Ev.step (fun k => spec_l1Cur_sureRule_l.eq k code at_ seed out 0) (Ev.no rfl (Ev.now _)), rfl, hs, H⟩
  | m + 1, n, c, out, H, hn, ho, hs => by
    obtain ⟨t, c1, e1, ht, H1⟩ := of_ev n c H (by omega) [(bs [76]), (bs [82]), (bs [76]), (bs [82]), (bs [78]), (bs [85])] (by decide)
    have h2 : t.size = 1 ∧ ∀ b ∈ t.data.toList, SignC b := by
      simp only [List.mem_cons, List.not_mem_nil, or_false] at ht
      rcases ht with rfl | rfl | rfl | rfl | rfl | rfl <;> exact ⟨rfl, fun b hb => by simp [bs] at hb; subst hb; simp [SignC]⟩
    have hz : (out ++ t).size = out.size + 1 := by rw [ByteArray.size_append, h2.1]
    obtain ⟨s, c2, e2, s1, s2, H2⟩ := sureRule_l_ev m (n + 2) c1 (out ++ t) H1 (by omega) (by omega) (fun b hb => by
      rw [append_list] at hb
      rcases List.mem_append.1 hb with hb | hb
      · exact hs b hb
      · exact h2.2 b hb)
    obtain ⟨code, at_, seed⟩ := c
    refine ⟨s, c2, Ev.step (fun k => spec_l1Cur_sureRule_l.eq k code at_ seed out ((m + 1 : Nat) : Int)) (Ev.yes (decide_eq_true (by omega)) (Ev.bind e1 (Ev.yes (fitS_of (by show out.size + t.size < _; omega)) ?_))), by omega, s2, by rw [show n + 2 * (m + 1) = n + 2 + 2 * m by omega]; exact H2⟩
    rw [show w64 (((m + 1 : Nat) : Int) - 1) = (m : Int) by rw [w64_of (by omega) (by omega)]; omega]
    exact e2
theorem sureRule_ev (n : Nat) (c : CurT) (H : CurOk n c) (hn : n + 200 ≤ 1099511627776) : ∃ s c', Ev (fun k => spec_l1Cur_sureRule k c) (s, c') ∧ RuleOk s ∧ s.size ≤ 4 ∧ CurOk (n + 20) c' := by
  obtain ⟨b, c1, e1, H1⟩ := one_ev n c H (by omega) 3
  obtain ⟨r, c2, e2, r0, r1, H2⟩ := pick_ev _ c1 H1 (by omega) 4
  have r1 := r1 (by omega)
  obtain ⟨m, hm⟩ : ∃ m : Nat, 1 + r = (m : Int) := ⟨(1 + r).toNat, by omega⟩
  obtain ⟨s, c3, e3, s1, s2, H3⟩ := sureRule_l_ev m _ c2 ByteArray.empty H2 (by omega) (by show 0 + m ≤ _; omega) (fun b hb => by cases hb)
  have e4 : w64 (1 + r) = (m : Int) := by rw [w64_of (by omega) (by omega), hm]
  have s1 : s.size = 0 + m := s1
  obtain ⟨code, at_, seed⟩ := c
  cases b with
  | true => exact ⟨_, _, Ev.step (fun k => spec_l1Cur_sureRule.eq k code at_ seed) (Ev.bind e1 (Ev.yes rfl (Ev.now _))), ⟨by decide, fun b hb => by simp [bs] at hb; rcases hb with rfl | rfl <;> simp [SignC]⟩, by decide, H1.mono (by omega) (by omega)⟩
  | false =>
    refine ⟨s, c3, Ev.step (fun k => spec_l1Cur_sureRule.eq k code at_ seed) (Ev.bind e1 (Ev.no rfl (Ev.bind e2 ?_))), ⟨by omega, s2⟩, by omega, H3.mono (by omega) (by omega)⟩
    simp only [e4]
    exact Ev.bind e3 (Ev.now _)
end Go.Proofs.YtplamonjnlgomaaGreatDoorS
