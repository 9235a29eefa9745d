/- The draws' choices: each ends, with a number below its bound. -/
import Derived.Test.YtiaagflfiphioaaDoorPuBase
namespace Go.Proofs.YtiaagflfiphioaaDoorS
open Go
set_option linter.unusedVariables false
set_option linter.unusedSimpArgs false

abbrev CurT : Type := List Int × Int × Int
def CurOk (n : Nat) (c : CurT) : Prop := (∀ x ∈ c.1, 0 ≤ x ∧ x ≤ 255) ∧ (0 ≤ c.2.1 ∧ c.2.1 ≤ n) ∧ n ≤ 1099511627776
theorem CurOk.start {code : List Int} (h : ∀ x ∈ code, 0 ≤ x ∧ x ≤ 255) : CurOk 0 (code, 0, 0) := ⟨h, ⟨by show (0 : Int) ≤ 0; omega, by show (0 : Int) ≤ ((0 : Nat) : Int); omega⟩, by omega⟩
theorem and255 (x : Int) : 0 ≤ w64 (andI .u64 x 255) ∧ w64 (andI .u64 x 255) ≤ 255 := by
  have h : andI .u64 x 255 = ((BitVec.ofInt 64 x &&& BitVec.ofInt 64 255).toNat : Int) % 18446744073709551616 := by
    unfold andI
    simp only [IntKind.wrap, IntKind.bits, IntKind.signed]
    rfl
  have h2 : (BitVec.ofInt 64 x &&& BitVec.ofInt 64 255).toNat ≤ 255 := by
    rw [BitVec.toNat_and]
    exact Nat.and_le_right
  rw [h, Int.emod_eq_of_lt (by omega) (by omega), w64_of (by omega) (by omega)]
  omega
theorem next_ev (n : Nat) (c : CurT) (H : CurOk n c) (hn : n + 10 ≤ 1099511627776) : ∃ b c', Ev (fun k => spec_l1Cur_next k c) (b, c') ∧ (0 ≤ b ∧ b ≤ 255) ∧ CurOk (n + 1) c' := by
  obtain ⟨code, at_, seed⟩ := c
  obtain ⟨h1, ⟨h2, h3⟩, h4⟩ := H
  simp only at h1 h2 h3
  have e1 : w64 (at_ + 1) = at_ + 1 := w64_of (by omega) (by omega)
  have ok : ∀ z : Int, CurOk (n + 1) (code, w64 (at_ + 1), z) := fun z => ⟨h1, ⟨by show 0 ≤ w64 (at_ + 1); omega, by show w64 (at_ + 1) ≤ ((n + 1 : Nat) : Int); omega⟩, by omega⟩
  by_cases c1 : at_ < (code.length : Int)
  · have hi : inB at_ code.length = true := inB_of h2 c1
    obtain ⟨x, hx⟩ := nat_list (l := code) (i := at_.toNat) (by omega)
    have hg : code.getD at_.toNat default = x := getD_at hx
    obtain ⟨x0, x1⟩ := h1 x (List.mem_of_getElem? hx)
    exact ⟨w64 (code.getD at_.toNat default), _, Ev.step (fun k => spec_l1Cur_next.eq k code at_ seed) (Ev.yes (decide_eq_true c1) (Ev.yes hi (Ev.yes (decide_eq_true (by omega)) (Ev.now _)))), by rw [hg, w64_of (by omega) (by omega)]; exact ⟨x0, x1⟩, ok _⟩
  · exact ⟨_, _, Ev.step (fun k => spec_l1Cur_next.eq k code at_ seed) (Ev.no (decide_eq_false c1) (Ev.no (decide_eq_false (by omega)) (Ev.now _))), and255 _, ok _⟩
section
variable (n : Nat) (c : CurT) (H : CurOk n c) (hn : n + 40 ≤ 1099511627776)
include H hn
theorem pick_ev (m : Int) : ∃ r c', Ev (fun k => spec_l1Cur_pick k (c, m)) (r, c') ∧ 0 ≤ r ∧ (1 ≤ m → r < m) ∧ CurOk (n + 2) c' := by
  obtain ⟨b, c1, e1, ⟨b0, b1⟩, H1⟩ := next_ev n c H (by omega)
  obtain ⟨d, c2, e2, ⟨d0, d1⟩, H2⟩ := next_ev (n + 1) c1 H1 (by omega)
  obtain ⟨code, at_, seed⟩ := c
  have ok1 : ∀ {c : CurT}, CurOk (n + 1) c → CurOk (n + 2) c := fun ⟨h1, ⟨h2, h3⟩, h4⟩ => ⟨h1, ⟨h2, by omega⟩, by omega⟩
  by_cases c1' : m ≤ 1
  · exact ⟨0, _, Ev.step (fun k => spec_l1Cur_pick.eq k code at_ seed m) (Ev.yes (decide_eq_true c1') (Ev.now _)), by omega, fun _ => by omega, by obtain ⟨h1, ⟨h2, h3⟩, h4⟩ := H; exact ⟨h1, ⟨h2, by omega⟩, by omega⟩⟩
  · have hne : (m != 0) = true := by rw [bne_iff_ne]; omega
    by_cases c2' : m > 200
    · have e3 : w64 (w64 (b * 256) + d) = b * 256 + d := by rw [w64_of (n := b * 256) (by omega) (by omega), w64_of (by omega) (by omega)]
      refine ⟨_, c2, Ev.step (fun k => spec_l1Cur_pick.eq k code at_ seed m) (Ev.no (decide_eq_false c1') (Ev.bind e1 (Ev.yes (decide_eq_true c2') (Ev.bind e2 (Ev.yes hne (Ev.now _)))))), ?_, fun _ => ?_, H2⟩
      · show 0 ≤ (w64 (w64 (b * 256) + d)).tmod m
        rw [e3]
        exact Int.tmod_nonneg _ (by omega)
      · exact Int.tmod_lt_of_pos _ (by omega)
    · refine ⟨_, c1, Ev.step (fun k => spec_l1Cur_pick.eq k code at_ seed m) (Ev.no (decide_eq_false c1') (Ev.bind e1 (Ev.no (decide_eq_false c2') (Ev.yes hne (Ev.now _))))), ?_, fun _ => ?_, ok1 H1⟩
      · exact Int.tmod_nonneg _ b0
      · exact Int.tmod_lt_of_pos _ (by omega)
theorem one_ev (m : Int) : ∃ b c', Ev (fun k => spec_l1Cur_one k (c, m)) (b, c') ∧ CurOk (n + 2) c' := by
  obtain ⟨r, c', e, _, _, h⟩ := pick_ev n c H hn m
  obtain ⟨code, at_, seed⟩ := c
  exact ⟨_, c', Ev.step (fun k => spec_l1Cur_one.eq k code at_ seed m) (Ev.bind e (Ev.now _)), h⟩
theorem among_ev (l : List Int) (hl : 1 ≤ l.length) : ∃ s c', Ev (fun k => spec_l1Cur_among k (c, l)) (s, c') ∧ s ∈ l ∧ CurOk (n + 2) c' := by
  obtain ⟨r, c', e, r0, r1, h⟩ := pick_ev n c H hn (l.length : Int)
  have r1 := r1 (by omega)
  obtain ⟨code, at_, seed⟩ := c
  obtain ⟨x, hx⟩ := nat_list (l := l) (i := r.toNat) (by omega)
  exact ⟨_, c', Ev.step (fun k => spec_l1Cur_among.eq k code at_ seed l) (Ev.bind e (Ev.yes (inB_of r0 r1) (Ev.now _))), by show l.getD r.toNat default ∈ l; rw [getD_at hx]; exact List.mem_of_getElem? hx, h⟩
end
theorem big_ev (code more : List Int) (h1 : code.length ≤ 9223372036854775807) (h2 : more.length ≤ 9223372036854775807) : ∃ b, Ev (fun k => laws_big k (code, more)) b ∧ (b = false → code.length ≤ 1048576 ∧ more.length ≤ 1048576) := by
  by_cases c1 : (code.length : Int) > 1048576
  · exact ⟨true, Ev.step (fun k => laws_big.eq k code more) (Ev.yes (decide_eq_true c1) (Ev.now _)), nofun⟩
  · have e1 := w64_of (n := 1048576 - (code.length : Int)) (by omega) (by omega)
    refine ⟨_, Ev.step (fun k => laws_big.eq k code more) (Ev.no (decide_eq_false c1) (Ev.now _)), fun h => ?_⟩
    have := of_decide_eq_false h
    rw [e1] at this
    omega
end Go.Proofs.YtiaagflfiphioaaDoorS
