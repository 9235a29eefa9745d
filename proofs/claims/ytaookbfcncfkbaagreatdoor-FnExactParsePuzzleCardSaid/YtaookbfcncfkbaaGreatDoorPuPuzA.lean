/- Puzzles: what is one. -/
import Derived.Test.YtaookbfcncfkbaaGreatDoorPuSize
namespace Go.Proofs.YtaookbfcncfkbaaGreatDoorS
open Go
set_option linter.unusedVariables false
set_option linter.unusedSimpArgs false
def ClueOk (rl : ByteArray) (n : Int) (c : Cl) : Prop := (c.1 = 0 ∧ (0 ≤ c.2.1 ∧ c.2.1 ≤ n - 1) ∧ (0 ≤ c.2.2 ∧ c.2.2 ≤ (rl.size : Int) - 1)) ∨ (c.1 = 1 ∧ (0 ≤ c.2.1 ∧ c.2.1 ≤ 50) ∧ (0 ≤ c.2.2 ∧ c.2.2 ≤ n - 1)) ∨
  (c.1 = 2 ∧ (0 ≤ c.2.1 ∧ c.2.1 ≤ 50) ∧ (0 ≤ c.2.2 ∧ c.2.2 ≤ 3)) ∨ (c.1 = 3 ∧ (0 ≤ c.2.1 ∧ c.2.1 ≤ 50) ∧ (0 ≤ c.2.2 ∧ c.2.2 ≤ n)) ∨ (c.1 = 4 ∧ (0 ≤ c.2.1 ∧ c.2.1 ≤ 100) ∧ c.2.2 = 0)
-- @if spec_pzFits impl_Clue_fits
theorem pzClue_ev (rl : ByteArray) (n : Int) (c : Cl) (hr : rl.size ≤ 100) (hn : 1 ≤ n ∧ n ≤ 100) : EvB (fun k => spec_pzClue k (rl, n, c)) (ClueOk rl n c) := by
  obtain ⟨kind, a, b⟩ := c
  refine EvB.step (fun k => spec_pzClue.eq k rl n kind a b) ?_
  have e1 : w64 (n - 1) = n - 1 := w64_of (by omega) (by omega)
  have e2 : w64 ((rl.size : Int) - 1) = (rl.size : Int) - 1 := w64_of (by omega) (by omega)
  rw [e1, e2]
  have no : ∀ {z : Int}, kind ≠ z → (kind == z) = false := fun {z} h => by rw [beq_eq_false_iff_ne]; exact h
  unfold ClueOk
  simp only
  by_cases k0 : kind = 0
  · obtain ⟨v, v1, v2⟩ := EvB.and (l1In_ev a 0 (n - 1)) fun _ => (l1In_ev b 0 ((rl.size : Int) - 1)).ret
    exact ⟨v, Ev.yes (beq_iff_eq.2 k0) v1, v2.trans (by constructor <;> intro <;> omega)⟩
  by_cases k1 : kind = 1
  · obtain ⟨v, v1, v2⟩ := EvB.and (l1In_ev a 0 50) fun _ => (l1In_ev b 0 (n - 1)).ret
    exact ⟨v, Ev.no (no k0) (Ev.yes (beq_iff_eq.2 k1) v1), v2.trans (by constructor <;> intro <;> omega)⟩
  by_cases k2 : kind = 2
  · obtain ⟨v, v1, v2⟩ := EvB.and (l1In_ev a 0 50) fun _ => (l1In_ev b 0 3).ret
    exact ⟨v, Ev.no (no k0) (Ev.no (no k1) (Ev.yes (beq_iff_eq.2 k2) v1)), v2.trans (by constructor <;> intro <;> omega)⟩
  by_cases k3 : kind = 3
  · obtain ⟨v, v1, v2⟩ := EvB.and (l1In_ev a 0 50) fun _ => (l1In_ev b 0 n).ret
    exact ⟨v, Ev.no (no k0) (Ev.no (no k1) (Ev.no (no k2) (Ev.yes (beq_iff_eq.2 k3) v1))), v2.trans (by constructor <;> intro <;> omega)⟩
  by_cases k4 : kind = 4
  · obtain ⟨v, v1, v2⟩ := EvB.and (l1In_ev a 0 100) fun _ => EvB.val (b := (b == 0)) (P := b = 0) beq_iff_eq
    exact ⟨v, Ev.no (no k0) (Ev.no (no k1) (Ev.no (no k2) (Ev.no (no k3) (Ev.yes (beq_iff_eq.2 k4) v1)))), v2.trans (by constructor <;> intro <;> omega)⟩
  · exact ⟨false, Ev.no (no k0) (Ev.no (no k1) (Ev.no (no k2) (Ev.no (no k3) (Ev.no (no k4) (Ev.now _))))), ⟨nofun, fun q => by omega⟩⟩
theorem isClue_ev (rl : ByteArray) (n : Int) (c : Cl) (hr : rl.size ≤ 9223372036854775807) : EvB (fun k => impl_IsClue k (rl, n, c)) (RuleOk rl ∧ (1 ≤ n ∧ n ≤ 9) ∧ ClueOk rl n c) := by
  obtain ⟨kind, a, b⟩ := c
  refine EvB.step (fun k => impl_IsClue.eq k rl n kind a b) (EvB.and' (isRuleR_ev rl hr) fun hR => EvB.and' (within_ev n 1 9) fun hn => ?_)
  have hr6 := hR.1.2
  have e1 : w64 (n - 1) = n - 1 := w64_of (by omega) (by omega)
  have e2 : w64 ((rl.size : Int) - 1) = (rl.size : Int) - 1 := w64_of (by omega) (by omega)
  rw [e1, e2]
  obtain ⟨b3, h3, q3⟩ := within_ev a 0 50
  have no : ∀ {z : Int}, kind ≠ z → (kind == z) = false := fun {z} h => by rw [beq_eq_false_iff_ne]; exact h
  unfold ClueOk
  simp only
  by_cases k0 : kind = 0
  · obtain ⟨v, v1, v2⟩ := EvB.and (within_ev a 0 (n - 1)) fun _ => (within_ev b 0 ((rl.size : Int) - 1)).ret
    exact ⟨v, Ev.bind h3 (Ev.yes (beq_iff_eq.2 k0) v1), v2.trans (by constructor <;> intro <;> omega)⟩
  by_cases k1 : kind = 1
  · obtain ⟨v, v1, v2⟩ := EvB.ifT q3 fun _ => (within_ev b 0 (n - 1)).ret
    exact ⟨v, Ev.bind h3 (Ev.no (no k0) (Ev.yes (beq_iff_eq.2 k1) v1)), v2.trans (by constructor <;> intro <;> omega)⟩
  by_cases k2 : kind = 2
  · obtain ⟨v, v1, v2⟩ := EvB.ifT q3 fun _ => EvB.ret (g := fun k => impl_isWay k b) (EvB.step (fun k => impl_isWay.eq k b) (within_ev b 0 3).ret)
    exact ⟨v, Ev.bind h3 (Ev.no (no k0) (Ev.no (no k1) (Ev.yes (beq_iff_eq.2 k2) v1))), v2.trans (by constructor <;> intro <;> omega)⟩
  by_cases k3 : kind = 3
  · obtain ⟨v, v1, v2⟩ := EvB.ifT q3 fun _ => (within_ev b 0 n).ret
    exact ⟨v, Ev.bind h3 (Ev.no (no k0) (Ev.no (no k1) (Ev.no (no k2) (Ev.yes (beq_iff_eq.2 k3) v1)))), v2.trans (by constructor <;> intro <;> omega)⟩
  by_cases k4 : kind = 4
  · obtain ⟨v, v1, v2⟩ := EvB.and (within_ev a 0 100) fun _ => EvB.val (b := (b == 0)) (P := b = 0) beq_iff_eq
    exact ⟨v, Ev.bind h3 (Ev.no (no k0) (Ev.no (no k1) (Ev.no (no k2) (Ev.no (no k3) (Ev.yes (beq_iff_eq.2 k4) v1))))), v2.trans (by constructor <;> intro <;> omega)⟩
  · exact ⟨false, Ev.bind h3 (Ev.no (no k0) (Ev.no (no k1) (Ev.no (no k2) (Ev.no (no k3) (Ev.no (no k4) (Ev.now _)))))), ⟨nofun, fun q => by omega⟩⟩
/-! ### Puzzles -/
def PuzOk (rl : ByteArray) (w h : Int) (cl : List Cl) : Prop := SizeOk rl w h ∧ cl.length ≤ 6 ∧ ∀ c ∈ cl, ClueOk rl (w * h) c
section
variable (rl : ByteArray) (w h : Int) (cl : List Cl) (hrl : rl.size ≤ 9223372036854775807)
theorem pzGood_ev : EvB (fun k => spec_pzGood k (rl, w, h, cl)) (PuzOk rl w h cl) := by
  refine EvB.step (fun k => spec_pzGood.eq k rl w h cl) (EvB.and' (pzSize_ev rl w h) fun hS => EvB.ifN (P := cl.length ≤ 6) (by rw [decide_eq_false_iff_not]; omega) fun hl => ?_)
  have hm := mul_range (a := w) (b := h) (by have := hS.2.1; omega) (by have := hS.2.1; omega) (by have := hS.2.2.1; omega) (by have := hS.2.2.1; omega)
  have e64 : w64 (w * h) = w * h := w64_of (by omega) (by omega)
  have test : ∀ c : Cl, EvB (fun k => spec_pzClue k (rl, w * h, c)) (ClueOk rl (w * h) c) := fun c => pzClue_ev rl (w * h) c (by have := hS.1.1; omega) (by omega)
  have step : ∀ (i : Nat) (c : Cl), cl[i]? = some c → ∀ r, Ev (fun k => (spec_pzClue k (rl, w * h, c)).bind fun r1 => cond (!r1) (some (.inl false)) (spec_pzGood_l k ((rl, w, h, cl), (), (cl.length : Int), w64 ((i : Int) + 1)))) r → Ev (fun k => spec_pzGood_l k ((rl, w, h, cl), (), (cl.length : Int), (i : Int))) r := fun i c hx r Hr => by
    have hi := (List.getElem?_eq_some_iff.1 hx).1
    exact Ev.step (fun k => spec_pzGood_l.eq k rl w h cl (cl.length : Int) (i : Int)) (Ev.yes (lt_nat hi) (Ev.yes (inB_nat hi) (by rw [Int.toNat_natCast, getD_at hx, e64]; exact Hr)))
  have srch := Ev.search (L := fun k i => spec_pzGood_l k ((rl, w, h, cl), (), (cl.length : Int), i)) (n := cl.length) (fun i => ∃ c, cl[i]? = some c ∧ ¬ ClueOk rl (w * h) c) (fun i => .inl false) (.inr ())
    (fun i hi hp r Hr => by
      obtain ⟨c, hx⟩ := nat_list hi
      have hf : ClueOk rl (w * h) c := Classical.byContradiction fun hn => hp ⟨c, hx, hn⟩
      exact step i c hx r (Ev.bind ((test c).isT hf) (Ev.no rfl (by rw [w64_succ (by omega)]; exact Hr))))
    (fun i hi hp => by
      obtain ⟨c, hx, hn⟩ := hp
      exact step i c hx _ (Ev.bind ((test c).isF hn) (Ev.yes rfl (Ev.now _))))
    (Ev.step (fun k => spec_pzGood_l.eq k rl w h cl (cl.length : Int) (cl.length : Int)) (Ev.no (not_lt_nat (Nat.lt_irrefl _)) (Ev.now _))) cl.length 0 (by omega)
  rcases srch with ⟨h1, h2⟩ | ⟨j, _, hj, ⟨c, hx, hn⟩, _, h2⟩
  · refine ⟨true, Ev.bind h2 (Ev.now _), ⟨fun _ c hm => ?_, fun _ => rfl⟩⟩
    obtain ⟨i, hi⟩ := List.mem_iff_getElem?.1 hm
    exact Classical.byContradiction fun hn => h1 i (Nat.zero_le _) (List.getElem?_eq_some_iff.1 hi).1 ⟨c, hi, hn⟩
  · exact ⟨false, Ev.bind h2 (Ev.now _), ⟨nofun, fun q => absurd (q c (List.mem_of_getElem? hx)) hn⟩⟩
include hrl
theorem isPuzzle_ev : EvB (fun k => impl_IsPuzzle k (rl, w, h, cl)) (PuzOk rl w h cl) := by
  obtain ⟨n, b, c1, c2⟩ := countBoards_ev rl w h hrl
  cases b with
  | false => exact ⟨false, Ev.step (fun k => impl_IsPuzzle.eq k rl w h cl) (Ev.bind c1 (Ev.yes rfl (Ev.now _))), ⟨nofun, fun q => by have := c2.2 q.1; cases this⟩⟩
  | true =>
    have hS := c2.1 rfl
    have hm := mul_range (a := w) (b := h) (by have := hS.2.1; omega) (by have := hS.2.1; omega) (by have := hS.2.2.1; omega) (by have := hS.2.2.1; omega)
    have e64 : w64 (w * h) = w * h := w64_of (by omega) (by omega)
    have body : EvB (fun k => cond (decide ((cl.length : Int) > 6)) (some false) ((slices_ContainsFunc k (cl, (rl, w, h, ()))).bind fun r2 => some (!r2))) (cl.length ≤ 6 ∧ ∀ c ∈ cl, ClueOk rl (w * h) c) := by
      refine EvB.ifN (P := cl.length ≤ 6) (by rw [decide_eq_false_iff_not]; omega) fun hl => ?_
      have test : ∀ c : Cl, EvB (fun k => impl_IsPuzzle_1 k (c, (rl, w, h, cl))) (¬ ClueOk rl (w * h) c) := fun c =>
        EvB.step (fun k => impl_IsPuzzle_1.eq k c.1 c.2.1 c.2.2 rl w h cl) (by
          rw [e64]
          exact (isClue_ev rl (w * h) c hrl).neg.iff ⟨fun q z => q ⟨hS.1, by have := hS.2.2.2.1; omega, z⟩, fun q z => q z.2.2⟩)
      have step : ∀ (i : Nat) (c : Cl), cl[i]? = some c → ∀ r, Ev (fun k => (impl_IsPuzzle_1 k (c, (rl, w, h, cl))).bind fun r1 => cond r1 (some (.inl (i : Int))) (slices_IndexFunc_l k (cl, (rl, w, h, ()), (cl.length : Int), w64 ((i : Int) + 1)))) r → Ev (fun k => slices_IndexFunc_l k (cl, (rl, w, h, ()), (cl.length : Int), (i : Int))) r := fun i c hx r Hr => by
        have hi := (List.getElem?_eq_some_iff.1 hx).1
        exact Ev.step (fun k => slices_IndexFunc_l.eq k cl rl w h (cl.length : Int) (i : Int)) (Ev.yes (lt_nat hi) (Ev.yes (inB_nat hi) (by rw [Int.toNat_natCast, getD_at hx]; exact Hr)))
      have srch := Ev.search (L := fun k i => slices_IndexFunc_l k (cl, (rl, w, h, ()), (cl.length : Int), i)) (n := cl.length) (fun i => ∃ c, cl[i]? = some c ∧ ¬ ClueOk rl (w * h) c) (fun i => .inl (i : Int)) (.inr ())
        (fun i hi hp r Hr => by
          obtain ⟨c, hx⟩ := nat_list hi
          have hf : ClueOk rl (w * h) c := Classical.byContradiction fun hn => hp ⟨c, hx, hn⟩
          exact step i c hx r (Ev.bind ((test c).isF fun q => q hf) (Ev.no rfl (by rw [w64_succ (by omega)]; exact Hr))))
        (fun i hi hp => by
          obtain ⟨c, hx, hn⟩ := hp
          exact step i c hx _ (Ev.bind ((test c).isT hn) (Ev.yes rfl (Ev.now _))))
        (Ev.step (fun k => slices_IndexFunc_l.eq k cl rl w h (cl.length : Int) (cl.length : Int)) (Ev.no (not_lt_nat (Nat.lt_irrefl _)) (Ev.now _))) cl.length 0 (by omega)
      have go : ∀ r, Ev (fun k => (slices_IndexFunc_l k (cl, (rl, w, h, ()), (cl.length : Int), ((0 : Nat) : Int))).bind fun r1 => r1.elim (fun r2 => some r2) (fun r3 => some (-1))) r → Ev (fun k => slices_ContainsFunc k (cl, (rl, w, h, ()))) (decide (r ≥ 0)) := fun r Hr =>
        Ev.step (fun k => slices_ContainsFunc.eq k cl rl w h) (Ev.bind (Ev.step (fun k => slices_IndexFunc.eq k cl rl w h) Hr) (Ev.now _))
      rcases srch with ⟨h1, h2⟩ | ⟨j, _, hj, ⟨c, hx, hn⟩, _, h2⟩
      · refine ⟨_, Ev.bind (go _ (Ev.bind h2 (Ev.now _))) (Ev.now _), ⟨fun _ c hm => ?_, fun _ => by simp⟩⟩
        obtain ⟨i, hi⟩ := List.mem_iff_getElem?.1 hm
        exact Classical.byContradiction fun hn => h1 i (Nat.zero_le _) (List.getElem?_eq_some_iff.1 hi).1 ⟨c, hi, hn⟩
      · refine ⟨_, Ev.bind (go _ (Ev.bind h2 (Ev.now _))) (Ev.now _), ⟨fun q => ?_, fun q => absurd (q c (List.mem_of_getElem? hx)) hn⟩⟩
        rw [decide_eq_true (by omega)] at q
        cases q
    obtain ⟨v, v1, v2⟩ := body
    exact ⟨v, Ev.step (fun k => impl_IsPuzzle.eq k rl w h cl) (Ev.bind c1 (Ev.no rfl v1)), v2.trans ⟨fun q => ⟨hS, q⟩, fun q => q.2⟩⟩
end
end Go.Proofs.YtaookbfcncfkbaaGreatDoorS
