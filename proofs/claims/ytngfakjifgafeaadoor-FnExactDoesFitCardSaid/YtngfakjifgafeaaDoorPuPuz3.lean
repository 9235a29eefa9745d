/- Puzzles: what is one; the laws' helpers. -/
import Derived.Test.YtngfakjifgafeaaDoorPuPuz2
namespace Go.Proofs.YtngfakjifgafeaaDoorS
open Go
set_option linter.unusedVariables false
set_option linter.unusedSimpArgs false

theorem natmul (a b : Nat) : (a : Int) * (b : Int) = ((a * b : Nat) : Int) := (Int.natCast_mul a b).symm
theorem power_ev (rl : ByteArray) (ht : 1 ≤ rl.size ∧ rl.size ≤ 6) (N : Nat) (hN : N ≤ 100) : ∃ r : Int, Ev (fun k => spec_pzPower k (rl, (N : Int))) r ∧ (r > 0 ↔ rl.size ^ N ≤ 300) := by
  have loop : ∀ (m n : Nat), m ≤ 100 → 1 ≤ n → n ≤ 300 → (Ev (fun k => spec_pzPower_l k (rl, (m : Int), (n : Int))) (.inl 0) ∧ 300 < n * rl.size ^ m) ∨ (∃ v : Nat, 0 < v ∧ Ev (fun k => spec_pzPower_l k (rl, (m : Int), (n : Int))) (.inr (v : Int)) ∧ n * rl.size ^ m ≤ 300) := by
    intro m
    induction m with
    | zero =>
      intro n _ h1 h2
      exact .inr ⟨n, h1, Ev.step (fun k => spec_pzPower_l.eq k rl 0 (n : Int)) (Ev.no rfl (Ev.now _)), by simpa using h2⟩
    | succ m ih =>
      intro n hm h1 h2
      have hb : n * rl.size ≤ 300 * 6 := Nat.mul_le_mul h2 ht.2
      have h0 : 1 * 1 ≤ n * rl.size := Nat.mul_le_mul h1 ht.1
      have e : w64 ((n : Int) * (rl.size : Int)) = ((n * rl.size : Nat) : Int) := by rw [natmul, w64_of (by omega) (by omega)]
      have hpow : n * rl.size ^ (m + 1) = n * rl.size * rl.size ^ m := by rw [Nat.pow_succ, Nat.mul_comm (rl.size ^ m) rl.size, Nat.mul_assoc]
      have hge : 1 ≤ rl.size ^ m := Nat.one_le_pow _ _ (by omega)
      have go : ∀ r, Ev (fun k => cond (decide (((n * rl.size : Nat) : Int) > 300)) (some (.inl 0)) (spec_pzPower_l k (rl, (m : Int), ((n * rl.size : Nat) : Int)))) r → Ev (fun k => spec_pzPower_l k (rl, ((m + 1 : Nat) : Int), (n : Int))) r := fun r Hr => by
        refine Ev.step (fun k => spec_pzPower_l.eq k rl ((m + 1 : Nat) : Int) (n : Int)) (Ev.yes (decide_eq_true (by omega)) ?_)
        rw [e, show w64 (((m + 1 : Nat) : Int) - 1) = (m : Int) by rw [w64_of (by omega) (by omega)]; omega]
        exact Hr
      by_cases hc : 300 < n * rl.size
      · refine .inl ⟨go _ (Ev.yes (decide_eq_true (by omega)) (Ev.now _)), ?_⟩
        rw [hpow]
        have := Nat.le_mul_of_pos_right (n * rl.size) (show 0 < rl.size ^ m by omega)
        omega
      · rcases ih (n * rl.size) (by omega) (by omega) (by omega) with ⟨i1, i2⟩ | ⟨v, v0, i1, i2⟩
        · exact .inl ⟨go _ (Ev.no (decide_eq_false (by omega)) i1), by rw [hpow]; exact i2⟩
        · exact .inr ⟨v, v0, go _ (Ev.no (decide_eq_false (by omega)) i1), by rw [hpow]; exact i2⟩
  rcases loop N 1 hN (by omega) (by omega) with ⟨i1, i2⟩ | ⟨v, v0, i1, i2⟩
  · exact ⟨0, Ev.step (fun k => spec_pzPower.eq k rl (N : Int)) (Ev.bind i1 (Ev.now _)), ⟨fun h => by omega, fun h => by omega⟩⟩
  · exact ⟨v, Ev.step (fun k => spec_pzPower.eq k rl (N : Int)) (Ev.bind i1 (Ev.now _)), ⟨fun _ => by omega, fun _ => by omega⟩⟩
theorem boards_ev (t N : Nat) (ht : 1 ≤ t ∧ t ≤ 6) (hN : N ≤ 100) : ∃ v : Nat, Ev (fun k => impl_boards k ((t : Int), (N : Int), 300)) (v : Int) ∧ (v ≤ 300 ↔ t ^ N ≤ 300) := by
  have loop : ∀ (m i all : Nat), i + m = N → ((t ^ i ≤ 300 ∧ all = t ^ i) ∨ (300 < t ^ i ∧ 300 < all ∧ all ≤ 301)) → ∃ v : Nat, Ev (fun k => impl_boards_l k ((t : Int), 300, (all : Int), (N : Int), (i : Int))) (v : Int) ∧ (v ≤ 300 ↔ t ^ N ≤ 300) := by
    intro m
    induction m with
    | zero =>
      intro i all hi h
      obtain rfl : i = N := by omega
      exact ⟨all, Ev.step (fun k => impl_boards_l.eq k (t : Int) 300 (all : Int) (i : Int) (i : Int)) (Ev.no (not_lt_nat (by omega)) (Ev.now _)), by omega⟩
    | succ m ih =>
      intro i all hi h
      have hall : all ≤ 301 := by omega
      have hb : all * t ≤ 301 * 6 := Nat.mul_le_mul hall ht.2
      have e : w64 ((all : Int) * (t : Int)) = ((all * t : Nat) : Int) := by rw [natmul, w64_of (by omega) (by omega)]
      have e3 : w64 (300 + 1) = 301 := rfl
      have hpow : t ^ (i + 1) = t ^ i * t := by rw [Nat.pow_succ]
      have hmono : t ^ i ≤ t ^ i * t := Nat.le_mul_of_pos_right _ (by omega)
      have hmono2 : all ≤ all * t := Nat.le_mul_of_pos_right _ (by omega)
      have go : ∀ r, Ev (fun k => impl_boards_l k ((t : Int), 300, (if (301 : Int) < ((all * t : Nat) : Int) then 301 else ((all * t : Nat) : Int)), (N : Int), ((i + 1 : Nat) : Int))) r → Ev (fun k => impl_boards_l k ((t : Int), 300, (all : Int), (N : Int), (i : Int))) r := fun r Hr => by
        refine Ev.step (fun k => impl_boards_l.eq k (t : Int) 300 (all : Int) (N : Int) (i : Int)) (Ev.yes (lt_nat (by omega)) ?_)
        rw [e, e3, w64_succ (by omega)]
        exact Hr
      by_cases hc : 301 < all * t
      · rw [if_pos (by omega)] at go
        obtain ⟨v, v1, v2⟩ := ih (i + 1) 301 (by omega) (.inr ⟨by
          rw [hpow]
          rcases h with ⟨h1, h2⟩ | ⟨h1, _⟩
          · rw [← h2]; omega
          · omega, by omega, by omega⟩)
        exact ⟨v, go _ v1, v2⟩
      · rw [if_neg (by omega)] at go
        obtain ⟨v, v1, v2⟩ := ih (i + 1) (all * t) (by omega) (by
          rcases h with ⟨h1, h2⟩ | ⟨h1, h2, h3⟩
          · rw [hpow, ← h2]
            omega
          · right
            omega)
        exact ⟨v, go _ v1, v2⟩
  obtain ⟨v, v1, v2⟩ := loop N 0 1 (by omega) (.inl ⟨by simp, by simp⟩)
  exact ⟨v, Ev.step (fun k => impl_boards.eq k (t : Int) (N : Int) 300) (Ev.bind v1 (Ev.now _)), v2⟩
section
variable (rl : ByteArray) (w h : Int) (hrl : rl.size ≤ 9223372036854775807)
theorem pzSize_ev : EvB (fun k => spec_pzSize k (rl, w, h)) (SizeOk rl w h) := by
  refine EvB.step (fun k => spec_pzSize.eq k rl w h) (EvB.and (woRuleR_ev rl) fun hR => EvB.and (l1In_ev w 1 9) fun hw => EvB.and (l1In_ev h 1 9) fun hh => ?_)
  have hm := mul_range (a := w) (b := h) (by omega) (by omega) (by omega) (by omega)
  have e64 : w64 (w * h) = w * h := w64_of (by omega) (by omega)
  rw [e64]
  refine EvB.ifT decide_eq_true_iff fun _ => ?_
  obtain ⟨r, r1, r2⟩ := power_ev rl hR.1 (w * h).toNat (by omega)
  rw [show (((w * h).toNat : Nat) : Int) = w * h by omega] at r1
  exact ⟨decide (r > 0), Ev.bind r1 (Ev.now _), by rw [decide_eq_true_iff]; exact r2⟩
include hrl
theorem countBoards_ev : ∃ (n : Int) (b : Bool), Ev (fun k => impl_CountBoards k (rl, w, h)) (n, b) ∧ (b = true ↔ SizeOk rl w h) := by
  have hid : EvB (fun k => impl_isHidden k (rl, w, h)) (RuleOk rl ∧ ((1 ≤ w ∧ w ≤ 9) ∧ (1 ≤ h ∧ h ≤ 9)) ∧ w * h ≤ 9) := by
    refine EvB.step (fun k => impl_isHidden.eq k rl w h) (EvB.and (isRuleR_ev rl hrl) fun hR => EvB.and (EvB.step (fun k => impl_isSize.eq k w h) (EvB.and (within_ev w 1 9) fun _ => (within_ev h 1 9).ret)) fun hs => ?_)
    have hm := mul_range (a := w) (b := h) (by omega) (by omega) (by omega) (by omega)
    rw [w64_of (by omega) (by omega)]
    exact EvB.val decide_eq_true_iff
  by_cases H : RuleOk rl ∧ ((1 ≤ w ∧ w ≤ 9) ∧ (1 ≤ h ∧ h ≤ 9)) ∧ w * h ≤ 9
  · have hm := mul_range (a := w) (b := h) (by omega) (by omega) (by omega) (by omega)
    have e64 : w64 (w * h) = (((w * h).toNat : Nat) : Int) := by rw [w64_of (by omega) (by omega)]; omega
    obtain ⟨v, v1, v2⟩ := boards_ev rl.size (w * h).toNat H.1.1 (by omega)
    have go : ∀ r, Ev (fun k => cond (decide ((v : Int) > 300)) (some ((0 : Int), false)) (some ((v : Int), true))) r → Ev (fun k => impl_CountBoards k (rl, w, h)) r := fun r Hr => by
      refine Ev.step (fun k => impl_CountBoards.eq k rl w h) (Ev.bind (hid.isT H) (Ev.no rfl ?_))
      rw [e64]
      exact Ev.bind v1 Hr
    by_cases hv : v ≤ 300
    · exact ⟨_, true, go _ (Ev.no (decide_eq_false (by omega)) (Ev.now _)), ⟨fun _ => ⟨H.1, H.2.1.1, H.2.1.2, H.2.2, v2.1 hv⟩, fun _ => rfl⟩⟩
    · exact ⟨_, false, go _ (Ev.yes (decide_eq_true (by omega)) (Ev.now _)), ⟨nofun, fun q => absurd (v2.2 q.2.2.2.2) hv⟩⟩
  · exact ⟨0, false, Ev.step (fun k => impl_CountBoards.eq k rl w h) (Ev.bind (hid.isF H) (Ev.yes rfl (Ev.now _))), ⟨nofun, fun q => absurd ⟨q.1, ⟨q.2.1, q.2.2.1⟩, q.2.2.2.1⟩ H⟩⟩
end
/-! ### Clues -/
theorem pzClue_ev (rl : ByteArray) (n : Int) (c : Cl) (hr : rl.size ≤ 100) (hn : 1 ≤ n ∧ n ≤ 100) : EvB (fun k => spec_pzClue k (rl, n, c)) (ClueOk rl n c) := by
  obtain ⟨kind, a, b⟩ := c
  refine EvB.step (fun k => spec_pzClue.eq k rl n kind a b) ?_
  have e1 : w64 (n - 1) = n - 1 := w64_of (by omega) (by omega)
  have e2 : w64 ((rl.size : Int) - 1) = (rl.size : Int) - 1 := w64_of (by omega) (by omega)
  rw [e1, e2]
  have no : ∀ {z : Int}, kind ≠ z → (kind == z) = false := fun {z} h => by rw [beq_eq_false_iff_ne]; exact h
  unfold ClueOk
  simp only
  by_cases k0 : kind = 0
  · obtain ⟨v, v1, v2⟩ := EvB.and (l1In_ev a 0 (n - 1)) fun _ => (l1In_ev b 0 ((rl.size : Int) - 1)).ret
    exact ⟨v, Ev.yes (beq_iff_eq.2 k0) v1, v2.trans (by constructor <;> intro <;> omega)⟩
  by_cases k1 : kind = 1
  · obtain ⟨v, v1, v2⟩ := EvB.and (l1In_ev a 0 50) fun _ => (l1In_ev b 0 (n - 1)).ret
    exact ⟨v, Ev.no (no k0) (Ev.yes (beq_iff_eq.2 k1) v1), v2.trans (by constructor <;> intro <;> omega)⟩
  by_cases k2 : kind = 2
  · obtain ⟨v, v1, v2⟩ := EvB.and (l1In_ev a 0 50) fun _ => (l1In_ev b 0 3).ret
    exact ⟨v, Ev.no (no k0) (Ev.no (no k1) (Ev.yes (beq_iff_eq.2 k2) v1)), v2.trans (by constructor <;> intro <;> omega)⟩
  by_cases k3 : kind = 3
  · obtain ⟨v, v1, v2⟩ := EvB.and (l1In_ev a 0 50) fun _ => (l1In_ev b 0 n).ret
    exact ⟨v, Ev.no (no k0) (Ev.no (no k1) (Ev.no (no k2) (Ev.yes (beq_iff_eq.2 k3) v1))), v2.trans (by constructor <;> intro <;> omega)⟩
  by_cases k4 : kind = 4
  · obtain ⟨v, v1, v2⟩ := EvB.and (l1In_ev a 0 100) fun _ => EvB.val (b := (b == 0)) (P := b = 0) beq_iff_eq
    exact ⟨v, Ev.no (no k0) (Ev.no (no k1) (Ev.no (no k2) (Ev.no (no k3) (Ev.yes (beq_iff_eq.2 k4) v1)))), v2.trans (by constructor <;> intro <;> omega)⟩
  · exact ⟨false, Ev.no (no k0) (Ev.no (no k1) (Ev.no (no k2) (Ev.no (no k3) (Ev.no (no k4) (Ev.now _))))), ⟨nofun, fun q => by omega⟩⟩
theorem isClue_ev (rl : ByteArray) (n : Int) (c : Cl) (hr : rl.size ≤ 9223372036854775807) : EvB (fun k => impl_IsClue k (rl, n, c)) (RuleOk rl ∧ (1 ≤ n ∧ n ≤ 9) ∧ ClueOk rl n c) := by
  obtain ⟨kind, a, b⟩ := c
  refine EvB.step (fun k => impl_IsClue.eq k rl n kind a b) (EvB.and' (isRuleR_ev rl hr) fun hR => EvB.and' (within_ev n 1 9) fun hn => ?_)
  have hr6 := hR.1.2
  have e1 : w64 (n - 1) = n - 1 := w64_of (by omega) (by omega)
  have e2 : w64 ((rl.size : Int) - 1) = (rl.size : Int) - 1 := w64_of (by omega) (by omega)
  rw [e1, e2]
  obtain ⟨b3, h3, q3⟩ := within_ev a 0 50
  have no : ∀ {z : Int}, kind ≠ z → (kind == z) = false := fun {z} h => by rw [beq_eq_false_iff_ne]; exact h
  unfold ClueOk
  simp only
  by_cases k0 : kind = 0
  · obtain ⟨v, v1, v2⟩ := EvB.and (within_ev a 0 (n - 1)) fun _ => (within_ev b 0 ((rl.size : Int) - 1)).ret
    exact ⟨v, Ev.bind h3 (Ev.yes (beq_iff_eq.2 k0) v1), v2.trans (by constructor <;> intro <;> omega)⟩
  by_cases k1 : kind = 1
  · obtain ⟨v, v1, v2⟩ := EvB.ifT q3 fun _ => (within_ev b 0 (n - 1)).ret
    exact ⟨v, Ev.bind h3 (Ev.no (no k0) (Ev.yes (beq_iff_eq.2 k1) v1)), v2.trans (by constructor <;> intro <;> omega)⟩
  by_cases k2 : kind = 2
  · obtain ⟨v, v1, v2⟩ := EvB.ifT q3 fun _ => EvB.ret (g := fun k => impl_isWay k b) (EvB.step (fun k => impl_isWay.eq k b) (within_ev b 0 3).ret)
    exact ⟨v, Ev.bind h3 (Ev.no (no k0) (Ev.no (no k1) (Ev.yes (beq_iff_eq.2 k2) v1))), v2.trans (by constructor <;> intro <;> omega)⟩
  by_cases k3 : kind = 3
  · obtain ⟨v, v1, v2⟩ := EvB.ifT q3 fun _ => (within_ev b 0 n).ret
    exact ⟨v, Ev.bind h3 (Ev.no (no k0) (Ev.no (no k1) (Ev.no (no k2) (Ev.yes (beq_iff_eq.2 k3) v1)))), v2.trans (by constructor <;> intro <;> omega)⟩
  by_cases k4 : kind = 4
  · obtain ⟨v, v1, v2⟩ := EvB.and (within_ev a 0 100) fun _ => EvB.val (b := (b == 0)) (P := b = 0) beq_iff_eq
    exact ⟨v, Ev.bind h3 (Ev.no (no k0) (Ev.no (no k1) (Ev.no (no k2) (Ev.no (no k3) (Ev.yes (beq_iff_eq.2 k4) v1))))), v2.trans (by constructor <;> intro <;> omega)⟩
  · exact ⟨false, Ev.bind h3 (Ev.no (no k0) (Ev.no (no k1) (Ev.no (no k2) (Ev.no (no k3) (Ev.no (no k4) (Ev.now _)))))), ⟨nofun, fun q => by omega⟩⟩
/-! ### Puzzles -/
def PuzOk (rl : ByteArray) (w h : Int) (cl : List Cl) : Prop := SizeOk rl w h ∧ cl.length ≤ 6 ∧ ∀ c ∈ cl, ClueOk rl (w * h) c
section
variable (rl : ByteArray) (w h : Int) (cl : List Cl) (hrl : rl.size ≤ 9223372036854775807)
theorem pzGood_ev : EvB (fun k => spec_pzGood k (rl, w, h, cl)) (PuzOk rl w h cl) := by
  refine EvB.step (fun k => spec_pzGood.eq k rl w h cl) (EvB.and' (pzSize_ev rl w h) fun hS => EvB.ifN (P := cl.length ≤ 6) (by rw [decide_eq_false_iff_not]; omega) fun hl => ?_)
  have hm := mul_range (a := w) (b := h) (by have := hS.2.1; omega) (by have := hS.2.1; omega) (by have := hS.2.2.1; omega) (by have := hS.2.2.1; omega)
  have e64 : w64 (w * h) = w * h := w64_of (by omega) (by omega)
  have test : ∀ c : Cl, EvB (fun k => spec_pzClue k (rl, w * h, c)) (ClueOk rl (w * h) c) := fun c => pzClue_ev rl (w * h) c (by have := hS.1.1; omega) (by omega)
  have step : ∀ (i : Nat) (c : Cl), cl[i]? = some c → ∀ r, Ev (fun k => (spec_pzClue k (rl, w * h, c)).bind fun r1 => cond (!r1) (some (.inl false)) (spec_pzGood_l k ((rl, w, h, cl), (), (cl.length : Int), w64 ((i : Int) + 1)))) r → Ev (fun k => spec_pzGood_l k ((rl, w, h, cl), (), (cl.length : Int), (i : Int))) r := fun i c hx r Hr => by
    have hi := (List.getElem?_eq_some_iff.1 hx).1
    exact Ev.step (fun k => spec_pzGood_l.eq k rl w h cl (cl.length : Int) (i : Int)) (Ev.yes (lt_nat hi) (Ev.yes (inB_nat hi) (by rw [Int.toNat_natCast, getD_at hx, e64]; exact Hr)))
  have srch := Ev.search (L := fun k i => spec_pzGood_l k ((rl, w, h, cl), (), (cl.length : Int), i)) (n := cl.length) (fun i => ∃ c, cl[i]? = some c ∧ ¬ ClueOk rl (w * h) c) (fun i => .inl false) (.inr ())
    (fun i hi hp r Hr => by
      obtain ⟨c, hx⟩ := nat_list hi
      have hf : ClueOk rl (w * h) c := Classical.byContradiction fun hn => hp ⟨c, hx, hn⟩
      exact step i c hx r (Ev.bind ((test c).isT hf) (Ev.no rfl (by rw [w64_succ (by omega)]; exact Hr))))
    (fun i hi hp => by
      obtain ⟨c, hx, hn⟩ := hp
      exact step i c hx _ (Ev.bind ((test c).isF hn) (Ev.yes rfl (Ev.now _))))
    (Ev.step (fun k => spec_pzGood_l.eq k rl w h cl (cl.length : Int) (cl.length : Int)) (Ev.no (not_lt_nat (Nat.lt_irrefl _)) (Ev.now _))) cl.length 0 (by omega)
  rcases srch with ⟨h1, h2⟩ | ⟨j, _, hj, ⟨c, hx, hn⟩, _, h2⟩
  · refine ⟨true, Ev.bind h2 (Ev.now _), ⟨fun _ c hm => ?_, fun _ => rfl⟩⟩
    obtain ⟨i, hi⟩ := List.mem_iff_getElem?.1 hm
    exact Classical.byContradiction fun hn => h1 i (Nat.zero_le _) (List.getElem?_eq_some_iff.1 hi).1 ⟨c, hi, hn⟩
  · exact ⟨false, Ev.bind h2 (Ev.now _), ⟨nofun, fun q => absurd (q c (List.mem_of_getElem? hx)) hn⟩⟩
include hrl
theorem isPuzzle_ev : EvB (fun k => impl_IsPuzzle k (rl, w, h, cl)) (PuzOk rl w h cl) := by
  obtain ⟨n, b, c1, c2⟩ := countBoards_ev rl w h hrl
  cases b with
  | false => exact ⟨false, Ev.step (fun k => impl_IsPuzzle.eq k rl w h cl) (Ev.bind c1 (Ev.yes rfl (Ev.now _))), ⟨nofun, fun q => by have := c2.2 q.1; cases this⟩⟩
  | true =>
    have hS := c2.1 rfl
    have hm := mul_range (a := w) (b := h) (by have := hS.2.1; omega) (by have := hS.2.1; omega) (by have := hS.2.2.1; omega) (by have := hS.2.2.1; omega)
    have e64 : w64 (w * h) = w * h := w64_of (by omega) (by omega)
    have body : EvB (fun k => cond (decide ((cl.length : Int) > 6)) (some false) ((slices_ContainsFunc k (cl, (rl, w, h, ()))).bind fun r2 => some (!r2))) (cl.length ≤ 6 ∧ ∀ c ∈ cl, ClueOk rl (w * h) c) := by
      refine EvB.ifN (P := cl.length ≤ 6) (by rw [decide_eq_false_iff_not]; omega) fun hl => ?_
      have test : ∀ c : Cl, EvB (fun k => impl_IsPuzzle_1 k (c, (rl, w, h, cl))) (¬ ClueOk rl (w * h) c) := fun c =>
        EvB.step (fun k => impl_IsPuzzle_1.eq k c.1 c.2.1 c.2.2 rl w h cl) (by
          rw [e64]
          exact (isClue_ev rl (w * h) c hrl).neg.iff ⟨fun q z => q ⟨hS.1, by have := hS.2.2.2.1; omega, z⟩, fun q z => q z.2.2⟩)
      have step : ∀ (i : Nat) (c : Cl), cl[i]? = some c → ∀ r, Ev (fun k => (impl_IsPuzzle_1 k (c, (rl, w, h, cl))).bind fun r1 => cond r1 (some (.inl (i : Int))) (slices_IndexFunc_l k (cl, (rl, w, h, ()), (cl.length : Int), w64 ((i : Int) + 1)))) r → Ev (fun k => slices_IndexFunc_l k (cl, (rl, w, h, ()), (cl.length : Int), (i : Int))) r := fun i c hx r Hr => by
        have hi := (List.getElem?_eq_some_iff.1 hx).1
        exact Ev.step (fun k => slices_IndexFunc_l.eq k cl rl w h (cl.length : Int) (i : Int)) (Ev.yes (lt_nat hi) (Ev.yes (inB_nat hi) (by rw [Int.toNat_natCast, getD_at hx]; exact Hr)))
      have srch := Ev.search (L := fun k i => slices_IndexFunc_l k (cl, (rl, w, h, ()), (cl.length : Int), i)) (n := cl.length) (fun i => ∃ c, cl[i]? = some c ∧ ¬ ClueOk rl (w * h) c) (fun i => .inl (i : Int)) (.inr ())
        (fun i hi hp r Hr => by
          obtain ⟨c, hx⟩ := nat_list hi
          have hf : ClueOk rl (w * h) c := Classical.byContradiction fun hn => hp ⟨c, hx, hn⟩
          exact step i c hx r (Ev.bind ((test c).isF fun q => q hf) (Ev.no rfl (by rw [w64_succ (by omega)]; exact Hr))))
        (fun i hi hp => by
          obtain ⟨c, hx, hn⟩ := hp
          exact step i c hx _ (Ev.bind ((test c).isT hn) (Ev.yes rfl (Ev.now _))))
        (Ev.step (fun k => slices_IndexFunc_l.eq k cl rl w h (cl.length : Int) (cl.length : Int)) (Ev.no (not_lt_nat (Nat.lt_irrefl _)) (Ev.now _))) cl.length 0 (by omega)
      have go : ∀ r, Ev (fun k => (slices_IndexFunc_l k (cl, (rl, w, h, ()), (cl.length : Int), ((0 : Nat) : Int))).bind fun r1 => r1.elim (fun r2 => some r2) (fun r3 => some (-1))) r → Ev (fun k => slices_ContainsFunc k (cl, (rl, w, h, ()))) (decide (r ≥ 0)) := fun r Hr =>
        Ev.step (fun k => slices_ContainsFunc.eq k cl rl w h) (Ev.bind (Ev.step (fun k => slices_IndexFunc.eq k cl rl w h) Hr) (Ev.now _))
      rcases srch with ⟨h1, h2⟩ | ⟨j, _, hj, ⟨c, hx, hn⟩, _, h2⟩
      · refine ⟨_, Ev.bind (go _ (Ev.bind h2 (Ev.now _))) (Ev.now _), ⟨fun _ c hm => ?_, fun _ => by simp⟩⟩
        obtain ⟨i, hi⟩ := List.mem_iff_getElem?.1 hm
        exact Classical.byContradiction fun hn => h1 i (Nat.zero_le _) (List.getElem?_eq_some_iff.1 hi).1 ⟨c, hi, hn⟩
      · refine ⟨_, Ev.bind (go _ (Ev.bind h2 (Ev.now _))) (Ev.now _), ⟨fun q => ?_, fun q => absurd (q c (List.mem_of_getElem? hx)) hn⟩⟩
        rw [decide_eq_true (by omega)] at q
        cases q
    obtain ⟨v, v1, v2⟩ := body
    exact ⟨v, Ev.step (fun k => impl_IsPuzzle.eq k rl w h cl) (Ev.bind c1 (Ev.no rfl v1)), v2.trans ⟨fun q => ⟨hS, q⟩, fun q => q.2⟩⟩
end
/-! ### The laws' helpers -/
theorem szPuzzle_ev (rl : ByteArray) (w h : Int) (cl : List Cl) (h1 : rl.size ≤ 9223372036854775807) (h2 : cl.length ≤ 9223372036854775807) : ∃ r, Ev (fun k => laws_szPuzzle k ((rl, w, h, cl), 1048576)) r ∧ (r < 0 ∨ cl.length ≤ 1048576) := by
  have e1 := w64_of (n := 1048576 - (rl.size : Int)) (by omega) (by omega)
  by_cases c1 : (1048576 : Int) - (rl.size : Int) < 0
  · exact ⟨-1, Ev.step (fun k => laws_szPuzzle.eq k rl w h cl 1048576) (Ev.yes (decide_eq_true (by rw [e1]; exact c1)) (Ev.now _)), .inl (by omega)⟩
  · have e2 := w64_of (n := 1048576 - (rl.size : Int) - (cl.length : Int)) (by omega) (by omega)
    have go : ∀ v r, Ev (fun k => laws_szClueS k (cl, 1048576 - (rl.size : Int))) v → Ev (fun k => cond (decide (v < 0)) (some (-1)) (some v)) r → Ev (fun k => laws_szPuzzle k ((rl, w, h, cl), 1048576)) r := fun v r hv Hr => by
      refine Ev.step (fun k => laws_szPuzzle.eq k rl w h cl 1048576) (Ev.no (decide_eq_false (by rw [e1]; exact c1)) ?_)
      rw [e1]
      exact Ev.bind hv Hr
    by_cases c2 : (1048576 : Int) - (rl.size : Int) - (cl.length : Int) < 0
    · exact ⟨-1, go (-1) _ (Ev.step (fun k => laws_szClueS.eq k cl _) (Ev.yes (decide_eq_true (by rw [e2]; exact c2)) (Ev.now _))) (Ev.yes rfl (Ev.now _)), .inl (by omega)⟩
    · exact ⟨_, go _ _ (Ev.step (fun k => laws_szClueS.eq k cl _) (Ev.no (decide_eq_false (by rw [e2]; exact c2)) (Ev.now' e2))) (Ev.no (decide_eq_false c2) (Ev.now _)), .inr (by omega)⟩
theorem toClueS_l_ev (a : List Cl) (hl : a.length ≤ 1048576) : ∀ (m i : Nat) (out : List Cl), i + m = a.length → out.length = a.length → (∀ j, j < i → out[j]? = a[j]?) → Ev (fun k => laws_toClueS_l k (a, out, (i : Int))) a
  | 0, i, out, h, ho, he => Ev.step (fun k => laws_toClueS_l.eq k a out i) (Ev.no (not_lt_nat (by omega)) (Ev.now' (List.ext_getElem? fun j => by
      by_cases hj : j < i
      · exact he j hj
      · rw [List.getElem?_eq_none (by omega), List.getElem?_eq_none (by omega)])))
  | m + 1, i, out, h, ho, he => by
    obtain ⟨x, hx⟩ := nat_list (l := a) (i := i) (by omega)
    refine Ev.step (fun k => laws_toClueS_l.eq k a out i) (Ev.yes (lt_nat (by omega)) (Ev.yes (inB_nat (by omega)) ?_))
    rw [Int.toNat_natCast, getD_at hx]
    refine Ev.bind (a := x) (Ev.step (fun k => laws_toClue.eq k x.1 x.2.1 x.2.2) (Ev.now _)) (Ev.yes (inB_nat (by omega)) ?_)
    rw [w64_succ (by omega)]
    refine toClueS_l_ev a hl m (i + 1) _ (by omega) (by rw [List.length_set]; exact ho) fun j hj => ?_
    rw [List.getElem?_set]
    split
    · rename_i e
      subst e
      rw [if_pos (by omega), hx]
    · exact he j (by omega)
theorem toPuzzle_ev (rl : ByteArray) (w h : Int) (a : List Cl) (hl : a.length ≤ 1048576) : Ev (fun k => laws_toPuzzle k (rl, w, h, a)) (rl, w, h, a) := by
  refine Ev.step (fun k => laws_toPuzzle.eq k rl w h a) (Ev.bind (a := a) (Ev.step (fun k => laws_toClueS.eq k a) (Ev.yes ?_ (Ev.bind (toClueS_l_ev a hl a.length 0 _ (by omega) ?_ fun j hj => by omega) (Ev.now _)))) (Ev.now _))
  · rw [fits_of (by rw [Int.toNat_natCast]; omega)]
    simp
  · rw [List.length_replicate, Int.toNat_natCast]
theorem eqPuzzle_ev (rl : ByteArray) (w h : Int) (a : List Cl) (hl : a.length ≤ 1048576) : Ev (fun k => laws_eqPuzzle k ((rl, w, h, a), (rl, w, h, a))) true := by
  have loop : ∀ (m i : Nat), i + m = a.length → Ev (fun k => laws_eqClueS_l k (a, a, (i : Int))) (.inr ()) := by
    intro m
    induction m with
    | zero => intro i h; exact Ev.step (fun k => laws_eqClueS_l.eq k a a i) (Ev.no (not_lt_nat (by omega)) (Ev.now _))
    | succ m ih =>
      intro i h
      refine Ev.step (fun k => laws_eqClueS_l.eq k a a i) (Ev.yes (lt_nat (by omega)) (Ev.yes (inB_nat (by omega)) (Ev.yes (inB_nat (by omega)) ?_)))
      generalize a.getD (i : Int).toNat default = x
      refine Ev.bind (a := true) (Ev.step (fun k => laws_eqClue.eq k x.1 x.2.1 x.2.2 x.1 x.2.1 x.2.2) (Ev.no (neq_self _) (Ev.no (neq_self _) (Ev.no (neq_self _) (Ev.now _))))) (Ev.no rfl ?_)
      rw [w64_succ (by omega)]
      exact ih (i + 1) (by omega)
  exact Ev.step (fun k => laws_eqPuzzle.eq k rl w h a rl w h a) (Ev.no (by rw [strEq_self]; rfl) (Ev.no (neq_self _) (Ev.no (neq_self _) (Ev.bind (Ev.step (fun k => laws_eqClueS.eq k a a) (Ev.no (neq_self _) (Ev.bind (loop a.length 0 (by omega)) (Ev.now _)))) (Ev.no rfl (Ev.now _))))))
theorem markPuzzle_ev (rl : ByteArray) (w h : Int) (a : List Cl) (hl : a.length ≤ 1048576) : ∃ M, Ev (fun k => laws_markPuzzle k ((rl, w, h, a), 1)) (1 + 3 * (a.length : Int), M) := by
  have loop : ∀ (m i : Nat) (b : List Cl) (n : Int), i + m = b.length → b.length ≤ 1048576 → 0 ≤ n → n + 3 * m ≤ 1099511627776 → ∃ M, Ev (fun k => laws_markClueS_l k (b, n, (i : Int), ())) (n + 3 * m, M) := by
    intro m
    induction m with
    | zero => intro i b n h hl h0 h1; exact ⟨b, Ev.step (fun k => laws_markClueS_l.eq k b n i) (Ev.no (not_lt_nat (by omega)) (Ev.now' (by simp)))⟩
    | succ m ih =>
      intro i b n h hl h0 h1
      have e1 : w64 (n + 1) = n + 1 := w64_of (by omega) (by omega)
      have e2 : w64 (n + 1 + 1) = n + 2 := by rw [w64_of (by omega) (by omega)]; omega
      have e3 : w64 (n + 2 + 1) = n + 3 := by rw [w64_of (by omega) (by omega)]; omega
      have hi : i < b.length := by omega
      have g1 : ∀ y : Cl, (b.set i y).getD i default = y := fun y => getD_at (by rw [List.getElem?_set_self hi])
      obtain ⟨M, hM⟩ := ih (i + 1) (b.set i (n, n + 1, n + 2)) (n + 3) (by rw [List.length_set]; omega) (by rw [List.length_set]; exact hl) (by omega) (by omega)
      refine ⟨M, Ev.step (fun k => laws_markClueS_l.eq k b n i) (Ev.yes (lt_nat (by omega)) (Ev.yes (inB_nat (by omega)) ?_))⟩
      simp only [Int.toNat_natCast, List.set_set, g1, e1, e2, e3]
      refine Ev.yes (inB_nat (by rw [List.length_set]; omega)) (Ev.yes (inB_nat (by rw [List.length_set]; omega)) ?_)
      rw [w64_succ (by omega), show n + 3 * ((m + 1 : Nat) : Int) = n + 3 + 3 * (m : Int) by omega]
      exact hM
  obtain ⟨M, hM⟩ := loop a.length 0 a 1 (by omega) hl (by omega) (by omega)
  exact ⟨_, Ev.step (fun k => laws_markPuzzle.eq k rl w h a 1) (Ev.bind (Ev.step (fun k => laws_markClueS.eq k a 1) (Ev.bind hM (Ev.now _))) (Ev.now _))⟩
/-! ### Solutions -/
section
variable (rl : ByteArray) (w h : Int) (cl : List Cl) (hrl : rl.size ≤ 9223372036854775807)
include hrl
theorem solutions_ev : (PuzOk rl w h cl ∧ (solC rl w h cl).length ≤ 300 ∧ Ev (fun k => impl_Solutions k (rl, w, h, cl)) (solC rl w h cl, true) ∧ Ev (fun k => spec_pzGood k (rl, w, h, cl)) true ∧ Ev (fun k => spec_pzAll k (rl, w, h, cl)) (solC rl w h cl)) ∨
    (¬ PuzOk rl w h cl ∧ Ev (fun k => impl_Solutions k (rl, w, h, cl)) ([], false) ∧ Ev (fun k => spec_pzGood k (rl, w, h, cl)) false) := by
  have a1 := isPuzzle_ev rl w h cl hrl
  have a2 := pzGood_ev rl w h cl
  by_cases H : PuzOk rl w h cl
  · obtain ⟨h1, h2, h3⟩ := id H
    refine .inl ⟨H, ?_, Ev.step (fun k => impl_Solutions.eq k rl w h cl) (Ev.bind (a1.isT H) (Ev.no rfl (Ev.bind (impl_Puzzle_with_2_ev rl w h h1 cl h2 h3) (Ev.now _)))), a2.isT H, pzAll_ev rl w h h1 cl h2 h3⟩
    unfold solC
    have := List.length_filter_le (keepC rl w h cl) (allD rl.size (w * h).toNat)
    rw [allD_len] at this
    exact Nat.le_trans this h1.2.2.2.2
  · exact .inr ⟨H, Ev.step (fun k => impl_Solutions.eq k rl w h cl) (Ev.bind (a1.isF H) (Ev.yes rfl (Ev.now _))), a2.isF H⟩
end
end Go.Proofs.YtngfakjifgafeaaDoorS
