/- The sizes of hidden worlds. -/
import Derived.Test.YtaookbfcncfkbaaGreatDoorPuWo
namespace Go.Proofs.YtaookbfcncfkbaaGreatDoorS
open Go
set_option linter.unusedVariables false
set_option linter.unusedSimpArgs false

def SizeOk (rl : ByteArray) (w h : Int) : Prop := RuleOk rl ∧ (1 ≤ w ∧ w ≤ 9) ∧ (1 ≤ h ∧ h ≤ 9) ∧ w * h ≤ 9 ∧ rl.size ^ (w * h).toNat ≤ 300
theorem natmul (a b : Nat) : (a : Int) * (b : Int) = ((a * b : Nat) : Int) := (Int.natCast_mul a b).symm
theorem power_ev (rl : ByteArray) (ht : 1 ≤ rl.size ∧ rl.size ≤ 6) (N : Nat) (hN : N ≤ 100) : ∃ r : Int, Ev (fun k => spec_pzPower k (rl, (N : Int))) r ∧ (r > 0 ↔ rl.size ^ N ≤ 300) := by
  have loop : ∀ (m n : Nat), m ≤ 100 → 1 ≤ n → n ≤ 300 → (Ev (fun k => spec_pzPower_l k (rl, (m : Int), (n : Int))) (.inl 0) ∧ 300 < n * rl.size ^ m) ∨ (∃ v : Nat, 0 < v ∧ Ev (fun k => spec_pzPower_l k (rl, (m : Int), (n : Int))) (.inr (v : Int)) ∧ n * rl.size ^ m ≤ 300) := by
    intro m
    induction m with
    | zero =>
      intro n _ h1 h2
      exact .inr ⟨n, h1, Ev.step (fun k => spec_pzPower_l.eq k rl 0 (n : Int)) (Ev.no rfl (Ev.now _)), by simpa using h2⟩
    | succ m ih =>
      intro n hm h1 h2
      have hb : n * rl.size ≤ 300 * 6 := Nat.mul_le_mul h2 ht.2
      have h0 : 1 * 1 ≤ n * rl.size := Nat.mul_le_mul h1 ht.1
      have e : w64 ((n : Int) * (rl.size : Int)) = ((n * rl.size : Nat) : Int) := by rw [natmul, w64_of (by omega) (by omega)]
      have hpow : n * rl.size ^ (m + 1) = n * rl.size * rl.size ^ m := by rw [Nat.pow_succ, Nat.mul_comm (rl.size ^ m) rl.size, Nat.mul_assoc]
      have hge : 1 ≤ rl.size ^ m := Nat.one_le_pow _ _ (by omega)
      have go : ∀ r, Ev (fun k => cond (decide (((n * rl.size : Nat) : Int) > 300)) (some (.inl 0)) (spec_pzPower_l k (rl, (m : Int), ((n * rl.size : Nat) : Int)))) r → Ev (fun k => spec_pzPower_l k (rl, ((m + 1 : Nat) : Int), (n : Int))) r := fun r Hr => by
        refine Ev.step (fun k => spec_pzPower_l.eq k rl ((m + 1 : Nat) : Int) (n : Int)) (Ev.yes (decide_eq_true (by omega)) ?_)
        rw [e, show w64 (((m + 1 : Nat) : Int) - 1) = (m : Int) by rw [w64_of (by omega) (by omega)]; omega]
        exact Hr
      by_cases hc : 300 < n * rl.size
      · refine .inl ⟨go _ (Ev.yes (decide_eq_true (by omega)) (Ev.now _)), ?_⟩
        rw [hpow]
        have := Nat.le_mul_of_pos_right (n * rl.size) (show 0 < rl.size ^ m by omega)
        omega
      · rcases ih (n * rl.size) (by omega) (by omega) (by omega) with ⟨i1, i2⟩ | ⟨v, v0, i1, i2⟩
        · exact .inl ⟨go _ (Ev.no (decide_eq_false (by omega)) i1), by rw [hpow]; exact i2⟩
        · exact .inr ⟨v, v0, go _ (Ev.no (decide_eq_false (by omega)) i1), by rw [hpow]; exact i2⟩
  rcases loop N 1 hN (by omega) (by omega) with ⟨i1, i2⟩ | ⟨v, v0, i1, i2⟩
  · exact ⟨0, Ev.step (fun k => spec_pzPower.eq k rl (N : Int)) (Ev.bind i1 (Ev.now _)), ⟨fun h => by omega, fun h => by omega⟩⟩
  · exact ⟨v, Ev.step (fun k => spec_pzPower.eq k rl (N : Int)) (Ev.bind i1 (Ev.now _)), ⟨fun _ => by omega, fun _ => by omega⟩⟩
theorem boards_ev (t N : Nat) (ht : 1 ≤ t ∧ t ≤ 6) (hN : N ≤ 100) : ∃ v : Nat, Ev (fun k => impl_boards k ((t : Int), (N : Int), 300)) (v : Int) ∧ (v ≤ 300 ↔ t ^ N ≤ 300) := by
  have loop : ∀ (m i all : Nat), i + m = N → ((t ^ i ≤ 300 ∧ all = t ^ i) ∨ (300 < t ^ i ∧ 300 < all ∧ all ≤ 301)) → ∃ v : Nat, Ev (fun k => impl_boards_l k ((t : Int), 300, (all : Int), (N : Int), (i : Int))) (v : Int) ∧ (v ≤ 300 ↔ t ^ N ≤ 300) := by
    intro m
    induction m with
    | zero =>
      intro i all hi h
      obtain rfl : i = N := by omega
      exact ⟨all, Ev.step (fun k => impl_boards_l.eq k (t : Int) 300 (all : Int) (i : Int) (i : Int)) (Ev.no (not_lt_nat (by omega)) (Ev.now _)), by omega⟩
    | succ m ih =>
      intro i all hi h
      have hall : all ≤ 301 := by omega
      have hb : all * t ≤ 301 * 6 := Nat.mul_le_mul hall ht.2
      have e : w64 ((all : Int) * (t : Int)) = ((all * t : Nat) : Int) := by rw [natmul, w64_of (by omega) (by omega)]
      have e3 : w64 (300 + 1) = 301 := rfl
      have hpow : t ^ (i + 1) = t ^ i * t := by rw [Nat.pow_succ]
      have hmono : t ^ i ≤ t ^ i * t := Nat.le_mul_of_pos_right _ (by omega)
      have hmono2 : all ≤ all * t := Nat.le_mul_of_pos_right _ (by omega)
      have go : ∀ r, Ev (fun k => impl_boards_l k ((t : Int), 300, (if (301 : Int) < ((all * t : Nat) : Int) then 301 else ((all * t : Nat) : Int)), (N : Int), ((i + 1 : Nat) : Int))) r → Ev (fun k => impl_boards_l k ((t : Int), 300, (all : Int), (N : Int), (i : Int))) r := fun r Hr => by
        refine Ev.step (fun k => impl_boards_l.eq k (t : Int) 300 (all : Int) (N : Int) (i : Int)) (Ev.yes (lt_nat (by omega)) ?_)
        rw [e, e3, w64_succ (by omega)]
        exact Hr
      by_cases hc : 301 < all * t
      · rw [if_pos (by omega)] at go
        obtain ⟨v, v1, v2⟩ := ih (i + 1) 301 (by omega) (.inr ⟨by
          rw [hpow]
          rcases h with ⟨h1, h2⟩ | ⟨h1, _⟩
          · rw [← h2]; omega
          · omega, by omega, by omega⟩)
        exact ⟨v, go _ v1, v2⟩
      · rw [if_neg (by omega)] at go
        obtain ⟨v, v1, v2⟩ := ih (i + 1) (all * t) (by omega) (by
          rcases h with ⟨h1, h2⟩ | ⟨h1, h2, h3⟩
          · rw [hpow, ← h2]
            omega
          · right
            omega)
        exact ⟨v, go _ v1, v2⟩
  obtain ⟨v, v1, v2⟩ := loop N 0 1 (by omega) (.inl ⟨by simp, by simp⟩)
  exact ⟨v, Ev.step (fun k => impl_boards.eq k (t : Int) (N : Int) 300) (Ev.bind v1 (Ev.now _)), v2⟩
section
variable (rl : ByteArray) (w h : Int) (hrl : rl.size ≤ 9223372036854775807)
theorem pzSize_ev : EvB (fun k => spec_pzSize k (rl, w, h)) (SizeOk rl w h) := by
  refine EvB.step (fun k => spec_pzSize.eq k rl w h) (EvB.and (woRuleR_ev rl) fun hR => EvB.and (l1In_ev w 1 9) fun hw => EvB.and (l1In_ev h 1 9) fun hh => ?_)
  have hm := mul_range (a := w) (b := h) (by omega) (by omega) (by omega) (by omega)
  have e64 : w64 (w * h) = w * h := w64_of (by omega) (by omega)
  rw [e64]
  refine EvB.ifT decide_eq_true_iff fun _ => ?_
  obtain ⟨r, r1, r2⟩ := power_ev rl hR.1 (w * h).toNat (by omega)
  rw [show (((w * h).toNat : Nat) : Int) = w * h by omega] at r1
  exact ⟨decide (r > 0), Ev.bind r1 (Ev.now _), by rw [decide_eq_true_iff]; exact r2⟩
include hrl
theorem countBoards_ev : ∃ (n : Int) (b : Bool), Ev (fun k => impl_CountBoards k (rl, w, h)) (n, b) ∧ (b = true ↔ SizeOk rl w h) := by
  have hid : EvB (fun k => impl_isHidden k (rl, w, h)) (RuleOk rl ∧ ((1 ≤ w ∧ w ≤ 9) ∧ (1 ≤ h ∧ h ≤ 9)) ∧ w * h ≤ 9) := by
    refine EvB.step (fun k => impl_isHidden.eq k rl w h) (EvB.and (isRuleR_ev rl hrl) fun hR => EvB.and (EvB.step (fun k => impl_isSize.eq k w h) (EvB.and (within_ev w 1 9) fun _ => (within_ev h 1 9).ret)) fun hs => ?_)
    have hm := mul_range (a := w) (b := h) (by omega) (by omega) (by omega) (by omega)
    rw [w64_of (by omega) (by omega)]
    exact EvB.val decide_eq_true_iff
  by_cases H : RuleOk rl ∧ ((1 ≤ w ∧ w ≤ 9) ∧ (1 ≤ h ∧ h ≤ 9)) ∧ w * h ≤ 9
  · have hm := mul_range (a := w) (b := h) (by omega) (by omega) (by omega) (by omega)
    have e64 : w64 (w * h) = (((w * h).toNat : Nat) : Int) := by rw [w64_of (by omega) (by omega)]; omega
    obtain ⟨v, v1, v2⟩ := boards_ev rl.size (w * h).toNat H.1.1 (by omega)
    have go : ∀ r, Ev (fun k => cond (decide ((v : Int) > 300)) (some ((0 : Int), false)) (some ((v : Int), true))) r → Ev (fun k => impl_CountBoards k (rl, w, h)) r := fun r Hr => by
      refine Ev.step (fun k => impl_CountBoards.eq k rl w h) (Ev.bind (hid.isT H) (Ev.no rfl ?_))
      rw [e64]
      exact Ev.bind v1 Hr
    by_cases hv : v ≤ 300
    · exact ⟨_, true, go _ (Ev.no (decide_eq_false (by omega)) (Ev.now _)), ⟨fun _ => ⟨H.1, H.2.1.1, H.2.1.2, H.2.2, v2.1 hv⟩, fun _ => rfl⟩⟩
    · exact ⟨_, false, go _ (Ev.yes (decide_eq_true (by omega)) (Ev.now _)), ⟨nofun, fun q => absurd (v2.2 q.2.2.2.2) hv⟩⟩
  · exact ⟨0, false, Ev.step (fun k => impl_CountBoards.eq k rl w h) (Ev.bind (hid.isF H) (Ev.yes rfl (Ev.now _))), ⟨nofun, fun q => absurd ⟨q.1, ⟨q.2.1, q.2.2.1⟩, q.2.2.2.1⟩ H⟩⟩
end
/-! ### Clues -/
end Go.Proofs.YtaookbfcncfkbaaGreatDoorS
