/- Several texts in one: PuSize, PuHidden, PuFilter, PuPuzA, PuPuz1, PuPuz2, PuPzL, PuPuz3, PuDrop. -/
import Derived.Test.YtmdgodjcfhimbaaGreatDoorMgWorld
namespace Go.Proofs.YtmdgodjcfhimbaaGreatDoorS
open Go
set_option linter.unusedVariables false
set_option linter.unusedSimpArgs false

def SizeOk (rl : ByteArray) (w h : Int) : Prop := RuleOk rl ∧ (1 ≤ w ∧ w ≤ 9) ∧ (1 ≤ h ∧ h ≤ 9) ∧ w * h ≤ 9 ∧ rl.size ^ (w * h).toNat ≤ 300
theorem natmul (a b : Nat) : (a : Int) * (b : Int) = ((a * b : Nat) : Int) := (Int.natCast_mul a b).symm
theorem power_ev (rl : ByteArray) (ht : 1 ≤ rl.size ∧ rl.size ≤ 6) (N : Nat) (hN : N ≤ 100) : ∃ r : Int, Ev (fun k => spec_pzPower k (rl, (N : Int))) r ∧ (r > 0 ↔ rl.size ^ N ≤ 300) := by
  have loop : ∀ (m n : Nat), m ≤ 100 → 1 ≤ n → n ≤ 300 → (Ev (fun k => spec_pzPower_l k (rl, (m : Int), (n : Int))) (.inl 0) ∧ 300 < n * rl.size ^ m) ∨ (∃ v : Nat, 0 < v ∧ Ev (fun k => spec_pzPower_l k (rl, (m : Int), (n : Int))) (.inr (v : Int)) ∧ n * rl.size ^ m ≤ 300) := by
    intro m
    induction m with
    | zero =>
      intro n _ h1 h2
      exact .inr ⟨n, h1, Ev.step (fun k => spec_pzPower_l.eq k rl 0 (n : Int)) (Ev.no rfl (Ev.now _)), by simpa using h2⟩
    | succ m ih =>
      intro n hm h1 h2
      have hb : n * rl.size ≤ 300 * 6 := Nat.mul_le_mul h2 ht.2
      have h0 : 1 * 1 ≤ n * rl.size := Nat.mul_le_mul h1 ht.1
      have e : w64 ((n : Int) * (rl.size : Int)) = ((n * rl.size : Nat) : Int) := by rw [natmul, w64_of (by omega) (by omega)]
      have hpow : n * rl.size ^ (m + 1) = n * rl.size * rl.size ^ m := by rw [Nat.pow_succ, Nat.mul_comm (rl.size ^ m) rl.size, Nat.mul_assoc]
      have hge : 1 ≤ rl.size ^ m := Nat.one_le_pow _ _ (by omega)
      have go : ∀ r, Ev (fun k => cond (decide (((n * rl.size : Nat) : Int) > 300)) (some (.inl 0)) (spec_pzPower_l k (rl, (m : Int), ((n * rl.size : Nat) : Int)))) r → Ev (fun k => spec_pzPower_l k (rl, ((m + 1 : Nat) : Int), (n : Int))) r := fun r Hr => by
        refine Ev.step (fun k => spec_pzPower_l.eq k rl ((m + 1 : Nat) : Int) (n : Int)) (Ev.yes (decide_eq_true (by omega)) ?_)
        rw [e, show w64 (((m + 1 : Nat) : Int) - 1) = (m : Int) by rw [w64_of (by omega) (by omega)]; omega]
        exact Hr
      by_cases hc : 300 < n * rl.size
      · refine .inl ⟨go _ (Ev.yes (decide_eq_true (by omega)) (Ev.now _)), ?_⟩
        rw [hpow]
        have := Nat.le_mul_of_pos_right (n * rl.size) (show 0 < rl.size ^ m by omega)
        omega
      · rcases ih (n * rl.size) (by omega) (by omega) (by omega) with ⟨i1, i2⟩ | ⟨v, v0, i1, i2⟩
        · exact .inl ⟨go _ (Ev.no (decide_eq_false (by omega)) i1), by rw [hpow]; exact i2⟩
        · exact .inr ⟨v, v0, go _ (Ev.no (decide_eq_false (by omega)) i1), by rw [hpow]; exact i2⟩
  rcases loop N 1 hN (by omega) (by omega) with ⟨i1, i2⟩ | ⟨v, v0, i1, i2⟩
  · exact ⟨0, Ev.step (fun k => spec_pzPower.eq k rl (N : Int)) (Ev.bind i1 (Ev.now _)), ⟨fun h => by omega, fun h => by omega⟩⟩
  · exact ⟨v, Ev.step (fun k => spec_pzPower.eq k rl (N : Int)) (Ev.bind i1 (Ev.now _)), ⟨fun _ => by omega, fun _ => by omega⟩⟩
theorem boards_ev (t N : Nat) (ht : 1 ≤ t ∧ t ≤ 6) (hN : N ≤ 100) : ∃ v : Nat, Ev (fun k => impl_boards k ((t : Int), (N : Int), 300)) (v : Int) ∧ (v ≤ 300 ↔ t ^ N ≤ 300) := by
  have loop : ∀ (m i all : Nat), i + m = N → ((t ^ i ≤ 300 ∧ all = t ^ i) ∨ (300 < t ^ i ∧ 300 < all ∧ all ≤ 301)) → ∃ v : Nat, Ev (fun k => impl_boards_l k ((t : Int), 300, (all : Int), (N : Int), (i : Int))) (v : Int) ∧ (v ≤ 300 ↔ t ^ N ≤ 300) := by
    intro m
    induction m with
    | zero =>
      intro i all hi h
      obtain rfl : i = N := by omega
      exact ⟨all, Ev.step (fun k => impl_boards_l.eq k (t : Int) 300 (all : Int) (i : Int) (i : Int)) (Ev.no (not_lt_nat (by omega)) (Ev.now _)), by omega⟩
    | succ m ih =>
      intro i all hi h
      have hall : all ≤ 301 := by omega
      have hb : all * t ≤ 301 * 6 := Nat.mul_le_mul hall ht.2
      have e : w64 ((all : Int) * (t : Int)) = ((all * t : Nat) : Int) := by rw [natmul, w64_of (by omega) (by omega)]
      have e3 : w64 (300 + 1) = 301 := rfl
      have hpow : t ^ (i + 1) = t ^ i * t := by rw [Nat.pow_succ]
      have hmono : t ^ i ≤ t ^ i * t := Nat.le_mul_of_pos_right _ (by omega)
      have hmono2 : all ≤ all * t := Nat.le_mul_of_pos_right _ (by omega)
      have go : ∀ r, Ev (fun k => impl_boards_l k ((t : Int), 300, (if (301 : Int) < ((all * t : Nat) : Int) then 301 else ((all * t : Nat) : Int)), (N : Int), ((i + 1 : Nat) : Int))) r → Ev (fun k => impl_boards_l k ((t : Int), 300, (all : Int), (N : Int), (i : Int))) r := fun r Hr => by
        refine Ev.step (fun k => impl_boards_l.eq k (t : Int) 300 (all : Int) (N : Int) (i : Int)) (Ev.yes (lt_nat (by omega)) ?_)
        rw [e, e3, w64_succ (by omega)]
        exact Hr
      by_cases hc : 301 < all * t
      · rw [if_pos (by omega)] at go
        obtain ⟨v, v1, v2⟩ := ih (i + 1) 301 (by omega) (.inr ⟨by
          rw [hpow]
          rcases h with ⟨h1, h2⟩ | ⟨h1, _⟩
          · rw [← h2]; omega
          · omega, by omega, by omega⟩)
        exact ⟨v, go _ v1, v2⟩
      · rw [if_neg (by omega)] at go
        obtain ⟨v, v1, v2⟩ := ih (i + 1) (all * t) (by omega) (by
          rcases h with ⟨h1, h2⟩ | ⟨h1, h2, h3⟩
          · rw [hpow, ← h2]
            omega
          · right
            omega)
        exact ⟨v, go _ v1, v2⟩
  obtain ⟨v, v1, v2⟩ := loop N 0 1 (by omega) (.inl ⟨by simp, by simp⟩)
  exact ⟨v, Ev.step (fun k => impl_boards.eq k (t : Int) (N : Int) 300) (Ev.bind v1 (Ev.now _)), v2⟩
section
variable (rl : ByteArray) (w h : Int) (hrl : rl.size ≤ 9223372036854775807)
theorem pzSize_ev : EvB (fun k => spec_pzSize k (rl, w, h)) (SizeOk rl w h) := by
  refine EvB.step (fun k => spec_pzSize.eq k rl w h) (EvB.and (woRuleR_ev rl) fun hR => EvB.and (l1In_ev w 1 9) fun hw => EvB.and (l1In_ev h 1 9) fun hh => ?_)
  have hm := mul_range (a := w) (b := h) (by omega) (by omega) (by omega) (by omega)
  have e64 : w64 (w * h) = w * h := w64_of (by omega) (by omega)
  rw [e64]
  refine EvB.ifT decide_eq_true_iff fun _ => ?_
  obtain ⟨r, r1, r2⟩ := power_ev rl hR.1 (w * h).toNat (by omega)
  rw [show (((w * h).toNat : Nat) : Int) = w * h by omega] at r1
  exact ⟨decide (r > 0), Ev.bind r1 (Ev.now _), by rw [decide_eq_true_iff]; exact r2⟩
include hrl
theorem countBoards_ev : ∃ (n : Int) (b : Bool), Ev (fun k => impl_CountBoards k (rl, w, h)) (n, b) ∧ (b = true ↔ SizeOk rl w h) := by
  have hid : EvB (fun k => impl_isHidden k (rl, w, h)) (RuleOk rl ∧ ((1 ≤ w ∧ w ≤ 9) ∧ (1 ≤ h ∧ h ≤ 9)) ∧ w * h ≤ 9) := by
    refine EvB.step (fun k => impl_isHidden.eq k rl w h) (EvB.and (isRuleR_ev rl hrl) fun hR => EvB.and (EvB.step (fun k => impl_isSize.eq k w h) (EvB.and (within_ev w 1 9) fun _ => (within_ev h 1 9).ret)) fun hs => ?_)
    have hm := mul_range (a := w) (b := h) (by omega) (by omega) (by omega) (by omega)
    rw [w64_of (by omega) (by omega)]
    exact EvB.val decide_eq_true_iff
  by_cases H : RuleOk rl ∧ ((1 ≤ w ∧ w ≤ 9) ∧ (1 ≤ h ∧ h ≤ 9)) ∧ w * h ≤ 9
  · have hm := mul_range (a := w) (b := h) (by omega) (by omega) (by omega) (by omega)
    have e64 : w64 (w * h) = (((w * h).toNat : Nat) : Int) := by rw [w64_of (by omega) (by omega)]; omega
    obtain ⟨v, v1, v2⟩ := boards_ev rl.size (w * h).toNat H.1.1 (by omega)
    have go : ∀ r, Ev (fun k => cond (decide ((v : Int) > 300)) (some ((0 : Int), false)) (some ((v : Int), true))) r → Ev (fun k => impl_CountBoards k (rl, w, h)) r := fun r Hr => by
      refine Ev.step (fun k => impl_CountBoards.eq k rl w h) (Ev.bind (hid.isT H) (Ev.no rfl ?_))
      rw [e64]
      exact Ev.bind v1 Hr
    by_cases hv : v ≤ 300
    · exact ⟨_, true, go _ (Ev.no (decide_eq_false (by omega)) (Ev.now _)), ⟨fun _ => ⟨H.1, H.2.1.1, H.2.1.2, H.2.2, v2.1 hv⟩, fun _ => rfl⟩⟩
    · exact ⟨_, false, go _ (Ev.yes (decide_eq_true (by omega)) (Ev.now _)), ⟨nofun, fun q => absurd (v2.2 q.2.2.2.2) hv⟩⟩
  · exact ⟨0, false, Ev.step (fun k => impl_CountBoards.eq k rl w h) (Ev.bind (hid.isF H) (Ev.yes rfl (Ev.now _))), ⟨nofun, fun q => absurd ⟨q.1, ⟨q.2.1, q.2.2.1⟩, q.2.2.2.1⟩ H⟩⟩
end
/-! ### Clues -/

def HidOk (rl : ByteArray) (w h : Int) (cs : ByteArray) (x y wy : Int) : Prop := SizeOk rl w h ∧ WorldOk rl w h cs x y wy ∧ x = 0 ∧ y = 0 ∧ wy = 0
section
variable (rl : ByteArray) (w h : Int) (cs : ByteArray) (x y wy : Int)
theorem pzHidden_ev : EvB (fun k => spec_pzHidden k (rl, w, h, cs, x, y, wy)) (HidOk rl w h cs x y wy) := by
  have H : EvB (fun k => spec_pzHidden k (rl, w, h, cs, x, y, wy)) (WorldOk rl w h cs x y wy ∧ (x = 0 ∧ (y = 0 ∧ (wy = 0 ∧ SizeOk rl w h)))) :=
    EvB.step (fun k => spec_pzHidden.eq k rl w h cs x y wy) (EvB.and (woGood_ev rl w h cs x y wy) fun _ => EvB.ifT beq_iff_eq fun _ => EvB.ifT beq_iff_eq fun _ => EvB.ifT beq_iff_eq fun _ => (pzSize_ev rl w h).ret)
  exact H.iff ⟨fun q => ⟨q.2.2.2.2, q.1, q.2.1, q.2.2.1, q.2.2.2.1⟩, fun q => ⟨q.2.1, q.2.2.1, q.2.2.2.1, q.2.2.2.2, q.1⟩⟩
theorem isHidden_ev (hrl : rl.size ≤ 9223372036854775807) (hc : cs.size ≤ 9223372036854775807) : EvB (fun k => impl_isHiddenWorld k (rl, w, h, cs, x, y, wy)) (HidOk rl w h cs x y wy) := by
  obtain ⟨n, b, c1, c2⟩ := countBoards_ev rl w h hrl
  cases b with
  | false => exact ⟨false, Ev.step (fun k => impl_isHiddenWorld.eq k rl w h cs x y wy) (Ev.bind c1 (Ev.yes rfl (Ev.now _))), ⟨nofun, fun q => by have := c2.2 q.1; cases this⟩⟩
  | true =>
    have body : EvB (fun k => (impl_IsWorld k (rl, w, h, cs, x, y, wy)).bind fun r2 => cond r2 ((impl_World_at k (rl, w, h, cs, x, y, wy)).bind fun r3 => cond (r3 == 0) (some (wy == 0)) (some false)) (some false)) (WorldOk rl w h cs x y wy ∧ (x = 0 ∧ y = 0) ∧ wy = 0) := by
      refine EvB.and (isWorld_ev rl w h cs x y wy hrl hc) fun hW => ?_
      obtain ⟨_, hw, hh, _, _, hx, hy, _⟩ := hW
      obtain ⟨a1, a2, a3, a4⟩ := at_range hx hy hw hh
      have hz : y * w + x = 0 ↔ x = 0 ∧ y = 0 := by
        constructor
        · intro e
          have e1 : x = 0 := by omega
          have e2 : y * w = 0 := by omega
          rcases Int.mul_eq_zero.1 e2 with e3 | e3
          · exact ⟨e1, e3⟩
          · omega
        · rintro ⟨rfl, rfl⟩
          simp
      obtain ⟨v, v1, v2⟩ := EvB.ifT (b := (y * w + x == 0)) (P := x = 0 ∧ y = 0) (h := fun _ => some (wy == 0)) (Q := wy = 0) (by rw [beq_iff_eq]; exact hz) fun _ => EvB.val beq_iff_eq
      exact ⟨v, Ev.bind (Ev.step (fun k => impl_World_at.eq k rl w h cs x y wy) (Ev.now' (at64 hx hy hw hh))) v1, v2⟩
    obtain ⟨v, v1, v2⟩ := body
    exact ⟨v, Ev.step (fun k => impl_isHiddenWorld.eq k rl w h cs x y wy) (Ev.bind c1 (Ev.no rfl v1)), v2.trans ⟨fun q => ⟨c2.1 rfl, q.1, q.2.1.1, q.2.1.2, q.2.2⟩, fun q => ⟨q.2.1, ⟨q.2.2.1, q.2.2.2.1⟩, q.2.2.2.2⟩⟩⟩
end

structure Filt {α : Type} (p : α → Bool) (l s : List α) (i j : Nat) : Prop where
  len : s.length = l.length
  le : i ≤ j
  jle : j ≤ l.length
  drop : s.drop j = l.drop j
  take : s.take i = (l.take j).filter p
theorem take_next {α : Type} {l : List α} {j : Nat} {x : α} (h : l[j]? = some x) : l.take (j + 1) = l.take j ++ [x] := by
  rw [List.take_add_one, h]
  rfl
theorem Filt.get {α : Type} {p : α → Bool} {l s : List α} {i j : Nat} (h : Filt p l s i j) : s[j]? = l[j]? := by
  have := congrArg (fun r : List α => r[0]?) h.drop
  simpa using this
theorem drop_next {α : Type} {l s : List α} {j : Nat} (h : s.drop j = l.drop j) : s.drop (j + 1) = l.drop (j + 1) := by
  have := congrArg (List.drop 1) h
  rwa [List.drop_drop, List.drop_drop] at this
theorem Filt.skip {α : Type} {p : α → Bool} {l s : List α} {i j : Nat} (h : Filt p l s i j) {x : α} (hx : l[j]? = some x) (hp : p x = false) : Filt p l s i (j + 1) := by
  have hj := (List.getElem?_eq_some_iff.1 hx).1
  refine ⟨h.len, by have := h.le; omega, hj, drop_next h.drop, ?_⟩
  rw [take_next hx, List.filter_append, h.take]
  simp [hp]
theorem Filt.keep {α : Type} {p : α → Bool} {l s : List α} {i j : Nat} (h : Filt p l s i j) {x : α} (hx : l[j]? = some x) (hp : p x = true) : Filt p l (s.set i x) (i + 1) (j + 1) := by
  have hj := (List.getElem?_eq_some_iff.1 hx).1
  have hle := h.le
  have hi : i < s.length := by rw [h.len]; omega
  refine ⟨by rw [List.length_set]; exact h.len, by omega, hj, ?_, ?_⟩
  · rw [List.drop_set_of_lt (by omega)]
    exact drop_next h.drop
  · have hg : (s.set i x)[i]? = some x := List.getElem?_set_self hi
    rw [take_next hg, List.take_set_of_le (Nat.le_refl _), take_next hx, List.filter_append, h.take]
    simp [hp]
theorem Filt.first {α : Type} {p : α → Bool} {l : List α} {i : Nat} {x : α} (hx : l[i]? = some x) (hp : p x = false) (h : ∀ (m : Nat) (y : α), m < i → l[m]? = some y → p y = true) : Filt p l l i (i + 1) := by
  have hi := (List.getElem?_eq_some_iff.1 hx).1
  refine ⟨rfl, by omega, hi, rfl, ?_⟩
  rw [take_next hx, List.filter_append]
  have : (l.take i).filter p = l.take i := by
    rw [List.filter_eq_self]
    intro y hy
    obtain ⟨m, hm⟩ := List.mem_iff_getElem?.1 hy
    rw [List.getElem?_take] at hm
    split at hm
    · exact h m y (by assumption) hm
    · cases hm
  rw [this]
  simp [hp]
theorem Filt.done {α : Type} {p : α → Bool} {l s : List α} {i : Nat} (h : Filt p l s i l.length) : s.take i = l.filter p := by
  rw [h.take, List.take_of_length_le (Nat.le_refl _)]
theorem filter_all {α : Type} {p : α → Bool} {l : List α} (h : ∀ x ∈ l, p x = true) : l.filter p = l := List.filter_eq_self.2 h
def ClueOk (rl : ByteArray) (n : Int) (c : Cl) : Prop := (c.1 = 0 ∧ (0 ≤ c.2.1 ∧ c.2.1 ≤ n - 1) ∧ (0 ≤ c.2.2 ∧ c.2.2 ≤ (rl.size : Int) - 1)) ∨ (c.1 = 1 ∧ (0 ≤ c.2.1 ∧ c.2.1 ≤ 50) ∧ (0 ≤ c.2.2 ∧ c.2.2 ≤ n - 1)) ∨
  (c.1 = 2 ∧ (0 ≤ c.2.1 ∧ c.2.1 ≤ 50) ∧ (0 ≤ c.2.2 ∧ c.2.2 ≤ 3)) ∨ (c.1 = 3 ∧ (0 ≤ c.2.1 ∧ c.2.1 ≤ 50) ∧ (0 ≤ c.2.2 ∧ c.2.2 ≤ n)) ∨ (c.1 = 4 ∧ (0 ≤ c.2.1 ∧ c.2.1 ≤ 100) ∧ c.2.2 = 0)
theorem pzClue_ev (rl : ByteArray) (n : Int) (c : Cl) (hr : rl.size ≤ 100) (hn : 1 ≤ n ∧ n ≤ 100) : EvB (fun k => spec_pzClue k (rl, n, c)) (ClueOk rl n c) := by
  obtain ⟨kind, a, b⟩ := c
  refine EvB.step (fun k => spec_pzClue.eq k rl n kind a b) ?_
  have e1 : w64 (n - 1) = n - 1 := w64_of (by omega) (by omega)
  have e2 : w64 ((rl.size : Int) - 1) = (rl.size : Int) - 1 := w64_of (by omega) (by omega)
  rw [e1, e2]
  have no : ∀ {z : Int}, kind ≠ z → (kind == z) = false := fun {z} h => by rw [beq_eq_false_iff_ne]; exact h
  unfold ClueOk
  simp only
  by_cases k0 : kind = 0
  · obtain ⟨v, v1, v2⟩ := EvB.and (l1In_ev a 0 (n - 1)) fun _ => (l1In_ev b 0 ((rl.size : Int) - 1)).ret
    exact ⟨v, Ev.yes (beq_iff_eq.2 k0) v1, v2.trans (by constructor <;> intro <;> omega)⟩
  by_cases k1 : kind = 1
  · obtain ⟨v, v1, v2⟩ := EvB.and (l1In_ev a 0 50) fun _ => (l1In_ev b 0 (n - 1)).ret
    exact ⟨v, Ev.no (no k0) (Ev.yes (beq_iff_eq.2 k1) v1), v2.trans (by constructor <;> intro <;> omega)⟩
  by_cases k2 : kind = 2
  · obtain ⟨v, v1, v2⟩ := EvB.and (l1In_ev a 0 50) fun _ => (l1In_ev b 0 3).ret
    exact ⟨v, Ev.no (no k0) (Ev.no (no k1) (Ev.yes (beq_iff_eq.2 k2) v1)), v2.trans (by constructor <;> intro <;> omega)⟩
  by_cases k3 : kind = 3
  · obtain ⟨v, v1, v2⟩ := EvB.and (l1In_ev a 0 50) fun _ => (l1In_ev b 0 n).ret
    exact ⟨v, Ev.no (no k0) (Ev.no (no k1) (Ev.no (no k2) (Ev.yes (beq_iff_eq.2 k3) v1))), v2.trans (by constructor <;> intro <;> omega)⟩
  by_cases k4 : kind = 4
  · obtain ⟨v, v1, v2⟩ := EvB.and (l1In_ev a 0 100) fun _ => EvB.val (b := (b == 0)) (P := b = 0) beq_iff_eq
    exact ⟨v, Ev.no (no k0) (Ev.no (no k1) (Ev.no (no k2) (Ev.no (no k3) (Ev.yes (beq_iff_eq.2 k4) v1)))), v2.trans (by constructor <;> intro <;> omega)⟩
  · exact ⟨false, Ev.no (no k0) (Ev.no (no k1) (Ev.no (no k2) (Ev.no (no k3) (Ev.no (no k4) (Ev.now _))))), ⟨nofun, fun q => by omega⟩⟩
theorem isClue_ev (rl : ByteArray) (n : Int) (c : Cl) (hr : rl.size ≤ 9223372036854775807) : EvB (fun k => impl_IsClue k (rl, n, c)) (RuleOk rl ∧ (1 ≤ n ∧ n ≤ 9) ∧ ClueOk rl n c) := by
  obtain ⟨kind, a, b⟩ := c
  refine EvB.step (fun k => impl_IsClue.eq k rl n kind a b) (EvB.and' (isRuleR_ev rl hr) fun hR => EvB.and' (within_ev n 1 9) fun hn => ?_)
  have hr6 := hR.1.2
  have e1 : w64 (n - 1) = n - 1 := w64_of (by omega) (by omega)
  have e2 : w64 ((rl.size : Int) - 1) = (rl.size : Int) - 1 := w64_of (by omega) (by omega)
  rw [e1, e2]
  obtain ⟨b3, h3, q3⟩ := within_ev a 0 50
  have no : ∀ {z : Int}, kind ≠ z → (kind == z) = false := fun {z} h => by rw [beq_eq_false_iff_ne]; exact h
  unfold ClueOk
  simp only
  by_cases k0 : kind = 0
  · obtain ⟨v, v1, v2⟩ := EvB.and (within_ev a 0 (n - 1)) fun _ => (within_ev b 0 ((rl.size : Int) - 1)).ret
    exact ⟨v, Ev.bind h3 (Ev.yes (beq_iff_eq.2 k0) v1), v2.trans (by constructor <;> intro <;> omega)⟩
  by_cases k1 : kind = 1
  · obtain ⟨v, v1, v2⟩ := EvB.ifT q3 fun _ => (within_ev b 0 (n - 1)).ret
    exact ⟨v, Ev.bind h3 (Ev.no (no k0) (Ev.yes (beq_iff_eq.2 k1) v1)), v2.trans (by constructor <;> intro <;> omega)⟩
  by_cases k2 : kind = 2
  · obtain ⟨v, v1, v2⟩ := EvB.ifT q3 fun _ => EvB.ret (g := fun k => impl_isWay k b) (EvB.step (fun k => impl_isWay.eq k b) (within_ev b 0 3).ret)
    exact ⟨v, Ev.bind h3 (Ev.no (no k0) (Ev.no (no k1) (Ev.yes (beq_iff_eq.2 k2) v1))), v2.trans (by constructor <;> intro <;> omega)⟩
  by_cases k3 : kind = 3
  · obtain ⟨v, v1, v2⟩ := EvB.ifT q3 fun _ => (within_ev b 0 n).ret
    exact ⟨v, Ev.bind h3 (Ev.no (no k0) (Ev.no (no k1) (Ev.no (no k2) (Ev.yes (beq_iff_eq.2 k3) v1)))), v2.trans (by constructor <;> intro <;> omega)⟩
  by_cases k4 : kind = 4
  · obtain ⟨v, v1, v2⟩ := EvB.and (within_ev a 0 100) fun _ => EvB.val (b := (b == 0)) (P := b = 0) beq_iff_eq
    exact ⟨v, Ev.bind h3 (Ev.no (no k0) (Ev.no (no k1) (Ev.no (no k2) (Ev.no (no k3) (Ev.yes (beq_iff_eq.2 k4) v1))))), v2.trans (by constructor <;> intro <;> omega)⟩
  · exact ⟨false, Ev.bind h3 (Ev.no (no k0) (Ev.no (no k1) (Ev.no (no k2) (Ev.no (no k3) (Ev.no (no k4) (Ev.now _)))))), ⟨nofun, fun q => by omega⟩⟩
/-! ### Puzzles -/
def PuzOk (rl : ByteArray) (w h : Int) (cl : List Cl) : Prop := SizeOk rl w h ∧ cl.length ≤ 6 ∧ ∀ c ∈ cl, ClueOk rl (w * h) c
section
variable (rl : ByteArray) (w h : Int) (cl : List Cl) (hrl : rl.size ≤ 9223372036854775807)
theorem pzGood_ev : EvB (fun k => spec_pzGood k (rl, w, h, cl)) (PuzOk rl w h cl) := by
  refine EvB.step (fun k => spec_pzGood.eq k rl w h cl) (EvB.and' (pzSize_ev rl w h) fun hS => EvB.ifN (P := cl.length ≤ 6) (by rw [decide_eq_false_iff_not]; omega) fun hl => ?_)
  have hm := mul_range (a := w) (b := h) (by have := hS.2.1; omega) (by have := hS.2.1; omega) (by have := hS.2.2.1; omega) (by have := hS.2.2.1; omega)
  have e64 : w64 (w * h) = w * h := w64_of (by omega) (by omega)
  have test : ∀ c : Cl, EvB (fun k => spec_pzClue k (rl, w * h, c)) (ClueOk rl (w * h) c) := fun c => pzClue_ev rl (w * h) c (by have := hS.1.1; omega) (by omega)
  have step : ∀ (i : Nat) (c : Cl), cl[i]? = some c → ∀ r, Ev (fun k => (spec_pzClue k (rl, w * h, c)).bind fun r1 => cond (!r1) (some (.inl false)) (spec_pzGood_l k ((rl, w, h, cl), (), (cl.length : Int), w64 ((i : Int) + 1)))) r → Ev (fun k => spec_pzGood_l k ((rl, w, h, cl), (), (cl.length : Int), (i : Int))) r := fun i c hx r Hr => by
    have hi := (List.getElem?_eq_some_iff.1 hx).1
    exact Ev.step (fun k => spec_pzGood_l.eq k rl w h cl (cl.length : Int) (i : Int)) (Ev.yes (lt_nat hi) (Ev.yes (inB_nat hi) (by rw [Int.toNat_natCast, getD_at hx, e64]; exact Hr)))
  have srch := Ev.search (L := fun k i => spec_pzGood_l k ((rl, w, h, cl), (), (cl.length : Int), i)) (n := cl.length) (fun i => ∃ c, cl[i]? = some c ∧ ¬ ClueOk rl (w * h) c) (fun i => .inl false) (.inr ())
    (fun i hi hp r Hr => by
      obtain ⟨c, hx⟩ := nat_list hi
      have hf : ClueOk rl (w * h) c := Classical.byContradiction fun hn => hp ⟨c, hx, hn⟩
      exact step i c hx r (Ev.bind ((test c).isT hf) (Ev.no rfl (by rw [w64_succ (by omega)]; exact Hr))))
    (fun i hi hp => by
      obtain ⟨c, hx, hn⟩ := hp
      exact step i c hx _ (Ev.bind ((test c).isF hn) (Ev.yes rfl (Ev.now _))))
    (Ev.step (fun k => spec_pzGood_l.eq k rl w h cl (cl.length : Int) (cl.length : Int)) (Ev.no (not_lt_nat (Nat.lt_irrefl _)) (Ev.now _))) cl.length 0 (by omega)
  rcases srch with ⟨h1, h2⟩ | ⟨j, _, hj, ⟨c, hx, hn⟩, _, h2⟩
  · refine ⟨true, Ev.bind h2 (Ev.now _), ⟨fun _ c hm => ?_, fun _ => rfl⟩⟩
    obtain ⟨i, hi⟩ := List.mem_iff_getElem?.1 hm
    exact Classical.byContradiction fun hn => h1 i (Nat.zero_le _) (List.getElem?_eq_some_iff.1 hi).1 ⟨c, hi, hn⟩
  · exact ⟨false, Ev.bind h2 (Ev.now _), ⟨nofun, fun q => absurd (q c (List.mem_of_getElem? hx)) hn⟩⟩
include hrl
theorem isPuzzle_ev : EvB (fun k => impl_IsPuzzle k (rl, w, h, cl)) (PuzOk rl w h cl) := by
  obtain ⟨n, b, c1, c2⟩ := countBoards_ev rl w h hrl
  cases b with
  | false => exact ⟨false, Ev.step (fun k => impl_IsPuzzle.eq k rl w h cl) (Ev.bind c1 (Ev.yes rfl (Ev.now _))), ⟨nofun, fun q => by have := c2.2 q.1; cases this⟩⟩
  | true =>
    have hS := c2.1 rfl
    have hm := mul_range (a := w) (b := h) (by have := hS.2.1; omega) (by have := hS.2.1; omega) (by have := hS.2.2.1; omega) (by have := hS.2.2.1; omega)
    have e64 : w64 (w * h) = w * h := w64_of (by omega) (by omega)
    have body : EvB (fun k => cond (decide ((cl.length : Int) > 6)) (some false) ((slices_ContainsFunc k (cl, (rl, w, h, ()))).bind fun r2 => some (!r2))) (cl.length ≤ 6 ∧ ∀ c ∈ cl, ClueOk rl (w * h) c) := by
      refine EvB.ifN (P := cl.length ≤ 6) (by rw [decide_eq_false_iff_not]; omega) fun hl => ?_
      have test : ∀ c : Cl, EvB (fun k => impl_IsPuzzle_1 k (c, (rl, w, h, cl))) (¬ ClueOk rl (w * h) c) := fun c =>
        EvB.step (fun k => impl_IsPuzzle_1.eq k c.1 c.2.1 c.2.2 rl w h cl) (by
          rw [e64]
          exact (isClue_ev rl (w * h) c hrl).neg.iff ⟨fun q z => q ⟨hS.1, by have := hS.2.2.2.1; omega, z⟩, fun q z => q z.2.2⟩)
      have step : ∀ (i : Nat) (c : Cl), cl[i]? = some c → ∀ r, Ev (fun k => (impl_IsPuzzle_1 k (c, (rl, w, h, cl))).bind fun r1 => cond r1 (some (.inl (i : Int))) (slices_IndexFunc_l k (cl, (rl, w, h, ()), (cl.length : Int), w64 ((i : Int) + 1)))) r → Ev (fun k => slices_IndexFunc_l k (cl, (rl, w, h, ()), (cl.length : Int), (i : Int))) r := fun i c hx r Hr => by
        have hi := (List.getElem?_eq_some_iff.1 hx).1
        exact Ev.step (fun k => slices_IndexFunc_l.eq k cl rl w h (cl.length : Int) (i : Int)) (Ev.yes (lt_nat hi) (Ev.yes (inB_nat hi) (by rw [Int.toNat_natCast, getD_at hx]; exact Hr)))
      have srch := Ev.search (L := fun k i => slices_IndexFunc_l k (cl, (rl, w, h, ()), (cl.length : Int), i)) (n := cl.length) (fun i => ∃ c, cl[i]? = some c ∧ ¬ ClueOk rl (w * h) c) (fun i => .inl (i : Int)) (.inr ())
        (fun i hi hp r Hr => by
          obtain ⟨c, hx⟩ := nat_list hi
          have hf : ClueOk rl (w * h) c := Classical.byContradiction fun hn => hp ⟨c, hx, hn⟩
          exact step i c hx r (Ev.bind ((test c).isF fun q => q hf) (Ev.no rfl (by rw [w64_succ (by omega)]; exact Hr))))
        (fun i hi hp => by
          obtain ⟨c, hx, hn⟩ := hp
          exact step i c hx _ (Ev.bind ((test c).isT hn) (Ev.yes rfl (Ev.now _))))
        (Ev.step (fun k => slices_IndexFunc_l.eq k cl rl w h (cl.length : Int) (cl.length : Int)) (Ev.no (not_lt_nat (Nat.lt_irrefl _)) (Ev.now _))) cl.length 0 (by omega)
      have go : ∀ r, Ev (fun k => (slices_IndexFunc_l k (cl, (rl, w, h, ()), (cl.length : Int), ((0 : Nat) : Int))).bind fun r1 => r1.elim (fun r2 => some r2) (fun r3 => some (-1))) r → Ev (fun k => slices_ContainsFunc k (cl, (rl, w, h, ()))) (decide (r ≥ 0)) := fun r Hr =>
        Ev.step (fun k => slices_ContainsFunc.eq k cl rl w h) (Ev.bind (Ev.step (fun k => slices_IndexFunc.eq k cl rl w h) Hr) (Ev.now _))
      rcases srch with ⟨h1, h2⟩ | ⟨j, _, hj, ⟨c, hx, hn⟩, _, h2⟩
      · refine ⟨_, Ev.bind (go _ (Ev.bind h2 (Ev.now _))) (Ev.now _), ⟨fun _ c hm => ?_, fun _ => by simp⟩⟩
        obtain ⟨i, hi⟩ := List.mem_iff_getElem?.1 hm
        exact Classical.byContradiction fun hn => h1 i (Nat.zero_le _) (List.getElem?_eq_some_iff.1 hi).1 ⟨c, hi, hn⟩
      · refine ⟨_, Ev.bind (go _ (Ev.bind h2 (Ev.now _))) (Ev.now _), ⟨fun q => ?_, fun q => absurd (q c (List.mem_of_getElem? hx)) hn⟩⟩
        rw [decide_eq_true (by omega)] at q
        cases q
    obtain ⟨v, v1, v2⟩ := body
    exact ⟨v, Ev.step (fun k => impl_IsPuzzle.eq k rl w h cl) (Ev.bind c1 (Ev.no rfl v1)), v2.trans ⟨fun q => ⟨hS, q⟩, fun q => q.2⟩⟩
end

/-! ### What a clue tells -/
theorem tsteps_ev (kind : Int) (rl : ByteArray) (w h : Int) (n : Nat) (hn : n ≤ 1000) : ∀ (m i : Nat) (cs : ByteArray) (x y wy : Int), WorldOk rl w h cs x y wy → i + m = n → ∃ cs' x' y' wy', WorldOk rl w h cs' x' y' wy' ∧
    Ev (fun k => impl_told_l_2 k (kind, (rl, w, h, cs, x, y, wy), (n : Int), (i : Int))) (kind, (rl, w, h, cs', x', y', wy')) ∧ Ev (fun k => spec_pzValue_l k (kind, (m : Int), (rl, w, h, cs, x, y, wy), 0, 0)) (kind, 0, (rl, w, h, cs', x', y', wy'), 0, 0)
  | 0, i, cs, x, y, wy, H, hi => ⟨cs, x, y, wy, H, Ev.step (fun k => impl_told_l_2.eq k kind rl w h cs x y wy (n : Int) (i : Int)) (Ev.no (not_lt_nat (by omega)) (Ev.now _)), Ev.step (fun k => spec_pzValue_l.eq k kind 0 rl w h cs x y wy 0 0) (Ev.no rfl (Ev.now _))⟩
  | m + 1, i, cs, x, y, wy, H, hi => by
    obtain ⟨cs1, x1, y1, wy1, p1, p2, H1⟩ := wstep_ev rl w h cs x y wy H
    obtain ⟨cs2, x2, y2, wy2, H2, q1, q2⟩ := tsteps_ev kind rl w h n hn m (i + 1) cs1 x1 y1 wy1 H1 (by omega)
    refine ⟨cs2, x2, y2, wy2, H2, ?_, ?_⟩
    · refine Ev.step (fun k => impl_told_l_2.eq k kind rl w h cs x y wy (n : Int) (i : Int)) (Ev.yes (lt_nat (by omega)) (Ev.bind p1 ?_))
      rw [w64_succ (by omega)]
      exact q1
    · refine Ev.step (fun k => spec_pzValue_l.eq k kind ((m + 1 : Nat) : Int) rl w h cs x y wy 0 0) (Ev.yes (decide_eq_true (by omega)) (Ev.bind p2 ?_))
      rw [show w64 (((m + 1 : Nat) : Int) - 1) = (m : Int) by rw [w64_of (by omega) (by omega)]; omega]
      exact q2
def sumD : List UInt8 → Int
  | [] => 0
  | c :: r => ((c.toNat : Int) - 48) + sumD r
theorem drop_at {cs : ByteArray} {i : Nat} {c : UInt8} (h : cs.data.toList[i]? = some c) : cs.data.toList.drop i = c :: cs.data.toList.drop (i + 1) := by
  obtain ⟨hlt, he⟩ := List.getElem?_eq_some_iff.1 h
  rw [List.drop_eq_getElem_cons hlt, he]
theorem sums_ev (kind a : Int) (rl : ByteArray) (w h : Int) (cs : ByteArray) (x y wy : Int) (hsz : cs.size ≤ 81) (hcs : CellsOk 9 cs) : ∀ (m i : Nat) (sum free : Int), i + m = cs.size → 0 ≤ sum → sum ≤ 9 * i → 0 ≤ free → free ≤ i →
    Ev (fun k => spec_pzValue_l_2 k (kind, a, (rl, w, h, cs, x, y, wy), sum, free, (i : Int))) (kind, a, (rl, w, h, cs, x, y, wy), sum + sumD (cs.data.toList.drop i), free + ((cs.data.toList.drop i).count 48 : Int))
  | 0, i, sum, free, hi, h0, h1, h2, h3 => Ev.step (fun k => spec_pzValue_l_2.eq k kind a rl w h cs x y wy sum free (i : Int)) (Ev.no (not_lt_nat (by omega)) (Ev.now' (by
      rw [List.drop_of_length_le (by rw [← size_list]; omega)]
      simp [sumD])))
  | m + 1, i, sum, free, hi, h0, h1, h2, h3 => by
    obtain ⟨c, hc⟩ := byte_at (cs := cs) (i := i) (by omega)
    obtain ⟨c48, c9⟩ := hcs c (List.mem_of_getElem? hc)
    have e1 : w64 (w8 ((c.toNat : Int) - 48)) = (c.toNat : Int) - 48 := by rw [w8_of (by omega) (by omega), w64_of (by omega) (by omega)]
    have e2 : w64 (sum + ((c.toNat : Int) - 48)) = sum + ((c.toNat : Int) - 48) := w64_of (by omega) (by omega)
    have e3 : w64 (free + 1) = free + 1 := w64_of (by omega) (by omega)
    have hB : inB (i : Int) cs.size = true := inB_nat (by omega)
    refine Ev.step (fun k => spec_pzValue_l_2.eq k kind a rl w h cs x y wy sum free (i : Int)) (Ev.yes (lt_nat (by omega)) (Ev.yes hB (Ev.yes hB ?_)))
    rw [Int.toNat_natCast, bt_at hc, e1, e2, e3, w64_succ (by omega), drop_at hc]
    by_cases h48 : c = 48
    · subst h48
      refine Ev.yes rfl ?_
      have := sums_ev kind a rl w h cs x y wy hsz hcs m (i + 1) (sum + (((48 : UInt8).toNat : Int) - 48)) (free + 1) (by omega) (by omega) (by omega) (by omega) (by omega)
      rw [List.count_cons_self, show sumD ((48 : UInt8) :: cs.data.toList.drop (i + 1)) = (((48 : UInt8).toNat : Int) - 48) + sumD (cs.data.toList.drop (i + 1)) from rfl, ← Int.add_assoc,
        show free + (((cs.data.toList.drop (i + 1)).count 48 + 1 : Nat) : Int) = free + 1 + ((cs.data.toList.drop (i + 1)).count 48 : Int) by omega]
      exact this
    · have hb : (((c.toNat : Int)) == 48) = false := by
        rw [beq_eq_false_iff_ne]
        intro e
        apply h48
        apply UInt8.toNat_inj.1
        show c.toNat = 48
        omega
      refine Ev.no hb ?_
      have := sums_ev kind a rl w h cs x y wy hsz hcs m (i + 1) (sum + ((c.toNat : Int) - 48)) free (by omega) (by omega) (by omega) (by omega) (by omega)
      rw [List.count_cons_of_ne h48, show sumD (c :: cs.data.toList.drop (i + 1)) = ((c.toNat : Int) - 48) + sumD (cs.data.toList.drop (i + 1)) from rfl, ← Int.add_assoc]
      exact this
theorem sumI_ev (cs : ByteArray) (hsz : cs.size ≤ 81) (hcs : CellsOk 9 cs) : ∀ (m i : Nat) (all : Int), i + m = cs.size → 0 ≤ all → all ≤ 9 * i → Ev (fun k => impl_told_l k (all, bytesOf cs, (cs.size : Int), (i : Int))) (all + sumD (cs.data.toList.drop i))
  | 0, i, all, hi, h0, h1 => Ev.step (fun k => impl_told_l.eq k all (bytesOf cs) (cs.size : Int) (i : Int)) (Ev.no (not_lt_nat (by omega)) (Ev.now' (by
      rw [List.drop_of_length_le (by rw [← size_list]; omega)]
      simp [sumD])))
  | m + 1, i, all, hi, h0, h1 => by
    obtain ⟨c, hc⟩ := byte_at (cs := cs) (i := i) (by omega)
    obtain ⟨c48, c9⟩ := hcs c (List.mem_of_getElem? hc)
    have e1 : w64 (w8 ((c.toNat : Int) - 48)) = (c.toNat : Int) - 48 := by rw [w8_of (by omega) (by omega), w64_of (by omega) (by omega)]
    have e2 : w64 (all + ((c.toNat : Int) - 48)) = all + ((c.toNat : Int) - 48) := w64_of (by omega) (by omega)
    have hbl : (bytesOf cs).length = cs.size := by unfold bytesOf; rw [List.length_map, ← size_list]
    have hbg : (bytesOf cs).getD i default = (c.toNat : Int) := getD_at (by unfold bytesOf; rw [List.getElem?_map, hc]; rfl)
    refine Ev.step (fun k => impl_told_l.eq k all (bytesOf cs) (cs.size : Int) (i : Int)) (Ev.yes (lt_nat (by omega)) (Ev.yes (inB_nat (by omega)) ?_))
    rw [Int.toNat_natCast, hbg, e1, e2, w64_succ (by omega), drop_at hc, show sumD (c :: cs.data.toList.drop (i + 1)) = ((c.toNat : Int) - 48) + sumD (cs.data.toList.drop (i + 1)) from rfl, ← Int.add_assoc]
    exact sumI_ev cs hsz hcs m (i + 1) _ (by omega) (by omega) (by omega)
theorem cells9 {t : Nat} (ht : t ≤ 9) {cs : ByteArray} (h : CellsOk (t : Int) cs) : CellsOk 9 cs := fun c hc => by
  have := h c hc
  omega
/-- The number that a clue tells: both ways. -/
theorem value_ev (rl : ByteArray) (w h : Int) (cs : ByteArray) (x y wy : Int) (H : WorldOk rl w h cs x y wy) (kind a : Int) (hk : (kind = 0 ∧ 0 ≤ a ∧ a < (cs.size : Int)) ∨ (kind = 4 ∧ a = 0) ∨ ((kind = 1 ∨ kind = 2 ∨ kind = 3) ∧ 0 ≤ a ∧ a ≤ 50)) :
    ∃ v, Ev (fun k => impl_told k (kind, a, (rl, w, h, cs, x, y, wy))) v ∧ Ev (fun k => spec_pzValue k (kind, a, (rl, w, h, cs, x, y, wy))) v := by
  obtain ⟨hR, hw, hh, hs, hcs, hx, hy, hwy⟩ := id H
  have hm := mul_range (a := w) (b := h) (by omega) (by omega) (by omega) (by omega)
  have hsz : cs.size ≤ 81 := by omega
  have h9 := cells9 (by have := hR.1; omega) hcs
  have sS := fun kind a => sums_ev kind a rl w h cs x y wy hsz h9 cs.size 0 0 0 (by omega) (by omega) (by omega) (by omega) (by omega)
  rw [List.drop_zero, Int.zero_add, Int.zero_add] at sS
  have hbl : (bytesOf cs).length = cs.size := by unfold bytesOf; rw [List.length_map, ← size_list]
  rcases hk with ⟨rfl, a0, a1⟩ | ⟨rfl, rfl⟩ | ⟨hk, a0, a1⟩
  · have hB : inB a cs.size = true := inB_of a0 a1
    exact ⟨_, Ev.step (fun k => impl_told.eq k 0 a rl w h cs x y wy) (Ev.yes rfl (Ev.yes hB (Ev.now _))), Ev.step (fun k => spec_pzValue.eq k 0 a rl w h cs x y wy) (Ev.no rfl (Ev.bind (sS 0 a) (Ev.yes rfl (Ev.yes hB (Ev.now _)))))⟩
  · have sI := sumI_ev cs hsz h9 cs.size 0 0 (by omega) (by omega) (by omega)
    rw [List.drop_zero, Int.zero_add] at sI
    refine ⟨sumD cs.data.toList, Ev.step (fun k => impl_told.eq k 4 0 rl w h cs x y wy) (Ev.no rfl (Ev.yes rfl ?_)), Ev.step (fun k => spec_pzValue.eq k 4 0 rl w h cs x y wy) (Ev.yes rfl (Ev.no rfl (Ev.bind (sS 4 0) (Ev.no rfl (Ev.no rfl (Ev.no rfl (Ev.no rfl (Ev.now _))))))))⟩
    rw [hbl]
    exact Ev.bind sI (Ev.now _)
  · obtain ⟨n, rfl⟩ := Int.eq_ofNat_of_zero_le a0
    obtain ⟨cs', x', y', wy', H', p1, p2⟩ := tsteps_ev kind rl w h n (by omega) n 0 cs x y wy H (by omega)
    obtain ⟨_, _, _, hs', hcs', hx', hy', hwy'⟩ := id H'
    have sS' := sums_ev kind 0 rl w h cs' x' y' wy' (by omega) (cells9 (by have := hR.1; omega) hcs') cs'.size 0 0 0 (by omega) (by omega) (by omega) (by omega) (by omega)
    rw [List.drop_zero, Int.zero_add, Int.zero_add] at sS'
    have g1 : decide (kind > 0) = true := decide_eq_true (by omega)
    have g2 : decide (kind < 4) = true := decide_eq_true (by omega)
    have g3 : (kind == 0) = false := by rw [beq_eq_false_iff_ne]; omega
    have g4 : (kind == 4) = false := by rw [beq_eq_false_iff_ne]; omega
    have goI : ∀ v, Ev (fun k => cond (kind == 1) ((impl_World_at k (rl, w, h, cs', x', y', wy')).bind fun r3 => some r3) (cond (kind == 2) (some wy') ((strings_Count k (cs', bs [48])).bind fun r4 => some r4))) v → Ev (fun k => impl_told k (kind, (n : Int), (rl, w, h, cs, x, y, wy))) v := fun v hv =>
      Ev.step (fun k => impl_told.eq k kind (n : Int) rl w h cs x y wy) (Ev.no g3 (Ev.no g4 (Ev.bind p1 hv)))
    have goS : ∀ v, Ev (fun k => cond (kind == 1) (some (w64 (w64 (y' * w) + x'))) (cond (kind == 2) (some wy') (cond (kind == 3) (some (cs'.data.toList.count 48 : Int)) (some (sumD cs'.data.toList))))) v → Ev (fun k => spec_pzValue k (kind, (n : Int), (rl, w, h, cs, x, y, wy))) v := fun v hv =>
      Ev.step (fun k => spec_pzValue.eq k kind (n : Int) rl w h cs x y wy) (Ev.yes g1 (Ev.yes g2 (Ev.bind p2 (Ev.bind sS' (Ev.no g3 hv)))))
    rcases hk with rfl | rfl | rfl
    · exact ⟨_, goI _ (Ev.yes rfl (Ev.bind (Ev.step (fun k => impl_World_at.eq k rl w h cs' x' y' wy') (Ev.now _)) (Ev.now _))), goS _ (Ev.yes rfl (Ev.now _))⟩
    · exact ⟨_, goI _ (Ev.no rfl (Ev.yes rfl (Ev.now _))), goS _ (Ev.no rfl (Ev.yes rfl (Ev.now _)))⟩
    · exact ⟨(cs'.data.toList.count 48 : Int), goI _ (Ev.no rfl (Ev.no rfl (Ev.bind (Ev.step (fun k => (strings_Count.eq k (cs', bs [48])).trans (show strCount1 cs' (bs [48]) = some (cs'.data.toList.count 48 : Int) from rfl)) (Ev.now _)) (Ev.now _)))), goS _ (Ev.no rfl (Ev.no rfl (Ev.yes rfl (Ev.now _))))⟩
/-! ### Clues -/
def Fit (c : Cl) (W : Wo) : Prop := Ev (fun k => spec_pzFits k (c, W)) true
theorem fits_ev (rl : ByteArray) (w h : Int) (cs : ByteArray) (x y wy : Int) (H : WorldOk rl w h cs x y wy) (c : Cl) (hc : ClueOk rl (w * h) c) : EvB (fun k => impl_Clue_fits k (c, (rl, w, h, cs, x, y, wy))) (Fit c (rl, w, h, cs, x, y, wy)) ∧ EvB (fun k => spec_pzFits k (c, (rl, w, h, cs, x, y, wy))) (Fit c (rl, w, h, cs, x, y, wy)) := by
  have hs := H.2.2.2.1
  obtain ⟨kind, a, b⟩ := c
  have key : ∃ v : Bool, Ev (fun k => impl_Clue_fits k ((kind, a, b), (rl, w, h, cs, x, y, wy))) v ∧ Ev (fun k => spec_pzFits k ((kind, a, b), (rl, w, h, cs, x, y, wy))) v := by
    unfold ClueOk at hc
    simp only at hc
    by_cases h4 : kind = 4
    · obtain ⟨v, v1, v2⟩ := value_ev rl w h cs x y wy H 4 0 (.inr (.inl ⟨rfl, rfl⟩))
      exact ⟨_, Ev.step (fun k => impl_Clue_fits.eq k kind a b rl w h cs x y wy) (Ev.yes (beq_iff_eq.2 h4) (Ev.bind v1 (Ev.now _))), Ev.step (fun k => spec_pzFits.eq k kind a b rl w h cs x y wy) (Ev.yes (beq_iff_eq.2 h4) (Ev.bind v2 (Ev.now _)))⟩
    · obtain ⟨v, v1, v2⟩ := value_ev rl w h cs x y wy H kind a (by omega)
      have g : (kind == 4) = false := by rw [beq_eq_false_iff_ne]; exact h4
      exact ⟨_, Ev.step (fun k => impl_Clue_fits.eq k kind a b rl w h cs x y wy) (Ev.no g (Ev.bind v1 (Ev.now _))), Ev.step (fun k => spec_pzFits.eq k kind a b rl w h cs x y wy) (Ev.no g (Ev.bind v2 (Ev.now _)))⟩
  obtain ⟨v, v1, v2⟩ := key
  have e : v = true ↔ Fit (kind, a, b) (rl, w, h, cs, x, y, wy) := ⟨fun e => by subst e; exact v2, fun f => Ev.one v2 f⟩
  exact ⟨⟨v, v1, e⟩, ⟨v, v2, e⟩⟩

/-! ### Digits in breadth -/
theorem ext_at {t c : Nat} {s : ByteArray} (h : c < t) : (extD t s)[c]? = some (s ++ ofBytes [48 + (c : Int)]) := by
  unfold extD
  rw [List.getElem?_map, List.getElem?_range h]
  rfl
theorem dig64 {c : Nat} (h : c < 10) : w8 (w64 (48 + (c : Int))) = 48 + (c : Int) := by rw [w64_of (by omega) (by omega), w8_of (by omega) (by omega)]
theorem digits3_ev (t : Nat) (ht : t ≤ 9) (s : ByteArray) (hs : s.size ≤ 100) (t11 t12 : Int) (t15 : List ByteArray) (t16 t17 : Int) : ∀ (m c : Nat) (next : List ByteArray), c + m = t → next.length + m ≤ 100000 →
    Ev (fun k => impl_digits_l_l_l k ((t : Int), next, s, t11, t12, t15, t16, t17, (t : Int), (c : Int))) ((t : Int), next ++ (extD t s).drop c, t11, t12, t15, t16, t17)
  | 0, c, next, h, hn => Ev.step (fun k => impl_digits_l_l_l.eq k (t : Int) next s t11 t12 t15 t16 t17 (t : Int) (c : Int)) (Ev.no (not_lt_nat (by omega)) (Ev.now' (by rw [List.drop_of_length_le (by rw [ext_len]; omega), List.append_nil])))
  | m + 1, c, next, h, hn => by
    have hx := ext_at (t := t) (c := c) (s := s) (by omega)
    obtain ⟨hlt, he⟩ := List.getElem?_eq_some_iff.1 hx
    refine Ev.step (fun k => impl_digits_l_l_l.eq k (t : Int) next s t11 t12 t15 t16 t17 (t : Int) (c : Int)) (Ev.yes (lt_nat (by omega)) ?_)
    rw [dig64 (by omega), w64_succ (by omega), List.drop_eq_getElem_cons hlt, he]
    have := digits3_ev t ht s hs t11 t12 t15 t16 t17 m (c + 1) (next ++ [s ++ ofBytes [48 + (c : Int)]]) (by omega) (by simp; omega)
    rw [List.append_assoc] at this
    exact Ev.yes (fitS_of (by show s.size + 1 < _; omega)) (Ev.yes (fits_of (by omega)) this)
theorem digits2_ev (t : Nat) (ht : t ≤ 9) (t11 t12 : Int) (out : List ByteArray) (ho : ∀ s ∈ out, s.size ≤ 100) (hl : out.length ≤ 1000) : ∀ (m i : Nat) (next : List ByteArray), i + m = out.length → next.length + m * 9 ≤ 100000 →
    Ev (fun k => impl_digits_l_l k ((t : Int), next, t11, t12, out, (out.length : Int), (i : Int))) ((t : Int), next ++ (out.drop i).flatMap (extD t), t11, t12)
  | 0, i, next, h, hn => Ev.step (fun k => impl_digits_l_l.eq k (t : Int) next t11 t12 out (out.length : Int) (i : Int)) (Ev.no (not_lt_nat (by omega)) (Ev.now' (by rw [List.drop_of_length_le (by omega)]; simp)))
  | m + 1, i, next, h, hn => by
    obtain ⟨s, hx⟩ := nat_list (l := out) (i := i) (by omega)
    obtain ⟨hlt, he⟩ := List.getElem?_eq_some_iff.1 hx
    have h3 := digits3_ev t ht s (ho s (List.mem_of_getElem? hx)) t11 t12 out (out.length : Int) (i : Int) t 0 next (by omega) (by omega)
    rw [List.drop_zero] at h3
    refine Ev.step (fun k => impl_digits_l_l.eq k (t : Int) next t11 t12 out (out.length : Int) (i : Int)) (Ev.yes (lt_nat (by omega)) (Ev.yes (inB_nat (by omega)) ?_))
    rw [Int.toNat_natCast, getD_at hx]
    refine Ev.bind h3 ?_
    have := digits2_ev t ht t11 t12 out ho hl m (i + 1) (next ++ extD t s) (by omega) (by rw [List.length_append, ext_len]; omega)
    rw [List.append_assoc] at this
    rw [List.drop_eq_getElem_cons hlt, he, List.flatMap_cons]
    show Ev (fun k => impl_digits_l_l k ((t : Int), next ++ extD t s, t11, t12, out, (out.length : Int), w64 ((i : Int) + 1))) _
    rw [w64_succ (by omega)]
    exact this
theorem digits_ev (t N : Nat) (ht : 1 ≤ t ∧ t ≤ 6) (hN : N ≤ 9) (hp : t ^ N ≤ 300) : Ev (fun k => impl_digits k ((t : Int), (N : Int))) (allD t N) := by
  have loop : ∀ (m i : Nat), i + m = N → Ev (fun k => impl_digits_l k ((t : Int), allD t i, (N : Int), (i : Int))) (allD t N) := by
    intro m
    induction m with
    | zero =>
      intro i hi
      obtain rfl : i = N := by omega
      exact Ev.step (fun k => impl_digits_l.eq k (t : Int) (allD t i) (i : Int) (i : Int)) (Ev.no (not_lt_nat (by omega)) (Ev.now _))
    | succ m ih =>
      intro i hi
      have hle : t ^ i ≤ 300 := Nat.le_trans (pow_le_pow ht.1 (by omega)) hp
      have hlen : (allD t i).length ≤ 300 := by rw [allD_len]; exact hle
      have h2 := digits2_ev t (by omega) (N : Int) (i : Int) (allD t i) (fun s hs => by have := (allD_ok (by omega) i s hs).1; omega) (by omega) (allD t i).length 0 [] (by omega) (by simp; omega)
      rw [List.drop_zero, List.nil_append] at h2
      refine Ev.step (fun k => impl_digits_l.eq k (t : Int) (allD t i) (N : Int) (i : Int)) (Ev.yes (lt_nat (by omega)) (Ev.bind h2 ?_))
      show Ev (fun k => impl_digits_l k ((t : Int), allD t (i + 1), (N : Int), w64 ((i : Int) + 1))) _
      rw [w64_succ (by omega)]
      exact ih (i + 1) (by omega)
  exact Ev.step (fun k => impl_digits.eq k (t : Int) (N : Int)) (Ev.bind (loop N 0 (by omega)) (Ev.now _))
/-! ### Which boards fit -/
open Classical in
noncomputable def keepC (rl : ByteArray) (w h : Int) (cl : List Cl) (s : ByteArray) : Bool := decide (∀ c ∈ cl, Fit c (rl, w, h, s, 0, 0, 0))
open Classical in
theorem keepC_iff {rl : ByteArray} {w h : Int} {cl : List Cl} {s : ByteArray} : keepC rl w h cl s = true ↔ ∀ c ∈ cl, Fit c (rl, w, h, s, 0, 0, 0) := by
  unfold keepC
  exact decide_eq_true_iff
theorem board_ok {rl : ByteArray} {w h : Int} (H : SizeOk rl w h) {s : ByteArray} (hs : (s.size : Int) = w * h) (hc : CellsOk (rl.size : Int) s) : WorldOk rl w h s 0 0 0 := by
  obtain ⟨hR, hw, hh, _⟩ := H
  exact ⟨hR, hw, hh, hs, hc, by omega, by omega, by omega⟩
theorem lookD_len (t : Nat) : ∀ (m : Nat) (s : ByteArray), (lookD t m s).length = t ^ m
  | 0, s => rfl
  | m + 1, s => by
    show ((extD t s).flatMap (lookD t m)).length = _
    rw [List.length_flatMap]
    have : (extD t s).map (fun a => (lookD t m a).length) = List.replicate (extD t s).length (t ^ m) := by
      rw [List.eq_replicate_iff]
      refine ⟨by simp, fun b hb => ?_⟩
      obtain ⟨a, _, rfl⟩ := List.mem_map.1 hb
      exact lookD_len t m a
    rw [this, List.sum_replicate_nat, ext_len, Nat.pow_succ, Nat.mul_comm]
section
variable (rl : ByteArray) (w h : Int) (H : SizeOk rl w h) (cl : List Cl) (hl : cl.length ≤ 6) (hcl : ∀ c ∈ cl, ClueOk rl (w * h) c)
include H hl hcl
/-- One board: fits it all clues? The reference's way. -/
theorem lookFits_ev (s : ByteArray) (hs : (s.size : Int) = w * h) (hc : CellsOk (rl.size : Int) s) (out : List ByteArray) : (keepC rl w h cl s = true ∧ Ev (fun k => spec_pzLook_l k (s, out, (rl, w, h, s, 0, 0, 0), cl, (cl.length : Int), 0, ())) (.inr (s, out, ()))) ∨
    (keepC rl w h cl s = false ∧ Ev (fun k => spec_pzLook_l k (s, out, (rl, w, h, s, 0, 0, 0), cl, (cl.length : Int), 0, ())) (.inl out)) := by
  have W := board_ok H hs hc
  have step : ∀ (i : Nat) (c : Cl), cl[i]? = some c → ∀ r, Ev (fun k => (spec_pzFits k (c, (rl, w, h, s, 0, 0, 0))).bind fun r1 => cond (!r1) (some (.inl out)) (spec_pzLook_l k (s, out, (rl, w, h, s, 0, 0, 0), cl, (cl.length : Int), w64 ((i : Int) + 1), ()))) r → Ev (fun k => spec_pzLook_l k (s, out, (rl, w, h, s, 0, 0, 0), cl, (cl.length : Int), (i : Int), ())) r := fun i c hx r Hr => by
    have hi := (List.getElem?_eq_some_iff.1 hx).1
    exact Ev.step (fun k => spec_pzLook_l.eq k s out rl w h s 0 0 0 cl (cl.length : Int) (i : Int)) (Ev.yes (lt_nat hi) (Ev.yes (inB_nat hi) (by rw [Int.toNat_natCast, getD_at hx]; exact Hr)))
  have srch := Ev.search (L := fun k i => spec_pzLook_l k (s, out, (rl, w, h, s, 0, 0, 0), cl, (cl.length : Int), i, ())) (n := cl.length) (fun i => ∃ c, cl[i]? = some c ∧ ¬ Fit c (rl, w, h, s, 0, 0, 0)) (fun i => .inl out) (.inr (s, out, ()))
    (fun i hi hp r Hr => by
      obtain ⟨c, hx⟩ := nat_list hi
      have hf : Fit c (rl, w, h, s, 0, 0, 0) := Classical.byContradiction fun hn => hp ⟨c, hx, hn⟩
      exact step i c hx r (Ev.bind ((fits_ev rl w h s 0 0 0 W c (hcl c (List.mem_of_getElem? hx))).2.isT hf) (Ev.no rfl (by rw [w64_succ (by omega)]; exact Hr))))
    (fun i hi hp => by
      obtain ⟨c, hx, hn⟩ := hp
      exact step i c hx _ (Ev.bind ((fits_ev rl w h s 0 0 0 W c (hcl c (List.mem_of_getElem? hx))).2.isF hn) (Ev.yes rfl (Ev.now _))))
    (Ev.step (fun k => spec_pzLook_l.eq k s out rl w h s 0 0 0 cl (cl.length : Int) (cl.length : Int)) (Ev.no (not_lt_nat (Nat.lt_irrefl _)) (Ev.now _))) cl.length 0 (by omega)
  rcases srch with ⟨h1, h2⟩ | ⟨j, _, hj, ⟨c, hx, hn⟩, _, h2⟩
  · refine .inl ⟨keepC_iff.2 fun c hm => ?_, h2⟩
    obtain ⟨i, hi⟩ := List.mem_iff_getElem?.1 hm
    exact Classical.byContradiction fun hn => h1 i (Nat.zero_le _) (List.getElem?_eq_some_iff.1 hi).1 ⟨c, hi, hn⟩
  · refine .inr ⟨?_, h2⟩
    cases hk : keepC rl w h cl s with
    | false => rfl
    | true => exact absurd (keepC_iff.1 hk c (List.mem_of_getElem? hx)) hn
theorem look_ev : ∀ (m : Nat) (s : ByteArray) (out : List ByteArray), (s.size : Int) + m = w * h → CellsOk (rl.size : Int) s → out.length + rl.size ^ m ≤ 1000 →
    Ev (fun k => spec_pzLook k ((rl, w, h, cl), s, out)) ((), out ++ (lookD rl.size m s).filter (keepC rl w h cl)) := by
  have hR := H.1
  have hw := H.2.1
  have hh := H.2.2.1
  have hwh := H.2.2.2.1
  have hm := mul_range (a := w) (b := h) (by omega) (by omega) (by omega) (by omega)
  have e64 : w64 (w * h) = w * h := w64_of (by omega) (by omega)
  intro m
  induction m with
  | zero =>
    intro s out hs hc ho
    have hs' : (s.size : Int) = w * h := by omega
    refine Ev.step (fun k => spec_pzLook.eq k rl w h cl s out) ?_
    rw [e64]
    refine Ev.yes (beq_iff_eq.2 hs') ?_
    have hld : lookD rl.size 0 s = [s] := rfl
    rw [hld]
    rcases lookFits_ev rl w h H cl hl hcl s hs' hc out with ⟨k1, k2⟩ | ⟨k1, k2⟩
    · rw [show [s].filter (keepC rl w h cl) = [s] by simp [k1]]
      exact Ev.bind k2 (Ev.yes (fits_of (by show (out.length + 1) * 16 < _; omega)) (Ev.now _))
    · rw [show [s].filter (keepC rl w h cl) = [] by simp [k1], List.append_nil]
      exact Ev.bind k2 (Ev.now _)
  | succ m ih =>
    intro s out hs hc ho
    have hne : ((s.size : Int) == w * h) = false := by rw [beq_eq_false_iff_ne]; omega
    refine Ev.step (fun k => spec_pzLook.eq k rl w h cl s out) ?_
    rw [e64]
    refine Ev.no hne ?_
    have loop : ∀ (j c : Nat) (out : List ByteArray), c + j = rl.size → out.length + j * rl.size ^ m ≤ 1000 → Ev (fun k => spec_pzLook_l_2 k (s, out, (rl, w, h, cl), (rl.size : Int), (c : Int), ())) (out ++ (((extD rl.size s).drop c).flatMap (lookD rl.size m)).filter (keepC rl w h cl)) := by
      intro j
      induction j with
      | zero =>
        intro c out hc' ho
        exact Ev.step (fun k => spec_pzLook_l_2.eq k s out rl w h cl (rl.size : Int) (c : Int)) (Ev.no (not_lt_nat (by omega)) (Ev.now' (by rw [List.drop_of_length_le (by rw [ext_len]; omega)]; simp)))
      | succ j ihj =>
        intro c out hc' ho
        rw [Nat.succ_mul] at ho
        have hx := ext_at (t := rl.size) (c := c) (s := s) (by omega)
        obtain ⟨hlt, he⟩ := List.getElem?_eq_some_iff.1 hx
        have h6 := hR.1.2
        have h1 := ih (s ++ ofBytes [48 + (c : Int)]) out (by rw [digit_size]; omega) (cells_digit hc (by omega) (by omega)) (by omega)
        have hfl := List.length_filter_le (keepC rl w h cl) (lookD rl.size m (s ++ ofBytes [48 + (c : Int)]))
        rw [lookD_len] at hfl
        have h2 := ihj (c + 1) (out ++ (lookD rl.size m (s ++ ofBytes [48 + (c : Int)])).filter (keepC rl w h cl)) (by omega) (by rw [List.length_append]; omega)
        refine Ev.step (fun k => spec_pzLook_l_2.eq k s out rl w h cl (rl.size : Int) (c : Int)) (Ev.yes (lt_nat (by omega)) (Ev.bind (l1Num_ev (c : Int) (by omega)) (Ev.yes (fitS_of (by show s.size + 1 < _; omega)) (Ev.bind h1 ?_))))
        rw [w64_succ (by omega), List.drop_eq_getElem_cons hlt, he, List.flatMap_cons, List.filter_append, ← List.append_assoc]
        exact h2
    have := loop rl.size 0 out (by omega) (by rw [Nat.pow_succ, Nat.mul_comm] at ho; exact ho)
    rw [List.drop_zero] at this
    exact Ev.bind this (Ev.now _)
noncomputable def solC (rl : ByteArray) (w h : Int) (cl : List Cl) : List ByteArray := (allD rl.size (w * h).toNat).filter (keepC rl w h cl)
theorem pzAll_ev : Ev (fun k => spec_pzAll k (rl, w, h, cl)) (solC rl w h cl) := by
  have hm := mul_range (a := w) (b := h) (by have := H.2.1; omega) (by have := H.2.1; omega) (by have := H.2.2.1; omega) (by have := H.2.2.1; omega)
  have := look_ev rl w h H cl hl hcl (w * h).toNat ByteArray.empty [] (by show (0 : Int) + _ = _; omega) (fun c hc => by cases hc) (by have := H.2.2.2.2; simp; omega)
  rw [List.nil_append, look_empty] at this
  exact Ev.step (fun k => spec_pzAll.eq k rl w h cl) (Ev.bind this (Ev.now _))
/-- One board: is it taken out? The program's way. -/
theorem taken_ev (s : ByteArray) (hs : (s.size : Int) = w * h) (hc : CellsOk (rl.size : Int) s) : EvB (fun k => slices_ContainsFunc_2 k (cl, (rl, w, h, s, 0, 0, 0))) (¬ keepC rl w h cl s = true) := by
  have W := board_ok H hs hc
  have test : ∀ c ∈ cl, EvB (fun k => impl_Puzzle_with_1_1 k (c, (rl, w, h, s, 0, 0, 0))) (¬ Fit c (rl, w, h, s, 0, 0, 0)) := fun c hm =>
    EvB.step (fun k => impl_Puzzle_with_1_1.eq k c.1 c.2.1 c.2.2 rl w h s 0 0 0) (fits_ev rl w h s 0 0 0 W c (hcl c hm)).1.neg
  have step : ∀ (i : Nat) (c : Cl), cl[i]? = some c → ∀ r, Ev (fun k => (impl_Puzzle_with_1_1 k (c, (rl, w, h, s, 0, 0, 0))).bind fun r1 => cond r1 (some (.inl (i : Int))) (slices_IndexFunc_3_l k (cl, (rl, w, h, s, 0, 0, 0), (cl.length : Int), w64 ((i : Int) + 1)))) r → Ev (fun k => slices_IndexFunc_3_l k (cl, (rl, w, h, s, 0, 0, 0), (cl.length : Int), (i : Int))) r := fun i c hx r Hr => by
    have hi := (List.getElem?_eq_some_iff.1 hx).1
    exact Ev.step (fun k => slices_IndexFunc_3_l.eq k cl rl w h s 0 0 0 (cl.length : Int) (i : Int)) (Ev.yes (lt_nat hi) (Ev.yes (inB_nat hi) (by rw [Int.toNat_natCast, getD_at hx]; exact Hr)))
  have srch := Ev.search (L := fun k i => slices_IndexFunc_3_l k (cl, (rl, w, h, s, 0, 0, 0), (cl.length : Int), i)) (n := cl.length) (fun i => ∃ c, cl[i]? = some c ∧ ¬ Fit c (rl, w, h, s, 0, 0, 0)) (fun i => .inl (i : Int)) (.inr ())
    (fun i hi hp r Hr => by
      obtain ⟨c, hx⟩ := nat_list hi
      have hf : Fit c (rl, w, h, s, 0, 0, 0) := Classical.byContradiction fun hn => hp ⟨c, hx, hn⟩
      exact step i c hx r (Ev.bind ((test c (List.mem_of_getElem? hx)).isF fun q => q hf) (Ev.no rfl (by rw [w64_succ (by omega)]; exact Hr))))
    (fun i hi hp => by
      obtain ⟨c, hx, hn⟩ := hp
      exact step i c hx _ (Ev.bind ((test c (List.mem_of_getElem? hx)).isT hn) (Ev.yes rfl (Ev.now _))))
    (Ev.step (fun k => slices_IndexFunc_3_l.eq k cl rl w h s 0 0 0 (cl.length : Int) (cl.length : Int)) (Ev.no (not_lt_nat (Nat.lt_irrefl _)) (Ev.now _))) cl.length 0 (by omega)
  have go : ∀ r, Ev (fun k => (slices_IndexFunc_3_l k (cl, (rl, w, h, s, 0, 0, 0), (cl.length : Int), ((0 : Nat) : Int))).bind fun r1 => r1.elim (fun r2 => some r2) (fun r3 => some (-1))) r → Ev (fun k => slices_ContainsFunc_2 k (cl, (rl, w, h, s, 0, 0, 0))) (decide (r ≥ 0)) := fun r Hr =>
    Ev.step (fun k => slices_ContainsFunc_2.eq k cl rl w h s 0 0 0) (Ev.bind (Ev.step (fun k => slices_IndexFunc_3.eq k cl rl w h s 0 0 0) Hr) (Ev.now _))
  rcases srch with ⟨h1, h2⟩ | ⟨j, _, hj, ⟨c, hx, hn⟩, _, h2⟩
  · refine ⟨_, go _ (Ev.bind h2 (Ev.now _)), ⟨fun h => by simp at h, fun h => absurd (keepC_iff.2 fun c hm => ?_) h⟩⟩
    obtain ⟨i, hi⟩ := List.mem_iff_getElem?.1 hm
    exact Classical.byContradiction fun hn => h1 i (Nat.zero_le _) (List.getElem?_eq_some_iff.1 hi).1 ⟨c, hi, hn⟩
  · exact ⟨_, go _ (Ev.bind h2 (Ev.now _)), ⟨fun _ h => hn (keepC_iff.1 h c (List.mem_of_getElem? hx)), fun _ => decide_eq_true (by omega)⟩⟩
theorem impl_Puzzle_with_ev (pc : List Cl) : Ev (fun k => impl_Puzzle_with_2 k ((rl, w, h, pc), cl)) (solC rl w h cl) := by
  have hm := mul_range (a := w) (b := h) (by have := H.2.1; omega) (by have := H.2.1; omega) (by have := H.2.2.1; omega) (by have := H.2.2.1; omega)
  have e64 : w64 (w * h) = (((w * h).toNat : Nat) : Int) := by rw [w64_of (by omega) (by omega)]; omega
  have hd := digits_ev rl.size (w * h).toNat H.1.1 (by have := H.2.2.2.1; omega) H.2.2.2.2
  have hall : ∀ s ∈ allD rl.size (w * h).toNat, (s.size : Int) = w * h ∧ CellsOk (rl.size : Int) s := fun s hs => by
    have := allD_ok (t := rl.size) (by have := H.1.1; omega) _ s hs
    exact ⟨by omega, this.2⟩
  have hlen : (allD rl.size (w * h).toNat).length ≤ 300 := by rw [allD_len]; exact H.2.2.2.2
  unfold solC
  generalize allD rl.size (w * h).toNat = l at hd hall hlen
  have test : ∀ s ∈ l, EvB (fun k => impl_Puzzle_with_1_2 k (s, (rl, w, h, pc), cl)) (¬ keepC rl w h cl s = true) := fun s hs =>
    EvB.step (fun k => impl_Puzzle_with_1_2.eq k s rl w h pc cl) (taken_ev rl w h H cl hl hcl s (hall s hs).1 (hall s hs).2).ret
  have kf : ∀ {s : ByteArray}, ¬ keepC rl w h cl s = true → keepC rl w h cl s = false := fun {s} hn => by
    cases hk : keepC rl w h cl s with
    | false => rfl
    | true => exact absurd hk hn
  have step : ∀ (i : Nat) (x : ByteArray), l[i]? = some x → ∀ r, Ev (fun k => (impl_Puzzle_with_1_2 k (x, (rl, w, h, pc), cl)).bind fun r1 => cond r1 (some (.inl (i : Int))) (slices_IndexFunc_4_l k (l, ((rl, w, h, pc), cl), (l.length : Int), w64 ((i : Int) + 1)))) r → Ev (fun k => slices_IndexFunc_4_l k (l, ((rl, w, h, pc), cl), (l.length : Int), (i : Int))) r := fun i x hx r Hr => by
    have hi := (List.getElem?_eq_some_iff.1 hx).1
    exact Ev.step (fun k => slices_IndexFunc_4_l.eq k l rl w h pc cl (l.length : Int) (i : Int)) (Ev.yes (lt_nat hi) (Ev.yes (inB_nat hi) (by rw [Int.toNat_natCast, getD_at hx]; exact Hr)))
  have srch := Ev.search (L := fun k i => slices_IndexFunc_4_l k (l, ((rl, w, h, pc), cl), (l.length : Int), i)) (n := l.length) (fun i => ∃ x, l[i]? = some x ∧ ¬ keepC rl w h cl x = true) (fun i => .inl (i : Int)) (.inr ())
    (fun i hi hp r Hr => by
      obtain ⟨x, hx⟩ := nat_list hi
      have hk : keepC rl w h cl x = true := Classical.byContradiction fun hn => hp ⟨x, hx, hn⟩
      exact step i x hx r (Ev.bind ((test x (List.mem_of_getElem? hx)).isF fun q => q hk) (Ev.no rfl (by rw [w64_succ (by omega)]; exact Hr))))
    (fun i hi hp => by
      obtain ⟨x, hx, hn⟩ := hp
      exact step i x hx _ (Ev.bind ((test x (List.mem_of_getElem? hx)).isT hn) (Ev.yes rfl (Ev.now _))))
    (Ev.step (fun k => slices_IndexFunc_4_l.eq k l rl w h pc cl (l.length : Int) (l.length : Int)) (Ev.no (not_lt_nat (Nat.lt_irrefl _)) (Ev.now _))) l.length 0 (by omega)
  have goI : ∀ r, Ev (fun k => (slices_IndexFunc_4_l k (l, ((rl, w, h, pc), cl), (l.length : Int), ((0 : Nat) : Int))).bind fun r1 => r1.elim (fun r2 => some r2) (fun r3 => some (-1))) r → Ev (fun k => slices_IndexFunc_4 k (l, ((rl, w, h, pc), cl))) r := fun r Hr => Ev.step (fun k => slices_IndexFunc_4.eq k l rl w h pc cl) Hr
  suffices hdel : Ev (fun k => slices_DeleteFunc_2 k (l, ((rl, w, h, pc), cl))) (l.filter (keepC rl w h cl)) by
    refine Ev.step (fun k => impl_Puzzle_with_2.eq k rl w h pc cl) ?_
    rw [e64]
    exact Ev.bind hd (Ev.bind hdel (Ev.now _))
  rcases srch with ⟨h1, h2⟩ | ⟨i, _, hi, ⟨x, hx, hn⟩, h1, h2⟩
  · rw [filter_all fun s hs => Classical.byContradiction fun hn => by
      obtain ⟨i, hi⟩ := List.mem_iff_getElem?.1 hs
      exact h1 i (Nat.zero_le _) (List.getElem?_eq_some_iff.1 hi).1 ⟨s, hi, hn⟩]
    exact Ev.step (fun k => slices_DeleteFunc_2.eq k l rl w h pc cl) (Ev.bind (goI _ (Ev.bind h2 (Ev.now _))) (Ev.yes rfl (Ev.now _)))
  · have F0 : Filt (keepC rl w h cl) l l i (i + 1) := Filt.first hx (kf hn) fun m y hm hy => Classical.byContradiction fun hk => h1 m (Nat.zero_le _) hm ⟨y, hy, hk⟩
    have loop : ∀ (m : Nat) (s : List ByteArray) (i j : Nat), Filt (keepC rl w h cl) l s i j → j + m = l.length → ∃ (s' : List ByteArray) (i' : Nat), Ev (fun k => slices_DeleteFunc_2_l k (s, ((rl, w, h, pc), cl), (i : Int), (j : Int))) (s', (i' : Int)) ∧ Filt (keepC rl w h cl) l s' i' l.length := by
      intro m
      induction m with
      | zero =>
        intro s i j F hj
        obtain rfl : j = l.length := by omega
        exact ⟨s, i, Ev.step (fun k => slices_DeleteFunc_2_l.eq k s rl w h pc cl (i : Int) (l.length : Int)) (Ev.no (decide_eq_false (by rw [F.len]; omega)) (Ev.now _)), F⟩
      | succ m ih =>
        intro s i j F hj
        obtain ⟨x, hx⟩ := nat_list (l := l) (i := j) (by omega)
        have hsx : s[j]? = some x := F.get.trans hx
        have hle := F.le
        have hlen' := F.len
        have go : ∀ r, Ev (fun k => (impl_Puzzle_with_1_2 k (x, (rl, w, h, pc), cl)).bind fun r1 => cond (!r1) (cond (inB (i : Int) s.length) (slices_DeleteFunc_2_l k (s.set i x, ((rl, w, h, pc), cl), w64 ((i : Int) + 1), w64 ((j : Int) + 1))) none) (slices_DeleteFunc_2_l k (s, ((rl, w, h, pc), cl), (i : Int), w64 ((j : Int) + 1)))) r → Ev (fun k => slices_DeleteFunc_2_l k (s, ((rl, w, h, pc), cl), (i : Int), (j : Int))) r := fun r Hr =>
          Ev.step (fun k => slices_DeleteFunc_2_l.eq k s rl w h pc cl (i : Int) (j : Int)) (Ev.yes (lt_nat (by omega)) (Ev.yes (inB_nat (by omega)) (by rw [Int.toNat_natCast, Int.toNat_natCast, getD_at hsx]; exact Hr)))
        rw [w64_succ (by omega), w64_succ (by omega)] at go
        cases hk : keepC rl w h cl x with
        | true =>
          obtain ⟨s', i', e1, e2⟩ := ih (s.set i x) (i + 1) (j + 1) (F.keep hx hk) (by omega)
          exact ⟨s', i', go _ (Ev.bind ((test x (List.mem_of_getElem? hx)).isF fun q => q hk) (Ev.yes rfl (Ev.yes (inB_nat (by omega)) e1))), e2⟩
        | false =>
          obtain ⟨s', i', e1, e2⟩ := ih s i (j + 1) (F.skip hx hk) (by omega)
          exact ⟨s', i', go _ (Ev.bind ((test x (List.mem_of_getElem? hx)).isT (by rw [hk]; exact nofun)) (Ev.no rfl e1)), e2⟩
    obtain ⟨s', i', e1, e2⟩ := loop (l.length - (i + 1)) l i (i + 1) F0 (by omega)
    have hle := e2.le
    have hlen' := e2.len
    refine Ev.step (fun k => slices_DeleteFunc_2.eq k l rl w h pc cl) (Ev.bind (goI _ (Ev.bind h2 (Ev.now _))) (Ev.no (by rw [beq_eq_false_iff_ne]; omega) ?_))
    rw [w64_succ (by omega)]
    refine Ev.bind e1 ?_
    simp only [Int.toNat_natCast]
    refine Ev.yes (by rw [decide_eq_true (by omega), decide_eq_true (by omega)]; rfl) (Ev.yes ?_ (Ev.now' ?_))
    · rw [decide_eq_true (by omega), decide_eq_true (by simp; omega)]
      rfl
    · rw [← e2.done, List.append_assoc, List.take_append_of_le_length (by simp; omega), List.take_take, Nat.min_self]
theorem impl_Puzzle_with_2_ev : Ev (fun k => impl_Puzzle_with k ((rl, w, h, cl), ())) (solC rl w h cl) := by
  have hm := mul_range (a := w) (b := h) (by have := H.2.1; omega) (by have := H.2.1; omega) (by have := H.2.2.1; omega) (by have := H.2.2.1; omega)
  have e64 : w64 (w * h) = (((w * h).toNat : Nat) : Int) := by rw [w64_of (by omega) (by omega)]; omega
  have hd := digits_ev rl.size (w * h).toNat H.1.1 (by have := H.2.2.2.1; omega) H.2.2.2.2
  have hall : ∀ s ∈ allD rl.size (w * h).toNat, (s.size : Int) = w * h ∧ CellsOk (rl.size : Int) s := fun s hs => by
    have := allD_ok (t := rl.size) (by have := H.1.1; omega) _ s hs
    exact ⟨by omega, this.2⟩
  have hlen : (allD rl.size (w * h).toNat).length ≤ 300 := by rw [allD_len]; exact H.2.2.2.2
  unfold solC
  generalize allD rl.size (w * h).toNat = l at hd hall hlen
  have test : ∀ s ∈ l, EvB (fun k => impl_Puzzle_with_1 k (s, (rl, w, h, cl), ())) (¬ keepC rl w h cl s = true) := fun s hs =>
    EvB.step (fun k => impl_Puzzle_with_1.eq k s rl w h cl ) (taken_ev rl w h H cl hl hcl s (hall s hs).1 (hall s hs).2).ret
  have kf : ∀ {s : ByteArray}, ¬ keepC rl w h cl s = true → keepC rl w h cl s = false := fun {s} hn => by
    cases hk : keepC rl w h cl s with
    | false => rfl
    | true => exact absurd hk hn
  have step : ∀ (i : Nat) (x : ByteArray), l[i]? = some x → ∀ r, Ev (fun k => (impl_Puzzle_with_1 k (x, (rl, w, h, cl), ())).bind fun r1 => cond r1 (some (.inl (i : Int))) (slices_IndexFunc_2_l k (l, ((rl, w, h, cl), ()), (l.length : Int), w64 ((i : Int) + 1)))) r → Ev (fun k => slices_IndexFunc_2_l k (l, ((rl, w, h, cl), ()), (l.length : Int), (i : Int))) r := fun i x hx r Hr => by
    have hi := (List.getElem?_eq_some_iff.1 hx).1
    exact Ev.step (fun k => slices_IndexFunc_2_l.eq k l rl w h cl  (l.length : Int) (i : Int)) (Ev.yes (lt_nat hi) (Ev.yes (inB_nat hi) (by rw [Int.toNat_natCast, getD_at hx]; exact Hr)))
  have srch := Ev.search (L := fun k i => slices_IndexFunc_2_l k (l, ((rl, w, h, cl), ()), (l.length : Int), i)) (n := l.length) (fun i => ∃ x, l[i]? = some x ∧ ¬ keepC rl w h cl x = true) (fun i => .inl (i : Int)) (.inr ())
    (fun i hi hp r Hr => by
      obtain ⟨x, hx⟩ := nat_list hi
      have hk : keepC rl w h cl x = true := Classical.byContradiction fun hn => hp ⟨x, hx, hn⟩
      exact step i x hx r (Ev.bind ((test x (List.mem_of_getElem? hx)).isF fun q => q hk) (Ev.no rfl (by rw [w64_succ (by omega)]; exact Hr))))
    (fun i hi hp => by
      obtain ⟨x, hx, hn⟩ := hp
      exact step i x hx _ (Ev.bind ((test x (List.mem_of_getElem? hx)).isT hn) (Ev.yes rfl (Ev.now _))))
    (Ev.step (fun k => slices_IndexFunc_2_l.eq k l rl w h cl  (l.length : Int) (l.length : Int)) (Ev.no (not_lt_nat (Nat.lt_irrefl _)) (Ev.now _))) l.length 0 (by omega)
  have goI : ∀ r, Ev (fun k => (slices_IndexFunc_2_l k (l, ((rl, w, h, cl), ()), (l.length : Int), ((0 : Nat) : Int))).bind fun r1 => r1.elim (fun r2 => some r2) (fun r3 => some (-1))) r → Ev (fun k => slices_IndexFunc_2 k (l, ((rl, w, h, cl), ()))) r := fun r Hr => Ev.step (fun k => slices_IndexFunc_2.eq k l rl w h cl ) Hr
  suffices hdel : Ev (fun k => slices_DeleteFunc k (l, ((rl, w, h, cl), ()))) (l.filter (keepC rl w h cl)) by
    refine Ev.step (fun k => impl_Puzzle_with.eq k rl w h cl ) ?_
    rw [e64]
    exact Ev.bind hd (Ev.bind hdel (Ev.now _))
  rcases srch with ⟨h1, h2⟩ | ⟨i, _, hi, ⟨x, hx, hn⟩, h1, h2⟩
  · rw [filter_all fun s hs => Classical.byContradiction fun hn => by
      obtain ⟨i, hi⟩ := List.mem_iff_getElem?.1 hs
      exact h1 i (Nat.zero_le _) (List.getElem?_eq_some_iff.1 hi).1 ⟨s, hi, hn⟩]
    exact Ev.step (fun k => slices_DeleteFunc.eq k l rl w h cl ) (Ev.bind (goI _ (Ev.bind h2 (Ev.now _))) (Ev.yes rfl (Ev.now _)))
  · have F0 : Filt (keepC rl w h cl) l l i (i + 1) := Filt.first hx (kf hn) fun m y hm hy => Classical.byContradiction fun hk => h1 m (Nat.zero_le _) hm ⟨y, hy, hk⟩
    have loop : ∀ (m : Nat) (s : List ByteArray) (i j : Nat), Filt (keepC rl w h cl) l s i j → j + m = l.length → ∃ (s' : List ByteArray) (i' : Nat), Ev (fun k => slices_DeleteFunc_l k (s, ((rl, w, h, cl), ()), (i : Int), (j : Int))) (s', (i' : Int)) ∧ Filt (keepC rl w h cl) l s' i' l.length := by
      intro m
      induction m with
      | zero =>
        intro s i j F hj
        obtain rfl : j = l.length := by omega
        exact ⟨s, i, Ev.step (fun k => slices_DeleteFunc_l.eq k s rl w h cl  (i : Int) (l.length : Int)) (Ev.no (decide_eq_false (by rw [F.len]; omega)) (Ev.now _)), F⟩
      | succ m ih =>
        intro s i j F hj
        obtain ⟨x, hx⟩ := nat_list (l := l) (i := j) (by omega)
        have hsx : s[j]? = some x := F.get.trans hx
        have hle := F.le
        have hlen' := F.len
        have go : ∀ r, Ev (fun k => (impl_Puzzle_with_1 k (x, (rl, w, h, cl), ())).bind fun r1 => cond (!r1) (cond (inB (i : Int) s.length) (slices_DeleteFunc_l k (s.set i x, ((rl, w, h, cl), ()), w64 ((i : Int) + 1), w64 ((j : Int) + 1))) none) (slices_DeleteFunc_l k (s, ((rl, w, h, cl), ()), (i : Int), w64 ((j : Int) + 1)))) r → Ev (fun k => slices_DeleteFunc_l k (s, ((rl, w, h, cl), ()), (i : Int), (j : Int))) r := fun r Hr =>
          Ev.step (fun k => slices_DeleteFunc_l.eq k s rl w h cl  (i : Int) (j : Int)) (Ev.yes (lt_nat (by omega)) (Ev.yes (inB_nat (by omega)) (by rw [Int.toNat_natCast, Int.toNat_natCast, getD_at hsx]; exact Hr)))
        rw [w64_succ (by omega), w64_succ (by omega)] at go
        cases hk : keepC rl w h cl x with
        | true =>
          obtain ⟨s', i', e1, e2⟩ := ih (s.set i x) (i + 1) (j + 1) (F.keep hx hk) (by omega)
          exact ⟨s', i', go _ (Ev.bind ((test x (List.mem_of_getElem? hx)).isF fun q => q hk) (Ev.yes rfl (Ev.yes (inB_nat (by omega)) e1))), e2⟩
        | false =>
          obtain ⟨s', i', e1, e2⟩ := ih s i (j + 1) (F.skip hx hk) (by omega)
          exact ⟨s', i', go _ (Ev.bind ((test x (List.mem_of_getElem? hx)).isT (by rw [hk]; exact nofun)) (Ev.no rfl e1)), e2⟩
    obtain ⟨s', i', e1, e2⟩ := loop (l.length - (i + 1)) l i (i + 1) F0 (by omega)
    have hle := e2.le
    have hlen' := e2.len
    refine Ev.step (fun k => slices_DeleteFunc.eq k l rl w h cl ) (Ev.bind (goI _ (Ev.bind h2 (Ev.now _))) (Ev.no (by rw [beq_eq_false_iff_ne]; omega) ?_))
    rw [w64_succ (by omega)]
    refine Ev.bind e1 ?_
    simp only [Int.toNat_natCast]
    refine Ev.yes (by rw [decide_eq_true (by omega), decide_eq_true (by omega)]; rfl) (Ev.yes ?_ (Ev.now' ?_))
    · rw [decide_eq_true (by omega), decide_eq_true (by simp; omega)]
      rfl
    · rw [← e2.done, List.append_assoc, List.take_append_of_le_length (by simp; omega), List.take_take, Nat.min_self]
end

/-! ### The laws' helpers -/

/-! ### Solutions -/
section
variable (rl : ByteArray) (w h : Int) (cl : List Cl) (hrl : rl.size ≤ 9223372036854775807)
include hrl
theorem solutions_ev : (PuzOk rl w h cl ∧ (solC rl w h cl).length ≤ 300 ∧ Ev (fun k => impl_Solutions k (rl, w, h, cl)) (solC rl w h cl, true) ∧ Ev (fun k => spec_pzGood k (rl, w, h, cl)) true ∧ Ev (fun k => spec_pzAll k (rl, w, h, cl)) (solC rl w h cl)) ∨
    (¬ PuzOk rl w h cl ∧ Ev (fun k => impl_Solutions k (rl, w, h, cl)) ([], false) ∧ Ev (fun k => spec_pzGood k (rl, w, h, cl)) false) := by
  have a1 := isPuzzle_ev rl w h cl hrl
  have a2 := pzGood_ev rl w h cl
  by_cases H : PuzOk rl w h cl
  · obtain ⟨h1, h2, h3⟩ := id H
    refine .inl ⟨H, ?_, Ev.step (fun k => impl_Solutions.eq k rl w h cl) (Ev.bind (a1.isT H) (Ev.no rfl (Ev.bind (impl_Puzzle_with_2_ev rl w h h1 cl h2 h3) (Ev.now _)))), a2.isT H, pzAll_ev rl w h h1 cl h2 h3⟩
    unfold solC
    have := List.length_filter_le (keepC rl w h cl) (allD rl.size (w * h).toNat)
    rw [allD_len] at this
    exact Nat.le_trans this h1.2.2.2.2
  · exact .inr ⟨H, Ev.step (fun k => impl_Solutions.eq k rl w h cl) (Ev.bind (a1.isF H) (Ev.yes rfl (Ev.now _))), a2.isF H⟩
end
def woC (cl : List Cl) (k : Nat) : List Cl := cl.take k ++ cl.drop (k + 1)
theorem woC_len {cl : List Cl} {k : Nat} (h : k < cl.length) : (woC cl k).length + 1 = cl.length := by
  unfold woC
  rw [List.length_append, List.length_take, List.length_drop]
  omega
theorem woC_mem {cl : List Cl} {k : Nat} {c : Cl} (h : c ∈ woC cl k) : c ∈ cl := by
  rcases List.mem_append.1 h with h | h
  · exact List.mem_of_mem_take h
  · exact List.mem_of_mem_drop h
theorem pzWithout_ev (cl : List Cl) (hl : cl.length ≤ 1000) (i : Nat) (hi : i < cl.length) : Ev (fun k => spec_pzWithout k (cl, (i : Int))) (woC cl i) := by
  have e1 : w64 ((i : Int) + 1) = ((i + 1 : Nat) : Int) := w64_succ (by omega)
  refine Ev.step (fun k => spec_pzWithout.eq k cl (i : Int)) ?_
  rw [e1]
  simp only [Int.toNat_natCast, List.nil_append]
  have t1 : (cl.take i).length ≤ 1000 := by rw [List.length_take]; omega
  have t2 : ((cl.drop (i + 1)).take (cl.length - (i + 1))) = cl.drop (i + 1) := List.take_of_length_le (by rw [List.length_drop]; omega)
  rw [t2]
  have t3 : (cl.drop (i + 1)).length ≤ 1000 := by rw [List.length_drop]; omega
  exact Ev.yes (by rw [decide_eq_true (by omega), decide_eq_true (by omega)]; rfl) (Ev.yes (fits_of (by omega)) (Ev.yes (by rw [decide_eq_true (by omega), decide_eq_true (by omega)]; rfl) (Ev.yes (fits_of (by omega)) (Ev.now _))))
theorem dropped_ev (cl : List Cl) (hl : cl.length ≤ 1000) (i : Nat) (hi : i < cl.length) : Ev (fun k => impl_dropped k (cl, (i : Int))) (woC cl i) := by
  have e1 : w64 ((i : Int) + 1) = ((i + 1 : Nat) : Int) := w64_succ (by omega)
  have hc : Ev (fun k => slices_Clone k cl) cl := Ev.step (fun k => (slices_Clone.eq k cl).trans (cloneB_some (s := .pair (.int .i64) (.pair (.int .i64) (.int .i64))) 24 cl (by show List.length (α := Cl) cl * 24 ≤ _; omega))) (Ev.now _)
  have hd : Ev (fun k => slices_Delete k (cl, (i : Int), ((i + 1 : Nat) : Int))) (woC cl i) := by
    refine Ev.step (fun k => (slices_Delete.eq k (cl, (i : Int), ((i + 1 : Nat) : Int))).trans (?_ : _ = some (woC cl i))) (Ev.now _)
    show delB (s := .pair (.int .i64) (.pair (.int .i64) (.int .i64))) cl (i : Int) ((i + 1 : Nat) : Int) = _
    unfold delB
    rw [if_pos ⟨by omega, by omega, by show ((i + 1 : Nat) : Int) ≤ ((List.length (α := Cl) cl : Nat) : Int); omega, by show List.length (α := Cl) cl ≤ _; omega⟩]
    simp only [Int.toNat_natCast]
    rfl
  refine Ev.step (fun k => impl_dropped.eq k cl (i : Int)) ?_
  rw [e1]
  exact Ev.bind hc (Ev.bind hd (Ev.now _))
end Go.Proofs.YtmdgodjcfhimbaaGreatDoorS
