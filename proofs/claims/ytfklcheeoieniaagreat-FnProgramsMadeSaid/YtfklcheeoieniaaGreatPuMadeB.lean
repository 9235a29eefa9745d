/- Spirals: the lists of lefts, the program. -/
import Derived.Test.YtfklcheeoieniaaGreatPuProgs
namespace Go.Proofs.YtfklcheeoieniaaGreatS
open Go
set_option linter.unusedVariables false
set_option linter.unusedSimpArgs false

def Adj (R : Int → Int → Prop) (l : List Int) : Prop := ∀ (i : Nat) (x y : Int), l[i]? = some x → l[i + 1]? = some y → R x y
def InL (l : List Int) (hi : Int) : Prop := ∀ x ∈ l, 1 ≤ x ∧ x ≤ hi
def RisL (l : List Int) (hi : Int) : Prop := InL l hi ∧ Adj (· < ·) l
def DifL (l : List Int) : Prop := ∀ (i : Nat) (x : Int), l[i]? = some x → x ∉ l.take i
theorem adj_less {l : List Int} (h : Adj (· < ·) l) : ∀ (d i : Nat) (x y : Int), l[i]? = some x → l[i + d + 1]? = some y → x < y
  | 0, i, x, y, hx, hy => h i x y hx hy
  | d + 1, i, x, y, hx, hy => by
    obtain ⟨hlt, _⟩ := List.getElem?_eq_some_iff.1 hy
    obtain ⟨z, hz⟩ := nat_list (l := l) (i := i + d + 1) (by omega)
    have h1 := adj_less h d i x z hx hz
    have h2 : z < y := h (i + d + 1) z y hz hy
    omega
theorem mem_take_at {l : List Int} {i : Nat} {x : Int} (h : x ∈ l.take i) : ∃ j, j < i ∧ l[j]? = some x := by
  obtain ⟨j, hj⟩ := List.mem_iff_getElem?.1 h
  rw [List.getElem?_take] at hj
  split at hj
  · rename_i hlt
    exact ⟨j, hlt, hj⟩
  · cases hj
theorem rising_iff (l : List Int) : Adj (· < ·) l ↔ DifL l ∧ Adj (· ≤ ·) l := by
  constructor
  · intro h
    refine ⟨fun i x hx hm => ?_, fun i x y hx hy => Int.le_of_lt (h i x y hx hy)⟩
    obtain ⟨j, hj, hjx⟩ := mem_take_at hm
    have := adj_less h (i - j - 1) j x x hjx (by rw [show j + (i - j - 1) + 1 = i by omega]; exact hx)
    omega
  · rintro ⟨h1, h2⟩ i x y hx hy
    have h3 : x ≤ y := h2 i x y hx hy
    have h4 : y ≠ x := by
      rintro rfl
      refine h1 (i + 1) y hy (List.mem_iff_getElem?.2 ⟨i, ?_⟩)
      rw [List.getElem?_take, if_pos (by omega)]
      exact hx
    show x < y
    omega
theorem adj_nodup {l : List Int} (h : Adj (· < ·) l) : l.Nodup := by
  unfold List.Nodup
  rw [List.pairwise_iff_getElem]
  intro i j hi hj hij
  have := adj_less h (j - i - 1) i l[i] l[j] (List.getElem?_eq_getElem hi) (by rw [show i + (j - i - 1) + 1 = j by omega]; exact List.getElem?_eq_getElem hj)
  omega
/-! ### The tests -/
theorem cmpLess_ev (x y : Int) : Ev (fun k => cmp_Less k (x, y)) (decide (x < y)) := by
  have nan : ∀ z : Int, Ev (fun k => cmp_isNaN k z) false := fun z => Ev.step (fun k => cmp_isNaN.eq k z) (Ev.now' (neq_self z))
  exact Ev.step (fun k => cmp_Less.eq k x y) (Ev.bind (nan x) (Ev.no rfl (Ev.now _)))
section
variable (l : List Int) (hl : l.length ≤ 1048576)
include hl
theorem containsI_ev (v : Int) : EvB (fun k => slices_Contains k (l, v)) (v ∈ l) := by
  have srch := Ev.search (L := fun k i => slices_Index_l k (l, v, (l.length : Int), i)) (n := l.length) (fun i => l[i]? = some v) (fun i => .inl (i : Int)) (.inr ())
    (fun i hi hp r H => by
      obtain ⟨x, hx⟩ := nat_list (l := l) (i := i) hi
      refine Ev.step (fun k => slices_Index_l.eq k l v (l.length : Int) (i : Int)) (Ev.yes (lt_nat hi) (Ev.yes (inB_nat hi) ?_))
      rw [Int.toNat_natCast, getD_at hx, w64_succ (by omega)]
      refine Ev.no (beq_eq_false_iff_ne.2 fun e => hp (by rw [hx, e])) H)
    (fun i hi hp => by
      refine Ev.step (fun k => slices_Index_l.eq k l v (l.length : Int) (i : Int)) (Ev.yes (lt_nat hi) (Ev.yes (inB_nat hi) ?_))
      rw [Int.toNat_natCast, getD_at hp]
      exact Ev.yes (beq_iff_eq.2 rfl) (Ev.now _))
    (Ev.step (fun k => slices_Index_l.eq k l v (l.length : Int) (l.length : Int)) (Ev.no (not_lt_nat (Nat.lt_irrefl _)) (Ev.now _))) l.length 0 (by omega)
  have go : ∀ r, Ev (fun k => (slices_Index_l k (l, v, (l.length : Int), ((0 : Nat) : Int))).bind fun r1 => r1.elim (fun r2 => some r2) (fun r3 => some (-1))) r → Ev (fun k => slices_Contains k (l, v)) (decide (r ≥ 0)) := fun r H =>
    Ev.step (fun k => slices_Contains.eq k l v) (Ev.bind (Ev.step (fun k => slices_Index.eq k l v) H) (Ev.now _))
  rcases srch with ⟨h1, h2⟩ | ⟨j, _, hj, h3, _, h4⟩
  · refine ⟨_, go (-1) (Ev.bind h2 (Ev.now _)), ⟨fun h => by simp at h, fun h => ?_⟩⟩
    obtain ⟨i, hi⟩ := List.mem_iff_getElem?.1 h
    obtain ⟨hlt, _⟩ := List.getElem?_eq_some_iff.1 hi
    exact absurd hi (h1 i (by omega) hlt)
  · exact ⟨_, go (j : Int) (Ev.bind h4 (Ev.now _)), ⟨fun _ => List.mem_iff_getElem?.2 ⟨j, h3⟩, fun _ => decide_eq_true (by omega)⟩⟩
theorem l1Has_ev (v : Int) : EvB (fun k => spec_l1Has k (l, v)) (v ∈ l) := by
  have srch := Ev.search (L := fun k i => spec_l1Has_l k (v, l, (l.length : Int), i)) (n := l.length) (fun i => l[i]? = some v) (fun i => .inl true) (.inr ())
    (fun i hi hp r H => by
      obtain ⟨x, hx⟩ := nat_list (l := l) (i := i) hi
      refine Ev.step (fun k => spec_l1Has_l.eq k v l (l.length : Int) (i : Int)) (Ev.yes (lt_nat hi) (Ev.yes (inB_nat hi) ?_))
      rw [Int.toNat_natCast, getD_at hx, w64_succ (by omega)]
      refine Ev.no (beq_eq_false_iff_ne.2 fun e => hp (by rw [hx, e])) H)
    (fun i hi hp => by
      refine Ev.step (fun k => spec_l1Has_l.eq k v l (l.length : Int) (i : Int)) (Ev.yes (lt_nat hi) (Ev.yes (inB_nat hi) ?_))
      rw [Int.toNat_natCast, getD_at hp]
      exact Ev.yes (beq_iff_eq.2 rfl) (Ev.now _))
    (Ev.step (fun k => spec_l1Has_l.eq k v l (l.length : Int) (l.length : Int)) (Ev.no (not_lt_nat (Nat.lt_irrefl _)) (Ev.now _))) l.length 0 (by omega)
  rcases srch with ⟨h1, h2⟩ | ⟨j, _, hj, h3, _, h4⟩
  · refine ⟨false, Ev.step (fun k => spec_l1Has.eq k l v) (Ev.bind h2 (Ev.now _)), ⟨nofun, fun h => ?_⟩⟩
    obtain ⟨i, hi⟩ := List.mem_iff_getElem?.1 h
    obtain ⟨hlt, _⟩ := List.getElem?_eq_some_iff.1 hi
    exact absurd hi (h1 i (by omega) hlt)
  · exact ⟨true, Ev.step (fun k => spec_l1Has.eq k l v) (Ev.bind h4 (Ev.now _)), ⟨fun _ => List.mem_iff_getElem?.2 ⟨j, h3⟩, fun _ => rfl⟩⟩
theorem areWithin_ev (hi : Int) : EvB (fun k => impl_areWithin k (l, 1, hi)) (InL l hi) := by
  have wi : ∀ n, EvB (fun k => impl_areWithin_1 k (n, 1, hi)) (¬ (1 ≤ n ∧ n ≤ hi)) := fun n => EvB.step (fun k => impl_areWithin_1.eq k n 1 hi) (EvB.neg (within_ev n 1 hi))
  have srch := Ev.search (L := fun k i => slices_IndexFunc_l k (l, (1, hi), (l.length : Int), i)) (n := l.length) (fun i => ∃ x, l[i]? = some x ∧ ¬ (1 ≤ x ∧ x ≤ hi)) (fun i => .inl (i : Int)) (.inr ())
    (fun i hil hp r H => by
      obtain ⟨x, hx⟩ := nat_list (l := l) (i := i) hil
      refine Ev.step (fun k => slices_IndexFunc_l.eq k l 1 hi (l.length : Int) (i : Int)) (Ev.yes (lt_nat hil) (Ev.yes (inB_nat hil) ?_))
      rw [Int.toNat_natCast, getD_at hx, w64_succ (by omega)]
      exact Ev.bind ((wi x).isF fun e => hp ⟨x, hx, e⟩) (Ev.no rfl H))
    (fun i hil hp => by
      obtain ⟨x, hx, e⟩ := hp
      refine Ev.step (fun k => slices_IndexFunc_l.eq k l 1 hi (l.length : Int) (i : Int)) (Ev.yes (lt_nat hil) (Ev.yes (inB_nat hil) ?_))
      rw [Int.toNat_natCast, getD_at hx]
      exact Ev.bind ((wi x).isT e) (Ev.yes rfl (Ev.now _)))
    (Ev.step (fun k => slices_IndexFunc_l.eq k l 1 hi (l.length : Int) (l.length : Int)) (Ev.no (not_lt_nat (Nat.lt_irrefl _)) (Ev.now _))) l.length 0 (by omega)
  have go : ∀ r, Ev (fun k => (slices_IndexFunc_l k (l, (1, hi), (l.length : Int), ((0 : Nat) : Int))).bind fun r1 => r1.elim (fun r2 => some r2) (fun r3 => some (-1))) r → Ev (fun k => impl_areWithin k (l, 1, hi)) (!decide (r ≥ 0)) := fun r H =>
    Ev.step (fun k => impl_areWithin.eq k l 1 hi) (Ev.bind (Ev.step (fun k => slices_ContainsFunc.eq k l 1 hi) (Ev.bind (Ev.step (fun k => slices_IndexFunc.eq k l 1 hi) H) (Ev.now _))) (Ev.now _))
  rcases srch with ⟨h1, h2⟩ | ⟨j, _, hj, ⟨x, hx, hne⟩, _, h4⟩
  · refine ⟨_, go (-1) (Ev.bind h2 (Ev.now _)), ⟨fun _ => fun x hx => ?_, fun _ => rfl⟩⟩
    obtain ⟨i, hi'⟩ := List.mem_iff_getElem?.1 hx
    obtain ⟨hlt, _⟩ := List.getElem?_eq_some_iff.1 hi'
    by_cases c : 1 ≤ x ∧ x ≤ hi
    · exact c
    · exact absurd ⟨x, hi', c⟩ (h1 i (by omega) hlt)
  · refine ⟨_, go (j : Int) (Ev.bind h4 (Ev.now _)), ⟨fun h => ?_, fun h => absurd (h x (List.mem_of_getElem? hx)) hne⟩⟩
    rw [decide_eq_true (by omega : (j : Int) ≥ 0)] at h
    cases h
theorem areDifferent_ev : EvB (fun k => impl_areDifferent k l) (DifL l) := by
  have ci : ∀ (i : Nat) (x : Int), EvB (fun k => slices_Contains k (l.take i, x)) (x ∈ l.take i) := fun i x => containsI_ev (l.take i) (by rw [List.length_take]; omega) x
  have srch := Ev.search (L := fun k i => impl_areDifferent_l k (l, (), (l.length : Int), i)) (n := l.length) (fun i => ∃ x, l[i]? = some x ∧ x ∈ l.take i) (fun i => .inl false) (.inr ())
    (fun i hil hp r H => by
      obtain ⟨x, hx⟩ := nat_list (l := l) (i := i) hil
      refine Ev.step (fun k => impl_areDifferent_l.eq k l (l.length : Int) (i : Int)) (Ev.yes (lt_nat hil) (Ev.yes (inB_nat hil) (Ev.yes (by rw [decide_eq_true (by omega), decide_eq_true (by omega)]; rfl) ?_)))
      rw [Int.toNat_natCast, getD_at hx, w64_succ (by omega)]
      exact Ev.bind ((ci i x).isF fun e => hp ⟨x, hx, e⟩) (Ev.no rfl H))
    (fun i hil hp => by
      obtain ⟨x, hx, e⟩ := hp
      refine Ev.step (fun k => impl_areDifferent_l.eq k l (l.length : Int) (i : Int)) (Ev.yes (lt_nat hil) (Ev.yes (inB_nat hil) (Ev.yes (by rw [decide_eq_true (by omega), decide_eq_true (by omega)]; rfl) ?_)))
      rw [Int.toNat_natCast, getD_at hx]
      exact Ev.bind ((ci i x).isT e) (Ev.yes rfl (Ev.now _)))
    (Ev.step (fun k => impl_areDifferent_l.eq k l (l.length : Int) (l.length : Int)) (Ev.no (not_lt_nat (Nat.lt_irrefl _)) (Ev.now _))) l.length 0 (by omega)
  rcases srch with ⟨h1, h2⟩ | ⟨j, _, hj, ⟨x, hx, hm⟩, _, h4⟩
  · refine ⟨true, Ev.step (fun k => impl_areDifferent.eq k l) (Ev.bind h2 (Ev.now _)), ⟨fun _ => fun i x hx hm => ?_, fun _ => rfl⟩⟩
    obtain ⟨hlt, _⟩ := List.getElem?_eq_some_iff.1 hx
    exact h1 i (by omega) hlt ⟨x, hx, hm⟩
  · exact ⟨false, Ev.step (fun k => impl_areDifferent.eq k l) (Ev.bind h4 (Ev.now _)), ⟨nofun, fun h => absurd hm (h j x hx)⟩⟩
theorem isSorted_l_ev : ∀ i : Nat, i < l.length → ((∀ (j : Nat) (x y : Int), j < i → l[j]? = some x → l[j + 1]? = some y → x ≤ y) → Ev (fun k => slices_IsSorted_l k (l, (i : Int))) (.inr ())) ∧
    (¬ (∀ (j : Nat) (x y : Int), j < i → l[j]? = some x → l[j + 1]? = some y → x ≤ y) → Ev (fun k => slices_IsSorted_l k (l, (i : Int))) (.inl false))
  | 0, h => ⟨fun _ => Ev.step (fun k => slices_IsSorted_l.eq k l _) (Ev.no (decide_eq_false (by omega)) (Ev.now _)), fun h' => absurd (fun j x y hj => absurd hj (by omega)) h'⟩
  | i + 1, h => by
    obtain ⟨x, hx⟩ := nat_list (l := l) (i := i) (by omega)
    obtain ⟨y, hy⟩ := nat_list (l := l) (i := i + 1) h
    obtain ⟨ih1, ih2⟩ := isSorted_l_ev i (by omega)
    have e1 : w64 (((i + 1 : Nat) : Int) - 1) = (i : Int) := by rw [w64_of (by omega) (by omega)]; omega
    have walk : ∀ r, Ev (fun k => cond (decide (y < x)) (some (.inl false)) (slices_IsSorted_l k (l, (i : Int)))) r → Ev (fun k => slices_IsSorted_l k (l, ((i + 1 : Nat) : Int))) r := fun r H => by
      refine Ev.step (fun k => slices_IsSorted_l.eq k l _) (Ev.yes (decide_eq_true (by omega)) (Ev.yes (inB_nat (by omega)) ?_))
      rw [e1, Int.toNat_natCast, Int.toNat_natCast, getD_at hx, getD_at hy]
      exact Ev.yes (inB_nat (by omega)) (Ev.bind (cmpLess_ev y x) H)
    constructor
    · intro h'
      have := h' i x y (by omega) hx hy
      exact walk _ (Ev.no (decide_eq_false (by omega)) (ih1 fun j a b hj => h' j a b (by omega)))
    · intro h'
      by_cases c : y < x
      · exact walk _ (Ev.yes (decide_eq_true c) (Ev.now _))
      · refine walk _ (Ev.no (decide_eq_false c) (ih2 fun h2 => h' fun j a b hj ha hb => ?_))
        by_cases e : j = i
        · subst e
          rw [hx] at ha
          rw [hy] at hb
          obtain rfl := Option.some.inj ha
          obtain rfl := Option.some.inj hb
          omega
        · exact h2 j a b (by omega) ha hb
theorem isSorted_ev : EvB (fun k => slices_IsSorted k l) (Adj (· ≤ ·) l) := by
  by_cases hz : l.length = 0
  · have e : l = [] := List.length_eq_zero_iff.1 hz
    subst e
    exact ⟨true, Ev.step (fun k => slices_IsSorted.eq k []) (Ev.bind (Ev.step (fun k => slices_IsSorted_l.eq k [] _) (Ev.no rfl (Ev.now _))) (Ev.now _)), ⟨fun _ => fun i x y hx => by simp at hx, fun _ => rfl⟩⟩
  · obtain ⟨a1, a2⟩ := isSorted_l_ev l hl (l.length - 1) (by omega)
    have e1 : w64 ((l.length : Int) - 1) = ((l.length - 1 : Nat) : Int) := by rw [w64_of (by omega) (by omega)]; omega
    have key : (∀ (j : Nat) (x y : Int), j < l.length - 1 → l[j]? = some x → l[j + 1]? = some y → x ≤ y) ↔ Adj (· ≤ ·) l := by
      constructor
      · intro h i x y hx hy
        obtain ⟨hlt, _⟩ := List.getElem?_eq_some_iff.1 hy
        exact h i x y (by omega) hx hy
      · intro h j x y _ hx hy
        exact h j x y hx hy
    by_cases c : Adj (· ≤ ·) l
    · refine ⟨true, Ev.step (fun k => slices_IsSorted.eq k l) ?_, ⟨fun _ => c, fun _ => rfl⟩⟩
      rw [e1]
      exact Ev.bind (a1 (key.2 c)) (Ev.now _)
    · refine ⟨false, Ev.step (fun k => slices_IsSorted.eq k l) ?_, ⟨nofun, fun h => absurd h c⟩⟩
      rw [e1]
      exact Ev.bind (a2 fun h => c (key.1 h)) (Ev.now _)
theorem rising_ev (hi : Int) : EvB (fun k => spec_l1Rising k (l, 1, hi)) (RisL l hi) := by
  have srch := Ev.search (L := fun k i => spec_l1Rising_l k (l, 1, hi, (), (l.length : Int), i)) (n := l.length) (fun i => ∃ x, l[i]? = some x ∧ (¬ (1 ≤ x ∧ x ≤ hi) ∨ ∃ (j : Nat) (y : Int), i = j + 1 ∧ l[j]? = some y ∧ ¬ y < x)) (fun i => .inl false) (.inr ())
    (fun i hil hp r H => by
      obtain ⟨x, hx⟩ := nat_list (l := l) (i := i) hil
      refine Ev.step (fun k => spec_l1Rising_l.eq k l 1 hi (l.length : Int) (i : Int)) (Ev.yes (lt_nat hil) (Ev.yes (inB_nat hil) ?_))
      rw [Int.toNat_natCast, getD_at hx, w64_succ (by omega)]
      have hin : 1 ≤ x ∧ x ≤ hi := by
        by_cases c : 1 ≤ x ∧ x ≤ hi
        · exact c
        · exact absurd ⟨x, hx, .inl c⟩ hp
      refine Ev.bind ((l1In_ev x 1 hi).isT hin) (Ev.no rfl ?_)
      match i, hil, hx, hp, H with
      | 0, hil, hx, hp, H => exact Ev.no (decide_eq_false (by omega)) H
      | i + 1, hil, hx, hp, H =>
        obtain ⟨y, hy⟩ := nat_list (l := l) (i := i) (by omega)
        have e1 : w64 (((i + 1 : Nat) : Int) - 1) = (i : Int) := by rw [w64_of (by omega) (by omega)]; omega
        have c : y < x := by
          by_cases c : y < x
          · exact c
          · exact absurd ⟨x, hx, .inr ⟨i, y, rfl, hy, c⟩⟩ hp
        refine Ev.yes (decide_eq_true (by omega)) ?_
        rw [e1, Int.toNat_natCast, getD_at hy]
        exact Ev.yes (inB_nat (by omega)) (Ev.no (decide_eq_false (by omega)) H))
    (fun i hil hp => by
      obtain ⟨x, hx, hp⟩ := hp
      refine Ev.step (fun k => spec_l1Rising_l.eq k l 1 hi (l.length : Int) (i : Int)) (Ev.yes (lt_nat hil) (Ev.yes (inB_nat hil) ?_))
      rw [Int.toNat_natCast, getD_at hx]
      by_cases hin : 1 ≤ x ∧ x ≤ hi
      · rcases hp with hp | ⟨j, y, rfl, hy, c⟩
        · exact absurd hin hp
        · have e1 : w64 (((j + 1 : Nat) : Int) - 1) = (j : Int) := by rw [w64_of (by omega) (by omega)]; omega
          refine Ev.bind ((l1In_ev x 1 hi).isT hin) (Ev.no rfl (Ev.yes (decide_eq_true (by omega)) ?_))
          rw [e1, Int.toNat_natCast, getD_at hy]
          exact Ev.yes (inB_nat (by omega)) (Ev.yes (decide_eq_true (by omega)) (Ev.now _))
      · exact Ev.bind ((l1In_ev x 1 hi).isF hin) (Ev.yes rfl (Ev.now _)))
    (Ev.step (fun k => spec_l1Rising_l.eq k l 1 hi (l.length : Int) (l.length : Int)) (Ev.no (not_lt_nat (Nat.lt_irrefl _)) (Ev.now _))) l.length 0 (by omega)
  rcases srch with ⟨h1, h2⟩ | ⟨j, _, hj, ⟨x, hx, hp⟩, _, h4⟩
  · refine ⟨true, Ev.step (fun k => spec_l1Rising.eq k l 1 hi) (Ev.bind h2 (Ev.now _)), ⟨fun _ => ⟨fun x hx => ?_, fun i y x hy hx => ?_⟩, fun _ => rfl⟩⟩
    · obtain ⟨i, hi'⟩ := List.mem_iff_getElem?.1 hx
      obtain ⟨hlt, _⟩ := List.getElem?_eq_some_iff.1 hi'
      by_cases c : 1 ≤ x ∧ x ≤ hi
      · exact c
      · exact absurd ⟨x, hi', .inl c⟩ (h1 i (by omega) hlt)
    · obtain ⟨hlt, _⟩ := List.getElem?_eq_some_iff.1 hx
      show y < x
      by_cases c : y < x
      · exact c
      · exact absurd ⟨x, hx, .inr ⟨i, y, rfl, hy, c⟩⟩ (h1 (i + 1) (by omega) hlt)
  · refine ⟨false, Ev.step (fun k => spec_l1Rising.eq k l 1 hi) (Ev.bind h4 (Ev.now _)), ⟨nofun, fun h => ?_⟩⟩
    rcases hp with hp | ⟨i, y, rfl, hy, c⟩
    · exact absurd (h.1 x (List.mem_of_getElem? hx)) hp
    · exact absurd (h.2 i y x hy hx) c
end
/-! ### The spiral -/
def spiP (n : Nat) (l : List Int) : List Pa := (List.range n).map fun i => (i + 1, if ((i + 1 : Nat) : Int) ∈ l then 76 else 82)
theorem spi_len (n : Nat) (l : List Int) : (spiP n l).length = n := by unfold spiP; rw [List.length_map, List.length_range]
theorem spi_ok {n : Nat} (hn : n ≤ 9) (l : List Int) : ∀ p ∈ spiP n l, PaOk p := fun p hp => by
  unfold spiP at hp
  obtain ⟨i, hi, rfl⟩ := List.mem_map.1 hp
  have := List.mem_range.1 hi
  refine ⟨by show i + 1 ≤ 9; omega, ?_⟩
  show SignC (if ((i + 1 : Nat) : Int) ∈ l then 76 else 82)
  split
  · exact .inl rfl
  · exact .inr (.inl rfl)
theorem spi_succ (n : Nat) (l : List Int) : spiP (n + 1) l = spiP n l ++ [(n + 1, if ((n + 1 : Nat) : Int) ∈ l then 76 else 82)] := by
  unfold spiP
  rw [List.range_succ, List.map_append]
  rfl
theorem spi_sum {n : Nat} (hn : 1 ≤ n ∧ n ≤ 9) (l : List Int) : (lenP (spiP n l) : Int) = ((n : Int) * ((n : Int) + 1)).tdiv 2 := by
  unfold lenP spiP
  rw [List.map_map]
  have : n = 1 ∨ n = 2 ∨ n = 3 ∨ n = 4 ∨ n = 5 ∨ n = 6 ∨ n = 7 ∨ n = 8 ∨ n = 9 := by omega
  rcases this with rfl | rfl | rfl | rfl | rfl | rfl | rfl | rfl | rfl <;> rfl
theorem spi_count (n : Nat) (l : List Int) : cntP 76 (spiP n l) + cntP 82 (spiP n l) = n ∧ cntP 85 (spiP n l) = 0 := by
  induction n with
  | zero => exact ⟨rfl, rfl⟩
  | succ n ih =>
    obtain ⟨h1, h2⟩ := ih
    rw [spi_succ]
    unfold cntP at h1 h2 ⊢
    simp only [List.map_append, List.count_append, List.map_cons, List.map_nil]
    by_cases c : ((n + 1 : Nat) : Int) ∈ l
    · rw [if_pos c]
      have e : List.count 76 [(76 : UInt8)] = 1 ∧ List.count 82 [(76 : UInt8)] = 0 ∧ List.count 85 [(76 : UInt8)] = 0 := by decide
      omega
    · rw [if_neg c]
      have e : List.count 76 [(82 : UInt8)] = 0 ∧ List.count 82 [(82 : UInt8)] = 1 ∧ List.count 85 [(82 : UInt8)] = 0 := by decide
      omega
theorem spi_lefts {n : Nat} {l : List Int} (h : RisL l (n : Int)) : cntP 76 (spiP n l) = l.length := by
  have hnd := adj_nodup h.2
  have hc : cntP 76 (spiP n l) = ((List.range n).filter fun i => decide (((i + 1 : Nat) : Int) ∈ l)).length := by
    unfold cntP spiP
    rw [List.map_map, List.count_eq_countP, List.countP_map, List.countP_eq_length_filter]
    congr 1
    refine List.filter_congr fun i _ => ?_
    show ((if ((i + 1 : Nat) : Int) ∈ l then (76 : UInt8) else 82) == 76) = _
    by_cases c : ((i + 1 : Nat) : Int) ∈ l
    · rw [if_pos c, decide_eq_true c]; rfl
    · rw [if_neg c, decide_eq_false c]; rfl
  rw [hc]
  have hp : (((List.range n).filter fun i => decide (((i + 1 : Nat) : Int) ∈ l)).map fun i : Nat => ((i + 1 : Nat) : Int)).Perm l := by
    rw [List.perm_ext_iff_of_nodup _ hnd]
    · intro x
      constructor
      · intro hx
        obtain ⟨i, hi, rfl⟩ := List.mem_map.1 hx
        exact of_decide_eq_true (List.mem_filter.1 hi).2
      · intro hx
        obtain ⟨h1, h2⟩ := h.1 x hx
        refine List.mem_map.2 ⟨(x - 1).toNat, List.mem_filter.2 ⟨List.mem_range.2 (by omega), decide_eq_true ?_⟩, by omega⟩
        rw [show (((x - 1).toNat + 1 : Nat) : Int) = x by omega]
        exact hx
    · refine List.Pairwise.map _ (fun a b (hab : a ≠ b) => by intro e; exact hab (by omega)) ?_
      exact List.Pairwise.filter _ List.nodup_range
  have := hp.length_eq
  rw [List.length_map] at this
  exact this
section
variable (l : List Int) (hl : l.length ≤ 1048576) (n : Nat) (hn : n ≤ 9)
include hl hn
theorem spiralI_l_ev : ∀ (m j : Nat), j + m = n → Ev (fun k => impl_SpiralProgram_l k (l, (encL (spiP j l)).map (fun c => (c.toNat : Int)), (n : Int), (j : Int))) ((encL (spiP n l)).map (fun c => (c.toNat : Int)))
  | 0, j, h => by
    obtain rfl : j = n := by omega
    exact Ev.step (fun k => impl_SpiralProgram_l.eq k l _ _ _) (Ev.no (not_lt_nat (by omega)) (Ev.now _))
  | m + 1, j, h => by
    have e1 : w64 ((j : Int) + 1) = ((j + 1 : Nat) : Int) := w64_succ (by omega)
    have e2 : w8 (w64 (49 + (j : Int))) = ((UInt8.ofNat (48 + (j + 1))).toNat : Int) := by rw [w64_of (by omega) (by omega), w8_of (by omega) (by omega), toNat_ofNat8 (by omega)]; omega
    have hc := containsI_ev l hl ((j + 1 : Nat) : Int)
    have hlen : ((encL (spiP j l)).map (fun c => (c.toNat : Int))).length = 2 * j := by rw [List.length_map, encL_len, spi_len]
    have ih := spiralI_l_ev m (j + 1) (by omega)
    have ed : ∀ c : UInt8, (if ((j + 1 : Nat) : Int) ∈ l then (76 : UInt8) else 82) = c → (encL (spiP j l)).map (fun c => (c.toNat : Int)) ++ [((UInt8.ofNat (48 + (j + 1))).toNat : Int), (c.toNat : Int)] = (encL (spiP (j + 1) l)).map (fun c => (c.toNat : Int)) := by
      rintro c rfl
      rw [spi_succ, encL_append, List.map_append]
      rfl
    refine Ev.step (fun k => impl_SpiralProgram_l.eq k l _ _ _) (Ev.yes (lt_nat (by omega)) ?_)
    rw [e1, e2]
    by_cases c : ((j + 1 : Nat) : Int) ∈ l
    · refine Ev.bind (hc.isT c) (Ev.bind (Ev.step (fun k => impl_bit.eq k true) (Ev.yes rfl (Ev.now 1))) (Ev.yes rfl (Ev.yes (fits_of (by omega)) ?_)))
      rw [show bt (bs [82, 76]) (1 : Int).toNat = (((76 : UInt8).toNat : Nat) : Int) from rfl, ed 76 (if_pos c)]
      exact ih
    · refine Ev.bind (hc.isF c) (Ev.bind (Ev.step (fun k => impl_bit.eq k false) (Ev.no rfl (Ev.now 0))) (Ev.yes rfl (Ev.yes (fits_of (by omega)) ?_)))
      rw [show bt (bs [82, 76]) (0 : Int).toNat = (((82 : UInt8).toNat : Nat) : Int) from rfl, ed 82 (if_neg c)]
      exact ih
theorem spiralS_l_ev : ∀ (m j : Nat), j + m = n → Ev (fun k => spec_SpiralProgram_l k ((n : Int), l, enc (spiP j l), ((j + 1 : Nat) : Int))) (enc (spiP n l))
  | 0, j, h => by
    obtain rfl : j = n := by omega
    exact Ev.step (fun k => spec_SpiralProgram_l.eq k _ l _ _) (Ev.no (decide_eq_false (by omega)) (Ev.now _))
  | m + 1, j, h => by
    have hz := enc_size (spiP j l)
    rw [spi_len] at hz
    have hc := l1Has_ev l hl ((j + 1 : Nat) : Int)
    have ih := spiralS_l_ev m (j + 1) (by omega)
    have eo : ofBytes [48 + ((j + 1 : Nat) : Int)] = bs [UInt8.ofNat (48 + (j + 1))] := by
      have := ofBytes_of [UInt8.ofNat (48 + (j + 1))]
      rw [List.map_cons, List.map_nil, toNat_ofNat8 (by omega)] at this
      rw [show 48 + ((j + 1 : Nat) : Int) = ((48 + (j + 1) : Nat) : Int) by omega]
      exact this
    have hN := l1Num_ev ((j + 1 : Nat) : Int) (by omega)
    rw [eo] at hN
    have ed : ∀ c : UInt8, (if ((j + 1 : Nat) : Int) ∈ l then (76 : UInt8) else 82) = c → (enc (spiP j l) ++ bs [UInt8.ofNat (48 + (j + 1))]) ++ bs [c] = enc (spiP (j + 1) l) := by
      rintro c rfl
      apply ba_ext
      rw [append_list, append_list, spi_succ]
      show (encL _ ++ [UInt8.ofNat (48 + (j + 1))]) ++ [_] = encL _
      rw [encL_append, List.append_assoc]
      rfl
    have z1 : ∀ c : UInt8, (bs [c]).size = 1 := fun c => rfl
    have f1 : fitS (enc (spiP j l)) (bs [UInt8.ofNat (48 + (j + 1))]) = true := fitS_of (by rw [z1]; omega)
    have f2 : ∀ c : UInt8, fitS (enc (spiP j l) ++ bs [UInt8.ofNat (48 + (j + 1))]) (bs [c]) = true := fun c => fitS_of (by rw [z1, ByteArray.size_append, z1]; omega)
    refine Ev.step (fun k => spec_SpiralProgram_l.eq k _ l _ _) (Ev.yes (decide_eq_true (by omega)) (Ev.bind hN (Ev.yes f1 ?_)))
    by_cases c : ((j + 1 : Nat) : Int) ∈ l
    · refine Ev.bind (hc.isT c) (Ev.yes rfl (Ev.yes (f2 76) ?_))
      rw [ed 76 (if_pos c), w64_succ (by omega)]
      exact ih
    · refine Ev.bind (hc.isF c) (Ev.no rfl (Ev.yes (f2 82) ?_))
      rw [ed 82 (if_neg c), w64_succ (by omega)]
      exact ih
end
theorem spiral_ev (l : List Int) (hl : l.length ≤ 1048576) (n : Nat) (hn : 1 ≤ n ∧ n ≤ 9) (h : RisL l (n : Int)) : Ev (fun k => impl_SpiralProgram k ((n : Int), l)) (enc (spiP n l), true) ∧ Ev (fun k => spec_SpiralProgram k ((n : Int), l)) (enc (spiP n l), true) := by
  have q1 := spiralI_l_ev l hl n hn.2 n 0 (by omega)
  have q2 := spiralS_l_ev l hl n hn.2 n 0 (by omega)
  obtain ⟨r1, r2⟩ := (rising_iff l).1 h.2
  refine ⟨Ev.step (fun k => impl_SpiralProgram.eq k _ l) (Ev.bind ((within_ev (n : Int) 1 9).isT (by omega)) (Ev.no rfl (Ev.bind ((areWithin_ev l hl (n : Int)).isT h.1) (Ev.no rfl (Ev.bind ((areDifferent_ev l hl).isT r1) (Ev.no rfl (Ev.bind ((isSorted_ev l hl).isT r2) (Ev.no rfl (Ev.bind q1 (Ev.now' ?_)))))))))),
    Ev.step (fun k => spec_SpiralProgram.eq k _ l) (Ev.bind ((l1In_ev (n : Int) 1 9).isT (by omega)) (Ev.no rfl (Ev.bind ((rising_ev l hl (n : Int)).isT h) (Ev.no rfl (Ev.bind q2 (Ev.now _))))))⟩
  rw [ofBytes_of]
  rfl
theorem spiral_no (l : List Int) (hl : l.length ≤ 1048576) (n : Int) (h : ¬ ((1 ≤ n ∧ n ≤ 9) ∧ RisL l n)) : Ev (fun k => impl_SpiralProgram k (n, l)) (ByteArray.empty, false) ∧ Ev (fun k => spec_SpiralProgram k (n, l)) (ByteArray.empty, false) := by
  by_cases hn : 1 ≤ n ∧ n ≤ 9
  · have hr : ¬ RisL l n := fun hr => h ⟨hn, hr⟩
    refine ⟨?_, Ev.step (fun k => spec_SpiralProgram.eq k n l) (Ev.bind ((l1In_ev n 1 9).isT hn) (Ev.no rfl (Ev.bind ((rising_ev l hl n).isF hr) (Ev.yes rfl (Ev.now _)))))⟩
    refine Ev.step (fun k => impl_SpiralProgram.eq k n l) (Ev.bind ((within_ev n 1 9).isT hn) (Ev.no rfl ?_))
    by_cases c1 : InL l n
    · refine Ev.bind ((areWithin_ev l hl n).isT c1) (Ev.no rfl ?_)
      by_cases c2 : DifL l
      · have c3 : ¬ Adj (· ≤ ·) l := fun c3 => hr ⟨c1, (rising_iff l).2 ⟨c2, c3⟩⟩
        exact Ev.bind ((areDifferent_ev l hl).isT c2) (Ev.no rfl (Ev.bind ((isSorted_ev l hl).isF c3) (Ev.yes rfl (Ev.now _))))
      · exact Ev.bind ((areDifferent_ev l hl).isF c2) (Ev.yes rfl (Ev.now _))
    · exact Ev.bind ((areWithin_ev l hl n).isF c1) (Ev.yes rfl (Ev.now _))
  · exact ⟨Ev.step (fun k => impl_SpiralProgram.eq k n l) (Ev.bind ((within_ev n 1 9).isF hn) (Ev.yes rfl (Ev.now _))), Ev.step (fun k => spec_SpiralProgram.eq k n l) (Ev.bind ((l1In_ev n 1 9).isF hn) (Ev.yes rfl (Ev.now _)))⟩
end Go.Proofs.YtfklcheeoieniaaGreatS
