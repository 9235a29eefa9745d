/- Several texts in one: PuFind, PuRoA, PuRoB, PuRoC, PuRoD, PuRoE. -/
import Derived.Test.YtiaagflfiphioaaDoorPuBase
import Derived.Test.YtiaagflfiphioaaDoorMgTx
import Derived.Test.YtiaagflfiphioaaDoorPuMapS
import Derived.Test.YtiaagflfiphioaaDoorPuCur
namespace Go.Proofs.YtiaagflfiphioaaDoorS
open Go
set_option linter.unusedVariables false
set_option linter.unusedSimpArgs false
/-- A loop that looks for the first element with a property. -/
theorem Ev.find {α R : Type} (l : List α) (hl : l.length ≤ 1048576) (P : α → Prop) (L : Nat → Int → Option R) (X : Nat → R) (Y : R)
    (st : ∀ (i : Nat) (x : α), l[i]? = some x → ∀ r, (P x → r = X i) → (¬ P x → Ev (fun k => L k (w64 ((i : Int) + 1))) r) → Ev (fun k => L k (i : Int)) r)
    (en : Ev (fun k => L k (l.length : Int)) Y) :
    ((∀ x ∈ l, ¬ P x) ∧ Ev (fun k => L k 0) Y) ∨ ∃ (j : Nat) (x : α), l[j]? = some x ∧ P x ∧ (∀ (i : Nat) (y : α), i < j → l[i]? = some y → ¬ P y) ∧ Ev (fun k => L k 0) (X j) := by
  have srch := Ev.search (L := L) (n := l.length) (fun i => ∃ x, l[i]? = some x ∧ P x) X Y
    (fun i hi hp r H => by
      obtain ⟨x, hx⟩ := nat_list hi
      exact st i x hx r (fun h => absurd ⟨x, hx, h⟩ hp) fun _ => by rw [w64_succ (by omega)]; exact H)
    (fun i hi hp => by
      obtain ⟨x, hx, h⟩ := hp
      exact st i x hx _ (fun _ => rfl) fun h' => absurd h h') en l.length 0 (by omega)
  rcases srch with ⟨h1, h2⟩ | ⟨j, _, hj, ⟨x, hx, hn⟩, h1, h2⟩
  · refine .inl ⟨fun r hr hh => ?_, h2⟩
    obtain ⟨i, hi⟩ := List.mem_iff_getElem?.1 hr
    exact h1 i (Nat.zero_le _) (List.getElem?_eq_some_iff.1 hi).1 ⟨r, hi, hh⟩
  · exact .inr ⟨j, x, hx, hn, fun l' q hl' hq hh => h1 l' (Nat.zero_le _) hl' ⟨q, hq, hh⟩, h2⟩
theorem EvB.go {R : Type} {g : Nat → Option Bool} {P : Prop} {h1 h2 : Nat → Option R} {r : R} (H : EvB g P) (H1 : P → Ev h1 r) (H2 : ¬ P → Ev h2 r) : Ev (fun k => (g k).bind fun b => cond b (h1 k) (h2 k)) r := by
  by_cases p : P
  · exact Ev.bind (H.isT p) (Ev.yes rfl (H1 p))
  · exact Ev.bind (H.isF p) (Ev.no rfl (H2 p))
theorem EvB.goN {R : Type} {g : Nat → Option Bool} {P : Prop} {h1 h2 : Nat → Option R} {r : R} (H : EvB g P) (H1 : ¬ P → Ev h1 r) (H2 : P → Ev h2 r) : Ev (fun k => (g k).bind fun b => cond (!b) (h1 k) (h2 k)) r := by
  by_cases p : P
  · exact Ev.bind (H.isT p) (Ev.no rfl (H2 p))
  · exact Ev.bind (H.isF p) (Ev.yes rfl (H1 p))
theorem evGoB {R : Type} {b : Bool} {P : Prop} {h1 h2 : Nat → Option R} {r : R} (H : b = true ↔ P) (H1 : P → Ev h1 r) (H2 : ¬ P → Ev h2 r) : Ev (fun k => cond b (h1 k) (h2 k)) r := by
  cases b with
  | true => exact H1 (H.1 rfl)
  | false => exact H2 fun p => Bool.noConfusion (H.2 p)
theorem le_two {a b c : Int} (h1 : a ≤ b) (h2 : b ≤ c) : (decide (a ≤ b) && decide (b ≤ c)) = true := by rw [decide_eq_true h1, decide_eq_true h2]; rfl
theorem getD_any {α : Type} {l : List α} {i : Nat} {x d : α} (h : l[i]? = some x) : l.getD i d = x := by
  rw [List.getD_eq_getElem?_getD, h]
  rfl
def InR (hi : Int) (x : Int) : Prop := 0 ≤ x ∧ x ≤ hi
section
variable (l : List Int) (hl : l.length ≤ 1048576)
include hl
theorem areWithin_ev (hi : Int) : EvB (fun k => impl_areWithin k (l, 0, hi)) (∀ x ∈ l, InR hi x) := by
  have srch := Ev.find l hl (fun x => ¬ InR hi x) (fun k i => slices_IndexFunc_l k (l, (0, hi), (l.length : Int), i)) (fun i => .inl (i : Int)) (.inr ())
    (fun i x hx r h1 h2 => by
      have hi' := (List.getElem?_eq_some_iff.1 hx).1
      refine Ev.step (fun k => slices_IndexFunc_l.eq k l 0 hi (l.length : Int) (i : Int)) (Ev.yes (lt_nat hi') (Ev.yes (inB_nat hi') ?_))
      rw [Int.toNat_natCast, getD_at hx]
      exact EvB.go (EvB.step (fun k => impl_areWithin_1.eq k x 0 hi) (within_ev x 0 hi).neg) (fun h => Ev.now' (h1 h).symm) h2)
    (Ev.step (fun k => slices_IndexFunc_l.eq k l 0 hi (l.length : Int) (l.length : Int)) (Ev.no (not_lt_nat (Nat.lt_irrefl _)) (Ev.now _)))
  have go : ∀ r, Ev (fun k => (slices_IndexFunc_l k (l, (0, hi), (l.length : Int), 0)).bind fun r1 => r1.elim (fun r2 => some r2) (fun r3 => some (-1))) r → Ev (fun k => impl_areWithin k (l, 0, hi)) (!decide (r ≥ 0)) := fun r H =>
    Ev.step (fun k => impl_areWithin.eq k l 0 hi) (Ev.bind (Ev.step (fun k => slices_ContainsFunc.eq k l 0 hi) (Ev.bind (Ev.step (fun k => slices_IndexFunc.eq k l 0 hi) H) (Ev.now _))) (Ev.now _))
  rcases srch with ⟨h1, h2⟩ | ⟨j, x, hx, hn, _, h2⟩
  · exact ⟨_, go _ (Ev.bind h2 (Ev.now _)), ⟨fun _ x hx => Classical.byContradiction (h1 x hx), fun _ => rfl⟩⟩
  · exact ⟨_, go _ (Ev.bind h2 (Ev.now _)), ⟨fun h => by simp at h, fun h => absurd (h x (List.mem_of_getElem? hx)) hn⟩⟩
theorem l1All_ev (hi : Int) : EvB (fun k => spec_l1All k (l, 0, hi)) (∀ x ∈ l, InR hi x) := by
  have srch := Ev.find l hl (fun x => ¬ InR hi x) (fun k i => spec_l1All_l k (0, hi, l, (l.length : Int), i)) (fun i => .inl false) (.inr ())
    (fun i x hx r h1 h2 => by
      have hi' := (List.getElem?_eq_some_iff.1 hx).1
      refine Ev.step (fun k => spec_l1All_l.eq k 0 hi l (l.length : Int) (i : Int)) (Ev.yes (lt_nat hi') (Ev.yes (inB_nat hi') ?_))
      rw [Int.toNat_natCast, getD_at hx]
      exact EvB.goN (l1In_ev x 0 hi) (fun h => Ev.now' (h1 h).symm) fun h => h2 (Classical.not_not.2 h))
    (Ev.step (fun k => spec_l1All_l.eq k 0 hi l (l.length : Int) (l.length : Int)) (Ev.no (not_lt_nat (Nat.lt_irrefl _)) (Ev.now _)))
  refine EvB.step (fun k => spec_l1All.eq k l 0 hi) ?_
  rcases srch with ⟨h1, h2⟩ | ⟨j, x, hx, hn, _, h2⟩
  · exact ⟨_, Ev.bind h2 (Ev.now _), ⟨fun _ x hx => Classical.byContradiction (h1 x hx), fun _ => rfl⟩⟩
  · exact ⟨_, Ev.bind h2 (Ev.now _), ⟨nofun, fun h => absurd (h x (List.mem_of_getElem? hx)) hn⟩⟩
theorem l1Has_ev (v : Int) : EvB (fun k => spec_l1Has k (l, v)) (v ∈ l) := by
  have srch := Ev.find l hl (fun x => x = v) (fun k i => spec_l1Has_l k (v, l, (l.length : Int), i)) (fun i => .inl true) (.inr ())
    (fun i x hx r h1 h2 => by
      have hi := (List.getElem?_eq_some_iff.1 hx).1
      refine Ev.step (fun k => spec_l1Has_l.eq k v l (l.length : Int) (i : Int)) (Ev.yes (lt_nat hi) (Ev.yes (inB_nat hi) ?_))
      rw [Int.toNat_natCast, getD_at hx]
      exact evGoB beq_iff_eq (fun h => Ev.now' (h1 h).symm) h2)
    (Ev.step (fun k => spec_l1Has_l.eq k v l (l.length : Int) (l.length : Int)) (Ev.no (not_lt_nat (Nat.lt_irrefl _)) (Ev.now _)))
  refine EvB.step (fun k => spec_l1Has.eq k l v) ?_
  rcases srch with ⟨h1, h2⟩ | ⟨j, x, hx, rfl, _, h2⟩
  · exact ⟨_, Ev.bind h2 (Ev.now _), ⟨fun h' => by simp at h', fun h' => absurd rfl (h1 v h')⟩⟩
  · exact ⟨_, Ev.bind h2 (Ev.now _), ⟨fun _ => List.mem_of_getElem? hx, fun _ => rfl⟩⟩
theorem indexI_ev (v : Int) : (v ∉ l ∧ Ev (fun k => slices_Index k (l, v)) (-1)) ∨ ∃ j : Nat, v ∈ l ∧ Ev (fun k => slices_Index k (l, v)) (j : Int) := by
  have srch := Ev.find l hl (fun x => v = x) (fun k i => slices_Index_l k (l, v, (l.length : Int), i)) (fun i => .inl (i : Int)) (.inr ())
    (fun i x hx r h1 h2 => by
      have hi := (List.getElem?_eq_some_iff.1 hx).1
      refine Ev.step (fun k => slices_Index_l.eq k l v (l.length : Int) (i : Int)) (Ev.yes (lt_nat hi) (Ev.yes (inB_nat hi) ?_))
      rw [Int.toNat_natCast, getD_at hx]
      exact evGoB beq_iff_eq (fun h => Ev.now' (h1 h).symm) h2)
    (Ev.step (fun k => slices_Index_l.eq k l v (l.length : Int) (l.length : Int)) (Ev.no (not_lt_nat (Nat.lt_irrefl _)) (Ev.now _)))
  rcases srch with ⟨h1, h2⟩ | ⟨j, x, hx, rfl, _, h2⟩
  · exact .inl ⟨fun h => h1 v h rfl, Ev.step (fun k => slices_Index.eq k l v) (Ev.bind h2 (Ev.now _))⟩
  · exact .inr ⟨j, List.mem_of_getElem? hx, Ev.step (fun k => slices_Index.eq k l v) (Ev.bind h2 (Ev.now _))⟩
theorem containsI_ev (v : Int) : EvB (fun k => slices_Contains k (l, v)) (v ∈ l) := by
  refine EvB.step (fun k => slices_Contains.eq k l v) ?_
  rcases indexI_ev l hl v with ⟨h, e⟩ | ⟨j, h, e⟩
  · exact ⟨_, Ev.bind e (Ev.now _), ⟨fun h' => by simp at h', fun h' => absurd h' h⟩⟩
  · exact ⟨_, Ev.bind e (Ev.now _), ⟨fun _ => h, fun _ => decide_eq_true (by omega)⟩⟩
theorem l1Own_ev : Ev (fun k => spec_l1Own k l) l := Ev.step (fun k => spec_l1Own.eq k l) (Ev.yes (fits_of (by omega)) (Ev.now _))
end
theorem kSame_iff (a b : List Int) (ha : a.length ≤ 1048576) (hb : b.length ≤ 1048576) : EvB (fun k => laws_kSame k (a, b)) (a = b) := by
  refine EvB.step (fun k => laws_kSame.eq k a b) ?_
  by_cases hl : a.length = b.length
  · have e : ((a.length : Int) != (b.length : Int)) = false := by rw [hl]; exact neq_self _
    have srch := Ev.search (L := fun k i => laws_kSame_l k (a, b, (a.length : Int), i)) (n := a.length) (fun i => a[i]? ≠ b[i]?) (fun _ => .inl false) (.inr ())
      (fun i hi hp r H => by
        obtain ⟨x, hx⟩ := nat_list (l := a) (i := i) hi
        obtain ⟨y, hy⟩ := nat_list (l := b) (i := i) (by omega)
        have hxy : x = y := Classical.byContradiction fun h => hp (by rw [hx, hy]; exact fun e => h (Option.some.inj e))
        subst hxy
        refine Ev.step (fun k => laws_kSame_l.eq k a b (a.length : Int) (i : Int)) (Ev.yes (lt_nat hi) (Ev.yes (inB_nat hi) (Ev.yes (inB_nat (by omega)) ?_)))
        rw [Int.toNat_natCast, getD_at hx, getD_at hy, w64_succ (by omega)]
        exact Ev.no (neq_self _) H)
      (fun i hi hp => by
        obtain ⟨x, hx⟩ := nat_list (l := a) (i := i) hi
        obtain ⟨y, hy⟩ := nat_list (l := b) (i := i) (by omega)
        refine Ev.step (fun k => laws_kSame_l.eq k a b (a.length : Int) (i : Int)) (Ev.yes (lt_nat hi) (Ev.yes (inB_nat hi) (Ev.yes (inB_nat (by omega)) ?_)))
        rw [Int.toNat_natCast, getD_at hx, getD_at hy]
        exact Ev.yes (by rw [bne_iff_ne]; intro e; exact hp (by rw [hx, hy, e])) (Ev.now _))
      (Ev.step (fun k => laws_kSame_l.eq k a b (a.length : Int) (a.length : Int)) (Ev.no (not_lt_nat (Nat.lt_irrefl _)) (Ev.now _))) a.length 0 (by omega)
    rcases srch with ⟨h1, h2⟩ | ⟨j, _, hj, h3, _, h4⟩
    · refine ⟨true, Ev.no e (Ev.bind h2 (Ev.now _)), ⟨fun _ => List.ext_getElem? fun i => ?_, fun _ => rfl⟩⟩
      by_cases hi : i < a.length
      · exact Classical.byContradiction fun h => h1 i (Nat.zero_le _) hi h
      · rw [List.getElem?_eq_none (by omega), List.getElem?_eq_none (by omega)]
    · exact ⟨false, Ev.no e (Ev.bind h4 (Ev.now _)), ⟨nofun, fun h => absurd (by rw [h]) h3⟩⟩
  · have e : ((a.length : Int) != (b.length : Int)) = true := by rw [bne_iff_ne]; omega
    exact ⟨false, Ev.yes e (Ev.now _), ⟨nofun, fun h => absurd (by rw [h]) hl⟩⟩
theorem kRows_self (a : List (List Int)) (ha : a.length ≤ 1048576) (hr : ∀ l ∈ a, l.length ≤ 1048576) : Ev (fun k => laws_kRows k (a, a)) true := by
  have h : ∀ (m i : Nat), i + m = a.length → Ev (fun k => laws_kRows_l k (a, a, (a.length : Int), (i : Int))) (.inr ()) := by
    intro m
    induction m with
    | zero => intro i h; exact Ev.step (fun k => laws_kRows_l.eq k a a (a.length : Int) i) (Ev.no (not_lt_nat (by omega)) (Ev.now _))
    | succ m ih =>
      intro i h
      obtain ⟨x, hx⟩ := nat_list (l := a) (i := i) (by omega)
      refine Ev.step (fun k => laws_kRows_l.eq k a a (a.length : Int) i) (Ev.yes (lt_nat (by omega)) (Ev.yes (inB_nat (by omega)) (Ev.yes (inB_nat (by omega)) ?_)))
      rw [Int.toNat_natCast, getD_any hx, w64_succ (by omega)]
      have hxl := hr x (List.mem_of_getElem? hx)
      exact Ev.bind ((kSame_iff x x hxl hxl).isT rfl) (Ev.no rfl (ih (i + 1) (by omega)))
  exact Ev.step (fun k => laws_kRows.eq k a a) (Ev.no (neq_self _) (Ev.bind (h a.length 0 (by omega)) (Ev.now _)))
theorem kRoute_iff (o : List (List Int)) (a b : List Int) (ho : o.length ≤ 1048576) (hr : ∀ l ∈ o, l.length ≤ 1048576) (ha : a.length ≤ 1048576) (hb : b.length ≤ 1048576) : EvB (fun k => laws_kRoute k ((o, a), (o, b))) (a = b) := by
  obtain ⟨r, h1, h2⟩ := kSame_iff a b ha hb
  exact ⟨r, Ev.step (fun k => laws_kRoute.eq k o a o b) (Ev.bind (kRows_self o ho hr) (Ev.yes rfl (Ev.bind h1 (Ev.now _)))), h2⟩
theorem kSum_ev (a : List Int) (hl : a.length ≤ 1048576) (hb : ∀ x ∈ a, 0 ≤ x ∧ x ≤ 1048576) : Ev (fun k => laws_kSum k a) a.sum := by
  have h : ∀ (m i : Nat) (s : Int), i + m = a.length → 0 ≤ s ∧ s ≤ 1048576 * (i : Int) → Ev (fun k => laws_kSum_l k (s, a, (a.length : Int), (i : Int))) (s + (a.drop i).sum) := by
    intro m
    induction m with
    | zero =>
      intro i s h hs
      rw [List.drop_eq_nil_of_le (by omega), List.sum_nil, Int.add_zero]
      exact Ev.step (fun k => laws_kSum_l.eq k s a (a.length : Int) i) (Ev.no (not_lt_nat (by omega)) (Ev.now _))
    | succ m ih =>
      intro i s h hs
      obtain ⟨x, hx⟩ := nat_list (l := a) (i := i) (by omega)
      have hxb := hb x (List.mem_of_getElem? hx)
      have e1 : w64 (s + x) = s + x := w64_of (by omega) (by omega)
      refine Ev.step (fun k => laws_kSum_l.eq k s a (a.length : Int) i) (Ev.yes (lt_nat (by omega)) (Ev.yes (inB_nat (by omega)) ?_))
      obtain ⟨hlt, he⟩ := List.getElem?_eq_some_iff.1 hx
      rw [Int.toNat_natCast, getD_at hx, e1, w64_succ (by omega), List.drop_eq_getElem_cons hlt, List.sum_cons, he, ← Int.add_assoc]
      exact ih (i + 1) (s + x) (by omega) (by omega)
  have := h a.length 0 0 (by omega) (by omega)
  rw [Int.zero_add] at this
  exact Ev.step (fun k => laws_kSum.eq k a) (Ev.bind this (Ev.now _))
abbrev OutR := List (List Int)
/-- A node of a route. -/
def NodeR (o : OutR) (r : List Int) (i : Nat) : Prop := ∃ l x, o[i]? = some l ∧ r[i]? = some x ∧ (1 ≤ (l.length : Int) ∧ (l.length : Int) ≤ 4) ∧ (∀ y ∈ l, InR ((o.length : Int) - 1) y) ∧ (0 ≤ x ∧ x ≤ (l.length : Int) - 1)
def RouteOk (o : OutR) (r : List Int) : Prop := (1 ≤ (o.length : Int) ∧ (o.length : Int) ≤ 10) ∧ r.length = o.length ∧ ∀ i, i < o.length → NodeR o r i
def FitR (o : OutR) (r : List Int) : Prop := o.length ≤ 1048576 ∧ r.length ≤ 1048576 ∧ ∀ l ∈ o, l.length ≤ 1048576
theorem RouteOk.fit {o : OutR} {r : List Int} (h : RouteOk o r) : FitR o r := by
  obtain ⟨h1, h2, h3⟩ := h
  refine ⟨by omega, by omega, fun l hl => ?_⟩
  obtain ⟨i, hi, rfl⟩ := List.mem_iff_getElem.1 hl
  obtain ⟨l, x, e1, _, e2, _⟩ := h3 i hi
  rw [List.getElem?_eq_getElem hi] at e1
  cases e1
  omega
section
variable (o : OutR) (r : List Int) (hf : FitR o r)
include hf
theorem isRoute_ev : EvB (fun k => impl_IsRoute k (o, r)) (RouteOk o r) := by
  obtain ⟨f1, f2, f3⟩ := hf
  refine EvB.step (fun k => impl_IsRoute.eq k o r) ?_
  have hn : EvB (fun k => impl_isNodes k (o.length : Int)) (1 ≤ (o.length : Int) ∧ (o.length : Int) ≤ 10) := EvB.step (fun k => impl_isNodes.eq k (o.length : Int)) (within_ev (o.length : Int) 1 10).ret
  by_cases h1 : 1 ≤ (o.length : Int) ∧ (o.length : Int) ≤ 10
  rotate_left
  · exact ⟨false, Ev.bind (hn.isF h1) (Ev.yes rfl (Ev.now _)), ⟨nofun, fun h => absurd h.1 h1⟩⟩
  by_cases h2 : r.length = o.length
  rotate_left
  · exact ⟨false, Ev.bind (hn.isT h1) (Ev.no rfl (Ev.yes (by rw [bne_iff_ne]; omega) (Ev.now _))), ⟨nofun, fun h => absurd h.2.1 h2⟩⟩
  have e2 : ((r.length : Int) != (o.length : Int)) = false := by rw [h2]; exact neq_self _
  have ew : w64 ((o.length : Int) - 1) = (o.length : Int) - 1 := w64_of (by omega) (by omega)
  have one : ∀ i, i < o.length → (∀ res, (NodeR o r i → Ev (fun k => impl_IsRoute_l k ((o, r), (), (o.length : Int), ((i + 1 : Nat) : Int))) res) → (¬ NodeR o r i → res = .inl false) → Ev (fun k => impl_IsRoute_l k ((o, r), (), (o.length : Int), (i : Int))) res) := fun i hi res hy hno => by
    obtain ⟨l, hl⟩ := nat_list (l := o) (i := i) hi
    obtain ⟨x, hx⟩ := nat_list (l := r) (i := i) (by omega)
    have hll := f3 l (List.mem_of_getElem? hl)
    have ewl : w64 ((l.length : Int) - 1) = (l.length : Int) - 1 := w64_of (by omega) (by omega)
    refine Ev.step (fun k => impl_IsRoute_l.eq k o r (o.length : Int) (i : Int)) (Ev.yes (lt_nat hi) (Ev.yes (inB_nat hi) ?_))
    rw [Int.toNat_natCast, getD_any hl, getD_at hx, ew, ewl, w64_succ (by omega)]
    refine EvB.goN (within_ev (l.length : Int) 1 4) (fun h => Ev.now' (hno fun ⟨l', x', e1, e2, e3, _⟩ => h (by rw [hl] at e1; cases e1; exact e3)).symm) fun a1 => ?_
    refine EvB.goN (areWithin_ev l hll ((o.length : Int) - 1)) (fun h => Ev.now' (hno fun ⟨l', x', e1, e2, e3, e4, _⟩ => h (by rw [hl] at e1; cases e1; exact e4)).symm) fun a2 => ?_
    refine Ev.yes (inB_nat (by omega)) (EvB.goN (within_ev x 0 ((l.length : Int) - 1)) (fun h => Ev.now' (hno fun ⟨l', x', e1, e2, e3, e4, e5⟩ => h (by rw [hl] at e1; cases e1; rw [hx] at e2; cases e2; exact e5)).symm) fun a3 => ?_)
    exact hy ⟨l, x, hl, hx, a1, a2, a3⟩
  have srch := Ev.search (L := fun k i => impl_IsRoute_l k ((o, r), (), (o.length : Int), i)) (n := o.length) (fun i => ¬ NodeR o r i) (fun _ => .inl false) (.inr ())
    (fun i hi hp res H => one i hi res (fun _ => H) (fun h => absurd h hp))
    (fun i hi hp => one i hi _ (fun h => absurd h hp) (fun _ => rfl))
    (Ev.step (fun k => impl_IsRoute_l.eq k o r (o.length : Int) (o.length : Int)) (Ev.no (not_lt_nat (Nat.lt_irrefl _)) (Ev.now _))) o.length 0 (by omega)
  rcases srch with ⟨g1, g2⟩ | ⟨j, _, hj, g3, _, g4⟩
  · exact ⟨true, Ev.bind (hn.isT h1) (Ev.no rfl (Ev.no e2 (Ev.bind g2 (Ev.now _)))), ⟨fun _ => ⟨h1, h2, fun i hi => Classical.byContradiction (g1 i (Nat.zero_le _) hi)⟩, fun _ => rfl⟩⟩
  · exact ⟨false, Ev.bind (hn.isT h1) (Ev.no rfl (Ev.no e2 (Ev.bind g4 (Ev.now _)))), ⟨nofun, fun h => absurd (h.2.2 j hj) g3⟩⟩
theorem roGood_ev : EvB (fun k => spec_roGood k (o, r)) (RouteOk o r) := by
  obtain ⟨f1, f2, f3⟩ := hf
  refine EvB.step (fun k => spec_roGood.eq k o r) ?_
  have hn := l1In_ev (o.length : Int) 1 10
  by_cases h1 : 1 ≤ (o.length : Int) ∧ (o.length : Int) ≤ 10
  rotate_left
  · exact ⟨false, Ev.bind (hn.isF h1) (Ev.yes rfl (Ev.now _)), ⟨nofun, fun h => absurd h.1 h1⟩⟩
  by_cases h2 : r.length = o.length
  rotate_left
  · exact ⟨false, Ev.bind (hn.isT h1) (Ev.no rfl (Ev.yes (by rw [bne_iff_ne]; omega) (Ev.now _))), ⟨nofun, fun h => absurd h.2.1 h2⟩⟩
  have e2 : ((r.length : Int) != (o.length : Int)) = false := by rw [h2]; exact neq_self _
  have ew : w64 ((o.length : Int) - 1) = (o.length : Int) - 1 := w64_of (by omega) (by omega)
  have one : ∀ i, i < o.length → (∀ res, (NodeR o r i → Ev (fun k => spec_roGood_l k ((o, r), (o.length : Int), (), (o.length : Int), ((i + 1 : Nat) : Int))) res) → (¬ NodeR o r i → res = .inl false) → Ev (fun k => spec_roGood_l k ((o, r), (o.length : Int), (), (o.length : Int), (i : Int))) res) := fun i hi res hy hno => by
    obtain ⟨l, hl⟩ := nat_list (l := o) (i := i) hi
    obtain ⟨x, hx⟩ := nat_list (l := r) (i := i) (by omega)
    have hll := f3 l (List.mem_of_getElem? hl)
    have ewl : w64 ((l.length : Int) - 1) = (l.length : Int) - 1 := w64_of (by omega) (by omega)
    refine Ev.step (fun k => spec_roGood_l.eq k o r (o.length : Int) (o.length : Int) (i : Int)) (Ev.yes (lt_nat hi) (Ev.yes (inB_nat hi) ?_))
    rw [Int.toNat_natCast, getD_any hl, getD_at hx, ew, ewl, w64_succ (by omega)]
    refine EvB.goN (l1In_ev (l.length : Int) 1 4) (fun h => Ev.now' (hno fun ⟨l', x', e1, e2, e3, _⟩ => h (by rw [hl] at e1; cases e1; exact e3)).symm) fun a1 => ?_
    refine EvB.goN (l1All_ev l hll ((o.length : Int) - 1)) (fun h => Ev.now' (hno fun ⟨l', x', e1, e2, e3, e4, _⟩ => h (by rw [hl] at e1; cases e1; exact e4)).symm) fun a2 => ?_
    refine Ev.yes (inB_nat (by omega)) (EvB.goN (l1In_ev x 0 ((l.length : Int) - 1)) (fun h => Ev.now' (hno fun ⟨l', x', e1, e2, e3, e4, e5⟩ => h (by rw [hl] at e1; cases e1; rw [hx] at e2; cases e2; exact e5)).symm) fun a3 => ?_)
    exact hy ⟨l, x, hl, hx, a1, a2, a3⟩
  have srch := Ev.search (L := fun k i => spec_roGood_l k ((o, r), (o.length : Int), (), (o.length : Int), i)) (n := o.length) (fun i => ¬ NodeR o r i) (fun _ => .inl false) (.inr ())
    (fun i hi hp res H => one i hi res (fun _ => H) (fun h => absurd h hp))
    (fun i hi hp => one i hi _ (fun h => absurd h hp) (fun _ => rfl))
    (Ev.step (fun k => spec_roGood_l.eq k o r (o.length : Int) (o.length : Int) (o.length : Int)) (Ev.no (not_lt_nat (Nat.lt_irrefl _)) (Ev.now _))) o.length 0 (by omega)
  rcases srch with ⟨g1, g2⟩ | ⟨j, _, hj, g3, _, g4⟩
  · exact ⟨true, Ev.bind (hn.isT h1) (Ev.no rfl (Ev.no e2 (Ev.bind g2 (Ev.now _)))), ⟨fun _ => ⟨h1, h2, fun i hi => Classical.byContradiction (g1 i (Nat.zero_le _) hi)⟩, fun _ => rfl⟩⟩
  · exact ⟨false, Ev.bind (hn.isT h1) (Ev.no rfl (Ev.no e2 (Ev.bind g4 (Ev.now _)))), ⟨nofun, fun h => absurd (h.2.2 j hj) g3⟩⟩
def AtR (a : Int) : Prop := 0 ≤ a ∧ a ≤ (o.length : Int) - 1
omit hf in
theorem mem_one {P : Int → Prop} (a : Int) : (∀ x ∈ [a], P x) ↔ P a := by simp
theorem isNode_ev (a : Int) : EvB (fun k => impl_isNode k ((o, r), [a])) (RouteOk o r ∧ AtR o a) := by
  refine EvB.step (fun k => impl_isNode.eq k o r [a]) ?_
  have ew : w64 ((o.length : Int) - 1) = (o.length : Int) - 1 := by obtain ⟨f1, _⟩ := hf; exact w64_of (by omega) (by omega)
  rw [ew]
  exact EvB.and (isRoute_ev o r hf) fun _ => ((areWithin_ev [a] (by simp) ((o.length : Int) - 1)).iff (mem_one a)).ret
theorem roNode_ev (a : Int) : EvB (fun k => spec_roNode k ((o, r), a)) (RouteOk o r ∧ AtR o a) := by
  refine EvB.step (fun k => spec_roNode.eq k o r a) ?_
  have ew : w64 ((o.length : Int) - 1) = (o.length : Int) - 1 := by obtain ⟨f1, _⟩ := hf; exact w64_of (by omega) (by omega)
  rw [ew]
  exact EvB.and (roGood_ev o r hf) fun _ => (l1In_ev a 0 ((o.length : Int) - 1)).ret
def WalkOk (a s : Int) : Prop := (RouteOk o r ∧ AtR o a) ∧ (0 ≤ s ∧ s ≤ 3000)
theorem isWalk_ev (a s : Int) : EvB (fun k => impl_isWalk k ((o, r), a, s)) (WalkOk o r a s) :=
  EvB.step (fun k => impl_isWalk.eq k o r a s) (EvB.and (isNode_ev o r hf a) fun _ => (within_ev s 0 3000).ret)
theorem roWalk_ev (a s : Int) : EvB (fun k => spec_roWalk k ((o, r), a, s)) (WalkOk o r a s) :=
  EvB.step (fun k => spec_roWalk.eq k o r a s) (EvB.and (roNode_ev o r hf a) fun _ => (l1In_ev s 0 3000).ret)
end
/-! ### Copies -/
theorem take_snoc {α : Type} {l : List α} {i : Nat} {x : α} (h : l[i]? = some x) : l.take (i + 1) = l.take i ++ [x] := by
  rw [List.take_add_one, h]
  rfl
theorem cloneInts (l : List Int) (h : l.length ≤ 1048576) : Ev (fun k => slices_Clone k l) l :=
  Ev.step (fun k => (slices_Clone.eq k l).trans (cloneB_some (s := .int .i64) 8 l (by show l.length * 8 ≤ _; omega))) (Ev.now _)
theorem own_l_ev (o : OutR) (r : List Int) (z : OutR × List Int) (h1 : o.length ≤ 1048576) (h2 : ∀ l ∈ o, l.length ≤ 1048576) : ∀ (m i : Nat), i + m = o.length → Ev (fun k => impl_Route_own_l k (z, (o.take i, r), o, (o.length : Int), (i : Int))) (z, (o, r))
  | 0, i, h => by
    obtain ⟨z1, z2⟩ := z
    rw [List.take_of_length_le (by omega)]
    exact Ev.step (fun k => impl_Route_own_l.eq k z1 z2 o r o (o.length : Int) (i : Int)) (Ev.no (not_lt_nat (by omega)) (Ev.now _))
  | m + 1, i, h => by
    have ih := own_l_ev o r z h1 h2 m (i + 1) (by omega)
    obtain ⟨z1, z2⟩ := z
    obtain ⟨l, hl⟩ := nat_list (l := o) (i := i) (by omega)
    refine Ev.step (fun k => impl_Route_own_l.eq k z1 z2 (o.take i) r o (o.length : Int) (i : Int)) (Ev.yes (lt_nat (by omega)) (Ev.yes (inB_nat (by omega)) ?_))
    rw [Int.toNat_natCast, getD_any hl]
    refine Ev.bind (cloneInts l (h2 l (List.mem_of_getElem? hl))) (Ev.yes (fits_of (by rw [List.length_take]; omega)) ?_)
    rw [w64_succ (by omega), ← take_snoc hl]
    exact ih
theorem roOwn_l_ev (o : OutR) (r : List Int) (z : OutR × List Int) (h1 : o.length ≤ 1048576) (h2 : ∀ l ∈ o, l.length ≤ 1048576) : ∀ (m i : Nat), i + m = o.length → Ev (fun k => spec_roOwn_l k (z, (o.take i, r), o, (o.length : Int), (i : Int))) (z, (o, r))
  | 0, i, h => by
    obtain ⟨z1, z2⟩ := z
    rw [List.take_of_length_le (by omega)]
    exact Ev.step (fun k => spec_roOwn_l.eq k z1 z2 o r o (o.length : Int) (i : Int)) (Ev.no (not_lt_nat (by omega)) (Ev.now _))
  | m + 1, i, h => by
    have ih := roOwn_l_ev o r z h1 h2 m (i + 1) (by omega)
    obtain ⟨z1, z2⟩ := z
    obtain ⟨l, hl⟩ := nat_list (l := o) (i := i) (by omega)
    refine Ev.step (fun k => spec_roOwn_l.eq k z1 z2 (o.take i) r o (o.length : Int) (i : Int)) (Ev.yes (lt_nat (by omega)) (Ev.yes (inB_nat (by omega)) ?_))
    rw [Int.toNat_natCast, getD_any hl]
    refine Ev.bind (l1Own_ev l (h2 l (List.mem_of_getElem? hl))) (Ev.yes (fits_of (by rw [List.length_take]; omega)) ?_)
    rw [w64_succ (by omega), ← take_snoc hl]
    exact ih
theorem own_ev (o : OutR) (r : List Int) (hf : FitR o r) : Ev (fun k => impl_Route_own k (o, r)) (o, r) :=
  Ev.step (fun k => impl_Route_own.eq k o r) (Ev.bind (cloneInts r hf.2.1) (Ev.bind (own_l_ev o r ([], []) hf.1 hf.2.2 o.length 0 (by omega)) (Ev.now _)))
theorem roOwn_ev (o : OutR) (r : List Int) (hf : FitR o r) : Ev (fun k => spec_roOwn k (o, r)) (o, r) :=
  Ev.step (fun k => spec_roOwn.eq k o r) (Ev.bind (l1Own_ev r hf.2.1) (Ev.bind (roOwn_l_ev o r ([], []) hf.1 hf.2.2 o.length 0 (by omega)) (Ev.now _)))
/-! ### Steps -/
abbrev StR := List Int × Int
def rowN (o : OutR) (i : Nat) : List Int := o.getD i []
def rotN (r : List Int) (i : Nat) : Nat := (r.getD i 0).toNat
def stpR (o : OutR) (t : StR) : StR := (t.1.set t.2.toNat (((rotN t.1 t.2.toNat + 1) % (rowN o t.2.toNat).length : Nat) : Int), (rowN o t.2.toNat).getD (rotN t.1 t.2.toNat) 0)
def OkR (o : OutR) (t : StR) : Prop := RouteOk o t.1 ∧ AtR o t.2
theorem okR_parts {o : OutR} {t : StR} (h : OkR o t) : ∃ (i : Nat) (l : List Int) (x : Nat) (y : Int), t.2 = (i : Int) ∧ i < o.length ∧ t.1.length = o.length ∧ o.length ≤ 10 ∧ o[i]? = some l ∧ t.1[i]? = some (x : Int) ∧ x < l.length ∧ (1 ≤ l.length ∧ l.length ≤ 4) ∧ l[x]? = some y ∧ InR ((o.length : Int) - 1) y ∧
    rowN o i = l ∧ rotN t.1 i = x ∧ stpR o t = (t.1.set i (((x + 1) % l.length : Nat) : Int), y) := by
  obtain ⟨⟨h1, h2, h3⟩, h4, h5⟩ := h
  obtain ⟨i, hi⟩ := Int.eq_ofNat_of_zero_le h4
  have hil : i < o.length := by omega
  obtain ⟨l, x, e1, e2, e3, e4, e5⟩ := h3 i hil
  obtain ⟨n, rfl⟩ := Int.eq_ofNat_of_zero_le e5.1
  obtain ⟨y, hy⟩ := nat_list (l := l) (i := n) (by omega)
  have r1 : rowN o i = l := getD_any e1
  have r2 : rotN t.1 i = n := by unfold rotN; rw [getD_any e2]; rfl
  refine ⟨i, l, n, y, hi, hil, h2, by omega, e1, e2, by omega, by omega, hy, e4 y (List.mem_of_getElem? hy), r1, r2, ?_⟩
  unfold stpR
  rw [hi]
  have e : ((i : Nat) : Int).toNat = i := rfl
  simp only [e, r1, r2]
  rw [getD_any hy]
theorem stp_ok {o : OutR} {t : StR} (h : OkR o t) : OkR o (stpR o t) := by
  obtain ⟨i, l, x, y, hi, hil, hlen, ho, e1, e2, hx, hl, hy, hyr, _, _, hs⟩ := okR_parts h
  rw [hs]
  obtain ⟨⟨h1, h2, h3⟩, _⟩ := h
  refine ⟨⟨h1, by rw [List.length_set]; exact h2, fun j hj => ?_⟩, hyr⟩
  obtain ⟨l', x', g1, g2, g3, g4, g5⟩ := h3 j hj
  by_cases hji : j = i
  · subst hji
    rw [e1] at g1
    cases g1
    have := Nat.mod_lt (x + 1) (show 0 < l.length by omega)
    exact ⟨l, _, e1, List.getElem?_set_self (by omega), g3, g4, by omega⟩
  · exact ⟨l', x', g1, by rw [List.getElem?_set_ne (Ne.symm hji)]; exact g2, g3, g4, g5⟩
theorem step_ev (o : OutR) (t : StR) (h : OkR o t) : Ev (fun k => impl_Route_step k ((o, t.1), t.2)) ((stpR o t).2, (o, (stpR o t).1)) ∧ Ev (fun k => spec_roStep k ((o, t.1), t.2)) ((stpR o t).2, (o, (stpR o t).1)) := by
  obtain ⟨i, l, x, y, hi, hil, hlen, ho, e1, e2, hx, hl, hy, hyr, _, _, hs⟩ := okR_parts h
  have hs' := hs
  rw [hs']
  obtain ⟨r, a⟩ := t
  have hi : a = (i : Int) := hi
  subst hi
  have e2 : r[i]? = some (x : Int) := e2
  have hlen : r.length = o.length := hlen
  have em : (w64 ((x : Int) + 1)).tmod (l.length : Int) = (((x + 1) % l.length : Nat) : Int) := by
    rw [w64_of (by omega) (by omega), Int.tmod_eq_emod_of_nonneg (by omega)]
    simp
  have hb1 : inB (i : Int) o.length = true := inB_nat hil
  have hb2 : inB (i : Int) r.length = true := inB_nat (by omega)
  have hb3 : inB (x : Int) l.length = true := inB_nat hx
  have hne : ((l.length : Int) != 0) = true := by rw [bne_iff_ne]; omega
  have turn : Ev (fun k => impl_Route_turn k ((o, r), (i : Int))) ((), (o, r.set i (((x + 1) % l.length : Nat) : Int))) := by
    refine Ev.step (fun k => impl_Route_turn.eq k o r (i : Int)) (Ev.yes hb2 (Ev.yes hb1 ?_))
    rw [Int.toNat_natCast, getD_any e1, getD_at e2, em]
    exact Ev.yes hne (Ev.yes hb2 (Ev.now _))
  constructor
  · refine Ev.step (fun k => impl_Route_step.eq k o r (i : Int)) (Ev.yes hb1 (Ev.yes hb2 ?_))
    rw [Int.toNat_natCast, getD_any e1, getD_at e2, Int.toNat_natCast, getD_at hy]
    exact Ev.yes hb3 (Ev.bind turn (Ev.now _))
  · refine Ev.step (fun k => spec_roStep.eq k o r (i : Int)) (Ev.yes hb2 (Ev.yes hb1 ?_))
    rw [Int.toNat_natCast, getD_any e1, getD_at e2, Int.toNat_natCast, getD_at hy, em]
    exact Ev.yes hne (Ev.yes hb2 (Ev.yes hb1 (Ev.yes hb3 (Ev.now _))))
/-- Many steps. -/
def walkR (o : OutR) (t : StR) : Nat → StR
  | 0 => t
  | n + 1 => stpR o (walkR o t n)
theorem walk_ok {o : OutR} {t : StR} (h : OkR o t) : ∀ n, OkR o (walkR o t n)
  | 0 => h
  | n + 1 => stp_ok (walk_ok h n)
theorem walk_add (o : OutR) (t : StR) (m : Nat) : ∀ n, walkR o t (m + n) = walkR o (walkR o t m) n
  | 0 => rfl
  | n + 1 => by
    show stpR o (walkR o t (m + n)) = stpR o (walkR o (walkR o t m) n)
    rw [walk_add o t m n]
def trackR (o : OutR) (t : StR) (n : Nat) : List Int := (List.range n).map fun i => (walkR o t (i + 1)).2
def visR (o : OutR) (t : StR) : Nat → Nat → Nat
  | 0, _ => 0
  | n + 1, v => visR o t n v + if (walkR o t (n + 1)).2 = (v : Int) then 1 else 0
def usedR (o : OutR) (t : StR) : Nat → Nat → Nat → Nat
  | 0, _, _ => 0
  | n + 1, i, k => usedR o t n i k + if (walkR o t n).2 = (i : Int) ∧ rotN (walkR o t n).1 i = k then 1 else 0
def visL (o : OutR) (t : StR) (n : Nat) : List Int := (List.range o.length).map fun v => (visR o t n v : Int)
def lnsL (o : OutR) (t : StR) (n : Nat) : OutR := (List.range o.length).map fun i => (List.range (rowN o i).length).map fun k => (usedR o t n i k : Int)
theorem visR_le (o : OutR) (t : StR) : ∀ n v, visR o t n v ≤ n
  | 0, _ => Nat.le_refl _
  | n + 1, v => by
    have := visR_le o t n v
    show visR o t n v + _ ≤ _
    split <;> omega
theorem usedR_le (o : OutR) (t : StR) : ∀ n i k, usedR o t n i k ≤ n
  | 0, _, _ => Nat.le_refl _
  | n + 1, i, k => by
    have := usedR_le o t n i k
    show usedR o t n i k + _ ≤ _
    split <;> omega
theorem set_range {α : Type} (m j : Nat) (f : Nat → α) (y : α) : ((List.range m).map f).set j y = (List.range m).map fun i => if i = j then y else f i := by
  apply List.ext_getElem?
  intro q
  rw [List.getElem?_set]
  by_cases h : q < m
  · simp only [List.getElem?_map, List.getElem?_range, h, if_true, Option.map_some, List.length_map, List.length_range]
    by_cases hq : j = q
    · subst hq; simp [h]
    · rw [if_neg hq, if_neg (Ne.symm hq)]
  · have e1 : ((List.range m).map f)[q]? = none := List.getElem?_eq_none (by simp; omega)
    have e2 : ((List.range m).map fun i => if i = j then y else f i)[q]? = none := List.getElem?_eq_none (by simp; omega)
    rw [e1, e2]
    split
    · rename_i hjq
      subst hjq
      simp [h]
    · rfl
theorem range_get {α : Type} {m j : Nat} (f : Nat → α) (h : j < m) : ((List.range m).map f)[j]? = some (f j) := by simp [h]
section
variable (o : OutR) (t : StR) (H : OkR o t) (n : Nat) (hn : n ≤ 3000)
include H hn
theorem walkI_ev (z : OutR × List Int) : ∀ (m i : Nat), i + m = n → Ev (fun k => impl_WalkAfter_l k ((walkR o t i).2, z, (o, (walkR o t i).1), (n : Int), (i : Int))) ((walkR o t n).2, z, (o, (walkR o t n).1))
  | 0, i, h => by
    obtain rfl : i = n := by omega
    exact Ev.step (fun k => impl_WalkAfter_l.eq k (walkR o t i).2 z.1 z.2 o (walkR o t i).1 (i : Int) (i : Int)) (Ev.no (not_lt_nat (Nat.lt_irrefl _)) (Ev.now _))
  | m + 1, i, h => by
    refine Ev.step (fun k => impl_WalkAfter_l.eq k (walkR o t i).2 z.1 z.2 o (walkR o t i).1 (n : Int) (i : Int)) (Ev.yes (lt_nat (by omega)) (Ev.bind (step_ev o _ (walk_ok H i)).1 ?_))
    rw [w64_succ (by omega)]
    exact walkI_ev z m (i + 1) (by omega)
theorem walkS_ev (z : OutR × List Int) : ∀ (m i : Nat), i + m = n → Ev (fun k => spec_WalkAfter_l k ((walkR o t i).2, (m : Int), z, (o, (walkR o t i).1))) ((walkR o t n).2, z, (o, (walkR o t n).1))
  | 0, i, h => by
    obtain rfl : i = n := by omega
    exact Ev.step (fun k => spec_WalkAfter_l.eq k (walkR o t i).2 _ z.1 z.2 o (walkR o t i).1) (Ev.no rfl (Ev.now _))
  | m + 1, i, h => by
    have em : w64 (((m + 1 : Nat) : Int) - 1) = (m : Int) := by rw [w64_of (by omega) (by omega)]; omega
    refine Ev.step (fun k => spec_WalkAfter_l.eq k (walkR o t i).2 _ z.1 z.2 o (walkR o t i).1) (Ev.yes (decide_eq_true (by omega)) (Ev.bind (step_ev o _ (walk_ok H i)).2 ?_))
    rw [em]
    exact walkS_ev z m (i + 1) (by omega)
omit H hn in
theorem track_snoc (i : Nat) : trackR o t i ++ [(walkR o t (i + 1)).2] = trackR o t (i + 1) := by
  unfold trackR
  rw [List.range_succ, List.map_append]
  rfl
theorem trackI_ev : ∀ (m i : Nat), i + m = n → Ev (fun k => impl_Route_visited_l k ((walkR o t i).2, (o, (walkR o t i).1), trackR o t i, (n : Int), (i : Int))) (trackR o t n)
  | 0, i, h => by
    obtain rfl : i = n := by omega
    exact Ev.step (fun k => impl_Route_visited_l.eq k (walkR o t i).2 o (walkR o t i).1 (trackR o t i) (i : Int) (i : Int)) (Ev.no (not_lt_nat (Nat.lt_irrefl _)) (Ev.now _))
  | m + 1, i, h => by
    refine Ev.step (fun k => impl_Route_visited_l.eq k (walkR o t i).2 o (walkR o t i).1 (trackR o t i) (n : Int) (i : Int)) (Ev.yes (lt_nat (by omega)) (Ev.bind (step_ev o _ (walk_ok H i)).1 (Ev.yes (fits_of (by simp [trackR]; omega)) ?_)))
    have e := track_snoc o t i
    have e : trackR o t i ++ [(stpR o (walkR o t i)).2] = trackR o t (i + 1) := e
    rw [w64_succ (by omega), e]
    exact trackI_ev m (i + 1) (by omega)
theorem trackS_ev : ∀ (m i : Nat), i + m = n → Ev (fun k => spec_roTrack_l k ((walkR o t i).2, (m : Int), (o, (walkR o t i).1), trackR o t i)) (trackR o t n)
  | 0, i, h => by
    obtain rfl : i = n := by omega
    exact Ev.step (fun k => spec_roTrack_l.eq k (walkR o t i).2 _ o (walkR o t i).1 (trackR o t i)) (Ev.no rfl (Ev.now _))
  | m + 1, i, h => by
    have em : w64 (((m + 1 : Nat) : Int) - 1) = (m : Int) := by rw [w64_of (by omega) (by omega)]; omega
    refine Ev.step (fun k => spec_roTrack_l.eq k (walkR o t i).2 _ o (walkR o t i).1 (trackR o t i)) (Ev.yes (decide_eq_true (by omega)) (Ev.bind (step_ev o _ (walk_ok H i)).2 (Ev.yes (fits_of (by simp [trackR]; omega)) ?_)))
    have e : trackR o t i ++ [(stpR o (walkR o t i)).2] = trackR o t (i + 1) := track_snoc o t i
    rw [em, e]
    exact trackS_ev m (i + 1) (by omega)
omit hn in
theorem walk_node (i : Nat) : ∃ v : Nat, (walkR o t i).2 = (v : Int) ∧ v < o.length ∧ o.length ≤ 10 := by
  obtain ⟨v, l, x, y, h1, h2, _, h3, _⟩ := okR_parts (walk_ok H i)
  exact ⟨v, h1, h2, h3⟩
omit H hn in
theorem vis_bump (i : Nat) {v : Nat} (hv : (walkR o t (i + 1)).2 = (v : Int)) (hvl : v < o.length) : (visL o t i).set v ((visR o t i v : Int) + 1) = visL o t (i + 1) := by
  unfold visL
  rw [set_range]
  apply List.map_congr_left
  intro q hq
  show _ = ((visR o t i q + _ : Nat) : Int)
  by_cases h : q = v
  · subst h
    rw [if_pos rfl, if_pos hv]
    omega
  · rw [if_neg h, if_neg (by rw [hv]; omega)]
    rfl
theorem visitsI_ev : ∀ (m i : Nat), i + m = n → Ev (fun k => impl_VisitsOfWalk_l k (visL o t i, trackR o t n, (n : Int), (i : Int))) (visL o t n)
  | 0, i, h => by
    obtain rfl : i = n := by omega
    exact Ev.step (fun k => impl_VisitsOfWalk_l.eq k _ _ (i : Int) (i : Int)) (Ev.no (not_lt_nat (Nat.lt_irrefl _)) (Ev.now _))
  | m + 1, i, h => by
    obtain ⟨v, hv, hvl, _⟩ := walk_node o t H (i + 1)
    have hg : (trackR o t n)[i]? = some (v : Int) := by unfold trackR; rw [range_get _ (by omega), hv]
    have hz : (visL o t i)[v]? = some (visR o t i v : Int) := range_get _ hvl
    have hb : inB (v : Int) (visL o t i).length = true := inB_nat (by simp [visL]; exact hvl)
    have := visR_le o t i v
    refine Ev.step (fun k => impl_VisitsOfWalk_l.eq k _ _ (n : Int) (i : Int)) (Ev.yes (lt_nat (by omega)) (Ev.yes (inB_nat (by simp [trackR]; omega)) ?_))
    rw [Int.toNat_natCast, getD_at hg, Int.toNat_natCast, getD_at hz, w64_of (n := (visR o t i v : Int) + 1) (by omega) (by omega), w64_succ (by omega), vis_bump o t i hv hvl]
    exact Ev.yes hb (Ev.yes hb (visitsI_ev m (i + 1) (by omega)))
theorem visitsS_ev : ∀ (m i : Nat), i + m = n → Ev (fun k => spec_VisitsOfWalk_l k (visL o t i, trackR o t n, (n : Int), (i : Int))) (visL o t n)
  | 0, i, h => by
    obtain rfl : i = n := by omega
    exact Ev.step (fun k => spec_VisitsOfWalk_l.eq k _ _ (i : Int) (i : Int)) (Ev.no (not_lt_nat (Nat.lt_irrefl _)) (Ev.now _))
  | m + 1, i, h => by
    obtain ⟨v, hv, hvl, _⟩ := walk_node o t H (i + 1)
    have hg : (trackR o t n)[i]? = some (v : Int) := by unfold trackR; rw [range_get _ (by omega), hv]
    have hz : (visL o t i)[v]? = some (visR o t i v : Int) := range_get _ hvl
    have hb : inB (v : Int) (visL o t i).length = true := inB_nat (by simp [visL]; exact hvl)
    have := visR_le o t i v
    refine Ev.step (fun k => spec_VisitsOfWalk_l.eq k _ _ (n : Int) (i : Int)) (Ev.yes (lt_nat (by omega)) (Ev.yes (inB_nat (by simp [trackR]; omega)) ?_))
    rw [Int.toNat_natCast, getD_at hg, Int.toNat_natCast, getD_at hz, w64_of (n := (visR o t i v : Int) + 1) (by omega) (by omega), w64_succ (by omega), vis_bump o t i hv hvl]
    exact Ev.yes hb (Ev.yes hb (visitsS_ev m (i + 1) (by omega)))
omit H hn in
/-- A line more. -/
theorem lns_bump (i : Nat) {a x : Nat} {l : List Int} (ha : (walkR o t i).2 = (a : Int)) (hal : a < o.length) (hl : o[a]? = some l) (hx : rotN (walkR o t i).1 a = x) (hxl : x < l.length) :
    (lnsL o t i)[a]? = some ((List.range l.length).map fun k => (usedR o t i a k : Int)) ∧ (List.set (lnsL o t i) a (((List.range l.length).map fun k => (usedR o t i a k : Int)).set x ((usedR o t i a x : Int) + 1))) = lnsL o t (i + 1) := by
  have hr : rowN o a = l := getD_any hl
  refine ⟨by unfold lnsL; rw [range_get _ hal, hr], ?_⟩
  unfold lnsL
  rw [set_range, set_range]
  apply List.map_congr_left
  intro q hq
  by_cases h : q = a
  · subst h
    rw [if_pos rfl, hr]
    apply List.map_congr_left
    intro k hk
    show _ = ((usedR o t i q k + _ : Nat) : Int)
    by_cases hkx : k = x
    · subst hkx
      rw [if_pos rfl, if_pos ⟨ha, hx⟩]
      omega
    · rw [if_neg hkx, if_neg (fun e => hkx (by rw [← hx]; exact e.2.symm))]
      rfl
  · rw [if_neg h]
    apply List.map_congr_left
    intro k hk
    show _ = ((usedR o t i q k + _ : Nat) : Int)
    rw [if_neg (fun e => h (by have := e.1; rw [ha] at this; omega))]
    rfl
theorem linesI_ev : ∀ (m i : Nat), i + m = n → Ev (fun k => impl_LinesUsed_l_2 k ((walkR o t i).2, (o, (walkR o t i).1), lnsL o t i, (n : Int), (i : Int))) (lnsL o t n)
  | 0, i, h => by
    obtain rfl : i = n := by omega
    exact Ev.step (fun k => impl_LinesUsed_l_2.eq k (walkR o t i).2 o (walkR o t i).1 _ (i : Int) (i : Int)) (Ev.no (not_lt_nat (Nat.lt_irrefl _)) (Ev.now _))
  | m + 1, i, h => by
    obtain ⟨a, l, x, y, h1, h2, h3, h4, h5, h6, h7, h8, h9, h10, h11, h12, h13⟩ := okR_parts (walk_ok H i)
    obtain ⟨q1, q2⟩ := lns_bump o t i h1 h2 h5 h12 h7
    have st := (step_ev o _ (walk_ok H i)).1
    refine Ev.step (fun k => impl_LinesUsed_l_2.eq k (walkR o t i).2 o (walkR o t i).1 (lnsL o t i) (n : Int) (i : Int)) (Ev.yes (lt_nat (by omega)) ?_)
    have hlen : (lnsL o t i).length = o.length := by simp [lnsL]
    have hul := usedR_le o t i a x
    have hb1 : inB (a : Int) (lnsL o t i).length = true := inB_nat (by omega)
    have hb2 : inB (a : Int) (walkR o t i).1.length = true := inB_nat (by omega)
    have hb3 : inB (x : Int) ((List.range l.length).map fun k => (usedR o t i a k : Int)).length = true := inB_nat (by simp; exact h7)
    have hd : decide (a < (lnsL o t i).length) = true := decide_eq_true (by omega)
    have hx : ((List.range l.length).map fun k => (usedR o t i a k : Int))[x]? = some (usedR o t i a x : Int) := range_get _ h7
    rw [h1] at st ⊢
    rw [Int.toNat_natCast, getD_any q1, getD_at h6, Int.toNat_natCast, getD_at hx, w64_of (n := (usedR o t i a x : Int) + 1) (by omega) (by omega), w64_succ (by omega), q2]
    exact Ev.yes hb1 (Ev.yes hd (Ev.yes hb2 (Ev.yes hb3 (Ev.yes hb3 (Ev.bind st (linesI_ev m (i + 1) (by omega)))))))
theorem linesS_ev : ∀ (m i : Nat), i + m = n → Ev (fun k => spec_LinesUsed_l_2 k ((walkR o t i).2, (m : Int), (o, (walkR o t i).1), lnsL o t i)) (lnsL o t n)
  | 0, i, h => by
    obtain rfl : i = n := by omega
    exact Ev.step (fun k => spec_LinesUsed_l_2.eq k (walkR o t i).2 _ o (walkR o t i).1 _) (Ev.no rfl (Ev.now _))
  | m + 1, i, h => by
    have em : w64 (((m + 1 : Nat) : Int) - 1) = (m : Int) := by rw [w64_of (by omega) (by omega)]; omega
    obtain ⟨a, l, x, y, h1, h2, h3, h4, h5, h6, h7, h8, h9, h10, h11, h12, h13⟩ := okR_parts (walk_ok H i)
    obtain ⟨q1, q2⟩ := lns_bump o t i h1 h2 h5 h12 h7
    have st := (step_ev o _ (walk_ok H i)).2
    refine Ev.step (fun k => spec_LinesUsed_l_2.eq k (walkR o t i).2 _ o (walkR o t i).1 (lnsL o t i)) (Ev.yes (decide_eq_true (by omega)) ?_)
    have hlen : (lnsL o t i).length = o.length := by simp [lnsL]
    have hul := usedR_le o t i a x
    have hb1 : inB (a : Int) (lnsL o t i).length = true := inB_nat (by omega)
    have hb2 : inB (a : Int) (walkR o t i).1.length = true := inB_nat (by omega)
    have hb3 : inB (x : Int) ((List.range l.length).map fun k => (usedR o t i a k : Int)).length = true := inB_nat (by simp; exact h7)
    have hd : decide (a < (lnsL o t i).length) = true := decide_eq_true (by omega)
    have hx : ((List.range l.length).map fun k => (usedR o t i a k : Int))[x]? = some (usedR o t i a x : Int) := range_get _ h7
    rw [h1] at st ⊢
    rw [Int.toNat_natCast, getD_any q1, getD_at h6, Int.toNat_natCast, getD_at hx, w64_of (n := (usedR o t i a x : Int) + 1) (by omega) (by omega), em, q2]
    exact Ev.yes hb1 (Ev.yes hd (Ev.yes hb2 (Ev.yes hb3 (Ev.yes hb3 (Ev.bind st (linesS_ev m (i + 1) (by omega)))))))
end
theorem zero_le {n : Nat} : ((decide ((0 : Int) ≤ (n : Int))) && (decide ((n : Int) ≤ (n : Int)))) = true := le_two (by omega) (by omega)
def zerosR (o : OutR) : OutR := o.map fun l => List.replicate l.length 0
theorem zeros_snoc {o : OutR} {i : Nat} {l : List Int} (h : o[i]? = some l) : zerosR (o.take i) ++ [List.replicate l.length 0] = zerosR (o.take (i + 1)) := by
  rw [take_snoc h]
  simp [zerosR]
theorem zeros_lns (o : OutR) (t : StR) : zerosR o = lnsL o t 0 := by
  apply List.ext_getElem?
  intro q
  by_cases h : q < o.length
  · obtain ⟨l, hl⟩ := nat_list (l := o) (i := q) h
    have hr : rowN o q = l := getD_any hl
    unfold zerosR lnsL
    rw [List.getElem?_map, hl, range_get _ h, hr]
    refine congrArg some ?_
    apply List.ext_getElem?
    intro k
    by_cases hk : k < l.length
    · simp [hk, usedR]
    · rw [List.getElem?_eq_none (by simp; omega), List.getElem?_eq_none (by simp; omega)]
  · rw [List.getElem?_eq_none (by simp [zerosR]; omega), List.getElem?_eq_none (by simp [lnsL]; omega)]
theorem zerosI_ev (o : OutR) (r : List Int) (a s : Int) (h1 : o.length ≤ 1048576) (h2 : ∀ l ∈ o, l.length ≤ 1048576) : ∀ (m i : Nat), i + m = o.length → Ev (fun k => impl_LinesUsed_l k (a, s, (o, r), zerosR (o.take i), o, (o.length : Int), (i : Int))) (a, s, (o, r), zerosR o)
  | 0, i, h => by
    rw [List.take_of_length_le (by omega)]
    exact Ev.step (fun k => impl_LinesUsed_l.eq k a s o r _ o (o.length : Int) (i : Int)) (Ev.no (not_lt_nat (by omega)) (Ev.now _))
  | m + 1, i, h => by
    have ih := zerosI_ev o r a s h1 h2 m (i + 1) (by omega)
    obtain ⟨l, hl⟩ := nat_list (l := o) (i := i) (by omega)
    have hll := h2 l (List.mem_of_getElem? hl)
    refine Ev.step (fun k => impl_LinesUsed_l.eq k a s o r _ o (o.length : Int) (i : Int)) (Ev.yes (lt_nat (by omega)) (Ev.yes (inB_nat (by omega)) ?_))
    rw [Int.toNat_natCast, getD_any hl, w64_succ (by omega), Int.toNat_natCast, zeros_snoc hl, zero_le, fits_of (by omega)]
    exact Ev.yes rfl (Ev.yes (fits_of (by simp [zerosR]; omega)) ih)
theorem zerosS_ev (o : OutR) (r : List Int) (a s : Int) (h1 : o.length ≤ 1048576) (h2 : ∀ l ∈ o, l.length ≤ 1048576) : ∀ (m i : Nat), i + m = o.length → Ev (fun k => spec_LinesUsed_l k (a, s, (o, r), zerosR (o.take i), (), (o.length : Int), (i : Int))) (a, s, (o, r), zerosR o)
  | 0, i, h => by
    rw [List.take_of_length_le (by omega)]
    exact Ev.step (fun k => spec_LinesUsed_l.eq k a s o r _ (o.length : Int) (i : Int)) (Ev.no (not_lt_nat (by omega)) (Ev.now _))
  | m + 1, i, h => by
    have ih := zerosS_ev o r a s h1 h2 m (i + 1) (by omega)
    obtain ⟨l, hl⟩ := nat_list (l := o) (i := i) (by omega)
    have hll := h2 l (List.mem_of_getElem? hl)
    refine Ev.step (fun k => spec_LinesUsed_l.eq k a s o r _ (o.length : Int) (i : Int)) (Ev.yes (lt_nat (by omega)) (Ev.yes (inB_nat (by omega)) ?_))
    rw [Int.toNat_natCast, getD_any hl, w64_succ (by omega), Int.toNat_natCast, zeros_snoc hl, zero_le, fits_of (by omega)]
    exact Ev.yes rfl (Ev.yes (fits_of (by simp [zerosR]; omega)) ih)
/-! ### What the functions tell -/
section
variable (o : OutR) (r : List Int) (a s : Int) (hf : FitR o r)
include hf
theorem walk_yes (h : WalkOk o r a s) : Ev (fun k => impl_WalkAfter k ((o, r), a, s)) ((o, (walkR o (r, a) s.toNat).1), (walkR o (r, a) s.toNat).2, true) ∧ Ev (fun k => spec_WalkAfter k ((o, r), a, s)) ((o, (walkR o (r, a) s.toNat).1), (walkR o (r, a) s.toNat).2, true) := by
  obtain ⟨n, rfl⟩ := Int.eq_ofNat_of_zero_le h.2.1
  have hn : n ≤ 3000 := by have := h.2.2; omega
  rw [Int.toNat_natCast]
  have H : OkR o (r, a) := h.1
  exact ⟨Ev.step (fun k => impl_WalkAfter.eq k o r a n) (Ev.bind ((isWalk_ev o r hf a n).isT h) (Ev.no rfl (Ev.bind (own_ev o r hf) (Ev.bind (walkI_ev o (r, a) H n hn ([], []) n 0 (by omega)) (Ev.now _))))),
    Ev.step (fun k => spec_WalkAfter.eq k o r a n) (Ev.bind ((roWalk_ev o r hf a n).isT h) (Ev.no rfl (Ev.bind (roOwn_ev o r hf) (Ev.bind (walkS_ev o (r, a) H n hn ([], []) n 0 (by omega)) (Ev.now _)))))⟩
theorem walk_no (h : ¬ WalkOk o r a s) : Ev (fun k => impl_WalkAfter k ((o, r), a, s)) (([], []), 0, false) ∧ Ev (fun k => spec_WalkAfter k ((o, r), a, s)) (([], []), 0, false) :=
  ⟨Ev.step (fun k => impl_WalkAfter.eq k o r a s) (Ev.bind ((isWalk_ev o r hf a s).isF h) (Ev.yes rfl (Ev.now _))), Ev.step (fun k => spec_WalkAfter.eq k o r a s) (Ev.bind ((roWalk_ev o r hf a s).isF h) (Ev.yes rfl (Ev.now _)))⟩
theorem visitedI_ev (h : WalkOk o r a s) : Ev (fun k => impl_Route_visited k ((o, r), a, s)) (trackR o (r, a) s.toNat) ∧ Ev (fun k => spec_roTrack k ((o, r), a, s)) (trackR o (r, a) s.toNat) := by
  obtain ⟨n, rfl⟩ := Int.eq_ofNat_of_zero_le h.2.1
  have hn : n ≤ 3000 := by have := h.2.2; omega
  rw [Int.toNat_natCast]
  have H : OkR o (r, a) := h.1
  exact ⟨Ev.step (fun k => impl_Route_visited.eq k o r a n) (Ev.bind (own_ev o r hf) (Ev.bind (trackI_ev o (r, a) H n hn n 0 (by omega)) (Ev.now _))),
    Ev.step (fun k => spec_roTrack.eq k o r a n) (Ev.bind (roOwn_ev o r hf) (Ev.bind (trackS_ev o (r, a) H n hn n 0 (by omega)) (Ev.now _)))⟩
theorem visits_yes (h : WalkOk o r a s) : Ev (fun k => impl_VisitsOfWalk k ((o, r), a, s)) (visL o (r, a) s.toNat, true) ∧ Ev (fun k => spec_VisitsOfWalk k ((o, r), a, s)) (visL o (r, a) s.toNat, true) := by
  obtain ⟨v1, v2⟩ := visitedI_ev o r a s hf h
  obtain ⟨n, rfl⟩ := Int.eq_ofNat_of_zero_le h.2.1
  have hn : n ≤ 3000 := by have := h.2.2; omega
  rw [Int.toNat_natCast] at v1 v2 ⊢
  have H : OkR o (r, a) := h.1
  have hl : (trackR o (r, a) n).length = n := by simp [trackR]
  have hz : List.replicate o.length (0 : Int) = visL o (r, a) 0 := by
    unfold visL
    apply List.ext_getElem?
    intro k
    by_cases hk : k < o.length
    · simp [hk, visR]
    · rw [List.getElem?_eq_none (by simp; omega), List.getElem?_eq_none (by simp; omega)]
  have e1 := visitsI_ev o (r, a) H n hn n 0 (by omega)
  have e2 := visitsS_ev o (r, a) H n hn n 0 (by omega)
  rw [← hz] at e1 e2
  have hc : (((decide ((0 : Int) ≤ (o.length : Int))) && (decide ((o.length : Int) ≤ (o.length : Int)))) && (fits (o.length : Int).toNat 8)) = true := by
    rw [zero_le, Int.toNat_natCast, fits_of (by have := hf.1; omega)]; rfl
  refine ⟨Ev.step (fun k => impl_VisitsOfWalk.eq k o r a n) (Ev.bind ((isWalk_ev o r hf a n).isT h) (Ev.no rfl (Ev.yes hc (Ev.bind v1 ?_)))),
    Ev.step (fun k => spec_VisitsOfWalk.eq k o r a n) (Ev.bind ((roWalk_ev o r hf a n).isT h) (Ev.no rfl (Ev.yes hc (Ev.bind v2 ?_))))⟩
  · rw [hl, Int.toNat_natCast]; exact Ev.bind e1 (Ev.now _)
  · rw [hl, Int.toNat_natCast]; exact Ev.bind e2 (Ev.now _)
theorem visits_no (h : ¬ WalkOk o r a s) : Ev (fun k => impl_VisitsOfWalk k ((o, r), a, s)) ([], false) ∧ Ev (fun k => spec_VisitsOfWalk k ((o, r), a, s)) ([], false) :=
  ⟨Ev.step (fun k => impl_VisitsOfWalk.eq k o r a s) (Ev.bind ((isWalk_ev o r hf a s).isF h) (Ev.yes rfl (Ev.now _))), Ev.step (fun k => spec_VisitsOfWalk.eq k o r a s) (Ev.bind ((roWalk_ev o r hf a s).isF h) (Ev.yes rfl (Ev.now _)))⟩
theorem lines_yes (h : WalkOk o r a s) : Ev (fun k => impl_LinesUsed k ((o, r), a, s)) (lnsL o (r, a) s.toNat, true) ∧ Ev (fun k => spec_LinesUsed k ((o, r), a, s)) (lnsL o (r, a) s.toNat, true) := by
  obtain ⟨n, rfl⟩ := Int.eq_ofNat_of_zero_le h.2.1
  have hn : n ≤ 3000 := by have := h.2.2; omega
  rw [Int.toNat_natCast]
  have H : OkR o (r, a) := h.1
  have z1 := zerosI_ev o r a n hf.1 hf.2.2 o.length 0 (by omega)
  have z2 := zerosS_ev o r a n hf.1 hf.2.2 o.length 0 (by omega)
  rw [zeros_lns o (r, a)] at z1 z2
  exact ⟨Ev.step (fun k => impl_LinesUsed.eq k o r a n) (Ev.bind ((isWalk_ev o r hf a n).isT h) (Ev.no rfl (Ev.bind (own_ev o r hf) (Ev.bind z1 (Ev.bind (linesI_ev o (r, a) H n hn n 0 (by omega)) (Ev.now _)))))),
    Ev.step (fun k => spec_LinesUsed.eq k o r a n) (Ev.bind ((roWalk_ev o r hf a n).isT h) (Ev.no rfl (Ev.bind (roOwn_ev o r hf) (Ev.bind z2 (Ev.bind (linesS_ev o (r, a) H n hn n 0 (by omega)) (Ev.now _))))))⟩
theorem lines_no (h : ¬ WalkOk o r a s) : Ev (fun k => impl_LinesUsed k ((o, r), a, s)) ([], false) ∧ Ev (fun k => spec_LinesUsed k ((o, r), a, s)) ([], false) :=
  ⟨Ev.step (fun k => impl_LinesUsed.eq k o r a s) (Ev.bind ((isWalk_ev o r hf a s).isF h) (Ev.yes rfl (Ev.now _))), Ev.step (fun k => spec_LinesUsed.eq k o r a s) (Ev.bind ((roWalk_ev o r hf a s).isF h) (Ev.yes rfl (Ev.now _)))⟩
theorem tracks_ev : ∃ T b, Ev (fun k => impl_TrackOfWalk k ((o, r), a, s)) (T, b) ∧ Ev (fun k => spec_TrackOfWalk k ((o, r), a, s)) (T, b) ∧ (b = true → WalkOk o r a s ∧ T = trackR o (r, a) s.toNat) ∧ T.length ≤ 1048576 := by
  by_cases h : WalkOk o r a s
  · obtain ⟨v1, v2⟩ := visitedI_ev o r a s hf h
    by_cases h2 : s > 200
    · exact ⟨[], false, Ev.step (fun k => impl_TrackOfWalk.eq k o r a s) (Ev.bind ((isWalk_ev o r hf a s).isT h) (Ev.no rfl (Ev.yes (decide_eq_true h2) (Ev.now _)))), Ev.step (fun k => spec_TrackOfWalk.eq k o r a s) (Ev.bind ((roWalk_ev o r hf a s).isT h) (Ev.no rfl (Ev.yes (decide_eq_true h2) (Ev.now _)))), nofun, by simp⟩
    · exact ⟨_, true, Ev.step (fun k => impl_TrackOfWalk.eq k o r a s) (Ev.bind ((isWalk_ev o r hf a s).isT h) (Ev.no rfl (Ev.no (decide_eq_false h2) (Ev.bind v1 (Ev.now _))))), Ev.step (fun k => spec_TrackOfWalk.eq k o r a s) (Ev.bind ((roWalk_ev o r hf a s).isT h) (Ev.no rfl (Ev.no (decide_eq_false h2) (Ev.bind v2 (Ev.now _))))), fun _ => ⟨h, rfl⟩, by simp [trackR]; omega⟩
  · exact ⟨[], false, Ev.step (fun k => impl_TrackOfWalk.eq k o r a s) (Ev.bind ((isWalk_ev o r hf a s).isF h) (Ev.yes rfl (Ev.now _))), Ev.step (fun k => spec_TrackOfWalk.eq k o r a s) (Ev.bind ((roWalk_ev o r hf a s).isF h) (Ev.yes rfl (Ev.now _))), nofun, by simp⟩
theorem stepR_ev : (OkR o (r, a) ∧ Ev (fun k => impl_StepRoute k ((o, r), a)) ((o, (stpR o (r, a)).1), (stpR o (r, a)).2, true) ∧ Ev (fun k => spec_StepRoute k ((o, r), a)) ((o, (stpR o (r, a)).1), (stpR o (r, a)).2, true)) ∨
    (¬ OkR o (r, a) ∧ Ev (fun k => impl_StepRoute k ((o, r), a)) (([], []), 0, false) ∧ Ev (fun k => spec_StepRoute k ((o, r), a)) (([], []), 0, false)) := by
  by_cases h : OkR o (r, a)
  · have hw : WalkOk o r a 1 := ⟨h, by omega⟩
    exact .inl ⟨h, Ev.step (fun k => impl_StepRoute.eq k o r a) (Ev.bind (walk_yes o r a 1 hf hw).1 (Ev.now _)), Ev.step (fun k => spec_StepRoute.eq k o r a) (Ev.bind ((roNode_ev o r hf a).isT h) (Ev.no rfl (Ev.bind (roOwn_ev o r hf) (Ev.bind (step_ev o (r, a) h).2 (Ev.now _)))))⟩
  · have hw : ¬ WalkOk o r a 1 := fun e => h e.1
    exact .inr ⟨h, Ev.step (fun k => impl_StepRoute.eq k o r a) (Ev.bind (walk_no o r a 1 hf hw).1 (Ev.now _)), Ev.step (fun k => spec_StepRoute.eq k o r a) (Ev.bind ((roNode_ev o r hf a).isF h) (Ev.yes rfl (Ev.now _)))⟩
end
/-! ### Sums -/
def sumI : Nat → (Nat → Int) → Int
  | 0, _ => 0
  | m + 1, f => sumI m f + f m
theorem sumI_congr : ∀ (m : Nat) {f g : Nat → Int}, (∀ k, k < m → f k = g k) → sumI m f = sumI m g
  | 0, _, _, _ => rfl
  | m + 1, f, g, h => by
    show sumI m f + f m = sumI m g + g m
    rw [sumI_congr m fun k hk => h k (by omega), h m (by omega)]
theorem sumI_add (f g : Nat → Int) : ∀ m : Nat, sumI m (fun k => f k + g k) = sumI m f + sumI m g
  | 0 => rfl
  | m + 1 => by
    show sumI m (fun k => f k + g k) + (f m + g m) = (sumI m f + f m) + (sumI m g + g m)
    rw [sumI_add f g m]
    omega
theorem sumI_zero : ∀ m : Nat, sumI m (fun _ => 0) = 0
  | 0 => rfl
  | m + 1 => by show sumI m _ + 0 = 0; rw [sumI_zero m]; rfl
theorem sumI_one (x : Nat) (c : Int) : ∀ m : Nat, sumI m (fun k => if k = x then c else 0) = if x < m then c else 0
  | 0 => by simp [sumI]
  | m + 1 => by
    show sumI m (fun k => if k = x then c else 0) + (if m = x then c else 0) = _
    rw [sumI_one x c m]
    by_cases h : m = x
    · subst h
      rw [if_pos rfl, if_neg (by omega), if_pos (by omega)]
      omega
    · rw [if_neg h]
      by_cases h2 : x < m
      · rw [if_pos h2, if_pos (by omega)]; omega
      · rw [if_neg h2, if_neg (by omega)]; rfl
theorem sum_range (f : Nat → Int) : ∀ m : Nat, ((List.range m).map f).sum = sumI m f
  | 0 => rfl
  | m + 1 => by
    rw [List.range_succ, List.map_append, List.sum_append, sum_range f m]
    simp [sumI]
theorem sumI_bounds {f : Nat → Int} {b : Int} : ∀ m : Nat, (∀ k, k < m → 0 ≤ f k ∧ f k ≤ b) → 0 ≤ sumI m f ∧ sumI m f ≤ b * (m : Int)
  | 0, _ => by simp [sumI]
  | m + 1, h => by
    obtain ⟨h1, h2⟩ := sumI_bounds m fun k hk => h k (by omega)
    have := h m (by omega)
    have e : b * ((m + 1 : Nat) : Int) = b * (m : Int) + b := by rw [Int.natCast_add, Int.mul_add]; simp
    refine ⟨by show 0 ≤ sumI m f + f m; omega, by rw [e]; show sumI m f + f m ≤ _; omega⟩
/-! ### Counts -/
def leftR (o : OutR) (t : StR) : Nat → Nat → Nat
  | 0, _ => 0
  | n + 1, i => leftR o t n i + if (walkR o t n).2 = (i : Int) then 1 else 0
/-- How often an index is told in so many turns. -/
def cntR (r l : Nat) : Nat → Nat → Nat
  | 0, _ => 0
  | m + 1, k => cntR r l m k + if (r + m) % l = k then 1 else 0
theorem cnt_closed {r l k : Nat} (hl : 1 ≤ l ∧ l ≤ 4) (hr : r < l) (hk : k < l) : ∀ m, cntR r l m k = (m + l - 1 - (k + l - r) % l) / l
  | 0 => by
    show 0 = _
    have : l = 1 ∨ l = 2 ∨ l = 3 ∨ l = 4 := by omega
    rcases this with rfl | rfl | rfl | rfl <;> omega
  | m + 1 => by
    show cntR r l m k + _ = _
    rw [cnt_closed hl hr hk m]
    have : l = 1 ∨ l = 2 ∨ l = 3 ∨ l = 4 := by omega
    rcases this with rfl | rfl | rfl | rfl <;> split <;> omega
theorem cnt_even {r l k k' m : Nat} (hl : 1 ≤ l ∧ l ≤ 4) (hr : r < l) (hk : k < l) (hk' : k' < l) : cntR r l m k ≤ cntR r l m k' + 1 := by
  rw [cnt_closed hl hr hk, cnt_closed hl hr hk']
  have : l = 1 ∨ l = 2 ∨ l = 3 ∨ l = 4 := by omega
  rcases this with rfl | rfl | rfl | rfl <;> omega
theorem cnt_same {r l k k' m : Nat} (hl : 1 ≤ l ∧ l ≤ 4) (hr : r < l) (hk : k < l) (hk' : k' < l) (h : (r + m) % l = r) : cntR r l m k = cntR r l m k' := by
  rw [cnt_closed hl hr hk, cnt_closed hl hr hk']
  have : l = 1 ∨ l = 2 ∨ l = 3 ∨ l = 4 := by omega
  rcases this with rfl | rfl | rfl | rfl <;> omega
section
variable {o : OutR} {t : StR} (H : OkR o t)
include H
theorem row_len {i : Nat} (hi : i < o.length) : (1 ≤ (rowN o i).length ∧ (rowN o i).length ≤ 4) ∧ o[i]? = some (rowN o i) ∧ rotN t.1 i < (rowN o i).length ∧ t.1[i]? = some (rotN t.1 i : Int) ∧ ∀ y ∈ rowN o i, InR ((o.length : Int) - 1) y := by
  obtain ⟨⟨_, h2, h3⟩, _⟩ := H
  obtain ⟨l, x, e1, e2, e3, e4, e5⟩ := h3 i hi
  have hr : rowN o i = l := getD_any e1
  have hx : rotN t.1 i = x.toNat := by unfold rotN; rw [getD_any e2]
  rw [hr, hx]
  exact ⟨by omega, e1, by omega, by rw [e2]; congr 1; omega, e4⟩
theorem rot_left : ∀ (n : Nat) {i : Nat}, i < o.length → rotN (walkR o t n).1 i = (rotN t.1 i + leftR o t n i) % (rowN o i).length
  | 0, i, hi => by
    obtain ⟨h1, _, h3, _⟩ := row_len H hi
    show rotN t.1 i = (rotN t.1 i + 0) % _
    rw [Nat.add_zero, Nat.mod_eq_of_lt h3]
  | n + 1, i, hi => by
    have ih := rot_left n hi
    obtain ⟨a, l, x, y, g1, g2, g3, g4, g5, g6, g7, g8, g9, g10, g11, g12, g13⟩ := okR_parts (walk_ok H n)
    show rotN (stpR o (walkR o t n)).1 i = (rotN t.1 i + (leftR o t n i + _)) % _
    rw [g13]
    by_cases h : a = i
    · subst h
      rw [if_pos g1]
      have e : rotN ((walkR o t n).1.set a (((x + 1) % l.length : Nat) : Int)) a = (x + 1) % l.length := by
        unfold rotN
        rw [getD_any (List.getElem?_set_self (by omega))]
        exact Int.toNat_natCast _
      rw [e, g11, ← g12, ih, g11, ← Nat.add_assoc, Nat.mod_add_mod]
    · rw [if_neg (show ¬ (walkR o t n).2 = (i : Int) by omega)]
      have e : rotN ((walkR o t n).1.set a (((x + 1) % l.length : Nat) : Int)) i = rotN (walkR o t n).1 i := by
        unfold rotN
        rw [List.getD_eq_getElem?_getD, List.getElem?_set_ne h, ← List.getD_eq_getElem?_getD]
      rw [e, ih, Nat.add_zero]
theorem used_cnt : ∀ (n : Nat) {i : Nat} (k : Nat), i < o.length → usedR o t n i k = cntR (rotN t.1 i) (rowN o i).length (leftR o t n i) k
  | 0, i, k, hi => rfl
  | n + 1, i, k, hi => by
    have ih := used_cnt n k hi
    have hr := rot_left H n hi
    show usedR o t n i k + _ = cntR _ _ (leftR o t n i + _) k
    by_cases h : (walkR o t n).2 = (i : Int)
    · rw [if_pos h]
      show _ = cntR _ _ (leftR o t n i) k + _
      rw [ih, hr]
      congr 1
      by_cases h2 : (rotN t.1 i + leftR o t n i) % (rowN o i).length = k
      · rw [if_pos h2, if_pos ⟨h, h2⟩]
      · rw [if_neg h2, if_neg fun e => h2 e.2]
    · rw [if_neg h, if_neg fun e => h e.1, ih]
      rfl
omit H in
theorem left_vis : ∀ (n i : Nat), leftR o t n i + (if (walkR o t n).2 = (i : Int) then 1 else 0) = visR o t n i + (if t.2 = (i : Int) then 1 else 0)
  | 0, i => rfl
  | n + 1, i => by
    have ih := left_vis n i
    show (leftR o t n i + _) + _ = (visR o t n i + _) + _
    omega
theorem used_sum : ∀ (n : Nat) {i : Nat}, i < o.length → sumI (rowN o i).length (fun k => (usedR o t n i k : Int)) = (leftR o t n i : Int)
  | 0, i, hi => sumI_zero _
  | n + 1, i, hi => by
    have ih := used_sum n hi
    obtain ⟨a, l, x, y, g1, g2, g3, g4, g5, g6, g7, g8, g9, g10, g11, g12, g13⟩ := okR_parts (walk_ok H n)
    have e : ∀ k, k < (rowN o i).length → ((usedR o t (n + 1) i k : Nat) : Int) = (usedR o t n i k : Int) + (if k = x then (if a = i then 1 else 0) else 0) := fun k hk => by
      show ((usedR o t n i k + _ : Nat) : Int) = _
      by_cases h : a = i
      · subst h
        by_cases hk2 : k = x
        · subst hk2
          rw [if_pos ⟨g1, g12⟩, if_pos rfl, if_pos rfl]
          omega
        · rw [if_neg (fun q => hk2 (by rw [← g12]; exact q.2.symm)), if_neg hk2]
          omega
      · rw [if_neg (fun q => h (by have := q.1; omega)), if_neg h]
        split <;> omega
    rw [sumI_congr _ e, sumI_add, ih, sumI_one]
    show _ = ((leftR o t n i + _ : Nat) : Int)
    by_cases h : a = i
    · subst h
      rw [if_pos (by rw [g11]; exact g7), if_pos rfl, if_pos g1]
      omega
    · rw [if_neg h, if_neg (show ¬ (walkR o t n).2 = (i : Int) by omega)]
      split <;> omega
/-- What comes to a node along the lines. -/
def intoR (o : OutR) (t : StR) (n v i : Nat) : Nat → Int := fun k => if (rowN o i).getD k 0 = (v : Int) then (usedR o t n i k : Int) else 0
def cameR (o : OutR) (t : StR) (n v : Nat) : Int := sumI o.length fun i => sumI (rowN o i).length (intoR o t n v i)
theorem came_vis (v : Nat) : ∀ n : Nat, cameR o t n v = (visR o t n v : Int)
  | 0 => by
    unfold cameR
    have e : ∀ i, i < o.length → sumI (rowN o i).length (intoR o t 0 v i) = 0 := fun i _ => by
      rw [sumI_congr (g := fun _ => 0) _ fun k _ => by unfold intoR; split <;> rfl]
      exact sumI_zero _
    rw [sumI_congr _ e, sumI_zero]
    rfl
  | n + 1 => by
    have ih := came_vis v n
    obtain ⟨a, l, x, y, g1, g2, g3, g4, g5, g6, g7, g8, g9, g10, g11, g12, g13⟩ := okR_parts (walk_ok H n)
    have e : ∀ i, i < o.length → sumI (rowN o i).length (intoR o t (n + 1) v i) = sumI (rowN o i).length (intoR o t n v i) + (if i = a then (if y = (v : Int) then 1 else 0) else 0) := fun i hi => by
      have e1 : ∀ k, k < (rowN o i).length → intoR o t (n + 1) v i k = intoR o t n v i k + (if k = x then (if i = a then (if y = (v : Int) then 1 else 0) else 0) else 0) := fun k hk => by
        unfold intoR
        have es : ((usedR o t (n + 1) i k : Nat) : Int) = (usedR o t n i k : Int) + (if (walkR o t n).2 = (i : Int) ∧ rotN (walkR o t n).1 i = k then 1 else 0) := by
          show ((usedR o t n i k + _ : Nat) : Int) = _
          split <;> omega
        rw [es]
        by_cases h : i = a
        · subst h
          by_cases hk2 : k = x
          · subst hk2
            have hgy : (rowN o i).getD k 0 = y := by rw [g11]; exact getD_any g9
            rw [hgy, if_pos (show (walkR o t n).2 = (i : Int) ∧ rotN (walkR o t n).1 i = k from ⟨g1, g12⟩)]
            by_cases hy : y = (v : Int)
            · rw [if_pos hy, if_pos hy, if_pos rfl, if_pos rfl, if_pos hy]
            · rw [if_neg hy, if_neg hy, if_pos rfl, if_pos rfl, if_neg hy]; rfl
          · rw [if_neg (fun q : (walkR o t n).2 = (i : Int) ∧ rotN (walkR o t n).1 i = k => hk2 (by rw [← g12]; exact q.2.symm)), if_neg hk2]
            split <;> omega
        · rw [if_neg (fun q : (walkR o t n).2 = (i : Int) ∧ rotN (walkR o t n).1 i = k => h (by have := q.1; omega)), if_neg h]
          by_cases hg : (rowN o i).getD k 0 = (v : Int)
          · rw [if_pos hg, if_pos hg]; split <;> omega
          · rw [if_neg hg, if_neg hg]; split <;> omega
      rw [sumI_congr _ e1, sumI_add, sumI_one]
      by_cases h : i = a
      · subst h
        rw [if_pos (by rw [g11]; exact g7), if_pos rfl]
      · rw [if_neg h]
        split <;> rfl
    unfold cameR at ih ⊢
    rw [sumI_congr _ e, sumI_add, ih, sumI_one, if_pos g2]
    have ey : (walkR o t (n + 1)).2 = y := by show (stpR o (walkR o t n)).2 = y; rw [g13]
    show _ = ((visR o t n v + (if (walkR o t (n + 1)).2 = (v : Int) then 1 else 0) : Nat) : Int)
    rw [ey]
    split <;> omega
theorem vis_sum : ∀ n : Nat, sumI o.length (fun v => (visR o t n v : Int)) = (n : Int)
  | 0 => sumI_zero _
  | n + 1 => by
    have ih := vis_sum n
    obtain ⟨v, hv, hvl, _⟩ := walk_node o t H (n + 1)
    have e : ∀ q, q < o.length → ((visR o t (n + 1) q : Nat) : Int) = (visR o t n q : Int) + (if q = v then 1 else 0) := fun q hq => by
      show ((visR o t n q + _ : Nat) : Int) = _
      by_cases h : q = v
      · subst h; rw [if_pos hv, if_pos rfl]; omega
      · rw [if_neg h, if_neg (by rw [hv]; omega)]; omega
    rw [sumI_congr _ e, sumI_add, ih, sumI_one, if_pos hvl]
    omega
end
theorem dec_comma (n : Int) : (44 : UInt8) ∉ (decS n.toNat).data.toList := dec_free _ _ (by decide)
def keyR (t : StR) : ByteArray := joinB (([t.2] ++ t.1).map fun n => decS n.toNat) (bs [44])
def code4 : List Int → Int → Int
  | [], n => n
  | x :: l, n => code4 l (n * 4 + x)
def codeR (t : StR) : Int := code4 t.1 0 * 10 + t.2
theorem nat_maps : ∀ {l m : List Int}, (∀ x ∈ l, 0 ≤ x) → (∀ x ∈ m, 0 ≤ x) → l.map (fun n => decS n.toNat) = m.map (fun n => decS n.toNat) → l = m
  | [], [], _, _, _ => rfl
  | [], _ :: _, _, _, h => by simp at h
  | _ :: _, [], _, _, h => by simp at h
  | x :: l, y :: m, hl, hm, h => by
    simp only [List.map_cons, List.cons.injEq] at h
    have h1 := decS_inj h.1
    have h2 := hl x (by simp)
    have h3 := hm y (by simp)
    rw [nat_maps (fun z hz => hl z (by simp [hz])) (fun z hz => hm z (by simp [hz])) h.2]
    congr 1
    omega
theorem code4_inj : ∀ {l m : List Int} {a b : Int}, l.length = m.length → (∀ x ∈ l, 0 ≤ x ∧ x ≤ 3) → (∀ x ∈ m, 0 ≤ x ∧ x ≤ 3) → code4 l a = code4 m b → a = b ∧ l = m
  | [], [], a, b, _, _, _, h => ⟨h, rfl⟩
  | [], _ :: _, _, _, h, _, _, _ => by simp at h
  | _ :: _, [], _, _, h, _, _, _ => by simp at h
  | x :: l, y :: m, a, b, hl, h1, h2, h => by
    obtain ⟨e1, e2⟩ := code4_inj (l := l) (m := m) (by simpa using hl) (fun z hz => h1 z (by simp [hz])) (fun z hz => h2 z (by simp [hz])) h
    have g1 := h1 x (by simp)
    have g2 := h2 y (by simp)
    refine ⟨by omega, ?_⟩
    rw [e2]
    congr 1
    omega
theorem okR_nums {o : OutR} {t : StR} (H : OkR o t) : (∀ x ∈ t.1, 0 ≤ x ∧ x ≤ 3) ∧ (0 ≤ t.2 ∧ t.2 ≤ 9) ∧ t.1.length = o.length ∧ (o.length ≤ 10) := by
  obtain ⟨⟨h1, h2, h3⟩, h4, h5⟩ := H
  refine ⟨fun x hx => ?_, by omega, h2, by omega⟩
  obtain ⟨i, hi, rfl⟩ := List.mem_iff_getElem.1 hx
  obtain ⟨l, x, e1, e2, e3, e4, e5⟩ := h3 i (by omega)
  rw [List.getElem?_eq_getElem hi] at e2
  cases e2
  omega
theorem keyR_iff {o : OutR} {s t : StR} (hs : OkR o s) (ht : OkR o t) : keyR s = keyR t ↔ s = t := by
  refine ⟨fun h => ?_, fun h => by rw [h]⟩
  obtain ⟨a1, a2, a3, _⟩ := okR_nums hs
  obtain ⟨b1, b2, b3, _⟩ := okR_nums ht
  have sp := fun (t : StR) => splitS_joined 44 (([t.2] ++ t.1).map fun n => decS n.toNat) (by simp) (fun x hx => by
    obtain ⟨n, _, rfl⟩ := List.mem_map.1 hx
    exact dec_comma n)
  have e : ([s.2] ++ s.1).map (fun n => decS n.toNat) = ([t.2] ++ t.1).map fun n => decS n.toNat := by
    rw [← sp s, ← sp t]
    exact congrArg (splitS 44) h
  have := nat_maps (fun x hx => by
    rcases List.mem_append.1 hx with hx | hx
    · simp at hx; subst hx; exact a2.1
    · exact (a1 x hx).1) (fun x hx => by
    rcases List.mem_append.1 hx with hx | hx
    · simp at hx; subst hx; exact b2.1
    · exact (b1 x hx).1) e
  simp only [List.cons_append, List.nil_append, List.cons.injEq] at this
  exact Prod.ext this.2 this.1
theorem codeR_iff {o : OutR} {s t : StR} (hs : OkR o s) (ht : OkR o t) : codeR s = codeR t ↔ s = t := by
  refine ⟨fun h => ?_, fun h => by rw [h]⟩
  obtain ⟨a1, a2, a3, _⟩ := okR_nums hs
  obtain ⟨b1, b2, b3, _⟩ := okR_nums ht
  unfold codeR at h
  obtain ⟨e1, e2⟩ := code4_inj (l := s.1) (m := t.1) (a := 0) (b := 0) (by omega) a1 b1 (by omega)
  exact Prod.ext e2 (by omega)
theorem key_ev {o : OutR} {t : StR} (H : OkR o t) : Ev (fun k => impl_listText k (bs [44], [t.2] ++ t.1)) (keyR t) := by
  obtain ⟨a1, a2, a3, a4⟩ := okR_nums H
  have hz : (bs [44]).size = 1 := rfl
  refine listText_ev (bs [44]) ([t.2] ++ t.1) (by simp; omega) (by rw [hz]; omega) fun x hx => ?_
  rcases List.mem_append.1 hx with hx | hx
  · simp at hx; subst hx; omega
  · have := a1 x hx; omega
theorem pow4 (i : Nat) (h : i ≤ 10) : (4 : Int) ^ i ≤ 1048576 := by
  have h1 := Nat.pow_le_pow_right (n := 4) (by omega) h
  have h2 : (4 : Nat) ^ 10 = 1048576 := by decide
  have h3 : ((4 ^ i : Nat) : Int) = (4 : Int) ^ i := by simp
  omega
theorem code_l_ev (o : OutR) (r states : List Int) (a steps : Int) (hr : ∀ x ∈ r, 0 ≤ x ∧ x ≤ 3) (hl : r.length ≤ 10) : ∀ (m i : Nat) (n : Int), i + m = r.length → 0 ≤ n → n < 4 ^ i →
    Ev (fun k => spec_WalkLoop_l_l k (a, (o, r), states, steps, n, (), (r.length : Int), (i : Int))) (a, (o, r), states, steps, code4 (r.drop i) n) ∧ 0 ≤ code4 (r.drop i) n ∧ code4 (r.drop i) n ≤ 1048576
  | 0, i, n, h, h0, h1 => by
    have := pow4 i (by omega)
    rw [List.drop_of_length_le (by omega)]
    exact ⟨Ev.step (fun k => spec_WalkLoop_l_l.eq k a o r states steps n (r.length : Int) (i : Int)) (Ev.no (not_lt_nat (by omega)) (Ev.now _)), h0, by show n ≤ _; omega⟩
  | m + 1, i, n, h, h0, h1 => by
    have hp := pow4 i (by omega)
    obtain ⟨x, hx⟩ := nat_list (l := r) (i := i) (by omega)
    have hxr := hr x (List.mem_of_getElem? hx)
    have e1 : w64 (n * 4) = n * 4 := w64_of (by omega) (by omega)
    have e2 : w64 (n * 4 + x) = n * 4 + x := w64_of (by omega) (by omega)
    have e4 : (4 : Int) ^ (i + 1) = 4 ^ i * 4 := by rw [Int.pow_succ]
    obtain ⟨g1, g2, g3⟩ := code_l_ev o r states a steps hr hl m (i + 1) (n * 4 + x) (by omega) (by omega) (by rw [e4]; omega)
    obtain ⟨hlt, he⟩ := List.getElem?_eq_some_iff.1 hx
    have ed : code4 (r.drop i) n = code4 (r.drop (i + 1)) (n * 4 + x) := by
      rw [List.drop_eq_getElem_cons hlt, he]
      rfl
    rw [ed]
    refine ⟨Ev.step (fun k => spec_WalkLoop_l_l.eq k a o r states steps n (r.length : Int) (i : Int)) (Ev.yes (lt_nat (by omega)) (Ev.yes (inB_nat (by omega)) ?_)), g2, g3⟩
    rw [Int.toNat_natCast, getD_at hx, e1, e2, w64_succ (by omega)]
    exact g1
/-- The first time at which a state is met again. -/
def MetR (o : OutR) (t : StR) (j n : Nat) : Prop := j < n ∧ n ≤ 3000 ∧ walkR o t j = walkR o t n ∧ ∀ i i', i < i' → i' < n → walkR o t i ≠ walkR o t i'
section
variable (o : OutR) (t : StR) (H : OkR o t)
include H
def codesR (o : OutR) (t : StR) (n : Nat) : List Int := (List.range n).map fun i => codeR (walkR o t i)
def seenR (o : OutR) (t : StR) (n : Nat) : List (ByteArray × Int) := (List.range n).map fun i => (keyR (walkR o t i), (i : Int))
omit H in
theorem codes_snoc (n : Nat) : codesR o t n ++ [codeR (walkR o t n)] = codesR o t (n + 1) := by unfold codesR; rw [List.range_succ, List.map_append]; rfl
omit H in
theorem seen_snoc (n : Nat) : seenR o t n ++ [(keyR (walkR o t n), (n : Int))] = seenR o t (n + 1) := by unfold seenR; rw [List.range_succ, List.map_append]; rfl
theorem finds_ev (n : Nat) (hn : n ≤ 3000) : ((∀ i, i < n → walkR o t i ≠ walkR o t n) ∧ Ev (fun k => spec_WalkLoop_l_l_2 k ((walkR o t n).2, (o, (walkR o t n).1), codesR o t n, (n : Int), codeR (walkR o t n), (), (n : Int), 0)) (.inr ((walkR o t n).2, (o, (walkR o t n).1), codesR o t n, (n : Int), codeR (walkR o t n)))) ∨
    ∃ j : Nat, j < n ∧ walkR o t j = walkR o t n ∧ (∀ i, i < j → walkR o t i ≠ walkR o t n) ∧ Ev (fun k => spec_WalkLoop_l_l_2 k ((walkR o t n).2, (o, (walkR o t n).1), codesR o t n, (n : Int), codeR (walkR o t n), (), (n : Int), 0)) (.inl ((j : Int), w64 ((n : Int) - (j : Int)), true)) := by
  have hlen : (codesR o t n).length = n := by simp [codesR]
  have hg : ∀ i, i < n → (codesR o t n)[i]? = some (codeR (walkR o t i)) := fun i hi => range_get _ hi
  have srch := Ev.search (L := fun k i => spec_WalkLoop_l_l_2 k ((walkR o t n).2, (o, (walkR o t n).1), codesR o t n, (n : Int), codeR (walkR o t n), (), (n : Int), i)) (n := n) (fun i => walkR o t i = walkR o t n)
    (fun i => .inl ((i : Int), w64 ((n : Int) - (i : Int)), true)) (.inr ((walkR o t n).2, (o, (walkR o t n).1), codesR o t n, (n : Int), codeR (walkR o t n)))
    (fun i hi hp r Hr => by
      refine Ev.step (fun k => spec_WalkLoop_l_l_2.eq k _ o _ (codesR o t n) (n : Int) (codeR (walkR o t n)) (n : Int) (i : Int)) (Ev.yes (lt_nat hi) (Ev.yes (inB_nat (by omega)) ?_))
      rw [Int.toNat_natCast, getD_at (hg i hi), w64_succ (by omega)]
      exact Ev.no (beq_eq_false_iff_ne.2 fun e => hp ((codeR_iff (walk_ok H i) (walk_ok H n)).1 e)) Hr)
    (fun i hi hp => by
      refine Ev.step (fun k => spec_WalkLoop_l_l_2.eq k _ o _ (codesR o t n) (n : Int) (codeR (walkR o t n)) (n : Int) (i : Int)) (Ev.yes (lt_nat hi) (Ev.yes (inB_nat (by omega)) ?_))
      rw [Int.toNat_natCast, getD_at (hg i hi), hp]
      exact Ev.yes (beq_self_eq_true _) (Ev.now _))
    (Ev.step (fun k => spec_WalkLoop_l_l_2.eq k _ o _ (codesR o t n) (n : Int) (codeR (walkR o t n)) (n : Int) (n : Int)) (Ev.no (not_lt_nat (Nat.lt_irrefl _)) (Ev.now _))) n 0 (by omega)
  rcases srch with ⟨h1, h2⟩ | ⟨j, _, hj, h3, h4, h5⟩
  · exact .inl ⟨fun i hi => h1 i (Nat.zero_le _) hi, h2⟩
  · exact .inr ⟨j, hj, h3, fun i hi => h4 i (Nat.zero_le _) hi, h5⟩
theorem loopR_ev : ∀ (m n : Nat), n + m = 3001 → (∀ i i', i < i' → i' < n → walkR o t i ≠ walkR o t i') →
    ∃ r, Ev (fun k => impl_WalkLoop_l k ((walkR o t n).2, (o, (walkR o t n).1), seenR o t n, (n : Int))) r ∧ Ev (fun k => spec_WalkLoop_l k ((walkR o t n).2, (o, (walkR o t n).1), codesR o t n, (n : Int))) r ∧
      (r = .inr () ∨ ∃ j n', MetR o t j n' ∧ r = .inl ((j : Int), ((n' - j : Nat) : Int), true))
  | 0, n, hm, hd => by
    have e : n = 3001 := by omega
    subst e
    exact ⟨.inr (), Ev.step (fun k => impl_WalkLoop_l.eq k _ o _ _ 3001) (Ev.no rfl (Ev.now _)), Ev.step (fun k => spec_WalkLoop_l.eq k _ o _ _ 3001) (Ev.no rfl (Ev.now _)), .inl rfl⟩
  | m + 1, n, hm, hd => by
    have Hn := walk_ok H n
    obtain ⟨a1, a2, a3, a4⟩ := okR_nums Hn
    have kt := key_ev Hn
    obtain ⟨c1, c2, c3⟩ := code_l_ev o (walkR o t n).1 (codesR o t n) (walkR o t n).2 (n : Int) a1 (by omega) (walkR o t n).1.length 0 0 (by omega) (by omega) (by decide)
    rw [List.drop_zero] at c1 c2 c3
    have e1 : w64 (w64 (code4 (walkR o t n).1 0 * 10) + (walkR o t n).2) = codeR (walkR o t n) := by
      rw [w64_of (n := code4 (walkR o t n).1 0 * 10) (by omega) (by omega), w64_of (by omega) (by omega)]
      rfl
    have hcl : ((codesR o t n).length : Int) = (n : Int) := by simp [codesR]
    have lt1 : decide ((n : Int) < 3001) = true := decide_eq_true (by omega)
    have lt2 : decide ((n : Int) ≤ 3000) = true := decide_eq_true (by omega)
    have ft : fits (1 + (walkR o t n).1.length) 8 = true := fits_of (by omega)
    have spec : ∀ r, Ev (fun k => (spec_WalkLoop_l_l_2 k ((walkR o t n).2, (o, (walkR o t n).1), codesR o t n, (n : Int), codeR (walkR o t n), (), (n : Int), 0)).bind fun r2 => r2.elim (fun r3 => some (.inl r3)) (fun r4 => cond (fits (r4.2.2.1.length + 1) 8) ((spec_roStep k (r4.2.1, r4.1)).bind fun r5 => spec_WalkLoop_l k (r5.1, (r4.2.1.1, r5.2.2), (r4.2.2.1 ++ [r4.2.2.2.2]), (w64 (r4.2.2.2.1 + 1)))) none)) r →
        Ev (fun k => spec_WalkLoop_l k ((walkR o t n).2, (o, (walkR o t n).1), codesR o t n, (n : Int))) r := fun r Hr => by
      refine Ev.step (fun k => spec_WalkLoop_l.eq k (walkR o t n).2 o (walkR o t n).1 (codesR o t n) (n : Int)) (Ev.yes lt2 (Ev.bind c1 ?_))
      simp only [e1, hcl]
      exact Hr
    have impl : ∀ r, Ev (fun k => cond (mhas (K := ByteArray) (α := Int) (Sh.eqT .str) (seenR o t n) (keyR (walkR o t n))) (some (.inl ((mget (K := ByteArray) (α := Int) (Sh.eqT .str) (seenR o t n) (keyR (walkR o t n)) 0), (w64 ((n : Int) - (mget (K := ByteArray) (α := Int) (Sh.eqT .str) (seenR o t n) (keyR (walkR o t n)) 0))), true)))
        ((impl_Route_step k ((o, (walkR o t n).1), (walkR o t n).2)).bind fun r2 => impl_WalkLoop_l k (r2.1, (o, r2.2.2), (mput (K := ByteArray) (α := Int) (Sh.eqT .str) (seenR o t n) (keyR (walkR o t n)) (n : Int)), (w64 ((n : Int) + 1))))) r →
        Ev (fun k => impl_WalkLoop_l k ((walkR o t n).2, (o, (walkR o t n).1), seenR o t n, (n : Int))) r := fun r Hr =>
      Ev.step (fun k => impl_WalkLoop_l.eq k (walkR o t n).2 o (walkR o t n).1 (seenR o t n) (n : Int)) (Ev.yes lt1 (Ev.yes ft (Ev.bind kt Hr)))
    have hsg : ∀ i, i < n → (seenR o t n)[i]? = some (keyR (walkR o t i), (i : Int)) := fun i hi => range_get _ hi
    have hsm : ∀ e ∈ seenR o t n, ∃ i, i < n ∧ e.1 = keyR (walkR o t i) := fun e he => by
      obtain ⟨i, hi, rfl⟩ := List.mem_map.1 he
      exact ⟨i, List.mem_range.1 hi, rfl⟩
    obtain ⟨st1, st2⟩ := step_ev o _ Hn
    rcases finds_ev o t H n (by omega) with ⟨hne, hev⟩ | ⟨j, hj, hjn, hjl, hev⟩
    · have hnew : ∀ e ∈ seenR o t n, e.1 ≠ keyR (walkR o t n) := fun e he q => by
        obtain ⟨i, hi, e2⟩ := hsm e he
        rw [e2] at q
        exact hne i hi ((keyR_iff (walk_ok H i) Hn).1 q)
      obtain ⟨r, i1, i2, i3⟩ := loopR_ev m (n + 1) (by omega) (fun i i' h1 h2 => by
        by_cases h3 : i' = n
        · subst h3; exact hne i h1
        · exact hd i i' h1 (by omega))
      refine ⟨r, impl r (Ev.no (mhas_fresh (fun _ _ => seS_iff) hnew) (Ev.bind st1 ?_)), spec r (Ev.bind hev (Ev.yes (fits_of (by simp only [codesR, List.length_map, List.length_range]; omega)) (Ev.bind st2 ?_))), i3⟩
      · rw [mput_fresh (fun _ _ => seS_iff) _ hnew, seen_snoc, w64_succ (by omega)]
        exact i1
      · rw [codes_snoc, w64_succ (by omega)]
        exact i2
    · have hin : mhas (K := ByteArray) (α := Int) (Sh.eqT .str) (seenR o t n) (keyR (walkR o t n)) = true := mhas_there (fun _ _ => seS_iff) ⟨(keyR (walkR o t j), (j : Int)), List.mem_of_getElem? (hsg j hj), by rw [hjn]⟩
      have hget : mget (K := ByteArray) (α := Int) (Sh.eqT .str) (seenR o t n) (keyR (walkR o t n)) 0 = (j : Int) := mget_first (fun _ _ => seS_iff) (i := j) (by rw [hsg j hj, hjn]) (fun l hl e he q => by
        rw [hsg l (by omega)] at he
        have he := Option.some.inj he
        rw [← he] at q
        exact hjl l hl ((keyR_iff (walk_ok H l) Hn).1 q))
      have ew : w64 ((n : Int) - (j : Int)) = ((n - j : Nat) : Int) := by rw [w64_of (by omega) (by omega)]; omega
      rw [ew] at hev
      exact ⟨.inl ((j : Int), ((n - j : Nat) : Int), true), impl _ (Ev.yes hin (Ev.now' (by rw [hget, ew]))), spec _ (Ev.bind hev (Ev.now _)), .inr ⟨j, n, ⟨hj, by omega, hjn, hd⟩, rfl⟩⟩
end
theorem walkLoop_ev (o : OutR) (r : List Int) (a : Int) (hf : FitR o r) : ∃ x y ok, Ev (fun k => impl_WalkLoop k ((o, r), a)) (x, y, ok) ∧ Ev (fun k => spec_WalkLoop k ((o, r), a)) (x, y, ok) ∧
    (ok = true → OkR o (r, a) ∧ ∃ j n : Nat, MetR o (r, a) j n ∧ x = (j : Int) ∧ y = ((n - j : Nat) : Int)) := by
  by_cases H : OkR o (r, a)
  · have i1 := (isNode_ev o r hf a).isT H
    have s1 := (roNode_ev o r hf a).isT H
    obtain ⟨res, g1, g2, g3⟩ := loopR_ev o (r, a) H 3001 0 rfl (fun i i' h1 h2 => by omega)
    have i2 := own_ev o r hf
    have s2 := roOwn_ev o r hf
    rcases g3 with rfl | ⟨j, n, hm, rfl⟩
    · exact ⟨0, 0, false, Ev.step (fun k => impl_WalkLoop.eq k o r a) (Ev.bind i1 (Ev.no rfl (Ev.bind i2 (Ev.bind g1 (Ev.now _))))), Ev.step (fun k => spec_WalkLoop.eq k o r a) (Ev.bind s1 (Ev.no rfl (Ev.bind s2 (Ev.bind g2 (Ev.now _))))), nofun⟩
    · exact ⟨_, _, true, Ev.step (fun k => impl_WalkLoop.eq k o r a) (Ev.bind i1 (Ev.no rfl (Ev.bind i2 (Ev.bind g1 (Ev.now _))))), Ev.step (fun k => spec_WalkLoop.eq k o r a) (Ev.bind s1 (Ev.no rfl (Ev.bind s2 (Ev.bind g2 (Ev.now _))))), fun _ => ⟨H, j, n, hm, rfl, rfl⟩⟩
  · exact ⟨0, 0, false, Ev.step (fun k => impl_WalkLoop.eq k o r a) (Ev.bind ((isNode_ev o r hf a).isF H) (Ev.yes rfl (Ev.now _))), Ev.step (fun k => spec_WalkLoop.eq k o r a) (Ev.bind ((roNode_ev o r hf a).isF H) (Ev.yes rfl (Ev.now _))), nofun⟩
def SmallR (o : OutR) (r : List Int) : Prop := (1 ≤ o.length ∧ o.length ≤ 7) ∧ (1 ≤ r.length ∧ r.length ≤ 7) ∧ ∀ l ∈ o, l.length ≤ 4
def TinyR (o : OutR) (r : List Int) : Prop := o.length ≤ 8 ∧ r.length ≤ 7 ∧ ∀ l ∈ o, l.length ≤ 4
theorem TinyR.fit {o : OutR} {r : List Int} (h : TinyR o r) : FitR o r := ⟨by have := h.1; omega, by have := h.2.1; omega, fun l hl => by have := h.2.2 l hl; omega⟩
theorem rows_snoc {o : OutR} {l : List Int} (h : ∀ l ∈ o, l.length ≤ 4) (hl : l.length ≤ 4) : ∀ x ∈ o ++ [l], x.length ≤ 4 := fun x hx => by
  rcases List.mem_append.1 hx with hx | hx
  · exact h x hx
  · simp at hx; subst hx; exact hl
theorem ring_l_ev (n : Nat) (hn : 1 ≤ n ∧ n ≤ 10) (z : OutR × List Int) (r : List Int) : ∀ (m i : Nat) (o : OutR), i + m = n → o.length = i → (∀ l ∈ o, l.length ≤ 4) →
    ∃ o', Ev (fun k => spec_RingRoute_l k ((n : Int), z, (o, r), (i : Int))) (z, (o', r)) ∧ o'.length = n ∧ ∀ l ∈ o', l.length ≤ 4
  | 0, i, o, h, ho, hr => ⟨o, Ev.step (fun k => spec_RingRoute_l.eq k (n : Int) z.1 z.2 o r (i : Int)) (Ev.no (not_lt_nat (by omega)) (Ev.now _)), by omega, hr⟩
  | m + 1, i, o, h, ho, hr => by
    obtain ⟨o', g1, g2, g3⟩ := ring_l_ev n hn z r m (i + 1) (o ++ [[((w64 ((i : Int) + 1)).tmod (n : Int)), ((w64 ((w64 ((i : Int) + (n : Int))) - 1)).tmod (n : Int))]]) (by omega) (by simp [ho]) (rows_snoc hr (by simp))
    have hne : ((n : Int) != 0) = true := by rw [bne_iff_ne]; omega
    refine ⟨o', Ev.step (fun k => spec_RingRoute_l.eq k (n : Int) z.1 z.2 o r (i : Int)) (Ev.yes (lt_nat (by omega)) (Ev.yes hne (Ev.yes hne (Ev.yes (fits_of (by omega)) ?_)))), g2, g3⟩
    rw [← w64_succ (i := i) (by omega)] at g1
    exact g1
theorem line_l_ev (n : Nat) (hn : 1 ≤ n ∧ n ≤ 10) (z : OutR × List Int) (r : List Int) : ∀ (m i : Nat) (o : OutR), i + m = n → o.length = i → (∀ l ∈ o, l.length ≤ 4) →
    ∃ o', Ev (fun k => spec_LineRoute_l k ((n : Int), z, (o, r), (i : Int))) (z, (o', r)) ∧ o'.length = n ∧ ∀ l ∈ o', l.length ≤ 4
  | 0, i, o, h, ho, hr => ⟨o, Ev.step (fun k => spec_LineRoute_l.eq k (n : Int) z.1 z.2 o r (i : Int)) (Ev.no (not_lt_nat (by omega)) (Ev.now _)), by omega, hr⟩
  | m + 1, i, o, h, ho, hr => by
    have go : ∀ l : List Int, l.length ≤ 4 → ∃ o', Ev (fun k => spec_LineRoute_l k ((n : Int), z, (o ++ [l], r), (w64 ((i : Int) + 1)))) (z, (o', r)) ∧ o'.length = n ∧ ∀ l ∈ o', l.length ≤ 4 := fun l hl => by
      rw [w64_succ (by omega)]
      exact line_l_ev n hn z r m (i + 1) (o ++ [l]) (by omega) (by simp [ho]) (rows_snoc hr hl)
    have ft : fits (o.length + 1) 24 = true := fits_of (by omega)
    have st : ∀ (res : (OutR × List Int) × (OutR × List Int)), Ev (fun k => cond ((i : Int) == 0) (cond (fits (o.length + 1) 24) (spec_LineRoute_l k ((n : Int), z, (o ++ [[1]], r), (w64 ((i : Int) + 1)))) none) (cond ((i : Int) == (w64 ((n : Int) - 1))) (cond (fits (o.length + 1) 24) (spec_LineRoute_l k ((n : Int), z, (o ++ [[(w64 ((i : Int) - 1))]], r), (w64 ((i : Int) + 1)))) none) (cond (fits (o.length + 1) 24) (spec_LineRoute_l k ((n : Int), z, (o ++ [[(w64 ((i : Int) - 1)), (w64 ((i : Int) + 1))]], r), (w64 ((i : Int) + 1)))) none))) res →
        Ev (fun k => spec_LineRoute_l k ((n : Int), z, (o, r), (i : Int))) res := fun res Hr => Ev.step (fun k => spec_LineRoute_l.eq k (n : Int) z.1 z.2 o r (i : Int)) (Ev.yes (lt_nat (by omega)) Hr)
    cases h1 : ((i : Int) == 0) with
    | true =>
      obtain ⟨o', g1, g2⟩ := go [1] (by simp)
      exact ⟨o', st _ (Ev.yes h1 (Ev.yes ft g1)), g2⟩
    | false =>
      cases h2 : ((i : Int) == (w64 ((n : Int) - 1))) with
      | true =>
        obtain ⟨o', g1, g2⟩ := go [(w64 ((i : Int) - 1))] (by simp)
        exact ⟨o', st _ (Ev.no h1 (Ev.yes h2 (Ev.yes ft g1))), g2⟩
      | false =>
        obtain ⟨o', g1, g2⟩ := go [(w64 ((i : Int) - 1)), (w64 ((i : Int) + 1))] (by simp)
        exact ⟨o', st _ (Ev.no h1 (Ev.no h2 (Ev.yes ft g1))), g2⟩
theorem zn {n : Nat} (h : n ≤ 100) : (((decide ((0 : Int) ≤ (n : Int))) && (decide ((n : Int) ≤ (n : Int)))) && (fits (n : Int).toNat 8)) = true := by
  rw [le_two (by omega) (by omega), Int.toNat_natCast, fits_of (by omega)]; rfl
theorem ring_ev (n : Nat) (hn : 1 ≤ n ∧ n ≤ 7) : ∃ o r, Ev (fun k => spec_RingRoute k (n : Int)) ((o, r), true) ∧ SmallR o r := by
  obtain ⟨o', g1, g2, g3⟩ := ring_l_ev n (by omega) ([], []) (List.replicate n 0) n 0 [] (by omega) rfl (by simp)
  refine ⟨o', List.replicate n 0, Ev.step (fun k => spec_RingRoute.eq k (n : Int)) (Ev.bind ((l1In_ev (n : Int) 1 10).isT (by omega)) (Ev.no rfl (Ev.yes (zn (by omega)) ?_))), by omega, by rw [List.length_replicate]; omega, g3⟩
  rw [Int.toNat_natCast]
  exact Ev.bind g1 (Ev.now _)
theorem line_ev (n : Nat) (hn : 2 ≤ n ∧ n ≤ 7) : ∃ o r, Ev (fun k => spec_LineRoute k (n : Int)) ((o, r), true) ∧ SmallR o r := by
  obtain ⟨o', g1, g2, g3⟩ := line_l_ev n (by omega) ([], []) (List.replicate n 0) n 0 [] (by omega) rfl (by simp)
  refine ⟨o', List.replicate n 0, Ev.step (fun k => spec_LineRoute.eq k (n : Int)) (Ev.bind ((l1In_ev (n : Int) 2 10).isT (by omega)) (Ev.no rfl (Ev.yes (zn (by omega)) ?_))), by omega, by rw [List.length_replicate]; omega, g3⟩
  rw [Int.toNat_natCast]
  exact Ev.bind g1 (Ev.now _)
theorem CurOk.up {n m : Nat} {c : CurT} (h : CurOk n c) (hm : n ≤ m) (hb : m ≤ 1099511627776) : CurOk m c := ⟨h.1, ⟨h.2.1.1, by have := h.2.1.2; omega⟩, hb⟩
theorem list_l_ev (z : OutR × List Int) (N : Int) (o : OutR) (r : List Int) (i : Int) : ∀ (m n : Nat) (c : CurT) (l : List Int), CurOk n c → n + 2 * m + 100 ≤ 1099511627776 → l.length + m ≤ 4 →
    ∃ l' c', Ev (fun k => spec_l1Cur_sureRoute_l_l k (c, z, N, (o, r), i, l, (m : Int), ())) (c', z, N, (o, r), i, l', ()) ∧ l'.length = l.length + m ∧ CurOk (n + 2 * m) c'
  | 0, n, c, l, H, hn, hl => ⟨l, c, Ev.step (fun k => spec_l1Cur_sureRoute_l_l.eq k c.1 c.2.1 c.2.2 z.1 z.2 N o r i l _) (Ev.no rfl (Ev.now _)), rfl, H⟩
  | m + 1, n, c, l, H, hn, hl => by
    obtain ⟨v, c1, e1, _, _, H1⟩ := pick_ev n c H (by omega) N
    obtain ⟨l', c', g1, g2, g3⟩ := list_l_ev z N o r i m (n + 2) c1 (l ++ [v]) H1 (by omega) (by simp; omega)
    have em : w64 (((m + 1 : Nat) : Int) - 1) = (m : Int) := by rw [w64_of (by omega) (by omega)]; omega
    refine ⟨l', c', Ev.step (fun k => spec_l1Cur_sureRoute_l_l.eq k c.1 c.2.1 c.2.2 z.1 z.2 N o r i l _) (Ev.yes (decide_eq_true (by omega)) (Ev.bind e1 (Ev.yes (fits_of (by omega)) ?_))), by rw [g2]; simp; omega, by rw [show n + 2 * (m + 1) = n + 2 + 2 * m by omega]; exact g3⟩
    rw [em]
    exact g1
theorem nodes_l_ev (z : OutR × List Int) (N : Nat) (hN : N ≤ 7) : ∀ (m i n : Nat) (c : CurT) (o : OutR) (r : List Int), i + m = N → CurOk n c → n + 20 * m + 200 ≤ 1099511627776 → o.length = i → r.length = i → (∀ l ∈ o, l.length ≤ 4) →
    ∃ o' r' c', Ev (fun k => spec_l1Cur_sureRoute_l k (c, z, (N : Int), (o, r), (i : Int), ())) (z, (o', r'), c') ∧ o'.length = N ∧ r'.length = N ∧ (∀ l ∈ o', l.length ≤ 4) ∧ CurOk (n + 20 * m) c'
  | 0, i, n, c, o, r, h, H, hn, ho, hr, hl => ⟨o, r, c, Ev.step (fun k => spec_l1Cur_sureRoute_l.eq k c.1 c.2.1 c.2.2 z.1 z.2 (N : Int) o r (i : Int)) (Ev.no (not_lt_nat (by omega)) (Ev.now _)), by omega, by omega, hl, H⟩
  | m + 1, i, n, c, o, r, h, H, hn, ho, hr, hl => by
    obtain ⟨v, c1, e1, v0, v1, H1⟩ := pick_ev n c H (by omega) 3
    have v1 := v1 (by omega)
    obtain ⟨q, hq⟩ : ∃ q : Nat, w64 (1 + v) = (q : Int) ∧ q ≤ 3 := ⟨(1 + v).toNat, by rw [w64_of (by omega) (by omega)]; omega, by omega⟩
    obtain ⟨l, c2, e2, hll, H2⟩ := list_l_ev z (N : Int) o r (i : Int) q (n + 2) c1 [] H1 (by omega) (by simp; omega)
    obtain ⟨y, c3, e3, _, _, H3⟩ := pick_ev (n + 2 + 2 * q) c2 H2 (by omega) (l.length : Int)
    obtain ⟨o', r', c', g1, g2, g3, g4, g5⟩ := nodes_l_ev z N hN m (i + 1) (n + 20) c3 (o ++ [l]) (r ++ [y]) (by omega) (H3.up (by omega) (by omega)) (by omega) (by simp [ho]) (by simp [hr]) (rows_snoc hl (by simp at hll; omega))
    refine ⟨o', r', c', Ev.step (fun k => spec_l1Cur_sureRoute_l.eq k c.1 c.2.1 c.2.2 z.1 z.2 (N : Int) o r (i : Int)) (Ev.yes (lt_nat (by omega)) (Ev.bind e1 ?_)), g2, g3, g4, by rw [show n + 20 * (m + 1) = n + 20 + 20 * m by omega]; exact g5⟩
    rw [hq.1]
    refine Ev.bind e2 (Ev.yes (fits_of (by simp only; omega)) (Ev.bind e3 (Ev.yes (fits_of (by simp only; omega)) ?_)))
    rw [w64_succ (by omega)]
    exact g1
theorem sureRoute_ev (n : Nat) (c : CurT) (H : CurOk n c) (hn : n + 1000 ≤ 1099511627776) : ∃ o r c', Ev (fun k => spec_l1Cur_sureRoute k c) ((o, r), c') ∧ SmallR o r ∧ CurOk (n + 200) c' := by
  obtain ⟨v, c1, e1, v0, v1, H1⟩ := pick_ev n c H (by omega) 5
  have v1 := v1 (by omega)
  obtain ⟨w, c2, e2, w0, w1, H2⟩ := pick_ev (n + 2) c1 H1 (by omega) 4
  obtain ⟨N, hN⟩ : ∃ N : Nat, w64 (1 + v) = (N : Int) ∧ 1 ≤ N ∧ N ≤ 5 := ⟨(1 + v).toNat, by rw [w64_of (by omega) (by omega)]; omega, by omega, by omega⟩
  obtain ⟨hN, hN1, hN5⟩ := hN
  have st : ∀ res, Ev (fun k => cond (w == 0) ((spec_RingRoute k (N : Int)).bind fun r3 => some (r3.1, c2)) (cond (w == 1) ((spec_LineRoute k (w64 ((N : Int) + 1))).bind fun r4 => some (r4.1, c2)) ((spec_l1Cur_sureRoute_l k (c2, ([], []), (N : Int), ([], []), 0, ())).bind fun r5 => some r5.2))) res → Ev (fun k => spec_l1Cur_sureRoute k c) res := fun res Hr => by
    refine Ev.step (fun k => spec_l1Cur_sureRoute.eq k c.1 c.2.1 c.2.2) (Ev.bind e1 (Ev.bind e2 ?_))
    simp only [hN]
    exact Hr
  cases h1 : (w == 0) with
  | true =>
    obtain ⟨o, r, g1, g2⟩ := ring_ev N (by omega)
    exact ⟨o, r, c2, st _ (Ev.yes h1 (Ev.bind g1 (Ev.now _))), g2, H2.up (by omega) (by omega)⟩
  | false =>
    cases h2 : (w == 1) with
    | true =>
      obtain ⟨o, r, g1, g2⟩ := line_ev (N + 1) (by omega)
      refine ⟨o, r, c2, st _ (Ev.no h1 (Ev.yes h2 ?_)), g2, H2.up (by omega) (by omega)⟩
      rw [w64_succ (by omega)]
      exact Ev.bind g1 (Ev.now _)
    | false =>
      obtain ⟨o', r', c', g1, g2, g3, g4, g5⟩ := nodes_l_ev ([], []) N (by omega) N 0 (n + 2 + 2) c2 [] [] (by omega) H2 (by omega) rfl rfl (by simp)
      exact ⟨o', r', c', st _ (Ev.no h1 (Ev.no h2 (Ev.bind g1 (Ev.now _)))), ⟨by omega, by omega, g4⟩, g5.up (by omega) (by omega)⟩
theorem route_ev (n : Nat) (c : CurT) (H : CurOk n c) (hn : n + 1000 ≤ 1099511627776) : ∃ o r c', Ev (fun k => spec_l1Cur_route k c) ((o, r), c') ∧ TinyR o r ∧ CurOk (n + 300) c' := by
  obtain ⟨o, r, c1, e1, hs, H1⟩ := sureRoute_ev n c H hn
  obtain ⟨s1, s2, s3⟩ := hs
  obtain ⟨v, c2, e2, _, _, H2⟩ := pick_ev (n + 200) c1 H1 (by omega) 18
  have st : ∀ res, Ev (fun k => cond (v == 0) ((spec_l1Cur_among k (c2, [(-1), 0, 4, 4611686018427387904])).bind fun r3 => cond (inB 0 r.length) (some ((o, (r.set 0 r3.1)), r3.2)) none)
      (cond (v == 1) ((spec_l1Cur_among k (c2, [(-1), 0, (o.length : Int)])).bind fun r4 => cond (inB 0 o.length) (some (((List.set o 0 ([r4.1])), r), r4.2)) none)
      (cond (v == 2) (cond (fits (o.length + 1) 24) (some (((o ++ [[]]), r), c2)) none) (cond (v == 3) (some (([], []), c2)) (some ((o, r), c2)))))) res → Ev (fun k => spec_l1Cur_route k c) res := fun res Hr =>
    Ev.step (fun k => spec_l1Cur_route.eq k c.1 c.2.1 c.2.2) (Ev.bind e1 (Ev.bind e2 Hr))
  have i1 : inB 0 r.length = true := inB_of (by omega) (by omega)
  have i2 : inB 0 o.length = true := inB_of (by omega) (by omega)
  cases h0 : (v == 0) with
  | true =>
    obtain ⟨x, c3, e3, _, H3⟩ := among_ev (n + 202) c2 H2 (by omega) [(-1), 0, 4, 4611686018427387904] (by simp)
    exact ⟨o, r.set 0 x, c3, st _ (Ev.yes h0 (Ev.bind e3 (Ev.yes i1 (Ev.now _)))), ⟨by omega, by rw [List.length_set]; omega, s3⟩, H3.up (by omega) (by omega)⟩
  | false =>
    cases h1 : (v == 1) with
    | true =>
      obtain ⟨x, c3, e3, _, H3⟩ := among_ev (n + 202) c2 H2 (by omega) [(-1), 0, (o.length : Int)] (by simp)
      refine ⟨List.set o 0 [x], r, c3, st _ (Ev.no h0 (Ev.yes h1 (Ev.bind e3 (Ev.yes i2 (Ev.now _))))), ⟨by rw [List.length_set]; omega, by omega, fun l hl => ?_⟩, H3.up (by omega) (by omega)⟩
      obtain ⟨k, hk, rfl⟩ := List.mem_iff_getElem.1 hl
      rw [List.getElem_set]
      split
      · simp
      · exact s3 _ (List.getElem_mem _)
    | false =>
      cases h2 : (v == 2) with
      | true => exact ⟨o ++ [[]], r, c2, st _ (Ev.no h0 (Ev.no h1 (Ev.yes h2 (Ev.yes (fits_of (by omega)) (Ev.now _))))), ⟨by simp; omega, by omega, rows_snoc s3 (by simp)⟩, H2.up (by omega) (by omega)⟩
      | false =>
        cases h3 : (v == 3) with
        | true => exact ⟨[], [], c2, st _ (Ev.no h0 (Ev.no h1 (Ev.no h2 (Ev.yes h3 (Ev.now _))))), ⟨by simp, by simp, by simp⟩, H2.up (by omega) (by omega)⟩
        | false => exact ⟨o, r, c2, st _ (Ev.no h0 (Ev.no h1 (Ev.no h2 (Ev.no h3 (Ev.now _))))), ⟨by omega, by omega, s3⟩, H2.up (by omega) (by omega)⟩
theorem drawStep_ev (code : List Int) (hc : ∀ x ∈ code, 0 ≤ x ∧ x ≤ 255) : ∃ o r a, Ev (fun k => spec_DrawStepRoute k code) ((o, r), a) ∧ TinyR o r := by
  obtain ⟨o, r, c1, e1, ht, H1⟩ := route_ev 0 _ (CurOk.start hc) (by omega)
  obtain ⟨a, c2, e2, _, _, H2⟩ := pick_ev (0 + 300) c1 H1 (by omega) (w64 ((o.length : Int) + 2))
  obtain ⟨b, c3, e3, _, _, H3⟩ := pick_ev (0 + 302) c2 H2 (by omega) 12
  exact ⟨o, r, _, Ev.step (fun k => spec_DrawStepRoute.eq k code) (Ev.bind e1 (Ev.bind e2 (Ev.bind e3 (Ev.now _)))), ht⟩
end Go.Proofs.YtiaagflfiphioaaDoorS
