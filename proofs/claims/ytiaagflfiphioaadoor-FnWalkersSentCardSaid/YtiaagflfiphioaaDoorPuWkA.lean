/- Walkers: sent to ends, nodes that they can come to. -/
import Derived.Test.YtiaagflfiphioaaDoorMgRo
namespace Go.Proofs.YtiaagflfiphioaaDoorS
open Go
set_option linter.unusedVariables false
set_option linter.unusedSimpArgs false
theorem indexAt_ev (l : List Int) (hl : l.length ≤ 1048576) (v : Int) : (v ∉ l ∧ Ev (fun k => slices_Index k (l, v)) (-1)) ∨ ∃ j : Nat, l[j]? = some v ∧ (∀ i, i < j → l[i]? ≠ some v) ∧ Ev (fun k => slices_Index k (l, v)) (j : Int) := by
  have srch := Ev.find l hl (fun x => v = x) (fun k i => slices_Index_l k (l, v, (l.length : Int), i)) (fun i => .inl (i : Int)) (.inr ())
    (fun i x hx r h1 h2 => by
      have hi := (List.getElem?_eq_some_iff.1 hx).1
      refine Ev.step (fun k => slices_Index_l.eq k l v (l.length : Int) (i : Int)) (Ev.yes (lt_nat hi) (Ev.yes (inB_nat hi) ?_))
      rw [Int.toNat_natCast, getD_at hx]
      exact evGoB beq_iff_eq (fun h => Ev.now' (h1 h).symm) h2)
    (Ev.step (fun k => slices_Index_l.eq k l v (l.length : Int) (l.length : Int)) (Ev.no (not_lt_nat (Nat.lt_irrefl _)) (Ev.now _)))
  rcases srch with ⟨h1, h2⟩ | ⟨j, x, hx, rfl, hf, h2⟩
  · exact .inl ⟨fun h => h1 v h rfl, Ev.step (fun k => slices_Index.eq k l v) (Ev.bind h2 (Ev.now _))⟩
  · exact .inr ⟨j, hx, fun i hi e => hf i v hi e rfl, Ev.step (fun k => slices_Index.eq k l v) (Ev.bind h2 (Ev.now _))⟩
theorem isNodes_ev (o : OutR) (r : List Int) (hf : FitR o r) (l : List Int) (hl : l.length ≤ 1048576) : EvB (fun k => impl_isNode k ((o, r), l)) (RouteOk o r ∧ ∀ x ∈ l, AtR o x) := by
  refine EvB.step (fun k => impl_isNode.eq k o r l) ?_
  have ew : w64 ((o.length : Int) - 1) = (o.length : Int) - 1 := by obtain ⟨f1, _⟩ := hf; exact w64_of (by omega) (by omega)
  rw [ew]
  exact EvB.and (isRoute_ev o r hf) fun _ => (areWithin_ev l hl ((o.length : Int) - 1)).ret
/-! ### Paths -/
def PathR (o : OutR) (a : Int) : Nat → Int → Prop
  | 0, b => b = a
  | n + 1, b => ∃ c, PathR o a n c ∧ b ∈ rowN o c.toNat
theorem walk_path {o : OutR} {t : StR} (H : OkR o t) : ∀ n, PathR o t.2 n (walkR o t n).2
  | 0 => rfl
  | n + 1 => by
    obtain ⟨a, l, x, y, g1, g2, g3, g4, g5, g6, g7, g8, g9, g10, g11, g12, g13⟩ := okR_parts (walk_ok H n)
    refine ⟨(walkR o t n).2, walk_path H n, ?_⟩
    show (stpR o (walkR o t n)).2 ∈ _
    rw [g13, g1, Int.toNat_natCast, g11]
    exact List.mem_of_getElem? g9
/-- A walker comes to one of some ends with its step j, not before. -/
def HitR (o : OutR) (t : StR) (ends : List Int) (j : Nat) : Prop := 1 ≤ j ∧ j ≤ 3000 ∧ (walkR o t j).2 ∈ ends ∧ ∀ i, 1 ≤ i → i < j → (walkR o t i).2 ∉ ends
section
variable (o : OutR) (t : StR) (H : OkR o t) (ends : List Int) (hl : ends.length ≤ 1048576)
include H hl
theorem roTo_l_ev : ∀ (m i : Nat), i + m = 3000 → (∀ q, 1 ≤ q → q ≤ i → (walkR o t q).2 ∉ ends) →
    (∃ j, HitR o t ends j ∧ Ev (fun k => spec_roTo_l k ((walkR o t i).2, ends, (o, (walkR o t i).1), ((i + 1 : Nat) : Int), ((), ()))) (.inl ((j : Int), (walkR o t j).2, (o, (walkR o t j).1)))) ∨
    ((∀ q, 1 ≤ q → q ≤ 3000 → (walkR o t q).2 ∉ ends) ∧ Ev (fun k => spec_roTo_l k ((walkR o t i).2, ends, (o, (walkR o t i).1), ((i + 1 : Nat) : Int), ((), ()))) (.inr (o, (walkR o t 3000).1)))
  | 0, i, h, hq => by
    obtain rfl : i = 3000 := by omega
    exact .inr ⟨hq, Ev.step (fun k => spec_roTo_l.eq k (walkR o t 3000).2 ends o (walkR o t 3000).1 ((3000 + 1 : Nat) : Int)) (Ev.no rfl (Ev.now _))⟩
  | m + 1, i, h, hq => by
    have st := (step_ev o _ (walk_ok H i)).2
    have yes : decide (((i + 1 : Nat) : Int) ≤ 3000) = true := decide_eq_true (by omega)
    by_cases hm : (walkR o t (i + 1)).2 ∈ ends
    · exact .inl ⟨i + 1, ⟨by omega, by omega, hm, fun q h1 h2 => hq q h1 (by omega)⟩, Ev.step (fun k => spec_roTo_l.eq k (walkR o t i).2 ends o (walkR o t i).1 ((i + 1 : Nat) : Int)) (Ev.yes yes (Ev.bind st (Ev.bind ((l1Has_ev ends hl _).isT hm) (Ev.yes rfl (Ev.now _)))))⟩
    · have hq' : ∀ q, 1 ≤ q → q ≤ i + 1 → (walkR o t q).2 ∉ ends := fun q h1 h2 => by
        by_cases e : q = i + 1
        · rw [e]; exact hm
        · exact hq q h1 (by omega)
      have go : ∀ res, Ev (fun k => spec_roTo_l k ((walkR o t (i + 1)).2, ends, (o, (walkR o t (i + 1)).1), ((i + 1 + 1 : Nat) : Int), ((), ()))) res → Ev (fun k => spec_roTo_l k ((walkR o t i).2, ends, (o, (walkR o t i).1), ((i + 1 : Nat) : Int), ((), ()))) res := fun res Hr => by
        refine Ev.step (fun k => spec_roTo_l.eq k (walkR o t i).2 ends o (walkR o t i).1 ((i + 1 : Nat) : Int)) (Ev.yes yes (Ev.bind st (Ev.bind ((l1Has_ev ends hl _).isF hm) (Ev.no rfl ?_))))
        rw [w64_succ (by omega)]
        exact Hr
      rcases roTo_l_ev m (i + 1) (by omega) hq' with ⟨j, h1, h2⟩ | ⟨h1, h2⟩
      · exact .inl ⟨j, h1, go _ h2⟩
      · exact .inr ⟨h1, go _ h2⟩
theorem roTo_ev : (∃ j, HitR o t ends j ∧ Ev (fun k => spec_roTo k ((o, t.1), t.2, ends)) (((j : Int), (walkR o t j).2), (o, (walkR o t j).1))) ∨
    ((∀ q, 1 ≤ q → q ≤ 3000 → (walkR o t q).2 ∉ ends) ∧ Ev (fun k => spec_roTo k ((o, t.1), t.2, ends)) ((0, 0), (o, (walkR o t 3000).1))) := by
  rcases roTo_l_ev o t H ends hl 3000 0 (by omega) (fun q h1 h2 => by omega) with ⟨j, h1, h2⟩ | ⟨h1, h2⟩
  · exact .inl ⟨j, h1, Ev.step (fun k => spec_roTo.eq k o t.1 t.2 ends) (Ev.bind h2 (Ev.now _))⟩
  · exact .inr ⟨h1, Ev.step (fun k => spec_roTo.eq k o t.1 t.2 ends) (Ev.bind h2 (Ev.now _))⟩
theorem sendOne_ev (a : Int) (out : List Int) (C c : Int) : ∀ (m i : Nat), i + m = 3000 → (∀ q, 1 ≤ q → q ≤ i → (walkR o t q).2 ∉ ends) →
    (∃ (j idx : Nat), HitR o t ends j ∧ ends[idx]? = some (walkR o t j).2 ∧ Ev (fun k => impl_SendWalkers_l_l k (a, ends, (o, (walkR o t i).1), out, (walkR o t i).2, (-1), (i : Int), C, c)) (.inr (a, ends, (o, (walkR o t j).1), out, (idx : Int), C, c))) ∨
    ((∀ q, 1 ≤ q → q ≤ 3000 → (walkR o t q).2 ∉ ends) ∧ Ev (fun k => impl_SendWalkers_l_l k (a, ends, (o, (walkR o t i).1), out, (walkR o t i).2, (-1), (i : Int), C, c)) (.inl ([], false)))
  | 0, i, h, hq => by
    obtain rfl : i = 3000 := by omega
    exact .inr ⟨hq, Ev.step (fun k => impl_SendWalkers_l_l.eq k a ends o (walkR o t 3000).1 out (walkR o t 3000).2 (-1) ((3000 : Nat) : Int) C c) (Ev.yes rfl (Ev.yes rfl (Ev.now _)))⟩
  | m + 1, i, h, hq => by
    have st := (step_ev o _ (walk_ok H i)).1
    have no : ((i : Int) == 3000) = false := beq_eq_false_iff_ne.2 (by omega)
    rcases indexAt_ev ends hl (walkR o t (i + 1)).2 with ⟨hm, ei⟩ | ⟨idx, g1, _, ei⟩
    · have hq' : ∀ q, 1 ≤ q → q ≤ i + 1 → (walkR o t q).2 ∉ ends := fun q h1 h2 => by
        by_cases e : q = i + 1
        · rw [e]; exact hm
        · exact hq q h1 (by omega)
      have go : ∀ res, Ev (fun k => impl_SendWalkers_l_l k (a, ends, (o, (walkR o t (i + 1)).1), out, (walkR o t (i + 1)).2, (-1), ((i + 1 : Nat) : Int), C, c)) res → Ev (fun k => impl_SendWalkers_l_l k (a, ends, (o, (walkR o t i).1), out, (walkR o t i).2, (-1), (i : Int), C, c)) res := fun res Hr => by
        refine Ev.step (fun k => impl_SendWalkers_l_l.eq k a ends o (walkR o t i).1 out (walkR o t i).2 (-1) (i : Int) C c) (Ev.yes rfl (Ev.no no (Ev.bind st (Ev.bind ei ?_))))
        rw [w64_succ (by omega)]
        exact Hr
      rcases sendOne_ev a out C c m (i + 1) (by omega) hq' with ⟨j, idx, h1, h2, h3⟩ | ⟨h1, h2⟩
      · exact .inl ⟨j, idx, h1, h2, go _ h3⟩
      · exact .inr ⟨h1, go _ h2⟩
    · refine .inl ⟨i + 1, idx, ⟨by omega, by omega, List.mem_of_getElem? g1, fun q h1 h2 => hq q h1 (by omega)⟩, g1, Ev.step (fun k => impl_SendWalkers_l_l.eq k a ends o (walkR o t i).1 out (walkR o t i).2 (-1) (i : Int) C c) (Ev.yes rfl (Ev.no no (Ev.bind st (Ev.bind ei ?_))))⟩
      exact Ev.step (fun k => impl_SendWalkers_l_l.eq k a ends o (walkR o t (i + 1)).1 out (walkR o t (i + 1)).2 (idx : Int) (w64 ((i : Int) + 1)) C c) (Ev.no (decide_eq_false (by omega)) (Ev.now _))
end
theorem hit_one {o : OutR} {t : StR} {ends : List Int} {i j : Nat} (h1 : HitR o t ends i) (h2 : HitR o t ends j) : i = j := by
  rcases Nat.lt_trichotomy i j with h | h | h
  · exact absurd h1.2.2.1 (h2.2.2.2 i h1.1 h)
  · exact h
  · exact absurd h2.2.2.1 (h1.2.2.2 j h2.1 h)
/-! ### All walkers -/
def DistR (l : List Int) : Prop := ∀ (i j : Nat) (x : Int), l[i]? = some x → l[j]? = some x → i = j
def InvS (o : OutR) (a : Int) (ends out : List Int) (c : Nat) : Prop := out.length = ends.length ∧ out.sum = (c : Int) ∧ ∀ (i : Nat) (x : Int), out[i]? = some x → (0 ≤ x ∧ x ≤ (c : Int)) ∧ (0 < x → ∃ n e, ends[i]? = some e ∧ PathR o a n e)
theorem sum_set : ∀ {l : List Int} {i : Nat} {x y : Int}, l[i]? = some x → (l.set i y).sum = l.sum + (y - x)
  | [], i, x, y, h => by simp at h
  | z :: l, 0, x, y, h => by
    have h : z = x := by simpa using h
    subst h
    show (y :: l).sum = (z :: l).sum + _
    rw [List.sum_cons, List.sum_cons]
    omega
  | z :: l, i + 1, x, y, h => by
    have ih := sum_set (l := l) (i := i) (x := x) (y := y) (by simpa using h)
    show (z :: l.set i y).sum = (z :: l).sum + _
    rw [List.sum_cons, List.sum_cons, ih]
    omega
section
variable (o : OutR) (a : Int) (ends : List Int) (he : ends.length ≤ 10) (hd : DistR ends)
include he hd
theorem bump_l_ev (w : Int) (r out : List Int) (idx : Nat) (e v : Int) (h1 : ends[idx]? = some e) (h2 : out[idx]? = some v) (hl : out.length = ends.length) (hv : 0 ≤ v ∧ v ≤ 1000) : ∀ (m i : Nat), i + m = ends.length →
    Ev (fun k => spec_SendWalkers_l_2_l k (a, ends, w, (o, r), (if idx < i then out.set idx (v + 1) else out), e, (), (ends.length : Int), (i : Int))) (a, ends, w, (o, r), out.set idx (v + 1))
  | 0, i, h => by
    have hidx := (List.getElem?_eq_some_iff.1 h1).1
    rw [if_pos (by omega)]
    exact Ev.step (fun k => spec_SendWalkers_l_2_l.eq k a ends w o r _ e (ends.length : Int) (i : Int)) (Ev.no (not_lt_nat (by omega)) (Ev.now _))
  | m + 1, i, h => by
    have ih := bump_l_ev w r out idx e v h1 h2 hl hv m (i + 1) (by omega)
    obtain ⟨x, hx⟩ := nat_list (l := ends) (i := i) (by omega)
    refine Ev.step (fun k => spec_SendWalkers_l_2_l.eq k a ends w o r _ e (ends.length : Int) (i : Int)) (Ev.yes (lt_nat (by omega)) (Ev.yes (inB_nat (by omega)) ?_))
    rw [Int.toNat_natCast, getD_at hx, w64_succ (by omega)]
    by_cases hi : i = idx
    · subst hi
      obtain rfl : x = e := by rw [hx] at h1; exact Option.some.inj h1
      rw [if_pos (by omega)] at ih
      rw [if_neg (by omega), getD_at h2, w64_of (n := v + 1) (by omega) (by omega)]
      exact Ev.yes (beq_self_eq_true _) (Ev.yes (inB_nat (by omega)) (Ev.yes (inB_nat (by omega)) ih))
    · have hne : (x == e) = false := beq_eq_false_iff_ne.2 fun q => hi (hd i idx x hx (by rw [q]; exact h1))
      have e2 : (if idx < i + 1 then out.set idx (v + 1) else out) = (if idx < i then out.set idx (v + 1) else out) := by
        by_cases q : idx < i
        · rw [if_pos q, if_pos (by omega)]
        · rw [if_neg q, if_neg (by omega)]
      rw [e2] at ih
      exact Ev.no hne ih
theorem send_ev : ∀ (m c : Nat) (r out : List Int), OkR o (r, a) → c + m ≤ 100 → InvS o a ends out c →
    (∃ out', InvS o a ends out' (c + m) ∧ Ev (fun k => impl_SendWalkers_l k (a, ends, (o, r), out, ((c + m : Nat) : Int), (c : Int))) (.inr out') ∧ Ev (fun k => spec_SendWalkers_l_2 k (a, ends, (m : Int), (o, r), out)) (.inr out')) ∨
    (Ev (fun k => impl_SendWalkers_l k (a, ends, (o, r), out, ((c + m : Nat) : Int), (c : Int))) (.inl ([], false)) ∧ Ev (fun k => spec_SendWalkers_l_2 k (a, ends, (m : Int), (o, r), out)) (.inl ([], false)))
  | 0, c, r, out, H, hc, hi => .inl ⟨out, hi, Ev.step (fun k => impl_SendWalkers_l.eq k a ends o r out ((c + 0 : Nat) : Int) (c : Int)) (Ev.no (decide_eq_false (by omega)) (Ev.now _)), Ev.step (fun k => spec_SendWalkers_l_2.eq k a ends _ o r out) (Ev.no rfl (Ev.now _))⟩
  | m + 1, c, r, out, H, hc, hi => by
    have y1 : decide ((c : Int) < ((c + (m + 1) : Nat) : Int)) = true := decide_eq_true (by omega)
    have y2 : decide (((m + 1 : Nat) : Int) > 0) = true := decide_eq_true (by omega)
    have hle : ends.length ≤ 1048576 := by omega
    rcases sendOne_ev o (r, a) H ends hle a out ((c + (m + 1) : Nat) : Int) (c : Int) 3000 0 (by omega) (fun q h1 h2 => by omega) with ⟨j, idx, h1, h2, h3⟩ | ⟨h1, h2⟩
    · rcases roTo_ev o (r, a) H ends hle with ⟨j', g1, g2⟩ | ⟨g1, g2⟩
      · obtain rfl := hit_one h1 g1
        have hidx := (List.getElem?_eq_some_iff.1 h2).1
        obtain ⟨i1, i2, i3⟩ := hi
        obtain ⟨v, hv⟩ := nat_list (l := out) (i := idx) (by omega)
        obtain ⟨v1, v2⟩ := i3 idx v hv
        have H' : OkR o ((walkR o (r, a) j).1, a) := ⟨(walk_ok H j).1, H.2⟩
        have inv : InvS o a ends (out.set idx (v + 1)) (c + 1) := by
          refine ⟨by rw [List.length_set]; exact i1, by rw [sum_set hv, i2]; omega, fun q x hx => ?_⟩
          by_cases e : q = idx
          · subst e
            rw [List.getElem?_set_self (by omega)] at hx
            obtain rfl := Option.some.inj hx
            exact ⟨by omega, fun _ => ⟨j, _, h2, walk_path H j⟩⟩
          · rw [List.getElem?_set_ne (Ne.symm e)] at hx
            obtain ⟨k1, k2⟩ := i3 q x hx
            exact ⟨by omega, k2⟩
        have hb : inB (idx : Int) out.length = true := inB_nat (by omega)
        have go1 : ∀ res, Ev (fun k => impl_SendWalkers_l k (a, ends, (o, (walkR o (r, a) j).1), out.set idx (v + 1), ((c + (m + 1) : Nat) : Int), ((c + 1 : Nat) : Int))) res → Ev (fun k => impl_SendWalkers_l k (a, ends, (o, r), out, ((c + (m + 1) : Nat) : Int), (c : Int))) res := fun res Hr => by
          refine Ev.step (fun k => impl_SendWalkers_l.eq k a ends o r out ((c + (m + 1) : Nat) : Int) (c : Int)) (Ev.yes y1 (Ev.bind h3 (Ev.yes hb (Ev.yes hb ?_))))
          simp only [Int.toNat_natCast, getD_at hv]
          rw [w64_of (n := v + 1) (by omega) (by omega), w64_succ (by omega)]
          exact Hr
        have go2 : ∀ res, Ev (fun k => spec_SendWalkers_l_2 k (a, ends, (m : Int), (o, (walkR o (r, a) j).1), out.set idx (v + 1))) res → Ev (fun k => spec_SendWalkers_l_2 k (a, ends, ((m + 1 : Nat) : Int), (o, r), out)) res := fun res Hr => by
          have bu := bump_l_ev o a ends he hd ((m + 1 : Nat) : Int) (walkR o (r, a) j).1 out idx (walkR o (r, a) j).2 v h2 hv i1 (by omega) ends.length 0 (by omega)
          rw [if_neg (by omega)] at bu
          have hj0 : ((j : Int) == 0) = false := beq_eq_false_iff_ne.2 (by have := h1.1; omega)
          have em : w64 (((m + 1 : Nat) : Int) - 1) = (m : Int) := by rw [w64_of (by omega) (by omega)]; omega
          refine Ev.step (fun k => spec_SendWalkers_l_2.eq k a ends ((m + 1 : Nat) : Int) o r out) (Ev.yes y2 (Ev.bind g2 (Ev.no hj0 (Ev.bind bu ?_))))
          simp only [em]
          exact Hr
        have ih := send_ev m (c + 1) (walkR o (r, a) j).1 (out.set idx (v + 1)) H' (by omega) inv
        rw [show c + 1 + m = c + (m + 1) by omega] at ih
        rcases ih with ⟨out', k1, k2, k3⟩ | ⟨k1, k2⟩
        · exact .inl ⟨out', k1, go1 _ k2, go2 _ k3⟩
        · exact .inr ⟨go1 _ k1, go2 _ k2⟩
      · exact absurd h1.2.2.1 (g1 j h1.1 h1.2.1)
    · rcases roTo_ev o (r, a) H ends hle with ⟨j', g1, g2⟩ | ⟨g1, g2⟩
      · exact absurd g1.2.2.1 (h1 j' g1.1 g1.2.1)
      · exact .inr ⟨Ev.step (fun k => impl_SendWalkers_l.eq k a ends o r out ((c + (m + 1) : Nat) : Int) (c : Int)) (Ev.yes y1 (Ev.bind h2 (Ev.now _))), Ev.step (fun k => spec_SendWalkers_l_2.eq k a ends ((m + 1 : Nat) : Int) o r out) (Ev.yes y2 (Ev.bind g2 (Ev.yes rfl (Ev.now _))))⟩
end
end Go.Proofs.YtiaagflfiphioaaDoorS
