/- Scenes and tables: what is one, and a step of one. -/
import Derived.Test.YtdgfpdbfcpbgfaaPuScene
namespace Go.Proofs.YtdgfpdbfcpbgfaaS
open Go
set_option linter.unusedVariables false
set_option linter.unusedSimpArgs false

theorem within_ev (n lo hi : Int) : EvB (fun k => impl_within k (n, lo, hi)) (lo ≤ n ∧ n ≤ hi) :=
  EvB.step (fun k => impl_within.eq k n lo hi) (EvB.ifT decide_eq_true_iff fun _ => EvB.val decide_eq_true_iff)
theorem l1In_ev (n lo hi : Int) : EvB (fun k => spec_l1In k (n, lo, hi)) (lo ≤ n ∧ n ≤ hi) :=
  EvB.step (fun k => spec_l1In.eq k n lo hi) (EvB.ifT decide_eq_true_iff fun _ => EvB.val decide_eq_true_iff)
theorem slices_Clone_ev (a : List Rw) (h : a.length ≤ 1048576) : Ev (fun k => slices_Clone k a) a :=
  Ev.step (fun k => (slices_Clone.eq k a).trans (cloneB_some (s := .pair (.int .i64) (.pair .str (.int .i64))) 32 a (by show a.length * 32 ≤ _; omega))) (Ev.now _)
/-! ### Turns -/
def Sign (t : ByteArray) : Prop := ∃ c : UInt8, t.data.toList = [c] ∧ (c = 76 ∨ c = 82 ∨ c = 78 ∨ c = 85)
theorem u8_eq {c : UInt8} {n : Nat} (hn : n < 256) : (((c.toNat : Int)) == (n : Int)) = true ↔ c = UInt8.ofNat n := by
  rw [beq_iff_eq]
  constructor
  · intro h
    apply UInt8.toNat_inj.1
    rw [toNat_ofNat8 hn]
    omega
  · intro h
    rw [h, toNat_ofNat8 hn]
theorem size_one {t : ByteArray} : t.size = 1 ↔ ∃ c, t.data.toList = [c] := by rw [size_list, List.length_eq_one_iff]
theorem contains_ev {t : ByteArray} {c : UInt8} (h : t.data.toList = [c]) : EvB (fun k => strings_Contains k (bs [76, 82, 78, 85], t)) (c = 76 ∨ c = 82 ∨ c = 78 ∨ c = 85) := by
  refine EvB.step (fun k => strings_Contains.eq k (bs [76, 82, 78, 85], t)) ?_
  show EvB (fun _ => strContains1 (bs [76, 82, 78, 85]) t) _
  have e : strContains1 (bs [76, 82, 78, 85]) t = some (decide (0 ≤ Lib.indexByte [76, 82, 78, 85] c)) := by
    unfold strContains1
    rw [h]
    rfl
  rw [e]
  refine EvB.val ?_
  rw [decide_eq_true_iff]
  simp only [Lib.indexByte]
  by_cases h1 : (76 : UInt8) = c
  · subst h1; simp
  · by_cases h2 : (82 : UInt8) = c
    · subst h2; simp
    · by_cases h3 : (78 : UInt8) = c
      · subst h3; simp
      · by_cases h4 : (85 : UInt8) = c
        · subst h4; simp
        · simp [h1, h2, h3, h4, Ne.symm h1, Ne.symm h2, Ne.symm h3, Ne.symm h4]
theorem woRule_ev {t : ByteArray} {c : UInt8} (h : t.data.toList = [c]) : EvB (fun k => spec_woRule k t) (c = 76 ∨ c = 82 ∨ c = 78 ∨ c = 85) := by
  have hs : t.size = 1 := size_one.2 ⟨c, h⟩
  have hb : bt t ((0 : Int).toNat) = (c.toNat : Int) := bt_at (by rw [h]; rfl)
  have end_ : Ev (fun k => spec_woRule_l k (t, 1)) (.inr ()) := Ev.step (fun k => spec_woRule_l.eq k t 1) (Ev.no (by rw [hs]; rfl) (Ev.now _))
  have e1 : w64 (0 + 1) = 1 := rfl
  have go : ∀ {P : Prop}, EvB (fun k => (spec_woRule_l k (t, 0)).bind fun r => r.elim (fun r3 => some r3) (fun r4 => some true)) P → EvB (fun k => spec_woRule k t) P := fun {P} H =>
    EvB.step (fun k => spec_woRule.eq k t) (by
      obtain ⟨b, h1, h2⟩ := H
      exact ⟨b, Ev.bind ((l1In_ev _ _ _).isT (by rw [hs]; decide)) (Ev.no rfl h1), h2⟩)
  have yes : Ev (fun k => spec_woRule_l k (t, 0)) (.inr ()) → (c = 76 ∨ c = 82 ∨ c = 78 ∨ c = 85) → EvB (fun k => spec_woRule k t) (c = 76 ∨ c = 82 ∨ c = 78 ∨ c = 85) := fun H hc => go ⟨true, Ev.bind H (Ev.now _), ⟨fun _ => hc, fun _ => rfl⟩⟩
  have hd : decide ((0 : Int) < (t.size : Int)) = true := by rw [hs]; rfl
  have hi : inB 0 t.size = true := by rw [hs]; rfl
  have q : ∀ n : Nat, n < 256 → (c = UInt8.ofNat n → ((bt t ((0 : Int).toNat)) == (n : Int)) = true) ∧ (¬ c = UInt8.ofNat n → ((bt t ((0 : Int).toNat)) == (n : Int)) = false) := fun n hn => by
    rw [hb]
    refine ⟨(u8_eq hn).2, fun hc => ?_⟩
    cases hx : ((c.toNat : Int) == (n : Int)) with
    | false => rfl
    | true => exact absurd ((u8_eq hn).1 hx) hc
  by_cases h1 : c = 76
  · exact yes (Ev.step (fun k => spec_woRule_l.eq k t 0) (Ev.yes hd (Ev.yes hi (Ev.yes ((q 76 (by omega)).1 h1) (by rw [e1]; exact end_))))) (.inl h1)
  · by_cases h2 : c = 82
    · exact yes (Ev.step (fun k => spec_woRule_l.eq k t 0) (Ev.yes hd (Ev.yes hi (Ev.no ((q 76 (by omega)).2 h1) (Ev.yes ((q 82 (by omega)).1 h2) (by rw [e1]; exact end_)))))) (.inr (.inl h2))
    · by_cases h3 : c = 78
      · exact yes (Ev.step (fun k => spec_woRule_l.eq k t 0) (Ev.yes hd (Ev.yes hi (Ev.no ((q 76 (by omega)).2 h1) (Ev.no ((q 82 (by omega)).2 h2) (Ev.yes ((q 78 (by omega)).1 h3) (by rw [e1]; exact end_))))))) (.inr (.inr (.inl h3)))
      · by_cases h4 : c = 85
        · exact yes (Ev.step (fun k => spec_woRule_l.eq k t 0) (Ev.yes hd (Ev.yes hi (Ev.no ((q 76 (by omega)).2 h1) (Ev.no ((q 82 (by omega)).2 h2) (Ev.no ((q 78 (by omega)).2 h3) (Ev.yes ((q 85 (by omega)).1 h4) (by rw [e1]; exact end_)))))))) (.inr (.inr (.inr h4)))
        · refine go ⟨false, Ev.bind (Ev.step (fun k => spec_woRule_l.eq k t 0) (Ev.yes hd (Ev.yes hi (Ev.no ((q 76 (by omega)).2 h1) (Ev.no ((q 82 (by omega)).2 h2) (Ev.no ((q 78 (by omega)).2 h3) (Ev.no ((q 85 (by omega)).2 h4) (Ev.now _)))))))) (Ev.now _), ⟨nofun, fun hc => ?_⟩⟩
          rcases hc with hc | hc | hc | hc
          · exact absurd hc h1
          · exact absurd hc h2
          · exact absurd hc h3
          · exact absurd hc h4
theorem size1_beq (t : ByteArray) : ((t.size : Int) == 1) = true ↔ t.size = 1 := by rw [beq_iff_eq]; omega
theorem taSign_ev (t : ByteArray) : EvB (fun k => spec_taSign k t) (Sign t) := by
  refine EvB.step (fun k => spec_taSign.eq k t) ?_
  by_cases hs : t.size = 1
  · obtain ⟨c, hc⟩ := size_one.1 hs
    obtain ⟨b, h1, h2⟩ := woRule_ev hc
    refine ⟨b, Ev.yes ((size1_beq t).2 hs) (Ev.bind h1 (Ev.now _)), h2.trans ⟨fun h => ⟨c, hc, h⟩, fun ⟨c', hc', h⟩ => ?_⟩⟩
    rw [hc] at hc'
    cases hc'
    exact h
  · refine ⟨false, Ev.no ?_ (Ev.now _), ⟨nofun, fun ⟨c, hc, _⟩ => absurd (size_one.2 ⟨c, hc⟩) hs⟩⟩
    cases hx : ((t.size : Int) == 1) with
    | false => rfl
    | true => exact absurd ((size1_beq t).1 hx) hs
/-! ### Tables -/
def RowOk (st ti : Int) (r : Rw) : Prop := (0 ≤ r.1 ∧ r.1 ≤ ti - 1) ∧ Sign r.2.1 ∧ (0 ≤ r.2.2 ∧ r.2.2 ≤ st - 1)
def TabOk (st ti : Int) (rs : List Rw) : Prop := (1 ≤ st ∧ st ≤ 4) ∧ (1 ≤ ti ∧ ti ≤ 4) ∧ (rs.length : Int) = st * ti ∧ ∀ r ∈ rs, RowOk st ti r
theorem mul_range {a b : Int} (h1 : 1 ≤ a) (h2 : a ≤ 9) (h3 : 1 ≤ b) (h4 : b ≤ 9) : 1 ≤ a * b ∧ a * b ≤ 81 := by
  have p := Int.mul_le_mul h2 h4 (by omega) (by omega)
  have q := Int.mul_pos (a := a) (b := b) (by omega) (by omega)
  omega
theorem isTable_1_ev (st ti : Int) (z : List Rw) (x : Rw) (hst : 1 ≤ st ∧ st ≤ 4) (hti : 1 ≤ ti ∧ ti ≤ 4) : EvB (fun k => impl_IsTable_1 k (x, (st, ti, z))) (¬ RowOk st ti x) := by
  obtain ⟨p, t, n⟩ := x
  have e1 : w64 (ti - 1) = ti - 1 := w64_of (by omega) (by omega)
  have e2 : w64 (st - 1) = st - 1 := w64_of (by omega) (by omega)
  have h : EvB (fun k => impl_IsTable_1 k ((p, t, n), (st, ti, z))) (¬ ((0 ≤ p ∧ p ≤ ti - 1) ∧ ((0 ≤ n ∧ n ≤ st - 1) ∧ Sign t))) := by
    refine EvB.step (fun k => impl_IsTable_1.eq k p t n st ti z) ?_
    refine EvB.or' (EvB.step (fun k => impl_Table_isTint.eq k st ti z p) (by rw [e1]; exact (within_ev p 0 (ti - 1)).ret)) fun _ => ?_
    refine EvB.or' (EvB.step (fun k => impl_Table_isState.eq k st ti z n) (by rw [e2]; exact (within_ev n 0 (st - 1)).ret)) fun _ => ?_
    by_cases hs : t.size = 1
    · obtain ⟨c, hc⟩ := size_one.1 hs
      obtain ⟨b, h1, h2⟩ := (contains_ev hc).neg
      refine ⟨b, Ev.no (by rw [hs]; rfl) h1, h2.trans ⟨fun q => ?_, fun q hq => q ⟨c, hc, hq⟩⟩⟩
      rintro ⟨c', hc', hq⟩
      rw [hc] at hc'
      cases hc'
      exact q hq
    · refine ⟨true, Ev.yes ?_ (Ev.now _), ⟨fun _ hq => ?_, fun _ => rfl⟩⟩
      · rw [bne_iff_ne]; omega
      · obtain ⟨c, hc, _⟩ := hq
        exact hs (size_one.2 ⟨c, hc⟩)
  refine h.iff ⟨fun q hr => q ⟨hr.1, hr.2.2, hr.2.1⟩, fun q hr => q ⟨hr.1, hr.2.2, hr.2.1⟩⟩
theorem containsFunc_ev (st ti : Int) (rs : List Rw) (hl : rs.length ≤ 1048576) (hst : 1 ≤ st ∧ st ≤ 4) (hti : 1 ≤ ti ∧ ti ≤ 4) : EvB (fun k => slices_ContainsFunc k (rs, (st, ti, ()))) (¬ ∀ r ∈ rs, RowOk st ti r) := by
  have step : ∀ (i : Nat) (x : Rw), rs[i]? = some x → ∀ r, Ev (fun k => (impl_IsTable_1 k (x, (st, ti, rs))).bind fun r1 => cond r1 (some (.inl (i : Int))) (slices_IndexFunc_l k (rs, (st, ti, ()), (rs.length : Int), w64 ((i : Int) + 1)))) r → Ev (fun k => slices_IndexFunc_l k (rs, (st, ti, ()), (rs.length : Int), (i : Int))) r := fun i x hx r H => by
    have hi := (List.getElem?_eq_some_iff.1 hx).1
    exact Ev.step (fun k => slices_IndexFunc_l.eq k rs st ti (rs.length : Int) (i : Int)) (Ev.yes (lt_nat hi) (Ev.yes (inB_nat hi) (by rw [Int.toNat_natCast, getD_at hx]; exact H)))
  have srch := Ev.search (L := fun k i => slices_IndexFunc_l k (rs, (st, ti, ()), (rs.length : Int), i)) (n := rs.length) (fun i => ∃ x, rs[i]? = some x ∧ ¬ RowOk st ti x) (fun i => .inl (i : Int)) (.inr ())
    (fun i hi hp r H => by
      obtain ⟨x, hx⟩ := nat_list hi
      have hr : RowOk st ti x := Classical.byContradiction fun hn => hp ⟨x, hx, hn⟩
      exact step i x hx r (Ev.bind ((isTable_1_ev st ti rs x hst hti).isF fun q => q hr) (Ev.no rfl (by rw [w64_succ (by omega)]; exact H))))
    (fun i hi hp => by
      obtain ⟨x, hx, hn⟩ := hp
      exact step i x hx _ (Ev.bind ((isTable_1_ev st ti rs x hst hti).isT hn) (Ev.yes rfl (Ev.now _))))
    (Ev.step (fun k => slices_IndexFunc_l.eq k rs st ti (rs.length : Int) (rs.length : Int)) (Ev.no (not_lt_nat (Nat.lt_irrefl _)) (Ev.now _))) rs.length 0 (by omega)
  have go : ∀ r, Ev (fun k => (slices_IndexFunc_l k (rs, (st, ti, ()), (rs.length : Int), ((0 : Nat) : Int))).bind fun r1 => r1.elim (fun r2 => some r2) (fun r3 => some (-1))) r → Ev (fun k => slices_ContainsFunc k (rs, (st, ti, ()))) (decide (r ≥ 0)) := fun r H =>
    Ev.step (fun k => slices_ContainsFunc.eq k rs st ti) (Ev.bind (Ev.step (fun k => slices_IndexFunc.eq k rs st ti) H) (Ev.now _))
  rcases srch with ⟨h1, h2⟩ | ⟨j, _, hj, ⟨x, hx, hn⟩, _, h2⟩
  · refine ⟨_, go _ (Ev.bind h2 (Ev.now _)), ⟨fun h => by simp at h, fun h => absurd (fun r hr => ?_) h⟩⟩
    obtain ⟨i, hi⟩ := List.mem_iff_getElem?.1 hr
    exact Classical.byContradiction fun hn => h1 i (Nat.zero_le _) (List.getElem?_eq_some_iff.1 hi).1 ⟨r, hi, hn⟩
  · exact ⟨_, go _ (Ev.bind h2 (Ev.now _)), ⟨fun _ h => hn (h x (List.mem_of_getElem? hx)), fun _ => decide_eq_true (by omega)⟩⟩
theorem isTable_ev (st ti : Int) (rs : List Rw) (hl : rs.length ≤ 1048576) : EvB (fun k => impl_IsTable k (st, ti, rs)) (TabOk st ti rs) := by
  have h : EvB (fun k => impl_IsTable k (st, ti, rs)) (((1 ≤ st ∧ st ≤ 4) ∧ (1 ≤ ti ∧ ti ≤ 4)) ∧ ((rs.length : Int) = st * ti ∧ ∀ r ∈ rs, RowOk st ti r)) := by
    refine EvB.step (fun k => impl_IsTable.eq k st ti rs) (EvB.and (EvB.step (fun k => impl_isShape.eq k st ti) (EvB.and (within_ev st 1 4) fun _ => (within_ev ti 1 4).ret)) fun hs => ?_)
    have hm := mul_range (a := st) (b := ti) (by omega) (by omega) (by omega) (by omega)
    rw [w64_of (by omega) (by omega)]
    refine EvB.ifT beq_iff_eq fun _ => ?_
    exact (containsFunc_ev st ti rs hl hs.1 hs.2).neg.iff Classical.not_not
  exact h.iff ⟨fun q => ⟨q.1.1, q.1.2, q.2⟩, fun q => ⟨⟨q.1, q.2.1⟩, q.2.2⟩⟩
theorem taGood_ev (st ti : Int) (rs : List Rw) (hl : rs.length ≤ 1048576) : EvB (fun k => spec_taGood k (st, ti, rs)) (TabOk st ti rs) := by
  refine EvB.step (fun k => spec_taGood.eq k st ti rs) (EvB.and' (l1In_ev st 1 4) fun hst => EvB.and' (l1In_ev ti 1 4) fun hti => ?_)
  have hm := mul_range (a := st) (b := ti) (by omega) (by omega) (by omega) (by omega)
  rw [w64_of (by omega) (by omega)]
  refine EvB.ifN (P := (rs.length : Int) = st * ti) (by rw [bne_eq_false_iff_eq]) fun _ => ?_
  have e1 : w64 (ti - 1) = ti - 1 := w64_of (by omega) (by omega)
  have e2 : w64 (st - 1) = st - 1 := w64_of (by omega) (by omega)
  have step : ∀ (i : Nat) (x : Rw), rs[i]? = some x → ∀ r, Ev (fun k => (spec_l1In k (x.1, 0, ti - 1)).bind fun r1 => cond (!r1) (some (.inl false)) ((spec_taSign k x.2.1).bind fun r2 => cond (!r2) (some (.inl false)) ((spec_l1In k (x.2.2, 0, st - 1)).bind fun r3 => cond (!r3) (some (.inl false))
      (spec_taGood_l k ((st, ti, rs), (), (rs.length : Int), w64 ((i : Int) + 1)))))) r → Ev (fun k => spec_taGood_l k ((st, ti, rs), (), (rs.length : Int), (i : Int))) r := fun i x hx r H => by
    have hi := (List.getElem?_eq_some_iff.1 hx).1
    exact Ev.step (fun k => spec_taGood_l.eq k st ti rs (rs.length : Int) (i : Int)) (Ev.yes (lt_nat hi) (Ev.yes (inB_nat hi) (by rw [Int.toNat_natCast, getD_at hx, e1, e2]; exact H)))
  have srch := Ev.search (L := fun k i => spec_taGood_l k ((st, ti, rs), (), (rs.length : Int), i)) (n := rs.length) (fun i => ∃ x, rs[i]? = some x ∧ ¬ RowOk st ti x) (fun i => .inl false) (.inr ())
    (fun i hi hp r H => by
      obtain ⟨x, hx⟩ := nat_list hi
      have hr : RowOk st ti x := Classical.byContradiction fun hn => hp ⟨x, hx, hn⟩
      exact step i x hx r (Ev.bind ((l1In_ev _ _ _).isT hr.1) (Ev.no rfl (Ev.bind ((taSign_ev _).isT hr.2.1) (Ev.no rfl (Ev.bind ((l1In_ev _ _ _).isT hr.2.2) (Ev.no rfl (by rw [w64_succ (by omega)]; exact H))))))))
    (fun i hi hp => by
      obtain ⟨x, hx, hn⟩ := hp
      refine step i x hx _ ?_
      by_cases h1 : 0 ≤ x.1 ∧ x.1 ≤ ti - 1
      · refine Ev.bind ((l1In_ev _ _ _).isT h1) (Ev.no rfl ?_)
        by_cases h2 : Sign x.2.1
        · refine Ev.bind ((taSign_ev _).isT h2) (Ev.no rfl ?_)
          by_cases h3 : 0 ≤ x.2.2 ∧ x.2.2 ≤ st - 1
          · exact absurd ⟨h1, h2, h3⟩ hn
          · exact Ev.bind ((l1In_ev _ _ _).isF h3) (Ev.yes rfl (Ev.now _))
        · exact Ev.bind ((taSign_ev _).isF h2) (Ev.yes rfl (Ev.now _))
      · exact Ev.bind ((l1In_ev _ _ _).isF h1) (Ev.yes rfl (Ev.now _)))
    (Ev.step (fun k => spec_taGood_l.eq k st ti rs (rs.length : Int) (rs.length : Int)) (Ev.no (not_lt_nat (Nat.lt_irrefl _)) (Ev.now _))) rs.length 0 (by omega)
  rcases srch with ⟨h1, h2⟩ | ⟨j, _, hj, ⟨x, hx, hn⟩, _, h2⟩
  · refine ⟨true, Ev.bind h2 (Ev.now _), ⟨fun _ r hr => ?_, fun _ => rfl⟩⟩
    obtain ⟨i, hi⟩ := List.mem_iff_getElem?.1 hr
    exact Classical.byContradiction fun hn => h1 i (Nat.zero_le _) (List.getElem?_eq_some_iff.1 hi).1 ⟨r, hi, hn⟩
  · exact ⟨false, Ev.bind h2 (Ev.now _), ⟨nofun, fun h => absurd (h x (List.mem_of_getElem? hx)) hn⟩⟩
end Go.Proofs.YtdgfpdbfcpbgfaaS
