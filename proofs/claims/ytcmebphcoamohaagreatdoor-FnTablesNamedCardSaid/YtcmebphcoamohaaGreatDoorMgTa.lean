/- Several texts in one: PuOther, PuTaA, PuTaB, PuTaC, PuTaD, PuTaE, PuTaF, PuTaG, PuTaH. -/
import Derived.Test.YtcmebphcoamohaaGreatDoorMgTx
import Derived.Test.YtcmebphcoamohaaGreatDoorPuCur
import Derived.KernelRfl
namespace Go.Proofs.YtcmebphcoamohaaGreatDoorS
open Go
set_option linter.unusedVariables false
set_option linter.unusedSimpArgs false

def othC (c : UInt8) : UInt8 := if c = 76 then 82 else if c = 82 then 76 else c
def oth (s : ByteArray) : ByteArray := swapS (swp (76 : UInt8).toNat (82 : UInt8).toNat) s
theorem othC_eq (c : UInt8) : UInt8.ofNat (swp (76 : UInt8).toNat (82 : UInt8).toNat c.toNat) = othC c := by
  unfold othC swp swU
  by_cases h1 : c = 76
  · subst h1
    rfl
  · by_cases h2 : c = 82
    · subst h2
      rfl
    · rw [if_neg (fun e => h1 (UInt8.toNat_inj.1 e)), if_neg (fun e => h2 (UInt8.toNat_inj.1 e)), if_neg h1, if_neg h2]
      simp
theorem othC_othC (c : UInt8) : othC (othC c) = c := by
  unfold othC
  by_cases h1 : c = 76
  · subst h1
    rfl
  · by_cases h2 : c = 82
    · subst h2
      rfl
    · rw [if_neg h1, if_neg h2, if_neg h1, if_neg h2]
theorem oth_list (s : ByteArray) : (oth s).data.toList = s.data.toList.map othC := by
  show (s.data.toList.map fun c => UInt8.ofNat (swp (76 : UInt8).toNat (82 : UInt8).toNat c.toNat)).toArray.toList = _
  rw [List.toList_toArray]
  exact List.map_congr_left fun c _ => othC_eq c
theorem oth_size (s : ByteArray) : (oth s).size = s.size := by
  rw [size_list, size_list, oth_list, List.length_map]
theorem oth_oth (s : ByteArray) : oth (oth s) = s := by
  apply ba_ext
  rw [oth_list, oth_list, List.map_map]
  conv => rhs; rw [← List.map_id s.data.toList]
  exact List.map_congr_left fun c _ => othC_othC c
theorem signC_oth {c : UInt8} (h : SignC c) : SignC (othC c) := by
  unfold othC
  by_cases h1 : c = 76
  · subst h1
    simp [SignC]
  · by_cases h2 : c = 82
    · subst h2
      simp [SignC]
    · rw [if_neg h1, if_neg h2]
      exact h
theorem ruleOk_oth {s : ByteArray} (h : RuleOk s) : RuleOk (oth s) := by
  refine ⟨by rw [oth_size]; exact h.1, fun c hc => ?_⟩
  rw [oth_list] at hc
  obtain ⟨d, hd, rfl⟩ := List.mem_map.1 hc
  exact signC_oth (h.2 d hd)
theorem other_ev (s : ByteArray) (h : s.size ≤ 1048576) : Ev (fun k => impl_other k s) (oth s) :=
  Ev.step (fun k => (impl_other.eq k s).trans (show otherB 76 82 s = some (oth s) from if_pos (by omega))) (Ev.now _)
theorem cut_one {cs : ByteArray} {i : Nat} {c : UInt8} (h : cs.data.toList[i]? = some c) : cs.extract i (i + 1) = bs [c] := by
  apply ba_ext
  obtain ⟨hlt, he⟩ := List.getElem?_eq_some_iff.1 h
  rw [extract_list, List.drop_take, show i + 1 - i = 1 by omega, List.drop_eq_getElem_cons hlt, he]
  rfl
theorem woOther_l_ev (s : ByteArray) (hs : s.size ≤ 1048576) : ∀ (m i : Nat), i + m = s.size → Ev (fun k => spec_woOther_l k (s, bs ((s.data.toList.take i).map othC), (i : Int))) (oth s)
  | 0, i, hi => Ev.step (fun k => spec_woOther_l.eq k s _ i) (Ev.no (not_lt_nat (by omega)) (Ev.now' (by
      apply ba_ext
      rw [oth_list, List.take_of_length_le (by rw [← size_list]; omega)]
      rfl)))
  | m + 1, i, hi => by
    obtain ⟨c, hc⟩ := byte_at (cs := s) (i := i) (by omega)
    have ih := woOther_l_ev s hs m (i + 1) (by omega)
    have hz : (bs ((s.data.toList.take i).map othC)).size = i := by
      rw [size_list]
      simp only [bs, List.toList_toArray, List.length_map, List.length_take]
      rw [← size_list]
      omega
    have e1 : w64 ((i : Int) + 1) = ((i + 1 : Nat) : Int) := w64_succ (by omega)
    have ef : ∀ d : UInt8, fitS (bs ((s.data.toList.take i).map othC)) (bs [d]) = true := fun d => fitS_of (by rw [hz]; show i + 1 < _; omega)
    have ea : ∀ d : UInt8, d = othC c → bs ((s.data.toList.take i).map othC) ++ bs [d] = bs ((s.data.toList.take (i + 1)).map othC) := fun d hd => by
      apply ba_ext
      rw [append_list, List.take_add_one, hc, List.map_append]
      subst hd
      rfl
    refine Ev.step (fun k => spec_woOther_l.eq k s _ i) (Ev.yes (lt_nat (by omega)) (Ev.yes (inB_nat (by omega)) ?_))
    rw [Int.toNat_natCast, bt_at hc, e1]
    by_cases h1 : c = 76
    · refine Ev.yes (by rw [h1]; rfl) (Ev.yes (ef 82) ?_)
      rw [ea 82 (by rw [h1]; rfl)]
      exact ih
    · have n1 : ((c.toNat : Int) == 76) = false := by
        rw [beq_eq_false_iff_ne]
        intro e
        exact h1 (UInt8.toNat_inj.1 (by show c.toNat = 76; omega))
      refine Ev.no n1 ?_
      by_cases h2 : c = 82
      · refine Ev.yes (by rw [h2]; rfl) (Ev.yes (ef 76) ?_)
        rw [ea 76 (by rw [h2]; rfl)]
        exact ih
      · have n2 : ((c.toNat : Int) == 82) = false := by
          rw [beq_eq_false_iff_ne]
          intro e
          exact h2 (UInt8.toNat_inj.1 (by show c.toNat = 82; omega))
        rw [Int.toNat_natCast, cut_one hc]
        refine Ev.no n2 (Ev.yes (by rw [decide_eq_true (by omega), decide_eq_true (by omega), decide_eq_true (by omega), decide_eq_true (by omega)]; rfl) (Ev.yes (ef c) ?_))
        rw [ea c (by unfold othC; rw [if_neg h1, if_neg h2])]
        exact ih
theorem woOther_ev (s : ByteArray) (hs : s.size ≤ 1048576) : Ev (fun k => spec_woOther k s) (oth s) := Ev.step (fun k => spec_woOther.eq k s) (Ev.bind (woOther_l_ev s hs s.size 0 (by omega)) (Ev.now _))
abbrev Rw := Int × (ByteArray × Int)
theorem slices_Clone_ev (a : List Rw) (h : a.length ≤ 1048576) : Ev (fun k => slices_Clone k a) a :=
  Ev.step (fun k => (slices_Clone.eq k a).trans (cloneB_some (s := .pair (.int .i64) (.pair .str (.int .i64))) 32 a (by show a.length * 32 ≤ _; omega))) (Ev.now _)
/-! ### Turns -/
def Sign (t : ByteArray) : Prop := ∃ c : UInt8, t.data.toList = [c] ∧ (c = 76 ∨ c = 82 ∨ c = 78 ∨ c = 85)
theorem contains_ev {t : ByteArray} {c : UInt8} (h : t.data.toList = [c]) : EvB (fun k => strings_Contains k (bs [76, 82, 78, 85], t)) (c = 76 ∨ c = 82 ∨ c = 78 ∨ c = 85) := by
  refine EvB.step (fun k => strings_Contains.eq k (bs [76, 82, 78, 85], t)) ?_
  show EvB (fun _ => strContains1 (bs [76, 82, 78, 85]) t) _
  have e : strContains1 (bs [76, 82, 78, 85]) t = some (decide (0 ≤ Lib.indexByte [76, 82, 78, 85] c)) := by
    unfold strContains1
    rw [h]
    rfl
  rw [e]
  refine EvB.val ?_
  rw [decide_eq_true_iff]
  simp only [Lib.indexByte]
  by_cases h1 : (76 : UInt8) = c
  · subst h1; simp
  · by_cases h2 : (82 : UInt8) = c
    · subst h2; simp
    · by_cases h3 : (78 : UInt8) = c
      · subst h3; simp
      · by_cases h4 : (85 : UInt8) = c
        · subst h4; simp
        · simp [h1, h2, h3, h4, Ne.symm h1, Ne.symm h2, Ne.symm h3, Ne.symm h4]
theorem woRule_ev {t : ByteArray} {c : UInt8} (h : t.data.toList = [c]) : EvB (fun k => spec_woRule k t) (c = 76 ∨ c = 82 ∨ c = 78 ∨ c = 85) := by
  have hs : t.size = 1 := size_one.2 ⟨c, h⟩
  have hb : bt t ((0 : Int).toNat) = (c.toNat : Int) := bt_at (by rw [h]; rfl)
  have end_ : Ev (fun k => spec_woRule_l k (t, 1)) (.inr ()) := Ev.step (fun k => spec_woRule_l.eq k t 1) (Ev.no (by rw [hs]; rfl) (Ev.now _))
  have e1 : w64 (0 + 1) = 1 := rfl
  have go : ∀ {P : Prop}, EvB (fun k => (spec_woRule_l k (t, 0)).bind fun r => r.elim (fun r3 => some r3) (fun r4 => some true)) P → EvB (fun k => spec_woRule k t) P := fun {P} H =>
    EvB.step (fun k => spec_woRule.eq k t) (by
      obtain ⟨b, h1, h2⟩ := H
      exact ⟨b, Ev.bind ((l1In_ev _ _ _).isT (by rw [hs]; decide)) (Ev.no rfl h1), h2⟩)
  have yes : Ev (fun k => spec_woRule_l k (t, 0)) (.inr ()) → (c = 76 ∨ c = 82 ∨ c = 78 ∨ c = 85) → EvB (fun k => spec_woRule k t) (c = 76 ∨ c = 82 ∨ c = 78 ∨ c = 85) := fun H hc => go ⟨true, Ev.bind H (Ev.now _), ⟨fun _ => hc, fun _ => rfl⟩⟩
  have hd : decide ((0 : Int) < (t.size : Int)) = true := by rw [hs]; rfl
  have hi : inB 0 t.size = true := by rw [hs]; rfl
  have q : ∀ n : Nat, n < 256 → (c = UInt8.ofNat n → ((bt t ((0 : Int).toNat)) == (n : Int)) = true) ∧ (¬ c = UInt8.ofNat n → ((bt t ((0 : Int).toNat)) == (n : Int)) = false) := fun n hn => by
    rw [hb]
    refine ⟨(u8_eq hn).2, fun hc => ?_⟩
    cases hx : ((c.toNat : Int) == (n : Int)) with
    | false => rfl
    | true => exact absurd ((u8_eq hn).1 hx) hc
  by_cases h1 : c = 76
  · exact yes (Ev.step (fun k => spec_woRule_l.eq k t 0) (Ev.yes hd (Ev.yes hi (Ev.yes ((q 76 (by omega)).1 h1) (by rw [e1]; exact end_))))) (.inl h1)
  · by_cases h2 : c = 82
    · exact yes (Ev.step (fun k => spec_woRule_l.eq k t 0) (Ev.yes hd (Ev.yes hi (Ev.no ((q 76 (by omega)).2 h1) (Ev.yes ((q 82 (by omega)).1 h2) (by rw [e1]; exact end_)))))) (.inr (.inl h2))
    · by_cases h3 : c = 78
      · exact yes (Ev.step (fun k => spec_woRule_l.eq k t 0) (Ev.yes hd (Ev.yes hi (Ev.no ((q 76 (by omega)).2 h1) (Ev.no ((q 82 (by omega)).2 h2) (Ev.yes ((q 78 (by omega)).1 h3) (by rw [e1]; exact end_))))))) (.inr (.inr (.inl h3)))
      · by_cases h4 : c = 85
        · exact yes (Ev.step (fun k => spec_woRule_l.eq k t 0) (Ev.yes hd (Ev.yes hi (Ev.no ((q 76 (by omega)).2 h1) (Ev.no ((q 82 (by omega)).2 h2) (Ev.no ((q 78 (by omega)).2 h3) (Ev.yes ((q 85 (by omega)).1 h4) (by rw [e1]; exact end_)))))))) (.inr (.inr (.inr h4)))
        · refine go ⟨false, Ev.bind (Ev.step (fun k => spec_woRule_l.eq k t 0) (Ev.yes hd (Ev.yes hi (Ev.no ((q 76 (by omega)).2 h1) (Ev.no ((q 82 (by omega)).2 h2) (Ev.no ((q 78 (by omega)).2 h3) (Ev.no ((q 85 (by omega)).2 h4) (Ev.now _)))))))) (Ev.now _), ⟨nofun, fun hc => ?_⟩⟩
          rcases hc with hc | hc | hc | hc
          · exact absurd hc h1
          · exact absurd hc h2
          · exact absurd hc h3
          · exact absurd hc h4
theorem size1_beq (t : ByteArray) : ((t.size : Int) == 1) = true ↔ t.size = 1 := by rw [beq_iff_eq]; omega
theorem taSign_ev (t : ByteArray) : EvB (fun k => spec_taSign k t) (Sign t) := by
  refine EvB.step (fun k => spec_taSign.eq k t) ?_
  by_cases hs : t.size = 1
  · obtain ⟨c, hc⟩ := size_one.1 hs
    obtain ⟨b, h1, h2⟩ := woRule_ev hc
    refine ⟨b, Ev.yes ((size1_beq t).2 hs) (Ev.bind h1 (Ev.now _)), h2.trans ⟨fun h => ⟨c, hc, h⟩, fun ⟨c', hc', h⟩ => ?_⟩⟩
    rw [hc] at hc'
    cases hc'
    exact h
  · refine ⟨false, Ev.no ?_ (Ev.now _), ⟨nofun, fun ⟨c, hc, _⟩ => absurd (size_one.2 ⟨c, hc⟩) hs⟩⟩
    cases hx : ((t.size : Int) == 1) with
    | false => rfl
    | true => exact absurd ((size1_beq t).1 hx) hs
/-! ### Tables -/
def RowOk (st ti : Int) (r : Rw) : Prop := (0 ≤ r.1 ∧ r.1 ≤ ti - 1) ∧ Sign r.2.1 ∧ (0 ≤ r.2.2 ∧ r.2.2 ≤ st - 1)
def TabOk (st ti : Int) (rs : List Rw) : Prop := (1 ≤ st ∧ st ≤ 4) ∧ (1 ≤ ti ∧ ti ≤ 4) ∧ (rs.length : Int) = st * ti ∧ ∀ r ∈ rs, RowOk st ti r
theorem isTable_1_ev (st ti : Int) (z : List Rw) (x : Rw) (hst : 1 ≤ st ∧ st ≤ 4) (hti : 1 ≤ ti ∧ ti ≤ 4) : EvB (fun k => impl_IsTable_1 k (x, (st, ti, z))) (¬ RowOk st ti x) := by
  obtain ⟨p, t, n⟩ := x
  have e1 : w64 (ti - 1) = ti - 1 := w64_of (by omega) (by omega)
  have e2 : w64 (st - 1) = st - 1 := w64_of (by omega) (by omega)
  have h : EvB (fun k => impl_IsTable_1 k ((p, t, n), (st, ti, z))) (¬ ((0 ≤ p ∧ p ≤ ti - 1) ∧ ((0 ≤ n ∧ n ≤ st - 1) ∧ Sign t))) := by
    refine EvB.step (fun k => impl_IsTable_1.eq k p t n st ti z) ?_
    refine EvB.or' (EvB.step (fun k => impl_Table_isTint.eq k st ti z p) (by rw [e1]; exact (within_ev p 0 (ti - 1)).ret)) fun _ => ?_
    refine EvB.or' (EvB.step (fun k => impl_Table_isState.eq k st ti z n) (by rw [e2]; exact (within_ev n 0 (st - 1)).ret)) fun _ => ?_
    by_cases hs : t.size = 1
    · obtain ⟨c, hc⟩ := size_one.1 hs
      obtain ⟨b, h1, h2⟩ := (contains_ev hc).neg
      refine ⟨b, Ev.no (by rw [hs]; rfl) h1, h2.trans ⟨fun q => ?_, fun q hq => q ⟨c, hc, hq⟩⟩⟩
      rintro ⟨c', hc', hq⟩
      rw [hc] at hc'
      cases hc'
      exact q hq
    · refine ⟨true, Ev.yes ?_ (Ev.now _), ⟨fun _ hq => ?_, fun _ => rfl⟩⟩
      · rw [bne_iff_ne]; omega
      · obtain ⟨c, hc, _⟩ := hq
        exact hs (size_one.2 ⟨c, hc⟩)
  refine h.iff ⟨fun q hr => q ⟨hr.1, hr.2.2, hr.2.1⟩, fun q hr => q ⟨hr.1, hr.2.2, hr.2.1⟩⟩
theorem containsFunc_ev (st ti : Int) (rs : List Rw) (hl : rs.length ≤ 1048576) (hst : 1 ≤ st ∧ st ≤ 4) (hti : 1 ≤ ti ∧ ti ≤ 4) : EvB (fun k => slices_ContainsFunc k (rs, (st, ti, ()))) (¬ ∀ r ∈ rs, RowOk st ti r) := by
  have step : ∀ (i : Nat) (x : Rw), rs[i]? = some x → ∀ r, Ev (fun k => (impl_IsTable_1 k (x, (st, ti, rs))).bind fun r1 => cond r1 (some (.inl (i : Int))) (slices_IndexFunc_l k (rs, (st, ti, ()), (rs.length : Int), w64 ((i : Int) + 1)))) r → Ev (fun k => slices_IndexFunc_l k (rs, (st, ti, ()), (rs.length : Int), (i : Int))) r := fun i x hx r H => by
    have hi := (List.getElem?_eq_some_iff.1 hx).1
    exact Ev.step (fun k => slices_IndexFunc_l.eq k rs st ti (rs.length : Int) (i : Int)) (Ev.yes (lt_nat hi) (Ev.yes (inB_nat hi) (by rw [Int.toNat_natCast, getD_at hx]; exact H)))
  have srch := Ev.search (L := fun k i => slices_IndexFunc_l k (rs, (st, ti, ()), (rs.length : Int), i)) (n := rs.length) (fun i => ∃ x, rs[i]? = some x ∧ ¬ RowOk st ti x) (fun i => .inl (i : Int)) (.inr ())
    (fun i hi hp r H => by
      obtain ⟨x, hx⟩ := nat_list hi
      have hr : RowOk st ti x := Classical.byContradiction fun hn => hp ⟨x, hx, hn⟩
      exact step i x hx r (Ev.bind ((isTable_1_ev st ti rs x hst hti).isF fun q => q hr) (Ev.no rfl (by rw [w64_succ (by omega)]; exact H))))
    (fun i hi hp => by
      obtain ⟨x, hx, hn⟩ := hp
      exact step i x hx _ (Ev.bind ((isTable_1_ev st ti rs x hst hti).isT hn) (Ev.yes rfl (Ev.now _))))
    (Ev.step (fun k => slices_IndexFunc_l.eq k rs st ti (rs.length : Int) (rs.length : Int)) (Ev.no (not_lt_nat (Nat.lt_irrefl _)) (Ev.now _))) rs.length 0 (by omega)
  have go : ∀ r, Ev (fun k => (slices_IndexFunc_l k (rs, (st, ti, ()), (rs.length : Int), ((0 : Nat) : Int))).bind fun r1 => r1.elim (fun r2 => some r2) (fun r3 => some (-1))) r → Ev (fun k => slices_ContainsFunc k (rs, (st, ti, ()))) (decide (r ≥ 0)) := fun r H =>
    Ev.step (fun k => slices_ContainsFunc.eq k rs st ti) (Ev.bind (Ev.step (fun k => slices_IndexFunc.eq k rs st ti) H) (Ev.now _))
  rcases srch with ⟨h1, h2⟩ | ⟨j, _, hj, ⟨x, hx, hn⟩, _, h2⟩
  · refine ⟨_, go _ (Ev.bind h2 (Ev.now _)), ⟨fun h => by simp at h, fun h => absurd (fun r hr => ?_) h⟩⟩
    obtain ⟨i, hi⟩ := List.mem_iff_getElem?.1 hr
    exact Classical.byContradiction fun hn => h1 i (Nat.zero_le _) (List.getElem?_eq_some_iff.1 hi).1 ⟨r, hi, hn⟩
  · exact ⟨_, go _ (Ev.bind h2 (Ev.now _)), ⟨fun _ h => hn (h x (List.mem_of_getElem? hx)), fun _ => decide_eq_true (by omega)⟩⟩
theorem isTable_ev (st ti : Int) (rs : List Rw) (hl : rs.length ≤ 1048576) : EvB (fun k => impl_IsTable k (st, ti, rs)) (TabOk st ti rs) := by
  have h : EvB (fun k => impl_IsTable k (st, ti, rs)) (((1 ≤ st ∧ st ≤ 4) ∧ (1 ≤ ti ∧ ti ≤ 4)) ∧ ((rs.length : Int) = st * ti ∧ ∀ r ∈ rs, RowOk st ti r)) := by
    refine EvB.step (fun k => impl_IsTable.eq k st ti rs) (EvB.and (EvB.step (fun k => impl_isShape.eq k st ti) (EvB.and (within_ev st 1 4) fun _ => (within_ev ti 1 4).ret)) fun hs => ?_)
    have hm := mul_range (a := st) (b := ti) (by omega) (by omega) (by omega) (by omega)
    rw [w64_of (by omega) (by omega)]
    refine EvB.ifT beq_iff_eq fun _ => ?_
    exact (containsFunc_ev st ti rs hl hs.1 hs.2).neg.iff Classical.not_not
  exact h.iff ⟨fun q => ⟨q.1.1, q.1.2, q.2⟩, fun q => ⟨⟨q.1, q.2.1⟩, q.2.2⟩⟩
theorem taGood_ev (st ti : Int) (rs : List Rw) (hl : rs.length ≤ 1048576) : EvB (fun k => spec_taGood k (st, ti, rs)) (TabOk st ti rs) := by
  refine EvB.step (fun k => spec_taGood.eq k st ti rs) (EvB.and' (l1In_ev st 1 4) fun hst => EvB.and' (l1In_ev ti 1 4) fun hti => ?_)
  have hm := mul_range (a := st) (b := ti) (by omega) (by omega) (by omega) (by omega)
  rw [w64_of (by omega) (by omega)]
  refine EvB.ifN (P := (rs.length : Int) = st * ti) (by rw [bne_eq_false_iff_eq]) fun _ => ?_
  have e1 : w64 (ti - 1) = ti - 1 := w64_of (by omega) (by omega)
  have e2 : w64 (st - 1) = st - 1 := w64_of (by omega) (by omega)
  have step : ∀ (i : Nat) (x : Rw), rs[i]? = some x → ∀ r, Ev (fun k => (spec_l1In k (x.1, 0, ti - 1)).bind fun r1 => cond (!r1) (some (.inl false)) ((spec_taSign k x.2.1).bind fun r2 => cond (!r2) (some (.inl false)) ((spec_l1In k (x.2.2, 0, st - 1)).bind fun r3 => cond (!r3) (some (.inl false))
      (spec_taGood_l k ((st, ti, rs), (), (rs.length : Int), w64 ((i : Int) + 1)))))) r → Ev (fun k => spec_taGood_l k ((st, ti, rs), (), (rs.length : Int), (i : Int))) r := fun i x hx r H => by
    have hi := (List.getElem?_eq_some_iff.1 hx).1
    exact Ev.step (fun k => spec_taGood_l.eq k st ti rs (rs.length : Int) (i : Int)) (Ev.yes (lt_nat hi) (Ev.yes (inB_nat hi) (by rw [Int.toNat_natCast, getD_at hx, e1, e2]; exact H)))
  have srch := Ev.search (L := fun k i => spec_taGood_l k ((st, ti, rs), (), (rs.length : Int), i)) (n := rs.length) (fun i => ∃ x, rs[i]? = some x ∧ ¬ RowOk st ti x) (fun i => .inl false) (.inr ())
    (fun i hi hp r H => by
      obtain ⟨x, hx⟩ := nat_list hi
      have hr : RowOk st ti x := Classical.byContradiction fun hn => hp ⟨x, hx, hn⟩
      exact step i x hx r (Ev.bind ((l1In_ev _ _ _).isT hr.1) (Ev.no rfl (Ev.bind ((taSign_ev _).isT hr.2.1) (Ev.no rfl (Ev.bind ((l1In_ev _ _ _).isT hr.2.2) (Ev.no rfl (by rw [w64_succ (by omega)]; exact H))))))))
    (fun i hi hp => by
      obtain ⟨x, hx, hn⟩ := hp
      refine step i x hx _ ?_
      by_cases h1 : 0 ≤ x.1 ∧ x.1 ≤ ti - 1
      · refine Ev.bind ((l1In_ev _ _ _).isT h1) (Ev.no rfl ?_)
        by_cases h2 : Sign x.2.1
        · refine Ev.bind ((taSign_ev _).isT h2) (Ev.no rfl ?_)
          by_cases h3 : 0 ≤ x.2.2 ∧ x.2.2 ≤ st - 1
          · exact absurd ⟨h1, h2, h3⟩ hn
          · exact Ev.bind ((l1In_ev _ _ _).isF h3) (Ev.yes rfl (Ev.now _))
        · exact Ev.bind ((taSign_ev _).isF h2) (Ev.yes rfl (Ev.now _))
      · exact Ev.bind ((l1In_ev _ _ _).isF h1) (Ev.yes rfl (Ev.now _)))
    (Ev.step (fun k => spec_taGood_l.eq k st ti rs (rs.length : Int) (rs.length : Int)) (Ev.no (not_lt_nat (Nat.lt_irrefl _)) (Ev.now _))) rs.length 0 (by omega)
  rcases srch with ⟨h1, h2⟩ | ⟨j, _, hj, ⟨x, hx, hn⟩, _, h2⟩
  · refine ⟨true, Ev.bind h2 (Ev.now _), ⟨fun _ r hr => ?_, fun _ => rfl⟩⟩
    obtain ⟨i, hi⟩ := List.mem_iff_getElem?.1 hr
    exact Classical.byContradiction fun hn => h1 i (Nat.zero_le _) (List.getElem?_eq_some_iff.1 hi).1 ⟨r, hi, hn⟩
  · exact ⟨false, Ev.bind h2 (Ev.now _), ⟨nofun, fun h => absurd (h x (List.mem_of_getElem? hx)) hn⟩⟩
def Hit (p n : Int) (r : Rw) : Prop := r.1 = p ∧ r.2.2 = n
/-- The first row with a Paint and a Next. -/
theorem before_ev (st ti : Int) (rs : List Rw) (hl : rs.length ≤ 1048576) (p n : Int) : ((∀ r ∈ rs, ¬ Hit p n r) ∧ Ev (fun k => impl_Table_before k ((st, ti, rs), p, n)) (-1)) ∨
    ∃ (j : Nat) (r : Rw), rs[j]? = some r ∧ Hit p n r ∧ (∀ (l : Nat) (q : Rw), l < j → rs[l]? = some q → ¬ Hit p n q) ∧ Ev (fun k => impl_Table_before k ((st, ti, rs), p, n)) (j : Int) := by
  have test : ∀ r : Rw, EvB (fun k => impl_Table_before_1 k (r, p, n)) (Hit p n r) := fun r =>
    EvB.step (fun k => impl_Table_before_1.eq k r.1 r.2.1 r.2.2 p n) (EvB.ifT beq_iff_eq fun _ => EvB.val beq_iff_eq)
  have step : ∀ (i : Nat) (x : Rw), rs[i]? = some x → ∀ r, Ev (fun k => (impl_Table_before_1 k (x, p, n)).bind fun r1 => cond r1 (some (.inl (i : Int))) (slices_IndexFunc_3_l k (rs, (p, n), (rs.length : Int), w64 ((i : Int) + 1)))) r → Ev (fun k => slices_IndexFunc_3_l k (rs, (p, n), (rs.length : Int), (i : Int))) r := fun i x hx r H => by
    have hi := (List.getElem?_eq_some_iff.1 hx).1
    exact Ev.step (fun k => slices_IndexFunc_3_l.eq k rs p n (rs.length : Int) (i : Int)) (Ev.yes (lt_nat hi) (Ev.yes (inB_nat hi) (by rw [Int.toNat_natCast, getD_at hx]; exact H)))
  have srch := Ev.search (L := fun k i => slices_IndexFunc_3_l k (rs, (p, n), (rs.length : Int), i)) (n := rs.length) (fun i => ∃ x, rs[i]? = some x ∧ Hit p n x) (fun i => .inl (i : Int)) (.inr ())
    (fun i hi hp r H => by
      obtain ⟨x, hx⟩ := nat_list hi
      exact step i x hx r (Ev.bind ((test x).isF fun q => hp ⟨x, hx, q⟩) (Ev.no rfl (by rw [w64_succ (by omega)]; exact H))))
    (fun i hi hp => by
      obtain ⟨x, hx, hn⟩ := hp
      exact step i x hx _ (Ev.bind ((test x).isT hn) (Ev.yes rfl (Ev.now _))))
    (Ev.step (fun k => slices_IndexFunc_3_l.eq k rs p n (rs.length : Int) (rs.length : Int)) (Ev.no (not_lt_nat (Nat.lt_irrefl _)) (Ev.now _))) rs.length 0 (by omega)
  have go : ∀ r, Ev (fun k => (slices_IndexFunc_3_l k (rs, (p, n), (rs.length : Int), ((0 : Nat) : Int))).bind fun r1 => r1.elim (fun r2 => some r2) (fun r3 => some (-1))) r → Ev (fun k => impl_Table_before k ((st, ti, rs), p, n)) r := fun r H =>
    Ev.step (fun k => impl_Table_before.eq k st ti rs p n) (Ev.bind (Ev.step (fun k => slices_IndexFunc_3.eq k rs p n) H) (Ev.now _))
  rcases srch with ⟨h1, h2⟩ | ⟨j, _, hj, ⟨x, hx, hn⟩, h1, h2⟩
  · refine .inl ⟨fun r hr hh => ?_, go _ (Ev.bind h2 (Ev.now _))⟩
    obtain ⟨i, hi⟩ := List.mem_iff_getElem?.1 hr
    exact h1 i (Nat.zero_le _) (List.getElem?_eq_some_iff.1 hi).1 ⟨r, hi, hh⟩
  · exact .inr ⟨j, x, hx, hn, fun l q hl hq hh => h1 l (Nat.zero_le _) hl ⟨q, hq, hh⟩, go _ (Ev.bind h2 (Ev.now _))⟩
/-- No two rows have the same Paint and Next. -/
def ApartR (rs : List Rw) : Prop := ∀ (i l : Nat) (x q : Rw), l < i → rs[i]? = some x → rs[l]? = some q → ¬ Hit x.1 x.2.2 q
theorem canUndo_ev (st ti : Int) (rs : List Rw) (hl : rs.length ≤ 1048576) : EvB (fun k => impl_Table_canUndo k (st, ti, rs)) (ApartR rs) := by
  have step : ∀ (i : Nat) (x : Rw), rs[i]? = some x → ∀ r, Ev (fun k => (impl_Table_before k ((st, ti, rs), x.1, x.2.2)).bind fun r1 => cond (r1 != (i : Int)) (some (.inl false)) (impl_Table_canUndo_l k ((st, ti, rs), (), (rs.length : Int), w64 ((i : Int) + 1)))) r → Ev (fun k => impl_Table_canUndo_l k ((st, ti, rs), (), (rs.length : Int), (i : Int))) r := fun i x hx r H => by
    have hi := (List.getElem?_eq_some_iff.1 hx).1
    exact Ev.step (fun k => impl_Table_canUndo_l.eq k st ti rs (rs.length : Int) (i : Int)) (Ev.yes (lt_nat hi) (Ev.yes (inB_nat hi) (by rw [Int.toNat_natCast, getD_at hx]; exact H)))
  have srch := Ev.search (L := fun k i => impl_Table_canUndo_l k ((st, ti, rs), (), (rs.length : Int), i)) (n := rs.length) (fun i => ∃ (l : Nat) (x q : Rw), l < i ∧ rs[i]? = some x ∧ rs[l]? = some q ∧ Hit x.1 x.2.2 q) (fun i => .inl false) (.inr ())
    (fun i hi hp r H => by
      obtain ⟨x, hx⟩ := nat_list hi
      refine step i x hx r ?_
      rcases before_ev st ti rs hl x.1 x.2.2 with ⟨h1, _⟩ | ⟨j, q, hq, hh, h1, h2⟩
      · exact absurd ⟨rfl, rfl⟩ (h1 x (List.mem_of_getElem? hx))
      · have hji : j = i := by
          rcases Nat.lt_trichotomy j i with h | h | h
          · exact absurd ⟨j, x, q, h, hx, hq, hh⟩ hp
          · exact h
          · exact absurd ⟨rfl, rfl⟩ (h1 i x h hx)
        subst hji
        exact Ev.bind h2 (Ev.no (neq_self _) (by rw [w64_succ (by omega)]; exact H)))
    (fun i hi hp => by
      obtain ⟨l, x, q, hli, hx, hq, hh⟩ := hp
      refine step i x hx _ ?_
      rcases before_ev st ti rs hl x.1 x.2.2 with ⟨h1, _⟩ | ⟨j, q', hq', hh', h1, h2⟩
      · exact absurd ⟨rfl, rfl⟩ (h1 x (List.mem_of_getElem? hx))
      · have hji : j ≤ l := by
          rcases Nat.lt_or_ge l j with h | h
          · exact absurd hh (h1 l q h hq)
          · exact h
        exact Ev.bind h2 (Ev.yes (by rw [bne_iff_ne]; omega) (Ev.now _)))
    (Ev.step (fun k => impl_Table_canUndo_l.eq k st ti rs (rs.length : Int) (rs.length : Int)) (Ev.no (not_lt_nat (Nat.lt_irrefl _)) (Ev.now _))) rs.length 0 (by omega)
  refine EvB.step (fun k => impl_Table_canUndo.eq k st ti rs) ?_
  rcases srch with ⟨h1, h2⟩ | ⟨j, _, hj, ⟨l, x, q, hlj, hx, hq, hh⟩, _, h2⟩
  · exact ⟨true, Ev.bind h2 (Ev.now _), ⟨fun _ i l x q hli hx hq hh => h1 i (Nat.zero_le _) (List.getElem?_eq_some_iff.1 hx).1 ⟨l, x, q, hli, hx, hq, hh⟩, fun _ => rfl⟩⟩
  · exact ⟨false, Ev.bind h2 (Ev.now _), ⟨nofun, fun H => absurd hh (H j l x q hlj hx hq)⟩⟩
theorem taUndo_l_l_ev (st ti : Int) (rs : List Rw) (hl : rs.length ≤ 1048576) (x : Rw) (t9 t10 : Int) (ts : List Rw) (hts : ts.length ≤ 1048576) :
    ((∀ r ∈ ts, ¬ Hit x.1 x.2.2 r) ∧ Ev (fun k => spec_taUndo_l_l k ((st, ti, rs), x, (), t9, t10, ts, (ts.length : Int), 0)) (.inr ((st, ti, rs), (), t9, t10))) ∨
    ((∃ r ∈ ts, Hit x.1 x.2.2 r) ∧ Ev (fun k => spec_taUndo_l_l k ((st, ti, rs), x, (), t9, t10, ts, (ts.length : Int), 0)) (.inl false)) := by
  have step : ∀ (i : Nat) (y : Rw), ts[i]? = some y → ∀ r, Ev (fun k => cond (x.1 == y.1) (cond (x.2.2 == y.2.2) (some (.inl false)) (spec_taUndo_l_l k ((st, ti, rs), x, (), t9, t10, ts, (ts.length : Int), w64 ((i : Int) + 1)))) (spec_taUndo_l_l k ((st, ti, rs), x, (), t9, t10, ts, (ts.length : Int), w64 ((i : Int) + 1)))) r →
      Ev (fun k => spec_taUndo_l_l k ((st, ti, rs), x, (), t9, t10, ts, (ts.length : Int), (i : Int))) r := fun i y hy r H => by
    have hi := (List.getElem?_eq_some_iff.1 hy).1
    exact Ev.step (fun k => spec_taUndo_l_l.eq k st ti rs x.1 x.2.1 x.2.2 t9 t10 ts (ts.length : Int) (i : Int)) (Ev.yes (lt_nat hi) (Ev.yes (inB_nat hi) (by rw [Int.toNat_natCast, getD_at hy]; exact H)))
  have srch := Ev.search (L := fun k i => spec_taUndo_l_l k ((st, ti, rs), x, (), t9, t10, ts, (ts.length : Int), i)) (n := ts.length) (fun i => ∃ y, ts[i]? = some y ∧ Hit x.1 x.2.2 y) (fun i => .inl false) (.inr ((st, ti, rs), (), t9, t10))
    (fun i hi hp r H => by
      obtain ⟨y, hy⟩ := nat_list hi
      refine step i y hy r ?_
      have H' : Ev (fun k => spec_taUndo_l_l k ((st, ti, rs), x, (), t9, t10, ts, (ts.length : Int), w64 ((i : Int) + 1))) r := by rw [w64_succ (by omega)]; exact H
      exact Ev.cond (fun a => Ev.cond (fun b => absurd ⟨y, hy, (beq_iff_eq.1 a).symm, (beq_iff_eq.1 b).symm⟩ hp) fun _ => H') fun _ => H')
    (fun i hi hp => by
      obtain ⟨y, hy, h1, h2⟩ := hp
      exact step i y hy _ (Ev.yes (beq_iff_eq.2 h1.symm) (Ev.yes (beq_iff_eq.2 h2.symm) (Ev.now _))))
    (Ev.step (fun k => spec_taUndo_l_l.eq k st ti rs x.1 x.2.1 x.2.2 t9 t10 ts (ts.length : Int) (ts.length : Int)) (Ev.no (not_lt_nat (Nat.lt_irrefl _)) (Ev.now _))) ts.length 0 (by omega)
  rcases srch with ⟨h1, h2⟩ | ⟨j, _, hj, ⟨y, hy, hh⟩, _, h2⟩
  · refine .inl ⟨fun r hr hh => ?_, h2⟩
    obtain ⟨i, hi⟩ := List.mem_iff_getElem?.1 hr
    exact h1 i (Nat.zero_le _) (List.getElem?_eq_some_iff.1 hi).1 ⟨r, hi, hh⟩
  · exact .inr ⟨⟨y, List.mem_of_getElem? hy, hh⟩, h2⟩
theorem taUndo_ev (st ti : Int) (rs : List Rw) (hl : rs.length ≤ 1048576) : EvB (fun k => spec_taUndo k (st, ti, rs)) (ApartR rs) := by
  have step : ∀ (i : Nat) (x : Rw), rs[i]? = some x → ∀ r, Ev (fun k => (spec_taUndo_l_l k ((st, ti, rs), x, (), (rs.length : Int), (i : Int), rs.take i, ((rs.take i).length : Int), 0)).bind fun r1 => r1.elim (fun r2 => some (.inl r2)) (fun r3 => spec_taUndo_l k (r3.1, (), r3.2.2.1, w64 (r3.2.2.2 + 1)))) r → Ev (fun k => spec_taUndo_l k ((st, ti, rs), (), (rs.length : Int), (i : Int))) r := fun i x hx r H => by
    have hi := (List.getElem?_eq_some_iff.1 hx).1
    exact Ev.step (fun k => spec_taUndo_l.eq k st ti rs (rs.length : Int) (i : Int)) (Ev.yes (lt_nat hi) (Ev.yes (inB_nat hi) (Ev.yes (by rw [decide_eq_true (by omega), decide_eq_true (by omega)]; rfl) (by rw [Int.toNat_natCast, getD_at hx]; exact H))))
  have tk : ∀ (i : Nat) (q : Rw), q ∈ rs.take i ↔ ∃ l, l < i ∧ rs[l]? = some q := fun i q => by
    rw [List.mem_iff_getElem?]
    constructor
    · rintro ⟨l, hq⟩
      rw [List.getElem?_take] at hq
      split at hq
      · exact ⟨l, by assumption, hq⟩
      · cases hq
    · rintro ⟨l, h, hq⟩
      exact ⟨l, by rw [List.getElem?_take, if_pos h]; exact hq⟩
  have htl : ∀ i, (rs.take i).length ≤ 1048576 := fun i => by rw [List.length_take]; omega
  have srch := Ev.search (L := fun k i => spec_taUndo_l k ((st, ti, rs), (), (rs.length : Int), i)) (n := rs.length) (fun i => ∃ (l : Nat) (x q : Rw), l < i ∧ rs[i]? = some x ∧ rs[l]? = some q ∧ Hit x.1 x.2.2 q) (fun i => .inl false) (.inr ())
    (fun i hi hp r H => by
      obtain ⟨x, hx⟩ := nat_list hi
      refine step i x hx r ?_
      rcases taUndo_l_l_ev st ti rs hl x (rs.length : Int) (i : Int) (rs.take i) (htl i) with ⟨_, h2⟩ | ⟨⟨q, hq, hh⟩, _⟩
      · exact Ev.bind h2 (by show Ev (fun k => spec_taUndo_l k ((st, ti, rs), (), (rs.length : Int), w64 ((i : Int) + 1))) r; rw [w64_succ (by omega)]; exact H)
      · obtain ⟨l, hli, hq⟩ := (tk i q).1 hq
        exact absurd ⟨l, x, q, hli, hx, hq, hh⟩ hp)
    (fun i hi hp => by
      obtain ⟨l, x, q, hli, hx, hq, hh⟩ := hp
      refine step i x hx _ ?_
      rcases taUndo_l_l_ev st ti rs hl x (rs.length : Int) (i : Int) (rs.take i) (htl i) with ⟨h1, _⟩ | ⟨_, h2⟩
      · exact absurd hh (h1 q ((tk i q).2 ⟨l, hli, hq⟩))
      · exact Ev.bind h2 (Ev.now _))
    (Ev.step (fun k => spec_taUndo_l.eq k st ti rs (rs.length : Int) (rs.length : Int)) (Ev.no (not_lt_nat (Nat.lt_irrefl _)) (Ev.now _))) rs.length 0 (by omega)
  refine EvB.step (fun k => spec_taUndo.eq k st ti rs) ?_
  rcases srch with ⟨h1, h2⟩ | ⟨j, _, hj, ⟨l, x, q, hlj, hx, hq, hh⟩, _, h2⟩
  · exact ⟨true, Ev.bind h2 (Ev.now _), ⟨fun _ i l x q hli hx hq hh => h1 i (Nat.zero_le _) (List.getElem?_eq_some_iff.1 hx).1 ⟨l, x, q, hli, hx, hq, hh⟩, fun _ => rfl⟩⟩
  · exact ⟨false, Ev.bind h2 (Ev.now _), ⟨nofun, fun H => absurd hh (H j l x q hlj hx hq)⟩⟩
/-- A loop that looks for the first element with a property. -/
theorem Ev.find {α R : Type} (l : List α) (hl : l.length ≤ 1048576) (P : α → Prop) (L : Nat → Int → Option R) (X : Nat → R) (Y : R)
    (st : ∀ (i : Nat) (x : α), l[i]? = some x → ∀ r, (P x → r = X i) → (¬ P x → Ev (fun k => L k (w64 ((i : Int) + 1))) r) → Ev (fun k => L k (i : Int)) r)
    (en : Ev (fun k => L k (l.length : Int)) Y) :
    ((∀ x ∈ l, ¬ P x) ∧ Ev (fun k => L k 0) Y) ∨ ∃ (j : Nat) (x : α), l[j]? = some x ∧ P x ∧ (∀ (i : Nat) (y : α), i < j → l[i]? = some y → ¬ P y) ∧ Ev (fun k => L k 0) (X j) := by
  have srch := Ev.search (L := L) (n := l.length) (fun i => ∃ x, l[i]? = some x ∧ P x) X Y
    (fun i hi hp r H => by
      obtain ⟨x, hx⟩ := nat_list hi
      exact st i x hx r (fun h => absurd ⟨x, hx, h⟩ hp) fun _ => by rw [w64_succ (by omega)]; exact H)
    (fun i hi hp => by
      obtain ⟨x, hx, h⟩ := hp
      exact st i x hx _ (fun _ => rfl) fun h' => absurd h h') en l.length 0 (by omega)
  rcases srch with ⟨h1, h2⟩ | ⟨j, _, hj, ⟨x, hx, hn⟩, h1, h2⟩
  · refine .inl ⟨fun r hr hh => ?_, h2⟩
    obtain ⟨i, hi⟩ := List.mem_iff_getElem?.1 hr
    exact h1 i (Nat.zero_le _) (List.getElem?_eq_some_iff.1 hi).1 ⟨r, hi, hh⟩
  · exact .inr ⟨j, x, hx, hn, fun l' q hl' hq hh => h1 l' (Nat.zero_le _) hl' ⟨q, hq, hh⟩, h2⟩
theorem EvB.go {R : Type} {g : Nat → Option Bool} {P : Prop} {h1 h2 : Nat → Option R} {r : R} (H : EvB g P) (H1 : P → Ev h1 r) (H2 : ¬ P → Ev h2 r) : Ev (fun k => (g k).bind fun b => cond b (h1 k) (h2 k)) r := by
  by_cases p : P
  · exact Ev.bind (H.isT p) (Ev.yes rfl (H1 p))
  · exact Ev.bind (H.isF p) (Ev.no rfl (H2 p))
theorem EvB.goN {R : Type} {g : Nat → Option Bool} {P : Prop} {h1 h2 : Nat → Option R} {r : R} (H : EvB g P) (H1 : ¬ P → Ev h1 r) (H2 : P → Ev h2 r) : Ev (fun k => (g k).bind fun b => cond (!b) (h1 k) (h2 k)) r := by
  by_cases p : P
  · exact Ev.bind (H.isT p) (Ev.no rfl (H2 p))
  · exact Ev.bind (H.isF p) (Ev.yes rfl (H1 p))
theorem evGoB {R : Type} {b : Bool} {P : Prop} {h1 h2 : Nat → Option R} {r : R} (H : b = true ↔ P) (H1 : P → Ev h1 r) (H2 : ¬ P → Ev h2 r) : Ev (fun k => cond b (h1 k) (h2 k)) r := by
  cases b with
  | true => exact H1 (H.1 rfl)
  | false => exact H2 fun p => Bool.noConfusion (H.2 p)
theorem le_two {a b c : Int} (h1 : a ≤ b) (h2 : b ≤ c) : (decide (a ≤ b) && decide (b ≤ c)) = true := by rw [decide_eq_true h1, decide_eq_true h2]; rfl
section
variable (l : List Int) (hl : l.length ≤ 1048576)
include hl
theorem indexI_ev (v : Int) : (v ∉ l ∧ Ev (fun k => slices_Index k (l, v)) (-1)) ∨ ∃ j : Nat, v ∈ l ∧ Ev (fun k => slices_Index k (l, v)) (j : Int) := by
  have srch := Ev.find l hl (fun x => v = x) (fun k i => slices_Index_l k (l, v, (l.length : Int), i)) (fun i => .inl (i : Int)) (.inr ())
    (fun i x hx r h1 h2 => by
      have hi := (List.getElem?_eq_some_iff.1 hx).1
      refine Ev.step (fun k => slices_Index_l.eq k l v (l.length : Int) (i : Int)) (Ev.yes (lt_nat hi) (Ev.yes (inB_nat hi) ?_))
      rw [Int.toNat_natCast, getD_at hx]
      exact evGoB beq_iff_eq (fun h => Ev.now' (h1 h).symm) h2)
    (Ev.step (fun k => slices_Index_l.eq k l v (l.length : Int) (l.length : Int)) (Ev.no (not_lt_nat (Nat.lt_irrefl _)) (Ev.now _)))
  rcases srch with ⟨h1, h2⟩ | ⟨j, x, hx, rfl, _, h2⟩
  · exact .inl ⟨fun h => h1 v h rfl, Ev.step (fun k => slices_Index.eq k l v) (Ev.bind h2 (Ev.now _))⟩
  · exact .inr ⟨j, List.mem_of_getElem? hx, Ev.step (fun k => slices_Index.eq k l v) (Ev.bind h2 (Ev.now _))⟩
theorem containsI_ev (v : Int) : EvB (fun k => slices_Contains k (l, v)) (v ∈ l) := by
  refine EvB.step (fun k => slices_Contains.eq k l v) ?_
  rcases indexI_ev l hl v with ⟨h, e⟩ | ⟨j, h, e⟩
  · exact ⟨_, Ev.bind e (Ev.now _), ⟨fun h' => by simp at h', fun h' => absurd h' h⟩⟩
  · exact ⟨_, Ev.bind e (Ev.now _), ⟨fun _ => h, fun _ => decide_eq_true (by omega)⟩⟩
theorem l1Has_ev (v : Int) : EvB (fun k => spec_l1Has k (l, v)) (v ∈ l) := by
  have srch := Ev.find l hl (fun x => x = v) (fun k i => spec_l1Has_l k (v, l, (l.length : Int), i)) (fun i => .inl true) (.inr ())
    (fun i x hx r h1 h2 => by
      have hi := (List.getElem?_eq_some_iff.1 hx).1
      refine Ev.step (fun k => spec_l1Has_l.eq k v l (l.length : Int) (i : Int)) (Ev.yes (lt_nat hi) (Ev.yes (inB_nat hi) ?_))
      rw [Int.toNat_natCast, getD_at hx]
      exact evGoB beq_iff_eq (fun h => Ev.now' (h1 h).symm) h2)
    (Ev.step (fun k => spec_l1Has_l.eq k v l (l.length : Int) (l.length : Int)) (Ev.no (not_lt_nat (Nat.lt_irrefl _)) (Ev.now _)))
  refine EvB.step (fun k => spec_l1Has.eq k l v) ?_
  rcases srch with ⟨h1, h2⟩ | ⟨j, x, hx, rfl, _, h2⟩
  · exact ⟨_, Ev.bind h2 (Ev.now _), ⟨fun h' => by simp at h', fun h' => absurd rfl (h1 v h')⟩⟩
  · exact ⟨_, Ev.bind h2 (Ev.now _), ⟨fun _ => List.mem_of_getElem? hx, fun _ => rfl⟩⟩
theorem dHas_ev (v : Int) : EvB (fun k => laws_dHas k (l, v)) (v ∈ l) := by
  have srch := Ev.find l hl (fun x => x = v) (fun k i => laws_dHas_l k (v, l, (l.length : Int), i)) (fun i => .inl true) (.inr ())
    (fun i x hx r h1 h2 => by
      have hi := (List.getElem?_eq_some_iff.1 hx).1
      refine Ev.step (fun k => laws_dHas_l.eq k v l (l.length : Int) (i : Int)) (Ev.yes (lt_nat hi) (Ev.yes (inB_nat hi) ?_))
      rw [Int.toNat_natCast, getD_at hx]
      exact evGoB beq_iff_eq (fun h => Ev.now' (h1 h).symm) h2)
    (Ev.step (fun k => laws_dHas_l.eq k v l (l.length : Int) (l.length : Int)) (Ev.no (not_lt_nat (Nat.lt_irrefl _)) (Ev.now _)))
  refine EvB.step (fun k => laws_dHas.eq k l v) ?_
  rcases srch with ⟨h1, h2⟩ | ⟨j, x, hx, rfl, _, h2⟩
  · exact ⟨_, Ev.bind h2 (Ev.now _), ⟨fun h' => by simp at h', fun h' => absurd rfl (h1 v h')⟩⟩
  · exact ⟨_, Ev.bind h2 (Ev.now _), ⟨fun _ => List.mem_of_getElem? hx, fun _ => rfl⟩⟩
theorem dSame_ev : Ev (fun k => laws_dSame k (l, l)) true := by
  have srch := Ev.find l hl (fun x => False) (fun k i => laws_dSame_l k (l, l, (l.length : Int), i)) (fun i => .inl false) (.inr ())
    (fun i x hx r h1 h2 => by
      have hi := (List.getElem?_eq_some_iff.1 hx).1
      exact Ev.step (fun k => laws_dSame_l.eq k l l (l.length : Int) (i : Int)) (Ev.yes (lt_nat hi) (Ev.yes (inB_nat hi) (Ev.yes (inB_nat hi) (Ev.no (neq_self _) (h2 nofun))))))
    (Ev.step (fun k => laws_dSame_l.eq k l l (l.length : Int) (l.length : Int)) (Ev.no (not_lt_nat (Nat.lt_irrefl _)) (Ev.now _)))
  rcases srch with ⟨_, h2⟩ | ⟨_, _, _, h, _⟩
  · exact Ev.step (fun k => laws_dSame.eq k l l) (Ev.no (neq_self _) (Ev.bind h2 (Ev.now _)))
  · exact h.elim
/-! ### Orders -/
def InR (hi : Int) (x : Int) : Prop := 0 ≤ x ∧ x ≤ hi
def Diff (l : List Int) : Prop := ∀ (i : Nat) (x : Int), l[i]? = some x → x ∉ l.take i
theorem areWithin_ev (hi : Int) : EvB (fun k => impl_areWithin k (l, 0, hi)) (∀ x ∈ l, InR hi x) := by
  have srch := Ev.find l hl (fun x => ¬ InR hi x) (fun k i => slices_IndexFunc_2_l k (l, (0, hi), (l.length : Int), i)) (fun i => .inl (i : Int)) (.inr ())
    (fun i x hx r h1 h2 => by
      have hi' := (List.getElem?_eq_some_iff.1 hx).1
      refine Ev.step (fun k => slices_IndexFunc_2_l.eq k l 0 hi (l.length : Int) (i : Int)) (Ev.yes (lt_nat hi') (Ev.yes (inB_nat hi') ?_))
      rw [Int.toNat_natCast, getD_at hx]
      exact EvB.go (EvB.step (fun k => impl_areWithin_1.eq k x 0 hi) (within_ev x 0 hi).neg) (fun h => Ev.now' (h1 h).symm) h2)
    (Ev.step (fun k => slices_IndexFunc_2_l.eq k l 0 hi (l.length : Int) (l.length : Int)) (Ev.no (not_lt_nat (Nat.lt_irrefl _)) (Ev.now _)))
  have go : ∀ r, Ev (fun k => (slices_IndexFunc_2_l k (l, (0, hi), (l.length : Int), 0)).bind fun r1 => r1.elim (fun r2 => some r2) (fun r3 => some (-1))) r → Ev (fun k => impl_areWithin k (l, 0, hi)) (!decide (r ≥ 0)) := fun r H =>
    Ev.step (fun k => impl_areWithin.eq k l 0 hi) (Ev.bind (Ev.step (fun k => slices_ContainsFunc_2.eq k l 0 hi) (Ev.bind (Ev.step (fun k => slices_IndexFunc_2.eq k l 0 hi) H) (Ev.now _))) (Ev.now _))
  rcases srch with ⟨h1, h2⟩ | ⟨j, x, hx, hn, _, h2⟩
  · exact ⟨_, go _ (Ev.bind h2 (Ev.now _)), ⟨fun _ x hx => Classical.byContradiction (h1 x hx), fun _ => rfl⟩⟩
  · exact ⟨_, go _ (Ev.bind h2 (Ev.now _)), ⟨fun h => by simp at h, fun h => absurd (h x (List.mem_of_getElem? hx)) hn⟩⟩
theorem l1All_ev (hi : Int) : EvB (fun k => spec_l1All k (l, 0, hi)) (∀ x ∈ l, InR hi x) := by
  have srch := Ev.find l hl (fun x => ¬ InR hi x) (fun k i => spec_l1All_l k (0, hi, l, (l.length : Int), i)) (fun i => .inl false) (.inr ())
    (fun i x hx r h1 h2 => by
      have hi' := (List.getElem?_eq_some_iff.1 hx).1
      refine Ev.step (fun k => spec_l1All_l.eq k 0 hi l (l.length : Int) (i : Int)) (Ev.yes (lt_nat hi') (Ev.yes (inB_nat hi') ?_))
      rw [Int.toNat_natCast, getD_at hx]
      exact EvB.goN (l1In_ev x 0 hi) (fun h => Ev.now' (h1 h).symm) fun h => h2 (Classical.not_not.2 h))
    (Ev.step (fun k => spec_l1All_l.eq k 0 hi l (l.length : Int) (l.length : Int)) (Ev.no (not_lt_nat (Nat.lt_irrefl _)) (Ev.now _)))
  refine EvB.step (fun k => spec_l1All.eq k l 0 hi) ?_
  rcases srch with ⟨h1, h2⟩ | ⟨j, x, hx, hn, _, h2⟩
  · exact ⟨_, Ev.bind h2 (Ev.now _), ⟨fun _ x hx => Classical.byContradiction (h1 x hx), fun _ => rfl⟩⟩
  · exact ⟨_, Ev.bind h2 (Ev.now _), ⟨nofun, fun h => absurd (h x (List.mem_of_getElem? hx)) hn⟩⟩
theorem areDifferent_ev : EvB (fun k => impl_areDifferent k l) (Diff l) := by
  have hs := Ev.search (L := fun k i => impl_areDifferent_l k (l, (), (l.length : Int), i)) (n := l.length) (fun i => ∃ x, l[i]? = some x ∧ x ∈ l.take i) (fun i => .inl false) (.inr ())
    (fun i hi hp r H => by
      obtain ⟨x, hx⟩ := nat_list hi
      refine Ev.step (fun k => impl_areDifferent_l.eq k l (l.length : Int) (i : Int)) (Ev.yes (lt_nat hi) (Ev.yes (inB_nat hi) (Ev.yes (le_two (by omega) (by omega)) ?_)))
      rw [Int.toNat_natCast, getD_at hx]
      exact EvB.go (containsI_ev (l.take i) (by rw [List.length_take]; omega) x) (fun h => absurd ⟨x, hx, h⟩ hp) fun _ => by rw [w64_succ (by omega)]; exact H)
    (fun i hi hp => by
      obtain ⟨x, hx, h⟩ := hp
      refine Ev.step (fun k => impl_areDifferent_l.eq k l (l.length : Int) (i : Int)) (Ev.yes (lt_nat hi) (Ev.yes (inB_nat hi) (Ev.yes (le_two (by omega) (by omega)) ?_)))
      rw [Int.toNat_natCast, getD_at hx]
      exact EvB.go (containsI_ev (l.take i) (by rw [List.length_take]; omega) x) (fun _ => Ev.now _) fun h' => absurd h h')
    (Ev.step (fun k => impl_areDifferent_l.eq k l (l.length : Int) (l.length : Int)) (Ev.no (not_lt_nat (Nat.lt_irrefl _)) (Ev.now _))) l.length 0 (by omega)
  refine EvB.step (fun k => impl_areDifferent.eq k l) ?_
  rcases hs with ⟨h1, h2⟩ | ⟨j, _, hj, ⟨x, hx, hn⟩, _, h2⟩
  · exact ⟨_, Ev.bind h2 (Ev.now _), ⟨fun _ i x hx h => h1 i (Nat.zero_le _) (List.getElem?_eq_some_iff.1 hx).1 ⟨x, hx, h⟩, fun _ => rfl⟩⟩
  · exact ⟨_, Ev.bind h2 (Ev.now _), ⟨nofun, fun h => absurd hn (h j x hx)⟩⟩
theorem taOrder_l_ev : (Diff l ∧ Ev (fun k => spec_taOrder_l k (l, (), (l.length : Int), 0)) (.inr ())) ∨ (¬ Diff l ∧ Ev (fun k => spec_taOrder_l k (l, (), (l.length : Int), 0)) (.inl false)) := by
  have hs := Ev.search (L := fun k i => spec_taOrder_l k (l, (), (l.length : Int), i)) (n := l.length) (fun i => ∃ x, l[i]? = some x ∧ x ∈ l.take i) (fun i => .inl false) (.inr ())
    (fun i hi hp r H => by
      obtain ⟨x, hx⟩ := nat_list hi
      refine Ev.step (fun k => spec_taOrder_l.eq k l (l.length : Int) (i : Int)) (Ev.yes (lt_nat hi) (Ev.yes (inB_nat hi) (Ev.yes (le_two (by omega) (by omega)) ?_)))
      rw [Int.toNat_natCast, getD_at hx]
      exact EvB.go (l1Has_ev (l.take i) (by rw [List.length_take]; omega) x) (fun h => absurd ⟨x, hx, h⟩ hp) fun _ => by rw [w64_succ (by omega)]; exact H)
    (fun i hi hp => by
      obtain ⟨x, hx, h⟩ := hp
      refine Ev.step (fun k => spec_taOrder_l.eq k l (l.length : Int) (i : Int)) (Ev.yes (lt_nat hi) (Ev.yes (inB_nat hi) (Ev.yes (le_two (by omega) (by omega)) ?_)))
      rw [Int.toNat_natCast, getD_at hx]
      exact EvB.go (l1Has_ev (l.take i) (by rw [List.length_take]; omega) x) (fun _ => Ev.now _) fun h' => absurd h h')
    (Ev.step (fun k => spec_taOrder_l.eq k l (l.length : Int) (l.length : Int)) (Ev.no (not_lt_nat (Nat.lt_irrefl _)) (Ev.now _))) l.length 0 (by omega)
  rcases hs with ⟨h1, h2⟩ | ⟨j, _, hj, ⟨x, hx, hn⟩, _, h2⟩
  · exact .inl ⟨fun i x hx h => h1 i (Nat.zero_le _) (List.getElem?_eq_some_iff.1 hx).1 ⟨x, hx, h⟩, h2⟩
  · exact .inr ⟨fun h => absurd hn (h j x hx), h2⟩
def Ord (n : Int) (l : List Int) : Prop := (l.length : Int) = n ∧ (∀ x ∈ l, InR (n - 1) x) ∧ Diff l
theorem isOrder_ev (n : Int) (hn : 0 ≤ n ∧ n ≤ 1048576) : EvB (fun k => impl_isOrder k (l, n)) (Ord n l) := by
  have e1 : w64 (n - 1) = n - 1 := w64_of (by omega) (by omega)
  refine EvB.step (fun k => impl_isOrder.eq k l n) (EvB.ifT beq_iff_eq fun _ => ?_)
  rw [e1]
  exact EvB.and (areWithin_ev l hl (n - 1)) fun _ => (areDifferent_ev l hl).ret
theorem taOrder_ev (n : Int) (hn : 0 ≤ n ∧ n ≤ 1048576) : EvB (fun k => spec_taOrder k (n, l)) (Ord n l) := by
  have e1 : w64 (n - 1) = n - 1 := w64_of (by omega) (by omega)
  refine EvB.step (fun k => spec_taOrder.eq k n l) (EvB.ifN (P := (l.length : Int) = n) (by rw [bne_eq_false_iff_eq]) fun _ => ?_)
  rw [e1]
  refine EvB.and' (l1All_ev l hl (n - 1)) fun _ => ?_
  rcases taOrder_l_ev l hl with ⟨h, e⟩ | ⟨h, e⟩
  · exact ⟨true, Ev.bind e (Ev.now _), ⟨fun _ => h, fun _ => rfl⟩⟩
  · exact ⟨false, Ev.bind e (Ev.now _), ⟨nofun, fun h' => absurd h' h⟩⟩
end
/-! ### Comparisons -/
theorem ba_beq (s : ByteArray) : (s == s) = true := by show (s.data == s.data) = true; exact beq_self_eq_true _
theorem dTable_ev (st ti : Int) (a : List Rw) (hl : a.length ≤ 1048576) : Ev (fun k => laws_dTable k ((st, ti, a), (st, ti, a))) true := by
  have srch := Ev.find a hl (fun x => False) (fun k i => laws_dTable_l k ((st, ti, a), (st, ti, a), (a.length : Int), i)) (fun i => .inl false) (.inr ())
    (fun i x hx r h1 h2 => by
      have hi := (List.getElem?_eq_some_iff.1 hx).1
      exact Ev.step (fun k => laws_dTable_l.eq k st ti a st ti a (a.length : Int) (i : Int)) (Ev.yes (lt_nat hi) (Ev.yes (inB_nat hi) (Ev.yes (inB_nat hi) (Ev.no (by simp [ba_beq]) (h2 nofun))))))
    (Ev.step (fun k => laws_dTable_l.eq k st ti a st ti a (a.length : Int) (a.length : Int)) (Ev.no (not_lt_nat (Nat.lt_irrefl _)) (Ev.now _)))
  rcases srch with ⟨_, h2⟩ | ⟨_, _, _, h, _⟩
  · exact Ev.step (fun k => laws_dTable.eq k st ti a st ti a) (Ev.no (neq_self _) (Ev.no (neq_self _) (Ev.no (neq_self _) (Ev.bind h2 (Ev.now _)))))
  · exact h.elim
theorem dScene_ev (st ti : Int) (a : List Rw) (w h : Int) (cs : ByteArray) (x y wy sa : Int) (hl : a.length ≤ 1048576) : Ev (fun k => laws_dScene k ((st, ti, a, w, h, cs, x, y, wy, sa), (st, ti, a, w, h, cs, x, y, wy, sa))) true :=
  Ev.step (fun k => laws_dScene.eq k st ti a w h cs x y wy sa st ti a w h cs x y wy sa) (Ev.bind (dTable_ev st ti a hl) (Ev.yes rfl (Ev.yes (beq_self_eq_true _) (Ev.yes (beq_self_eq_true _) (Ev.yes (strEq_self _) (Ev.yes (beq_self_eq_true _) (Ev.yes (beq_self_eq_true _) (Ev.yes (beq_self_eq_true _) (Ev.now' (beq_self_eq_true _)))))))))) 
theorem CurOk.up {n m : Nat} {c : CurT} (h : CurOk n c) (hm : n ≤ m) (h' : m ≤ 1099511627776) : CurOk m c := by
  obtain ⟨h1, ⟨h2, h3⟩, h4⟩ := h
  exact ⟨h1, ⟨h2, by omega⟩, h'⟩
abbrev TaT : Type := Int × Int × List Rw
abbrev zeroTa : TaT := (0, 0, [])
theorem l1Own_ev (l : List Int) (hl : l.length ≤ 1048576) : Ev (fun k => spec_l1Own k l) l := Ev.step (fun k => spec_l1Own.eq k l) (Ev.yes (fits_of (by omega)) (Ev.now _))
theorem least_ev (a b : Int) : Ev (fun k => spec_l1Least k (a, b)) (if a < b then a else b) := by
  refine Ev.step (fun k => spec_l1Least.eq k a b) ?_
  by_cases h : a < b
  · rw [if_pos h]
    exact Ev.yes (decide_eq_true h) (Ev.now _)
  · rw [if_neg h]
    exact Ev.no (decide_eq_false h) (Ev.now _)
theorem sureTable_l_ev (st ti : Int) (hst : 1 ≤ st ∧ st ≤ 4) (hti : 1 ≤ ti ∧ ti ≤ 4) (u : Bool) : ∀ (m i n : Nat) (c : CurT) (ps : List Int), CurOk n c → n + 2 * m + 100 ≤ 1099511627776 → ((i + m : Nat) : Int) = st * ti → ps.length = i → (∀ x ∈ ps, 0 ≤ x ∧ x < st * ti) →
    ∃ ps' c', Ev (fun k => spec_l1Cur_sureTable_l k (c, zeroTa, (st, ti, []), u, ps, (i : Int), ())) (c', zeroTa, (st, ti, []), u, ps', ()) ∧ (ps'.length : Int) = st * ti ∧ (∀ x ∈ ps', 0 ≤ x ∧ x < st * ti) ∧ CurOk (n + 2 * m) c'
  | 0, i, n, c, ps, H, hn, hm, hl, hp => by
    have hr := mul_range (a := st) (b := ti) (by omega) (by omega) (by omega) (by omega)
    obtain ⟨code, at_, seed⟩ := c
    exact ⟨ps, _, Ev.step (fun k => spec_l1Cur_sureTable_l.eq k code at_ seed 0 0 [] st ti [] u ps (i : Int)) (Ev.no (decide_eq_false (by rw [w64_of (by omega) (by omega)]; omega)) (Ev.now _)), by omega, hp, H⟩
  | m + 1, i, n, c, ps, H, hn, hm, hl, hp => by
    have hr := mul_range (a := st) (b := ti) (by omega) (by omega) (by omega) (by omega)
    obtain ⟨r, c1, e1, h0, h1, H1⟩ := pick_ev n c H (by omega) ((i : Int) + 1)
    have h1 := h1 (by omega)
    have hw : w64 ((i : Int) + 1) = (i : Int) + 1 := w64_of (by omega) (by omega)
    have hw2 : (i : Int) + 1 = ((i + 1 : Nat) : Int) := by omega
    have ho := l1Own_ev (ps.take r.toNat) (by rw [List.length_take]; omega)
    have hz : ((ps.take r.toNat ++ [(i : Int)]) ++ ((ps.drop r.toNat).take (ps.length - r.toNat))).length = i + 1 := by
      simp only [List.length_append, List.length_take, List.length_drop, List.length_cons, List.length_nil]
      omega
    obtain ⟨ps', c2, e2, z2, p2, H2⟩ := sureTable_l_ev st ti hst hti u m (i + 1) (n + 2) c1 _ H1 (by omega) (by omega) hz (fun x hx => by
      rcases List.mem_append.1 hx with hx | hx
      · rcases List.mem_append.1 hx with hx | hx
        · exact hp x (List.mem_of_mem_take hx)
        · simp only [List.mem_cons, List.not_mem_nil, or_false] at hx
          subst hx
          omega
      · exact hp x (List.mem_of_mem_drop (List.mem_of_mem_take hx)))
    obtain ⟨code, at_, seed⟩ := c
    refine ⟨ps', c2, Ev.step (fun k => spec_l1Cur_sureTable_l.eq k code at_ seed 0 0 [] st ti [] u ps (i : Int)) (Ev.yes (decide_eq_true (by rw [w64_of (by omega) (by omega)]; omega)) ?_), z2, p2, by rw [show n + 2 * (m + 1) = n + 2 + 2 * m by omega]; exact H2⟩
    rw [hw]
    refine Ev.bind e1 (Ev.yes (le_two h0 (by omega)) (Ev.bind ho (Ev.yes (fits_of (by simp only [List.length_take]; omega)) (Ev.yes (le_two h0 (by omega)) (Ev.yes (fits_of (by simp only [List.length_append, List.length_take, List.length_drop, List.length_cons, List.length_nil]; omega)) ?_)))))
    rw [hw2]
    exact e2
theorem pair_ok {st ti x : Int} (hst : 1 ≤ st ∧ st ≤ 4) (hti : 1 ≤ ti ∧ ti ≤ 4) (hx : 0 ≤ x ∧ x < st * ti) : (0 ≤ x.tmod ti ∧ x.tmod ti ≤ ti - 1) ∧ (0 ≤ x.tdiv ti ∧ x.tdiv ti ≤ st - 1) ∧ w64 (x.tdiv ti) = x.tdiv ti := by
  have h1 := Int.tmod_lt_of_pos x (show (0 : Int) < ti by omega)
  have h2 := Int.tmod_nonneg ti hx.1
  have h3 : 0 ≤ x.tdiv ti := Int.tdiv_nonneg hx.1 (by omega)
  have h4 : x.tdiv ti < st := by rw [Int.tdiv_eq_ediv_of_nonneg hx.1]; exact Int.ediv_lt_of_lt_mul (by omega) hx.2
  exact ⟨⟨h2, by omega⟩, ⟨h3, by omega⟩, w64_of (by omega) (by omega)⟩
theorem sign_of {t : ByteArray} (h : t ∈ [bs [76], bs [82], bs [78], bs [85]]) : Sign t := by
  simp only [List.mem_cons, List.not_mem_nil, or_false] at h
  rcases h with rfl | rfl | rfl | rfl
  · exact ⟨76, rfl, by decide⟩
  · exact ⟨82, rfl, by decide⟩
  · exact ⟨78, rfl, by decide⟩
  · exact ⟨85, rfl, by decide⟩
theorem sureTable_l_2_ev (st ti : Int) (hst : 1 ≤ st ∧ st ≤ 4) (hti : 1 ≤ ti ∧ ti ≤ 4) (u : Bool) (ps : List Int) (hz : (ps.length : Int) = st * ti) (hp : ∀ x ∈ ps, 0 ≤ x ∧ x < st * ti) : ∀ (m i n : Nat) (c : CurT) (rs : List Rw), CurOk n c → n + 4 * m + 100 ≤ 1099511627776 → i + m = ps.length → rs.length = i → (∀ r ∈ rs, RowOk st ti r) →
    ∃ rs' c', Ev (fun k => spec_l1Cur_sureTable_l_2 k (c, zeroTa, (st, ti, rs), u, ps, (i : Int), ())) (zeroTa, (st, ti, rs'), c') ∧ TabOk st ti rs' ∧ CurOk (n + 4 * m) c'
  | 0, i, n, c, rs, H, hn, hm, hl, hr => by
    have hq := mul_range (a := st) (b := ti) (by omega) (by omega) (by omega) (by omega)
    obtain ⟨code, at_, seed⟩ := c
    exact ⟨rs, _, Ev.step (fun k => spec_l1Cur_sureTable_l_2.eq k code at_ seed 0 0 [] st ti rs u ps (i : Int)) (Ev.no (decide_eq_false (by rw [w64_of (by omega) (by omega)]; omega)) (Ev.now _)), ⟨hst, hti, by omega, hr⟩, H⟩
  | m + 1, i, n, c, rs, H, hn, hm, hl, hr => by
    have hq := mul_range (a := st) (b := ti) (by omega) (by omega) (by omega) (by omega)
    obtain ⟨x, hx⟩ := nat_list (l := ps) (i := i) (by omega)
    have hti0 : (ti != 0) = true := by rw [bne_iff_ne]; omega
    have hw2 : w64 ((i : Int) + 1) = ((i + 1 : Nat) : Int) := w64_succ (by omega)
    have hB : inB (i : Int) ps.length = true := inB_nat (by omega)
    have step : ∀ (x : Int) (n' : Nat) (c' : CurT), 0 ≤ x ∧ x < st * ti → CurOk n' c' → n' ≤ n + 2 → ∃ (t : ByteArray) (c2 : CurT) (rs' : List Rw) (c3 : CurT), Ev (fun k => spec_l1Cur_of k (c', [bs [76], bs [82], bs [78], bs [85]])) (t, c2) ∧
        Ev (fun k => spec_l1Cur_sureTable_l_2 k (c2, zeroTa, (st, ti, rs ++ [(x.tmod ti, t, w64 (x.tdiv ti))]), u, ps, w64 ((i : Int) + 1), ())) (zeroTa, (st, ti, rs'), c3) ∧ TabOk st ti rs' ∧ CurOk (n + 4 * (m + 1)) c3 := fun x n' c' hx H' hn' => by
      obtain ⟨t, c2, e2, ht, H2⟩ := of_ev n' c' H' (by omega) [bs [76], bs [82], bs [78], bs [85]] (by decide)
      obtain ⟨q1, q2, q3⟩ := pair_ok hst hti hx
      obtain ⟨rs', c3, e3, o3, H3⟩ := sureTable_l_2_ev st ti hst hti u ps hz hp m (i + 1) (n + 4) c2 (rs ++ [(x.tmod ti, t, w64 (x.tdiv ti))]) (H2.up (by omega) (by omega)) (by omega) (by omega) (by rw [List.length_append]; simp [hl]) (fun r hr' => by
        rcases List.mem_append.1 hr' with hr' | hr'
        · exact hr r hr'
        · simp only [List.mem_cons, List.not_mem_nil, or_false] at hr'
          subst hr'
          rw [q3]
          exact ⟨q1, sign_of ht, q2⟩)
      exact ⟨t, c2, rs', c3, e2, by rw [hw2]; exact e3, o3, by rw [show n + 4 * (m + 1) = n + 4 + 4 * m by omega]; exact H3⟩
    cases u with
    | false =>
      obtain ⟨r, c1, e1, h0, h1, H1⟩ := pick_ev n c H (by omega) (st * ti)
      have h1 := h1 (by omega)
      obtain ⟨t, c2, rs', c3, e2, e3, o3, H3⟩ := step r _ c1 ⟨h0, h1⟩ H1 (Nat.le_refl _)
      obtain ⟨code, at_, seed⟩ := c
      refine ⟨rs', c3, Ev.step (fun k => spec_l1Cur_sureTable_l_2.eq k code at_ seed 0 0 [] st ti rs false ps (i : Int)) (Ev.yes (decide_eq_true (by rw [w64_of (by omega) (by omega)]; omega)) (Ev.yes hB (Ev.yes rfl ?_))), o3, H3⟩
      rw [w64_of (n := st * ti) (by omega) (by omega)]
      exact Ev.bind e1 (Ev.yes hti0 (Ev.bind e2 (Ev.yes hti0 (Ev.yes (fits_of (by omega)) e3))))
    | true =>
      obtain ⟨t, c2, rs', c3, e2, e3, o3, H3⟩ := step x _ c (hp x (List.mem_of_getElem? hx)) H (by omega)
      obtain ⟨code, at_, seed⟩ := c
      refine ⟨rs', c3, Ev.step (fun k => spec_l1Cur_sureTable_l_2.eq k code at_ seed 0 0 [] st ti rs true ps (i : Int)) (Ev.yes (decide_eq_true (by rw [w64_of (by omega) (by omega)]; omega)) (Ev.yes hB (Ev.no rfl (Ev.yes hti0 (Ev.bind e2 (Ev.yes hti0 (Ev.yes (fits_of (by omega)) ?_))))))), o3, H3⟩
      rw [Int.toNat_natCast, getD_at hx]
      exact e3
theorem sureTable_ev (n : Nat) (c : CurT) (H : CurOk n c) (hn : n + 1000 ≤ 1099511627776) : ∃ t c', Ev (fun k => spec_l1Cur_sureTable k c) (t, c') ∧ TabOk t.1 t.2.1 t.2.2 ∧ CurOk (n + 200) c' := by
  obtain ⟨r1, c1, e1, p1, q1, H1⟩ := pick_ev n c H (by omega) 3
  obtain ⟨r2, c2, e2, p2, q2, H2⟩ := pick_ev _ c1 H1 (by omega) 3
  have q1 := q1 (by omega)
  have q2 := q2 (by omega)
  obtain ⟨b, c3, e3, H3⟩ := one_ev _ c2 H2 (by omega) 2
  have w1 : w64 (1 + r1) = 1 + r1 := w64_of (by omega) (by omega)
  have w2 : w64 (1 + r2) = 1 + r2 := w64_of (by omega) (by omega)
  have hm := mul_range (a := 1 + r1) (b := 1 + r2) (by omega) (by omega) (by omega) (by omega)
  have hm4 : (1 + r1) * (1 + r2) ≤ 3 * 3 := Int.mul_le_mul (by omega) (by omega) (by omega) (by omega)
  obtain ⟨ps, c4, e4, z4, p4, H4⟩ := sureTable_l_ev (1 + r1) (1 + r2) (by omega) (by omega) b ((1 + r1) * (1 + r2)).toNat 0 _ c3 [] H3 (by omega) (by omega) rfl (fun x hx => by cases hx)
  obtain ⟨rs, c5, e5, o5, H5⟩ := sureTable_l_2_ev (1 + r1) (1 + r2) (by omega) (by omega) b ps z4 p4 ps.length 0 _ c4 [] H4 (by omega) (by omega) rfl (fun x hx => by cases hx)
  obtain ⟨code, at_, seed⟩ := c
  refine ⟨(1 + r1, 1 + r2, rs), c5, Ev.step (fun k => spec_l1Cur_sureTable.eq k code at_ seed) (Ev.bind e1 (Ev.bind e2 (Ev.bind e3 ?_))), o5, H5.up (by omega) (by omega)⟩
  simp only [w1, w2]
  exact Ev.bind e4 (Ev.bind e5 (Ev.now _))
def SmallT (t : TaT) : Prop := t.2.2.length ≤ 100 ∧ ∀ r ∈ t.2.2, r.2.1.size ≤ 2
theorem TabOk.small {t : TaT} (h : TabOk t.1 t.2.1 t.2.2) : 1 ≤ t.2.2.length ∧ SmallT t := by
  obtain ⟨h1, h2, h3, h4⟩ := h
  have hq := mul_range (a := t.1) (b := t.2.1) (by omega) (by omega) (by omega) (by omega)
  refine ⟨by omega, by omega, fun r hr => ?_⟩
  obtain ⟨_, ⟨c, hc, _⟩, _⟩ := h4 r hr
  rw [size_list, hc]
  exact Nat.le_succ 1
theorem table_ev (n : Nat) (c : CurT) (H : CurOk n c) (hn : n + 2000 ≤ 1099511627776) : ∃ t c', Ev (fun k => spec_l1Cur_table k c) (t, c') ∧ SmallT t ∧ CurOk (n + 300) c' := by
  obtain ⟨⟨st, ti, rs⟩, c1, e1, o1, H1⟩ := sureTable_ev n c H (by omega)
  obtain ⟨hl, hs⟩ := TabOk.small o1
  have hl : 1 ≤ rs.length := hl
  obtain ⟨r, c2, e2, p, q, H2⟩ := pick_ev _ c1 H1 (by omega) 16
  obtain ⟨a, c4, e4, _, H4⟩ := among_ev _ c2 H2 (by omega) [(-1), 0, 1, 4, 5, 4611686018427387904] (by decide)
  obtain ⟨r5, c5, e5, p5, q5, H5⟩ := pick_ev _ c2 H2 (by omega) (rs.length : Int)
  obtain ⟨r6, c6, e6, p6, q6, H6⟩ := pick_ev _ c5 H5 (by omega) 6
  obtain ⟨t7, c7, e7, ht, H7⟩ := of_ev _ c6 H6 (by omega) [(bs [76]), ByteArray.empty, (bs [76, 82]), (bs [120])] (by decide)
  obtain ⟨r8, c8, e8, p8, q8, H8⟩ := pick_ev _ c7 H7 (by omega) 6
  have q5 := q5 (by omega)
  have ht2 : t7.size ≤ 2 := by
    simp only [List.mem_cons, List.not_mem_nil, or_false] at ht
    rcases ht with rfl | rfl | rfl | rfl <;> decide
  obtain ⟨code, at_, seed⟩ := c
  by_cases r0 : r = 0
  · exact ⟨_, _, Ev.step (fun k => spec_l1Cur_table.eq k code at_ seed) (Ev.bind e1 <| Ev.bind e2 <| Ev.yes (beq_iff_eq.2 r0) (Ev.bind e4 (Ev.now _))), hs, H4.up (by omega) (by omega)⟩
  · have n0 := beq_eq_false_iff_ne.2 r0
    by_cases r1 : r = 1
    · exact ⟨_, _, Ev.step (fun k => spec_l1Cur_table.eq k code at_ seed) (Ev.bind e1 <| Ev.bind e2 <| Ev.no n0 (Ev.yes (beq_iff_eq.2 r1) (Ev.bind e4 (Ev.now _)))), hs, H4.up (by omega) (by omega)⟩
    · have n1 := beq_eq_false_iff_ne.2 r1
      by_cases r2 : r = 2
      · refine ⟨_, _, Ev.step (fun k => spec_l1Cur_table.eq k code at_ seed) (Ev.bind e1 <| Ev.bind e2 <| Ev.no n0 (Ev.no n1 (Ev.yes (beq_iff_eq.2 r2) (Ev.bind e5 (Ev.bind e6 (Ev.bind e7 (Ev.bind e8 (Ev.yes (inB_of p5 (by omega)) (Ev.now _))))))))), ⟨?_, fun x hx => ?_⟩, H8.up (by omega) (by omega)⟩
        · show (rs.set _ _).length ≤ 100
          rw [List.length_set]
          exact hs.1
        · rcases List.mem_or_eq_of_mem_set hx with hx | rfl
          · exact hs.2 x hx
          · exact ht2
      · have n2 := beq_eq_false_iff_ne.2 r2
        by_cases r3 : r = 3
        · refine ⟨_, _, Ev.step (fun k => spec_l1Cur_table.eq k code at_ seed) (Ev.bind e1 <| Ev.bind e2 <| Ev.no n0 (Ev.no n1 (Ev.no n2 (Ev.yes (beq_iff_eq.2 r3) (Ev.yes (fits_of (by have h100 : rs.length ≤ 100 := hs.1; show (rs.length + 1) * 32 < _; omega)) (Ev.now _)))))), ⟨?_, fun x hx => ?_⟩, H2.up (by omega) (by omega)⟩
          · show (rs ++ _).length ≤ 100
            have hq := mul_range (a := st) (b := ti) o1.1.1 (by have := o1.1.2; simp only at this; omega) o1.2.1.1 (by have := o1.2.1.2; simp only at this; omega)
            have := o1.2.2.1
            simp only at this
            rw [List.length_append]
            simp only [List.length_cons, List.length_nil]
            omega
          · rcases List.mem_append.1 hx with hx | hx
            · exact hs.2 x hx
            · simp only [List.mem_cons, List.not_mem_nil, or_false] at hx
              subst hx
              decide
        · exact ⟨_, _, Ev.step (fun k => spec_l1Cur_table.eq k code at_ seed) (Ev.bind e1 <| Ev.bind e2 <| Ev.no n0 (Ev.no n1 (Ev.no n2 (Ev.no (beq_eq_false_iff_ne.2 r3) (Ev.now _))))), hs, H2.up (by omega) (by omega)⟩
theorem order_l_ev (N : Int) : ∀ (m i n : Nat) (c : CurT) (out : List Int), CurOk n c → n + 2 * m + 100 ≤ 1099511627776 → i + m = 5 → out.length = i → ∃ out' c', Ev (fun k => spec_l1Cur_order_l k (c, N, out, (i : Int), ())) (c', out', ()) ∧ out'.length ≤ 5 ∧ CurOk (n + 2 * m) c'
  | 0, i, n, c, out, H, hn, hm, hl => by
    obtain ⟨code, at_, seed⟩ := c
    exact ⟨out, _, Ev.step (fun k => spec_l1Cur_order_l.eq k code at_ seed N out (i : Int)) (Ev.bind (least_ev 5 N) (Ev.no (decide_eq_false (by split <;> omega)) (Ev.now _))), by omega, H⟩
  | m + 1, i, n, c, out, H, hn, hm, hl => by
    obtain ⟨r, c1, e1, h0, h1, H1⟩ := pick_ev n c H (by omega) ((out.length : Int) + 1)
    have h1 := h1 (by omega)
    have hw : w64 ((out.length : Int) + 1) = (out.length : Int) + 1 := w64_of (by omega) (by omega)
    have hw2 : w64 ((i : Int) + 1) = ((i + 1 : Nat) : Int) := w64_succ (by omega)
    have ho := l1Own_ev (out.take r.toNat) (by rw [List.length_take]; omega)
    have hz : ((out.take r.toNat ++ [(i : Int)]) ++ ((out.drop r.toNat).take (out.length - r.toNat))).length = i + 1 := by
      simp only [List.length_append, List.length_take, List.length_drop, List.length_cons, List.length_nil]
      omega
    obtain ⟨out', c2, e2, z2, H2⟩ := order_l_ev N m (i + 1) (n + 2) c1 _ H1 (by omega) (by omega) hz
    obtain ⟨code, at_, seed⟩ := c
    by_cases hd : (i : Int) < (if 5 < N then 5 else N)
    · refine ⟨out', c2, Ev.step (fun k => spec_l1Cur_order_l.eq k code at_ seed N out (i : Int)) (Ev.bind (least_ev 5 N) (Ev.yes (decide_eq_true hd) ?_)), z2, by rw [show n + 2 * (m + 1) = n + 2 + 2 * m by omega]; exact H2⟩
      rw [hw]
      refine Ev.bind e1 (Ev.yes (le_two h0 (by omega)) (Ev.bind ho (Ev.yes (fits_of (by simp only [List.length_take]; omega)) (Ev.yes (le_two h0 (by omega)) (Ev.yes (fits_of (by simp only [List.length_append, List.length_take, List.length_drop, List.length_cons, List.length_nil]; omega)) ?_)))))
      rw [hw2]
      exact e2
    · exact ⟨out, _, Ev.step (fun k => spec_l1Cur_order_l.eq k code at_ seed N out (i : Int)) (Ev.bind (least_ev 5 N) (Ev.no (decide_eq_false hd) (Ev.now _))), by omega, H.up (by omega) (by omega)⟩
theorem order_ev (N : Int) (n : Nat) (c : CurT) (H : CurOk n c) (hn : n + 1000 ≤ 1099511627776) : ∃ out c', Ev (fun k => spec_l1Cur_order k (c, N)) (out, c') ∧ out.length ≤ 5 := by
  obtain ⟨out, c1, e1, z1, H1⟩ := order_l_ev N 5 0 n c [] H (by omega) rfl rfl
  obtain ⟨b, c2, e2, H2⟩ := one_ev _ c1 H1 (by omega) 10
  obtain ⟨a, c3, e3, _, H3⟩ := among_ev _ c2 H2 (by omega) [(-1), 0, 1, 4] (by decide)
  obtain ⟨code, at_, seed⟩ := c
  cases b with
  | false => exact ⟨out, c2, Ev.step (fun k => spec_l1Cur_order.eq k code at_ seed N) (Ev.bind e1 (Ev.bind e2 (Ev.no rfl (Ev.now _)))), z1⟩
  | true =>
    by_cases h : (out.length : Int) > 0
    · exact ⟨out.set 0 a, c3, Ev.step (fun k => spec_l1Cur_order.eq k code at_ seed N) (Ev.bind e1 (Ev.bind e2 (Ev.yes rfl (Ev.yes (decide_eq_true h) (Ev.bind e3 (Ev.yes (inB_of (by omega) (by simp only; omega)) (Ev.now _))))))), by rw [List.length_set]; exact z1⟩
    · exact ⟨out, c2, Ev.step (fun k => spec_l1Cur_order.eq k code at_ seed N) (Ev.bind e1 (Ev.bind e2 (Ev.yes rfl (Ev.no (decide_eq_false h) (Ev.now _))))), z1⟩
section
variable (code : List Int) (hc : ∀ x ∈ code, 0 ≤ x ∧ x ≤ 255)
include hc
theorem drawStates_ev : ∃ t o, Ev (fun k => spec_DrawRenameStates k code) (t, o) ∧ SmallT t ∧ o.length ≤ 5 := by
  obtain ⟨t, c1, e1, s1, H1⟩ := table_ev 0 (code, 0, 0) (CurOk.start hc) (by omega)
  obtain ⟨o, c2, e2, z2⟩ := order_ev t.1 _ c1 H1 (by omega)
  exact ⟨t, o, Ev.step (fun k => spec_DrawRenameStates.eq k code) (Ev.bind e1 (Ev.bind e2 (Ev.now _))), s1, z2⟩
theorem drawTints_ev : ∃ t o, Ev (fun k => spec_DrawRenameTints k code) (t, o) ∧ SmallT t ∧ o.length ≤ 5 := by
  obtain ⟨t, c1, e1, s1, H1⟩ := table_ev 0 (code, 0, 0) (CurOk.start hc) (by omega)
  obtain ⟨o, c2, e2, z2⟩ := order_ev t.2.1 _ c1 H1 (by omega)
  exact ⟨t, o, Ev.step (fun k => spec_DrawRenameTints.eq k code) (Ev.bind e1 (Ev.bind e2 (Ev.now _))), s1, z2⟩
theorem drawTable_ev : ∃ t, Ev (fun k => spec_DrawMirrorTable k code) t ∧ SmallT t := by
  obtain ⟨t, c1, e1, s1, H1⟩ := table_ev 0 (code, 0, 0) (CurOk.start hc) (by omega)
  exact ⟨t, Ev.step (fun k => spec_DrawMirrorTable.eq k code) (Ev.bind (Ev.step (fun k => spec_DrawIsTable.eq k code) (Ev.bind e1 (Ev.now _))) (Ev.now _)), s1⟩
theorem drawEmpty_ev : ∃ t w h, Ev (fun k => spec_DrawEmptyScene k code) (t, w, h) ∧ SmallT t := by
  obtain ⟨t, c1, e1, s1, H1⟩ := table_ev 0 (code, 0, 0) (CurOk.start hc) (by omega)
  obtain ⟨a, c4, e4, _, H4⟩ := among_ev _ c1 H1 (by omega) [1, 2, 3, 9, 10, 0] (by decide)
  obtain ⟨b, c5, e5, _, H5⟩ := among_ev _ c4 H4 (by omega) [1, 2, 3, 9, 10, (-1)] (by decide)
  exact ⟨t, a, b, Ev.step (fun k => spec_DrawEmptyScene.eq k code) (Ev.bind e1 (Ev.bind e4 (Ev.bind e5 (Ev.now _)))), s1⟩
theorem drawRow_ev : ∃ t s c, Ev (fun k => spec_DrawRowOf k code) (t, s, c) ∧ SmallT t := by
  obtain ⟨t, c1, e1, s1, H1⟩ := table_ev 0 (code, 0, 0) (CurOk.start hc) (by omega)
  obtain ⟨a, c2, e2, _, _, H2⟩ := pick_ev _ c1 H1 (by omega) 4
  obtain ⟨b, c3, e3, _, _, H3⟩ := pick_ev _ c2 H2 (by omega) 9
  obtain ⟨d, c4, e4, _, _, H4⟩ := pick_ev _ c3 H3 (by omega) 4
  obtain ⟨e, c5, e5, _, _, H5⟩ := pick_ev _ c4 H4 (by omega) 9
  exact ⟨t, _, _, Ev.step (fun k => spec_DrawRowOf.eq k code) (Ev.bind e1 (Ev.bind e2 (Ev.bind e3 (Ev.bind e4 (Ev.bind e5 (Ev.now _)))))), s1⟩
theorem drawCount_ev : ∃ p q, Ev (fun k => spec_DrawCountTables k code) (p, q) ∧ p ∈ [1, 2, 3, 4, 0, 1, 2, 4611686018427387904] ∧ q ∈ [1, 2, 3, 4, 1, 2, 0, (-1)] := by
  obtain ⟨a, c4, e4, ha, H4⟩ := among_ev 0 (code, 0, 0) (CurOk.start hc) (by omega) [1, 2, 3, 4, 0, 1, 2, 4611686018427387904] (by decide)
  obtain ⟨b, c5, e5, hb, H5⟩ := among_ev _ c4 H4 (by omega) [1, 2, 3, 4, 1, 2, 0, (-1)] (by decide)
  exact ⟨a, b, Ev.step (fun k => spec_DrawCountTables.eq k code) (Ev.bind e4 (Ev.bind e5 (Ev.now _))), ha, hb⟩
end
def fnO (o : List Int) (i : Nat) : Nat := (o.getD i 0).toNat
def PermN (N : Nat) (σ : Nat → Nat) : Prop := (∀ i, i < N → σ i < N) ∧ ∀ i j, i < N → j < N → σ i = σ j → i = j
theorem permId (N : Nat) : PermN N id := ⟨fun i h => h, fun i j _ _ h => h⟩
theorem PermN.surj {N : Nat} {σ : Nat → Nat} (h : PermN N σ) {k : Nat} (hk : k < N) : ∃ i, i < N ∧ σ i = k := by
  have hnd : ((List.range N).map σ).Nodup := by
    unfold List.Nodup
    rw [List.pairwise_iff_getElem]
    intro l i hl' hi hli e
    simp only [List.length_map, List.length_range] at hl' hi
    simp only [List.getElem_map, List.getElem_range] at e
    have := h.2 l i hl' hi e
    omega
  have hm := pigeon_mem (n := N) hnd (fun v hv => by
    obtain ⟨r, hr, rfl⟩ := List.mem_map.1 hv
    exact h.1 r (List.mem_range.1 hr)) (by simp) (v := k) hk
  obtain ⟨r, hr, e⟩ := List.mem_map.1 hm
  exact ⟨r, List.mem_range.1 hr, e⟩
theorem ord_fn {N : Nat} {o : List Int} (h : Ord N o) : PermN N (fnO o) ∧ ∀ i, i < N → o[i]? = some ((fnO o i : Nat) : Int) := by
  obtain ⟨h1, h2, h3⟩ := h
  have hv : ∀ i, i < N → o[i]? = some ((fnO o i : Nat) : Int) ∧ fnO o i < N := fun i hi => by
    obtain ⟨x, hx⟩ := nat_list (l := o) (i := i) (by omega)
    obtain ⟨a, b⟩ := h2 x (List.mem_of_getElem? hx)
    have e : fnO o i = x.toNat := by unfold fnO; rw [List.getD_eq_getElem?_getD, hx]; rfl
    rw [e, hx]
    exact ⟨by congr 1; omega, by omega⟩
  have lt : ∀ i j, i < j → j < N → fnO o i ≠ fnO o j := fun i j hij hj e => by
    have e1 := (hv i (by omega)).1
    have e2 := (hv j hj).1
    rw [← e] at e2
    refine h3 j _ e2 (List.mem_iff_getElem?.2 ⟨i, ?_⟩)
    rw [List.getElem?_take, if_pos hij]
    exact e1
  refine ⟨⟨fun i hi => (hv i hi).2, fun i j hi hj e => ?_⟩, fun i hi => (hv i hi).1⟩
  rcases Nat.lt_trichotomy i j with h | h | h
  · exact absurd e (lt i j h hj)
  · exact h
  · exact absurd e.symm (lt j i h hi)
theorem diff_of {l : List Int} (h : ∀ (i j : Nat) (x : Int), l[i]? = some x → l[j]? = some x → i = j) : Diff l := fun i x hx hm => by
  obtain ⟨j, hj⟩ := List.mem_iff_getElem?.1 hm
  rw [List.getElem?_take] at hj
  split at hj
  · have := h i j x hx hj
    omega
  · cases hj
/-- A list that tells, for each name, what it was. -/
theorem back_ord {N : Nat} {o b : List Int} (h : Ord N o) (hl : b.length = N) (hb : ∀ i, i < N → b[fnO o i]? = some ((i : Nat) : Int)) : Ord N b ∧ ∀ i, i < N → fnO b (fnO o i) = i := by
  obtain ⟨hp, hv⟩ := ord_fn h
  have at_ : ∀ k x, b[k]? = some x → ∃ i, i < N ∧ fnO o i = k ∧ x = ((i : Nat) : Int) := fun k x hx => by
    obtain ⟨i, hi, rfl⟩ := hp.surj (k := k) (by have := (List.getElem?_eq_some_iff.1 hx).1; omega)
    rw [hb i hi] at hx
    exact ⟨i, hi, rfl, (Option.some.inj hx).symm⟩
  refine ⟨⟨by omega, fun x hx => ?_, diff_of fun k k' x hx hx' => ?_⟩, fun i hi => ?_⟩
  · obtain ⟨k, hk⟩ := List.mem_iff_getElem?.1 hx
    obtain ⟨i, hi, _, rfl⟩ := at_ k x hk
    exact ⟨by omega, by omega⟩
  · obtain ⟨i, hi, e, e1⟩ := at_ k x hx
    obtain ⟨j, hj, e', e2⟩ := at_ k' x hx'
    have : i = j := by omega
    subst this
    omega
  · unfold fnO
    rw [List.getD_eq_getElem?_getD]
    have := hb i hi
    unfold fnO at this
    rw [this]
    rfl
/-! ### Rows at new places -/
theorem rows_nat {st ti : Nat} {rs : List Rw} (h : TabOk st ti rs) {i : Nat} {x : Rw} (hx : rs[i]? = some x) : ∃ (p n : Nat) (t : ByteArray), x = ((p : Int), t, (n : Int)) ∧ p < ti ∧ n < st ∧ Sign t := by
  obtain ⟨p, t, n⟩ := x
  obtain ⟨⟨a1, a2⟩, a3, ⟨a4, a5⟩⟩ := h.2.2.2 _ (List.mem_of_getElem? hx)
  simp only at a1 a2 a3 a4 a5
  obtain ⟨p, rfl⟩ := Int.eq_ofNat_of_zero_le a1
  obtain ⟨n, rfl⟩ := Int.eq_ofNat_of_zero_le a4
  exact ⟨p, n, t, rfl, by omega, by omega, a3⟩
theorem len_nat {st ti : Nat} {rs : List Rw} (h : TabOk st ti rs) : rs.length = st * ti ∧ 1 ≤ st ∧ st ≤ 4 ∧ 1 ≤ ti ∧ ti ≤ 4 ∧ st * ti ≤ 16 := by
  obtain ⟨h1, h2, h3, _⟩ := h
  have : st * ti ≤ 4 * 4 := Nat.mul_le_mul (by omega) (by omega)
  exact ⟨by exact_mod_cast h3, by omega, by omega, by omega, by omega, this⟩
def newAt (ti : Nat) (σ τ : Nat → Nat) (i : Nat) : Nat := σ (i / ti) * ti + τ (i % ti)
def newRw (σ τ : Nat → Nat) (r : Rw) : Rw := (((τ r.1.toNat : Nat) : Int), r.2.1, ((σ r.2.2.toNat : Nat) : Int))
def Renm (st ti : Nat) (σ τ : Nat → Nat) (m : Nat) (rs out : List Rw) : Prop := out.length = st * ti ∧ ∀ (i : Nat) (x : Rw), i < m → rs[i]? = some x → out[newAt ti σ τ i]? = some (newRw σ τ x)
theorem split_at {ti a b : Nat} (hb : b < ti) : (a * ti + b) / ti = a ∧ (a * ti + b) % ti = b := by
  rw [Nat.mul_comm a ti]
  exact ⟨by rw [Nat.mul_add_div (by omega), Nat.div_eq_of_lt hb]; omega, by rw [Nat.mul_add_mod, Nat.mod_eq_of_lt hb]⟩
theorem parts_lt {st ti i : Nat} (hi : i < st * ti) : i / ti < st ∧ i % ti < ti := by
  have hti : 0 < ti := by
    rcases Nat.eq_zero_or_pos ti with h | h
    · subst h; omega
    · exact h
  exact ⟨Nat.div_lt_of_lt_mul (by rw [Nat.mul_comm]; exact hi), Nat.mod_lt _ hti⟩
theorem put_lt {st ti a b : Nat} (ha : a < st) (hb : b < ti) : a * ti + b < st * ti := by
  have : (a + 1) * ti ≤ st * ti := Nat.mul_le_mul_right ti (by omega)
  rw [Nat.add_mul] at this
  omega
section
variable {st ti : Nat} {σ τ : Nat → Nat} (hσ : PermN st σ) (hτ : PermN ti τ)
include hσ hτ
theorem newAt_perm : PermN (st * ti) (newAt ti σ τ) := by
  refine ⟨fun i hi => ?_, fun i j hi hj e => ?_⟩
  · have := parts_lt hi
    exact put_lt (hσ.1 _ this.1) (hτ.1 _ this.2)
  · have pi := parts_lt hi
    have pj := parts_lt hj
    unfold newAt at e
    have a := split_at (a := σ (i / ti)) (hτ.1 _ pi.2)
    have b := split_at (a := σ (j / ti)) (hτ.1 _ pj.2)
    rw [e] at a
    have e1 := hσ.2 _ _ pi.1 pj.1 (a.1.symm.trans b.1)
    have e2 := hτ.2 _ _ pi.2 pj.2 (a.2.symm.trans b.2)
    rw [← Nat.div_add_mod i ti, ← Nat.div_add_mod j ti, e1, e2]
theorem Renm.step {m : Nat} {rs out : List Rw} {x : Rw} (h : Renm st ti σ τ m rs out) (hm : m < st * ti) (hx : rs[m]? = some x) : Renm st ti σ τ (m + 1) rs (out.set (newAt ti σ τ m) (newRw σ τ x)) := by
  have hp := newAt_perm hσ hτ
  refine ⟨by rw [List.length_set]; exact h.1, fun i y hi hy => ?_⟩
  by_cases e : i = m
  · subst e
    rw [hx] at hy
    cases hy
    rw [List.getElem?_set_self (by rw [h.1]; exact hp.1 _ hm)]
  · have : newAt ti σ τ m ≠ newAt ti σ τ i := fun e' => e (hp.2 _ _ hm (by omega) e').symm
    rw [List.getElem?_set_ne this]
    exact h.2 i y (by omega) hy
theorem Renm.one {rs out out' : List Rw} (hr : rs.length = st * ti) (h : Renm st ti σ τ (st * ti) rs out) (h' : Renm st ti σ τ (st * ti) rs out') : out = out' := by
  apply List.ext_getElem?
  intro k
  by_cases hk : k < st * ti
  · obtain ⟨i, hi, rfl⟩ := (newAt_perm hσ hτ).surj hk
    obtain ⟨x, hx⟩ := nat_list (l := rs) (i := i) (by omega)
    rw [h.2 i x hi hx, h'.2 i x hi hx]
  · rw [List.getElem?_eq_none (by rw [h.1]; omega), List.getElem?_eq_none (by rw [h'.1]; omega)]
theorem Renm.ok {rs out : List Rw} (hT : TabOk st ti rs) (h : Renm st ti σ τ (st * ti) rs out) : TabOk st ti out := by
  obtain ⟨hl, _⟩ := len_nat hT
  refine ⟨hT.1, hT.2.1, by rw [h.1]; exact Int.natCast_mul st ti, fun r hr => ?_⟩
  obtain ⟨k, hk⟩ := List.mem_iff_getElem?.1 hr
  obtain ⟨i, hi, rfl⟩ := (newAt_perm hσ hτ).surj (k := k) (by have := (List.getElem?_eq_some_iff.1 hk).1; rw [h.1] at this; exact this)
  obtain ⟨x, hx⟩ := nat_list (l := rs) (i := i) (by omega)
  rw [h.2 i x hi hx] at hk
  cases hk
  obtain ⟨p, n, t, rfl, hp, hn, ht⟩ := rows_nat hT hx
  have h1 := hτ.1 p hp
  have h2 := hσ.1 n hn
  exact ⟨⟨by show (0 : Int) ≤ ((τ p : Nat) : Int); omega, by show ((τ p : Nat) : Int) ≤ _; omega⟩, ht, ⟨by show (0 : Int) ≤ ((σ n : Nat) : Int); omega, by show ((σ n : Nat) : Int) ≤ _; omega⟩⟩
theorem Renm.home {σ' τ' : Nat → Nat} {rs out home : List Rw} (hT : TabOk st ti rs) (h : Renm st ti σ τ (st * ti) rs out) (h' : Renm st ti σ' τ' (st * ti) out home) (e1 : ∀ i, i < st → σ' (σ i) = i) (e2 : ∀ i, i < ti → τ' (τ i) = i) : home = rs := by
  obtain ⟨hl, _⟩ := len_nat hT
  have hp := newAt_perm hσ hτ
  apply List.ext_getElem?
  intro i
  by_cases hi : i < st * ti
  · obtain ⟨x, hx⟩ := nat_list (l := rs) (i := i) (by omega)
    have a := h'.2 _ _ (hp.1 i hi) (h.2 i x hi hx)
    have pi := parts_lt hi
    have s := split_at (a := σ (i / ti)) (hτ.1 _ pi.2)
    have e3 : newAt ti σ' τ' (newAt ti σ τ i) = i := by
      show σ' ((σ (i / ti) * ti + τ (i % ti)) / ti) * ti + τ' ((σ (i / ti) * ti + τ (i % ti)) % ti) = i
      rw [s.1, s.2, e1 _ pi.1, e2 _ pi.2, Nat.mul_comm]
      exact Nat.div_add_mod i ti
    obtain ⟨p, n, t, rfl, hp', hn, ht⟩ := rows_nat hT hx
    have e4 : newRw σ' τ' (newRw σ τ ((p : Int), t, (n : Int))) = ((p : Int), t, (n : Int)) := by
      show (((τ' (τ p) : Nat) : Int), t, ((σ' (σ n) : Nat) : Int)) = _
      rw [e1 n hn, e2 p hp']
    rw [e3, e4] at a
    rw [a, hx]
  · rw [List.getElem?_eq_none (by rw [h'.1]; omega), List.getElem?_eq_none (by omega)]
/-- Renamed rows are apart as the rows are. -/
theorem Renm.apart {rs out : List Rw} (hT : TabOk st ti rs) (h : Renm st ti σ τ (st * ti) rs out) : ApartR out ↔ ApartR rs := by
  obtain ⟨hl, _⟩ := len_nat hT
  have hp := newAt_perm hσ hτ
  have sym : ∀ {l : List Rw}, ApartR l → ∀ (i j : Nat) (x q : Rw), i ≠ j → l[i]? = some x → l[j]? = some q → ¬ Hit x.1 x.2.2 q := fun {l} H i j x q hij hx hq hh => by
    rcases Nat.lt_or_gt_of_ne hij with hlt | hlt
    · exact H j i q x hlt hq hx ⟨hh.1.symm, hh.2.symm⟩
    · exact H i j x q hlt hx hq hh
  constructor
  · intro H i l x q hli hx hq hh
    have hi := (List.getElem?_eq_some_iff.1 hx).1
    refine sym H (newAt ti σ τ i) (newAt ti σ τ l) _ _ (fun e => ?_) (h.2 i x (by omega) hx) (h.2 l q (by omega) hq) ⟨?_, ?_⟩
    · have := hp.2 _ _ (by omega) (by omega) e
      omega
    · show ((τ q.1.toNat : Nat) : Int) = ((τ x.1.toNat : Nat) : Int)
      rw [hh.1]
    · show ((σ q.2.2.toNat : Nat) : Int) = ((σ x.2.2.toNat : Nat) : Int)
      rw [hh.2]
  · intro H i l x q hli hx hq hh
    have hi := (List.getElem?_eq_some_iff.1 hx).1
    rw [h.1] at hi
    obtain ⟨i', hi', rfl⟩ := hp.surj hi
    obtain ⟨l', hl', rfl⟩ := hp.surj (k := l) (by omega)
    obtain ⟨x', hx'⟩ := nat_list (l := rs) (i := i') (by omega)
    obtain ⟨q', hq'⟩ := nat_list (l := rs) (i := l') (by omega)
    rw [h.2 i' x' hi' hx'] at hx
    rw [h.2 l' q' hl' hq'] at hq
    cases hx
    cases hq
    refine sym H i' l' x' q' (fun e => by subst e; omega) hx' hq' ?_
    obtain ⟨p, n, t, rfl, hpp, hn, _⟩ := rows_nat hT hx'
    obtain ⟨p', n', t', rfl, hpp', hn', _⟩ := rows_nat hT hq'
    have a : ((τ p' : Nat) : Int) = ((τ p : Nat) : Int) := hh.1
    have b : ((σ n' : Nat) : Int) = ((σ n : Nat) : Int) := hh.2
    exact ⟨congrArg Nat.cast (hτ.2 _ _ hpp' hpp (by omega)), congrArg Nat.cast (hσ.2 _ _ hn' hn (by omega))⟩
end
theorem div_num {i ti : Nat} (hi : i ≤ 1000) : w64 (((i : Nat) : Int).tdiv ((ti : Nat) : Int)) = ((i / ti : Nat) : Int) := by
  have e : ((i : Nat) : Int).tdiv ((ti : Nat) : Int) = ((i / ti : Nat) : Int) := rfl
  have := Nat.div_le_self i ti
  rw [e]
  generalize i / ti = d at *
  exact w64_of (by omega) (by omega)
theorem mod_num (i ti : Nat) : ((i : Nat) : Int).tmod ((ti : Nat) : Int) = ((i % ti : Nat) : Int) := rfl
theorem at_num {a b ti : Nat} (h : a * ti + b ≤ 1000) : w64 (w64 (((a : Nat) : Int) * ((ti : Nat) : Int)) + ((b : Nat) : Int)) = ((a * ti + b : Nat) : Int) := by
  have e : ((a : Nat) : Int) * ((ti : Nat) : Int) = ((a * ti : Nat) : Int) := (Int.natCast_mul a ti).symm
  rw [e, w64_of (n := ((a * ti : Nat) : Int)) (by omega) (by omega), w64_of (by omega) (by omega)]
  omega
theorem tableOwn_ev (st ti : Int) (rs : List Rw) (hl : rs.length ≤ 1048576) : Ev (fun k => impl_Table_own k (st, ti, rs)) (st, ti, rs) :=
  Ev.step (fun k => impl_Table_own.eq k st ti rs) (Ev.bind (slices_Clone_ev rs hl) (Ev.now _))
theorem getO {o : List Int} {i : Nat} {v : Nat} (h : o[i]? = some ((v : Nat) : Int)) : o.getD i default = ((v : Nat) : Int) := getD_at h
section
variable {st ti : Nat} {rs : List Rw} (hT : TabOk st ti rs)
include hT
theorem nonzero_ti : ((ti : Int) != 0) = true := by
  have := hT.2.1
  rw [bne_iff_ne]; omega
theorem renStates_i {o : List Int} (ho : Ord st o) : ∀ (m i : Nat) (out : List Rw), i + m = st * ti → Renm st ti (fnO o) id i rs out →
    ∃ out', Ev (fun k => impl_Table_renamed_l k (o, (), ((st : Int), (ti : Int), rs), zeroTa, ((st : Int), (ti : Int), out), (), (rs.length : Int), (i : Int))) (zeroTa, ((st : Int), (ti : Int), out')) ∧ Renm st ti (fnO o) id (st * ti) rs out'
  | 0, i, out, hm, h => by
    obtain ⟨hl, _⟩ := len_nat hT
    have hm : i = st * ti := hm
    subst hm
    exact ⟨out, Ev.step (fun k => impl_Table_renamed_l.eq k o st ti rs 0 0 [] st ti out (rs.length : Int) _) (Ev.no (not_lt_nat (by omega)) (Ev.now _)), h⟩
  | m + 1, i, out, hm, h => by
    obtain ⟨hl, _, _, _, _, h16⟩ := len_nat hT
    obtain ⟨hp, hv⟩ := ord_fn ho
    obtain ⟨x, hx⟩ := nat_list (l := rs) (i := i) (by omega)
    have hi : i < st * ti := by omega
    have pi := parts_lt hi
    have hn := Renm.step hp (permId ti) h hi hx
    have hat := (newAt_perm hp (permId ti)).1 i hi
    obtain ⟨out', e', h'⟩ := renStates_i ho m (i + 1) _ (by omega) hn
    obtain ⟨p, n, t, rfl, hpp, hnn, _⟩ := rows_nat hT hx
    have ha := ho.1
    have v1 := hv _ pi.1
    have v2 := hv n hnn
    have eA : newAt ti (fnO o) id i = fnO o (i / ti) * ti + i % ti := rfl
    have hat' : fnO o (i / ti) * ti + i % ti < st * ti := hat
    refine ⟨out', Ev.step (fun k => impl_Table_renamed_l.eq k o st ti rs 0 0 [] st ti out (rs.length : Int) (i : Int)) (Ev.yes (lt_nat (by omega)) (Ev.yes (inB_nat (by omega)) (Ev.yes (nonzero_ti hT) ?_))), h'⟩
    rw [div_num (by omega), mod_num, Int.toNat_natCast, getD_at hx]
    refine Ev.bind (Ev.step (fun k => impl_RenameStates_1.eq k _ o) (Ev.yes (inB_nat (by omega)) (Ev.now' (by rw [Int.toNat_natCast, getO v1])))) (Ev.yes (nonzero_ti hT) (Ev.bind (Ev.step (fun k => impl_same.eq k _) (Ev.now _)) (Ev.bind (Ev.step (fun k => impl_same.eq k _) (Ev.now _)) (Ev.bind (Ev.step (fun k => impl_RenameStates_1.eq k _ o) (Ev.yes (inB_nat (by omega)) (Ev.now' (by rw [Int.toNat_natCast, getO v2])))) ?_))))
    rw [at_num (by omega), w64_succ (by omega), Int.toNat_natCast]
    refine Ev.yes (inB_nat (by rw [h.1]; exact hat')) ?_
    exact e'
theorem renStates_s {o : List Int} (ho : Ord st o) : ∀ (m i : Nat) (out : List Rw), i + m = st * ti → Renm st ti (fnO o) id i rs out →
    ∃ out', Ev (fun k => spec_RenameStates_l k (o, ((st : Int), (ti : Int), rs), zeroTa, ((st : Int), (ti : Int), out), (), (rs.length : Int), (i : Int))) (zeroTa, ((st : Int), (ti : Int), out')) ∧ Renm st ti (fnO o) id (st * ti) rs out'
  | 0, i, out, hm, h => by
    obtain ⟨hl, _⟩ := len_nat hT
    have hm : i = st * ti := hm
    subst hm
    exact ⟨out, Ev.step (fun k => spec_RenameStates_l.eq k o st ti rs 0 0 [] st ti out (rs.length : Int) _) (Ev.no (not_lt_nat (by omega)) (Ev.now _)), h⟩
  | m + 1, i, out, hm, h => by
    obtain ⟨hl, _, _, _, _, h16⟩ := len_nat hT
    obtain ⟨hp, hv⟩ := ord_fn ho
    obtain ⟨x, hx⟩ := nat_list (l := rs) (i := i) (by omega)
    have hi : i < st * ti := by omega
    have pi := parts_lt hi
    have hn := Renm.step hp (permId ti) h hi hx
    have hat := (newAt_perm hp (permId ti)).1 i hi
    obtain ⟨out', e', h'⟩ := renStates_s ho m (i + 1) _ (by omega) hn
    obtain ⟨p, n, t, rfl, hpp, hnn, _⟩ := rows_nat hT hx
    have ha := ho.1
    have v1 := hv _ pi.1
    have v2 := hv n hnn
    have hat' : fnO o (i / ti) * ti + i % ti < st * ti := hat
    refine ⟨out', Ev.step (fun k => spec_RenameStates_l.eq k o st ti rs 0 0 [] st ti out (rs.length : Int) (i : Int)) (Ev.yes (lt_nat (by omega)) (Ev.yes (inB_nat (by omega)) (Ev.yes (nonzero_ti hT) ?_))), h'⟩
    simp only [div_num (show i ≤ 1000 by omega), mod_num, Int.toNat_natCast, getD_at hx, getO v1, getO v2]
    rw [at_num (by omega), w64_succ (by omega), Int.toNat_natCast]
    refine Ev.yes (inB_nat (by omega)) (Ev.yes (nonzero_ti hT) (Ev.yes (inB_nat (by omega)) (Ev.yes (inB_nat (by rw [h.1]; exact hat')) ?_)))
    exact e'
theorem renTints_i {o : List Int} (ho : Ord ti o) : ∀ (m i : Nat) (out : List Rw), i + m = st * ti → Renm st ti id (fnO o) i rs out →
    ∃ out', Ev (fun k => impl_Table_renamed_2_l k ((), o, ((st : Int), (ti : Int), rs), zeroTa, ((st : Int), (ti : Int), out), (), (rs.length : Int), (i : Int))) (zeroTa, ((st : Int), (ti : Int), out')) ∧ Renm st ti id (fnO o) (st * ti) rs out'
  | 0, i, out, hm, h => by
    obtain ⟨hl, _⟩ := len_nat hT
    have hm : i = st * ti := hm
    subst hm
    exact ⟨out, Ev.step (fun k => impl_Table_renamed_2_l.eq k o st ti rs 0 0 [] st ti out (rs.length : Int) _) (Ev.no (not_lt_nat (by omega)) (Ev.now _)), h⟩
  | m + 1, i, out, hm, h => by
    obtain ⟨hl, _, _, _, _, h16⟩ := len_nat hT
    obtain ⟨hp, hv⟩ := ord_fn ho
    obtain ⟨x, hx⟩ := nat_list (l := rs) (i := i) (by omega)
    have hi : i < st * ti := by omega
    have pi := parts_lt hi
    have hn := Renm.step (permId st) hp h hi hx
    have hat := (newAt_perm (permId st) hp).1 i hi
    obtain ⟨out', e', h'⟩ := renTints_i ho m (i + 1) _ (by omega) hn
    obtain ⟨p, n, t, rfl, hpp, hnn, _⟩ := rows_nat hT hx
    have ha := ho.1
    have v1 := hv _ pi.2
    have v2 := hv p hpp
    have hat' : (i / ti) * ti + fnO o (i % ti) < st * ti := hat
    refine ⟨out', Ev.step (fun k => impl_Table_renamed_2_l.eq k o st ti rs 0 0 [] st ti out (rs.length : Int) (i : Int)) (Ev.yes (lt_nat (by omega)) (Ev.yes (inB_nat (by omega)) (Ev.yes (nonzero_ti hT) ?_))), h'⟩
    rw [div_num (by omega), mod_num, Int.toNat_natCast, getD_at hx]
    refine Ev.bind (Ev.step (fun k => impl_same.eq k _) (Ev.now _)) (Ev.yes (nonzero_ti hT) (Ev.bind (Ev.step (fun k => impl_RenameTints_1.eq k _ o) (Ev.yes (inB_nat (by omega)) (Ev.now' (by rw [Int.toNat_natCast, getO v1])))) (Ev.bind (Ev.step (fun k => impl_RenameTints_1.eq k _ o) (Ev.yes (inB_nat (by omega)) (Ev.now' (by rw [Int.toNat_natCast, getO v2])))) (Ev.bind (Ev.step (fun k => impl_same.eq k _) (Ev.now _)) ?_))))
    rw [at_num (by omega), w64_succ (by omega), Int.toNat_natCast]
    refine Ev.yes (inB_nat (by rw [h.1]; exact hat')) ?_
    exact e'
theorem renTints_s {o : List Int} (ho : Ord ti o) : ∀ (m i : Nat) (out : List Rw), i + m = st * ti → Renm st ti id (fnO o) i rs out →
    ∃ out', Ev (fun k => spec_RenameTints_l k (o, ((st : Int), (ti : Int), rs), zeroTa, ((st : Int), (ti : Int), out), (), (rs.length : Int), (i : Int))) (zeroTa, ((st : Int), (ti : Int), out')) ∧ Renm st ti id (fnO o) (st * ti) rs out'
  | 0, i, out, hm, h => by
    obtain ⟨hl, _⟩ := len_nat hT
    have hm : i = st * ti := hm
    subst hm
    exact ⟨out, Ev.step (fun k => spec_RenameTints_l.eq k o st ti rs 0 0 [] st ti out (rs.length : Int) _) (Ev.no (not_lt_nat (by omega)) (Ev.now _)), h⟩
  | m + 1, i, out, hm, h => by
    obtain ⟨hl, _, _, _, _, h16⟩ := len_nat hT
    obtain ⟨hp, hv⟩ := ord_fn ho
    obtain ⟨x, hx⟩ := nat_list (l := rs) (i := i) (by omega)
    have hi : i < st * ti := by omega
    have pi := parts_lt hi
    have hn := Renm.step (permId st) hp h hi hx
    have hat := (newAt_perm (permId st) hp).1 i hi
    obtain ⟨out', e', h'⟩ := renTints_s ho m (i + 1) _ (by omega) hn
    obtain ⟨p, n, t, rfl, hpp, hnn, _⟩ := rows_nat hT hx
    have ha := ho.1
    have v1 := hv _ pi.2
    have v2 := hv p hpp
    have hat' : (i / ti) * ti + fnO o (i % ti) < st * ti := hat
    refine ⟨out', Ev.step (fun k => spec_RenameTints_l.eq k o st ti rs 0 0 [] st ti out (rs.length : Int) (i : Int)) (Ev.yes (lt_nat (by omega)) (Ev.yes (inB_nat (by omega)) (Ev.yes (nonzero_ti hT) (Ev.yes (nonzero_ti hT) ?_)))), h'⟩
    simp only [div_num (show i ≤ 1000 by omega), mod_num, Int.toNat_natCast, getD_at hx, getO v1, getO v2]
    rw [at_num (by omega), w64_succ (by omega), Int.toNat_natCast]
    refine Ev.yes (inB_nat (by omega)) (Ev.yes (inB_nat (by omega)) (Ev.yes (inB_nat (by rw [h.1]; exact hat')) ?_))
    exact e'
end
/-- What both functions answer. -/
def RenA (t : TaT) (n : Int) (o : List Int) (r : TaT × Bool) (σ τ : Nat → Nat) : Prop :=
  (¬ (TabOk t.1 t.2.1 t.2.2 ∧ Ord n o) ∧ r = (zeroTa, false)) ∨ (TabOk t.1 t.2.1 t.2.2 ∧ Ord n o ∧ ∃ st ti : Nat, t.1 = st ∧ t.2.1 = ti ∧ ∃ out, r = (((st : Int), (ti : Int), out), true) ∧ Renm st ti σ τ (st * ti) t.2.2 out)
theorem renStates_both (t : TaT) (o : List Int) (ht : t.2.2.length ≤ 1048576) (ho : o.length ≤ 1048576) : ∃ r, Ev (fun k => impl_RenameStates k (t, o)) r ∧ Ev (fun k => spec_RenameStates k (t, o)) r ∧ RenA t t.1 o r (fnO o) id := by
  obtain ⟨st, ti, rs⟩ := t
  have ht : rs.length ≤ 1048576 := ht
  have A := isTable_ev st ti rs ht
  have B := taGood_ev st ti rs ht
  by_cases hT : TabOk st ti rs
  rotate_left
  · exact ⟨_, Ev.step (fun k => impl_RenameStates.eq k st ti rs o) (Ev.bind (A.isF hT) (Ev.yes rfl (Ev.now _))), Ev.step (fun k => spec_RenameStates.eq k st ti rs o) (Ev.bind (B.isF hT) (Ev.yes rfl (Ev.now _))), .inl ⟨fun h => hT h.1, rfl⟩⟩
  have hst := hT.1
  have C := isOrder_ev o ho st (by omega)
  have D := taOrder_ev o ho st (by omega)
  by_cases hO : Ord st o
  rotate_left
  · exact ⟨_, Ev.step (fun k => impl_RenameStates.eq k st ti rs o) (Ev.bind (A.isT hT) (Ev.no rfl (Ev.bind (C.isF hO) (Ev.yes rfl (Ev.now _))))), Ev.step (fun k => spec_RenameStates.eq k st ti rs o) (Ev.bind (B.isT hT) (Ev.no rfl (Ev.bind (D.isF hO) (Ev.yes rfl (Ev.now _))))), .inl ⟨fun h => hO h.2, rfl⟩⟩
  have hti := hT.2.1
  obtain ⟨st, rfl⟩ := Int.eq_ofNat_of_zero_le (show 0 ≤ st by omega)
  obtain ⟨ti, rfl⟩ := Int.eq_ofNat_of_zero_le (show 0 ≤ ti by omega)
  obtain ⟨hl, _⟩ := len_nat hT
  obtain ⟨out, e1, h1⟩ := renStates_i hT hO (st * ti) 0 rs (by omega) ⟨hl, fun i x hi _ => absurd hi (Nat.not_lt_zero i)⟩
  obtain ⟨out', e2, h2⟩ := renStates_s hT hO (st * ti) 0 (List.replicate rs.length (0, (ByteArray.empty, 0))) (by omega) ⟨by rw [List.length_replicate]; exact hl, fun i x hi _ => absurd hi (Nat.not_lt_zero i)⟩
  obtain rfl := Renm.one (ord_fn hO).1 (permId ti) hl h1 h2
  refine ⟨(((st : Int), (ti : Int), out), true), Ev.step (fun k => impl_RenameStates.eq k st ti rs o) (Ev.bind (A.isT hT) (Ev.no rfl (Ev.bind (C.isT hO) (Ev.no rfl (Ev.bind (Ev.step (fun k => impl_Table_renamed.eq k st ti rs o) (Ev.bind (tableOwn_ev st ti rs ht) (Ev.bind e1 (Ev.now _)))) (Ev.now _)))))), ?_, .inr ⟨hT, hO, st, ti, rfl, rfl, out, rfl, h1⟩⟩
  refine Ev.step (fun k => spec_RenameStates.eq k st ti rs o) (Ev.bind (B.isT hT) (Ev.no rfl (Ev.bind (D.isT hO) (Ev.no rfl (Ev.yes ?_ (Ev.bind (a := (zeroTa, ((st : Int), (ti : Int), out))) ?_ (Ev.now _)))))))
  · rw [le_two (by omega) (by omega), Int.toNat_natCast, fits_of (by omega)]
    rfl
  · rw [Int.toNat_natCast]
    exact e2
theorem renTints_both (t : TaT) (o : List Int) (ht : t.2.2.length ≤ 1048576) (ho : o.length ≤ 1048576) : ∃ r, Ev (fun k => impl_RenameTints k (t, o)) r ∧ Ev (fun k => spec_RenameTints k (t, o)) r ∧ RenA t t.2.1 o r id (fnO o) := by
  obtain ⟨st, ti, rs⟩ := t
  have ht : rs.length ≤ 1048576 := ht
  have A := isTable_ev st ti rs ht
  have B := taGood_ev st ti rs ht
  by_cases hT : TabOk st ti rs
  rotate_left
  · exact ⟨_, Ev.step (fun k => impl_RenameTints.eq k st ti rs o) (Ev.bind (A.isF hT) (Ev.yes rfl (Ev.now _))), Ev.step (fun k => spec_RenameTints.eq k st ti rs o) (Ev.bind (B.isF hT) (Ev.yes rfl (Ev.now _))), .inl ⟨fun h => hT h.1, rfl⟩⟩
  have hti := hT.2.1
  have C := isOrder_ev o ho ti (by omega)
  have D := taOrder_ev o ho ti (by omega)
  by_cases hO : Ord ti o
  rotate_left
  · exact ⟨_, Ev.step (fun k => impl_RenameTints.eq k st ti rs o) (Ev.bind (A.isT hT) (Ev.no rfl (Ev.bind (C.isF hO) (Ev.yes rfl (Ev.now _))))), Ev.step (fun k => spec_RenameTints.eq k st ti rs o) (Ev.bind (B.isT hT) (Ev.no rfl (Ev.bind (D.isF hO) (Ev.yes rfl (Ev.now _))))), .inl ⟨fun h => hO h.2, rfl⟩⟩
  have hst := hT.1
  obtain ⟨st, rfl⟩ := Int.eq_ofNat_of_zero_le (show 0 ≤ st by omega)
  obtain ⟨ti, rfl⟩ := Int.eq_ofNat_of_zero_le (show 0 ≤ ti by omega)
  obtain ⟨hl, _⟩ := len_nat hT
  obtain ⟨out, e1, h1⟩ := renTints_i hT hO (st * ti) 0 rs (by omega) ⟨hl, fun i x hi _ => absurd hi (Nat.not_lt_zero i)⟩
  obtain ⟨out', e2, h2⟩ := renTints_s hT hO (st * ti) 0 (List.replicate rs.length (0, (ByteArray.empty, 0))) (by omega) ⟨by rw [List.length_replicate]; exact hl, fun i x hi _ => absurd hi (Nat.not_lt_zero i)⟩
  obtain rfl := Renm.one (permId st) (ord_fn hO).1 hl h1 h2
  refine ⟨(((st : Int), (ti : Int), out), true), Ev.step (fun k => impl_RenameTints.eq k st ti rs o) (Ev.bind (A.isT hT) (Ev.no rfl (Ev.bind (C.isT hO) (Ev.no rfl (Ev.bind (Ev.step (fun k => impl_Table_renamed_2.eq k st ti rs o) (Ev.bind (tableOwn_ev st ti rs ht) (Ev.bind e1 (Ev.now _)))) (Ev.now _)))))), ?_, .inr ⟨hT, hO, st, ti, rfl, rfl, out, rfl, h1⟩⟩
  refine Ev.step (fun k => spec_RenameTints.eq k st ti rs o) (Ev.bind (B.isT hT) (Ev.no rfl (Ev.bind (D.isT hO) (Ev.no rfl (Ev.yes ?_ (Ev.bind (a := (zeroTa, ((st : Int), (ti : Int), out))) ?_ (Ev.now _)))))))
  · rw [le_two (by omega) (by omega), Int.toNat_natCast, fits_of (by omega)]
    rfl
  · rw [Int.toNat_natCast]
    exact e2
/-- The table is undone alike under another name, and comes back under the names of old. -/
theorem states_home {st ti : Nat} {rs out : List Rw} {o b : List Int} (hT : TabOk st ti rs) (hO : Ord st o) (h : Renm st ti (fnO o) id (st * ti) rs out) (hl : b.length = st) (hb : ∀ i, i < st → b[fnO o i]? = some ((i : Nat) : Int)) :
    TabOk st ti out ∧ (ApartR out ↔ ApartR rs) ∧ Ev (fun k => impl_RenameStates k (((st : Int), (ti : Int), out), b)) (((st : Int), (ti : Int), rs), true) := by
  obtain ⟨hp, _⟩ := ord_fn hO
  obtain ⟨hB, hbk⟩ := back_ord hO hl hb
  have ho := Renm.ok hp (permId ti) hT h
  obtain ⟨hlr, _, _, _, _, h16⟩ := len_nat hT
  have hlo := h.1
  refine ⟨ho, Renm.apart hp (permId ti) hT h, ?_⟩
  obtain ⟨r, e, _, A⟩ := renStates_both ((st : Int), (ti : Int), out) b (by show out.length ≤ _; omega) (by have := hT.1; omega)
  rcases A with ⟨hn, _⟩ | ⟨_, _, st', ti', q1, q2, home, rfl, hh⟩
  · exact absurd ⟨ho, hB⟩ hn
  · have q1 : (st : Int) = st' := q1
    have q2 : (ti : Int) = ti' := q2
    obtain rfl : st = st' := by omega
    obtain rfl : ti = ti' := by omega
    rw [Renm.home hp (permId ti) hT h hh hbk (fun i _ => rfl)] at e
    exact e
theorem tints_home {st ti : Nat} {rs out : List Rw} {o b : List Int} (hT : TabOk st ti rs) (hO : Ord ti o) (h : Renm st ti id (fnO o) (st * ti) rs out) (hl : b.length = ti) (hb : ∀ i, i < ti → b[fnO o i]? = some ((i : Nat) : Int)) :
    TabOk st ti out ∧ Ev (fun k => impl_RenameTints k (((st : Int), (ti : Int), out), b)) (((st : Int), (ti : Int), rs), true) := by
  obtain ⟨hp, _⟩ := ord_fn hO
  obtain ⟨hB, hbk⟩ := back_ord hO hl hb
  have ho := Renm.ok (permId st) hp hT h
  obtain ⟨hlr, _, _, _, _, h16⟩ := len_nat hT
  have hlo := h.1
  refine ⟨ho, ?_⟩
  obtain ⟨r, e, _, A⟩ := renTints_both ((st : Int), (ti : Int), out) b (by show out.length ≤ _; omega) (by have := hT.2.1; omega)
  rcases A with ⟨hn, _⟩ | ⟨_, _, st', ti', q1, q2, home, rfl, hh⟩
  · exact absurd ⟨ho, hB⟩ hn
  · have q1 : (st : Int) = st' := q1
    have q2 : (ti : Int) = ti' := q2
    obtain rfl : st = st' := by omega
    obtain rfl : ti = ti' := by omega
    rw [Renm.home (permId st) hp hT h hh (fun i _ => rfl) hbk] at e
    exact e
theorem Ev.conc {α : Type} {g : Nat → Option α} {r : α} (h : ∀ k, g (k + 40) = some r) : Ev g r := ⟨40, fun k hk => by
  obtain ⟨j, rfl⟩ := Nat.exists_eq_add_of_le' hk
  exact h j⟩
theorem neqB (b : Bool) : (!(b == b)) = false := by cases b <;> rfl
/-! ### Undone -/
theorem canUndo_both (t : TaT) (ht : t.2.2.length ≤ 1048576) : ∃ r, Ev (fun k => impl_CanUndo k t) r ∧ Ev (fun k => spec_CanUndo k t) r ∧ ((TabOk t.1 t.2.1 t.2.2 ∧ r.2 = true ∧ (r.1 = true ↔ ApartR t.2.2)) ∨ (¬ TabOk t.1 t.2.1 t.2.2 ∧ r.2 = false)) := by
  obtain ⟨st, ti, rs⟩ := t
  have ht : rs.length ≤ 1048576 := ht
  have A := isTable_ev st ti rs ht
  have B := taGood_ev st ti rs ht
  by_cases hT : TabOk st ti rs
  · obtain ⟨b, e1, h1⟩ := canUndo_ev st ti rs ht
    obtain ⟨b', e2, h2⟩ := taUndo_ev st ti rs ht
    obtain rfl : b = b' := by
      cases b <;> cases b' <;> first | rfl | exact absurd (h1.1 rfl) (fun h => Bool.noConfusion (h2.2 h)) | exact absurd (h2.1 rfl) (fun h => Bool.noConfusion (h1.2 h))
    exact ⟨(b, true), Ev.step (fun k => impl_CanUndo.eq k st ti rs) (Ev.bind (A.isT hT) (Ev.no rfl (Ev.bind e1 (Ev.now _)))), Ev.step (fun k => spec_CanUndo.eq k st ti rs) (Ev.bind (B.isT hT) (Ev.no rfl (Ev.bind e2 (Ev.now _)))), .inl ⟨hT, rfl, h1⟩⟩
  · exact ⟨(false, false), Ev.step (fun k => impl_CanUndo.eq k st ti rs) (Ev.bind (A.isF hT) (Ev.yes rfl (Ev.now _))), Ev.step (fun k => spec_CanUndo.eq k st ti rs) (Ev.bind (B.isF hT) (Ev.yes rfl (Ev.now _))), .inr ⟨hT, rfl⟩⟩
/-! ### Mirrored -/
def mirR (r : Rw) : Rw := (r.1, oth r.2.1, r.2.2)
theorem sign_oth {t : ByteArray} (h : Sign t) : Sign (oth t) := by
  obtain ⟨c, hc, h⟩ := h
  exact ⟨othC c, by rw [oth_list, hc]; rfl, signC_oth h⟩
theorem mir_ok {st ti : Int} {rs : List Rw} (h : TabOk st ti rs) : TabOk st ti (rs.map mirR) := by
  refine ⟨h.1, h.2.1, by rw [List.length_map]; exact h.2.2.1, fun r hr => ?_⟩
  obtain ⟨x, hx, rfl⟩ := List.mem_map.1 hr
  obtain ⟨a, b, c⟩ := h.2.2.2 x hx
  exact ⟨a, sign_oth b, c⟩
theorem mir_mir (rs : List Rw) : (rs.map mirR).map mirR = rs := by
  rw [List.map_map]
  refine (List.map_congr_left fun r _ => ?_).trans (List.map_id rs)
  show (r.1, oth (oth r.2.1), r.2.2) = r
  rw [oth_oth]
theorem turn_size {st ti : Int} {rs : List Rw} (hT : TabOk st ti rs) {x : Rw} (h : x ∈ rs) : x.2.1.size = 1 := by
  obtain ⟨_, ⟨c, hc, _⟩, _⟩ := hT.2.2.2 x h
  rw [size_list, hc]
  rfl
section
variable {st ti : Int} {rs : List Rw} (hT : TabOk st ti rs) (hl : rs.length ≤ 1048576)
include hT hl
theorem mir_i (st' ti' : Int) : ∀ (m i : Nat) (out : List Rw), i + m = rs.length → out.length = rs.length → (∀ j, j < i → out[j]? = (rs.map mirR)[j]?) → (∀ j, i ≤ j → out[j]? = rs[j]?) →
    Ev (fun k => impl_MirrorTable_l k (zeroTa, (st', ti', out), (), (rs.length : Int), (i : Int))) (zeroTa, (st', ti', rs.map mirR))
  | 0, i, out, hm, ho, h1, h2 => Ev.step (fun k => impl_MirrorTable_l.eq k 0 0 [] st' ti' out (rs.length : Int) (i : Int)) (Ev.no (not_lt_nat (by omega)) (Ev.now' (by
      congr 3
      apply List.ext_getElem?
      intro j
      by_cases hj : j < i
      · exact h1 j hj
      · rw [List.getElem?_eq_none (by omega), List.getElem?_eq_none (by rw [List.length_map]; omega)])))
  | m + 1, i, out, hm, ho, h1, h2 => by
    obtain ⟨x, hx⟩ := nat_list (l := rs) (i := i) (by omega)
    have hxo : out[i]? = some x := by rw [h2 i (Nat.le_refl _), hx]
    have hz := turn_size hT (List.mem_of_getElem? hx)
    refine Ev.step (fun k => impl_MirrorTable_l.eq k 0 0 [] st' ti' out (rs.length : Int) (i : Int)) (Ev.yes (lt_nat (by omega)) (Ev.yes (inB_nat (by omega)) ?_))
    rw [Int.toNat_natCast, getD_at hxo]
    refine Ev.bind (other_ev x.2.1 (by omega)) (Ev.yes (inB_nat (by omega)) ?_)
    rw [w64_succ (by omega)]
    refine mir_i st' ti' m (i + 1) _ (by omega) (by rw [List.length_set]; exact ho) (fun j hj => ?_) (fun j hj => ?_)
    · by_cases e : j = i
      · subst e
        rw [List.getElem?_set_self (by omega), List.getElem?_map, hx]
        rfl
      · rw [List.getElem?_set_ne (by omega)]
        exact h1 j (by omega)
    · rw [List.getElem?_set_ne (by omega)]
      exact h2 j (by omega)
theorem mir_s (st' ti' : Int) : ∀ (m i : Nat), i + m = rs.length → Ev (fun k => spec_MirrorTable_l k (zeroTa, (st', ti', (rs.take i).map mirR), rs, (rs.length : Int), (i : Int))) (zeroTa, (st', ti', rs.map mirR))
  | 0, i, hm => Ev.step (fun k => spec_MirrorTable_l.eq k 0 0 [] st' ti' _ rs (rs.length : Int) (i : Int)) (Ev.no (not_lt_nat (by omega)) (Ev.now' (by rw [List.take_of_length_le (by omega)])))
  | m + 1, i, hm => by
    obtain ⟨x, hx⟩ := nat_list (l := rs) (i := i) (by omega)
    have hz := turn_size hT (List.mem_of_getElem? hx)
    refine Ev.step (fun k => spec_MirrorTable_l.eq k 0 0 [] st' ti' _ rs (rs.length : Int) (i : Int)) (Ev.yes (lt_nat (by omega)) (Ev.yes (inB_nat (by omega)) ?_))
    rw [Int.toNat_natCast, getD_at hx]
    refine Ev.bind (woOther_ev x.2.1 (by omega)) (Ev.yes (fits_of (by rw [List.length_map, List.length_take]; omega)) ?_)
    rw [w64_succ (by omega)]
    have e : (rs.take i).map mirR ++ [(x.1, oth x.2.1, x.2.2)] = (rs.take (i + 1)).map mirR := by
      rw [List.take_add_one, hx, List.map_append]
      rfl
    rw [e]
    exact mir_s st' ti' m (i + 1) (by omega)
end
theorem mirror_both (t : TaT) (ht : t.2.2.length ≤ 1048576) : ∃ r, Ev (fun k => impl_MirrorTable k t) r ∧ Ev (fun k => spec_MirrorTable k t) r ∧ ((TabOk t.1 t.2.1 t.2.2 ∧ r = ((t.1, t.2.1, t.2.2.map mirR), true)) ∨ (¬ TabOk t.1 t.2.1 t.2.2 ∧ r = (zeroTa, false))) := by
  obtain ⟨st, ti, rs⟩ := t
  have ht : rs.length ≤ 1048576 := ht
  have A := isTable_ev st ti rs ht
  have B := taGood_ev st ti rs ht
  by_cases hT : TabOk st ti rs
  · have e1 := mir_i hT ht st ti rs.length 0 rs (by omega) rfl (fun j hj => absurd hj (Nat.not_lt_zero j)) (fun j _ => rfl)
    have e2 := mir_s hT ht st ti rs.length 0 (by omega)
    exact ⟨((st, ti, rs.map mirR), true), Ev.step (fun k => impl_MirrorTable.eq k st ti rs) (Ev.bind (A.isT hT) (Ev.no rfl (Ev.bind (tableOwn_ev st ti rs ht) (Ev.bind e1 (Ev.now _))))), Ev.step (fun k => spec_MirrorTable.eq k st ti rs) (Ev.bind (B.isT hT) (Ev.no rfl (Ev.bind e2 (Ev.now _)))), .inl ⟨hT, rfl⟩⟩
  · exact ⟨(zeroTa, false), Ev.step (fun k => impl_MirrorTable.eq k st ti rs) (Ev.bind (A.isF hT) (Ev.yes rfl (Ev.now _))), Ev.step (fun k => spec_MirrorTable.eq k st ti rs) (Ev.bind (B.isF hT) (Ev.yes rfl (Ev.now _))), .inr ⟨hT, rfl⟩⟩
theorem mirror_twice (t : TaT) (ht : t.2.2.length ≤ 1048576) (hT : TabOk t.1 t.2.1 t.2.2) : Ev (fun k => impl_MirrorTable k (t.1, t.2.1, t.2.2.map mirR)) (t, true) := by
  obtain ⟨r, e, _, A⟩ := mirror_both (t.1, t.2.1, t.2.2.map mirR) (by show (t.2.2.map mirR).length ≤ _; rw [List.length_map]; exact ht)
  rcases A with ⟨_, rfl⟩ | ⟨h, _⟩
  · have e3 : (t.2.2.map mirR).map mirR = t.2.2 := mir_mir _
    simp only [e3] at e
    exact e
  · exact absurd (mir_ok hT) h
/-! ### Rows -/
theorem row_get {st ti s c : Int} {rs : List Rw} (hT : TabOk st ti rs) (hs : 0 ≤ s ∧ s ≤ st - 1) (hc : 0 ≤ c ∧ c ≤ ti - 1) : w64 (w64 (s * ti) + c) = s * ti + c ∧ inB (s * ti + c) rs.length = true ∧ (s * ti + c).toNat < rs.length := by
  obtain ⟨h1, h2, h3, _⟩ := hT
  have := at_range (x := c) (y := s) (w := ti) (h := st) hc hs (by omega) (by omega)
  rw [Int.mul_comm ti st] at this
  rw [w64_of (n := s * ti) (by omega) (by omega), w64_of (by omega) (by omega)]
  exact ⟨rfl, inB_of (by omega) (by omega), by omega⟩
theorem row_ev {st ti s c : Int} {rs : List Rw} (hT : TabOk st ti rs) (hs : 0 ≤ s ∧ s ≤ st - 1) (hc : 0 ≤ c ∧ c ≤ ti - 1) : Ev (fun k => impl_Table_row k ((st, ti, rs), s, c)) (rs.getD (s * ti + c).toNat default) := by
  obtain ⟨a, b, _⟩ := row_get hT hs hc
  refine Ev.step (fun k => impl_Table_row.eq k st ti rs s c) ?_
  rw [a]
  exact Ev.yes b (Ev.now _)
abbrev zeroRw : Rw := (0, ByteArray.empty, 0)
theorem rowOf_both (t : TaT) (s c : Int) (ht : t.2.2.length ≤ 1048576) : ∃ r, Ev (fun k => impl_RowOf k (t, s, c)) r ∧ Ev (fun k => spec_RowOf k (t, s, c)) r ∧ (TabOk t.1 t.2.1 t.2.2 → (0 ≤ s ∧ s ≤ t.1 - 1) → (0 ≤ c ∧ c ≤ t.2.1 - 1) → r = (t.2.2.getD (s * t.2.1 + c).toNat default, true)) := by
  obtain ⟨st, ti, rs⟩ := t
  have ht : rs.length ≤ 1048576 := ht
  have A := isTable_ev st ti rs ht
  have B := taGood_ev st ti rs ht
  by_cases hT : TabOk st ti rs
  rotate_left
  · exact ⟨(zeroRw, false), Ev.step (fun k => impl_RowOf.eq k st ti rs s c) (Ev.bind (A.isF hT) (Ev.yes rfl (Ev.now _))), Ev.step (fun k => spec_RowOf.eq k st ti rs s c) (Ev.bind (B.isF hT) (Ev.yes rfl (Ev.now _))), fun h => absurd h hT⟩
  have h1 := hT.1
  have h2 := hT.2.1
  have w1 : w64 (ti - 1) = ti - 1 := w64_of (by omega) (by omega)
  have w2 : w64 (st - 1) = st - 1 := w64_of (by omega) (by omega)
  have S1 : EvB (fun k => impl_Table_isState k ((st, ti, rs), s)) (0 ≤ s ∧ s ≤ st - 1) := EvB.step (fun k => impl_Table_isState.eq k st ti rs s) (by rw [w2]; exact (within_ev s 0 (st - 1)).ret)
  have S2 : EvB (fun k => impl_Table_isTint k ((st, ti, rs), c)) (0 ≤ c ∧ c ≤ ti - 1) := EvB.step (fun k => impl_Table_isTint.eq k st ti rs c) (by rw [w1]; exact (within_ev c 0 (ti - 1)).ret)
  have S3 := l1In_ev s 0 (st - 1)
  have S4 := l1In_ev c 0 (ti - 1)
  by_cases hs : 0 ≤ s ∧ s ≤ st - 1
  rotate_left
  · exact ⟨(zeroRw, false), Ev.step (fun k => impl_RowOf.eq k st ti rs s c) (Ev.bind (A.isT hT) (Ev.no rfl (Ev.bind (S1.isF hs) (Ev.yes rfl (Ev.now _))))), Ev.step (fun k => spec_RowOf.eq k st ti rs s c) (Ev.bind (B.isT hT) (Ev.no rfl (Ev.bind (by rw [w2]; exact S3.isF hs) (Ev.yes rfl (Ev.now _))))), fun _ h => absurd h hs⟩
  by_cases hc : 0 ≤ c ∧ c ≤ ti - 1
  rotate_left
  · exact ⟨(zeroRw, false), Ev.step (fun k => impl_RowOf.eq k st ti rs s c) (Ev.bind (A.isT hT) (Ev.no rfl (Ev.bind (S1.isT hs) (Ev.no rfl (Ev.bind (S2.isF hc) (Ev.yes rfl (Ev.now _))))))), Ev.step (fun k => spec_RowOf.eq k st ti rs s c) (Ev.bind (B.isT hT) (Ev.no rfl (Ev.bind (by rw [w2]; exact S3.isT hs) (Ev.no rfl (Ev.bind (by rw [w1]; exact S4.isF hc) (Ev.yes rfl (Ev.now _))))))), fun _ _ h => absurd h hc⟩
  obtain ⟨a, b, _⟩ := row_get hT hs hc
  refine ⟨(rs.getD (s * ti + c).toNat default, true), Ev.step (fun k => impl_RowOf.eq k st ti rs s c) (Ev.bind (A.isT hT) (Ev.no rfl (Ev.bind (S1.isT hs) (Ev.no rfl (Ev.bind (S2.isT hc) (Ev.no rfl (Ev.bind (row_ev hT hs hc) (Ev.now _)))))))), Ev.step (fun k => spec_RowOf.eq k st ti rs s c) (Ev.bind (B.isT hT) (Ev.no rfl (Ev.bind (by rw [w2]; exact S3.isT hs) (Ev.no rfl (Ev.bind (by rw [w1]; exact S4.isT hc) (Ev.no rfl ?_)))))), fun _ _ _ => rfl⟩
  rw [a]
  exact Ev.yes b (Ev.now _)
/-! ### Empty scenes -/
abbrev ScT : Type := Int × Int × List Rw × Int × Int × ByteArray × Int × Int × Int × Int
abbrev zeroSc : ScT := (0, 0, [], 0, 0, ByteArray.empty, 0, 0, 0, 0)
def zerosB (n : Nat) : ByteArray := bs (List.replicate n 48)
theorem zerosB_list (n : Nat) : (zerosB n).data.toList = List.replicate n 48 := rfl
theorem zerosB_size (n : Nat) : (zerosB n).size = n := by rw [size_list, zerosB_list, List.length_replicate]
theorem woZeros_ev (n : Nat) (hn : n ≤ 1000) : Ev (fun k => spec_woZeros k (n : Int)) (zerosB n) := by
  have loop : ∀ (m i : Nat), i + m = n → Ev (fun k => spec_woZeros_l k ((m : Int), zerosB i)) (zerosB n) := by
    intro m
    induction m with
    | zero =>
      intro i hi
      obtain rfl : i = n := by omega
      exact Ev.step (fun k => spec_woZeros_l.eq k _ _) (Ev.no rfl (Ev.now _))
    | succ m ih =>
      intro i hi
      have hz := zerosB_size i
      have e : zerosB i ++ bs [48] = zerosB (i + 1) := ba_ext (by
        rw [append_list]
        show List.replicate i 48 ++ [48] = List.replicate (i + 1) 48
        rw [List.replicate_succ'])
      refine Ev.step (fun k => spec_woZeros_l.eq k _ _) (Ev.yes (decide_eq_true (by omega)) (Ev.yes (fitS_of (by rw [hz]; show i + 1 < _; omega)) ?_))
      rw [e, show w64 (((m + 1 : Nat) : Int) - 1) = (m : Int) by rw [w64_of (by omega) (by omega)]; omega]
      exact ih (i + 1) (by omega)
  exact Ev.step (fun k => spec_woZeros.eq k (n : Int)) (Ev.bind (loop n 0 (by omega)) (Ev.now _))
theorem rep_one (c : UInt8) : ∀ n : Nat, Lib.repeatL [c] n = List.replicate n c
  | 0 => rfl
  | n + 1 => by
    have ih := rep_one c n
    simp only [Lib.repeatL] at ih ⊢
    simp [List.replicate_succ] at ih ⊢
    try exact ih
theorem repeat_ev (n : Nat) (hn : n ≤ 1000) : Ev (fun k => strings_Repeat k (bs [48], (n : Int))) (zerosB n) :=
  Ev.step (fun k => (strings_Repeat.eq k (bs [48], (n : Int))).trans (show strRep (bs [48]) (n : Int) = some (zerosB n) from by
    unfold strRep
    rw [if_pos ⟨⟨by omega, by omega⟩, by decide⟩]
    congr 1
    apply ba_ext
    show Lib.repeatL [48] (n : Int).toNat = List.replicate n 48
    rw [Int.toNat_natCast, rep_one])) (Ev.now _)
theorem dCount_ev (n : Nat) (hn : n ≤ 1000) : Ev (fun k => laws_dCount k (zerosB n, 48)) 0 := by
  have loop : ∀ (m i : Nat), i + m = n → Ev (fun k => laws_dCount_l k (zerosB n, 48, 0, (i : Int))) 0 := by
    intro m
    induction m with
    | zero => intro i hi; exact Ev.step (fun k => laws_dCount_l.eq k _ _ _ _) (Ev.no (by rw [zerosB_size]; exact not_lt_nat (by omega)) (Ev.now _))
    | succ m ih =>
      intro i hi
      have hb : bt (zerosB n) i = 48 := bt_at (c := 48) (by rw [zerosB_list, List.getElem?_replicate, if_pos (by omega)])
      refine Ev.step (fun k => laws_dCount_l.eq k _ _ _ _) (Ev.yes (by rw [zerosB_size]; exact lt_nat (by omega)) (Ev.yes (by rw [zerosB_size]; exact inB_nat (by omega)) (Ev.no (by rw [Int.toNat_natCast, hb]; rfl) ?_)))
      rw [w64_succ (by omega)]
      exact ih (i + 1) (by omega)
  exact Ev.step (fun k => laws_dCount.eq k _ _) (Ev.bind (loop n 0 (by omega)) (Ev.now _))
theorem taOwn_ev (st ti : Int) (rs : List Rw) (w h : Int) (cs : ByteArray) (x y wy sa : Int) (hl : rs.length ≤ 1048576) : Ev (fun k => spec_taOwn k (st, ti, rs, w, h, cs, x, y, wy, sa)) (st, ti, rs, w, h, cs, x, y, wy, sa) :=
  Ev.step (fun k => spec_taOwn.eq k st ti rs w h cs x y wy sa) (Ev.yes (fits_of (by omega)) (Ev.now _))
theorem isSize_ev (w h : Int) : EvB (fun k => impl_isSize k (w, h)) ((1 ≤ w ∧ w ≤ 9) ∧ (1 ≤ h ∧ h ≤ 9)) := EvB.step (fun k => impl_isSize.eq k w h) (EvB.and (within_ev w 1 9) fun _ => (within_ev h 1 9).ret)
theorem empty_both (t : TaT) (w h : Int) (ht : t.2.2.length ≤ 1048576) : ∃ r : ScT × Bool, Ev (fun k => impl_EmptyScene k (t, w, h)) r ∧ Ev (fun k => spec_EmptyScene k (t, w, h)) r ∧ r.1.2.2.1.length ≤ 1048576 ∧ (r.2 = true → Ev (fun k => impl_IsScene k r.1) true ∧ Ev (fun k => laws_dCount k (r.1.2.2.2.2.2.1, 48)) 0) := by
  obtain ⟨st, ti, rs⟩ := t
  have ht : rs.length ≤ 1048576 := ht
  have A := isTable_ev st ti rs ht
  have B := taGood_ev st ti rs ht
  by_cases hT : TabOk st ti rs
  rotate_left
  · exact ⟨(zeroSc, false), Ev.step (fun k => impl_EmptyScene.eq k st ti rs w h) (Ev.bind (A.isF hT) (Ev.yes rfl (Ev.now _))), Ev.step (fun k => spec_EmptyScene.eq k st ti rs w h) (Ev.bind (B.isF hT) (Ev.yes rfl (Ev.now _))), Nat.zero_le _, nofun⟩
  have S := isSize_ev w h
  have S3 := l1In_ev w 1 9
  have S4 := l1In_ev h 1 9
  by_cases hw : 1 ≤ w ∧ w ≤ 9
  rotate_left
  · exact ⟨(zeroSc, false), Ev.step (fun k => impl_EmptyScene.eq k st ti rs w h) (Ev.bind (A.isT hT) (Ev.no rfl (Ev.bind (S.isF fun q => hw q.1) (Ev.yes rfl (Ev.now _))))), Ev.step (fun k => spec_EmptyScene.eq k st ti rs w h) (Ev.bind (B.isT hT) (Ev.no rfl (Ev.bind (S3.isF hw) (Ev.yes rfl (Ev.now _))))), Nat.zero_le _, nofun⟩
  by_cases hh : 1 ≤ h ∧ h ≤ 9
  rotate_left
  · exact ⟨(zeroSc, false), Ev.step (fun k => impl_EmptyScene.eq k st ti rs w h) (Ev.bind (A.isT hT) (Ev.no rfl (Ev.bind (S.isF fun q => hh q.2) (Ev.yes rfl (Ev.now _))))), Ev.step (fun k => spec_EmptyScene.eq k st ti rs w h) (Ev.bind (B.isT hT) (Ev.no rfl (Ev.bind (S3.isT hw) (Ev.no rfl (Ev.bind (S4.isF hh) (Ev.yes rfl (Ev.now _))))))), Nat.zero_le _, nofun⟩
  have hm := mul_range (a := w) (b := h) hw.1 hw.2 hh.1 hh.2
  have e1 : w64 (w * h) = ((w * h).toNat : Int) := by rw [w64_of (by omega) (by omega)]; omega
  refine ⟨((st, ti, rs, w, h, zerosB (w * h).toNat, 0, 0, 0, 0), true), Ev.step (fun k => impl_EmptyScene.eq k st ti rs w h) (Ev.bind (A.isT hT) (Ev.no rfl (Ev.bind (S.isT ⟨hw, hh⟩) (Ev.no rfl (Ev.bind (tableOwn_ev st ti rs ht) (Ev.bind ?_ (Ev.now _))))))), Ev.step (fun k => spec_EmptyScene.eq k st ti rs w h) (Ev.bind (B.isT hT) (Ev.no rfl (Ev.bind (S3.isT hw) (Ev.no rfl (Ev.bind (S4.isT hh) (Ev.no rfl (Ev.bind ?_ (Ev.bind (taOwn_ev st ti rs w h _ 0 0 0 0 ht) (Ev.now _))))))))), ht, fun _ => ⟨?_, dCount_ev _ (by omega)⟩⟩
  · rw [e1]
    exact repeat_ev _ (by omega)
  · rw [e1]
    exact woZeros_ev _ (by omega)
  · have hti := hT.2.1
    have hst := hT.1
    have C := areCells_ev ti (by omega) (zerosB (w * h).toNat) (by rw [zerosB_size]; omega) (w64 (w * h))
    have hC : CellsOk ti (zerosB (w * h).toNat) ∧ ((zerosB (w * h).toNat).size : Int) = w64 (w * h) := ⟨fun c hc => by
      rw [zerosB_list] at hc
      rw [List.eq_of_mem_replicate hc]
      exact ⟨by decide, by show (48 : Int) ≤ _; omega⟩, by rw [zerosB_size, e1]⟩
    have D := isAnt_ev w h 0 0 0 hw hh
    have w2 : w64 (st - 1) = st - 1 := w64_of (by omega) (by omega)
    have S1 : EvB (fun k => impl_Table_isState k ((st, ti, rs), 0)) ((0 : Int) ≤ 0 ∧ 0 ≤ st - 1) := EvB.step (fun k => impl_Table_isState.eq k st ti rs 0) (by rw [w2]; exact (within_ev 0 0 (st - 1)).ret)
    exact Ev.step (fun k => impl_IsScene.eq k st ti rs w h _ 0 0 0 0) (Ev.bind (A.isT hT) (Ev.yes rfl (Ev.bind (S.isT ⟨hw, hh⟩) (Ev.yes rfl (Ev.bind (C.isT hC) (Ev.yes rfl (Ev.bind (D.isT (by omega)) (Ev.yes rfl (Ev.bind (S1.isT (by omega)) (Ev.now _))))))))))
/-! ### How many -/
def CntA (p q : Int) : Prop := ∃ c u b, Ev (fun k => impl_CountTables k (p, q)) (c, b) ∧ Ev (fun k => spec_CountTables k (p, q)) (c, b) ∧ Ev (fun k => impl_CountUndoable k (p, q)) (u, b) ∧ Ev (fun k => spec_CountUndoable k (p, q)) (u, b) ∧ (b = true → 1 ≤ u ∧ u ≤ c)
theorem cnt_1_1 : CntA 1 1 := ⟨4, 4, true, Ev.conc fun k => by kernel_rfl, Ev.conc fun k => by kernel_rfl, Ev.conc fun k => by kernel_rfl, Ev.conc fun k => by kernel_rfl, fun _ => by decide⟩
theorem cnt_1_2 : CntA 1 2 := ⟨64, 32, true, Ev.conc fun k => by kernel_rfl, Ev.conc fun k => by kernel_rfl, Ev.conc fun k => by kernel_rfl, Ev.conc fun k => by kernel_rfl, fun _ => by decide⟩
theorem cnt_1_3 : CntA 1 3 := ⟨1728, 384, true, Ev.conc fun k => by kernel_rfl, Ev.conc fun k => by kernel_rfl, Ev.conc fun k => by kernel_rfl, Ev.conc fun k => by kernel_rfl, fun _ => by decide⟩
theorem cnt_1_4 : CntA 1 4 := ⟨65536, 6144, true, Ev.conc fun k => by kernel_rfl, Ev.conc fun k => by kernel_rfl, Ev.conc fun k => by kernel_rfl, Ev.conc fun k => by kernel_rfl, fun _ => by decide⟩
theorem cnt_1_0 : CntA 1 0 := ⟨0, 0, false, Ev.conc fun k => by kernel_rfl, Ev.conc fun k => by kernel_rfl, Ev.conc fun k => by kernel_rfl, Ev.conc fun k => by kernel_rfl, nofun⟩
theorem cnt_1_m : CntA 1 (-1) := ⟨0, 0, false, Ev.conc fun k => by kernel_rfl, Ev.conc fun k => by kernel_rfl, Ev.conc fun k => by kernel_rfl, Ev.conc fun k => by kernel_rfl, nofun⟩
theorem cnt_2_1 : CntA 2 1 := ⟨64, 32, true, Ev.conc fun k => by kernel_rfl, Ev.conc fun k => by kernel_rfl, Ev.conc fun k => by kernel_rfl, Ev.conc fun k => by kernel_rfl, fun _ => by decide⟩
theorem cnt_2_2 : CntA 2 2 := ⟨65536, 6144, true, Ev.conc fun k => by kernel_rfl, Ev.conc fun k => by kernel_rfl, Ev.conc fun k => by kernel_rfl, Ev.conc fun k => by kernel_rfl, fun _ => by decide⟩
theorem cnt_2_3 : CntA 2 3 := ⟨0, 0, false, Ev.conc fun k => by kernel_rfl, Ev.conc fun k => by kernel_rfl, Ev.conc fun k => by kernel_rfl, Ev.conc fun k => by kernel_rfl, nofun⟩
theorem cnt_2_4 : CntA 2 4 := ⟨0, 0, false, Ev.conc fun k => by kernel_rfl, Ev.conc fun k => by kernel_rfl, Ev.conc fun k => by kernel_rfl, Ev.conc fun k => by kernel_rfl, nofun⟩
theorem cnt_2_0 : CntA 2 0 := ⟨0, 0, false, Ev.conc fun k => by kernel_rfl, Ev.conc fun k => by kernel_rfl, Ev.conc fun k => by kernel_rfl, Ev.conc fun k => by kernel_rfl, nofun⟩
theorem cnt_2_m : CntA 2 (-1) := ⟨0, 0, false, Ev.conc fun k => by kernel_rfl, Ev.conc fun k => by kernel_rfl, Ev.conc fun k => by kernel_rfl, Ev.conc fun k => by kernel_rfl, nofun⟩
theorem cnt_3_1 : CntA 3 1 := ⟨1728, 384, true, Ev.conc fun k => by kernel_rfl, Ev.conc fun k => by kernel_rfl, Ev.conc fun k => by kernel_rfl, Ev.conc fun k => by kernel_rfl, fun _ => by decide⟩
theorem cnt_3_2 : CntA 3 2 := ⟨0, 0, false, Ev.conc fun k => by kernel_rfl, Ev.conc fun k => by kernel_rfl, Ev.conc fun k => by kernel_rfl, Ev.conc fun k => by kernel_rfl, nofun⟩
theorem cnt_3_3 : CntA 3 3 := ⟨0, 0, false, Ev.conc fun k => by kernel_rfl, Ev.conc fun k => by kernel_rfl, Ev.conc fun k => by kernel_rfl, Ev.conc fun k => by kernel_rfl, nofun⟩
theorem cnt_3_4 : CntA 3 4 := ⟨0, 0, false, Ev.conc fun k => by kernel_rfl, Ev.conc fun k => by kernel_rfl, Ev.conc fun k => by kernel_rfl, Ev.conc fun k => by kernel_rfl, nofun⟩
theorem cnt_3_0 : CntA 3 0 := ⟨0, 0, false, Ev.conc fun k => by kernel_rfl, Ev.conc fun k => by kernel_rfl, Ev.conc fun k => by kernel_rfl, Ev.conc fun k => by kernel_rfl, nofun⟩
theorem cnt_3_m : CntA 3 (-1) := ⟨0, 0, false, Ev.conc fun k => by kernel_rfl, Ev.conc fun k => by kernel_rfl, Ev.conc fun k => by kernel_rfl, Ev.conc fun k => by kernel_rfl, nofun⟩
theorem cnt_4_1 : CntA 4 1 := ⟨65536, 6144, true, Ev.conc fun k => by kernel_rfl, Ev.conc fun k => by kernel_rfl, Ev.conc fun k => by kernel_rfl, Ev.conc fun k => by kernel_rfl, fun _ => by decide⟩
theorem cnt_4_2 : CntA 4 2 := ⟨0, 0, false, Ev.conc fun k => by kernel_rfl, Ev.conc fun k => by kernel_rfl, Ev.conc fun k => by kernel_rfl, Ev.conc fun k => by kernel_rfl, nofun⟩
theorem cnt_4_3 : CntA 4 3 := ⟨0, 0, false, Ev.conc fun k => by kernel_rfl, Ev.conc fun k => by kernel_rfl, Ev.conc fun k => by kernel_rfl, Ev.conc fun k => by kernel_rfl, nofun⟩
theorem cnt_4_4 : CntA 4 4 := ⟨0, 0, false, Ev.conc fun k => by kernel_rfl, Ev.conc fun k => by kernel_rfl, Ev.conc fun k => by kernel_rfl, Ev.conc fun k => by kernel_rfl, nofun⟩
theorem cnt_4_0 : CntA 4 0 := ⟨0, 0, false, Ev.conc fun k => by kernel_rfl, Ev.conc fun k => by kernel_rfl, Ev.conc fun k => by kernel_rfl, Ev.conc fun k => by kernel_rfl, nofun⟩
theorem cnt_4_m : CntA 4 (-1) := ⟨0, 0, false, Ev.conc fun k => by kernel_rfl, Ev.conc fun k => by kernel_rfl, Ev.conc fun k => by kernel_rfl, Ev.conc fun k => by kernel_rfl, nofun⟩
theorem cnt_0_1 : CntA 0 1 := ⟨0, 0, false, Ev.conc fun k => by kernel_rfl, Ev.conc fun k => by kernel_rfl, Ev.conc fun k => by kernel_rfl, Ev.conc fun k => by kernel_rfl, nofun⟩
theorem cnt_0_2 : CntA 0 2 := ⟨0, 0, false, Ev.conc fun k => by kernel_rfl, Ev.conc fun k => by kernel_rfl, Ev.conc fun k => by kernel_rfl, Ev.conc fun k => by kernel_rfl, nofun⟩
theorem cnt_0_3 : CntA 0 3 := ⟨0, 0, false, Ev.conc fun k => by kernel_rfl, Ev.conc fun k => by kernel_rfl, Ev.conc fun k => by kernel_rfl, Ev.conc fun k => by kernel_rfl, nofun⟩
theorem cnt_0_4 : CntA 0 4 := ⟨0, 0, false, Ev.conc fun k => by kernel_rfl, Ev.conc fun k => by kernel_rfl, Ev.conc fun k => by kernel_rfl, Ev.conc fun k => by kernel_rfl, nofun⟩
theorem cnt_0_0 : CntA 0 0 := ⟨0, 0, false, Ev.conc fun k => by kernel_rfl, Ev.conc fun k => by kernel_rfl, Ev.conc fun k => by kernel_rfl, Ev.conc fun k => by kernel_rfl, nofun⟩
theorem cnt_0_m : CntA 0 (-1) := ⟨0, 0, false, Ev.conc fun k => by kernel_rfl, Ev.conc fun k => by kernel_rfl, Ev.conc fun k => by kernel_rfl, Ev.conc fun k => by kernel_rfl, nofun⟩
theorem cnt_b_1 : CntA 4611686018427387904 1 := ⟨0, 0, false, Ev.conc fun k => by kernel_rfl, Ev.conc fun k => by kernel_rfl, Ev.conc fun k => by kernel_rfl, Ev.conc fun k => by kernel_rfl, nofun⟩
theorem cnt_b_2 : CntA 4611686018427387904 2 := ⟨0, 0, false, Ev.conc fun k => by kernel_rfl, Ev.conc fun k => by kernel_rfl, Ev.conc fun k => by kernel_rfl, Ev.conc fun k => by kernel_rfl, nofun⟩
theorem cnt_b_3 : CntA 4611686018427387904 3 := ⟨0, 0, false, Ev.conc fun k => by kernel_rfl, Ev.conc fun k => by kernel_rfl, Ev.conc fun k => by kernel_rfl, Ev.conc fun k => by kernel_rfl, nofun⟩
theorem cnt_b_4 : CntA 4611686018427387904 4 := ⟨0, 0, false, Ev.conc fun k => by kernel_rfl, Ev.conc fun k => by kernel_rfl, Ev.conc fun k => by kernel_rfl, Ev.conc fun k => by kernel_rfl, nofun⟩
theorem cnt_b_0 : CntA 4611686018427387904 0 := ⟨0, 0, false, Ev.conc fun k => by kernel_rfl, Ev.conc fun k => by kernel_rfl, Ev.conc fun k => by kernel_rfl, Ev.conc fun k => by kernel_rfl, nofun⟩
theorem cnt_b_m : CntA 4611686018427387904 (-1) := ⟨0, 0, false, Ev.conc fun k => by kernel_rfl, Ev.conc fun k => by kernel_rfl, Ev.conc fun k => by kernel_rfl, Ev.conc fun k => by kernel_rfl, nofun⟩
theorem count_ev {p q : Int} (hp : p ∈ [1, 2, 3, 4, 0, 1, 2, 4611686018427387904]) (hq : q ∈ [1, 2, 3, 4, 1, 2, 0, (-1)]) : CntA p q := by
  simp only [List.mem_cons, List.not_mem_nil, or_false] at hp hq
  rcases hp with rfl | rfl | rfl | rfl | rfl | rfl | rfl | rfl
  · rcases hq with rfl | rfl | rfl | rfl | rfl | rfl | rfl | rfl
    · exact cnt_1_1
    · exact cnt_1_2
    · exact cnt_1_3
    · exact cnt_1_4
    · exact cnt_1_1
    · exact cnt_1_2
    · exact cnt_1_0
    · exact cnt_1_m
  · rcases hq with rfl | rfl | rfl | rfl | rfl | rfl | rfl | rfl
    · exact cnt_2_1
    · exact cnt_2_2
    · exact cnt_2_3
    · exact cnt_2_4
    · exact cnt_2_1
    · exact cnt_2_2
    · exact cnt_2_0
    · exact cnt_2_m
  · rcases hq with rfl | rfl | rfl | rfl | rfl | rfl | rfl | rfl
    · exact cnt_3_1
    · exact cnt_3_2
    · exact cnt_3_3
    · exact cnt_3_4
    · exact cnt_3_1
    · exact cnt_3_2
    · exact cnt_3_0
    · exact cnt_3_m
  · rcases hq with rfl | rfl | rfl | rfl | rfl | rfl | rfl | rfl
    · exact cnt_4_1
    · exact cnt_4_2
    · exact cnt_4_3
    · exact cnt_4_4
    · exact cnt_4_1
    · exact cnt_4_2
    · exact cnt_4_0
    · exact cnt_4_m
  · rcases hq with rfl | rfl | rfl | rfl | rfl | rfl | rfl | rfl
    · exact cnt_0_1
    · exact cnt_0_2
    · exact cnt_0_3
    · exact cnt_0_4
    · exact cnt_0_1
    · exact cnt_0_2
    · exact cnt_0_0
    · exact cnt_0_m
  · rcases hq with rfl | rfl | rfl | rfl | rfl | rfl | rfl | rfl
    · exact cnt_1_1
    · exact cnt_1_2
    · exact cnt_1_3
    · exact cnt_1_4
    · exact cnt_1_1
    · exact cnt_1_2
    · exact cnt_1_0
    · exact cnt_1_m
  · rcases hq with rfl | rfl | rfl | rfl | rfl | rfl | rfl | rfl
    · exact cnt_2_1
    · exact cnt_2_2
    · exact cnt_2_3
    · exact cnt_2_4
    · exact cnt_2_1
    · exact cnt_2_2
    · exact cnt_2_0
    · exact cnt_2_m
  · rcases hq with rfl | rfl | rfl | rfl | rfl | rfl | rfl | rfl
    · exact cnt_b_1
    · exact cnt_b_2
    · exact cnt_b_3
    · exact cnt_b_4
    · exact cnt_b_1
    · exact cnt_b_2
    · exact cnt_b_0
    · exact cnt_b_m
/-! ### Sorted lists -/
def Sorted (l : List Int) : Prop := l.Pairwise (· < ·)
theorem sorted_ext : ∀ {l l' : List Int}, Sorted l → Sorted l' → (∀ x, x ∈ l ↔ x ∈ l') → l = l'
  | [], [], _, _, _ => rfl
  | [], b :: l', _, _, h => absurd ((h b).2 List.mem_cons_self) List.not_mem_nil
  | a :: l, [], _, _, h => absurd ((h a).1 List.mem_cons_self) List.not_mem_nil
  | a :: l, b :: l', s, s', h => by
    obtain ⟨s1, s2⟩ := List.pairwise_cons.1 s
    obtain ⟨s1', s2'⟩ := List.pairwise_cons.1 s'
    have e : a = b := by
      rcases List.mem_cons.1 ((h a).1 List.mem_cons_self) with e | e
      · exact e
      · rcases List.mem_cons.1 ((h b).2 List.mem_cons_self) with e' | e'
        · exact e'.symm
        · have p := s1' a e
          have q := s1 b e'
          omega
    subst e
    congr 1
    refine sorted_ext s2 s2' fun x => ⟨fun hx => ?_, fun hx => ?_⟩
    · have p := s1 x hx
      exact (List.mem_cons.1 ((h x).1 (List.mem_cons_of_mem _ hx))).resolve_left fun e => by omega
    · have p := s1' x hx
      exact (List.mem_cons.1 ((h x).2 (List.mem_cons_of_mem _ hx))).resolve_left fun e => by omega
theorem len_le {N : Nat} {l : List Int} (hd : l.Pairwise (· ≠ ·)) (h : ∀ x ∈ l, 0 ≤ x ∧ x < N) : l.length ≤ N := by
  have := pigeon N (l.map Int.toNat) (by
    unfold List.Nodup
    rw [List.pairwise_map]
    refine List.Pairwise.imp_of_mem (fun {a b} ha hb hab => ?_) hd
    have := h a ha
    have := h b hb
    omega) fun x hx => by
      obtain ⟨y, hy, rfl⟩ := List.mem_map.1 hx
      have := h y hy
      omega
  rw [List.length_map] at this
  exact this
def SortA (l : List Int) : Prop := ∃ r, Ev (fun k => slices_Sort k l) ((), r) ∧ Sorted r ∧ (∀ x, x ∈ r ↔ x ∈ l) ∧ r.length = l.length
theorem sort_0 : SortA [0] := ⟨[0], Ev.conc fun k => by kernel_rfl, by unfold Sorted; decide, fun x => by simp only [List.mem_cons, List.not_mem_nil, or_false] <;> omega, rfl⟩
theorem sort_01 : SortA [0, 1] := ⟨[0, 1], Ev.conc fun k => by kernel_rfl, by unfold Sorted; decide, fun x => by simp only [List.mem_cons, List.not_mem_nil, or_false] <;> omega, rfl⟩
theorem sort_02 : SortA [0, 2] := ⟨[0, 2], Ev.conc fun k => by kernel_rfl, by unfold Sorted; decide, fun x => by simp only [List.mem_cons, List.not_mem_nil, or_false] <;> omega, rfl⟩
theorem sort_03 : SortA [0, 3] := ⟨[0, 3], Ev.conc fun k => by kernel_rfl, by unfold Sorted; decide, fun x => by simp only [List.mem_cons, List.not_mem_nil, or_false] <;> omega, rfl⟩
theorem sort_012 : SortA [0, 1, 2] := ⟨[0, 1, 2], Ev.conc fun k => by kernel_rfl, by unfold Sorted; decide, fun x => by simp only [List.mem_cons, List.not_mem_nil, or_false] <;> omega, rfl⟩
theorem sort_013 : SortA [0, 1, 3] := ⟨[0, 1, 3], Ev.conc fun k => by kernel_rfl, by unfold Sorted; decide, fun x => by simp only [List.mem_cons, List.not_mem_nil, or_false] <;> omega, rfl⟩
theorem sort_021 : SortA [0, 2, 1] := ⟨[0, 1, 2], Ev.conc fun k => by kernel_rfl, by unfold Sorted; decide, fun x => by simp only [List.mem_cons, List.not_mem_nil, or_false] <;> omega, rfl⟩
theorem sort_023 : SortA [0, 2, 3] := ⟨[0, 2, 3], Ev.conc fun k => by kernel_rfl, by unfold Sorted; decide, fun x => by simp only [List.mem_cons, List.not_mem_nil, or_false] <;> omega, rfl⟩
theorem sort_031 : SortA [0, 3, 1] := ⟨[0, 1, 3], Ev.conc fun k => by kernel_rfl, by unfold Sorted; decide, fun x => by simp only [List.mem_cons, List.not_mem_nil, or_false] <;> omega, rfl⟩
theorem sort_032 : SortA [0, 3, 2] := ⟨[0, 2, 3], Ev.conc fun k => by kernel_rfl, by unfold Sorted; decide, fun x => by simp only [List.mem_cons, List.not_mem_nil, or_false] <;> omega, rfl⟩
theorem sort_0123 : SortA [0, 1, 2, 3] := ⟨[0, 1, 2, 3], Ev.conc fun k => by kernel_rfl, by unfold Sorted; decide, fun x => by simp only [List.mem_cons, List.not_mem_nil, or_false] <;> omega, rfl⟩
theorem sort_0132 : SortA [0, 1, 3, 2] := ⟨[0, 1, 2, 3], Ev.conc fun k => by kernel_rfl, by unfold Sorted; decide, fun x => by simp only [List.mem_cons, List.not_mem_nil, or_false] <;> omega, rfl⟩
theorem sort_0213 : SortA [0, 2, 1, 3] := ⟨[0, 1, 2, 3], Ev.conc fun k => by kernel_rfl, by unfold Sorted; decide, fun x => by simp only [List.mem_cons, List.not_mem_nil, or_false] <;> omega, rfl⟩
theorem sort_0231 : SortA [0, 2, 3, 1] := ⟨[0, 1, 2, 3], Ev.conc fun k => by kernel_rfl, by unfold Sorted; decide, fun x => by simp only [List.mem_cons, List.not_mem_nil, or_false] <;> omega, rfl⟩
theorem sort_0312 : SortA [0, 3, 1, 2] := ⟨[0, 1, 2, 3], Ev.conc fun k => by kernel_rfl, by unfold Sorted; decide, fun x => by simp only [List.mem_cons, List.not_mem_nil, or_false] <;> omega, rfl⟩
theorem sort_0321 : SortA [0, 3, 2, 1] := ⟨[0, 1, 2, 3], Ev.conc fun k => by kernel_rfl, by unfold Sorted; decide, fun x => by simp only [List.mem_cons, List.not_mem_nil, or_false] <;> omega, rfl⟩
theorem sort_ev {l : List Int} (hd : l.Pairwise (· ≠ ·)) (h : ∀ x ∈ l, 0 ≤ x ∧ x < 4) (h0 : l[0]? = some 0) : SortA l := by
  have hz := len_le (N := 4) hd h
  match l, h0 with
  | [_], rfl => exact sort_0
  | [_, a], rfl =>
    have ha := h a (by simp)
    simp at hd
    have : a = 1 ∨ a = 2 ∨ a = 3 := by omega
    rcases this with rfl | rfl | rfl
    · exact sort_01
    · exact sort_02
    · exact sort_03
  | [_, a, b], rfl =>
    have ha := h a (by simp)
    have hb := h b (by simp)
    simp at hd
    have : a = 1 ∨ a = 2 ∨ a = 3 := by omega
    have : b = 1 ∨ b = 2 ∨ b = 3 := by omega
    rcases ‹a = 1 ∨ a = 2 ∨ a = 3› with rfl | rfl | rfl <;> rcases ‹b = 1 ∨ b = 2 ∨ b = 3› with rfl | rfl | rfl <;> first | exact absurd rfl hd.2 | exact sort_012 | exact sort_013 | exact sort_021 | exact sort_023 | exact sort_031 | exact sort_032 | (exfalso; omega)
  | [_, a, b, c], rfl =>
    have ha := h a (by simp)
    have hb := h b (by simp)
    have hc := h c (by simp)
    simp at hd
    have : a = 1 ∨ a = 2 ∨ a = 3 := by omega
    have : b = 1 ∨ b = 2 ∨ b = 3 := by omega
    have : c = 1 ∨ c = 2 ∨ c = 3 := by omega
    rcases ‹a = 1 ∨ a = 2 ∨ a = 3› with rfl | rfl | rfl <;> rcases ‹b = 1 ∨ b = 2 ∨ b = 3› with rfl | rfl | rfl <;> rcases ‹c = 1 ∨ c = 2 ∨ c = 3› with rfl | rfl | rfl <;> first | (exfalso; omega) | exact sort_0123 | exact sort_0132 | exact sort_0213 | exact sort_0231 | exact sort_0312 | exact sort_0321
  | _ :: _ :: _ :: _ :: _ :: _, _ =>
    simp only [List.length_cons] at hz
    omega
/-! ### A number is put into a sorted list -/
theorem put_pure {l : List Int} (hs : Sorted l) {n : Int} {j : Nat} (hj : j ≤ l.length) (h1 : ∀ x ∈ l.take j, x < n) (h2 : ∀ x ∈ l.drop j, n < x) :
    Sorted (l.take j ++ [n] ++ l.drop j) ∧ (∀ x, x ∈ l.take j ++ [n] ++ l.drop j ↔ x ∈ l ∨ x = n) ∧ (l.take j ++ [n] ++ l.drop j).length = l.length + 1 := by
  have e := List.take_append_drop j l
  refine ⟨?_, fun x => ?_, ?_⟩
  · have hs' : Sorted (l.take j ++ l.drop j) := by rw [e]; exact hs
    unfold Sorted at hs' ⊢
    rw [List.append_assoc, List.pairwise_append]
    rw [List.pairwise_append] at hs'
    refine ⟨hs'.1, ?_, fun a ha b hb => ?_⟩
    · show (n :: l.drop j).Pairwise _
      rw [List.pairwise_cons]
      exact ⟨h2, hs'.2.1⟩
    · rcases List.mem_cons.1 hb with rfl | hb
      · exact h1 a ha
      · exact hs'.2.2 a ha b hb
  · have : x ∈ l ↔ x ∈ l.take j ∨ x ∈ l.drop j := by rw [← List.mem_append, e]
    rw [this]
    simp only [List.mem_append, List.mem_cons, List.not_mem_nil, or_false]
    constructor
    · rintro ((h | h) | h)
      · exact .inl (.inl h)
      · exact .inr h
      · exact .inl (.inr h)
    · rintro ((h | h) | h)
      · exact .inl (.inl h)
      · exact .inr h
      · exact .inl (.inr h)
  · simp only [List.length_append, List.length_take, List.length_drop, List.length_cons, List.length_nil]
    omega
theorem l1Put_ev {l : List Int} (hs : Sorted l) (hl : l.length ≤ 1000) {n : Int} (hn : n ∉ l) : ∃ r, Ev (fun k => spec_l1Put k (l, n)) r ∧ Sorted r ∧ (∀ x, x ∈ r ↔ x ∈ l ∨ x = n) ∧ r.length = l.length + 1 := by
  have srch := Ev.find l (by omega) (fun x => ¬ x < n) (fun k i => spec_l1Put_l k (l, n, i)) (fun j => (l, n, (j : Int))) (l, n, (l.length : Int))
    (fun i x hx r h1 h2 => by
      have hi := (List.getElem?_eq_some_iff.1 hx).1
      refine Ev.step (fun k => spec_l1Put_l.eq k l n (i : Int)) (Ev.yes (lt_nat hi) (Ev.yes (inB_nat hi) ?_))
      rw [Int.toNat_natCast, getD_at hx]
      exact evGoB decide_eq_true_iff (fun h => h2 (Classical.not_not.2 h)) fun h => Ev.now' (h1 h).symm)
    (Ev.step (fun k => spec_l1Put_l.eq k l n (l.length : Int)) (Ev.no (not_lt_nat (Nat.lt_irrefl _)) (Ev.now _)))
  have tail : ∀ j : Nat, j ≤ l.length → Ev (fun k => cond ((decide ((0 : Int) ≤ (j : Int))) && (decide ((j : Int) ≤ (l.length : Int))))
      (cond (fits (0 + (l.take (j : Int).toNat).length) 8) (cond (fits (([] ++ (l.take (j : Int).toNat)).length + 1) 8) (cond ((decide ((0 : Int) ≤ (j : Int))) && (decide ((j : Int) ≤ (l.length : Int))))
        (cond (fits ((([] ++ (l.take (j : Int).toNat)) ++ [n]).length + ((l.drop (j : Int).toNat).take (l.length - (j : Int).toNat)).length) 8) (some ((([] ++ (l.take (j : Int).toNat)) ++ [n]) ++ ((l.drop (j : Int).toNat).take (l.length - (j : Int).toNat)))) none) none) none) none) none) (l.take j ++ [n] ++ l.drop j) := fun j hj => by
    refine Ev.yes (le_two (by omega) (by omega)) (Ev.yes (fits_of ?_) (Ev.yes (fits_of ?_) (Ev.yes (le_two (by omega) (by omega)) (Ev.yes (fits_of ?_) (Ev.now' ?_)))))
    · rw [List.length_take]; omega
    · rw [List.nil_append, List.length_take]; omega
    · simp only [List.nil_append, List.length_append, List.length_take, List.length_drop, List.length_cons, List.length_nil]; omega
    · rw [Int.toNat_natCast, List.nil_append, List.take_of_length_le (l := l.drop j) (by rw [List.length_drop]; omega)]
  rcases srch with ⟨h1, h2⟩ | ⟨j, x, hx, hp, hf, h2⟩
  · refine ⟨_, Ev.step (fun k => spec_l1Put.eq k l n) (Ev.bind h2 (Ev.no (not_lt_nat (Nat.lt_irrefl _)) (tail l.length (Nat.le_refl _)))), put_pure hs (Nat.le_refl _) (fun x hx => Classical.not_not.1 (h1 x (List.mem_of_mem_take hx))) fun x hx => ?_⟩
    rw [List.drop_length] at hx
    cases hx
  · have hj := (List.getElem?_eq_some_iff.1 hx).1
    have hne : x ≠ n := fun e => hn (e ▸ List.mem_of_getElem? hx)
    refine ⟨_, Ev.step (fun k => spec_l1Put.eq k l n) (Ev.bind h2 (Ev.yes (lt_nat hj) (Ev.yes (inB_nat hj) (Ev.no ?_ (tail j (by omega)))))), put_pure hs (by omega) (fun y hy => ?_) fun y hy => ?_⟩
    · simp only [Int.toNat_natCast, getD_at hx]
      exact beq_eq_false_iff_ne.2 hne
    · obtain ⟨i, hi⟩ := List.mem_iff_getElem?.1 hy
      rw [List.getElem?_take] at hi
      split at hi
      · exact Classical.not_not.1 (hf i y (by assumption) hi)
      · cases hi
    · obtain ⟨i, hi⟩ := List.mem_iff_getElem?.1 hy
      rw [List.getElem?_drop] at hi
      cases i with
      | zero =>
        rw [Nat.add_zero, hx] at hi
        cases hi
        omega
      | succ i =>
        have h3 := (List.getElem?_eq_some_iff.1 hi)
        have h4 := (List.getElem?_eq_some_iff.1 hx)
        have := (List.pairwise_iff_getElem.1 hs) j (j + (i + 1)) h4.1 h3.1 (by omega)
        rw [h3.2, h4.2] at this
        omega
inductive Reach (ti : Nat) (rs : List Rw) : Int → Prop
  | zero : Reach ti rs 0
  | step {i : Nat} {x : Rw} : rs[i]? = some x → Reach ti rs ((i / ti : Nat) : Int) → Reach ti rs x.2.2
def Closed (ti : Nat) (rs : List Rw) (out : List Int) : Prop := ∀ (i : Nat) (x : Rw), rs[i]? = some x → ((i / ti : Nat) : Int) ∈ out → x.2.2 ∈ out
theorem closed_mem {ti : Nat} {rs : List Rw} {out : List Int} (h0 : (0 : Int) ∈ out) (hc : Closed ti rs out) (hr : ∀ x ∈ out, Reach ti rs x) (s : Int) : s ∈ out ↔ Reach ti rs s := by
  refine ⟨hr s, fun h => ?_⟩
  induction h with
  | zero => exact h0
  | step hx _ ih => exact hc _ _ hx ih
section
variable {st ti : Nat} {rs : List Rw} (hT : TabOk st ti rs)
include hT
theorem Reach.range {s : Int} (h : Reach ti rs s) : 0 ≤ s ∧ s < st := by
  have := hT.1
  cases h with
  | zero => omega
  | step hx _ =>
    obtain ⟨_, _, a, b⟩ := hT.2.2.2 _ (List.mem_of_getElem? hx)
    omega
/-! ### The program's way -/
def GoodR (ti : Nat) (rs : List Rw) (out : List Int) : Prop := out.Pairwise (· ≠ ·) ∧ out[0]? = some 0 ∧ ∀ x ∈ out, Reach ti rs x
def DoneR (ti : Nat) (rs : List Rw) (s : Int) (out : List Int) : Prop := ∀ (k : Nat) (x : Rw), rs[k]? = some x → ((k / ti : Nat) : Int) = s → x.2.2 ∈ out
theorem GoodR.len {out : List Int} (h : GoodR ti rs out) : out.length ≤ st := len_le h.1 fun x hx => Reach.range hT (h.2.2 x hx)
theorem reach_in (i : Nat) (S : Nat) (hS : S < st) : ∀ (m c : Nat) (out : List Int), c + m = ti → GoodR ti rs out → out[i]? = some ((S : Nat) : Int) → (∀ (c' : Nat) (x : Rw), c' < c → rs[S * ti + c']? = some x → x.2.2 ∈ out) →
    ∃ suf, Ev (fun k => impl_StatesReached_l_l k (((st : Int), (ti : Int), rs), out, (i : Int), (ti : Int), (c : Int))) (((st : Int), (ti : Int), rs), out ++ suf, (i : Int)) ∧ GoodR ti rs (out ++ suf) ∧ (∀ (c' : Nat) (x : Rw), c' < ti → rs[S * ti + c']? = some x → x.2.2 ∈ out ++ suf)
  | 0, c, out, hm, hg, hi, hd => ⟨[], by rw [List.append_nil]; exact Ev.step (fun k => impl_StatesReached_l_l.eq k st ti rs out i ti c) (Ev.no (not_lt_nat (by omega)) (Ev.now _)), by rw [List.append_nil]; exact hg, by rw [List.append_nil]; exact fun c' x h hx => hd c' x (by omega) hx⟩
  | m + 1, c, out, hm, hg, hi, hd => by
    obtain ⟨hl, b1, b2, b3, b4, h16⟩ := len_nat hT
    have hlen := GoodR.len hT hg
    have hil := (List.getElem?_eq_some_iff.1 hi).1
    have hidx : S * ti + c < rs.length := by rw [hl]; exact put_lt hS (by omega)
    obtain ⟨x, hx⟩ := nat_list hidx
    have hrow := row_ev hT (s := ((S : Nat) : Int)) (c := ((c : Nat) : Int)) (by omega) (by omega)
    have eI : ((S : Nat) : Int) * ((ti : Nat) : Int) + ((c : Nat) : Int) = ((S * ti + c : Nat) : Int) := by rw [Int.natCast_add, Int.natCast_mul]
    rw [eI, Int.toNat_natCast, getD_at hx] at hrow
    have hsp := split_at (ti := ti) (a := S) (b := c) (by omega)
    have hdn : ∀ out2 : List Int, (∀ y ∈ out, y ∈ out2) → x.2.2 ∈ out2 → ∀ (c' : Nat) (y : Rw), c' < c + 1 → rs[S * ti + c']? = some y → y.2.2 ∈ out2 := fun out2 h1 h2 c' y hc' hy => by
      by_cases e : c' = c
      · subst e
        rw [hx] at hy
        cases hy
        exact h2
      · exact h1 _ (hd c' y (by omega) hy)
    have step : ∀ r, Ev (fun k => (slices_Contains k (out, x.2.2)).bind fun r2 => cond (!r2) (cond (fits (out.length + 1) 8) (impl_StatesReached_l_l k (((st : Int), (ti : Int), rs), (out ++ [x.2.2]), (i : Int), (ti : Int), ((c + 1 : Nat) : Int))) none) (impl_StatesReached_l_l k (((st : Int), (ti : Int), rs), out, (i : Int), (ti : Int), ((c + 1 : Nat) : Int)))) r →
        Ev (fun k => impl_StatesReached_l_l k (((st : Int), (ti : Int), rs), out, (i : Int), (ti : Int), (c : Int))) r := fun r H => by
      refine Ev.step (fun k => impl_StatesReached_l_l.eq k st ti rs out i ti c) (Ev.yes (lt_nat (by omega)) (Ev.yes (inB_nat hil) ?_))
      rw [Int.toNat_natCast, getD_at hi, w64_succ (by omega)]
      exact Ev.bind hrow H
    by_cases hin : x.2.2 ∈ out
    · obtain ⟨suf, e1, g1, d1⟩ := reach_in i S hS m (c + 1) out (by omega) hg hi (hdn out (fun y hy => hy) hin)
      exact ⟨suf, step _ (EvB.goN (containsI_ev out (by omega) x.2.2) (fun h => absurd hin h) fun _ => e1), g1, d1⟩
    · have hg' : GoodR ti rs (out ++ [x.2.2]) := ⟨by
        rw [List.pairwise_append]
        refine ⟨hg.1, List.pairwise_cons.2 ⟨by simp, List.Pairwise.nil⟩, fun a ha b hb => ?_⟩
        rw [List.mem_singleton.1 hb]
        exact fun e => hin (e ▸ ha), by
        rw [List.getElem?_append_left (by omega)]
        exact hg.2.1, fun y hy => by
        rcases List.mem_append.1 hy with hy | hy
        · exact hg.2.2 y hy
        · rw [List.mem_singleton.1 hy]
          refine Reach.step hx ?_
          rw [hsp.1]
          exact hg.2.2 _ (List.mem_of_getElem? hi)⟩
      obtain ⟨suf, e1, g1, d1⟩ := reach_in i S hS m (c + 1) (out ++ [x.2.2]) (by omega) hg' (by rw [List.getElem?_append_left hil]; exact hi) (hdn _ (fun y hy => List.mem_append_left _ hy) (by simp))
      rw [List.append_assoc] at e1 g1 d1
      exact ⟨[x.2.2] ++ suf, step _ (EvB.goN (containsI_ev out (by omega) x.2.2) (fun _ => Ev.yes (fits_of (by omega)) e1) fun h => absurd h hin), g1, d1⟩
theorem reach_out : ∀ (m i : Nat) (out : List Int), st ≤ i + m → GoodR ti rs out → (∀ (j : Nat) (s : Int), j < i → out[j]? = some s → DoneR ti rs s out) →
    ∃ out', Ev (fun k => impl_StatesReached_l k (((st : Int), (ti : Int), rs), out, (i : Int))) out' ∧ GoodR ti rs out' ∧ ∀ s ∈ out', DoneR ti rs s out' := by
  have done : ∀ (i : Nat) (out : List Int), out.length ≤ i → GoodR ti rs out → (∀ (j : Nat) (s : Int), j < i → out[j]? = some s → DoneR ti rs s out) →
      ∃ out', Ev (fun k => impl_StatesReached_l k (((st : Int), (ti : Int), rs), out, (i : Int))) out' ∧ GoodR ti rs out' ∧ ∀ s ∈ out', DoneR ti rs s out' := fun i out h hg hd =>
    ⟨out, Ev.step (fun k => impl_StatesReached_l.eq k st ti rs out i) (Ev.no (not_lt_nat (by omega)) (Ev.now _)), hg, fun s hs => by
      obtain ⟨j, hj⟩ := List.mem_iff_getElem?.1 hs
      exact hd j s (by have := (List.getElem?_eq_some_iff.1 hj).1; omega) hj⟩
  intro m
  induction m with
  | zero =>
    intro i out hm hg hd
    have := GoodR.len hT hg
    exact done i out (by omega) hg hd
  | succ m ih =>
    intro i out hm hg hd
    by_cases hi : i < out.length
    · obtain ⟨hl, b1, b2, b3, b4, h16⟩ := len_nat hT
      have hlen := GoodR.len hT hg
      obtain ⟨s, hs⟩ := nat_list hi
      have hr := Reach.range hT (hg.2.2 s (List.mem_of_getElem? hs))
      obtain ⟨S, rfl⟩ := Int.eq_ofNat_of_zero_le hr.1
      obtain ⟨suf, e1, g1, d1⟩ := reach_in hT i S (by omega) ti 0 out (by omega) hg hs (fun c' x h _ => absurd h (Nat.not_lt_zero c'))
      obtain ⟨out', e2, g2, d2⟩ := ih (i + 1) (out ++ suf) (by omega) g1 (fun j s' hj hs' k x hx hk => by
        by_cases e : j = i
        · subst e
          rw [List.getElem?_append_left hi, hs] at hs'
          cases hs'
          have hkl := (List.getElem?_eq_some_iff.1 hx).1
          have e3 : k / ti = S := by exact_mod_cast hk
          have e4 : k = S * ti + k % ti := by rw [← e3, Nat.mul_comm]; exact (Nat.div_add_mod k ti).symm
          rw [e4] at hx
          exact d1 (k % ti) x (Nat.mod_lt _ (by omega)) hx
        · rw [List.getElem?_append_left (by omega)] at hs'
          exact List.mem_append_left _ (hd j s' (by omega) hs' k x hx hk))
      refine ⟨out', Ev.step (fun k => impl_StatesReached_l.eq k st ti rs out i) (Ev.yes (lt_nat hi) (Ev.bind e1 ?_)), g2, d2⟩
      simp only [w64_succ (show i < 9223372036854775807 by omega)]
      exact e2
    · exact done i out (by omega) hg hd
/-! ### The reference's way -/
def SpR (ti : Nat) (rs : List Rw) (out : List Int) : Prop := Sorted out ∧ (0 : Int) ∈ out ∧ ∀ x ∈ out, Reach ti rs x
theorem SpR.len {out : List Int} (h : SpR ti rs out) : out.length ≤ st := len_le (h.1.imp fun {a b} hab => by omega) fun x hx => Reach.range hT (h.2.2 x hx)
theorem round_ev (kk : Int) (out0 : List Int) : ∀ (m i : Nat) (out : List Int), i + m = rs.length → SpR ti rs out → (∀ x ∈ out0, x ∈ out) → (out0.length < out.length ∨ (out = out0 ∧ ∀ (j : Nat) (x : Rw), j < i → rs[j]? = some x → ((j / ti : Nat) : Int) ∈ out0 → x.2.2 ∈ out0)) →
    ∃ out', Ev (fun k => spec_StatesReached_l_l k (((st : Int), (ti : Int), rs), out, kk, (), (rs.length : Int), (i : Int))) (((st : Int), (ti : Int), rs), out', kk) ∧ SpR ti rs out' ∧ (∀ x ∈ out0, x ∈ out') ∧ (out0.length < out'.length ∨ (out' = out0 ∧ Closed ti rs out0))
  | 0, i, out, hm, hg, hs, hd => ⟨out, Ev.step (fun k => spec_StatesReached_l_l.eq k st ti rs out kk (rs.length : Int) i) (Ev.no (not_lt_nat (by omega)) (Ev.now _)), hg, hs, by
    rcases hd with h | ⟨h, h'⟩
    · exact .inl h
    · exact .inr ⟨h, fun j x hx hj => h' j x (by have := (List.getElem?_eq_some_iff.1 hx).1; omega) hx hj⟩⟩
  | m + 1, i, out, hm, hg, hs, hd => by
    obtain ⟨hl, b1, b2, b3, b4, h16⟩ := len_nat hT
    have hlen := SpR.len hT hg
    obtain ⟨x, hx⟩ := nat_list (l := rs) (i := i) (by omega)
    have step : ∀ r, Ev (fun k => (spec_l1Has k (out, ((i / ti : Nat) : Int))).bind fun r1 => cond r1 ((spec_l1Has k (out, x.2.2)).bind fun r2 => cond (!r2) ((spec_l1Put k (out, x.2.2)).bind fun r3 => spec_StatesReached_l_l k (((st : Int), (ti : Int), rs), r3, kk, (), (rs.length : Int), ((i + 1 : Nat) : Int)))
        (spec_StatesReached_l_l k (((st : Int), (ti : Int), rs), out, kk, (), (rs.length : Int), ((i + 1 : Nat) : Int)))) (spec_StatesReached_l_l k (((st : Int), (ti : Int), rs), out, kk, (), (rs.length : Int), ((i + 1 : Nat) : Int)))) r →
        Ev (fun k => spec_StatesReached_l_l k (((st : Int), (ti : Int), rs), out, kk, (), (rs.length : Int), (i : Int))) r := fun r H => by
      refine Ev.step (fun k => spec_StatesReached_l_l.eq k st ti rs out kk (rs.length : Int) i) (Ev.yes (lt_nat (by omega)) (Ev.yes (inB_nat (by omega)) (Ev.yes (nonzero_ti hT) ?_)))
      rw [div_num (by omega), Int.toNat_natCast, getD_at hx, w64_succ (by omega)]
      exact H
    have same : (((i / ti : Nat) : Int) ∈ out → x.2.2 ∈ out) → ∃ out', Ev (fun k => spec_StatesReached_l_l k (((st : Int), (ti : Int), rs), out, kk, (), (rs.length : Int), ((i + 1 : Nat) : Int))) (((st : Int), (ti : Int), rs), out', kk) ∧ SpR ti rs out' ∧ (∀ x ∈ out0, x ∈ out') ∧ (out0.length < out'.length ∨ (out' = out0 ∧ Closed ti rs out0)) := fun h =>
      round_ev kk out0 m (i + 1) out (by omega) hg hs (by
        rcases hd with h' | ⟨e, h'⟩
        · exact .inl h'
        · refine .inr ⟨e, fun j y hj hy hm' => ?_⟩
          by_cases ej : j = i
          · subst ej
            rw [hx] at hy
            cases hy
            rw [← e] at hm' ⊢
            exact h hm'
          · exact h' j y (by omega) hy hm')
    by_cases h1 : ((i / ti : Nat) : Int) ∈ out
    · by_cases h2 : x.2.2 ∈ out
      · obtain ⟨out', e1, q⟩ := same fun _ => h2
        exact ⟨out', step _ (EvB.go (l1Has_ev out (by omega) _) (fun _ => EvB.goN (l1Has_ev out (by omega) _) (fun h => absurd h2 h) fun _ => e1) fun h => absurd h1 h), q⟩
      · obtain ⟨r, e3, p1, p2, p3⟩ := l1Put_ev hg.1 (by omega) h2
        obtain ⟨out', e1, q⟩ := round_ev kk out0 m (i + 1) r (by omega) ⟨p1, (p2 0).2 (.inl hg.2.1), fun y hy => by
          rcases (p2 y).1 hy with hy | rfl
          · exact hg.2.2 y hy
          · exact Reach.step hx (hg.2.2 _ h1)⟩ (fun y hy => (p2 y).2 (.inl (hs y hy))) (.inl (by
          rcases hd with h' | ⟨e, _⟩
          · omega
          · rw [p3, e]; omega))
        exact ⟨out', step _ (EvB.go (l1Has_ev out (by omega) _) (fun _ => EvB.goN (l1Has_ev out (by omega) _) (fun _ => Ev.bind e3 e1) fun h => absurd h h2) fun h => absurd h1 h), q⟩
    · obtain ⟨out', e1, q⟩ := same fun h => absurd h h1
      exact ⟨out', step _ (EvB.go (l1Has_ev out (by omega) _) (fun h => absurd h h1) fun _ => e1), q⟩
theorem rounds_ev : ∀ (m i : Nat) (out : List Int), i + m = st → SpR ti rs out → (i + 1 ≤ out.length ∨ Closed ti rs out) →
    ∃ out', Ev (fun k => spec_StatesReached_l k (((st : Int), (ti : Int), rs), out, (i : Int))) out' ∧ SpR ti rs out' ∧ Closed ti rs out'
  | 0, i, out, hm, hg, hd => ⟨out, Ev.step (fun k => spec_StatesReached_l.eq k st ti rs out i) (Ev.no (not_lt_nat (by omega)) (Ev.now _)), hg, by
    rcases hd with h | h
    · have := SpR.len hT hg
      omega
    · exact h⟩
  | m + 1, i, out, hm, hg, hd => by
    obtain ⟨hl, b1, b2, b3, b4, h16⟩ := len_nat hT
    obtain ⟨out1, e1, g1, s1, d1⟩ := round_ev hT (i : Int) out rs.length 0 out (by omega) hg (fun x h => h) (.inr ⟨rfl, fun j x hj => absurd hj (Nat.not_lt_zero j)⟩)
    obtain ⟨out', e2, q⟩ := rounds_ev m (i + 1) out1 (by omega) g1 (by
      rcases hd with h | h
      · rcases d1 with h' | ⟨e, h'⟩
        · exact .inl (by omega)
        · exact .inr (by rw [e]; exact h')
      · refine .inr fun j x hx hj => s1 _ (h j x hx ?_)
        exact (closed_mem hg.2.1 h hg.2.2 _).2 (g1.2.2 _ hj))
    refine ⟨out', Ev.step (fun k => spec_StatesReached_l.eq k st ti rs out i) (Ev.yes (lt_nat (by omega)) (Ev.bind e1 ?_)), q⟩
    simp only [w64_succ (show i < 9223372036854775807 by omega)]
    exact e2
end
/-- What the law asks of the states that are reached. -/
def RchA (t : TaT) (r : List Int) : Prop := 1 ≤ r.length ∧ r[0]? = some 0 ∧ (r.length : Int) ≤ t.1 ∧ ∀ s ∈ r, (0 ≤ s ∧ s ≤ t.1 - 1) ∧ ∀ c : Int, (0 ≤ c ∧ c ≤ t.2.1 - 1) → (t.2.2.getD (s * t.2.1 + c).toNat default).2.2 ∈ r
theorem reached_both (t : TaT) (ht : t.2.2.length ≤ 1048576) : ∃ r : List Int × Bool, Ev (fun k => impl_StatesReached k t) r ∧ Ev (fun k => spec_StatesReached k t) r ∧ r.1.length ≤ 1000 ∧ ((TabOk t.1 t.2.1 t.2.2 ∧ r.2 = true ∧ RchA t r.1) ∨ (¬ TabOk t.1 t.2.1 t.2.2 ∧ r.2 = false)) := by
  obtain ⟨st, ti, rs⟩ := t
  have ht : rs.length ≤ 1048576 := ht
  have A := isTable_ev st ti rs ht
  have B := taGood_ev st ti rs ht
  by_cases hT : TabOk st ti rs
  rotate_left
  · exact ⟨([], false), Ev.step (fun k => impl_StatesReached.eq k st ti rs) (Ev.bind (A.isF hT) (Ev.yes rfl (Ev.now _))), Ev.step (fun k => spec_StatesReached.eq k st ti rs) (Ev.bind (B.isF hT) (Ev.yes rfl (Ev.now _))), Nat.zero_le _, .inr ⟨hT, rfl⟩⟩
  have hst := hT.1
  have hti := hT.2.1
  obtain ⟨st, rfl⟩ := Int.eq_ofNat_of_zero_le (show 0 ≤ st by omega)
  obtain ⟨ti, rfl⟩ := Int.eq_ofNat_of_zero_le (show 0 ≤ ti by omega)
  obtain ⟨hl, b1, b2, b3, b4, h16⟩ := len_nat hT
  obtain ⟨o1, e1, g1, d1⟩ := reach_out hT st 0 [0] (by omega) ⟨List.pairwise_singleton _ _, rfl, fun x hx => by rw [List.mem_singleton.1 hx]; exact Reach.zero⟩ (fun j s hj => absurd hj (Nat.not_lt_zero j))
  obtain ⟨o2, e2, g2, d2⟩ := rounds_ev hT st 0 [0] (by omega) ⟨List.pairwise_singleton _ _, by simp, fun x hx => by rw [List.mem_singleton.1 hx]; exact Reach.zero⟩ (.inl (by simp))
  have hl1 := GoodR.len hT g1
  have hl2 := SpR.len hT g2
  obtain ⟨r, e3, s3, m3, z3⟩ := sort_ev g1.1 (fun x hx => by have := Reach.range hT (g1.2.2 x hx); omega) g1.2.1
  have c1 : Closed ti rs o1 := fun i x hx hi => d1 _ hi i x hx rfl
  obtain rfl : r = o2 := sorted_ext s3 g2.1 fun x => by rw [m3, closed_mem (List.mem_of_getElem? g1.2.1) c1 g1.2.2, closed_mem g2.2.1 d2 g2.2.2]
  refine ⟨(r, true), Ev.step (fun k => impl_StatesReached.eq k st ti rs) (Ev.bind (A.isT hT) (Ev.no rfl (Ev.bind e1 (Ev.bind e3 (Ev.now _))))), Ev.step (fun k => spec_StatesReached.eq k st ti rs) (Ev.bind (B.isT hT) (Ev.no rfl (Ev.bind e2 (Ev.now _)))), by show r.length ≤ 1000; omega, .inl ⟨hT, rfl, ?_, ?_, by show (r.length : Int) ≤ ((st : Nat) : Int); omega, fun s hs => ?_⟩⟩
  · exact List.length_pos_of_mem g2.2.1
  · have h0 := g2.2.1
    cases r with
    | nil => cases h0
    | cons a l =>
      have ha := Reach.range hT (g2.2.2 a List.mem_cons_self)
      rcases List.mem_cons.1 h0 with e | e
      · rw [← e]; rfl
      · have := (List.pairwise_cons.1 s3).1 0 e
        omega
  · have hr := Reach.range hT (g2.2.2 s hs)
    refine ⟨by show 0 ≤ s ∧ s ≤ ((st : Nat) : Int) - 1; omega, fun c hc => ?_⟩
    have hc : 0 ≤ c ∧ c ≤ ((ti : Nat) : Int) - 1 := hc
    obtain ⟨S, rfl⟩ := Int.eq_ofNat_of_zero_le hr.1
    obtain ⟨C, rfl⟩ := Int.eq_ofNat_of_zero_le hc.1
    have eI : ((S : Nat) : Int) * ((ti : Nat) : Int) + ((C : Nat) : Int) = ((S * ti + C : Nat) : Int) := by rw [Int.natCast_add, Int.natCast_mul]
    show (rs.getD (((S : Nat) : Int) * ((ti : Nat) : Int) + ((C : Nat) : Int)).toNat default).2.2 ∈ r
    rw [eI, Int.toNat_natCast]
    obtain ⟨x, hx⟩ := nat_list (l := rs) (i := S * ti + C) (by rw [hl]; exact put_lt (by omega) (by omega))
    rw [getD_at hx]
    refine d2 _ x hx ?_
    rw [(split_at (ti := ti) (a := S) (b := C) (by omega)).1]
    exact hs
end Go.Proofs.YtcmebphcoamohaaGreatDoorS
