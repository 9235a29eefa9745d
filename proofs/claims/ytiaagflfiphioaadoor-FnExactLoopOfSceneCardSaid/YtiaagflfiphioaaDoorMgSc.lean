/- Several texts in one: PuScene, PuScene2, PuScene3, PuScene4. -/
import Derived.Test.YtiaagflfiphioaaDoorPuKit
import Derived.Test.YtiaagflfiphioaaDoorEq0
import Derived.Lib.Bytealg
namespace Go.Proofs.YtiaagflfiphioaaDoorS.Sc
open Go Go.Proofs.YtiaagflfiphioaaDoorS
set_option linter.unusedVariables false
set_option linter.unusedSimpArgs false
abbrev Rw := Int × (ByteArray × Int)

/-! ### Sizes -/
theorem szRow_ev (x : Rw) (left : Int) (hg : x.2.1.size ≤ 9223372036854775807) (h0 : 0 ≤ left) (h1 : left ≤ 1048576) :
    Ev (fun k => laws_szRow k (x, left)) (-1) ∨ (0 ≤ left - (x.2.1.size : Int) ∧ Ev (fun k => laws_szRow k (x, left)) (left - (x.2.1.size : Int))) := by
  obtain ⟨p, t, n⟩ := x
  have hg : t.size ≤ 9223372036854775807 := hg
  have e := w64_of (n := left - (t.size : Int)) (by omega) (by omega)
  by_cases h : left - (t.size : Int) < 0
  · exact .inl (Ev.step (fun k => laws_szRow.eq k p t n left) (Ev.yes (decide_eq_true (by rw [e]; exact h)) (Ev.now _)))
  · exact .inr ⟨by show 0 ≤ left - (t.size : Int); omega, Ev.step (fun k => laws_szRow.eq k p t n left) (Ev.no (decide_eq_false (by rw [e]; exact h)) (Ev.now' e))⟩
theorem szRowS_l_ev (a : List Rw) (hg : ∀ x ∈ a, x.2.1.size ≤ 9223372036854775807) (hl : a.length ≤ 9223372036854775807) : ∀ (m i : Nat) (left : Int), i + m = a.length → 0 ≤ left → left ≤ 1048576 →
    Ev (fun k => laws_szRowS_l k (a, left, (i : Int))) (.inl (-1)) ∨ ∃ t, 0 ≤ t ∧ t ≤ left ∧ Ev (fun k => laws_szRowS_l k (a, left, (i : Int))) (.inr t)
  | 0, i, left, h, h0, h1 => .inr ⟨left, h0, Int.le_refl _, Ev.step (fun k => laws_szRowS_l.eq k a left i) (Ev.no (not_lt_nat (by omega)) (Ev.now _))⟩
  | m + 1, i, left, h, h0, h1 => by
    obtain ⟨x, hx⟩ := nat_list (l := a) (i := i) (by omega)
    have go : ∀ r, Ev (fun k => (laws_szRow k (x, left)).bind fun r1 => cond (decide (r1 < 0)) (some (.inl (-1))) (laws_szRowS_l k (a, r1, w64 ((i : Int) + 1)))) r → Ev (fun k => laws_szRowS_l k (a, left, (i : Int))) r := fun r H =>
      Ev.step (fun k => laws_szRowS_l.eq k a left i) (Ev.yes (lt_nat (by omega)) (Ev.yes (inB_nat (by omega)) (by rw [Int.toNat_natCast, getD_at hx]; exact H)))
    rcases szRow_ev x left (hg x (List.mem_of_getElem? hx)) h0 h1 with h3 | ⟨h2, h3⟩
    · exact .inl (go _ (Ev.bind h3 (Ev.yes rfl (Ev.now _))))
    · have hs : (x.2.1.size : Int) ≥ 0 := by omega
      rcases szRowS_l_ev a hg hl m (i + 1) (left - (x.2.1.size : Int)) (by omega) h2 (by omega) with h4 | ⟨t, t0, t1, h4⟩
      · exact .inl (go _ (Ev.bind h3 (Ev.no (decide_eq_false (by omega)) (by rw [w64_succ (by omega)]; exact h4))))
      · exact .inr ⟨t, t0, by omega, go _ (Ev.bind h3 (Ev.no (decide_eq_false (by omega)) (by rw [w64_succ (by omega)]; exact h4)))⟩
theorem szRowS_ev (a : List Rw) (hg : ∀ x ∈ a, x.2.1.size ≤ 9223372036854775807) (hl : a.length ≤ 9223372036854775807) :
    Ev (fun k => laws_szRowS k (a, 1048576)) (-1) ∨ ∃ t, 0 ≤ t ∧ t ≤ 1048576 ∧ a.length ≤ 1048576 ∧ Ev (fun k => laws_szRowS k (a, 1048576)) t := by
  have e := w64_of (n := 1048576 - (a.length : Int)) (by omega) (by omega)
  by_cases h : (1048576 : Int) - (a.length : Int) < 0
  · exact .inl (Ev.step (fun k => laws_szRowS.eq k a 1048576) (Ev.yes (decide_eq_true (by rw [e]; exact h)) (Ev.now _)))
  · have go : ∀ r, Ev (fun k => (laws_szRowS_l k (a, 1048576 - (a.length : Int), 0)).bind fun r1 => r1.elim (fun r2 => some r2) (fun r3 => some r3)) r → Ev (fun k => laws_szRowS k (a, 1048576)) r := fun r H =>
      Ev.step (fun k => laws_szRowS.eq k a 1048576) (Ev.no (decide_eq_false (by rw [e]; exact h)) (by rw [e]; exact H))
    rcases szRowS_l_ev a hg hl a.length 0 (1048576 - (a.length : Int)) (by omega) (by omega) (by omega) with h4 | ⟨t, t0, t1, h4⟩
    · exact .inl (go _ (Ev.bind h4 (Ev.now _)))
    · exact .inr ⟨t, t0, by omega, by omega, go _ (Ev.bind h4 (Ev.now _))⟩
theorem szTable_ev (st ti : Int) (a : List Rw) (hg : ∀ x ∈ a, x.2.1.size ≤ 9223372036854775807) (hl : a.length ≤ 9223372036854775807) :
    Ev (fun k => laws_szTable k ((st, ti, a), 1048576)) (-1) ∨ ∃ t, 0 ≤ t ∧ t ≤ 1048576 ∧ a.length ≤ 1048576 ∧ Ev (fun k => laws_szTable k ((st, ti, a), 1048576)) t := by
  rcases szRowS_ev a hg hl with h | ⟨t, t0, t1, t2, h⟩
  · exact .inl (Ev.step (fun k => laws_szTable.eq k st ti a 1048576) (Ev.bind h (Ev.yes rfl (Ev.now _))))
  · exact .inr ⟨t, t0, t1, t2, Ev.step (fun k => laws_szTable.eq k st ti a 1048576) (Ev.bind h (Ev.no (decide_eq_false (by omega)) (Ev.now _)))⟩
/-! ### Copies -/
theorem toRow_ev (x : Rw) : Ev (fun k => laws_toRow k x) x := Ev.step (fun k => laws_toRow.eq k x.1 x.2.1 x.2.2) (Ev.now _)
theorem toRowS_l_ev (a : List Rw) (hl : a.length ≤ 1048576) : ∀ (m i : Nat) (out : List Rw), i + m = a.length → out.length = a.length → (∀ j, j < i → out[j]? = a[j]?) → Ev (fun k => laws_toRowS_l k (a, out, (i : Int))) a
  | 0, i, out, h, ho, he => Ev.step (fun k => laws_toRowS_l.eq k a out i) (Ev.no (not_lt_nat (by omega)) (Ev.now' (List.ext_getElem? fun j => by
      by_cases hj : j < i
      · exact he j hj
      · rw [List.getElem?_eq_none (by omega), List.getElem?_eq_none (by omega)])))
  | m + 1, i, out, h, ho, he => by
    obtain ⟨x, hx⟩ := nat_list (l := a) (i := i) (by omega)
    refine Ev.step (fun k => laws_toRowS_l.eq k a out i) (Ev.yes (lt_nat (by omega)) (Ev.yes (inB_nat (by omega)) ?_))
    rw [Int.toNat_natCast, getD_at hx]
    refine Ev.bind (toRow_ev x) (Ev.yes (inB_nat (by omega)) ?_)
    rw [w64_succ (by omega)]
    refine toRowS_l_ev a hl m (i + 1) _ (by omega) (by rw [List.length_set]; exact ho) fun j hj => ?_
    rw [List.getElem?_set]
    split
    · rename_i e
      subst e
      rw [if_pos (by omega), hx]
    · exact he j (by omega)
theorem toRowS_ev (a : List Rw) (hl : a.length ≤ 1048576) : Ev (fun k => laws_toRowS k a) a := by
  refine Ev.step (fun k => laws_toRowS.eq k a) (Ev.yes ?_ (Ev.bind (toRowS_l_ev a hl a.length 0 _ (by omega) ?_ fun j hj => by omega) (Ev.now _)))
  · rw [fits_of (by rw [Int.toNat_natCast]; omega)]
    simp
  · rw [List.length_replicate, Int.toNat_natCast]
theorem toTable_ev (st ti : Int) (a : List Rw) (hl : a.length ≤ 1048576) : Ev (fun k => laws_toTable k (st, ti, a)) (st, ti, a) :=
  Ev.step (fun k => laws_toTable.eq k st ti a) (Ev.bind (toRowS_ev a hl) (Ev.now _))
/-! ### Equal to itself -/
theorem eqRow_ev (x : Rw) : Ev (fun k => laws_eqRow k (x, x)) true := by
  refine Ev.step (fun k => laws_eqRow.eq k x.1 x.2.1 x.2.2 x.1 x.2.1 x.2.2) (Ev.no (neq_self _) (Ev.no (by rw [strEq_self]; rfl) (Ev.no (neq_self _) (Ev.now _))))
theorem eqRowS_l_ev (a : List Rw) (hl : a.length ≤ 1048576) : ∀ (m i : Nat), i + m = a.length → Ev (fun k => laws_eqRowS_l k (a, a, (i : Int))) (.inr ())
  | 0, i, h => Ev.step (fun k => laws_eqRowS_l.eq k a a i) (Ev.no (not_lt_nat (by omega)) (Ev.now _))
  | m + 1, i, h => by
    refine Ev.step (fun k => laws_eqRowS_l.eq k a a i) (Ev.yes (lt_nat (by omega)) (Ev.yes (inB_nat (by omega)) (Ev.yes (inB_nat (by omega)) (Ev.bind (eqRow_ev _) (Ev.no rfl ?_)))))
    rw [w64_succ (by omega)]
    exact eqRowS_l_ev a hl m (i + 1) (by omega)
theorem eqTable_ev (st ti : Int) (a : List Rw) (hl : a.length ≤ 1048576) : Ev (fun k => laws_eqTable k ((st, ti, a), (st, ti, a))) true :=
  Ev.step (fun k => laws_eqTable.eq k st ti a st ti a) (Ev.no (neq_self _) (Ev.no (neq_self _) (Ev.bind (Ev.step (fun k => laws_eqRowS.eq k a a) (Ev.no (neq_self _) (Ev.bind (eqRowS_l_ev a hl a.length 0 (by omega)) (Ev.now _)))) (Ev.no rfl (Ev.now _)))))
theorem eqScene_ev (st ti : Int) (a : List Rw) (w h : Int) (cs : ByteArray) (x y wy sa : Int) (hl : a.length ≤ 1048576) :
    Ev (fun k => laws_eqScene k ((st, ti, a, w, h, cs, x, y, wy, sa), (st, ti, a, w, h, cs, x, y, wy, sa))) true :=
  Ev.step (fun k => laws_eqScene.eq k st ti a w h cs x y wy sa st ti a w h cs x y wy sa) (Ev.bind (eqTable_ev st ti a hl) (Ev.no rfl (Ev.no (neq_self _) (Ev.no (neq_self _) (Ev.no (by rw [strEq_self]; rfl) (Ev.no (neq_self _) (Ev.no (neq_self _) (Ev.no (neq_self _) (Ev.no (neq_self _) (Ev.now _))))))))))
theorem toScene_ev (st ti : Int) (a : List Rw) (w h : Int) (cs : ByteArray) (x y wy sa : Int) (hl : a.length ≤ 1048576) :
    Ev (fun k => laws_toScene k (st, ti, a, w, h, cs, x, y, wy, sa)) (st, ti, a, w, h, cs, x, y, wy, sa) :=
  Ev.step (fun k => laws_toScene.eq k st ti a w h cs x y wy sa) (Ev.bind (toTable_ev st ti a hl) (Ev.now _))
theorem szScene_ev (st ti : Int) (a : List Rw) (w h : Int) (cs : ByteArray) (x y wy sa : Int) (hg : ∀ x ∈ a, x.2.1.size ≤ 9223372036854775807) (hl : a.length ≤ 9223372036854775807) (hc : cs.size ≤ 9223372036854775807) :
    ∃ r, Ev (fun k => laws_szScene k ((st, ti, a, w, h, cs, x, y, wy, sa), 1048576)) r ∧ (r < 0 ∨ a.length ≤ 1048576) := by
  rcases szTable_ev st ti a hg hl with h1 | ⟨t, t0, t1, t2, h1⟩
  · exact ⟨-1, Ev.step (fun k => laws_szScene.eq k st ti a w h cs x y wy sa 1048576) (Ev.bind h1 (Ev.yes rfl (Ev.now _))), .inl (by omega)⟩
  · have e := w64_of (n := t - (cs.size : Int)) (by omega) (by omega)
    by_cases hn : t - (cs.size : Int) < 0
    · exact ⟨-1, Ev.step (fun k => laws_szScene.eq k st ti a w h cs x y wy sa 1048576) (Ev.bind h1 (Ev.no (decide_eq_false (by omega)) (Ev.yes (decide_eq_true (by rw [e]; exact hn)) (Ev.now _)))), .inl (by omega)⟩
    · exact ⟨_, Ev.step (fun k => laws_szScene.eq k st ti a w h cs x y wy sa 1048576) (Ev.bind h1 (Ev.no (decide_eq_false (by omega)) (Ev.no (decide_eq_false (by rw [e]; exact hn)) (Ev.now _)))), .inr t2⟩
theorem within_ev (n lo hi : Int) : EvB (fun k => impl_within k (n, lo, hi)) (lo ≤ n ∧ n ≤ hi) :=
  EvB.step (fun k => impl_within.eq k n lo hi) (EvB.ifT decide_eq_true_iff fun _ => EvB.val decide_eq_true_iff)
theorem l1In_ev (n lo hi : Int) : EvB (fun k => spec_l1In k (n, lo, hi)) (lo ≤ n ∧ n ≤ hi) :=
  EvB.step (fun k => spec_l1In.eq k n lo hi) (EvB.ifT decide_eq_true_iff fun _ => EvB.val decide_eq_true_iff)
/-! ### Turns -/
def Sign (t : ByteArray) : Prop := ∃ c : UInt8, t.data.toList = [c] ∧ (c = 76 ∨ c = 82 ∨ c = 78 ∨ c = 85)
theorem u8_eq {c : UInt8} {n : Nat} (hn : n < 256) : (((c.toNat : Int)) == (n : Int)) = true ↔ c = UInt8.ofNat n := by
  rw [beq_iff_eq]
  constructor
  · intro h
    apply UInt8.toNat_inj.1
    rw [toNat_ofNat8 hn]
    omega
  · intro h
    rw [h, toNat_ofNat8 hn]
theorem size_one {t : ByteArray} : t.size = 1 ↔ ∃ c, t.data.toList = [c] := by rw [size_list, List.length_eq_one_iff]
theorem contains_ev {t : ByteArray} {c : UInt8} (h : t.data.toList = [c]) : EvB (fun k => strings_Contains k (bs [76, 82, 78, 85], t)) (c = 76 ∨ c = 82 ∨ c = 78 ∨ c = 85) := by
  refine EvB.step (fun k => strings_Contains.eq k (bs [76, 82, 78, 85], t)) ?_
  show EvB (fun _ => strContains1 (bs [76, 82, 78, 85]) t) _
  have e : strContains1 (bs [76, 82, 78, 85]) t = some (decide (0 ≤ Lib.indexByte [76, 82, 78, 85] c)) := by
    unfold strContains1
    rw [h]
    rfl
  rw [e]
  refine EvB.val ?_
  rw [decide_eq_true_iff]
  simp only [Lib.indexByte]
  by_cases h1 : (76 : UInt8) = c
  · subst h1; simp
  · by_cases h2 : (82 : UInt8) = c
    · subst h2; simp
    · by_cases h3 : (78 : UInt8) = c
      · subst h3; simp
      · by_cases h4 : (85 : UInt8) = c
        · subst h4; simp
        · simp [h1, h2, h3, h4, Ne.symm h1, Ne.symm h2, Ne.symm h3, Ne.symm h4]
theorem woRule_ev {t : ByteArray} {c : UInt8} (h : t.data.toList = [c]) : EvB (fun k => spec_woRule k t) (c = 76 ∨ c = 82 ∨ c = 78 ∨ c = 85) := by
  have hs : t.size = 1 := size_one.2 ⟨c, h⟩
  have hb : bt t ((0 : Int).toNat) = (c.toNat : Int) := bt_at (by rw [h]; rfl)
  have end_ : Ev (fun k => spec_woRule_l k (t, 1)) (.inr ()) := Ev.step (fun k => spec_woRule_l.eq k t 1) (Ev.no (by rw [hs]; rfl) (Ev.now _))
  have e1 : w64 (0 + 1) = 1 := rfl
  have go : ∀ {P : Prop}, EvB (fun k => (spec_woRule_l k (t, 0)).bind fun r => r.elim (fun r3 => some r3) (fun r4 => some true)) P → EvB (fun k => spec_woRule k t) P := fun {P} H =>
    EvB.step (fun k => spec_woRule.eq k t) (by
      obtain ⟨b, h1, h2⟩ := H
      exact ⟨b, Ev.bind ((l1In_ev _ _ _).isT (by rw [hs]; decide)) (Ev.no rfl h1), h2⟩)
  have yes : Ev (fun k => spec_woRule_l k (t, 0)) (.inr ()) → (c = 76 ∨ c = 82 ∨ c = 78 ∨ c = 85) → EvB (fun k => spec_woRule k t) (c = 76 ∨ c = 82 ∨ c = 78 ∨ c = 85) := fun H hc => go ⟨true, Ev.bind H (Ev.now _), ⟨fun _ => hc, fun _ => rfl⟩⟩
  have hd : decide ((0 : Int) < (t.size : Int)) = true := by rw [hs]; rfl
  have hi : inB 0 t.size = true := by rw [hs]; rfl
  have q : ∀ n : Nat, n < 256 → (c = UInt8.ofNat n → ((bt t ((0 : Int).toNat)) == (n : Int)) = true) ∧ (¬ c = UInt8.ofNat n → ((bt t ((0 : Int).toNat)) == (n : Int)) = false) := fun n hn => by
    rw [hb]
    refine ⟨(u8_eq hn).2, fun hc => ?_⟩
    cases hx : ((c.toNat : Int) == (n : Int)) with
    | false => rfl
    | true => exact absurd ((u8_eq hn).1 hx) hc
  by_cases h1 : c = 76
  · exact yes (Ev.step (fun k => spec_woRule_l.eq k t 0) (Ev.yes hd (Ev.yes hi (Ev.yes ((q 76 (by omega)).1 h1) (by rw [e1]; exact end_))))) (.inl h1)
  · by_cases h2 : c = 82
    · exact yes (Ev.step (fun k => spec_woRule_l.eq k t 0) (Ev.yes hd (Ev.yes hi (Ev.no ((q 76 (by omega)).2 h1) (Ev.yes ((q 82 (by omega)).1 h2) (by rw [e1]; exact end_)))))) (.inr (.inl h2))
    · by_cases h3 : c = 78
      · exact yes (Ev.step (fun k => spec_woRule_l.eq k t 0) (Ev.yes hd (Ev.yes hi (Ev.no ((q 76 (by omega)).2 h1) (Ev.no ((q 82 (by omega)).2 h2) (Ev.yes ((q 78 (by omega)).1 h3) (by rw [e1]; exact end_))))))) (.inr (.inr (.inl h3)))
      · by_cases h4 : c = 85
        · exact yes (Ev.step (fun k => spec_woRule_l.eq k t 0) (Ev.yes hd (Ev.yes hi (Ev.no ((q 76 (by omega)).2 h1) (Ev.no ((q 82 (by omega)).2 h2) (Ev.no ((q 78 (by omega)).2 h3) (Ev.yes ((q 85 (by omega)).1 h4) (by rw [e1]; exact end_)))))))) (.inr (.inr (.inr h4)))
        · refine go ⟨false, Ev.bind (Ev.step (fun k => spec_woRule_l.eq k t 0) (Ev.yes hd (Ev.yes hi (Ev.no ((q 76 (by omega)).2 h1) (Ev.no ((q 82 (by omega)).2 h2) (Ev.no ((q 78 (by omega)).2 h3) (Ev.no ((q 85 (by omega)).2 h4) (Ev.now _)))))))) (Ev.now _), ⟨nofun, fun hc => ?_⟩⟩
          rcases hc with hc | hc | hc | hc
          · exact absurd hc h1
          · exact absurd hc h2
          · exact absurd hc h3
          · exact absurd hc h4
theorem size1_beq (t : ByteArray) : ((t.size : Int) == 1) = true ↔ t.size = 1 := by rw [beq_iff_eq]; omega
theorem taSign_ev (t : ByteArray) : EvB (fun k => spec_taSign k t) (Sign t) := by
  refine EvB.step (fun k => spec_taSign.eq k t) ?_
  by_cases hs : t.size = 1
  · obtain ⟨c, hc⟩ := size_one.1 hs
    obtain ⟨b, h1, h2⟩ := woRule_ev hc
    refine ⟨b, Ev.yes ((size1_beq t).2 hs) (Ev.bind h1 (Ev.now _)), h2.trans ⟨fun h => ⟨c, hc, h⟩, fun ⟨c', hc', h⟩ => ?_⟩⟩
    rw [hc] at hc'
    cases hc'
    exact h
  · refine ⟨false, Ev.no ?_ (Ev.now _), ⟨nofun, fun ⟨c, hc, _⟩ => absurd (size_one.2 ⟨c, hc⟩) hs⟩⟩
    cases hx : ((t.size : Int) == 1) with
    | false => rfl
    | true => exact absurd ((size1_beq t).1 hx) hs
/-! ### Tables -/
def RowOk (st ti : Int) (r : Rw) : Prop := (0 ≤ r.1 ∧ r.1 ≤ ti - 1) ∧ Sign r.2.1 ∧ (0 ≤ r.2.2 ∧ r.2.2 ≤ st - 1)
def TabOk (st ti : Int) (rs : List Rw) : Prop := (1 ≤ st ∧ st ≤ 4) ∧ (1 ≤ ti ∧ ti ≤ 4) ∧ (rs.length : Int) = st * ti ∧ ∀ r ∈ rs, RowOk st ti r
theorem mul_range {a b : Int} (h1 : 1 ≤ a) (h2 : a ≤ 9) (h3 : 1 ≤ b) (h4 : b ≤ 9) : 1 ≤ a * b ∧ a * b ≤ 81 := by
  have p := Int.mul_le_mul h2 h4 (by omega) (by omega)
  have q := Int.mul_pos (a := a) (b := b) (by omega) (by omega)
  omega
theorem isTable_1_ev (st ti : Int) (z : List Rw) (x : Rw) (hst : 1 ≤ st ∧ st ≤ 4) (hti : 1 ≤ ti ∧ ti ≤ 4) : EvB (fun k => impl_IsTable_1 k (x, (st, ti, z))) (¬ RowOk st ti x) := by
  obtain ⟨p, t, n⟩ := x
  have e1 : w64 (ti - 1) = ti - 1 := w64_of (by omega) (by omega)
  have e2 : w64 (st - 1) = st - 1 := w64_of (by omega) (by omega)
  have h : EvB (fun k => impl_IsTable_1 k ((p, t, n), (st, ti, z))) (¬ ((0 ≤ p ∧ p ≤ ti - 1) ∧ ((0 ≤ n ∧ n ≤ st - 1) ∧ Sign t))) := by
    refine EvB.step (fun k => impl_IsTable_1.eq k p t n st ti z) ?_
    refine EvB.or' (EvB.step (fun k => impl_Table_isTint.eq k st ti z p) (by rw [e1]; exact (within_ev p 0 (ti - 1)).ret)) fun _ => ?_
    refine EvB.or' (EvB.step (fun k => impl_Table_isState.eq k st ti z n) (by rw [e2]; exact (within_ev n 0 (st - 1)).ret)) fun _ => ?_
    by_cases hs : t.size = 1
    · obtain ⟨c, hc⟩ := size_one.1 hs
      obtain ⟨b, h1, h2⟩ := (contains_ev hc).neg
      refine ⟨b, Ev.no (by rw [hs]; rfl) h1, h2.trans ⟨fun q => ?_, fun q hq => q ⟨c, hc, hq⟩⟩⟩
      rintro ⟨c', hc', hq⟩
      rw [hc] at hc'
      cases hc'
      exact q hq
    · refine ⟨true, Ev.yes ?_ (Ev.now _), ⟨fun _ hq => ?_, fun _ => rfl⟩⟩
      · rw [bne_iff_ne]; omega
      · obtain ⟨c, hc, _⟩ := hq
        exact hs (size_one.2 ⟨c, hc⟩)
  refine h.iff ⟨fun q hr => q ⟨hr.1, hr.2.2, hr.2.1⟩, fun q hr => q ⟨hr.1, hr.2.2, hr.2.1⟩⟩
theorem containsFunc_ev (st ti : Int) (rs : List Rw) (hl : rs.length ≤ 1048576) (hst : 1 ≤ st ∧ st ≤ 4) (hti : 1 ≤ ti ∧ ti ≤ 4) : EvB (fun k => slices_ContainsFunc k (rs, (st, ti, ()))) (¬ ∀ r ∈ rs, RowOk st ti r) := by
  have step : ∀ (i : Nat) (x : Rw), rs[i]? = some x → ∀ r, Ev (fun k => (impl_IsTable_1 k (x, (st, ti, rs))).bind fun r1 => cond r1 (some (.inl (i : Int))) (slices_IndexFunc_l k (rs, (st, ti, ()), (rs.length : Int), w64 ((i : Int) + 1)))) r → Ev (fun k => slices_IndexFunc_l k (rs, (st, ti, ()), (rs.length : Int), (i : Int))) r := fun i x hx r H => by
    have hi := (List.getElem?_eq_some_iff.1 hx).1
    exact Ev.step (fun k => slices_IndexFunc_l.eq k rs st ti (rs.length : Int) (i : Int)) (Ev.yes (lt_nat hi) (Ev.yes (inB_nat hi) (by rw [Int.toNat_natCast, getD_at hx]; exact H)))
  have srch := Ev.search (L := fun k i => slices_IndexFunc_l k (rs, (st, ti, ()), (rs.length : Int), i)) (n := rs.length) (fun i => ∃ x, rs[i]? = some x ∧ ¬ RowOk st ti x) (fun i => .inl (i : Int)) (.inr ())
    (fun i hi hp r H => by
      obtain ⟨x, hx⟩ := nat_list hi
      have hr : RowOk st ti x := Classical.byContradiction fun hn => hp ⟨x, hx, hn⟩
      exact step i x hx r (Ev.bind ((isTable_1_ev st ti rs x hst hti).isF fun q => q hr) (Ev.no rfl (by rw [w64_succ (by omega)]; exact H))))
    (fun i hi hp => by
      obtain ⟨x, hx, hn⟩ := hp
      exact step i x hx _ (Ev.bind ((isTable_1_ev st ti rs x hst hti).isT hn) (Ev.yes rfl (Ev.now _))))
    (Ev.step (fun k => slices_IndexFunc_l.eq k rs st ti (rs.length : Int) (rs.length : Int)) (Ev.no (not_lt_nat (Nat.lt_irrefl _)) (Ev.now _))) rs.length 0 (by omega)
  have go : ∀ r, Ev (fun k => (slices_IndexFunc_l k (rs, (st, ti, ()), (rs.length : Int), ((0 : Nat) : Int))).bind fun r1 => r1.elim (fun r2 => some r2) (fun r3 => some (-1))) r → Ev (fun k => slices_ContainsFunc k (rs, (st, ti, ()))) (decide (r ≥ 0)) := fun r H =>
    Ev.step (fun k => slices_ContainsFunc.eq k rs st ti) (Ev.bind (Ev.step (fun k => slices_IndexFunc.eq k rs st ti) H) (Ev.now _))
  rcases srch with ⟨h1, h2⟩ | ⟨j, _, hj, ⟨x, hx, hn⟩, _, h2⟩
  · refine ⟨_, go _ (Ev.bind h2 (Ev.now _)), ⟨fun h => by simp at h, fun h => absurd (fun r hr => ?_) h⟩⟩
    obtain ⟨i, hi⟩ := List.mem_iff_getElem?.1 hr
    exact Classical.byContradiction fun hn => h1 i (Nat.zero_le _) (List.getElem?_eq_some_iff.1 hi).1 ⟨r, hi, hn⟩
  · exact ⟨_, go _ (Ev.bind h2 (Ev.now _)), ⟨fun _ h => hn (h x (List.mem_of_getElem? hx)), fun _ => decide_eq_true (by omega)⟩⟩
theorem isTable_ev (st ti : Int) (rs : List Rw) (hl : rs.length ≤ 1048576) : EvB (fun k => impl_IsTable k (st, ti, rs)) (TabOk st ti rs) := by
  have h : EvB (fun k => impl_IsTable k (st, ti, rs)) (((1 ≤ st ∧ st ≤ 4) ∧ (1 ≤ ti ∧ ti ≤ 4)) ∧ ((rs.length : Int) = st * ti ∧ ∀ r ∈ rs, RowOk st ti r)) := by
    refine EvB.step (fun k => impl_IsTable.eq k st ti rs) (EvB.and (EvB.step (fun k => impl_isShape.eq k st ti) (EvB.and (within_ev st 1 4) fun _ => (within_ev ti 1 4).ret)) fun hs => ?_)
    have hm := mul_range (a := st) (b := ti) (by omega) (by omega) (by omega) (by omega)
    rw [w64_of (by omega) (by omega)]
    refine EvB.ifT beq_iff_eq fun _ => ?_
    exact (containsFunc_ev st ti rs hl hs.1 hs.2).neg.iff Classical.not_not
  exact h.iff ⟨fun q => ⟨q.1.1, q.1.2, q.2⟩, fun q => ⟨⟨q.1, q.2.1⟩, q.2.2⟩⟩
theorem taGood_ev (st ti : Int) (rs : List Rw) (hl : rs.length ≤ 1048576) : EvB (fun k => spec_taGood k (st, ti, rs)) (TabOk st ti rs) := by
  refine EvB.step (fun k => spec_taGood.eq k st ti rs) (EvB.and' (l1In_ev st 1 4) fun hst => EvB.and' (l1In_ev ti 1 4) fun hti => ?_)
  have hm := mul_range (a := st) (b := ti) (by omega) (by omega) (by omega) (by omega)
  rw [w64_of (by omega) (by omega)]
  refine EvB.ifN (P := (rs.length : Int) = st * ti) (by rw [bne_eq_false_iff_eq]) fun _ => ?_
  have e1 : w64 (ti - 1) = ti - 1 := w64_of (by omega) (by omega)
  have e2 : w64 (st - 1) = st - 1 := w64_of (by omega) (by omega)
  have step : ∀ (i : Nat) (x : Rw), rs[i]? = some x → ∀ r, Ev (fun k => (spec_l1In k (x.1, 0, ti - 1)).bind fun r1 => cond (!r1) (some (.inl false)) ((spec_taSign k x.2.1).bind fun r2 => cond (!r2) (some (.inl false)) ((spec_l1In k (x.2.2, 0, st - 1)).bind fun r3 => cond (!r3) (some (.inl false))
      (spec_taGood_l k ((st, ti, rs), (), (rs.length : Int), w64 ((i : Int) + 1)))))) r → Ev (fun k => spec_taGood_l k ((st, ti, rs), (), (rs.length : Int), (i : Int))) r := fun i x hx r H => by
    have hi := (List.getElem?_eq_some_iff.1 hx).1
    exact Ev.step (fun k => spec_taGood_l.eq k st ti rs (rs.length : Int) (i : Int)) (Ev.yes (lt_nat hi) (Ev.yes (inB_nat hi) (by rw [Int.toNat_natCast, getD_at hx, e1, e2]; exact H)))
  have srch := Ev.search (L := fun k i => spec_taGood_l k ((st, ti, rs), (), (rs.length : Int), i)) (n := rs.length) (fun i => ∃ x, rs[i]? = some x ∧ ¬ RowOk st ti x) (fun i => .inl false) (.inr ())
    (fun i hi hp r H => by
      obtain ⟨x, hx⟩ := nat_list hi
      have hr : RowOk st ti x := Classical.byContradiction fun hn => hp ⟨x, hx, hn⟩
      exact step i x hx r (Ev.bind ((l1In_ev _ _ _).isT hr.1) (Ev.no rfl (Ev.bind ((taSign_ev _).isT hr.2.1) (Ev.no rfl (Ev.bind ((l1In_ev _ _ _).isT hr.2.2) (Ev.no rfl (by rw [w64_succ (by omega)]; exact H))))))))
    (fun i hi hp => by
      obtain ⟨x, hx, hn⟩ := hp
      refine step i x hx _ ?_
      by_cases h1 : 0 ≤ x.1 ∧ x.1 ≤ ti - 1
      · refine Ev.bind ((l1In_ev _ _ _).isT h1) (Ev.no rfl ?_)
        by_cases h2 : Sign x.2.1
        · refine Ev.bind ((taSign_ev _).isT h2) (Ev.no rfl ?_)
          by_cases h3 : 0 ≤ x.2.2 ∧ x.2.2 ≤ st - 1
          · exact absurd ⟨h1, h2, h3⟩ hn
          · exact Ev.bind ((l1In_ev _ _ _).isF h3) (Ev.yes rfl (Ev.now _))
        · exact Ev.bind ((taSign_ev _).isF h2) (Ev.yes rfl (Ev.now _))
      · exact Ev.bind ((l1In_ev _ _ _).isF h1) (Ev.yes rfl (Ev.now _)))
    (Ev.step (fun k => spec_taGood_l.eq k st ti rs (rs.length : Int) (rs.length : Int)) (Ev.no (not_lt_nat (Nat.lt_irrefl _)) (Ev.now _))) rs.length 0 (by omega)
  rcases srch with ⟨h1, h2⟩ | ⟨j, _, hj, ⟨x, hx, hn⟩, _, h2⟩
  · refine ⟨true, Ev.bind h2 (Ev.now _), ⟨fun _ r hr => ?_, fun _ => rfl⟩⟩
    obtain ⟨i, hi⟩ := List.mem_iff_getElem?.1 hr
    exact Classical.byContradiction fun hn => h1 i (Nat.zero_le _) (List.getElem?_eq_some_iff.1 hi).1 ⟨r, hi, hn⟩
  · exact ⟨false, Ev.bind h2 (Ev.now _), ⟨nofun, fun h => absurd (h x (List.mem_of_getElem? hx)) hn⟩⟩

def CellsOk (ti : Int) (cs : ByteArray) : Prop := ∀ c ∈ cs.data.toList, 48 ≤ c.toNat ∧ (c.toNat : Int) ≤ 47 + ti
def SceneOk (st ti : Int) (rs : List Rw) (w h : Int) (cs : ByteArray) (x y wy sa : Int) : Prop :=
  TabOk st ti rs ∧ (1 ≤ w ∧ w ≤ 9) ∧ (1 ≤ h ∧ h ≤ 9) ∧ (cs.size : Int) = w * h ∧ CellsOk ti cs ∧ (0 ≤ x ∧ x ≤ w - 1) ∧ (0 ≤ y ∧ y ≤ h - 1) ∧ (0 ≤ wy ∧ wy ≤ 3) ∧ (0 ≤ sa ∧ sa ≤ st - 1)
theorem byte_at {cs : ByteArray} {i : Nat} (h : i < cs.size) : ∃ c, cs.data.toList[i]? = some c := nat_list (by rw [← size_list]; exact h)
theorem num_of (c : UInt8) : w64 (w64 (c.toNat : Int) - 48) = (c.toNat : Int) - 48 := by
  have := c.toNat_lt
  rw [w64_of (n := (c.toNat : Int)) (by omega) (by omega), w64_of (by omega) (by omega)]
theorem areCells_ev (ti : Int) (hti : 1 ≤ ti ∧ ti ≤ 4) (cs : ByteArray) (hc : cs.size ≤ 9223372036854775807) (many : Int) : EvB (fun k => impl_areCells k (cs, many, ti)) (CellsOk ti cs ∧ (cs.size : Int) = many) := by
  have e1 : w64 (ti - 1) = ti - 1 := w64_of (by omega) (by omega)
  have step : ∀ (i : Nat) (c : UInt8), cs.data.toList[i]? = some c → ∀ r, Ev (fun k => (impl_within k ((c.toNat : Int) - 48, 0, ti - 1)).bind fun r1 => cond (!r1) (some (.inl false)) (impl_areCells_l k (cs, many, ti, (cs.size : Int), w64 ((i : Int) + 1)))) r → Ev (fun k => impl_areCells_l k (cs, many, ti, (cs.size : Int), (i : Int))) r := fun i c hx r H => by
    have hi : i < cs.size := by rw [size_list]; exact (List.getElem?_eq_some_iff.1 hx).1
    exact Ev.step (fun k => impl_areCells_l.eq k cs many ti (cs.size : Int) (i : Int)) (Ev.yes (lt_nat hi) (Ev.yes (inB_nat hi) (by rw [Int.toNat_natCast, bt_at hx, num_of, e1]; exact H)))
  have srch := Ev.search (L := fun k i => impl_areCells_l k (cs, many, ti, (cs.size : Int), i)) (n := cs.size) (fun i => ∃ c, cs.data.toList[i]? = some c ∧ ¬ (48 ≤ c.toNat ∧ (c.toNat : Int) ≤ 47 + ti)) (fun i => .inl false) (.inr (cs, many))
    (fun i hi hp r H => by
      obtain ⟨c, hx⟩ := byte_at hi
      have hr : 48 ≤ c.toNat ∧ (c.toNat : Int) ≤ 47 + ti := Classical.byContradiction fun hn => hp ⟨c, hx, hn⟩
      exact step i c hx r (Ev.bind ((within_ev _ _ _).isT (by omega)) (Ev.no rfl (by rw [w64_succ (by omega)]; exact H))))
    (fun i hi hp => by
      obtain ⟨c, hx, hn⟩ := hp
      exact step i c hx _ (Ev.bind ((within_ev _ _ _).isF (by omega)) (Ev.yes rfl (Ev.now _))))
    (Ev.step (fun k => impl_areCells_l.eq k cs many ti (cs.size : Int) (cs.size : Int)) (Ev.no (not_lt_nat (Nat.lt_irrefl _)) (Ev.now _))) cs.size 0 (by omega)
  refine EvB.step (fun k => impl_areCells.eq k cs many ti) ?_
  rcases srch with ⟨h1, h2⟩ | ⟨j, _, hj, ⟨x, hx, hn⟩, _, h2⟩
  · refine ⟨_, Ev.bind h2 (Ev.now _), ?_⟩
    rw [beq_iff_eq]
    refine ⟨fun h => ⟨fun c hm => ?_, h⟩, fun h => h.2⟩
    obtain ⟨i, hi⟩ := List.mem_iff_getElem?.1 hm
    exact Classical.byContradiction fun hn => h1 i (Nat.zero_le _) (by rw [size_list]; exact (List.getElem?_eq_some_iff.1 hi).1) ⟨c, hi, hn⟩
  · exact ⟨false, Ev.bind h2 (Ev.now _), ⟨nofun, fun h => absurd (h.1 x (List.mem_of_getElem? hx)) hn⟩⟩
section
variable (st ti : Int) (rs : List Rw) (w h : Int) (cs : ByteArray) (x y wy sa : Int) (hl : rs.length ≤ 1048576)
include hl
theorem isScene_ev (hc : cs.size ≤ 9223372036854775807) : EvB (fun k => impl_IsScene k (st, ti, rs, w, h, cs, x, y, wy, sa)) (SceneOk st ti rs w h cs x y wy sa) := by
  have H : EvB (fun k => impl_IsScene k (st, ti, rs, w, h, cs, x, y, wy, sa)) (TabOk st ti rs ∧ (((1 ≤ w ∧ w ≤ 9) ∧ (1 ≤ h ∧ h ≤ 9)) ∧ ((CellsOk ti cs ∧ (cs.size : Int) = w * h) ∧ (((0 ≤ x ∧ x ≤ w - 1) ∧ ((0 ≤ y ∧ y ≤ h - 1) ∧ (0 ≤ wy ∧ wy ≤ 3))) ∧ (0 ≤ sa ∧ sa ≤ st - 1))))) := by
    refine EvB.step (fun k => impl_IsScene.eq k st ti rs w h cs x y wy sa) (EvB.and (isTable_ev st ti rs hl) fun ht => EvB.and (EvB.step (fun k => impl_isSize.eq k w h) (EvB.and (within_ev w 1 9) fun _ => (within_ev h 1 9).ret)) fun hs => ?_)
    have hm := mul_range (a := w) (b := h) (by omega) (by omega) (by omega) (by omega)
    have hst := ht.1
    have e2 : w64 (st - 1) = st - 1 := w64_of (by omega) (by omega)
    rw [w64_of (n := w * h) (by omega) (by omega)]
    refine EvB.and (areCells_ev ti ht.2.1 cs hc (w * h)) fun _ => EvB.and (EvB.step (fun k => impl_isAnt.eq k w h x y wy) ?_) fun _ => EvB.ret (EvB.step (fun k => impl_Table_isState.eq k st ti rs sa) (by rw [e2]; exact (within_ev sa 0 (st - 1)).ret))
    rw [w64_of (n := w - 1) (by omega) (by omega), w64_of (n := h - 1) (by omega) (by omega)]
    exact EvB.and (within_ev x 0 (w - 1)) fun _ => EvB.and (within_ev y 0 (h - 1)) fun _ => (EvB.step (fun k => impl_isWay.eq k wy) (within_ev wy 0 3).ret).ret
  exact H.iff ⟨fun q => ⟨q.1, q.2.1.1, q.2.1.2, q.2.2.1.2, q.2.2.1.1, q.2.2.2.1.1, q.2.2.2.1.2.1, q.2.2.2.1.2.2, q.2.2.2.2⟩, fun q => ⟨q.1, ⟨q.2.1, q.2.2.1⟩, ⟨q.2.2.2.2.1, q.2.2.2.1⟩, ⟨q.2.2.2.2.2.1, q.2.2.2.2.2.2.1, q.2.2.2.2.2.2.2.1⟩, q.2.2.2.2.2.2.2.2⟩⟩
theorem taScene_ev : EvB (fun k => spec_taScene k (st, ti, rs, w, h, cs, x, y, wy, sa)) (SceneOk st ti rs w h cs x y wy sa) := by
  refine EvB.step (fun k => spec_taScene.eq k st ti rs w h cs x y wy sa) (EvB.and' (taGood_ev st ti rs hl) fun ht => EvB.and' (l1In_ev w 1 9) fun hw => EvB.and' (l1In_ev h 1 9) fun hh => ?_)
  have hm := mul_range (a := w) (b := h) (by omega) (by omega) (by omega) (by omega)
  have hst := ht.1
  have hti := ht.2.1
  rw [w64_of (n := w * h) (by omega) (by omega)]
  refine EvB.ifN (P := (cs.size : Int) = w * h) (by rw [bne_eq_false_iff_eq]) fun _ => ?_
  have e1 : w64 (ti - 1) = ti - 1 := w64_of (by omega) (by omega)
  have step : ∀ (i : Nat) (c : UInt8), cs.data.toList[i]? = some c → ∀ r, Ev (fun k => (spec_l1In k ((c.toNat : Int) - 48, 0, ti - 1)).bind fun r1 => cond (!r1) (some (.inl false)) (spec_taScene_l k ((st, ti, rs, w, h, cs, x, y, wy, sa), w64 ((i : Int) + 1)))) r → Ev (fun k => spec_taScene_l k ((st, ti, rs, w, h, cs, x, y, wy, sa), (i : Int))) r := fun i c hx r H => by
    have hi : i < cs.size := by rw [size_list]; exact (List.getElem?_eq_some_iff.1 hx).1
    exact Ev.step (fun k => spec_taScene_l.eq k st ti rs w h cs x y wy sa (i : Int)) (Ev.yes (lt_nat hi) (Ev.yes (inB_nat hi) (by rw [Int.toNat_natCast, bt_at hx, num_of, e1]; exact H)))
  have srch := Ev.search (L := fun k i => spec_taScene_l k ((st, ti, rs, w, h, cs, x, y, wy, sa), i)) (n := cs.size) (fun i => ∃ c, cs.data.toList[i]? = some c ∧ ¬ (48 ≤ c.toNat ∧ (c.toNat : Int) ≤ 47 + ti)) (fun i => .inl false) (.inr (st, ti, rs, w, h, cs, x, y, wy, sa))
    (fun i hi hp r H => by
      obtain ⟨c, hx⟩ := byte_at hi
      have hr : 48 ≤ c.toNat ∧ (c.toNat : Int) ≤ 47 + ti := Classical.byContradiction fun hn => hp ⟨c, hx, hn⟩
      exact step i c hx r (Ev.bind ((l1In_ev _ _ _).isT (by omega)) (Ev.no rfl (by rw [w64_succ (by omega)]; exact H))))
    (fun i hi hp => by
      obtain ⟨c, hx, hn⟩ := hp
      exact step i c hx _ (Ev.bind ((l1In_ev _ _ _).isF (by omega)) (Ev.yes rfl (Ev.now _))))
    (Ev.step (fun k => spec_taScene_l.eq k st ti rs w h cs x y wy sa (cs.size : Int)) (Ev.no (not_lt_nat (Nat.lt_irrefl _)) (Ev.now _))) cs.size 0 (by omega)
  rcases srch with ⟨h1, h2⟩ | ⟨j, _, hj, ⟨x, hx, hn⟩, _, h2⟩
  · have hcs : CellsOk ti cs := fun c hm => by
      obtain ⟨i, hi⟩ := List.mem_iff_getElem?.1 hm
      exact Classical.byContradiction fun hn => h1 i (Nat.zero_le _) (by rw [size_list]; exact (List.getElem?_eq_some_iff.1 hi).1) ⟨c, hi, hn⟩
    have rest : EvB (fun k => (spec_l1In k (x, 0, w64 (w - 1))).bind fun r7 => cond r7 ((spec_l1In k (y, 0, w64 (h - 1))).bind fun r8 => cond r8 ((spec_l1In k (wy, 0, 3)).bind fun r9 => cond r9 ((spec_l1In k (sa, 0, w64 (st - 1))).bind fun r10 => some r10) (some false)) (some false)) (some false))
        ((0 ≤ x ∧ x ≤ w - 1) ∧ (0 ≤ y ∧ y ≤ h - 1) ∧ (0 ≤ wy ∧ wy ≤ 3) ∧ (0 ≤ sa ∧ sa ≤ st - 1)) := by
      rw [w64_of (n := w - 1) (by omega) (by omega), w64_of (n := h - 1) (by omega) (by omega), w64_of (n := st - 1) (by omega) (by omega)]
      exact EvB.and (l1In_ev _ _ _) fun _ => EvB.and (l1In_ev _ _ _) fun _ => EvB.and (l1In_ev _ _ _) fun _ => (l1In_ev _ _ _).ret
    obtain ⟨b, q1, q2⟩ := rest
    exact ⟨b, Ev.bind h2 q1, q2.trans ⟨fun q => ⟨hcs, q⟩, fun q => q.2⟩⟩
  · exact ⟨false, Ev.bind h2 (Ev.now _), ⟨nofun, fun h => absurd (h.1 x (List.mem_of_getElem? hx)) hn⟩⟩
end
/-! ### A step -/
theorem at_range {x y w h : Int} (hx : 0 ≤ x ∧ x ≤ w - 1) (hy : 0 ≤ y ∧ y ≤ h - 1) (hw : 1 ≤ w ∧ w ≤ 9) (hh : 1 ≤ h ∧ h ≤ 9) : 0 ≤ y * w ∧ y * w ≤ 81 ∧ 0 ≤ y * w + x ∧ y * w + x < w * h := by
  have h1 := Int.mul_le_mul_of_nonneg_right (a := y) (b := h - 1) (c := w) hy.2 (by omega)
  rw [Int.sub_mul, Int.one_mul, Int.mul_comm h w] at h1
  have h2 := Int.mul_nonneg hy.1 (show (0 : Int) ≤ w by omega)
  have h3 := mul_range (a := w) (b := h) (by omega) (by omega) (by omega) (by omega)
  omega
def dxW (wy : Int) : Int := if wy = 1 then 1 else if wy = 3 then -1 else 0
def dyW (wy : Int) : Int := if wy = 0 then -1 else if wy = 2 then 1 else 0
theorem ahead_ev (wy : Int) (hwy : 0 ≤ wy ∧ wy ≤ 3) : Ev (fun k => impl_ahead k wy) (dxW wy, dyW wy) := by
  have : wy = 0 ∨ wy = 1 ∨ wy = 2 ∨ wy = 3 := by omega
  rcases this with rfl | rfl | rfl | rfl <;> exact Ev.step (fun k => impl_ahead.eq k _) (Ev.yes rfl (Ev.yes rfl (Ev.now' rfl)))
theorem dW_range (wy : Int) : (-1 ≤ dxW wy ∧ dxW wy ≤ 1) ∧ (-1 ≤ dyW wy ∧ dyW wy ≤ 1) := by
  unfold dxW dyW
  constructor
  · split
    · omega
    · split <;> omega
  · split
    · omega
    · split <;> omega
theorem go1_zero {n m : Int} (h : 0 ≤ n ∧ n ≤ m - 1) : go1 n m 0 = n := by
  unfold go1
  rw [if_neg (by omega), if_neg (by omega)]
  omega
theorem gone_ev (rl : ByteArray) (w h : Int) (cs : ByteArray) (x y wy b : Int) (hw : 1 ≤ w ∧ w ≤ 9) (hh : 1 ≤ h ∧ h ≤ 9) (hx : 0 ≤ x ∧ x ≤ w - 1) (hy : 0 ≤ y ∧ y ≤ h - 1) (hwy : 0 ≤ wy ∧ wy ≤ 3) (hb : b = 1 ∨ b = -1) :
    Ev (fun k => impl_World_gone k ((rl, w, h, cs, x, y, wy), b)) (rl, w, h, cs, go1 x w (b * dxW wy), go1 y h (b * dyW wy), wy) := by
  obtain ⟨⟨d1, d2⟩, d3, d4⟩ := dW_range wy
  have hbx : -1 ≤ b * dxW wy ∧ b * dxW wy ≤ 1 := by rcases hb with rfl | rfl <;> omega
  have hby : -1 ≤ b * dyW wy ∧ b * dyW wy ≤ 1 := by rcases hb with rfl | rfl <;> omega
  refine Ev.step (fun k => impl_World_gone.eq k rl w h cs x y wy b) (Ev.bind (ahead_ev wy hwy) (Ev.yes (by rw [bne_iff_ne]; omega) (Ev.yes (by rw [bne_iff_ne]; omega) (Ev.now' ?_))))
  simp only
  rw [w64_of (n := b * dxW wy) (by omega) (by omega), w64_of (n := b * dyW wy) (by omega) (by omega), w64_of (n := x + b * dxW wy) (by omega) (by omega), w64_of (n := y + b * dyW wy) (by omega) (by omega),
    w64_of (n := x + b * dxW wy + w) (by omega) (by omega), w64_of (n := y + b * dyW wy + h) (by omega) (by omega), go1_a hx.1 (by omega) hbx.1 hbx.2, go1_a hy.1 (by omega) hby.1 hby.2]
theorem l1Mod_ev (n m d : Int) (h : 0 ≤ n ∧ n ≤ m - 1) (hm : 1 ≤ m ∧ m ≤ 9) (h1 : -1 ≤ d ∧ d ≤ 1) : Ev (fun k => spec_l1Mod k (n + d, m)) (go1 n m d) := by
  refine Ev.step (fun k => spec_l1Mod.eq k (n + d) m) (Ev.yes (by rw [bne_iff_ne]; omega) (Ev.yes (by rw [bne_iff_ne]; omega) (Ev.now' ?_)))
  rw [← go1_b h.1 (by omega) h1.1 h1.2]
  have a1 : (n + d).tmod m ≤ 9 ∧ -9 ≤ (n + d).tmod m := by
    have e1 := Int.tmod_lt_of_pos (n + d) (show (0 : Int) < m by omega)
    by_cases hd : 0 ≤ n + d
    · have e2 := Int.tmod_nonneg m hd
      omega
    · have e3 : n + d = -1 := by omega
      have e4 := Int.tmod_lt_of_pos 1 (show (0 : Int) < m by omega)
      have e5 := Int.tmod_nonneg m (show (0 : Int) ≤ 1 by omega)
      rw [e3, Int.neg_tmod] at e1 ⊢
      omega
  rw [w64_of (by omega) (by omega)]
theorem taGo_ev (st ti : Int) (rs : List Rw) (w h : Int) (cs : ByteArray) (x y wy sa b : Int) (hw : 1 ≤ w ∧ w ≤ 9) (hh : 1 ≤ h ∧ h ≤ 9) (hx : 0 ≤ x ∧ x ≤ w - 1) (hy : 0 ≤ y ∧ y ≤ h - 1) (hwy : 0 ≤ wy ∧ wy ≤ 3) (hb : b = 1 ∨ b = -1) :
    Ev (fun k => spec_taGo k ((st, ti, rs, w, h, cs, x, y, wy, sa), b)) ((), (st, ti, rs, w, h, cs, go1 x w (b * dxW wy), go1 y h (b * dyW wy), wy, sa)) := by
  have hbb : -1 ≤ b ∧ b ≤ 1 := by omega
  have e1 : w64 (y - b) = y + b * (-1) := by rw [w64_of (by omega) (by omega)]; omega
  have e2 : w64 (x + b) = x + b * 1 := by rw [w64_of (by omega) (by omega)]; omega
  have e3 : w64 (y + b) = y + b * 1 := by rw [w64_of (by omega) (by omega)]; omega
  have e4 : w64 (x - b) = x + b * (-1) := by rw [w64_of (by omega) (by omega)]; omega
  have z0 : b * 0 = 0 := by omega
  have : wy = 0 ∨ wy = 1 ∨ wy = 2 ∨ wy = 3 := by omega
  rcases this with rfl | rfl | rfl | rfl
  · refine Ev.step (fun k => spec_taGo.eq k st ti rs w h cs x y 0 sa b) (Ev.yes rfl ?_)
    rw [e1]
    refine Ev.bind (l1Mod_ev y h (b * (-1)) hy hh (by omega)) (Ev.now' ?_)
    show ((), (st, ti, rs, w, h, cs, x, go1 y h (b * -1), (0 : Int), sa)) = ((), (st, ti, rs, w, h, cs, go1 x w (b * 0), go1 y h (b * -1), (0 : Int), sa))
    rw [z0, go1_zero hx]
  · refine Ev.step (fun k => spec_taGo.eq k st ti rs w h cs x y 1 sa b) (Ev.no rfl (Ev.yes rfl ?_))
    rw [e2]
    refine Ev.bind (l1Mod_ev x w (b * 1) hx hw (by omega)) (Ev.now' ?_)
    show ((), (st, ti, rs, w, h, cs, go1 x w (b * 1), y, (1 : Int), sa)) = ((), (st, ti, rs, w, h, cs, go1 x w (b * 1), go1 y h (b * 0), (1 : Int), sa))
    rw [z0, go1_zero hy]
  · refine Ev.step (fun k => spec_taGo.eq k st ti rs w h cs x y 2 sa b) (Ev.no rfl (Ev.no rfl (Ev.yes rfl ?_)))
    rw [e3]
    refine Ev.bind (l1Mod_ev y h (b * 1) hy hh (by omega)) (Ev.now' ?_)
    show ((), (st, ti, rs, w, h, cs, x, go1 y h (b * 1), (2 : Int), sa)) = ((), (st, ti, rs, w, h, cs, go1 x w (b * 0), go1 y h (b * 1), (2 : Int), sa))
    rw [z0, go1_zero hx]
  · refine Ev.step (fun k => spec_taGo.eq k st ti rs w h cs x y 3 sa b) (Ev.no rfl (Ev.no rfl (Ev.no rfl ?_)))
    rw [e4]
    refine Ev.bind (l1Mod_ev x w (b * (-1)) hx hw (by omega)) (Ev.now' ?_)
    show ((), (st, ti, rs, w, h, cs, go1 x w (b * -1), y, (3 : Int), sa)) = ((), (st, ti, rs, w, h, cs, go1 x w (b * -1), go1 y h (b * 0), (3 : Int), sa))
    rw [z0, go1_zero hy]
def quartersB (z : Int) : Int := if z = 76 then 3 else if z = 82 then 1 else if z = 85 then 2 else 0
theorem quarters_ev (z : Int) : Ev (fun k => impl_quarters k z) (quartersB z) := by
  refine Ev.step (fun k => impl_quarters.eq k z) (Ev.cond (fun h1 => Ev.now' ?_) fun h1 => Ev.cond (fun h2 => Ev.now' ?_) fun h2 => Ev.cond (fun h3 => Ev.now' ?_) fun h3 => Ev.now' ?_) <;>
    simp only [beq_iff_eq, beq_eq_false_iff_ne, ne_eq] at * <;> simp [quartersB, *]
theorem woTurn_ev (z : Int) : Ev (fun k => spec_woTurn k z) (quartersB z) := by
  refine Ev.step (fun k => spec_woTurn.eq k z) (Ev.cond (fun h1 => Ev.now' ?_) fun h1 => Ev.cond (fun h2 => Ev.now' ?_) fun h2 => Ev.cond (fun h3 => Ev.now' ?_) fun h3 => Ev.now' ?_) <;>
    simp only [beq_iff_eq, beq_eq_false_iff_ne, ne_eq] at * <;> simp [quartersB, *]
theorem quartersB_range (z : Int) : 0 ≤ quartersB z ∧ quartersB z ≤ 3 := by
  unfold quartersB
  split
  · omega
  · split
    · omega
    · split <;> omega
theorem l1Num_ev (n : Int) (h : 0 ≤ n ∧ n ≤ 9) : Ev (fun k => spec_l1Num k n) (ofBytes [48 + n]) :=
  Ev.step (fun k => spec_l1Num.eq k n) (Ev.yes (decide_eq_true (by omega)) (Ev.now' (by rw [w64_of (by omega) (by omega), w8_of (by omega) (by omega)])))
theorem cells_set {ti : Int} {cs : ByteArray} (h : CellsOk ti cs) (i : Nat) {p : Int} (hp : 0 ≤ p ∧ p ≤ ti - 1) (hti : ti ≤ 4) : CellsOk ti (setByte cs i (UInt8.ofNat (48 + p).toNat)) := by
  intro c hc
  rcases List.mem_or_eq_of_mem_set hc with hc | rfl
  · exact h c hc
  · rw [toNat_ofNat8 (by omega)]
    omega
theorem painted_ev (cs : ByteArray) (i p : Int) (hi : 0 ≤ i ∧ i < cs.size) (hp : 0 ≤ p ∧ p ≤ 9) : Ev (fun k => impl_painted k (cs, i, p)) (setByte cs i.toNat (UInt8.ofNat (48 + p).toNat)) := by
  refine Ev.step (fun k => impl_painted.eq k cs i p) (Ev.yes (inB_of hi.1 (by unfold bytesOf; rw [List.length_map, ← size_list]; exact hi.2)) (Ev.now' ?_))
  rw [setByte_a, w64_of (by omega) (by omega), w8_of (by omega) (by omega)]
theorem taPaint_ev (st ti : Int) (rs : List Rw) (w h : Int) (cs : ByteArray) (x y wy sa p : Int) (hw : 1 ≤ w ∧ w ≤ 9) (hh : 1 ≤ h ∧ h ≤ 9) (hx : 0 ≤ x ∧ x ≤ w - 1) (hy : 0 ≤ y ∧ y ≤ h - 1) (hs : (cs.size : Int) = w * h) (hp : 0 ≤ p ∧ p ≤ 9) :
    ∃ o, Ev (fun k => spec_taPaint k ((st, ti, rs, w, h, cs, x, y, wy, sa), p)) (o, (st, ti, rs, w, h, setByte cs (y * w + x).toNat (UInt8.ofNat (48 + p).toNat), x, y, wy, sa)) := by
  obtain ⟨a1, a2, a3, a4⟩ := at_range hx hy hw hh
  have e0 : w64 (w64 (y * w) + x) = y * w + x := by rw [w64_of (n := y * w) (by omega) (by omega), w64_of (by omega) (by omega)]
  have e1 : w64 (y * w + x + 1) = y * w + x + 1 := w64_of (by omega) (by omega)
  have hm := mul_range (a := w) (b := h) (by omega) (by omega) (by omega) (by omega)
  refine ⟨w64 (w8 (bt cs (y * w + x).toNat - 48)), Ev.step (fun k => spec_taPaint.eq k st ti rs w h cs x y wy sa p) ?_⟩
  rw [e0]
  refine Ev.yes (inB_of a3 (by omega)) (Ev.yes (by rw [decide_eq_true (by omega), decide_eq_true (by omega)]; rfl) (Ev.bind (l1Num_ev p hp) ?_))
  rw [e1]
  have z1 : ∀ n : Int, (ofBytes [n]).size = 1 := fun n => rfl
  have z2 : ∀ a b, (cs.extract a b).size ≤ 81 := fun a b => by rw [ByteArray.size_extract]; omega
  have z3 := z2 0 (y * w + x).toNat
  have z4 := z2 (y * w + x + 1).toNat cs.size
  refine Ev.yes (fitS_of (by rw [z1]; omega)) (Ev.yes (by rw [decide_eq_true (by omega), decide_eq_true (by omega)]; rfl) (Ev.yes (fitS_of (by rw [ByteArray.size_append, z1]; omega)) (Ev.now' ?_)))
  rw [show (y * w + x + 1).toNat = (y * w + x).toNat + 1 by omega, setByte_b cs _ _ (by omega)]
theorem colour_ev (rl : ByteArray) (w h : Int) (cs : ByteArray) (x y wy : Int) (hw : 1 ≤ w ∧ w ≤ 9) (hh : 1 ≤ h ∧ h ≤ 9) (hx : 0 ≤ x ∧ x ≤ w - 1) (hy : 0 ≤ y ∧ y ≤ h - 1) (hs : (cs.size : Int) = w * h) {c : UInt8} (hc : cs.data.toList[(y * w + x).toNat]? = some c) (h48 : 48 ≤ c.toNat) :
    Ev (fun k => impl_World_colour k (rl, w, h, cs, x, y, wy)) ((c.toNat : Int) - 48) := by
  obtain ⟨a1, a2, a3, a4⟩ := at_range hx hy hw hh
  have hlt := c.toNat_lt
  have e0 : w64 (w64 (y * w) + x) = y * w + x := by rw [w64_of (n := y * w) (by omega) (by omega), w64_of (by omega) (by omega)]
  refine Ev.step (fun k => impl_World_colour.eq k rl w h cs x y wy) (Ev.bind (Ev.step (fun k => impl_World_at.eq k rl w h cs x y wy) (Ev.now' e0)) (Ev.yes (inB_of a3 (by omega)) (Ev.now' ?_)))
  rw [bt_at hc, w8_of (by omega) (by omega), w64_of (by omega) (by omega)]
/-- The program's step and the reference's, and it stays a scene. -/
theorem step_ev (st ti : Int) (rs : List Rw) (w h : Int) (cs : ByteArray) (x y wy sa : Int) (H : SceneOk st ti rs w h cs x y wy sa) : ∃ cs' x' y' wy' sa', Ev (fun k => impl_Scene_step k (st, ti, rs, w, h, cs, x, y, wy, sa)) (st, ti, rs, w, h, cs', x', y', wy', sa') ∧
    Ev (fun k => spec_taStep k (st, ti, rs, w, h, cs, x, y, wy, sa)) ((), (st, ti, rs, w, h, cs', x', y', wy', sa')) ∧ SceneOk st ti rs w h cs' x' y' wy' sa' := by
  obtain ⟨hT, hw, hh, hs, hcs, hx, hy, hwy, hsa⟩ := H
  obtain ⟨hst, hti, hlen, hrow⟩ := id hT
  obtain ⟨a1, a2, a3, a4⟩ := at_range hx hy hw hh
  have hm := mul_range (a := w) (b := h) (by omega) (by omega) (by omega) (by omega)
  obtain ⟨c, hc⟩ := byte_at (cs := cs) (i := (y * w + x).toNat) (by omega)
  obtain ⟨c48, cti⟩ := hcs c (List.mem_of_getElem? hc)
  obtain ⟨b1, b2, b3, b4⟩ := at_range (x := (c.toNat : Int) - 48) (y := sa) (w := ti) (h := st) (by omega) (by omega) (by omega) (by omega)
  rw [Int.mul_comm ti st] at b4
  have hm2 := mul_range (a := st) (b := ti) (by omega) (by omega) (by omega) (by omega)
  obtain ⟨r, hr⟩ := nat_list (l := rs) (i := (sa * ti + ((c.toNat : Int) - 48)).toNat) (by omega)
  have hrok := hrow r (List.mem_of_getElem? hr)
  obtain ⟨p, t, n⟩ := r
  obtain ⟨hp, ⟨b, hb, _⟩, hn⟩ := hrok
  simp only at hp hb hn
  have hts : t.size = 1 := size_one.2 ⟨b, hb⟩
  have hbt : bt t 0 = (b.toNat : Int) := bt_at (by rw [hb]; rfl)
  have eA : w64 (w64 (y * w) + x) = y * w + x := by rw [w64_of (n := y * w) (by omega) (by omega), w64_of (by omega) (by omega)]
  have hclt := c.toNat_lt
  have eC : w64 (w8 (bt cs (y * w + x).toNat - 48)) = (c.toNat : Int) - 48 := by rw [bt_at hc, w8_of (by omega) (by omega), w64_of (by omega) (by omega)]
  have eB : w64 (w64 (sa * ti) + ((c.toNat : Int) - 48)) = sa * ti + ((c.toNat : Int) - 48) := by rw [w64_of (n := sa * ti) (by omega) (by omega), w64_of (by omega) (by omega)]
  obtain ⟨q0, q3⟩ := quartersB_range (b.toNat : Int)
  have eW : (w64 (wy + quartersB (b.toNat : Int))).tmod 4 = (wy + quartersB (b.toNat : Int)) % 4 := by rw [w64_of (by omega) (by omega), Int.tmod_eq_emod_of_nonneg (by omega)]
  have hwy' : 0 ≤ (wy + quartersB (b.toNat : Int)) % 4 ∧ (wy + quartersB (b.toNat : Int)) % 4 ≤ 3 := by omega
  generalize (wy + quartersB (b.toNat : Int)) % 4 = wz at eW hwy'
  have hinT : inB 0 t.size = true := by rw [hts]; rfl
  have hinA : inB (y * w + x) cs.size = true := inB_of a3 (by omega)
  have hinB : inB (sa * ti + ((c.toNat : Int) - 48)) rs.length = true := inB_of b3 (by omega)
  obtain ⟨⟨d1, d2⟩, d3, d4⟩ := dW_range wz
  refine ⟨setByte cs (y * w + x).toNat (UInt8.ofNat (48 + p).toNat), go1 x w (1 * dxW wz), go1 y h (1 * dyW wz), wz, n, ?_, ?_, hT, hw, hh, by rw [setByte_size]; exact hs, cells_set hcs _ hp hti.2, ?_, ?_, hwy', hn⟩
  · refine Ev.step (fun k => impl_Scene_step.eq k st ti rs w h cs x y wy sa) (Ev.bind (Ev.step (fun k => impl_Scene_world.eq k st ti rs w h cs x y wy sa) (Ev.now _)) (Ev.bind (colour_ev _ w h cs x y wy hw hh hx hy hs hc c48) (Ev.bind (a := (p, t, n)) ?_ ?_)))
    · refine Ev.step (fun k => impl_Table_row.eq k st ti rs sa _) ?_
      rw [eB]
      exact Ev.yes hinB (Ev.now' (getD_at hr))
    · refine Ev.yes hinT ?_
      simp only [hbt]
      refine Ev.bind (quarters_ev _) ?_
      simp only [eW]
      exact Ev.bind (Ev.step (fun k => impl_World_at.eq k _ w h cs x y wz) (Ev.now' eA)) (Ev.bind (painted_ev cs _ p ⟨a3, by omega⟩ (by omega)) (Ev.bind (gone_ev _ w h _ x y wz 1 hw hh hx hy hwy' (.inl rfl)) (Ev.bind (Ev.step (fun k => impl_Scene_with.eq k st ti rs w h cs x y wy n _ _ _ _ _ _ _) (Ev.now _)) (Ev.now _))))
  · refine Ev.step (fun k => spec_taStep.eq k st ti rs w h cs x y wy sa) ?_
    rw [eA, eC, eB, getD_at hr]
    refine Ev.yes hinA (Ev.yes hinB (Ev.yes hinT ?_))
    simp only [hbt]
    refine Ev.bind (woTurn_ev _) ?_
    simp only [eW]
    obtain ⟨o, ho⟩ := taPaint_ev st ti rs w h cs x y wz sa p hw hh hx hy hs (by omega)
    exact Ev.bind ho (Ev.bind (taGo_ev st ti rs w h _ x y wz n 1 hw hh hx hy hwy' (.inl rfl)) (Ev.now _))
  · have := go1_range (n := x) (m := w) (d := 1 * dxW wz) hx.1 (by omega) (by omega) (by omega)
    omega
  · have := go1_range (n := y) (m := h) (d := 1 * dyW wz) hy.1 (by omega) (by omega) (by omega)
    omega

abbrev zeroS : Int × Int × List Rw × Int × Int × ByteArray × Int × Int × Int × Int := (0, 0, [], 0, 0, ByteArray.empty, 0, 0, 0, 0)
section
variable (st ti : Int) (rs : List Rw) (w h : Int) (cs : ByteArray) (x y wy sa : Int) (hl : rs.length ≤ 1048576)
include hl
theorem taOwn_ev : Ev (fun k => spec_taOwn k (st, ti, rs, w, h, cs, x, y, wy, sa)) (st, ti, rs, w, h, cs, x, y, wy, sa) :=
  Ev.step (fun k => spec_taOwn.eq k st ti rs w h cs x y wy sa) (Ev.yes (fits_of (by omega)) (Ev.now' (by rw [List.nil_append])))
end
end Go.Proofs.YtiaagflfiphioaaDoorS.Sc
