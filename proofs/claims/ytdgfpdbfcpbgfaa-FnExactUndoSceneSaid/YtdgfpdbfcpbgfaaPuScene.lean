/- Scenes and tables: the law's helpers. -/
import Derived.Test.YtdgfpdbfcpbgfaaPuKit
import Derived.Test.YtdgfpdbfcpbgfaaEq0
import Derived.Test.YtdgfpdbfcpbgfaaEq1
import Derived.Lib.Bytealg
namespace Go.Proofs.YtdgfpdbfcpbgfaaS
open Go
set_option linter.unusedVariables false
set_option linter.unusedSimpArgs false
abbrev Rw := Int × (ByteArray × Int)

/-! ### Sizes -/
theorem szRow_ev (x : Rw) (left : Int) (hg : x.2.1.size ≤ 9223372036854775807) (h0 : 0 ≤ left) (h1 : left ≤ 1048576) :
    Ev (fun k => laws_szRow k (x, left)) (-1) ∨ (0 ≤ left - (x.2.1.size : Int) ∧ Ev (fun k => laws_szRow k (x, left)) (left - (x.2.1.size : Int))) := by
  obtain ⟨p, t, n⟩ := x
  have hg : t.size ≤ 9223372036854775807 := hg
  have e := w64_of (n := left - (t.size : Int)) (by omega) (by omega)
  by_cases h : left - (t.size : Int) < 0
  · exact .inl (Ev.step (fun k => laws_szRow.eq k p t n left) (Ev.yes (decide_eq_true (by rw [e]; exact h)) (Ev.now _)))
  · exact .inr ⟨by show 0 ≤ left - (t.size : Int); omega, Ev.step (fun k => laws_szRow.eq k p t n left) (Ev.no (decide_eq_false (by rw [e]; exact h)) (Ev.now' e))⟩
theorem szRowS_l_ev (a : List Rw) (hg : ∀ x ∈ a, x.2.1.size ≤ 9223372036854775807) (hl : a.length ≤ 9223372036854775807) : ∀ (m i : Nat) (left : Int), i + m = a.length → 0 ≤ left → left ≤ 1048576 →
    Ev (fun k => laws_szRowS_l k (a, left, (i : Int))) (.inl (-1)) ∨ ∃ t, 0 ≤ t ∧ t ≤ left ∧ Ev (fun k => laws_szRowS_l k (a, left, (i : Int))) (.inr t)
  | 0, i, left, h, h0, h1 => .inr ⟨left, h0, Int.le_refl _, Ev.step (fun k => laws_szRowS_l.eq k a left i) (Ev.no (not_lt_nat (by omega)) (Ev.now _))⟩
  | m + 1, i, left, h, h0, h1 => by
    obtain ⟨x, hx⟩ := nat_list (l := a) (i := i) (by omega)
    have go : ∀ r, Ev (fun k => (laws_szRow k (x, left)).bind fun r1 => cond (decide (r1 < 0)) (some (.inl (-1))) (laws_szRowS_l k (a, r1, w64 ((i : Int) + 1)))) r → Ev (fun k => laws_szRowS_l k (a, left, (i : Int))) r := fun r H =>
      Ev.step (fun k => laws_szRowS_l.eq k a left i) (Ev.yes (lt_nat (by omega)) (Ev.yes (inB_nat (by omega)) (by rw [Int.toNat_natCast, getD_at hx]; exact H)))
    rcases szRow_ev x left (hg x (List.mem_of_getElem? hx)) h0 h1 with h3 | ⟨h2, h3⟩
    · exact .inl (go _ (Ev.bind h3 (Ev.yes rfl (Ev.now _))))
    · have hs : (x.2.1.size : Int) ≥ 0 := by omega
      rcases szRowS_l_ev a hg hl m (i + 1) (left - (x.2.1.size : Int)) (by omega) h2 (by omega) with h4 | ⟨t, t0, t1, h4⟩
      · exact .inl (go _ (Ev.bind h3 (Ev.no (decide_eq_false (by omega)) (by rw [w64_succ (by omega)]; exact h4))))
      · exact .inr ⟨t, t0, by omega, go _ (Ev.bind h3 (Ev.no (decide_eq_false (by omega)) (by rw [w64_succ (by omega)]; exact h4)))⟩
theorem szRowS_ev (a : List Rw) (hg : ∀ x ∈ a, x.2.1.size ≤ 9223372036854775807) (hl : a.length ≤ 9223372036854775807) :
    Ev (fun k => laws_szRowS k (a, 1048576)) (-1) ∨ ∃ t, 0 ≤ t ∧ t ≤ 1048576 ∧ a.length ≤ 1048576 ∧ Ev (fun k => laws_szRowS k (a, 1048576)) t := by
  have e := w64_of (n := 1048576 - (a.length : Int)) (by omega) (by omega)
  by_cases h : (1048576 : Int) - (a.length : Int) < 0
  · exact .inl (Ev.step (fun k => laws_szRowS.eq k a 1048576) (Ev.yes (decide_eq_true (by rw [e]; exact h)) (Ev.now _)))
  · have go : ∀ r, Ev (fun k => (laws_szRowS_l k (a, 1048576 - (a.length : Int), 0)).bind fun r1 => r1.elim (fun r2 => some r2) (fun r3 => some r3)) r → Ev (fun k => laws_szRowS k (a, 1048576)) r := fun r H =>
      Ev.step (fun k => laws_szRowS.eq k a 1048576) (Ev.no (decide_eq_false (by rw [e]; exact h)) (by rw [e]; exact H))
    rcases szRowS_l_ev a hg hl a.length 0 (1048576 - (a.length : Int)) (by omega) (by omega) (by omega) with h4 | ⟨t, t0, t1, h4⟩
    · exact .inl (go _ (Ev.bind h4 (Ev.now _)))
    · exact .inr ⟨t, t0, by omega, by omega, go _ (Ev.bind h4 (Ev.now _))⟩
theorem szTable_ev (st ti : Int) (a : List Rw) (hg : ∀ x ∈ a, x.2.1.size ≤ 9223372036854775807) (hl : a.length ≤ 9223372036854775807) :
    Ev (fun k => laws_szTable k ((st, ti, a), 1048576)) (-1) ∨ ∃ t, 0 ≤ t ∧ t ≤ 1048576 ∧ a.length ≤ 1048576 ∧ Ev (fun k => laws_szTable k ((st, ti, a), 1048576)) t := by
  rcases szRowS_ev a hg hl with h | ⟨t, t0, t1, t2, h⟩
  · exact .inl (Ev.step (fun k => laws_szTable.eq k st ti a 1048576) (Ev.bind h (Ev.yes rfl (Ev.now _))))
  · exact .inr ⟨t, t0, t1, t2, Ev.step (fun k => laws_szTable.eq k st ti a 1048576) (Ev.bind h (Ev.no (decide_eq_false (by omega)) (Ev.now _)))⟩
/-! ### Copies -/
theorem toRow_ev (x : Rw) : Ev (fun k => laws_toRow k x) x := Ev.step (fun k => laws_toRow.eq k x.1 x.2.1 x.2.2) (Ev.now _)
theorem toRowS_l_ev (a : List Rw) (hl : a.length ≤ 1048576) : ∀ (m i : Nat) (out : List Rw), i + m = a.length → out.length = a.length → (∀ j, j < i → out[j]? = a[j]?) → Ev (fun k => laws_toRowS_l k (a, out, (i : Int))) a
  | 0, i, out, h, ho, he => Ev.step (fun k => laws_toRowS_l.eq k a out i) (Ev.no (not_lt_nat (by omega)) (Ev.now' (List.ext_getElem? fun j => by
      by_cases hj : j < i
      · exact he j hj
      · rw [List.getElem?_eq_none (by omega), List.getElem?_eq_none (by omega)])))
  | m + 1, i, out, h, ho, he => by
    obtain ⟨x, hx⟩ := nat_list (l := a) (i := i) (by omega)
    refine Ev.step (fun k => laws_toRowS_l.eq k a out i) (Ev.yes (lt_nat (by omega)) (Ev.yes (inB_nat (by omega)) ?_))
    rw [Int.toNat_natCast, getD_at hx]
    refine Ev.bind (toRow_ev x) (Ev.yes (inB_nat (by omega)) ?_)
    rw [w64_succ (by omega)]
    refine toRowS_l_ev a hl m (i + 1) _ (by omega) (by rw [List.length_set]; exact ho) fun j hj => ?_
    rw [List.getElem?_set]
    split
    · rename_i e
      subst e
      rw [if_pos (by omega), hx]
    · exact he j (by omega)
theorem toRowS_ev (a : List Rw) (hl : a.length ≤ 1048576) : Ev (fun k => laws_toRowS k a) a := by
  refine Ev.step (fun k => laws_toRowS.eq k a) (Ev.yes ?_ (Ev.bind (toRowS_l_ev a hl a.length 0 _ (by omega) ?_ fun j hj => by omega) (Ev.now _)))
  · rw [fits_of (by rw [Int.toNat_natCast]; omega)]
    simp
  · rw [List.length_replicate, Int.toNat_natCast]
theorem toTable_ev (st ti : Int) (a : List Rw) (hl : a.length ≤ 1048576) : Ev (fun k => laws_toTable k (st, ti, a)) (st, ti, a) :=
  Ev.step (fun k => laws_toTable.eq k st ti a) (Ev.bind (toRowS_ev a hl) (Ev.now _))
/-! ### Equal to itself -/
theorem eqRow_ev (x : Rw) : Ev (fun k => laws_eqRow k (x, x)) true := by
  refine Ev.step (fun k => laws_eqRow.eq k x.1 x.2.1 x.2.2 x.1 x.2.1 x.2.2) (Ev.no (neq_self _) (Ev.no (by rw [strEq_self]; rfl) (Ev.no (neq_self _) (Ev.now _))))
theorem eqRowS_l_ev (a : List Rw) (hl : a.length ≤ 1048576) : ∀ (m i : Nat), i + m = a.length → Ev (fun k => laws_eqRowS_l k (a, a, (i : Int))) (.inr ())
  | 0, i, h => Ev.step (fun k => laws_eqRowS_l.eq k a a i) (Ev.no (not_lt_nat (by omega)) (Ev.now _))
  | m + 1, i, h => by
    refine Ev.step (fun k => laws_eqRowS_l.eq k a a i) (Ev.yes (lt_nat (by omega)) (Ev.yes (inB_nat (by omega)) (Ev.yes (inB_nat (by omega)) (Ev.bind (eqRow_ev _) (Ev.no rfl ?_)))))
    rw [w64_succ (by omega)]
    exact eqRowS_l_ev a hl m (i + 1) (by omega)
theorem eqTable_ev (st ti : Int) (a : List Rw) (hl : a.length ≤ 1048576) : Ev (fun k => laws_eqTable k ((st, ti, a), (st, ti, a))) true :=
  Ev.step (fun k => laws_eqTable.eq k st ti a st ti a) (Ev.no (neq_self _) (Ev.no (neq_self _) (Ev.bind (Ev.step (fun k => laws_eqRowS.eq k a a) (Ev.no (neq_self _) (Ev.bind (eqRowS_l_ev a hl a.length 0 (by omega)) (Ev.now _)))) (Ev.no rfl (Ev.now _)))))
theorem eqScene_ev (st ti : Int) (a : List Rw) (w h : Int) (cs : ByteArray) (x y wy sa : Int) (hl : a.length ≤ 1048576) :
    Ev (fun k => laws_eqScene k ((st, ti, a, w, h, cs, x, y, wy, sa), (st, ti, a, w, h, cs, x, y, wy, sa))) true :=
  Ev.step (fun k => laws_eqScene.eq k st ti a w h cs x y wy sa st ti a w h cs x y wy sa) (Ev.bind (eqTable_ev st ti a hl) (Ev.no rfl (Ev.no (neq_self _) (Ev.no (neq_self _) (Ev.no (by rw [strEq_self]; rfl) (Ev.no (neq_self _) (Ev.no (neq_self _) (Ev.no (neq_self _) (Ev.no (neq_self _) (Ev.now _))))))))))
theorem toScene_ev (st ti : Int) (a : List Rw) (w h : Int) (cs : ByteArray) (x y wy sa : Int) (hl : a.length ≤ 1048576) :
    Ev (fun k => laws_toScene k (st, ti, a, w, h, cs, x, y, wy, sa)) (st, ti, a, w, h, cs, x, y, wy, sa) :=
  Ev.step (fun k => laws_toScene.eq k st ti a w h cs x y wy sa) (Ev.bind (toTable_ev st ti a hl) (Ev.now _))
theorem szScene_ev (st ti : Int) (a : List Rw) (w h : Int) (cs : ByteArray) (x y wy sa : Int) (hg : ∀ x ∈ a, x.2.1.size ≤ 9223372036854775807) (hl : a.length ≤ 9223372036854775807) (hc : cs.size ≤ 9223372036854775807) :
    ∃ r, Ev (fun k => laws_szScene k ((st, ti, a, w, h, cs, x, y, wy, sa), 1048576)) r ∧ (r < 0 ∨ a.length ≤ 1048576) := by
  rcases szTable_ev st ti a hg hl with h1 | ⟨t, t0, t1, t2, h1⟩
  · exact ⟨-1, Ev.step (fun k => laws_szScene.eq k st ti a w h cs x y wy sa 1048576) (Ev.bind h1 (Ev.yes rfl (Ev.now _))), .inl (by omega)⟩
  · have e := w64_of (n := t - (cs.size : Int)) (by omega) (by omega)
    by_cases hn : t - (cs.size : Int) < 0
    · exact ⟨-1, Ev.step (fun k => laws_szScene.eq k st ti a w h cs x y wy sa 1048576) (Ev.bind h1 (Ev.no (decide_eq_false (by omega)) (Ev.yes (decide_eq_true (by rw [e]; exact hn)) (Ev.now _)))), .inl (by omega)⟩
    · exact ⟨_, Ev.step (fun k => laws_szScene.eq k st ti a w h cs x y wy sa 1048576) (Ev.bind h1 (Ev.no (decide_eq_false (by omega)) (Ev.no (decide_eq_false (by rw [e]; exact hn)) (Ev.now _)))), .inr t2⟩
/-! ### Marks -/
theorem markText_l_ev : ∀ (n : Nat) (out : ByteArray), out.size + n ≤ 1099511627776 → ∃ s, s.size ≤ out.size + n ∧ Ev (fun k => laws_markText_l k ((n : Int), out)) s
  | 0, out, h => ⟨out, Nat.le_refl _, Ev.step (fun k => laws_markText_l.eq k 0 out) (Ev.no rfl (Ev.now _))⟩
  | n + 1, out, h => by
    have e : w64 (((n + 1 : Nat) : Int).tdiv 10) = (((n + 1) / 10 : Nat) : Int) := by
      rw [Int.tdiv_eq_ediv_of_nonneg (by omega), w64_of (by omega) (by omega)]
      omega
    have hz : ∀ z : Int, (ofBytes [z] ++ out).size = 1 + out.size := fun z => by
      rw [ByteArray.size_append]
      rfl
    obtain ⟨s, hs1, hs⟩ := markText_l_ev ((n + 1) / 10) (ofBytes [w8 (w64 (48 + ((n + 1 : Nat) : Int).tmod 10))] ++ out) (by rw [hz]; omega)
    rw [hz] at hs1
    refine ⟨s, by omega, Ev.step (fun k => laws_markText_l.eq k ((n + 1 : Nat) : Int) out) (Ev.yes (decide_eq_true (by omega)) (Ev.yes (fitS_of ?_) ?_))⟩
    · show 1 + out.size < _
      omega
    · rw [e]
      exact hs
theorem markText_ev (n : Int) (h0 : 0 < n) (h1 : n ≤ 1099511627776) : ∃ s, Ev (fun k => laws_markText k n) s := by
  obtain ⟨m, rfl⟩ := Int.eq_ofNat_of_zero_le (Int.le_of_lt h0)
  obtain ⟨s, hs1, hs⟩ := markText_l_ev m ByteArray.empty (by show 0 + m ≤ _; omega)
  have hs1 : s.size ≤ 0 + m := hs1
  exact ⟨_, Ev.step (fun k => laws_markText.eq k m) (Ev.no (decide_eq_false (by omega)) (Ev.bind hs (Ev.yes (fitS_of (by show 1 + s.size < _; omega)) (Ev.now _))))⟩
/-- A row that bears the marks from a number on. -/
def Marked (M : List Rw) (i m : Nat) (n : Int) : Prop := ∀ j : Nat, j < m → ∃ s, M[i + j]? = some (n + 3 * j, s, n + 3 * j + 2) ∧ Ev (fun k => laws_markText k (n + 3 * j + 1)) s
theorem markRowS_l_ev : ∀ (m i : Nat) (a : List Rw) (n : Int), i + m = a.length → a.length ≤ 1048576 → 0 ≤ n → n + 3 * m ≤ 1099511627776 →
    ∃ M, Ev (fun k => laws_markRowS_l k (a, n, (i : Int), ())) (n + 3 * m, M) ∧ M.length = a.length ∧ (∀ j, j < i → M[j]? = a[j]?) ∧ Marked M i m n
  | 0, i, a, n, h, hl, h0, h1 => ⟨a, Ev.step (fun k => laws_markRowS_l.eq k a n i) (Ev.no (not_lt_nat (by omega)) (Ev.now' (by simp))), rfl, fun _ _ => rfl, fun j hj => by omega⟩
  | m + 1, i, a, n, h, hl, h0, h1 => by
    obtain ⟨x, hx⟩ := nat_list (l := a) (i := i) (by omega)
    have e1 : w64 (n + 1) = n + 1 := w64_of (by omega) (by omega)
    have e2 : w64 (n + 1 + 1) = n + 2 := by rw [w64_of (by omega) (by omega)]; omega
    have e3 : w64 (n + 2 + 1) = n + 3 := by rw [w64_of (by omega) (by omega)]; omega
    obtain ⟨s, hs⟩ := markText_ev (n + 1) (by omega) (by omega)
    obtain ⟨M, hM, hML, hMo, hMm⟩ := markRowS_l_ev m (i + 1) (a.set i (n, s, n + 2)) (n + 3) (by rw [List.length_set]; omega) (by rw [List.length_set]; exact hl) (by omega) (by omega)
    refine ⟨M, ?_, by rw [hML, List.length_set], fun j hj => ?_, fun j hj => ?_⟩
    · have hi : i < a.length := by omega
      have g1 : ∀ y : Rw, (a.set i y).getD i default = y := fun y => getD_at (by rw [List.getElem?_set_self hi])
      refine Ev.step (fun k => laws_markRowS_l.eq k a n i) (Ev.yes (lt_nat (by omega)) (Ev.yes (inB_nat (by omega)) ?_))
      rw [e1]
      refine Ev.bind hs ?_
      simp only [Int.toNat_natCast, List.set_set, g1, e2, e3]
      refine Ev.yes (inB_nat (by rw [List.length_set]; omega)) (Ev.yes (inB_nat (by rw [List.length_set]; omega)) ?_)
      rw [w64_succ (by omega), show n + 3 * ((m + 1 : Nat) : Int) = n + 3 + 3 * (m : Int) by omega]
      exact hM
    · rw [hMo j (by omega), List.getElem?_set_ne (by omega)]
    · cases j with
      | zero =>
        refine ⟨s, ?_, by simpa using hs⟩
        rw [Nat.add_zero, hMo i (by omega), List.getElem?_set_self (by omega)]
        simp
      | succ j =>
        obtain ⟨s', h1', h2'⟩ := hMm j (by omega)
        refine ⟨s', ?_, ?_⟩
        · rw [show i + (j + 1) = i + 1 + j by omega, h1', show n + 3 * ((j + 1 : Nat) : Int) = n + 3 + 3 * (j : Int) by omega]
        · rw [show n + 3 * ((j + 1 : Nat) : Int) = n + 3 + 3 * (j : Int) by omega]
          exact h2'
theorem heldRowS_l_ev (M : List Rw) (hl : M.length ≤ 1048576) : ∀ (m i : Nat) (n : Int), i + m = M.length → 0 ≤ n → n + 3 * m ≤ 1099511627776 → Marked M i m n → Ev (fun k => laws_heldRowS_l k (M, n, (i : Int))) (.inr (n + 3 * m))
  | 0, i, n, h, h0, h1, hm => Ev.step (fun k => laws_heldRowS_l.eq k M n i) (Ev.no (not_lt_nat (by omega)) (Ev.now' (by simp)))
  | m + 1, i, n, h, h0, h1, hm => by
    have e1 : w64 (n + 1) = n + 1 := w64_of (by omega) (by omega)
    have e2 : w64 (n + 1 + 1) = n + 2 := by rw [w64_of (by omega) (by omega)]; omega
    have e3 : w64 (n + 2 + 1) = n + 3 := by rw [w64_of (by omega) (by omega)]; omega
    obtain ⟨s, h2, h3⟩ := hm 0 (by omega)
    have h2 : M[i]? = some (n, s, n + 2) := by simpa using h2
    have h3 : Ev (fun k => laws_markText k (n + 1)) s := by simpa using h3
    have hB : inB (i : Int) M.length = true := inB_nat (by omega)
    refine Ev.step (fun k => laws_heldRowS_l.eq k M n i) (Ev.yes (lt_nat (by omega)) (Ev.yes hB ?_))
    simp only [Int.toNat_natCast, getD_at h2, e1, e2, e3]
    refine Ev.no (neq_self _) (Ev.yes hB (Ev.bind h3 (Ev.no (by rw [strEq_self]; rfl) (Ev.yes hB (Ev.no (neq_self _) ?_)))))
    rw [w64_succ (by omega), show n + 3 * ((m + 1 : Nat) : Int) = n + 3 + 3 * (m : Int) by omega]
    refine heldRowS_l_ev M hl m (i + 1) (n + 3) (by omega) (by omega) (by omega) fun j hj => ?_
    obtain ⟨s', h1', h2'⟩ := hm (j + 1) (by omega)
    refine ⟨s', ?_, ?_⟩
    · rw [show i + 1 + j = i + (j + 1) by omega, h1', show n + 3 * ((j + 1 : Nat) : Int) = n + 3 + 3 * (j : Int) by omega]
    · rw [show n + 3 + 3 * (j : Int) + 1 = n + 3 * ((j + 1 : Nat) : Int) + 1 by omega]
      exact h2'
theorem markScene_ev (st ti : Int) (a : List Rw) (w h : Int) (cs : ByteArray) (x y wy sa : Int) (hl : a.length ≤ 1048576) : ∃ M, Ev (fun k => laws_markScene k ((st, ti, a, w, h, cs, x, y, wy, sa), 1)) (1 + 3 * (a.length : Int), (st, ti, M, w, h, cs, x, y, wy, sa)) ∧
    Ev (fun k => laws_heldScene k ((st, ti, M, w, h, cs, x, y, wy, sa), 1)) (1 + 3 * (a.length : Int)) := by
  obtain ⟨M, hM, hML, _, hMm⟩ := markRowS_l_ev a.length 0 a 1 (by omega) hl (by omega) (by omega)
  refine ⟨M, Ev.step (fun k => laws_markScene.eq k st ti a w h cs x y wy sa 1) (Ev.bind (Ev.step (fun k => laws_markTable.eq k st ti a 1) (Ev.bind (Ev.step (fun k => laws_markRowS.eq k a 1) (Ev.bind hM (Ev.now _))) (Ev.now _))) (Ev.now _)), ?_⟩
  have hh := heldRowS_l_ev M (by omega) a.length 0 1 (by omega) (by omega) (by omega) hMm
  have hn : decide (1 + 3 * (a.length : Int) < 0) = false := decide_eq_false (by omega)
  exact Ev.step (fun k => laws_heldScene.eq k st ti M w h cs x y wy sa 1) (Ev.bind (Ev.step (fun k => laws_heldTable.eq k st ti M 1) (Ev.bind (Ev.step (fun k => laws_heldRowS.eq k M 1) (Ev.bind hh (Ev.now _))) (Ev.no hn (Ev.now _)))) (Ev.no hn (Ev.now _)))
end Go.Proofs.YtdgfpdbfcpbgfaaS
