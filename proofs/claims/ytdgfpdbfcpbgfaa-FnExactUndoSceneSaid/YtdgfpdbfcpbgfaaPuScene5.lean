/- Scenes: a step undone. -/
import Derived.Test.YtdgfpdbfcpbgfaaPuScene4
namespace Go.Proofs.YtdgfpdbfcpbgfaaS
open Go
set_option linter.unusedVariables false
set_option linter.unusedSimpArgs false

def Hit (p n : Int) (r : Rw) : Prop := r.1 = p ∧ r.2.2 = n
/-- The first row with a Paint and a Next. -/
theorem before_ev (st ti : Int) (rs : List Rw) (hl : rs.length ≤ 1048576) (p n : Int) : ((∀ r ∈ rs, ¬ Hit p n r) ∧ Ev (fun k => impl_Table_before k ((st, ti, rs), p, n)) (-1)) ∨
    ∃ (j : Nat) (r : Rw), rs[j]? = some r ∧ Hit p n r ∧ (∀ (l : Nat) (q : Rw), l < j → rs[l]? = some q → ¬ Hit p n q) ∧ Ev (fun k => impl_Table_before k ((st, ti, rs), p, n)) (j : Int) := by
  have test : ∀ r : Rw, EvB (fun k => impl_Table_before_1 k (r, p, n)) (Hit p n r) := fun r =>
    EvB.step (fun k => impl_Table_before_1.eq k r.1 r.2.1 r.2.2 p n) (EvB.ifT beq_iff_eq fun _ => EvB.val beq_iff_eq)
  have step : ∀ (i : Nat) (x : Rw), rs[i]? = some x → ∀ r, Ev (fun k => (impl_Table_before_1 k (x, p, n)).bind fun r1 => cond r1 (some (.inl (i : Int))) (slices_IndexFunc_2_l k (rs, (p, n), (rs.length : Int), w64 ((i : Int) + 1)))) r → Ev (fun k => slices_IndexFunc_2_l k (rs, (p, n), (rs.length : Int), (i : Int))) r := fun i x hx r H => by
    have hi := (List.getElem?_eq_some_iff.1 hx).1
    exact Ev.step (fun k => slices_IndexFunc_2_l.eq k rs p n (rs.length : Int) (i : Int)) (Ev.yes (lt_nat hi) (Ev.yes (inB_nat hi) (by rw [Int.toNat_natCast, getD_at hx]; exact H)))
  have srch := Ev.search (L := fun k i => slices_IndexFunc_2_l k (rs, (p, n), (rs.length : Int), i)) (n := rs.length) (fun i => ∃ x, rs[i]? = some x ∧ Hit p n x) (fun i => .inl (i : Int)) (.inr ())
    (fun i hi hp r H => by
      obtain ⟨x, hx⟩ := nat_list hi
      exact step i x hx r (Ev.bind ((test x).isF fun q => hp ⟨x, hx, q⟩) (Ev.no rfl (by rw [w64_succ (by omega)]; exact H))))
    (fun i hi hp => by
      obtain ⟨x, hx, hn⟩ := hp
      exact step i x hx _ (Ev.bind ((test x).isT hn) (Ev.yes rfl (Ev.now _))))
    (Ev.step (fun k => slices_IndexFunc_2_l.eq k rs p n (rs.length : Int) (rs.length : Int)) (Ev.no (not_lt_nat (Nat.lt_irrefl _)) (Ev.now _))) rs.length 0 (by omega)
  have go : ∀ r, Ev (fun k => (slices_IndexFunc_2_l k (rs, (p, n), (rs.length : Int), ((0 : Nat) : Int))).bind fun r1 => r1.elim (fun r2 => some r2) (fun r3 => some (-1))) r → Ev (fun k => impl_Table_before k ((st, ti, rs), p, n)) r := fun r H =>
    Ev.step (fun k => impl_Table_before.eq k st ti rs p n) (Ev.bind (Ev.step (fun k => slices_IndexFunc_2.eq k rs p n) H) (Ev.now _))
  rcases srch with ⟨h1, h2⟩ | ⟨j, _, hj, ⟨x, hx, hn⟩, h1, h2⟩
  · refine .inl ⟨fun r hr hh => ?_, go _ (Ev.bind h2 (Ev.now _))⟩
    obtain ⟨i, hi⟩ := List.mem_iff_getElem?.1 hr
    exact h1 i (Nat.zero_le _) (List.getElem?_eq_some_iff.1 hi).1 ⟨r, hi, hh⟩
  · exact .inr ⟨j, x, hx, hn, fun l q hl hq hh => h1 l (Nat.zero_le _) hl ⟨q, hq, hh⟩, go _ (Ev.bind h2 (Ev.now _))⟩
/-- No two rows have the same Paint and Next. -/
def ApartR (rs : List Rw) : Prop := ∀ (i l : Nat) (x q : Rw), l < i → rs[i]? = some x → rs[l]? = some q → ¬ Hit x.1 x.2.2 q
theorem canUndo_ev (st ti : Int) (rs : List Rw) (hl : rs.length ≤ 1048576) : EvB (fun k => impl_Table_canUndo k (st, ti, rs)) (ApartR rs) := by
  have step : ∀ (i : Nat) (x : Rw), rs[i]? = some x → ∀ r, Ev (fun k => (impl_Table_before k ((st, ti, rs), x.1, x.2.2)).bind fun r1 => cond (r1 != (i : Int)) (some (.inl false)) (impl_Table_canUndo_l k ((st, ti, rs), (), (rs.length : Int), w64 ((i : Int) + 1)))) r → Ev (fun k => impl_Table_canUndo_l k ((st, ti, rs), (), (rs.length : Int), (i : Int))) r := fun i x hx r H => by
    have hi := (List.getElem?_eq_some_iff.1 hx).1
    exact Ev.step (fun k => impl_Table_canUndo_l.eq k st ti rs (rs.length : Int) (i : Int)) (Ev.yes (lt_nat hi) (Ev.yes (inB_nat hi) (by rw [Int.toNat_natCast, getD_at hx]; exact H)))
  have srch := Ev.search (L := fun k i => impl_Table_canUndo_l k ((st, ti, rs), (), (rs.length : Int), i)) (n := rs.length) (fun i => ∃ (l : Nat) (x q : Rw), l < i ∧ rs[i]? = some x ∧ rs[l]? = some q ∧ Hit x.1 x.2.2 q) (fun i => .inl false) (.inr ())
    (fun i hi hp r H => by
      obtain ⟨x, hx⟩ := nat_list hi
      refine step i x hx r ?_
      rcases before_ev st ti rs hl x.1 x.2.2 with ⟨h1, _⟩ | ⟨j, q, hq, hh, h1, h2⟩
      · exact absurd ⟨rfl, rfl⟩ (h1 x (List.mem_of_getElem? hx))
      · have hji : j = i := by
          rcases Nat.lt_trichotomy j i with h | h | h
          · exact absurd ⟨j, x, q, h, hx, hq, hh⟩ hp
          · exact h
          · exact absurd ⟨rfl, rfl⟩ (h1 i x h hx)
        subst hji
        exact Ev.bind h2 (Ev.no (neq_self _) (by rw [w64_succ (by omega)]; exact H)))
    (fun i hi hp => by
      obtain ⟨l, x, q, hli, hx, hq, hh⟩ := hp
      refine step i x hx _ ?_
      rcases before_ev st ti rs hl x.1 x.2.2 with ⟨h1, _⟩ | ⟨j, q', hq', hh', h1, h2⟩
      · exact absurd ⟨rfl, rfl⟩ (h1 x (List.mem_of_getElem? hx))
      · have hji : j ≤ l := by
          rcases Nat.lt_or_ge l j with h | h
          · exact absurd hh (h1 l q h hq)
          · exact h
        exact Ev.bind h2 (Ev.yes (by rw [bne_iff_ne]; omega) (Ev.now _)))
    (Ev.step (fun k => impl_Table_canUndo_l.eq k st ti rs (rs.length : Int) (rs.length : Int)) (Ev.no (not_lt_nat (Nat.lt_irrefl _)) (Ev.now _))) rs.length 0 (by omega)
  refine EvB.step (fun k => impl_Table_canUndo.eq k st ti rs) ?_
  rcases srch with ⟨h1, h2⟩ | ⟨j, _, hj, ⟨l, x, q, hlj, hx, hq, hh⟩, _, h2⟩
  · exact ⟨true, Ev.bind h2 (Ev.now _), ⟨fun _ i l x q hli hx hq hh => h1 i (Nat.zero_le _) (List.getElem?_eq_some_iff.1 hx).1 ⟨l, x, q, hli, hx, hq, hh⟩, fun _ => rfl⟩⟩
  · exact ⟨false, Ev.bind h2 (Ev.now _), ⟨nofun, fun H => absurd hh (H j l x q hlj hx hq)⟩⟩
theorem taUndo_l_l_ev (st ti : Int) (rs : List Rw) (hl : rs.length ≤ 1048576) (x : Rw) (t9 t10 : Int) (ts : List Rw) (hts : ts.length ≤ 1048576) :
    ((∀ r ∈ ts, ¬ Hit x.1 x.2.2 r) ∧ Ev (fun k => spec_taUndo_l_l k ((st, ti, rs), x, (), t9, t10, ts, (ts.length : Int), 0)) (.inr ((st, ti, rs), (), t9, t10))) ∨
    ((∃ r ∈ ts, Hit x.1 x.2.2 r) ∧ Ev (fun k => spec_taUndo_l_l k ((st, ti, rs), x, (), t9, t10, ts, (ts.length : Int), 0)) (.inl false)) := by
  have step : ∀ (i : Nat) (y : Rw), ts[i]? = some y → ∀ r, Ev (fun k => cond (x.1 == y.1) (cond (x.2.2 == y.2.2) (some (.inl false)) (spec_taUndo_l_l k ((st, ti, rs), x, (), t9, t10, ts, (ts.length : Int), w64 ((i : Int) + 1)))) (spec_taUndo_l_l k ((st, ti, rs), x, (), t9, t10, ts, (ts.length : Int), w64 ((i : Int) + 1)))) r →
      Ev (fun k => spec_taUndo_l_l k ((st, ti, rs), x, (), t9, t10, ts, (ts.length : Int), (i : Int))) r := fun i y hy r H => by
    have hi := (List.getElem?_eq_some_iff.1 hy).1
    exact Ev.step (fun k => spec_taUndo_l_l.eq k st ti rs x.1 x.2.1 x.2.2 t9 t10 ts (ts.length : Int) (i : Int)) (Ev.yes (lt_nat hi) (Ev.yes (inB_nat hi) (by rw [Int.toNat_natCast, getD_at hy]; exact H)))
  have srch := Ev.search (L := fun k i => spec_taUndo_l_l k ((st, ti, rs), x, (), t9, t10, ts, (ts.length : Int), i)) (n := ts.length) (fun i => ∃ y, ts[i]? = some y ∧ Hit x.1 x.2.2 y) (fun i => .inl false) (.inr ((st, ti, rs), (), t9, t10))
    (fun i hi hp r H => by
      obtain ⟨y, hy⟩ := nat_list hi
      refine step i y hy r ?_
      have H' : Ev (fun k => spec_taUndo_l_l k ((st, ti, rs), x, (), t9, t10, ts, (ts.length : Int), w64 ((i : Int) + 1))) r := by rw [w64_succ (by omega)]; exact H
      exact Ev.cond (fun a => Ev.cond (fun b => absurd ⟨y, hy, (beq_iff_eq.1 a).symm, (beq_iff_eq.1 b).symm⟩ hp) fun _ => H') fun _ => H')
    (fun i hi hp => by
      obtain ⟨y, hy, h1, h2⟩ := hp
      exact step i y hy _ (Ev.yes (beq_iff_eq.2 h1.symm) (Ev.yes (beq_iff_eq.2 h2.symm) (Ev.now _))))
    (Ev.step (fun k => spec_taUndo_l_l.eq k st ti rs x.1 x.2.1 x.2.2 t9 t10 ts (ts.length : Int) (ts.length : Int)) (Ev.no (not_lt_nat (Nat.lt_irrefl _)) (Ev.now _))) ts.length 0 (by omega)
  rcases srch with ⟨h1, h2⟩ | ⟨j, _, hj, ⟨y, hy, hh⟩, _, h2⟩
  · refine .inl ⟨fun r hr hh => ?_, h2⟩
    obtain ⟨i, hi⟩ := List.mem_iff_getElem?.1 hr
    exact h1 i (Nat.zero_le _) (List.getElem?_eq_some_iff.1 hi).1 ⟨r, hi, hh⟩
  · exact .inr ⟨⟨y, List.mem_of_getElem? hy, hh⟩, h2⟩
theorem taUndo_ev (st ti : Int) (rs : List Rw) (hl : rs.length ≤ 1048576) : EvB (fun k => spec_taUndo k (st, ti, rs)) (ApartR rs) := by
  have step : ∀ (i : Nat) (x : Rw), rs[i]? = some x → ∀ r, Ev (fun k => (spec_taUndo_l_l k ((st, ti, rs), x, (), (rs.length : Int), (i : Int), rs.take i, ((rs.take i).length : Int), 0)).bind fun r1 => r1.elim (fun r2 => some (.inl r2)) (fun r3 => spec_taUndo_l k (r3.1, (), r3.2.2.1, w64 (r3.2.2.2 + 1)))) r → Ev (fun k => spec_taUndo_l k ((st, ti, rs), (), (rs.length : Int), (i : Int))) r := fun i x hx r H => by
    have hi := (List.getElem?_eq_some_iff.1 hx).1
    exact Ev.step (fun k => spec_taUndo_l.eq k st ti rs (rs.length : Int) (i : Int)) (Ev.yes (lt_nat hi) (Ev.yes (inB_nat hi) (Ev.yes (by rw [decide_eq_true (by omega), decide_eq_true (by omega)]; rfl) (by rw [Int.toNat_natCast, getD_at hx]; exact H))))
  have tk : ∀ (i : Nat) (q : Rw), q ∈ rs.take i ↔ ∃ l, l < i ∧ rs[l]? = some q := fun i q => by
    rw [List.mem_iff_getElem?]
    constructor
    · rintro ⟨l, hq⟩
      rw [List.getElem?_take] at hq
      split at hq
      · exact ⟨l, by assumption, hq⟩
      · cases hq
    · rintro ⟨l, h, hq⟩
      exact ⟨l, by rw [List.getElem?_take, if_pos h]; exact hq⟩
  have htl : ∀ i, (rs.take i).length ≤ 1048576 := fun i => by rw [List.length_take]; omega
  have srch := Ev.search (L := fun k i => spec_taUndo_l k ((st, ti, rs), (), (rs.length : Int), i)) (n := rs.length) (fun i => ∃ (l : Nat) (x q : Rw), l < i ∧ rs[i]? = some x ∧ rs[l]? = some q ∧ Hit x.1 x.2.2 q) (fun i => .inl false) (.inr ())
    (fun i hi hp r H => by
      obtain ⟨x, hx⟩ := nat_list hi
      refine step i x hx r ?_
      rcases taUndo_l_l_ev st ti rs hl x (rs.length : Int) (i : Int) (rs.take i) (htl i) with ⟨_, h2⟩ | ⟨⟨q, hq, hh⟩, _⟩
      · exact Ev.bind h2 (by show Ev (fun k => spec_taUndo_l k ((st, ti, rs), (), (rs.length : Int), w64 ((i : Int) + 1))) r; rw [w64_succ (by omega)]; exact H)
      · obtain ⟨l, hli, hq⟩ := (tk i q).1 hq
        exact absurd ⟨l, x, q, hli, hx, hq, hh⟩ hp)
    (fun i hi hp => by
      obtain ⟨l, x, q, hli, hx, hq, hh⟩ := hp
      refine step i x hx _ ?_
      rcases taUndo_l_l_ev st ti rs hl x (rs.length : Int) (i : Int) (rs.take i) (htl i) with ⟨h1, _⟩ | ⟨_, h2⟩
      · exact absurd hh (h1 q ((tk i q).2 ⟨l, hli, hq⟩))
      · exact Ev.bind h2 (Ev.now _))
    (Ev.step (fun k => spec_taUndo_l.eq k st ti rs (rs.length : Int) (rs.length : Int)) (Ev.no (not_lt_nat (Nat.lt_irrefl _)) (Ev.now _))) rs.length 0 (by omega)
  refine EvB.step (fun k => spec_taUndo.eq k st ti rs) ?_
  rcases srch with ⟨h1, h2⟩ | ⟨j, _, hj, ⟨l, x, q, hlj, hx, hq, hh⟩, _, h2⟩
  · exact ⟨true, Ev.bind h2 (Ev.now _), ⟨fun _ i l x q hli hx hq hh => h1 i (Nat.zero_le _) (List.getElem?_eq_some_iff.1 hx).1 ⟨l, x, q, hli, hx, hq, hh⟩, fun _ => rfl⟩⟩
  · exact ⟨false, Ev.bind h2 (Ev.now _), ⟨nofun, fun H => absurd hh (H j l x q hlj hx hq)⟩⟩
/-- Rows that are apart, as many as there are pairs of Paint and Next, have all of these. -/
theorem all_pairs {st ti : Int} {rs : List Rw} (hT : TabOk st ti rs) (hA : ApartR rs) {p n : Int} (hp : 0 ≤ p ∧ p ≤ ti - 1) (hn : 0 ≤ n ∧ n ≤ st - 1) : ∃ r ∈ rs, Hit p n r := by
  obtain ⟨hst, hti, hlen, hrow⟩ := hT
  let f : Rw → Nat := fun r => (r.2.2 * ti + r.1).toNat
  have inj : ∀ {a b c d : Int}, 0 ≤ a ∧ a ≤ ti - 1 → 0 ≤ c ∧ c ≤ ti - 1 → 0 ≤ b → 0 ≤ d → b * ti + a = d * ti + c → a = c ∧ b = d := fun {a b c d} ha hc hb hd e => by
    have h1 : (b * ti + a) % ti = a := by rw [Int.add_comm, Int.add_mul_emod_self_right, Int.emod_eq_of_lt ha.1 (by omega)]
    have h2 : (d * ti + c) % ti = c := by rw [Int.add_comm, Int.add_mul_emod_self_right, Int.emod_eq_of_lt hc.1 (by omega)]
    rw [e, h2] at h1
    subst h1
    exact ⟨rfl, Int.eq_of_mul_eq_mul_right (show ti ≠ 0 by omega) (by omega)⟩
  have rng : ∀ {a b : Int}, 0 ≤ a ∧ a ≤ ti - 1 → 0 ≤ b ∧ b ≤ st - 1 → 0 ≤ b * ti + a ∧ b * ti + a < st * ti := fun {a b} ha hb => by
    have := at_range (x := a) (y := b) (w := ti) (h := st) ha hb (by omega) (by omega)
    rw [Int.mul_comm ti st] at this
    exact this.2.2
  have hnd : (rs.map f).Nodup := by
    unfold List.Nodup
    rw [List.pairwise_iff_getElem]
    intro l i hl' hi hli e
    rw [List.length_map] at hi
    rw [List.getElem_map, List.getElem_map] at e
    have hl'' : l < rs.length := by omega
    have hx : rs[i]? = some rs[i] := List.getElem?_eq_getElem hi
    have hq : rs[l]? = some rs[l] := List.getElem?_eq_getElem hl''
    generalize rs[i] = x at hx e
    generalize rs[l] = q at hq e
    have hqr := hrow q (List.mem_of_getElem? hq)
    have hxr := hrow x (List.mem_of_getElem? hx)
    have r1 := rng hqr.1 hqr.2.2
    have r2 := rng hxr.1 hxr.2.2
    have e : (q.2.2 * ti + q.1).toNat = (x.2.2 * ti + x.1).toNat := e
    have := inj hqr.1 hxr.1 hqr.2.2.1 hxr.2.2.1 (by omega)
    exact hA i l x q hli hx hq ⟨this.1, this.2⟩
  have hm := pigeon_mem (n := (st * ti).toNat) hnd (fun v hv => by
    obtain ⟨r, hr, rfl⟩ := List.mem_map.1 hv
    have hrr := hrow r hr
    have := rng hrr.1 hrr.2.2
    show (r.2.2 * ti + r.1).toNat < _
    omega) (by rw [List.length_map]; omega) (v := (n * ti + p).toNat) (by have := rng hp hn; omega)
  obtain ⟨r, hr, e⟩ := List.mem_map.1 hm
  have hrr := hrow r hr
  have e : (r.2.2 * ti + r.1).toNat = (n * ti + p).toNat := e
  have r1 := rng hrr.1 hrr.2.2
  have r2 := rng hp hn
  have := inj hrr.1 hp hrr.2.2.1 hn.1 (by omega)
  exact ⟨r, hr, this.1, this.2⟩
theorem back_way {wy q : Int} (hw : 0 ≤ wy ∧ wy ≤ 3) (hq : 0 ≤ q ∧ q ≤ 3) : (w64 (w64 (wy + 4) - q)).tmod 4 = (wy + 4 - q).tmod 4 ∧ (w64 ((w64 (wy - q)).tmod 4 + 4)).tmod 4 = (wy + 4 - q).tmod 4 := by
  rw [w64_of (n := wy + 4) (by omega) (by omega), w64_of (n := wy + 4 - q) (by omega) (by omega), w64_of (n := wy - q) (by omega) (by omega)]
  refine ⟨rfl, ?_⟩
  have : wy - q = -3 ∨ wy - q = -2 ∨ wy - q = -1 ∨ wy - q = 0 ∨ wy - q = 1 ∨ wy - q = 2 ∨ wy - q = 3 := by omega
  rw [show wy + 4 - q = wy - q + 4 by omega]
  rcases this with e | e | e | e | e | e | e <;> rw [e] <;> rfl
section
variable (st ti : Int) (rs : List Rw) (w h : Int) (cs : ByteArray) (x y wy sa : Int) (hl : rs.length ≤ 1048576)
include hl
theorem undoScene_ev (hc : cs.size ≤ 9223372036854775807) : ∃ st' ti' rs' w' h' cs' x' y' wy' sa' ok, Ev (fun k => spec_UndoScene k (st, ti, rs, w, h, cs, x, y, wy, sa)) ((st', ti', rs', w', h', cs', x', y', wy', sa'), ok) ∧
    Ev (fun k => impl_UndoScene k (st, ti, rs, w, h, cs, x, y, wy, sa)) ((st', ti', rs', w', h', cs', x', y', wy', sa'), ok) ∧ rs'.length ≤ 1048576 := by
  have a1 := isScene_ev st ti rs w h cs x y wy sa hl hc
  have a2 := taScene_ev st ti rs w h cs x y wy sa hl
  have no : ∀ {g g' : Nat → Option ((Int × Int × List Rw × Int × Int × ByteArray × Int × Int × Int × Int) × Bool)}, Ev g (zeroS, false) → Ev g' (zeroS, false) → ∃ st' ti' rs' w' h' cs' x' y' wy' sa' ok, Ev g ((st', ti', rs', w', h', cs', x', y', wy', sa'), ok) ∧ Ev g' ((st', ti', rs', w', h', cs', x', y', wy', sa'), ok) ∧ rs'.length ≤ 1048576 := fun {g g'} p q =>
    ⟨0, 0, [], 0, 0, ByteArray.empty, 0, 0, 0, 0, false, p, q, Nat.zero_le _⟩
  by_cases H : SceneOk st ti rs w h cs x y wy sa
  rotate_left
  · exact no (Ev.step (fun k => spec_UndoScene.eq k st ti rs w h cs x y wy sa) (Ev.bind (a2.isF H) (Ev.yes rfl (Ev.now _)))) (Ev.step (fun k => impl_UndoScene.eq k st ti rs w h cs x y wy sa) (Ev.bind (a1.isF H) (Ev.yes rfl (Ev.now _))))
  by_cases hA : ApartR rs
  rotate_left
  · exact no (Ev.step (fun k => spec_UndoScene.eq k st ti rs w h cs x y wy sa) (Ev.bind (a2.isT H) (Ev.no rfl (Ev.bind ((taUndo_ev st ti rs hl).isF hA) (Ev.yes rfl (Ev.now _))))))
      (Ev.step (fun k => impl_UndoScene.eq k st ti rs w h cs x y wy sa) (Ev.bind (a1.isT H) (Ev.no rfl (Ev.bind ((canUndo_ev st ti rs hl).isF hA) (Ev.yes rfl (Ev.now _))))))
  obtain ⟨hT, hw, hh, hs, hcs, hx, hy, hwy, hsa⟩ := id H
  obtain ⟨hst, hti, hlen, hrow⟩ := id hT
  obtain ⟨⟨d1, d2⟩, d3, d4⟩ := dW_range wy
  have hx1 : 0 ≤ go1 x w (-1 * dxW wy) ∧ go1 x w (-1 * dxW wy) ≤ w - 1 := by
    have := go1_range (n := x) (m := w) (d := -1 * dxW wy) hx.1 (by omega) (by omega) (by omega)
    omega
  have hy1 : 0 ≤ go1 y h (-1 * dyW wy) ∧ go1 y h (-1 * dyW wy) ≤ h - 1 := by
    have := go1_range (n := y) (m := h) (d := -1 * dyW wy) hy.1 (by omega) (by omega) (by omega)
    omega
  have gI := fun rl => gone_ev rl w h cs x y wy (-1) hw hh hx hy hwy (.inr rfl)
  have gS := taGo_ev st ti rs w h cs x y wy sa (-1) hw hh hx hy hwy (.inr rfl)
  generalize go1 x w (-1 * dxW wy) = x1 at *
  generalize go1 y h (-1 * dyW wy) = y1 at *
  obtain ⟨b1, b2, b3, b4⟩ := at_range hx1 hy1 hw hh
  have hm := mul_range (a := w) (b := h) (by omega) (by omega) (by omega) (by omega)
  obtain ⟨c, hcc⟩ := byte_at (cs := cs) (i := (y1 * w + x1).toNat) (by omega)
  obtain ⟨c48, cti⟩ := hcs c (List.mem_of_getElem? hcc)
  have hclt := c.toNat_lt
  have eA : w64 (w64 (y1 * w) + x1) = y1 * w + x1 := by rw [w64_of (n := y1 * w) (by omega) (by omega), w64_of (by omega) (by omega)]
  have eC : w64 (w8 (bt cs (y1 * w + x1).toNat - 48)) = (c.toNat : Int) - 48 := by rw [bt_at hcc, w8_of (by omega) (by omega), w64_of (by omega) (by omega)]
  obtain ⟨r0, hr0, hh0⟩ := all_pairs hT hA (p := (c.toNat : Int) - 48) (n := sa) (by omega) hsa
  rcases before_ev st ti rs hl ((c.toNat : Int) - 48) sa with ⟨hno, _⟩ | ⟨j, r, hr, hhr, hfirst, hB⟩
  · exact absurd hh0 (hno r0 hr0)
  have hj := (List.getElem?_eq_some_iff.1 hr).1
  have hrok := hrow r (List.mem_of_getElem? hr)
  obtain ⟨p, t, n⟩ := r
  obtain ⟨hp, ⟨b, hb, _⟩, hn⟩ := hrok
  simp only at hp hb hn
  have hts : t.size = 1 := size_one.2 ⟨b, hb⟩
  have hbt : bt t 0 = (b.toNat : Int) := bt_at (by rw [hb]; rfl)
  have hinT : inB 0 t.size = true := by rw [hts]; rfl
  obtain ⟨q0, q3⟩ := quartersB_range (b.toNat : Int)
  obtain ⟨w1, w2⟩ := back_way hwy ⟨q0, q3⟩
  have hm2 := mul_range (a := st) (b := ti) (by omega) (by omega) (by omega) (by omega)
  have hjt : 0 ≤ (j : Int).tmod ti ∧ (j : Int).tmod ti ≤ 9 := by
    have e1 := Int.tmod_lt_of_pos (j : Int) (show (0 : Int) < ti by omega)
    have e2 := Int.tmod_nonneg ti (show (0 : Int) ≤ (j : Int) by omega)
    omega
  generalize (wy + 4 - quartersB (b.toNat : Int)).tmod 4 = wz at w1 w2
  generalize hpp : (j : Int).tmod ti = pp at hjt
  have hne : (ti != 0) = true := by rw [bne_iff_ne]; omega
  refine ⟨st, ti, rs, w, h, setByte cs (y1 * w + x1).toNat (UInt8.ofNat (48 + pp).toNat), x1, y1, wz, w64 ((j : Int).tdiv ti), true, ?_, ?_, hl⟩
  · refine Ev.step (fun k => spec_UndoScene.eq k st ti rs w h cs x y wy sa) (Ev.bind (a2.isT H) (Ev.no rfl (Ev.bind ((taUndo_ev st ti rs hl).isT hA) (Ev.no rfl (Ev.bind (taOwn_ev st ti rs w h cs x y wy sa hl) (Ev.bind gS ?_))))))
    simp only [eA, eC]
    refine Ev.yes (inB_of b3 (by omega)) ?_
    have step : ∀ (i : Nat) (z : Rw), rs[i]? = some z → ∀ R, Ev (fun k => cond (z.1 == (c.toNat : Int) - 48) (cond (z.2.2 == sa) (cond (inB 0 z.2.1.size) ((spec_woTurn k (bt z.2.1 0)).bind fun r1 => (spec_l1Mod k (w64 (wy - r1), 4)).bind fun r2 => cond (ti != 0) ((spec_taPaint k ((st, ti, rs, w, h, cs, x1, y1, r2, sa), (i : Int).tmod ti)).bind fun r3 =>
        cond (r3.2.2.1 != 0) (some (.inl ((r3.2.1, r3.2.2.1, r3.2.2.2.1, r3.2.2.2.2.1, r3.2.2.2.2.2.1, r3.2.2.2.2.2.2.1, r3.2.2.2.2.2.2.2.1, r3.2.2.2.2.2.2.2.2.1, r3.2.2.2.2.2.2.2.2.2.1, w64 ((i : Int).tdiv r3.2.2.1)), true))) none) none) none)
        (spec_UndoScene_l k ((st, ti, rs, w, h, cs, x, y, wy, sa), zeroS, (st, ti, rs, w, h, cs, x1, y1, wy, sa), (c.toNat : Int) - 48, (), (rs.length : Int), w64 ((i : Int) + 1))))
        (spec_UndoScene_l k ((st, ti, rs, w, h, cs, x, y, wy, sa), zeroS, (st, ti, rs, w, h, cs, x1, y1, wy, sa), (c.toNat : Int) - 48, (), (rs.length : Int), w64 ((i : Int) + 1)))) R →
        Ev (fun k => spec_UndoScene_l k ((st, ti, rs, w, h, cs, x, y, wy, sa), zeroS, (st, ti, rs, w, h, cs, x1, y1, wy, sa), (c.toNat : Int) - 48, (), (rs.length : Int), (i : Int))) R := fun i z hz R HR => by
      have hi := (List.getElem?_eq_some_iff.1 hz).1
      exact Ev.step (fun k => spec_UndoScene_l.eq k st ti rs w h cs x y wy sa 0 0 [] 0 0 ByteArray.empty 0 0 0 0 st ti rs w h cs x1 y1 wy sa ((c.toNat : Int) - 48) (rs.length : Int) (i : Int)) (Ev.yes (lt_nat hi) (Ev.yes (inB_nat hi) (by rw [Int.toNat_natCast, getD_at hz]; exact HR)))
    have run : ∀ m i : Nat, i + m = j → Ev (fun k => spec_UndoScene_l k ((st, ti, rs, w, h, cs, x, y, wy, sa), zeroS, (st, ti, rs, w, h, cs, x1, y1, wy, sa), (c.toNat : Int) - 48, (), (rs.length : Int), (i : Int))) (.inl ((st, ti, rs, w, h, setByte cs (y1 * w + x1).toNat (UInt8.ofNat (48 + pp).toNat), x1, y1, wz, w64 ((j : Int).tdiv ti)), true)) := by
      intro m
      induction m with
      | zero =>
        intro i hi
        obtain rfl : i = j := by omega
        refine step i (p, t, n) hr _ (Ev.yes (beq_iff_eq.2 hhr.1) (Ev.yes (beq_iff_eq.2 hhr.2) (Ev.yes hinT ?_)))
        simp only [hbt]
        refine Ev.bind (woTurn_ev _) (Ev.bind (a := wz) (Ev.step (fun k => spec_l1Mod.eq k _ 4) (Ev.yes rfl (Ev.yes rfl (Ev.now' w2)))) (Ev.yes hne ?_))
        obtain ⟨o, hoo⟩ := taPaint_ev st ti rs w h cs x1 y1 wz sa pp hw hh hx1 hy1 hs hjt
        rw [hpp]
        exact Ev.bind hoo (Ev.yes hne (Ev.now _))
      | succ m ih =>
        intro i hi
        obtain ⟨z, hz⟩ := nat_list (l := rs) (i := i) (by omega)
        have hnz := hfirst i z (by omega) hz
        have H' : Ev (fun k => spec_UndoScene_l k ((st, ti, rs, w, h, cs, x, y, wy, sa), zeroS, (st, ti, rs, w, h, cs, x1, y1, wy, sa), (c.toNat : Int) - 48, (), (rs.length : Int), w64 ((i : Int) + 1))) (.inl ((st, ti, rs, w, h, setByte cs (y1 * w + x1).toNat (UInt8.ofNat (48 + pp).toNat), x1, y1, wz, w64 ((j : Int).tdiv ti)), true)) := by
          rw [w64_succ (by omega)]
          exact ih (i + 1) (by omega)
        exact step i z hz _ (Ev.cond (fun a => Ev.cond (fun b => absurd ⟨beq_iff_eq.1 a, beq_iff_eq.1 b⟩ hnz) fun _ => H') fun _ => H')
    exact Ev.bind (run j 0 (by omega)) (Ev.now _)
  · refine Ev.step (fun k => impl_UndoScene.eq k st ti rs w h cs x y wy sa) (Ev.bind (a1.isT H) (Ev.no rfl (Ev.bind ((canUndo_ev st ti rs hl).isT hA) (Ev.no rfl (Ev.bind (Ev.step (fun k => impl_Scene_world.eq k st ti rs w h cs x y wy sa) (Ev.now _)) (Ev.bind (gI _) (Ev.bind (colour_ev _ w h cs x1 y1 wy hw hh hx1 hy1 hs hcc c48) (Ev.bind hB ?_))))))))
    refine Ev.yes (inB_nat hj) ?_
    simp only [Int.toNat_natCast, getD_at hr]
    refine Ev.yes hinT ?_
    simp only [hbt]
    refine Ev.bind (quarters_ev _) ?_
    simp only [w1, hpp]
    exact Ev.bind (Ev.step (fun k => impl_World_at.eq k _ w h cs x1 y1 wz) (Ev.now' eA)) (Ev.yes hne (Ev.bind (painted_ev cs _ pp ⟨b3, by omega⟩ hjt) (Ev.yes hne (Ev.bind (Ev.step (fun k => impl_Scene_with.eq k st ti rs w h cs x y wy _ _ _ _ _ _ _ _) (Ev.now _)) (Ev.bind (own_ev st ti rs w h _ x1 y1 wz _ hl) (Ev.now _))))))
end
end Go.Proofs.YtdgfpdbfcpbgfaaS
