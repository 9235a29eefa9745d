/- Routes: the parts of the law RotorsShare. -/
import Derived.Test.YtiaagflfiphioaaDoorMgRo
namespace Go.Proofs.YtiaagflfiphioaaDoorS
open Go
set_option linter.unusedVariables false
set_option linter.unusedSimpArgs false
theorem pairs_ev (more : List Int) (o : OutR) (r : List Int) (a s : Int) (o2 : OutR) (A : List Int) (b : Int) (V came : List Int) (i : Int) (list : List Int) (left x : Int) (L : OutR) (nL ti q qq : Int) (hl : list.length ≤ 100) (hx : 0 ≤ x ∧ x ≤ 100000) (he : ∀ y ∈ list, (0 ≤ y ∧ y ≤ 100000) ∧ x - y ≤ 1) :
    ∀ (m j : Nat), j + m = list.length → Ev (fun k => laws_FnRotorsShare_c_c_c_c_l_l_l k (more, (o, r), a, s, (o2, A), b, V, came, i, list, left, x, L, nL, ti, (), q, qq, (), (list.length : Int), (j : Int))) (.inr (more, (o, r), a, s, (o2, A), b, V, came, i, list, left, L, nL, ti, (), q, qq))
  | 0, j, h => Ev.step (fun k => laws_FnRotorsShare_c_c_c_c_l_l_l.eq k more o r a s o2 A b V came i list left x L nL ti q qq (list.length : Int) (j : Int)) (Ev.no (not_lt_nat (by omega)) (Ev.now _))
  | m + 1, j, h => by
    obtain ⟨y, hy⟩ := nat_list (l := list) (i := j) (by omega)
    obtain ⟨h1, h2⟩ := he y (List.mem_of_getElem? hy)
    refine Ev.step (fun k => laws_FnRotorsShare_c_c_c_c_l_l_l.eq k more o r a s o2 A b V came i list left x L nL ti q qq (list.length : Int) (j : Int)) (Ev.yes (lt_nat (by omega)) (Ev.yes (inB_nat (by omega)) ?_))
    rw [Int.toNat_natCast, getD_at hy, w64_of (n := x - y) (by omega) (by omega), w64_succ (by omega)]
    exact Ev.no (decide_eq_false (by omega)) (pairs_ev more o r a s o2 A b V came i list left x L nL ti q qq hl hx he m (j + 1) (by omega))
def cameL2 (o : OutR) (t : StR) (n i k : Nat) : List Int := (List.range o.length).map fun v => sumI i (fun i' => sumI (rowN o i').length (intoR o t n v i')) + sumI k (intoR o t n v i)
theorem came_next (o : OutR) (t : StR) (n i : Nat) : cameL2 o t n i (rowN o i).length = cameL2 o t n (i + 1) 0 := by
  unfold cameL2
  apply List.map_congr_left
  intro v _
  show sumI i (fun i' => sumI (rowN o i').length (intoR o t n v i')) + sumI (rowN o i).length (intoR o t n v i) = (sumI i (fun i' => sumI (rowN o i').length (intoR o t n v i')) + sumI (rowN o i).length (intoR o t n v i)) + 0
  omega
section
variable (o : OutR) (t : StR) (H : OkR o t) (n : Nat) (hn : n ≤ 3000)
include H hn
omit H in
theorem into_range (v i k : Nat) : 0 ≤ intoR o t n v i k ∧ intoR o t n v i k ≤ 3000 := by
  have := usedR_le o t n i k
  unfold intoR
  split <;> omega
theorem came_range (v i k : Nat) (hi : i < o.length) (hk : k ≤ (rowN o i).length) : 0 ≤ sumI i (fun i' => sumI (rowN o i').length (intoR o t n v i')) + sumI k (intoR o t n v i) ∧ sumI i (fun i' => sumI (rowN o i').length (intoR o t n v i')) + sumI k (intoR o t n v i) ≤ 1000000 := by
  have h1 := sumI_bounds (f := fun i' => sumI (rowN o i').length (intoR o t n v i')) (b := 12000) i fun i' hi' => by
    obtain ⟨g1, g2⟩ := sumI_bounds (f := intoR o t n v i') (b := 3000) (rowN o i').length fun k _ => into_range o t n hn v i' k
    have := (row_len H (i := i') (by omega)).1
    refine ⟨g1, by omega⟩
  have h2 := sumI_bounds (f := intoR o t n v i) (b := 3000) k fun k _ => into_range o t n hn v i k
  have h3 := (row_len H hi).1
  have h4 := H.1.1.2
  omega
def usedRow (o : OutR) (t : StR) (n i : Nat) : List Int := (List.range (rowN o i).length).map fun k => (usedR o t n i k : Int)
theorem inner_ev (more : List Int) (s : Int) (A : List Int) (b : Int) (V : List Int) (L : OutR) (nL ti : Int) (i : Nat) (hi : i < o.length) : ∀ (m k : Nat), k + m = (rowN o i).length →
    Ev (fun q => laws_FnRotorsShare_c_c_c_c_l_l q (more, (o, t.1), t.2, s, (o, A), b, V, cameL2 o t n i k, (i : Int), usedRow o t n i, sumI k (fun k => (usedR o t n i k : Int)), L, nL, ti, (), ((rowN o i).length : Int), (k : Int)))
      (.inr (more, (o, t.1), t.2, s, (o, A), b, V, cameL2 o t n (i + 1) 0, (i : Int), usedRow o t n i, (leftR o t n i : Int), L, nL, ti))
  | 0, k, h => by
    obtain rfl : k = (rowN o i).length := by omega
    rw [came_next, used_sum H n hi]
    exact Ev.step (fun q => laws_FnRotorsShare_c_c_c_c_l_l.eq q more o t.1 t.2 s o A b V _ (i : Int) _ _ L nL ti _ _) (Ev.no (not_lt_nat (Nat.lt_irrefl _)) (Ev.now _))
  | m + 1, k, h => by
    obtain ⟨g1, g2, g3, g4, g5⟩ := row_len H hi
    have ih := inner_ev more s A b V L nL ti i hi m (k + 1) (by omega)
    obtain ⟨y, hy⟩ := nat_list (l := rowN o i) (i := k) (by omega)
    have hyr := g5 y (List.mem_of_getElem? hy)
    obtain ⟨v, rfl⟩ := Int.eq_ofNat_of_zero_le hyr.1
    have hvl : v < o.length := by have := hyr.2; omega
    have hx : (usedRow o t n i)[k]? = some (usedR o t n i k : Int) := range_get _ (by omega)
    have hul := usedR_le o t n i k
    have hc : (cameL2 o t n i k)[v]? = some (sumI i (fun i' => sumI (rowN o i').length (intoR o t n v i')) + sumI k (intoR o t n v i)) := range_get _ hvl
    have hcr := came_range o t H n hn v i k hi (by omega)
    have hlenU : (usedRow o t n i).length = (rowN o i).length := by simp [usedRow]
    have hlenC : (cameL2 o t n i k).length = o.length := by simp [cameL2]
    have hset : (cameL2 o t n i k).set v (sumI i (fun i' => sumI (rowN o i').length (intoR o t n v i')) + sumI k (intoR o t n v i) + (usedR o t n i k : Int)) = cameL2 o t n i (k + 1) := by
      unfold cameL2
      rw [set_range]
      apply List.map_congr_left
      intro w _
      show _ = sumI i _ + (sumI k (intoR o t n w i) + intoR o t n w i k)
      have hg : (rowN o i).getD k 0 = ((v : Nat) : Int) := getD_any hy
      by_cases hw : w = v
      · subst hw
        have e : intoR o t n w i k = (usedR o t n i k : Int) := by unfold intoR; rw [if_pos hg]
        rw [if_pos rfl, e]
        omega
      · have e : intoR o t n w i k = 0 := by unfold intoR; rw [if_neg (by rw [hg]; omega)]
        rw [if_neg hw, e]
        omega
    have hsl : sumI k (fun k => (usedR o t n i k : Int)) + (usedR o t n i k : Int) = sumI (k + 1) (fun k => (usedR o t n i k : Int)) := rfl
    have hsb := sumI_bounds (f := fun k => (usedR o t n i k : Int)) (b := 3000) k fun q _ => by have := usedR_le o t n i q; show 0 ≤ (usedR o t n i q : Int) ∧ (usedR o t n i q : Int) ≤ 3000; omega
    have hp := pairs_ev more o t.1 t.2 s o A b V (cameL2 o t n i (k + 1)) (i : Int) (usedRow o t n i) (sumI (k + 1) (fun k => (usedR o t n i k : Int))) (usedR o t n i k : Int) L nL ti ((rowN o i).length : Int) (k : Int) (by omega) (by omega) (fun z hz => by
      obtain ⟨q, hq, rfl⟩ := List.mem_map.1 hz
      have hq := List.mem_range.1 hq
      have h1 := usedR_le o t n i q
      have h2 := cnt_even (m := leftR o t n i) g1 g3 (show k < (rowN o i).length by omega) hq
      rw [← used_cnt H n k hi, ← used_cnt H n q hi] at h2
      refine ⟨by omega, by omega⟩) (usedRow o t n i).length 0 (by omega)
    refine Ev.step (fun q => laws_FnRotorsShare_c_c_c_c_l_l.eq q more o t.1 t.2 s o A b V (cameL2 o t n i k) (i : Int) (usedRow o t n i) _ L nL ti ((rowN o i).length : Int) (k : Int)) (Ev.yes (lt_nat (by omega)) (Ev.yes (inB_nat (by omega)) (Ev.yes (inB_nat hi) ?_)))
    have hgo : List.getD o (i : Int).toNat [] = rowN o i := rfl
    rw [hgo, Int.toNat_natCast, getD_at hy, getD_at hx, Int.toNat_natCast, getD_at hc, w64_of (n := sumI i (fun i' => sumI (rowN o i').length (intoR o t n v i')) + sumI k (intoR o t n v i) + (usedR o t n i k : Int)) (by omega) (by omega), hset, w64_of (n := sumI k (fun k => (usedR o t n i k : Int)) + (usedR o t n i k : Int)) (by omega) (by omega), hsl]
    refine Ev.yes (inB_nat (by omega)) (Ev.yes (inB_nat (by omega)) (Ev.yes (inB_nat (by omega)) (Ev.bind hp ?_)))
    have ih' : Ev (fun q => laws_FnRotorsShare_c_c_c_c_l_l q (more, (o, t.1), t.2, s, (o, A), b, V, cameL2 o t n i (k + 1), (i : Int), usedRow o t n i, sumI (k + 1) (fun k => (usedR o t n i k : Int)), L, nL, ti, (), ((rowN o i).length : Int), w64 ((k : Int) + 1))) (.inr (more, (o, t.1), t.2, s, (o, A), b, V, cameL2 o t n (i + 1) 0, (i : Int), usedRow o t n i, (leftR o t n i : Int), L, nL, ti)) := by rw [w64_succ (by omega)]; exact ih
    exact ih'
theorem outer_ev (more : List Int) (s : Int) : ∀ (m i : Nat), i + m = o.length →
    Ev (fun q => laws_FnRotorsShare_c_c_c_c_l q (more, (o, t.1), t.2, s, (o, (walkR o t n).1), (walkR o t n).2, visL o t n, cameL2 o t n i 0, lnsL o t n, (o.length : Int), (i : Int)))
      (.inr (more, (o, t.1), t.2, s, (o, (walkR o t n).1), (walkR o t n).2, visL o t n, visL o t n))
  | 0, i, h => by
    obtain rfl : i = o.length := by omega
    have e : cameL2 o t n o.length 0 = visL o t n := by
      unfold cameL2 visL
      apply List.map_congr_left
      intro v _
      have := came_vis H v n
      unfold cameR at this
      rw [this]
      show _ + 0 = _
      omega
    rw [e]
    exact Ev.step (fun q => laws_FnRotorsShare_c_c_c_c_l.eq q more o t.1 t.2 s o (walkR o t n).1 (walkR o t n).2 (visL o t n) (visL o t n) (lnsL o t n) (o.length : Int) (o.length : Int)) (Ev.no (not_lt_nat (Nat.lt_irrefl _)) (Ev.now _))
  | m + 1, i, h => by
    have hi : i < o.length := by omega
    have ih := outer_ev more s m (i + 1) (by omega)
    obtain ⟨g1, g2, g3, g4, g5⟩ := row_len H hi
    obtain ⟨_, _, _, k4, _⟩ := row_len (walk_ok H n) hi
    have hrl := rot_left H n hi
    have hlv := left_vis (o := o) (t := t) n i
    have hL : (lnsL o t n)[i]? = some (usedRow o t n i) := range_get _ hi
    have hlenL : (lnsL o t n).length = o.length := by simp [lnsL]
    have hlenU : (usedRow o t n i).length = (rowN o i).length := by simp [usedRow]
    have hlenV : (visL o t n).length = o.length := by simp [visL]
    have hV : (visL o t n)[i]? = some (visR o t n i : Int) := range_get _ hi
    have hvle := visR_le o t n i
    have hlle : leftR o t n i ≤ 3001 := by revert hlv; split <;> split <;> intro hlv <;> omega
    have hin := inner_ev o t H n hn more s (walkR o t n).1 (walkR o t n).2 (visL o t n) (lnsL o t n) (o.length : Int) (i : Int) i hi (rowN o i).length 0 (by omega)
    have hA : (walkR o t n).1.length = o.length := (walk_ok H n).1.2.1
    have hR : t.1.length = o.length := H.1.2.1
    have ho10 : (o.length : Int) ≤ 10 := H.1.1.2
    refine Ev.step (fun q => laws_FnRotorsShare_c_c_c_c_l.eq q more o t.1 t.2 s o (walkR o t n).1 (walkR o t n).2 (visL o t n) (cameL2 o t n i 0) (lnsL o t n) (o.length : Int) (i : Int)) (Ev.yes (lt_nat hi) (Ev.yes (inB_nat (by omega)) (Ev.yes (inB_nat hi) ?_)))
    have hgo : List.getD o (i : Int).toNat [] = rowN o i := rfl
    rw [hgo, Int.toNat_natCast, getD_any hL, hlenU]
    refine Ev.no (neq_self _) (Ev.bind hin ?_)
    -- the rest of a round
    have fin : Ev (fun q => (laws_FnRotorsShare_c_c_c_c_l_c q (more, (o, t.1), t.2, s, (o, (walkR o t n).1), (walkR o t n).2, visL o t n, cameL2 o t n (i + 1) 0, lnsL o t n, (o.length : Int), (i : Int), false)).bind fun r7 => r7.elim (fun r8 => some (.inl r8)) (fun r9 => laws_FnRotorsShare_c_c_c_c_l q (r9.1, r9.2.1, r9.2.2.1, r9.2.2.2.1, r9.2.2.2.2.1, r9.2.2.2.2.2.1, r9.2.2.2.2.2.2.1, r9.2.2.2.2.2.2.2.1, r9.2.2.2.2.2.2.2.2.1, r9.2.2.2.2.2.2.2.2.2.1, (w64 (r9.2.2.2.2.2.2.2.2.2.2 + 1)))))
        (.inr (more, (o, t.1), t.2, s, (o, (walkR o t n).1), (walkR o t n).2, visL o t n, visL o t n)) := by
      refine Ev.bind (Ev.step (fun q => laws_FnRotorsShare_c_c_c_c_l_c.eq q more o t.1 t.2 s o (walkR o t n).1 (walkR o t n).2 (visL o t n) (cameL2 o t n (i + 1) 0) (lnsL o t n) (o.length : Int) (i : Int) false) (Ev.no rfl (Ev.now _))) ?_
      have ih' : Ev (fun q => laws_FnRotorsShare_c_c_c_c_l q (more, (o, t.1), t.2, s, (o, (walkR o t n).1), (walkR o t n).2, visL o t n, cameL2 o t n (i + 1) 0, lnsL o t n, (o.length : Int), w64 ((i : Int) + 1))) (.inr (more, (o, t.1), t.2, s, (o, (walkR o t n).1), (walkR o t n).2, visL o t n, visL o t n)) := by rw [w64_succ (by omega)]; exact ih
      exact ih'
    have hB1 : inB (i : Int) (visL o t n).length = true := inB_nat (by omega)
    have hB2 : inB (i : Int) (walkR o t n).1.length = true := inB_nat (by omega)
    have hB3 : inB (i : Int) t.1.length = true := inB_nat (by omega)
    have hB4 : (((usedRow o t n i).length : Int) != 0) = true := by rw [bne_iff_ne]; omega
    have hrot : (((walkR o t n).1.getD (i : Int).toNat default) != ((w64 ((t.1.getD (i : Int).toNat default) + (leftR o t n i : Int))).tmod ((usedRow o t n i).length : Int))) = false := by
      rw [Int.toNat_natCast, getD_at k4, getD_at g4, hlenU, w64_of (n := (rotN t.1 i : Int) + (leftR o t n i : Int)) (by omega) (by omega), Int.tmod_eq_emod_of_nonneg (by omega), hrl]
      simp
    have hvv : (visL o t n).getD (i : Int).toNat default = (visR o t n i : Int) := by rw [Int.toNat_natCast, getD_at hV]
    have key : ∀ (p e : Int), (leftR o t n i : Int) = (visR o t n i : Int) + p - e → 0 ≤ p → p ≤ 1 → 0 ≤ e → e ≤ 1 → ((leftR o t n i : Int) != (w64 ((w64 (((visL o t n).getD (i : Int).toNat default) + p)) - e))) = false := fun p e h1 h2 h3 h4 h5 => by
      rw [hvv, w64_of (n := (visR o t n i : Int) + p) (by omega) (by omega), w64_of (by omega) (by omega), ← h1]
      exact neq_self _
    have rest : Ev (fun q => cond (inB (i : Int) (walkR o t n).1.length) (cond (inB (i : Int) t.1.length) (cond (((usedRow o t n i).length : Int) != 0)
        ((laws_FnRotorsShare_c_c_c_c_l_c q (more, (o, t.1), t.2, s, (o, (walkR o t n).1), (walkR o t n).2, visL o t n, cameL2 o t n (i + 1) 0, lnsL o t n, (o.length : Int), (i : Int), (((walkR o t n).1.getD (i : Int).toNat default) != ((w64 ((t.1.getD (i : Int).toNat default) + (leftR o t n i : Int))).tmod ((usedRow o t n i).length : Int))))).bind fun r7 => r7.elim (fun r8 => some (.inl r8)) (fun r9 => laws_FnRotorsShare_c_c_c_c_l q (r9.1, r9.2.1, r9.2.2.1, r9.2.2.2.1, r9.2.2.2.2.1, r9.2.2.2.2.2.1, r9.2.2.2.2.2.2.1, r9.2.2.2.2.2.2.2.1, r9.2.2.2.2.2.2.2.2.1, r9.2.2.2.2.2.2.2.2.2.1, (w64 (r9.2.2.2.2.2.2.2.2.2.2 + 1))))) none) none) none)
        (.inr (more, (o, t.1), t.2, s, (o, (walkR o t n).1), (walkR o t n).2, visL o t n, visL o t n)) := by
      rw [hrot]
      exact Ev.yes hB2 (Ev.yes hB3 (Ev.yes hB4 fin))
    cases c1 : ((i : Int) == t.2) with
    | true =>
      have d1 : t.2 = (i : Int) := (beq_iff_eq.1 c1).symm
      rw [if_pos d1] at hlv
      cases c2 : ((i : Int) == (walkR o t n).2) with
      | true =>
        have d2 : (walkR o t n).2 = (i : Int) := (beq_iff_eq.1 c2).symm
        rw [if_pos d2] at hlv
        exact Ev.yes c1 (Ev.yes c2 (Ev.yes hB1 (Ev.no (key 1 1 (by omega) (by omega) (by omega) (by omega) (by omega)) rest)))
      | false =>
        have d2 : ¬ (walkR o t n).2 = (i : Int) := fun e => beq_eq_false_iff_ne.1 c2 e.symm
        rw [if_neg d2] at hlv
        exact Ev.yes c1 (Ev.no c2 (Ev.yes hB1 (Ev.no (key 1 0 (by omega) (by omega) (by omega) (by omega) (by omega)) rest)))
    | false =>
      have d1 : ¬ t.2 = (i : Int) := fun e => beq_eq_false_iff_ne.1 c1 e.symm
      rw [if_neg d1] at hlv
      cases c2 : ((i : Int) == (walkR o t n).2) with
      | true =>
        have d2 : (walkR o t n).2 = (i : Int) := (beq_iff_eq.1 c2).symm
        rw [if_pos d2] at hlv
        exact Ev.no c1 (Ev.yes c2 (Ev.yes hB1 (Ev.no (key 0 1 (by omega) (by omega) (by omega) (by omega) (by omega)) rest)))
      | false =>
        have d2 : ¬ (walkR o t n).2 = (i : Int) := fun e => beq_eq_false_iff_ne.1 c2 e.symm
        rw [if_neg d2] at hlv
        exact Ev.no c1 (Ev.no c2 (Ev.yes hB1 (Ev.no (key 0 0 (by omega) (by omega) (by omega) (by omega) (by omega)) rest)))
end
end Go.Proofs.YtiaagflfiphioaaDoorS
