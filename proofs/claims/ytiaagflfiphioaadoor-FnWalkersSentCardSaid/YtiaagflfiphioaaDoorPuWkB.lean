/- Walkers: sending, nodes that one can walk to, steps to them, rotors set back and turned; draws. -/
import Derived.Test.YtiaagflfiphioaaDoorPuWkA
namespace Go.Proofs.YtiaagflfiphioaaDoorS
open Go
set_option linter.unusedVariables false
set_option linter.unusedSimpArgs false
theorem dist_take (l : List Int) : DistR l ↔ ∀ (i : Nat) (x : Int), l[i]? = some x → x ∉ l.take i := by
  constructor
  · intro h i x hx hm
    obtain ⟨j, hj⟩ := List.mem_iff_getElem?.1 hm
    rw [List.getElem?_take] at hj
    split at hj
    · have := h i j x hx hj; omega
    · cases hj
  · intro h i j x hi hj
    have mem : ∀ {i j : Nat}, i < j → l[i]? = some x → x ∈ l.take j := fun {i j} q hi => List.mem_iff_getElem?.2 ⟨i, by rw [List.getElem?_take, if_pos q]; exact hi⟩
    rcases Nat.lt_trichotomy i j with q | q | q
    · exact absurd (mem q hi) (h j x hj)
    · exact q
    · exact absurd (mem q hj) (h i x hi)
theorem areDiff_ev (l : List Int) (hl : l.length ≤ 1048576) : EvB (fun k => impl_areDifferent k l) (DistR l) := by
  have htl : ∀ i, (l.take i).length ≤ 1048576 := fun i => by rw [List.length_take]; omega
  have srch := Ev.search (L := fun k i => impl_areDifferent_l k (l, (), (l.length : Int), i)) (n := l.length) (fun i => ∃ x, l[i]? = some x ∧ x ∈ l.take i) (fun _ => .inl false) (.inr ())
    (fun i hi hp res H => by
      obtain ⟨x, hx⟩ := nat_list hi
      have hn : x ∉ l.take i := fun h => hp ⟨x, hx, h⟩
      refine Ev.step (fun k => impl_areDifferent_l.eq k l (l.length : Int) (i : Int)) (Ev.yes (lt_nat hi) (Ev.yes (inB_nat hi) (Ev.yes (le_two (by omega) (by omega)) ?_)))
      rw [Int.toNat_natCast, getD_at hx, w64_succ (by omega)]
      exact Ev.bind ((containsI_ev (l.take i) (htl i) x).isF hn) (Ev.no rfl H))
    (fun i hi hp => by
      obtain ⟨x, hx, h⟩ := hp
      refine Ev.step (fun k => impl_areDifferent_l.eq k l (l.length : Int) (i : Int)) (Ev.yes (lt_nat hi) (Ev.yes (inB_nat hi) (Ev.yes (le_two (by omega) (by omega)) ?_)))
      rw [Int.toNat_natCast, getD_at hx]
      exact Ev.bind ((containsI_ev (l.take i) (htl i) x).isT h) (Ev.yes rfl (Ev.now _)))
    (Ev.step (fun k => impl_areDifferent_l.eq k l (l.length : Int) (l.length : Int)) (Ev.no (not_lt_nat (Nat.lt_irrefl _)) (Ev.now _))) l.length 0 (by omega)
  rcases srch with ⟨g1, g2⟩ | ⟨j, _, hj, ⟨x, hx, h⟩, _, g4⟩
  · exact ⟨true, Ev.step (fun k => impl_areDifferent.eq k l) (Ev.bind g2 (Ev.now _)), ⟨fun _ => (dist_take l).2 fun i x hx h => g1 i (Nat.zero_le _) (List.getElem?_eq_some_iff.1 hx).1 ⟨x, hx, h⟩, fun _ => rfl⟩⟩
  · exact ⟨false, Ev.step (fun k => impl_areDifferent.eq k l) (Ev.bind g4 (Ev.now _)), ⟨nofun, fun hd => absurd h ((dist_take l).1 hd j x hx)⟩⟩
theorem diffS_ev (o : OutR) (r : List Int) (a count : Int) (l : List Int) (hl : l.length ≤ 1048576) : (DistR l ∧ Ev (fun k => spec_SendWalkers_l k (a, l, count, (o, r), (), (l.length : Int), 0)) (.inr (a, l, count, (o, r)))) ∨
    (¬ DistR l ∧ Ev (fun k => spec_SendWalkers_l k (a, l, count, (o, r), (), (l.length : Int), 0)) (.inl ([], false))) := by
  have htl : ∀ i, (l.take i).length ≤ 1048576 := fun i => by rw [List.length_take]; omega
  have srch := Ev.search (L := fun k i => spec_SendWalkers_l k (a, l, count, (o, r), (), (l.length : Int), i)) (n := l.length) (fun i => ∃ x, l[i]? = some x ∧ x ∈ l.take i) (fun _ => .inl ([], false)) (.inr (a, l, count, (o, r)))
    (fun i hi hp res H => by
      obtain ⟨x, hx⟩ := nat_list hi
      have hn : x ∉ l.take i := fun h => hp ⟨x, hx, h⟩
      refine Ev.step (fun k => spec_SendWalkers_l.eq k a l count o r (l.length : Int) (i : Int)) (Ev.yes (lt_nat hi) (Ev.yes (inB_nat hi) (Ev.yes (le_two (by omega) (by omega)) ?_)))
      rw [Int.toNat_natCast, getD_at hx, w64_succ (by omega)]
      exact Ev.bind ((l1Has_ev (l.take i) (htl i) x).isF hn) (Ev.no rfl H))
    (fun i hi hp => by
      obtain ⟨x, hx, h⟩ := hp
      refine Ev.step (fun k => spec_SendWalkers_l.eq k a l count o r (l.length : Int) (i : Int)) (Ev.yes (lt_nat hi) (Ev.yes (inB_nat hi) (Ev.yes (le_two (by omega) (by omega)) ?_)))
      rw [Int.toNat_natCast, getD_at hx]
      exact Ev.bind ((l1Has_ev (l.take i) (htl i) x).isT h) (Ev.yes rfl (Ev.now _)))
    (Ev.step (fun k => spec_SendWalkers_l.eq k a l count o r (l.length : Int) (l.length : Int)) (Ev.no (not_lt_nat (Nat.lt_irrefl _)) (Ev.now _))) l.length 0 (by omega)
  rcases srch with ⟨g1, g2⟩ | ⟨j, _, hj, ⟨x, hx, h⟩, _, g4⟩
  · exact .inl ⟨(dist_take l).2 fun i x hx h => g1 i (Nat.zero_le _) (List.getElem?_eq_some_iff.1 hx).1 ⟨x, hx, h⟩, g2⟩
  · exact .inr ⟨fun hd => absurd h ((dist_take l).1 hd j x hx), g4⟩
theorem sum_zeros : ∀ n : Nat, (List.replicate n (0 : Int)).sum = 0
  | 0 => rfl
  | n + 1 => by rw [List.replicate_succ, List.sum_cons, sum_zeros n]; rfl
def SendOk (o : OutR) (r : List Int) (a : Int) (ends : List Int) (count : Int) : Prop := (RouteOk o r ∧ AtR o a) ∧ (∀ x ∈ ends, AtR o x) ∧ (1 ≤ (ends.length : Int) ∧ (ends.length : Int) ≤ 10) ∧ DistR ends ∧ (0 ≤ count ∧ count ≤ 100)
theorem sends_ev (o : OutR) (r : List Int) (hf : FitR o r) (a : Int) (ends : List Int) (hl : ends.length ≤ 1048576) (count : Int) : ∃ out ok, Ev (fun k => impl_SendWalkers k ((o, r), a, ends, count)) (out, ok) ∧ Ev (fun k => spec_SendWalkers k ((o, r), a, ends, count)) (out, ok) ∧ out.length ≤ 1048576 ∧
    (ok = true → SendOk o r a ends count ∧ InvS o a ends out count.toNat) := by
  have i1 := isNode_ev o r hf a
  have i2 := isNodes_ev o r hf ends hl
  have i3 : EvB (fun k => impl_isNodes k (ends.length : Int)) (1 ≤ (ends.length : Int) ∧ (ends.length : Int) ≤ 10) := EvB.step (fun k => impl_isNodes.eq k (ends.length : Int)) (within_ev (ends.length : Int) 1 10).ret
  have i4 := areDiff_ev ends hl
  have i5 := within_ev count 0 100
  have s1 := roNode_ev o r hf a
  have s2 := l1In_ev (ends.length : Int) 1 10
  have s3 := l1All_ev ends hl ((o.length : Int) - 1)
  have s4 := l1In_ev count 0 100
  have s5 := diffS_ev o r a count ends hl
  have ew : w64 ((o.length : Int) - 1) = (o.length : Int) - 1 := by obtain ⟨f1, _⟩ := hf; exact w64_of (by omega) (by omega)
  -- the first fault of each
  have noI : ¬ SendOk o r a ends count → Ev (fun k => impl_SendWalkers k ((o, r), a, ends, count)) ([], false) := fun hn => by
    refine Ev.step (fun k => impl_SendWalkers.eq k o r a ends count) ?_
    by_cases p1 : RouteOk o r ∧ AtR o a
    rotate_left
    · exact Ev.bind (i1.isF p1) (Ev.yes rfl (Ev.now _))
    refine Ev.bind (i1.isT p1) (Ev.no rfl ?_)
    by_cases p2 : RouteOk o r ∧ ∀ x ∈ ends, AtR o x
    rotate_left
    · exact Ev.bind (i2.isF p2) (Ev.yes rfl (Ev.now _))
    refine Ev.bind (i2.isT p2) (Ev.no rfl ?_)
    by_cases p3 : 1 ≤ (ends.length : Int) ∧ (ends.length : Int) ≤ 10
    rotate_left
    · exact Ev.bind (i3.isF p3) (Ev.yes rfl (Ev.now _))
    refine Ev.bind (i3.isT p3) (Ev.no rfl ?_)
    by_cases p4 : DistR ends
    rotate_left
    · exact Ev.bind (i4.isF p4) (Ev.yes rfl (Ev.now _))
    refine Ev.bind (i4.isT p4) (Ev.no rfl ?_)
    by_cases p5 : 0 ≤ count ∧ count ≤ 100
    · exact absurd ⟨p1, p2.2, p3, p4, p5⟩ hn
    · exact Ev.bind (i5.isF p5) (Ev.yes rfl (Ev.now _))
  have noS : ¬ SendOk o r a ends count → Ev (fun k => spec_SendWalkers k ((o, r), a, ends, count)) ([], false) := fun hn => by
    refine Ev.step (fun k => spec_SendWalkers.eq k o r a ends count) ?_
    by_cases p1 : RouteOk o r ∧ AtR o a
    rotate_left
    · exact Ev.bind (s1.isF p1) (Ev.yes rfl (Ev.now _))
    refine Ev.bind (s1.isT p1) (Ev.no rfl ?_)
    by_cases p3 : 1 ≤ (ends.length : Int) ∧ (ends.length : Int) ≤ 10
    rotate_left
    · exact Ev.bind (s2.isF p3) (Ev.yes rfl (Ev.now _))
    refine Ev.bind (s2.isT p3) (Ev.no rfl ?_)
    rw [ew]
    by_cases p2 : ∀ x ∈ ends, InR ((o.length : Int) - 1) x
    rotate_left
    · exact Ev.bind (s3.isF p2) (Ev.yes rfl (Ev.now _))
    refine Ev.bind (s3.isT p2) (Ev.no rfl ?_)
    by_cases p5 : 0 ≤ count ∧ count ≤ 100
    rotate_left
    · exact Ev.bind (s4.isF p5) (Ev.yes rfl (Ev.now _))
    refine Ev.bind (s4.isT p5) (Ev.no rfl ?_)
    rcases s5 with ⟨p4, e⟩ | ⟨p4, e⟩
    · exact absurd ⟨p1, p2, p3, p4, p5⟩ hn
    · exact Ev.bind e (Ev.now _)
  by_cases hs : SendOk o r a ends count
  rotate_left
  · exact ⟨[], false, noI hs, noS hs, by simp, nofun⟩
  obtain ⟨p1, p2, p3, p4, p5⟩ := hs
  obtain ⟨n, rfl⟩ := Int.eq_ofNat_of_zero_le p5.1
  have H : OkR o (r, a) := p1
  have hlen : ends.length ≤ 10 := by omega
  have inv0 : InvS o a ends (List.replicate ends.length 0) 0 := ⟨by simp, sum_zeros _, fun i x hx => by
    rw [List.getElem?_replicate] at hx
    split at hx
    · obtain rfl := Option.some.inj hx
      exact ⟨by omega, fun h => absurd h (by omega)⟩
    · cases hx⟩
  have hz : (((decide ((0 : Int) ≤ (ends.length : Int))) && (decide ((ends.length : Int) ≤ (ends.length : Int)))) && (fits (ends.length : Int).toNat 8)) = true := zn (by omega)
  have e4 : Ev (fun k => spec_SendWalkers_l k (a, ends, (n : Int), (o, r), (), (ends.length : Int), 0)) (.inr (a, ends, (n : Int), (o, r))) := by
    rcases s5 with ⟨_, e⟩ | ⟨q, _⟩
    · exact e
    · exact absurd p4 q
  have goI : ∀ x res, Ev (fun k => impl_SendWalkers_l k (a, ends, (o, r), List.replicate ends.length 0, (n : Int), 0)) x → (x.elim (fun r8 => some r8) (fun r9 => some (r9, true))) = some res → Ev (fun k => impl_SendWalkers k ((o, r), a, ends, (n : Int))) res := fun x res hx hr => by
    refine Ev.step (fun k => impl_SendWalkers.eq k o r a ends (n : Int)) (Ev.bind (i1.isT p1) (Ev.no rfl (Ev.bind (i2.isT ⟨p1.1, p2⟩) (Ev.no rfl (Ev.bind (i3.isT p3) (Ev.no rfl (Ev.bind (i4.isT p4) (Ev.no rfl (Ev.bind (i5.isT p5) (Ev.no rfl (Ev.bind (own_ev o r hf) (Ev.yes hz ?_))))))))))))
    rw [Int.toNat_natCast]
    refine Ev.bind hx ?_
    rw [hr]
    exact Ev.now _
  have goS : ∀ x res, Ev (fun k => spec_SendWalkers_l_2 k (a, ends, (n : Int), (o, r), List.replicate ends.length 0)) x → (x.elim (fun r8 => some r8) (fun r9 => some (r9, true))) = some res → Ev (fun k => spec_SendWalkers k ((o, r), a, ends, (n : Int))) res := fun x res hx hr => by
    refine Ev.step (fun k => spec_SendWalkers.eq k o r a ends (n : Int)) (Ev.bind (s1.isT p1) (Ev.no rfl (Ev.bind (s2.isT p3) (Ev.no rfl ?_))))
    rw [ew]
    refine Ev.bind (s3.isT p2) (Ev.no rfl (Ev.bind (s4.isT p5) (Ev.no rfl (Ev.bind e4 (Ev.bind (roOwn_ev o r hf) (Ev.yes hz ?_))))))
    rw [Int.toNat_natCast]
    refine Ev.bind hx ?_
    rw [hr]
    exact Ev.now _
  have snd := send_ev o a ends hlen p4 n 0 r (List.replicate ends.length 0) H (by omega) inv0
  rw [Nat.zero_add] at snd
  rcases snd with ⟨out, k1, k2, k3⟩ | ⟨k1, k2⟩
  · exact ⟨out, true, goI _ _ k2 rfl, goS _ _ k3 rfl, by rw [k1.1]; exact hl, fun _ => ⟨⟨p1, p2, p3, p4, p5⟩, by rw [Int.toNat_natCast]; exact k1⟩⟩
  · exact ⟨[], false, goI _ _ k1 rfl, goS _ _ k2 rfl, by simp, nofun⟩
/-! ### Where one can walk -/
def BfsL (o : OutR) (l : List Int) : Prop := (l.map Int.toNat).Nodup ∧ ∀ x ∈ l, AtR o x
theorem BfsL.len {o : OutR} {l : List Int} (h : BfsL o l) : l.length ≤ o.length := by
  have := pigeon o.length (l.map Int.toNat) h.1 fun x hx => by
    obtain ⟨y, hy, rfl⟩ := List.mem_map.1 hx
    have := h.2 y hy
    unfold AtR at this
    omega
  simpa using this
theorem BfsL.snoc {o : OutR} {l : List Int} (h : BfsL o l) {y : Int} (hy : AtR o y) (hn : y ∉ l) : BfsL o (l ++ [y]) := by
  refine ⟨?_, fun x hx => ?_⟩
  · rw [List.map_append, List.nodup_append]
    refine ⟨h.1, by simp, fun x hx z hz e => ?_⟩
    obtain ⟨w, hw, rfl⟩ := List.mem_map.1 hx
    simp at hz
    subst hz
    have h1 := (h.2 w hw).1
    have h2 := hy.1
    exact hn (by rw [show y = w by omega]; exact hw)
  · rcases List.mem_append.1 hx with hx | hx
    · exact h.2 x hx
    · simp at hx; subst hx; exact hy
theorem grow_ev (o : OutR) (r : List Int) (goal i : Int) (ho : o.length ≤ 10) (row : List Int) (hr : row.length ≤ 4) (hrow : ∀ y ∈ row, AtR o y) : ∀ (m k : Nat) (l : List Int), k + m = row.length → BfsL o l →
    ∃ z, BfsL o (l ++ z) ∧ (∀ (q : Nat) (y : Int), k ≤ q → row[q]? = some y → y ∈ l ++ z) ∧ Ev (fun n => impl_CanWalk_l_l n (goal, (o, r), l, i, row, (row.length : Int), (k : Int))) (goal, (o, r), l ++ z, i) ∧ Ev (fun n => spec_CanWalk_l_l n (goal, (o, r), l, i, row, (row.length : Int), (k : Int))) (goal, (o, r), l ++ z, i)
  | 0, k, l, h, hb => ⟨[], by rw [List.append_nil]; exact hb, fun q y hq hy => absurd (List.getElem?_eq_some_iff.1 hy).1 (by omega), by
      rw [List.append_nil]
      exact ⟨Ev.step (fun n => impl_CanWalk_l_l.eq n goal o r l i row (row.length : Int) (k : Int)) (Ev.no (not_lt_nat (by omega)) (Ev.now _)), Ev.step (fun n => spec_CanWalk_l_l.eq n goal o r l i row (row.length : Int) (k : Int)) (Ev.no (not_lt_nat (by omega)) (Ev.now _))⟩⟩
  | m + 1, k, l, h, hb => by
    obtain ⟨y, hy⟩ := nat_list (l := row) (i := k) (by omega)
    have hya := hrow y (List.mem_of_getElem? hy)
    have hll := hb.len
    have hl : l.length ≤ 1048576 := by omega
    by_cases hm : y ∈ l
    · obtain ⟨z, z1, z2, z3, z4⟩ := grow_ev o r goal i ho row hr hrow m (k + 1) l (by omega) hb
      refine ⟨z, z1, fun q w hq hw => ?_, ?_, ?_⟩
      · by_cases e : q = k
        · subst e
          rw [hy] at hw
          obtain rfl := Option.some.inj hw
          exact List.mem_append.2 (.inl hm)
        · exact z2 q w (by omega) hw
      · refine Ev.step (fun n => impl_CanWalk_l_l.eq n goal o r l i row (row.length : Int) (k : Int)) (Ev.yes (lt_nat (by omega)) (Ev.yes (inB_nat (by omega)) ?_))
        rw [Int.toNat_natCast, getD_at hy, w64_succ (by omega)]
        exact Ev.bind ((containsI_ev l hl y).isT hm) (Ev.no rfl z3)
      · refine Ev.step (fun n => spec_CanWalk_l_l.eq n goal o r l i row (row.length : Int) (k : Int)) (Ev.yes (lt_nat (by omega)) (Ev.yes (inB_nat (by omega)) ?_))
        rw [Int.toNat_natCast, getD_at hy, w64_succ (by omega)]
        exact Ev.bind ((l1Has_ev l hl y).isT hm) (Ev.no rfl z4)
    · obtain ⟨z, z1, z2, z3, z4⟩ := grow_ev o r goal i ho row hr hrow m (k + 1) (l ++ [y]) (by omega) (hb.snoc hya hm)
      have ea : l ++ [y] ++ z = l ++ ([y] ++ z) := List.append_assoc _ _ _
      rw [ea] at z1 z2 z3 z4
      refine ⟨[y] ++ z, z1, fun q w hq hw => ?_, ?_, ?_⟩
      · by_cases e : q = k
        · subst e
          rw [hy] at hw
          obtain rfl := Option.some.inj hw
          simp
        · exact z2 q w (by omega) hw
      · refine Ev.step (fun n => impl_CanWalk_l_l.eq n goal o r l i row (row.length : Int) (k : Int)) (Ev.yes (lt_nat (by omega)) (Ev.yes (inB_nat (by omega)) ?_))
        rw [Int.toNat_natCast, getD_at hy, w64_succ (by omega)]
        exact Ev.bind ((containsI_ev l hl y).isF hm) (Ev.yes rfl (Ev.yes (fits_of (by omega)) z3))
      · refine Ev.step (fun n => spec_CanWalk_l_l.eq n goal o r l i row (row.length : Int) (k : Int)) (Ev.yes (lt_nat (by omega)) (Ev.yes (inB_nat (by omega)) ?_))
        rw [Int.toNat_natCast, getD_at hy, w64_succ (by omega)]
        exact Ev.bind ((l1Has_ev l hl y).isF hm) (Ev.yes rfl (Ev.yes (fits_of (by omega)) z4))
theorem bfs_ev (o : OutR) (r : List Int) (Hr : RouteOk o r) (goal a : Int) : ∀ (m i : Nat) (l : List Int), i + m = 11 → i ≤ l.length → BfsL o l → a ∈ l → (∀ (q : Nat) (x : Int), q < i → l[q]? = some x → ∀ y ∈ rowN o x.toNat, y ∈ l) →
    ∃ L, BfsL o L ∧ a ∈ L ∧ (∀ x ∈ L, ∀ y ∈ rowN o x.toNat, y ∈ L) ∧ Ev (fun n => impl_CanWalk_l n (goal, (o, r), l, (i : Int))) (goal, L) ∧ Ev (fun n => spec_CanWalk_l n (goal, (o, r), l, (i : Int))) (goal, L)
  | 0, i, l, h, hi, hb, ha, hc => by
    have h1 := hb.len
    have h2 := Hr.1.2
    omega
  | m + 1, i, l, h, hi, hb, ha, hc => by
    have h2 := Hr.1.2
    have h3 := hb.len
    by_cases hil : i < l.length
    · obtain ⟨x, hx⟩ := nat_list (l := l) (i := i) hil
      have hxa := hb.2 x (List.mem_of_getElem? hx)
      obtain ⟨v, rfl⟩ := Int.eq_ofNat_of_zero_le hxa.1
      have hv : v < o.length := by have := hxa.2; omega
      obtain ⟨row, w, e1, _, e2, e3, _⟩ := Hr.2.2 v hv
      have hr : rowN o v = row := getD_any e1
      obtain ⟨z, z1, z2, z3, z4⟩ := grow_ev o r goal (i : Int) (by omega) row (by omega) e3 row.length 0 l (by omega) hb
      obtain ⟨L, L1, L2, L3, L4, L5⟩ := bfs_ev o r Hr goal a m (i + 1) (l ++ z) (by omega) (by rw [List.length_append]; omega) z1 (List.mem_append.2 (.inl ha)) fun q x hq hx' y hy => by
        by_cases e : q = i
        · subst e
          rw [List.getElem?_append_left hil, hx] at hx'
          obtain rfl := Option.some.inj hx'
          rw [Int.toNat_natCast, hr] at hy
          obtain ⟨k, hk⟩ := List.mem_iff_getElem?.1 hy
          exact z2 k y (Nat.zero_le _) hk
        · rw [List.getElem?_append_left (by omega)] at hx'
          exact List.mem_append.2 (.inl (hc q x (by omega) hx' y hy))
      have hgo : List.getD o ((v : Int)).toNat [] = row := hr
      refine ⟨L, L1, L2, L3, ?_, ?_⟩
      · refine Ev.step (fun n => impl_CanWalk_l.eq n goal o r l (i : Int)) (Ev.yes (lt_nat hil) (Ev.yes (inB_nat hil) ?_))
        rw [Int.toNat_natCast, getD_at hx, hgo]
        refine Ev.yes (inB_nat hv) (Ev.bind z3 ?_)
        simp only
        rw [w64_succ (by omega)]
        exact L4
      · refine Ev.step (fun n => spec_CanWalk_l.eq n goal o r l (i : Int)) (Ev.yes (lt_nat hil) (Ev.yes (inB_nat hil) ?_))
        rw [Int.toNat_natCast, getD_at hx, hgo]
        refine Ev.yes (inB_nat hv) (Ev.bind z4 ?_)
        simp only
        rw [w64_succ (by omega)]
        exact L5
    · refine ⟨l, hb, ha, fun x hx y hy => ?_, Ev.step (fun n => impl_CanWalk_l.eq n goal o r l (i : Int)) (Ev.no (not_lt_nat (by omega)) (Ev.now _)), Ev.step (fun n => spec_CanWalk_l.eq n goal o r l (i : Int)) (Ev.no (not_lt_nat (by omega)) (Ev.now _))⟩
      obtain ⟨q, hq⟩ := List.mem_iff_getElem?.1 hx
      exact hc q x (by have := (List.getElem?_eq_some_iff.1 hq).1; omega) hq y hy
theorem two_mem {P : Int → Prop} (a b : Int) : (∀ x ∈ [a, b], P x) ↔ P a ∧ P b := by simp
theorem canWalk_ev (o : OutR) (r : List Int) (hf : FitR o r) (a goal : Int) : ∃ b ok, Ev (fun k => impl_CanWalk k ((o, r), a, goal)) (b, ok) ∧ Ev (fun k => spec_CanWalk k ((o, r), a, goal)) (b, ok) ∧
    (RouteOk o r → AtR o a → AtR o goal → ok = true ∧ ∀ n, PathR o a n goal → b = true) := by
  have i1 := isNodes_ev o r hf [a, goal] (by simp)
  have s1 := roNode_ev o r hf a
  have s2 := roNode_ev o r hf goal
  by_cases p1 : RouteOk o r ∧ AtR o a
  rotate_left
  · exact ⟨false, false, Ev.step (fun k => impl_CanWalk.eq k o r a goal) (Ev.bind (i1.isF fun h => p1 ⟨h.1, ((two_mem a goal).1 h.2).1⟩) (Ev.yes rfl (Ev.now _))), Ev.step (fun k => spec_CanWalk.eq k o r a goal) (Ev.bind (s1.isF p1) (Ev.yes rfl (Ev.now _))), fun h1 h2 h3 => absurd ⟨h1, h2⟩ p1⟩
  by_cases p2 : RouteOk o r ∧ AtR o goal
  rotate_left
  · exact ⟨false, false, Ev.step (fun k => impl_CanWalk.eq k o r a goal) (Ev.bind (i1.isF fun h => p2 ⟨h.1, ((two_mem a goal).1 h.2).2⟩) (Ev.yes rfl (Ev.now _))), Ev.step (fun k => spec_CanWalk.eq k o r a goal) (Ev.bind (s1.isT p1) (Ev.no rfl (Ev.bind (s2.isF p2) (Ev.yes rfl (Ev.now _))))), fun h1 h2 h3 => absurd ⟨h1, h3⟩ p2⟩
  obtain ⟨L, L1, L2, L3, L4, L5⟩ := bfs_ev o r p1.1 goal a 11 0 [a] (by omega) (Nat.zero_le _) ⟨by simp, (mem_one a).2 p1.2⟩ (by simp) (fun q x hq => by omega)
  have hL : L.length ≤ 1048576 := by have := L1.len; have := p1.1.1.2; omega
  have paths : ∀ n b, PathR o a n b → b ∈ L := by
    intro n
    induction n with
    | zero => intro b hb; have hb : b = a := hb; rw [hb]; exact L2
    | succ n ih => intro b hb; obtain ⟨c, h1, h2⟩ := hb; exact L3 c (ih c h1) b h2
  have ti := i1.isT ⟨p1.1, (two_mem a goal).2 ⟨p1.2, p2.2⟩⟩
  by_cases hg : goal ∈ L
  · exact ⟨true, true, Ev.step (fun k => impl_CanWalk.eq k o r a goal) (Ev.bind ti (Ev.no rfl (Ev.bind L4 (Ev.bind ((containsI_ev L hL goal).isT hg) (Ev.now _))))), Ev.step (fun k => spec_CanWalk.eq k o r a goal) (Ev.bind (s1.isT p1) (Ev.no rfl (Ev.bind (s2.isT p2) (Ev.no rfl (Ev.bind L5 (Ev.bind ((l1Has_ev L hL goal).isT hg) (Ev.now _))))))), fun _ _ _ => ⟨rfl, fun _ _ => rfl⟩⟩
  · exact ⟨false, true, Ev.step (fun k => impl_CanWalk.eq k o r a goal) (Ev.bind ti (Ev.no rfl (Ev.bind L4 (Ev.bind ((containsI_ev L hL goal).isF hg) (Ev.now _))))), Ev.step (fun k => spec_CanWalk.eq k o r a goal) (Ev.bind (s1.isT p1) (Ev.no rfl (Ev.bind (s2.isT p2) (Ev.no rfl (Ev.bind L5 (Ev.bind ((l1Has_ev L hL goal).isF hg) (Ev.now _))))))), fun _ _ _ => ⟨rfl, fun n hp => absurd (paths n goal hp) hg⟩⟩
end Go.Proofs.YtiaagflfiphioaaDoorS
