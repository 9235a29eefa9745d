/- The plain law FnRotorsShare. -/
import Derived.Test.YtiaagflfiphioaaDoorOk
import Derived.Test.YtiaagflfiphioaaDoorPuRoF
namespace Go.Proofs.YtiaagflfiphioaaDoor.fnRotorsShare
open Go Go.Proofs Go.Proofs.YtiaagflfiphioaaDoorS
set_option linter.unusedVariables false
set_option linter.unusedSimpArgs false
theorem pred_nat {m : Nat} (h : m ≤ 100000) : w64 (((m + 1 : Nat) : Int) - 1) = (m : Int) := by rw [w64_of (by omega) (by omega)]; omega
theorem OkR.small {o : OutR} {t : StR} (H : OkR o t) : o.length ≤ 1048576 ∧ (∀ l ∈ o, l.length ≤ 1048576) ∧ t.1.length ≤ 1048576 := ⟨H.1.fit.1, H.1.fit.2.2, H.1.fit.2.1⟩
theorem kRoute_self (o : OutR) (r : List Int) (hf : FitR o r) : Ev (fun k => laws_kRoute k ((o, r), (o, r))) true := (kRoute_iff o r r hf.1 hf.2.2 hf.2.1 hf.2.1).isT rfl
section
variable (o : OutR) (r : List Int) (a : Int) (H : OkR o (r, a)) (n : Nat) (hn : n ≤ 3000) (more : List Int)
include H hn
theorem t6 : Ev (fun k => laws_FnRotorsShare_c_c_c_c_c_c k (more, (o, r), a, (n : Int), (o, (walkR o (r, a) n).1), (walkR o (r, a) n).2, decide ((n : Int) > 0))) (.inr more) := by
  cases n with
  | zero => exact Ev.step (fun k => laws_FnRotorsShare_c_c_c_c_c_c.eq k more o r a 0 o (walkR o (r, a) 0).1 (walkR o (r, a) 0).2 false) (Ev.no rfl (Ev.now _))
  | succ m =>
    have hok := walk_ok H m
    have hw : WalkOk o r a (m : Int) := ⟨H, by omega⟩
    have e1 := (walk_yes o r a m H.1.fit hw).1
    rw [Int.toNat_natCast] at e1
    have e2 : Ev (fun k => impl_StepRoute k ((o, (walkR o (r, a) m).1), (walkR o (r, a) m).2)) ((o, (walkR o (r, a) (m + 1)).1), (walkR o (r, a) (m + 1)).2, true) := by
      rcases stepR_ev o (walkR o (r, a) m).1 (walkR o (r, a) m).2 hok.1.fit with h | h
      · exact h.2.1
      · exact absurd hok h.1
    have hk := kRoute_self o (walkR o (r, a) (m + 1)).1 (walk_ok H (m + 1)).1.fit
    refine Ev.step (fun k => laws_FnRotorsShare_c_c_c_c_c_c.eq k more o r a ((m + 1 : Nat) : Int) o (walkR o (r, a) (m + 1)).1 (walkR o (r, a) (m + 1)).2 _) (Ev.yes (decide_eq_true (by omega)) ?_)
    rw [pred_nat (by omega)]
    exact Ev.bind e1 (Ev.bind e2 (Ev.no rfl (Ev.no rfl (Ev.no (neq_self _) (Ev.bind hk (Ev.bind (Ev.step (fun k => laws_FnRotorsShare_c_c_c_c_c_c_c.eq k more false) (Ev.no rfl (Ev.now _))) (Ev.now _)))))))
theorem t5 : Ev (fun k => laws_FnRotorsShare_c_c_c_c_c k (more, (o, r), a, (n : Int), (o, (walkR o (r, a) n).1), (walkR o (r, a) n).2, visL o (r, a) n, visL o (r, a) n)) (.inr more) := by
  have hs := H.1.fit.1
  have hl : (visL o (r, a) n).length ≤ 1048576 := by simp [visL]; omega
  exact Ev.step (fun k => laws_FnRotorsShare_c_c_c_c_c.eq k more o r a (n : Int) o (walkR o (r, a) n).1 (walkR o (r, a) n).2 (visL o (r, a) n) (visL o (r, a) n)) (Ev.bind ((kSame_iff _ _ hl hl).isT rfl) (Ev.no rfl (Ev.bind (t6 o r a H n hn more) (Ev.now _))))
theorem t4 : Ev (fun k => laws_FnRotorsShare_c_c_c_c k (more, (o, r), a, (n : Int), (o, (walkR o (r, a) n).1), (walkR o (r, a) n).2, visL o (r, a) n, lnsL o (r, a) n, (o.length : Int))) (.inr more) := by
  have h10 : (o.length : Int) ≤ 10 := H.1.1.2
  have hz : List.replicate o.length (0 : Int) = cameL2 o (r, a) n 0 0 := by
    unfold cameL2
    apply List.ext_getElem?
    intro k
    by_cases hk : k < o.length
    · simp [hk, sumI]
    · rw [List.getElem?_eq_none (by simp; omega), List.getElem?_eq_none (by simp; omega)]
  have hl : (lnsL o (r, a) n).length = o.length := by simp [lnsL]
  have h := outer_ev o (r, a) H n hn more (n : Int) o.length 0 (by omega)
  refine Ev.step (fun k => laws_FnRotorsShare_c_c_c_c.eq k more o r a (n : Int) o (walkR o (r, a) n).1 (walkR o (r, a) n).2 (visL o (r, a) n) (lnsL o (r, a) n) (o.length : Int)) (Ev.yes (zn (by omega)) ?_)
  rw [Int.toNat_natCast, hz, hl]
  exact Ev.bind h (Ev.bind (t5 o r a H n hn more) (Ev.now _))
theorem t3 (T : List Int) (five : Bool) (hT : five = true → T = trackR o (r, a) n) : Ev (fun k => laws_FnRotorsShare_c_c_c k (more, (o, r), a, (n : Int), (o, (walkR o (r, a) n).1), (walkR o (r, a) n).2, visL o (r, a) n, lnsL o (r, a) n, T, five, (o.length : Int))) (.inr more) := by
  have h10 : (o.length : Int) ≤ 10 := H.1.1.2
  have h4 := t4 o r a H n hn more
  have hs : Ev (fun k => laws_kSum k (visL o (r, a) n)) (n : Int) := by
    have h := kSum_ev (visL o (r, a) n) (by simp [visL]; omega) fun x hx => by
      obtain ⟨v, hv, rfl⟩ := List.mem_map.1 hx
      have := visR_le o (r, a) n v
      omega
    have e : (visL o (r, a) n).sum = (n : Int) := by unfold visL; rw [sum_range]; exact vis_sum H n
    rw [e] at h
    exact h
  have hl : (((lnsL o (r, a) n).length : Int) != (o.length : Int)) = false := by
    have e : (lnsL o (r, a) n).length = o.length := by simp [lnsL]
    rw [e]
    exact neq_self _
  refine Ev.step (fun k => laws_FnRotorsShare_c_c_c.eq k more o r a (n : Int) o (walkR o (r, a) n).1 (walkR o (r, a) n).2 (visL o (r, a) n) (lnsL o (r, a) n) T five (o.length : Int)) (Ev.bind ((isRoute_ev o (walkR o (r, a) n).1 (walk_ok H n).1.fit).isT (walk_ok H n).1) (Ev.no rfl (Ev.bind hs (Ev.no (neq_self _) (Ev.no hl ?_)))))
  cases five with
  | false => exact Ev.no rfl (Ev.no rfl (Ev.bind h4 (Ev.now _)))
  | true =>
    have hT := hT rfl
    subst hT
    have hl : (trackR o (r, a) n).length = n := by simp [trackR]
    refine Ev.yes rfl (Ev.no (by rw [hl]; exact neq_self _) (Ev.yes rfl ?_))
    rcases Nat.eq_zero_or_pos n with h0 | h0
    · exact Ev.no (decide_eq_false (by omega)) (Ev.bind h4 (Ev.now _))
    · obtain ⟨m, hm⟩ : ∃ m, n = m + 1 := ⟨n - 1, by omega⟩
      have hg : (trackR o (r, a) n)[m]? = some (walkR o (r, a) n).2 := by subst hm; exact range_get (fun i => (walkR o (r, a) (i + 1)).2) (by omega)
      have em : w64 ((n : Int) - 1) = (m : Int) := by subst hm; exact pred_nat (by omega)
      rw [em, Int.toNat_natCast, getD_at hg]
      exact Ev.yes (decide_eq_true (by omega)) (Ev.yes (inB_nat (by omega)) (Ev.no (neq_self _) (Ev.bind h4 (Ev.now _))))
end
/-! ### The loop -/
theorem all_l_ev (L : OutR) (nL ti : Int) (list : List Int) (c : Int) (hl : list.length ≤ 100) (he : ∀ x ∈ list, x = c) : ∀ (m k : Nat), k + m = list.length → Ev (fun q => laws_FnRotorsShare_c_c_c_2_c_c_c_c_c_2_l_l q (list, L, nL, ti, (), (list.length : Int), (k : Int))) (.inr (L, nL, ti))
  | 0, k, h => Ev.step (fun q => laws_FnRotorsShare_c_c_c_2_c_c_c_c_c_2_l_l.eq q list L nL ti (list.length : Int) (k : Int)) (Ev.no (not_lt_nat (by omega)) (Ev.now _))
  | m + 1, k, h => by
    obtain ⟨y, hy⟩ := nat_list (l := list) (i := k) (by omega)
    obtain ⟨z, hz⟩ := nat_list (l := list) (i := 0) (by omega)
    have e1 := he y (List.mem_of_getElem? hy)
    have e2 := he z (List.mem_of_getElem? hz)
    refine Ev.step (fun q => laws_FnRotorsShare_c_c_c_2_c_c_c_c_c_2_l_l.eq q list L nL ti (list.length : Int) (k : Int)) (Ev.yes (lt_nat (by omega)) (Ev.yes (inB_nat (by omega)) (Ev.yes (inB_nat (i := 0) (by omega)) ?_)))
    rw [Int.toNat_natCast, getD_at hy, getD_at hz, w64_succ (by omega), e1, e2]
    exact Ev.no (neq_self _) (all_l_ev L nL ti list c hl he m (k + 1) (by omega))
theorem rows_l_ev (L : OutR) (hL : L.length ≤ 100) (hl : ∀ l ∈ L, l.length ≤ 100 ∧ ∃ c : Int, ∀ x ∈ l, x = c) : ∀ (m i : Nat), i + m = L.length → Ev (fun q => laws_FnRotorsShare_c_c_c_2_c_c_c_c_c_2_l q (L, (L.length : Int), (i : Int))) (.inr ())
  | 0, i, h => Ev.step (fun q => laws_FnRotorsShare_c_c_c_2_c_c_c_c_c_2_l.eq q L (L.length : Int) (i : Int)) (Ev.no (not_lt_nat (by omega)) (Ev.now _))
  | m + 1, i, h => by
    obtain ⟨l, hi⟩ := nat_list (l := L) (i := i) (by omega)
    obtain ⟨h1, c, h2⟩ := hl l (List.mem_of_getElem? hi)
    have ih := rows_l_ev L hL hl m (i + 1) (by omega)
    rw [← w64_succ (i := i) (by omega)] at ih
    refine Ev.step (fun q => laws_FnRotorsShare_c_c_c_2_c_c_c_c_c_2_l.eq q L (L.length : Int) (i : Int)) (Ev.yes (lt_nat (by omega)) (Ev.yes (inB_nat (by omega)) ?_))
    rw [Int.toNat_natCast, getD_any hi]
    exact Ev.bind (all_l_ev L (L.length : Int) (i : Int) l c h1 h2 l.length 0 (by omega)) ih
section
variable (o : OutR) (t : StR) (H : OkR o t) (d : Nat) (hd : d ≤ 3000) (hc : walkR o t d = t)
include H hd hc
omit hd in
theorem lines_all : ∀ l ∈ lnsL o t d, l.length ≤ 100 ∧ ∃ c : Int, ∀ x ∈ l, x = c := fun l hl => by
  obtain ⟨i, hi, rfl⟩ := List.mem_map.1 hl
  have hi := List.mem_range.1 hi
  obtain ⟨g1, g2, g3, g4, g5⟩ := row_len H hi
  refine ⟨by simp; omega, (usedR o t d i 0 : Int), fun x hx => ?_⟩
  obtain ⟨k, hk, rfl⟩ := List.mem_map.1 hx
  have hk := List.mem_range.1 hk
  have hr := rot_left H d hi
  rw [hc] at hr
  have := cnt_same (m := leftR o t d i) g1 g3 hk (show 0 < (rowN o i).length by omega) hr.symm
  rw [used_cnt H d k hi, used_cnt H d 0 hi, this]
theorem u2 : Ev (fun q => laws_FnRotorsShare_c_c_c_2_c_c_c_c_c_2 q ((d : Int), (o, t.1), t.2)) (.inr ()) := by
  have h10 : (o.length : Int) ≤ 10 := H.1.1.2
  have hl := (lines_yes o t.1 t.2 (d : Int) H.1.fit ⟨H, by omega⟩).1
  rw [Int.toNat_natCast] at hl
  exact Ev.step (fun q => laws_FnRotorsShare_c_c_c_2_c_c_c_c_c_2.eq q (d : Int) o t.1 t.2) (Ev.bind hl (Ev.no rfl (Ev.bind (rows_l_ev (lnsL o t d) (by simp [lnsL]; omega) (lines_all o t H d hc) (lnsL o t d).length 0 (by omega)) (Ev.now _))))
end
section
variable (o : OutR) (r : List Int) (a : Int) (H : OkR o (r, a)) (j n : Nat) (hm : MetR o (r, a) j n)
include H hm
theorem u1 : Ev (fun q => laws_FnRotorsShare_c_c_c_2_c_c_c_c q ((o, r), a, (j : Int), ((n - j : Nat) : Int), (o, (walkR o (r, a) n).1), (walkR o (r, a) n).2)) (.inr ()) := by
  obtain ⟨m1, m2, m3, m4⟩ := hm
  have hc : walkR o (walkR o (r, a) n) (n - j) = walkR o (r, a) n := by
    have e := walk_add o (r, a) j (n - j)
    rw [show j + (n - j) = n by omega, m3] at e
    exact e.symm
  have last := u2 o (walkR o (r, a) n) (walk_ok H n) (n - j) (by omega) hc
  refine Ev.step (fun q => laws_FnRotorsShare_c_c_c_2_c_c_c_c.eq q o r a (j : Int) ((n - j : Nat) : Int) o (walkR o (r, a) n).1 (walkR o (r, a) n).2) ?_
  rcases Nat.eq_zero_or_pos j with h0 | h0
  · exact Ev.no (decide_eq_false (by omega)) (Ev.bind last (Ev.now _))
  · obtain ⟨i, hi⟩ : ∃ i, j = i + 1 := ⟨j - 1, by omega⟩
    obtain ⟨i', hi'⟩ : ∃ i', n = i' + 1 := ⟨n - 1, by omega⟩
    have ew : w64 ((j : Int) - 1) = (i : Int) := by subst hi; exact pred_nat (by omega)
    have ew2 : w64 (w64 ((j : Int) + ((n - j : Nat) : Int)) - 1) = (i' : Int) := by
      rw [show (j : Int) + ((n - j : Nat) : Int) = (n : Int) by omega, w64_of (n := (n : Int)) (by omega) (by omega)]
      rw [w64_of (by omega) (by omega)]
      omega
    have e1 := (walk_yes o r a (i : Int) H.1.fit ⟨H, by omega⟩).1
    have e2 := (walk_yes o r a (i' : Int) H.1.fit ⟨H, by omega⟩).1
    rw [Int.toNat_natCast] at e1 e2
    have hne : walkR o (r, a) i ≠ walkR o (r, a) i' := m4 i i' (by omega) (by omega)
    rw [ew, ew2]
    have fin : Ev (fun q => (laws_FnRotorsShare_c_c_c_2_c_c_c_c_c q (((n - j : Nat) : Int), (o, (walkR o (r, a) n).1), (walkR o (r, a) n).2, false)).bind fun r16 => r16.elim (fun r17 => some (.inl r17)) (fun r18 => (laws_FnRotorsShare_c_c_c_2_c_c_c_c_c_2 q r18).bind fun r19 => r19.elim (fun r20 => some (.inl r20)) (fun r21 => some (.inr ())))) (.inr () : Bool ⊕ Unit) :=
      Ev.bind (Ev.step (fun q => laws_FnRotorsShare_c_c_c_2_c_c_c_c_c.eq q ((n - j : Nat) : Int) o (walkR o (r, a) n).1 (walkR o (r, a) n).2 false) (Ev.no rfl (Ev.now _))) (Ev.bind last (Ev.now _))
    refine Ev.yes (decide_eq_true (by omega)) (Ev.bind e1 (Ev.bind e2 (Ev.no rfl (Ev.no rfl ?_))))
    cases hq : ((walkR o (r, a) i).2 == (walkR o (r, a) i').2) with
    | false => exact Ev.no rfl fin
    | true =>
      have f1 := (walk_ok H i).1.fit
      have f2 := (walk_ok H i').1.fit
      have hk := (kRoute_iff o (walkR o (r, a) i).1 (walkR o (r, a) i').1 f1.1 f1.2.2 f1.2.1 f2.2.1).isF fun e => hne (Prod.ext e (beq_iff_eq.1 hq))
      exact Ev.yes rfl (Ev.bind hk fin)
theorem u0 : Ev (fun q => laws_FnRotorsShare_c_c_c_2_c_c q ((o, r), a, (j : Int), ((n - j : Nat) : Int), true)) true := by
  have h1 := u1 o r a H j n hm
  obtain ⟨m1, m2, m3, m4⟩ := hm
  have e1 := (walk_yes o r a (j : Int) H.1.fit ⟨H, by omega⟩).1
  have e2 := (walk_yes o r a (n : Int) H.1.fit ⟨H, by omega⟩).1
  rw [Int.toNat_natCast] at e1 e2
  rw [m3] at e1
  have ew : w64 ((j : Int) + ((n - j : Nat) : Int)) = (n : Int) := by rw [w64_of (by omega) (by omega)]; omega
  refine Ev.step (fun q => laws_FnRotorsShare_c_c_c_2_c_c.eq q o r a (j : Int) ((n - j : Nat) : Int) true) (Ev.yes rfl ?_)
  rw [ew]
  refine Ev.bind e1 (Ev.bind e2 (Ev.bind (a := .inr ()) (Ev.step (fun q => laws_FnRotorsShare_c_c_c_2_c_c_c.eq q o r a (j : Int) ((n - j : Nat) : Int) o (walkR o (r, a) n).1 (walkR o (r, a) n).2 true o (walkR o (r, a) n).1 (walkR o (r, a) n).2 true) ?_) (Ev.now _)))
  exact Ev.no (decide_eq_false (by omega)) (Ev.no rfl (Ev.no rfl (Ev.no (neq_self _) (Ev.bind (kRoute_self o _ (walk_ok H n).1.fit) (Ev.no rfl (Ev.bind h1 (Ev.now _)))))))
end
theorem second (more : List Int) (hm : ∀ x ∈ more, 0 ≤ x ∧ x ≤ 255) : Ev (fun k => laws_FnRotorsShare_c_c_c_2 k more) true := by
  obtain ⟨o, r, a, hd, ht⟩ := drawStep_ev more hm
  have hf := ht.fit
  obtain ⟨x, y, ok, w1, w2, w3⟩ := walkLoop_ev o r a hf
  have okk : (!(ok == ok)) = false := by cases ok <;> rfl
  have tail : Ev (fun k => laws_FnRotorsShare_c_c_c_2_c_c k ((o, r), a, x, y, ok)) true := by
    cases ok with
    | false => exact Ev.step (fun q => laws_FnRotorsShare_c_c_c_2_c_c.eq q o r a x y false) (Ev.no rfl (Ev.now _))
    | true =>
      obtain ⟨H, j, n, hmet, rfl, rfl⟩ := w3 rfl
      exact u0 o r a H j n hmet
  have draw : Ev (fun k => spec_DrawWalkLoop k more) ((o, r), a) := Ev.step (fun k => spec_DrawWalkLoop.eq k more) (Ev.bind hd (Ev.now _))
  rcases stepR_ev o r a hf with ⟨h1, h2, h3⟩ | ⟨h1, h2, h3⟩
  · exact Ev.step (fun k => laws_FnRotorsShare_c_c_c_2.eq k more) (Ev.bind draw (Ev.bind w1 (Ev.bind w2 (Ev.bind h2 (Ev.bind h3 (Ev.bind (Ev.step (fun k => laws_FnRotorsShare_c_c_c_2_c.eq k o r a x y ok x y ok o (stpR o (r, a)).1 (stpR o (r, a)).2 true o (stpR o (r, a)).1 (stpR o (r, a)).2 true) (Ev.no okk (Ev.no (neq_self _) (Ev.no (neq_self _) (Ev.no rfl (Ev.no (neq_self _) (Ev.bind (kRoute_self o _ (stp_ok h1).1.fit) (Ev.no rfl (Ev.bind tail (Ev.now _))))))))) ) (Ev.now _)))))))
  · exact Ev.step (fun k => laws_FnRotorsShare_c_c_c_2.eq k more) (Ev.bind draw (Ev.bind w1 (Ev.bind w2 (Ev.bind h2 (Ev.bind h3 (Ev.bind (Ev.step (fun k => laws_FnRotorsShare_c_c_c_2_c.eq k o r a x y ok x y ok [] [] 0 false [] [] 0 false) (Ev.no okk (Ev.no (neq_self _) (Ev.no (neq_self _) (Ev.no rfl (Ev.no (neq_self _) (Ev.bind (kRoute_self [] [] ⟨by simp, by simp, by simp⟩) (Ev.no rfl (Ev.bind tail (Ev.now _))))))))) ) (Ev.now _)))))))
/-! ### The whole -/
theorem first (more : List Int) (o : OutR) (r : List Int) (a s : Int) (hf : FitR o r) (Wo : OutR) (Wr : List Int) (hW : FitR Wo Wr) (p : Int) (ok : Bool) (V : List Int) (hV : V.length ≤ 1048576) (L : OutR) (hL : L.length ≤ 1048576 ∧ ∀ l ∈ L, l.length ≤ 1048576) (T : List Int) (hT : T.length ≤ 1048576) (five : Bool)
    (h5 : five = true → ok = true) (hok : ok = true → RouteOk o r) (h2 : Ev (fun k => laws_FnRotorsShare_c_c k (more, (o, r), a, s, (Wo, Wr), p, ok, V, L, T, five)) true) :
    Ev (fun k => laws_FnRotorsShare_c k (more, (o, r), a, s, (Wo, Wr), p, ok, (Wo, Wr), p, ok, V, ok, V, ok, L, ok, L, ok, T, five, T, five)) true := by
  have okk : (!(ok == ok)) = false := by cases ok <;> rfl
  have o5 : (!(five == five)) = false := by cases five <;> rfl
  obtain ⟨b, i1, i2⟩ := isRoute_ev o r hf
  have s1 : Ev (fun k => spec_IsRoute k (o, r)) b := by
    obtain ⟨b', j1, j2⟩ := roGood_ev o r hf
    have : b' = b := by cases b <;> cases b' <;> simp_all
    subst this
    exact Ev.step (fun k => spec_IsRoute.eq k o r) (Ev.bind j1 (Ev.now _))
  have bb : (!(b == b)) = false := by cases b <;> rfl
  refine Ev.step (fun k => laws_FnRotorsShare_c.eq k more o r a s Wo Wr p ok Wo Wr p ok V ok V ok L ok L ok T five T five) (Ev.no okk (Ev.no (neq_self _) (Ev.bind (kRoute_self Wo Wr hW) (Ev.no rfl (Ev.no okk (Ev.bind ((kSame_iff V V hV hV).isT rfl) (Ev.no rfl (Ev.no okk (Ev.bind (kRows_self L hL.1 hL.2) (Ev.no rfl (Ev.no o5 (Ev.bind ((kSame_iff T T hT hT).isT rfl) (Ev.no rfl (Ev.no okk (Ev.no okk ?_)))))))))))))))
  have tail : Ev (fun k => cond ok ((impl_IsRoute k (o, r)).bind fun r7 => cond (!r7) (some false) ((laws_FnRotorsShare_c_c k (more, (o, r), a, s, (Wo, Wr), p, ok, V, L, T, five)).bind fun r8 => some r8)) ((laws_FnRotorsShare_c_c k (more, (o, r), a, s, (Wo, Wr), p, ok, V, L, T, five)).bind fun r9 => some r9)) true := by
    cases hk : ok with
    | false => rw [hk] at h2; exact Ev.no rfl (Ev.bind h2 (Ev.now _))
    | true =>
      have hb : b = true := i2.2 (hok hk)
      rw [hb] at i1
      rw [hk] at h2
      exact Ev.yes rfl (Ev.bind i1 (Ev.no rfl (Ev.bind h2 (Ev.now _))))
  cases h : five with
  | false => rw [h] at tail; exact Ev.no rfl (Ev.bind i1 (Ev.bind s1 (Ev.no bb tail)))
  | true => rw [h] at tail; exact Ev.yes rfl (Ev.no (by rw [h5 h]; rfl) (Ev.bind i1 (Ev.bind s1 (Ev.no bb tail))))
theorem main (code more : List Int) (h1 : code.length ≤ 9223372036854775807) (h2 : more.length ≤ 9223372036854775807) (hc : ∀ x ∈ code, 0 ≤ x ∧ x ≤ 255) (hm : ∀ x ∈ more, 0 ≤ x ∧ x ≤ 255) : ∃ k, laws_FnRotorsShare k (code, more) = some true := by
  refine Ev.rounds (Ev.step (fun k => laws_FnRotorsShare.eq k code more) ?_)
  obtain ⟨b, hb, hbig⟩ := big_ev code more h1 h2
  refine Ev.bind hb (Ev.cond (fun _ => Ev.now _) fun hn => ?_)
  obtain ⟨o, r, a, s, hd, ht⟩ := drawWalk_ev code hc
  have hf := ht.fit
  obtain ⟨T, five, k1, k2, k3, k4⟩ := tracks_ev o r a s hf
  have hs := second more hm
  by_cases hw : WalkOk o r a s
  · obtain ⟨n, hn'⟩ := Int.eq_ofNat_of_zero_le hw.2.1
    subst hn'
    have hn3 : n ≤ 3000 := by have := hw.2.2; omega
    have H : OkR o (r, a) := hw.1
    obtain ⟨e1, e2⟩ := walk_yes o r a n hf hw
    obtain ⟨e3, e4⟩ := visits_yes o r a n hf hw
    obtain ⟨e5, e6⟩ := lines_yes o r a n hf hw
    rw [Int.toNat_natCast] at e1 e2 e3 e4 e5 e6
    have h10 : (o.length : Int) ≤ 10 := H.1.1.2
    have hT : five = true → T = trackR o (r, a) n := fun h => by have := (k3 h).2; rw [Int.toNat_natCast] at this; exact this
    have h3 := t3 o r a H n hn3 more T five hT
    have hcc : Ev (fun k => laws_FnRotorsShare_c_c k (more, (o, r), a, (n : Int), (o, (walkR o (r, a) n).1), (walkR o (r, a) n).2, true, visL o (r, a) n, lnsL o (r, a) n, T, five)) true :=
      Ev.step (fun k => laws_FnRotorsShare_c_c.eq k more o r a (n : Int) o (walkR o (r, a) n).1 (walkR o (r, a) n).2 true (visL o (r, a) n) (lnsL o (r, a) n) T five) (Ev.yes rfl (Ev.bind h3 (Ev.bind hs (Ev.now _))))
    have hfirst := first more o r a (n : Int) hf o (walkR o (r, a) n).1 (walk_ok H n).1.fit (walkR o (r, a) n).2 true (visL o (r, a) n) (by simp [visL]; omega) (lnsL o (r, a) n) ⟨by simp [lnsL]; omega, fun l hl => by
      obtain ⟨i, hi, rfl⟩ := List.mem_map.1 hl
      have := (row_len H (List.mem_range.1 hi)).1
      simp
      omega⟩ T k4 five (fun _ => rfl) (fun _ => H.1) hcc
    exact Ev.bind hd (Ev.bind e1 (Ev.bind e2 (Ev.bind e3 (Ev.bind e4 (Ev.bind e5 (Ev.bind e6 (Ev.bind k1 (Ev.bind k2 (Ev.bind hfirst (Ev.now _))))))))))
  · obtain ⟨e1, e2⟩ := walk_no o r a s hf hw
    obtain ⟨e3, e4⟩ := visits_no o r a s hf hw
    obtain ⟨e5, e6⟩ := lines_no o r a s hf hw
    have h5 : five = true → false = true := fun h => absurd (k3 h).1 hw
    have hcc : Ev (fun k => laws_FnRotorsShare_c_c k (more, (o, r), a, s, ([], []), 0, false, [], [], T, five)) true :=
      Ev.step (fun k => laws_FnRotorsShare_c_c.eq k more o r a s [] [] 0 false [] [] T five) (Ev.no rfl (Ev.bind hs (Ev.now _)))
    have hfirst := first more o r a s hf [] [] ⟨by simp, by simp, by simp⟩ 0 false [] (by simp) [] ⟨by simp, by simp⟩ T k4 five h5 nofun hcc
    exact Ev.bind hd (Ev.bind e1 (Ev.bind e2 (Ev.bind e3 (Ev.bind e4 (Ev.bind e5 (Ev.bind e6 (Ev.bind k1 (Ev.bind k2 (Ev.bind hfirst (Ev.now _))))))))))
theorem good8 {x : Int} (h : (Sh.int IntKind.u8).good x) : 0 ≤ x ∧ x ≤ 255 := by
  have h : (Lit.int .u8 x).wf = true := h
  simp [Lit.wf, IntKind.min, IntKind.max, IntKind.bits, IntKind.signed] at h
  omega
theorem pure : ∀ d : Dl laws_FnRotorsShare.ins, goodL laws_FnRotorsShare.ins d → ∃ k, laws_FnRotorsShare k d = some true := by
  rintro ⟨code, more⟩ hg
  exact main code more hg.1.1 hg.2.1 (fun x hx => good8 (hg.1.2 x hx)) (fun x hx => good8 (hg.2.2 x hx))
end Go.Proofs.YtiaagflfiphioaaDoor.fnRotorsShare
