/- The plain law FnWalkersSent. -/
import Derived.Test.YtiaagflfiphioaaDoorOk
import Derived.Test.YtiaagflfiphioaaDoorPuWkC
import Derived.Test.YtiaagflfiphioaaDoorPuWkD
namespace Go.Proofs.YtiaagflfiphioaaDoor.fnWalkersSent
open Go Go.Proofs Go.Proofs.YtiaagflfiphioaaDoorS
set_option linter.unusedVariables false
set_option linter.unusedSimpArgs false
theorem bb (b : Bool) : (!(b == b)) = false := by cases b <;> rfl
theorem kRoute_self (o : OutR) (r : List Int) (hf : FitR o r) : Ev (fun k => laws_kRoute k ((o, r), (o, r))) true := (kRoute_iff o r r hf.1 hf.2.2 hf.2.1 hf.2.1).isT rfl
theorem fit_nil : FitR [] [] := ⟨by simp, by simp, by simp⟩
/-! ### The first half -/
theorem ends_l_ev (more : List Int) (o : OutR) (r : List Int) (a : Int) (H : OkR o (r, a)) (ends sent : List Int) (he : ends.length ≤ 10) (hw : ∀ x ∈ ends, AtR o x) (c : Nat) (hi : InvS o a ends sent c) : ∀ (m i : Nat), i + m = ends.length →
    Ev (fun k => laws_FnWalkersSent_c_c_c_l k (more, (o, r), a, sent, ends, (ends.length : Int), (i : Int))) (.inr more)
  | 0, i, h => Ev.step (fun k => laws_FnWalkersSent_c_c_c_l.eq k more o r a sent ends (ends.length : Int) (i : Int)) (Ev.no (not_lt_nat (by omega)) (Ev.now _))
  | m + 1, i, h => by
    have ih := ends_l_ev more o r a H ends sent he hw c hi m (i + 1) (by omega)
    obtain ⟨x, hx⟩ := nat_list (l := ends) (i := i) (by omega)
    obtain ⟨v, hv⟩ := nat_list (l := sent) (i := i) (by rw [hi.1]; omega)
    obtain ⟨b, ok, c1, _, c3⟩ := canWalk_ev o r H.1.fit a x
    obtain ⟨hok, hp⟩ := c3 H.1 H.2 (hw x (List.mem_of_getElem? hx))
    subst hok
    refine Ev.step (fun k => laws_FnWalkersSent_c_c_c_l.eq k more o r a sent ends (ends.length : Int) (i : Int)) (Ev.yes (lt_nat (by omega)) (Ev.yes (inB_nat (by omega)) ?_))
    rw [Int.toNat_natCast, getD_at hx, getD_at hv, w64_succ (by omega)]
    refine Ev.bind c1 (Ev.no rfl (Ev.yes (inB_nat (by rw [hi.1]; omega)) ?_))
    refine Ev.cond (fun h => Ev.no ?_ ih) fun _ => ih
    obtain ⟨n, e, g1, g2⟩ := (hi.2.2 i v hv).2 (of_decide_eq_true h)
    rw [hx] at g1
    obtain rfl := Option.some.inj g1
    simp [hp n g2]
theorem first (more : List Int) (o : OutR) (r : List Int) (hf : FitR o r) (a : Int) (ends : List Int) (count : Int) (out : List Int) (ok : Bool) (hl : out.length ≤ 1048576) (hok : ok = true → SendOk o r a ends count ∧ InvS o a ends out count.toNat) (h2 : Ev (fun k => laws_FnWalkersSent_c_c_c_2 k more) true) :
    Ev (fun k => laws_FnWalkersSent_c k (more, (o, r), a, ends, count, out, ok, out, ok)) true := by
  refine Ev.step (fun k => laws_FnWalkersSent_c.eq k more o r a ends count out ok out ok) (Ev.no (bb ok) (Ev.bind ((kSame_iff out out hl hl).isT rfl) (Ev.no rfl (Ev.bind ?_ (Ev.now _)))))
  refine Ev.step (fun k => laws_FnWalkersSent_c_c.eq k more o r a ends count out ok) ?_
  cases ok with
  | false => exact Ev.no rfl (Ev.bind h2 (Ev.now _))
  | true =>
    obtain ⟨⟨p1, p2, p3, p4, p5⟩, inv⟩ := hok rfl
    have hc : ((count.toNat : Nat) : Int) = count := by omega
    have hs : Ev (fun k => laws_kSum k out) count := by
      have h := kSum_ev out hl fun x hx => by
        obtain ⟨i, hi⟩ := List.mem_iff_getElem?.1 hx
        have := (inv.2.2 i x hi).1
        omega
      rw [inv.2.1, hc] at h
      exact h
    have mid : Ev (fun k => laws_FnWalkersSent_c_c_c k (more, (o, r), a, ends, count, out)) (.inr more) := Ev.step (fun k => laws_FnWalkersSent_c_c_c.eq k more o r a ends count out) (Ev.bind hs (Ev.no (neq_self _) (Ev.no (by rw [inv.1]; exact neq_self _) (Ev.bind (ends_l_ev more o r a p1 ends out (by omega) p2 _ inv ends.length 0 (by omega)) (Ev.now _)))))
    exact Ev.yes rfl (Ev.bind mid (Ev.bind h2 (Ev.now _)))
/-! ### The second half -/
theorem zero_sum (r : List Int) (hl : r.length ≤ 1048576) : Ev (fun k => laws_kSum k (zeroL r)) 0 := by
  have h := kSum_ev (zeroL r) (by simp [zeroL]; exact hl) fun x hx => by
    unfold zeroL at hx
    have := List.eq_of_mem_replicate hx
    omega
  unfold zeroL at h ⊢
  rw [sum_zeros] at h
  exact h
section
variable (lo : OutR) (lr : List Int) (eleven : Bool) (n walkers low high all : Int) (thirteen : Bool)
/-- What is told of a line that is filled. -/
def FillsOk : Prop := thirteen = true → ∃ c L H s : Nat, walkers = (c : Int) ∧ (1 ≤ c ∧ c ≤ 40) ∧ low = (L : Int) - 50 ∧ high = (H : Int) - 50 ∧ all = (s : Int) ∧ ReachF c s L H ∧ (c ≠ 1 → ∃ s' L' H', ReachF (c - 1) s' L' H' ∧ s' < s)
theorem v4 (h : FillsOk walkers low high all thirteen) : Ev (fun k => laws_FnWalkersSent_c_c_c_2_c_c_c_2_c_c_c_c k (walkers, low, high, thirteen, all)) true := by
  refine Ev.step (fun k => laws_FnWalkersSent_c_c_c_2_c_c_c_2_c_c_c_c.eq k walkers low high thirteen all) ?_
  cases thirteen with
  | false => exact Ev.no rfl (Ev.now _)
  | true =>
    obtain ⟨c, L, H, s, rfl, hc, rfl, rfl, rfl, hr, hp⟩ := h rfl
    obtain ⟨_, _, f1, f2, f3, f4, f5, f6, f7⟩ := fill_ev hc hr
    have e1 : w64 (w64 ((H : Int) - 50 - ((L : Int) - 50)) + 1) = (c : Int) := by
      rw [w64_of (n := (H : Int) - 50 - ((L : Int) - 50)) (by omega) (by omega), w64_of (by omega) (by omega)]; omega
    have e2 : w64 ((L : Int) - 50 + ((H : Int) - 50)) = (L : Int) + (H : Int) - 100 := by rw [w64_of (by omega) (by omega)]; omega
    rw [e1, e2]
    refine Ev.yes rfl (Ev.no (neq_self _) (Ev.no (decide_eq_false (by omega)) (Ev.no (decide_eq_false (by omega)) (Ev.no (decide_eq_false (by omega)) (Ev.no (decide_eq_false (by omega)) (Ev.no (decide_eq_false (by omega)) ?_))))))
    by_cases h1 : c = 1
    · exact Ev.no (decide_eq_false (by omega)) (Ev.now _)
    · obtain ⟨s', L', H', r1, r2⟩ := hp h1
      have ew : w64 ((c : Int) - 1) = ((c - 1 : Nat) : Int) := by rw [w64_of (by omega) (by omega)]; omega
      have hw : Ev (fun k => impl_within k (((c - 1 : Nat) : Int), 1, 40)) true := (within_ev ((c - 1 : Nat) : Int) 1 40).isT (by omega)
      rw [ew]
      refine Ev.yes (decide_eq_true (by omega)) (Ev.bind (Ev.step (fun k => impl_FillSteps.eq k ((c - 1 : Nat) : Int)) (Ev.bind hw (Ev.no rfl (Ev.bind (fill_ev (by omega) r1).1 (Ev.now _))))) (Ev.yes rfl (Ev.now' (decide_eq_true ?_))))
      show (s' : Int) < (s : Int)
      omega
theorem v3 (h : FillsOk walkers low high all thirteen) (hl : eleven = true → (n.tmod 2 == 1) = true → ∃ x, Ev (fun k => impl_SendWalkers k ((lo, lr), w64 (n.tdiv 2), [0, w64 (n - 1)], 8)) ([x, x], true)) :
    Ev (fun k => laws_FnWalkersSent_c_c_c_2_c_c_c_2_c_c_c k (n, (lo, lr), eleven, walkers, low, high, thirteen, all)) true := by
  have h4 := v4 walkers low high all thirteen h
  refine Ev.step (fun k => laws_FnWalkersSent_c_c_c_2_c_c_c_2_c_c_c.eq k n lo lr eleven walkers low high thirteen all) ?_
  cases eleven with
  | false => exact Ev.no rfl (Ev.bind h4 (Ev.now _))
  | true =>
    cases hm : (n.tmod 2 == 1) with
    | false => exact Ev.yes rfl (Ev.no rfl (Ev.bind h4 (Ev.now _)))
    | true =>
      obtain ⟨x, hx⟩ := hl rfl hm
      exact Ev.yes rfl (Ev.yes rfl (Ev.bind hx (Ev.no rfl (Ev.yes rfl (Ev.yes rfl (Ev.no (neq_self _) (Ev.bind h4 (Ev.now _))))))))
theorem v2 (o : OutR) (r : List Int) (nine : Bool) (h : FillsOk walkers low high all thirteen) (hl : eleven = true → (n.tmod 2 == 1) = true → ∃ x, Ev (fun k => impl_SendWalkers k ((lo, lr), w64 (n.tdiv 2), [0, w64 (n - 1)], 8)) ([x, x], true))
    (h9 : nine = true → Ev (fun k => impl_WalkLoop k ((o, r), 0)) (0, w64 (2 * n), true)) : Ev (fun k => laws_FnWalkersSent_c_c_c_2_c_c_c_2_c_c k (n, (o, r), nine, (lo, lr), eleven, walkers, low, high, thirteen, all)) true := by
  have h3 := v3 lo lr eleven n walkers low high all thirteen h hl
  refine Ev.step (fun k => laws_FnWalkersSent_c_c_c_2_c_c_c_2_c_c.eq k n o r nine lo lr eleven walkers low high thirteen all) ?_
  cases nine with
  | false => exact Ev.no rfl (Ev.bind h3 (Ev.now _))
  | true => exact Ev.yes rfl (Ev.bind (h9 rfl) (Ev.no rfl (Ev.no rfl (Ev.no (neq_self _) (Ev.bind h3 (Ev.now _))))))
theorem turn_l_ev (uo : OutR) (ur : List Int) (a : Int) (H : OkR uo (ur, a)) (o : OutR) (r : List Int) (nine : Bool) (N : Nat) (hN : N ≤ 100) : ∀ (m i : Nat), i + m = N →
    Ev (fun k => laws_FnWalkersSent_c_c_c_2_c_c_c_2_c_l k ((uo, ur), a, n, (o, r), nine, (lo, lr), eleven, walkers, low, high, thirteen, all, (uo, turnR uo ur a i), (N : Int), (i : Int))) (.inr ((uo, ur), n, (o, r), nine, (lo, lr), eleven, walkers, low, high, thirteen, all, (uo, turnR uo ur a N)))
  | 0, i, h => by
    obtain rfl : i = N := by omega
    exact Ev.step (fun k => laws_FnWalkersSent_c_c_c_2_c_c_c_2_c_l.eq k uo ur a n o r nine lo lr eleven walkers low high thirteen all uo (turnR uo ur a i) (i : Int) (i : Int)) (Ev.no (not_lt_nat (Nat.lt_irrefl _)) (Ev.now _))
  | m + 1, i, h => by
    have ih := turn_l_ev uo ur a H o r nine N hN m (i + 1) (by omega)
    have hk := turn_ok H i
    rcases turnRotor_ev uo (turnR uo ur a i) hk.1.fit a with ⟨_, g1, _⟩ | ⟨g, _⟩
    · refine Ev.step (fun k => laws_FnWalkersSent_c_c_c_2_c_c_c_2_c_l.eq k uo ur a n o r nine lo lr eleven walkers low high thirteen all uo (turnR uo ur a i) (N : Int) (i : Int)) (Ev.yes (lt_nat (by omega)) (Ev.bind g1 (Ev.no rfl ?_)))
      rw [w64_succ (by omega)]
      exact ih
    · exact absurd hk g
theorem v1 (uo : OutR) (ur : List Int) (a : Int) (seven : Bool) (h7 : seven = true → OkR uo (ur, a)) (o : OutR) (r : List Int) (nine : Bool) (h : FillsOk walkers low high all thirteen) (hl : eleven = true → (n.tmod 2 == 1) = true → ∃ x, Ev (fun k => impl_SendWalkers k ((lo, lr), w64 (n.tdiv 2), [0, w64 (n - 1)], 8)) ([x, x], true))
    (h9 : nine = true → Ev (fun k => impl_WalkLoop k ((o, r), 0)) (0, w64 (2 * n), true)) : Ev (fun k => laws_FnWalkersSent_c_c_c_2_c_c_c_2_c k ((uo, ur), a, seven, n, (o, r), nine, (lo, lr), eleven, walkers, low, high, thirteen, all)) true := by
  have h2 := v2 lo lr eleven n walkers low high all thirteen o r nine h hl h9
  refine Ev.step (fun k => laws_FnWalkersSent_c_c_c_2_c_c_c_2_c.eq k uo ur a seven n o r nine lo lr eleven walkers low high thirteen all) ?_
  cases seven with
  | false => exact Ev.no rfl (Ev.bind h2 (Ev.now _))
  | true =>
    have H := h7 rfl
    obtain ⟨i, hi⟩ := Int.eq_ofNat_of_zero_le H.2.1
    have hi : a = (i : Int) := hi
    subst hi
    have hil : i < uo.length := by have := H.2.2; simp only at this; omega
    have hrow := (row_len H hil).1
    have hgo : List.getD uo (i : Int).toNat [] = rowN uo i := rfl
    have full := turn_full H
    rw [Int.toNat_natCast] at full
    have tl := turn_l_ev lo lr eleven n walkers low high all thirteen uo ur (i : Int) H o r nine (rowN uo i).length (by omega) (rowN uo i).length 0 (by omega)
    rw [full] at tl
    rw [hgo]
    exact Ev.yes rfl (Ev.yes (inB_nat hil) (Ev.bind tl (Ev.bind (kRoute_self uo ur H.1.fit) (Ev.no rfl (Ev.bind h2 (Ev.now _))))))
theorem v0 (so : OutR) (sr : List Int) (five : Bool) (zo : OutR) (zr : List Int) (h5 : five = true → RouteOk so sr ∧ zo = so ∧ zr = zeroL sr) (uo : OutR) (ur : List Int) (a : Int) (seven : Bool) (h7 : seven = true → OkR uo (ur, a)) (o : OutR) (r : List Int) (nine : Bool) (h : FillsOk walkers low high all thirteen) (hl : eleven = true → (n.tmod 2 == 1) = true → ∃ x, Ev (fun k => impl_SendWalkers k ((lo, lr), w64 (n.tdiv 2), [0, w64 (n - 1)], 8)) ([x, x], true))
    (h9 : nine = true → Ev (fun k => impl_WalkLoop k ((o, r), 0)) (0, w64 (2 * n), true)) : Ev (fun k => laws_FnWalkersSent_c_c_c_2_c_c_c_2 k ((so, sr), (zo, zr), five, (uo, ur), a, seven, n, (o, r), nine, (lo, lr), eleven, walkers, low, high, thirteen, all)) true := by
  have h1 := v1 lo lr eleven n walkers low high all thirteen uo ur a seven h7 o r nine h hl h9
  refine Ev.step (fun k => laws_FnWalkersSent_c_c_c_2_c_c_c_2.eq k so sr zo zr five uo ur a seven n o r nine lo lr eleven walkers low high thirteen all) ?_
  cases five with
  | false => exact Ev.no rfl (Ev.bind h1 (Ev.now _))
  | true =>
    obtain ⟨p, rfl, rfl⟩ := h5 rfl
    have hz := zero_ok p
    have e : zeroL (zeroL sr) = zeroL sr := by simp [zeroL]
    rcases reset_ev zo (zeroL sr) hz.fit with ⟨_, g1, _⟩ | ⟨g, _⟩
    · rw [e] at g1
      exact Ev.yes rfl (Ev.bind g1 (Ev.no rfl (Ev.bind (kRoute_self zo (zeroL sr) hz.fit) (Ev.no rfl (Ev.bind (kRows_self zo hz.fit.1 hz.fit.2.2) (Ev.no rfl (Ev.bind (zero_sum sr p.fit.2.1) (Ev.no rfl (Ev.bind h1 (Ev.now _))))))))))
    · exact absurd hz g
end
theorem second (more : List Int) (hm : ∀ x ∈ more, 0 ≤ x ∧ x ≤ 255) : Ev (fun k => laws_FnWalkersSent_c_c_c_2 k more) true := by
  obtain ⟨so, sr, node, goal, ds, hts⟩ := drawSteps_ev more hm
  have hfs := hts.fit
  obtain ⟨steps, one, s1, s2, s3⟩ := stepsTo_ev so sr hfs node goal
  obtain ⟨can, three, c1, c2, c3⟩ := canWalk_ev so sr hfs node goal
  obtain ⟨zo, zr, five, r1, r2, r3, r4⟩ : ∃ zo zr five, Ev (fun k => impl_ResetRoute k (so, sr)) ((zo, zr), five) ∧ Ev (fun k => spec_ResetRoute k (so, sr)) ((zo, zr), five) ∧ FitR zo zr ∧ (five = true → RouteOk so sr ∧ zo = so ∧ zr = zeroL sr) := by
    rcases reset_ev so sr hfs with ⟨g, g1, g2⟩ | ⟨g, g1, g2⟩
    · exact ⟨_, _, _, g1, g2, (zero_ok g).fit, fun _ => ⟨g, rfl, rfl⟩⟩
    · exact ⟨_, _, _, g1, g2, fit_nil, nofun⟩
  obtain ⟨uo, ur, a, du, htu⟩ := drawStep_ev more hm
  obtain ⟨wo, wr, seven, t1, t2, t3, t4⟩ : ∃ wo wr seven, Ev (fun k => impl_TurnRotor k ((uo, ur), a)) ((wo, wr), seven) ∧ Ev (fun k => spec_TurnRotor k ((uo, ur), a)) ((wo, wr), seven) ∧ FitR wo wr ∧ (seven = true → OkR uo (ur, a)) := by
    rcases turnRotor_ev uo ur htu.fit a with ⟨g, g1, g2⟩ | ⟨g, g1, g2⟩
    · exact ⟨_, _, _, g1, g2, (stp_ok g).1.fit, fun _ => g⟩
    · exact ⟨_, _, _, g1, g2, fit_nil, nofun⟩
  obtain ⟨n, c9, e9, hn, _⟩ := among_ev 0 _ (CurOk.start hm) (by omega) [1, 2, 3, 5, 10, 11, 0, -1] (by simp)
  obtain ⟨⟨no, nr, nine, n1, n2, n3, n4⟩, lo, lr, eleven, l1, l2, l3, l4⟩ := nine_ev n hn
  obtain ⟨w, c10, e10, hw, _⟩ := among_ev 0 _ (CurOk.start hm) (by omega) [1, 2, 3, 4, 7, 20, 40, 41, 0] (by simp)
  obtain ⟨low, high, all, thirteen, f1, f2, f3, f4, f5⟩ : ∃ low high all thirteen, Ev (fun k => impl_FillLine k w) (low, high, thirteen) ∧ Ev (fun k => spec_FillLine k w) (low, high, thirteen) ∧ Ev (fun k => impl_FillSteps k w) (all, thirteen) ∧ Ev (fun k => spec_FillSteps k w) (all, thirteen) ∧ FillsOk w low high all thirteen := by
    by_cases hb : 1 ≤ w ∧ w ≤ 40
    · obtain ⟨c, rfl⟩ := Int.eq_ofNat_of_zero_le (show 0 ≤ w by omega)
      obtain ⟨c, rfl⟩ : ∃ c', c = c' + 1 := ⟨c - 1, by omega⟩
      obtain ⟨s, L, H, hr, hp⟩ := reach_all c (by omega)
      obtain ⟨i1, i2, _⟩ := fill_ev (by omega) hr
      have wi := (within_ev ((c + 1 : Nat) : Int) 1 40).isT hb
      have ws := (l1In_ev ((c + 1 : Nat) : Int) 1 40).isT hb
      exact ⟨_, _, _, true, Ev.step (fun k => impl_FillLine.eq k ((c + 1 : Nat) : Int)) (Ev.bind wi (Ev.no rfl (Ev.bind i1 (Ev.now _)))), Ev.step (fun k => spec_FillLine.eq k ((c + 1 : Nat) : Int)) (Ev.bind ws (Ev.no rfl (Ev.bind i2 (Ev.now _)))), Ev.step (fun k => impl_FillSteps.eq k ((c + 1 : Nat) : Int)) (Ev.bind wi (Ev.no rfl (Ev.bind i1 (Ev.now _)))), Ev.step (fun k => spec_FillSteps.eq k ((c + 1 : Nat) : Int)) (Ev.bind ws (Ev.no rfl (Ev.bind i2 (Ev.now _)))),
        fun _ => ⟨c + 1, L, H, s, rfl, by omega, rfl, rfl, rfl, hr, fun h => hp (by omega)⟩⟩
    · have wi := (within_ev w 1 40).isF hb
      have ws := (l1In_ev w 1 40).isF hb
      exact ⟨0, 0, 0, false, Ev.step (fun k => impl_FillLine.eq k w) (Ev.bind wi (Ev.yes rfl (Ev.now _))), Ev.step (fun k => spec_FillLine.eq k w) (Ev.bind ws (Ev.yes rfl (Ev.now _))), Ev.step (fun k => impl_FillSteps.eq k w) (Ev.bind wi (Ev.yes rfl (Ev.now _))), Ev.step (fun k => spec_FillSteps.eq k w) (Ev.bind ws (Ev.yes rfl (Ev.now _))), nofun⟩
  have drawU : Ev (fun k => spec_DrawTurnRotor k more) ((uo, ur), a) := Ev.step (fun k => spec_DrawTurnRotor.eq k more) (Ev.bind du (Ev.now _))
  have drawN : Ev (fun k => spec_DrawRingRoute k more) n := Ev.step (fun k => spec_DrawRingRoute.eq k more) (Ev.bind e9 (Ev.now _))
  have drawW : Ev (fun k => spec_DrawFillLine k more) w := Ev.step (fun k => spec_DrawFillLine.eq k more) (Ev.bind e10 (Ev.now _))
  have h0 := v0 lo lr eleven n w low high all thirteen so sr five zo zr r4 uo ur a seven t4 no nr nine f5 l4 n4
  have tail : Ev (fun k => laws_FnWalkersSent_c_c_c_2_c_c k ((so, sr), node, goal, steps, one, (zo, zr), five, (uo, ur), a, seven, n, (no, nr), nine, (lo, lr), eleven, w, low, high, thirteen, all)) true := by
    refine Ev.step (fun k => laws_FnWalkersSent_c_c_c_2_c_c.eq k so sr node goal steps one zo zr five uo ur a seven n no nr nine lo lr eleven w low high thirteen all) ?_
    cases one with
    | false => exact Ev.no rfl (Ev.bind h0 (Ev.now _))
    | true =>
      obtain ⟨H, hg, j, hj, rfl⟩ := s3 rfl
      have hwk : WalkOk so sr node (j : Int) := ⟨H, by have := hj.2.1; omega⟩
      have e1 := (walk_yes so sr node (j : Int) hfs hwk).1
      have e2 := (visits_yes so sr node (j : Int) hfs hwk).1
      rw [Int.toNat_natCast] at e1 e2
      have hgj : (walkR so (sr, node) j).2 = goal := by have := hj.2.2.1; simpa using this
      obtain ⟨v, hv⟩ := Int.eq_ofNat_of_zero_le hg.1
      have hvl : v < so.length := by have := hg.2; omega
      have hvis : (visL so (sr, node) j)[v]? = some ((visR so (sr, node) j v : Nat) : Int) := range_get _ hvl
      rw [vis_first hj hv] at hvis
      have hlv : (visL so (sr, node) j).length = so.length := by simp [visL]
      have mid : Ev (fun k => laws_FnWalkersSent_c_c_c_2_c_c_c k ((so, sr), node, goal, (j : Int), (zo, zr), five, (uo, ur), a, seven, n, (no, nr), nine, (lo, lr), eleven, w, low, high, thirteen, all, (walkR so (sr, node) j).2, true)) (.inr ((so, sr), (zo, zr), five, (uo, ur), a, seven, n, (no, nr), nine, (lo, lr), eleven, w, low, high, thirteen, all)) := by
        refine Ev.step (fun k => laws_FnWalkersSent_c_c_c_2_c_c_c.eq k so sr node goal (j : Int) zo zr five uo ur a seven n no nr nine lo lr eleven w low high thirteen all (walkR so (sr, node) j).2 true) ?_
        rw [hgj]
        refine Ev.no rfl (Ev.no (neq_self _) (Ev.bind e2 (Ev.no rfl ?_)))
        rw [hv, Int.toNat_natCast, getD_at hvis]
        exact Ev.yes (inB_nat (by show v < (visL so (sr, node) j).length; omega)) (Ev.no rfl (Ev.now _))
      exact Ev.yes rfl (Ev.bind e1 (Ev.bind mid (Ev.bind h0 (Ev.now _))))
  have c2c : Ev (fun k => laws_FnWalkersSent_c_c_c_2_c k ((so, sr), node, goal, steps, one, steps, one, can, three, can, three, (zo, zr), five, (zo, zr), five, (uo, ur), a, (wo, wr), seven, (wo, wr), seven, n, (no, nr), nine, (no, nr), nine, (lo, lr), eleven, (lo, lr), eleven, w, low, high, thirteen, low, high, thirteen, all, thirteen, all, thirteen)) true := by
    refine Ev.step (fun k => laws_FnWalkersSent_c_c_c_2_c.eq k so sr node goal steps one steps one can three can three zo zr five zo zr five uo ur a wo wr seven wo wr seven n no nr nine no nr nine lo lr eleven lo lr eleven w low high thirteen low high thirteen all thirteen all thirteen)
      (Ev.no (bb one) (Ev.no (neq_self _) (Ev.no (bb three) (Ev.no (bb can) (Ev.no (bb five) (Ev.bind (kRoute_self zo zr r3) (Ev.no rfl (Ev.no (bb seven) (Ev.bind (kRoute_self wo wr t3) (Ev.no rfl (Ev.no (bb nine) (Ev.bind (kRoute_self no nr n3) (Ev.no rfl (Ev.no (bb eleven) (Ev.bind (kRoute_self lo lr l3) (Ev.no rfl (Ev.no (bb thirteen) (Ev.no (neq_self _) (Ev.no (neq_self _) (Ev.no (bb thirteen) (Ev.no (neq_self _) (Ev.no (bb thirteen) ?_))))))))))))))))))))))
    cases h1 : one with
    | false => rw [h1] at tail; exact Ev.no rfl (Ev.bind tail (Ev.now _))
    | true =>
      obtain ⟨H, hg, j, hj, _⟩ := s3 h1
      obtain ⟨k1, k2⟩ := c3 H.1 H.2 hg
      have k3 := k2 j (by have := walk_path H j; have e : (walkR so (sr, node) j).2 = goal := by simpa using hj.2.2.1
                          rw [e] at this; exact this)
      rw [h1] at tail
      exact Ev.yes rfl (Ev.yes k1 (Ev.no (by rw [k3]; rfl) (Ev.bind tail (Ev.now _))))
  exact Ev.step (fun k => laws_FnWalkersSent_c_c_c_2.eq k more) (Ev.bind ds (Ev.bind s1 (Ev.bind s2 (Ev.bind c1 (Ev.bind c2 (Ev.bind r1 (Ev.bind r2 (Ev.bind drawU (Ev.bind t1 (Ev.bind t2 (Ev.bind drawN (Ev.bind n1 (Ev.bind n2 (Ev.bind l1 (Ev.bind l2 (Ev.bind drawW (Ev.bind f1 (Ev.bind f2 (Ev.bind f3 (Ev.bind f4 (Ev.bind c2c (Ev.now _))))))))))))))))))))))
theorem main (code more : List Int) (h1 : code.length ≤ 9223372036854775807) (h2 : more.length ≤ 9223372036854775807) (hc : ∀ x ∈ code, 0 ≤ x ∧ x ≤ 255) (hm : ∀ x ∈ more, 0 ≤ x ∧ x ≤ 255) : ∃ k, laws_FnWalkersSent k (code, more) = some true := by
  refine Ev.rounds (Ev.step (fun k => laws_FnWalkersSent.eq k code more) ?_)
  obtain ⟨b, hb, hbig⟩ := big_ev code more h1 h2
  refine Ev.bind hb (Ev.cond (fun _ => Ev.now _) fun hn => ?_)
  obtain ⟨o, r, a, ends, count, hd, ht, hl⟩ := drawSend_ev code hc
  obtain ⟨out, ok, e1, e2, e3, e4⟩ := sends_ev o r ht.fit a ends (by omega) count
  exact Ev.bind hd (Ev.bind e1 (Ev.bind e2 (Ev.bind (first more o r ht.fit a ends count out ok e3 e4 (second more hm)) (Ev.now _))))
theorem good8 {x : Int} (h : (Sh.int IntKind.u8).good x) : 0 ≤ x ∧ x ≤ 255 := by
  have h : (Lit.int .u8 x).wf = true := h
  simp [Lit.wf, IntKind.min, IntKind.max, IntKind.bits, IntKind.signed] at h
  omega
theorem pure : ∀ d : Dl laws_FnWalkersSent.ins, goodL laws_FnWalkersSent.ins d → ∃ k, laws_FnWalkersSent k d = some true := by
  rintro ⟨code, more⟩ hg
  exact main code more hg.1.1 hg.2.1 (fun x hx => good8 (hg.1.2 x hx)) (fun x hx => good8 (hg.2.2 x hx))
end Go.Proofs.YtiaagflfiphioaaDoor.fnWalkersSent
