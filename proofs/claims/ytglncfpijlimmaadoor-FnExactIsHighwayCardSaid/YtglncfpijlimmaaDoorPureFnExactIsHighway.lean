/- The plain law FnExactIsHighway. -/
import Derived.Test.YtglncfpijlimmaaDoorOk
import Derived.Test.YtglncfpijlimmaaDoorPuPlain2
namespace Go.Proofs.YtglncfpijlimmaaDoor.fnExactIsHighway
open Go Go.Proofs Go.Proofs.YtglncfpijlimmaaDoorS
set_option linter.unusedVariables false
set_option linter.unusedSimpArgs false
def upd (is : Bool) (sg first : ByteArray) (a dx b dy : Int) : Bool := is && (strEq sg first && (a == dx && b == dy))
theorem tree_ev {R : Type} (f : Nat → Bool → Option R) (is : Bool) (sg first : ByteArray) (a dx b dy : Int) (r : R) (H : Ev (fun k => f k (upd is sg first a dx b dy)) r) : Ev (fun k => cond is (cond (strEq sg first) (cond (a == dx) (f k (b == dy)) (f k false)) (f k false)) (f k false)) r := by
  unfold upd at H
  revert H
  cases is
  · exact fun H => H
  · cases strEq sg first
    · exact fun H => H
    · cases (a == dx)
      · exact fun H => H
      · exact fun H => H
theorem bad (p : Int) (G : ByteArray × List (Pt × Int) × Int × Int × Int) (tu : ByteArray) (dx dy : Int) (is : Bool) (t : Int) (ht : t < 2) : Ev (fun k => impl_IsHighway_l k (p, G, tu, dx, dy, false, is, t)) (.inl (false, false)) :=
  Ev.step (fun k => impl_IsHighway_l.eq k p G.1 G.2.1 G.2.2.1 G.2.2.2.1 G.2.2.2.2 tu dx dy false is t) (Ev.yes (decide_eq_true ht) (Ev.yes rfl (Ev.now _)))
theorem bad2 (p : Int) (G : ByteArray × List (Pt × Int) × Int × Int × Int) (tu : ByteArray) (dx dy : Int) (ok is : Bool) : Ev (fun k => impl_IsHighway_l k (p, G, tu, dx, dy, ok, is, 2)) (.inr (ok, is)) :=
  Ev.step (fun k => impl_IsHighway_l.eq k p G.1 G.2.1 G.2.2.1 G.2.2.2.1 G.2.2.2.2 tu dx dy ok is 2) (Ev.no rfl (Ev.now _))
theorem both (rl : ByteArray) (sp : List Sp) (x y wy n p : Int) (hrl : rl.size ≤ 9223372036854775807) (hsp : sp.length ≤ 1048576) : ∃ v : Bool × Bool, Ev (fun k => spec_IsHighway k ((rl, sp, x, y, wy), n, p)) v ∧ Ev (fun k => impl_IsHighway k ((rl, sp, x, y, wy), n, p)) v := by
  have a1 := isRun_ev rl sp x y wy n hsp hrl
  have a2 := enSteps_ev rl sp x y wy n hsp
  by_cases H : PlainOk rl sp x y wy ∧ (0 ≤ n ∧ n ≤ 1000)
  rotate_left
  · exact ⟨(false, false), Ev.step (fun k => spec_IsHighway.eq k rl sp x y wy n p) (Ev.bind (a2.isF H) (Ev.yes rfl (Ev.now _))), Ev.step (fun k => impl_IsHighway.eq k rl sp x y wy n p) (Ev.bind (a1.isF H) (Ev.yes rfl (Ev.now _)))⟩
  obtain ⟨HP, h0, h1⟩ := id H
  have ew : (w64 ((w64 (1000 - n)).tdiv 3)) ≤ 333 := by
    rw [w64_of (n := 1000 - n) (by omega) (by omega), Int.tdiv_eq_ediv_of_nonneg (by omega), w64_of (by omega) (by omega)]
    omega
  have j1 := l1In_ev p 1 (w64 ((w64 (1000 - n)).tdiv 3))
  have j2 := within_ev p 1 (w64 ((w64 (1000 - n)).tdiv 3))
  by_cases hp : 1 ≤ p ∧ p ≤ w64 ((w64 (1000 - n)).tdiv 3)
  rotate_left
  · exact ⟨(false, false), Ev.step (fun k => spec_IsHighway.eq k rl sp x y wy n p) (Ev.bind (a2.isT H) (Ev.no rfl (Ev.bind (j1.isF hp) (Ev.yes rfl (Ev.now _))))), Ev.step (fun k => impl_IsHighway.eq k rl sp x y wy n p) (Ev.bind (a1.isT H) (Ev.no rfl (Ev.bind (j2.isF hp) (Ev.yes rfl (Ev.now _)))))⟩
  have i1 := j1.isT hp
  have i2 := j2.isT hp
  obtain ⟨N, rfl⟩ := Int.eq_ofNat_of_zero_le h0
  obtain ⟨P, rfl⟩ := Int.eq_ofNat_of_zero_le (show 0 ≤ p by omega)
  have hg := going_ev rl x y wy sp hsp (keys_of HP.2.2.2.2.2)
  rcases run_ev rl N (by omega) sp x y wy _ HP (List.Perm.refl _) with ⟨sp0, x0, y0, wy0, g0, sg0, HP0, hg0, q1, q2⟩ | ⟨G, q1, q2⟩
  rotate_left
  · exact ⟨(false, false), Ev.step (fun k => spec_IsHighway.eq k rl sp x y wy N P) (Ev.bind (a2.isT H) (Ev.no rfl (Ev.bind i1 (Ev.no rfl (Ev.bind q1 (Ev.yes rfl (Ev.now _))))))), Ev.step (fun k => impl_IsHighway.eq k rl sp x y wy N P) (Ev.bind (a1.isT H) (Ev.no rfl (Ev.bind i2 (Ev.no rfl (Ev.bind hg (Ev.bind q2 (Ev.yes rfl (Ev.now _))))))))⟩
  have goS : ∀ r, Ev (fun k => (spec_IsHighway_l k ((P : Int), (rl, sp0, x0, y0, wy0), true, ByteArray.empty, 0, 0, 0)).bind fun r4 => r4.elim (fun r5 => some r5) (fun r6 => cond r6.1 (cond (r6.2.1 != 0) (some (true, true)) (some ((r6.2.2 != 0), true))) (some (false, true)))) r → Ev (fun k => spec_IsHighway k ((rl, sp, x, y, wy), (N : Int), (P : Int))) r := fun r hr => Ev.step (fun k => spec_IsHighway.eq k rl sp x y wy N P) (Ev.bind (a2.isT H) (Ev.no rfl (Ev.bind i1 (Ev.no rfl (Ev.bind q1 (Ev.no rfl hr))))))
  have dr : ∀ (g : List (Pt × Int)) (x y wy : Int) (sg : ByteArray) (ok : Bool) (G : ByteArray × List (Pt × Int) × Int × Int × Int), Ev (fun k => impl_going_run k ((rl, g, x, y, wy), (P : Int))) ((sg, ok), G) → Ev (fun k => impl_going_drift k ((rl, g, x, y, wy), (P : Int))) ((sg, w64 (G.2.2.1 - x), w64 (G.2.2.2.1 - y), ok), G) := fun g x y wy sg ok G h => Ev.step (fun k => impl_going_drift.eq k rl g x y wy P) (Ev.bind h (Ev.now _))
  have goI : ∀ (sg : ByteArray) (dx dy : Int) (ok : Bool) (G : ByteArray × List (Pt × Int) × Int × Int × Int) (r : Bool × Bool), Ev (fun k => impl_going_drift k ((rl, g0, x0, y0, wy0), (P : Int))) ((sg, dx, dy, ok), G) →
      Ev (fun k => (impl_IsHighway_l k ((P : Int), G, sg, dx, dy, ok, ((dx != 0) || (dy != 0)), 0)).bind fun r9 => r9.elim (fun r10 => some r10) (fun r11 => cond r11.1 (some (r11.2, r11.1)) (some (false, r11.1)))) r → Ev (fun k => impl_IsHighway k ((rl, sp, x, y, wy), (N : Int), (P : Int))) r := fun sg dx dy ok G r hd hr => by
    refine Ev.step (fun k => impl_IsHighway.eq k rl sp x y wy N P) (Ev.bind (a1.isT H) (Ev.no rfl (Ev.bind i2 (Ev.no rfl (Ev.bind hg (Ev.bind q2 (Ev.no rfl (Ev.bind hd ?_))))))))
    cases hx : (dx != 0) with
    | true => rw [hx] at hr; exact Ev.yes rfl hr
    | false => rw [hx] at hr; exact Ev.no rfl hr
  -- the first period
  rcases run_ev rl P (by omega) sp0 x0 y0 wy0 g0 HP0 hg0 with ⟨sp1, x1, y1, wy1, g1, sg1, HP1, hg1, s1, t1⟩ | ⟨G, s1, t1⟩
  rotate_left
  · exact ⟨(false, false), goS _ (Ev.bind (Ev.step (fun k => spec_IsHighway_l.eq k P rl sp0 x0 y0 wy0 true ByteArray.empty 0 0 0) (Ev.yes rfl (Ev.bind s1 (Ev.yes rfl (Ev.now _))))) (Ev.now _)), goI _ _ _ _ _ _ (dr _ _ _ _ _ _ _ t1) (Ev.bind (bad _ _ _ _ _ _ 0 (by omega)) (Ev.now _))⟩
  have goS1 : ∀ r, Ev (fun k => spec_IsHighway_l k ((P : Int), (rl, sp1, x1, y1, wy1), true, sg1, w64 (x1 - x0), w64 (y1 - y0), 1)) r → Ev (fun k => spec_IsHighway_l k ((P : Int), (rl, sp0, x0, y0, wy0), true, ByteArray.empty, 0, 0, 0)) r := fun r hr => by
    refine Ev.step (fun k => spec_IsHighway_l.eq k P rl sp0 x0 y0 wy0 true ByteArray.empty 0 0 0) (Ev.yes rfl (Ev.bind s1 (Ev.no rfl (Ev.yes rfl (Ev.yes rfl ?_)))))
    dsimp only
    rw [strEq_self, beq_self_eq_true, beq_self_eq_true]
    exact Ev.yes rfl (Ev.yes rfl hr)
  have d1 := dr _ _ _ _ _ _ _ t1
  have goI1 : ∀ (b : Bool) (r : Bool × Bool), Ev (fun k => (impl_IsHighway_l k ((P : Int), (rl, g1, x1, y1, wy1), sg1, w64 (x1 - x0), w64 (y1 - y0), true, ((w64 (x1 - x0) != 0) || (w64 (y1 - y0) != 0)), 0)).bind fun r9 => r9.elim (fun r10 => some r10) (fun r11 => cond r11.1 (some (r11.2, r11.1)) (some (false, r11.1)))) r → Ev (fun k => impl_IsHighway k ((rl, sp, x, y, wy), (N : Int), (P : Int))) r := fun b r hr => goI _ _ _ _ _ r d1 hr
  generalize w64 (x1 - x0) = dx at goS1 goI1
  generalize w64 (y1 - y0) = dy at goS1 goI1
  have one : ∀ (sp1 : List Sp) (g1 : List (Pt × Int)) (x1 y1 wy1 : Int) (is : Bool) (t : Int), (t = 1 ∨ t = 2) → ∀ r, Ev (fun k => (spec_enAfter k ((rl, sp1, x1, y1, wy1), (P : Int))).bind fun r1 => cond (!r1.2.2) (some (.inl (false, false))) (cond is (cond (strEq r1.2.1 sg1) (cond ((w64 (r1.1.2.2.1 - x1)) == dx) (spec_IsHighway_l k ((P : Int), r1.1, ((w64 (r1.1.2.2.2.1 - y1)) == dy), sg1, dx, dy, t + 1)) (spec_IsHighway_l k ((P : Int), r1.1, false, sg1, dx, dy, t + 1))) (spec_IsHighway_l k ((P : Int), r1.1, false, sg1, dx, dy, t + 1))) (spec_IsHighway_l k ((P : Int), r1.1, false, sg1, dx, dy, t + 1)))) r → Ev (fun k => spec_IsHighway_l k ((P : Int), (rl, sp1, x1, y1, wy1), is, sg1, dx, dy, t)) r := fun sp1 g1 x1 y1 wy1 is t ht r hr => by
    have e : w64 (t + 1) = t + 1 := w64_of (by omega) (by omega)
    refine Ev.step (fun k => spec_IsHighway_l.eq k P rl sp1 x1 y1 wy1 is sg1 dx dy t) (Ev.yes (decide_eq_true (by omega)) ?_)
    rw [e, show (t == 0) = false by rw [beq_eq_false_iff_ne]; omega]
    exact hr
  have oneI : ∀ (g1 : List (Pt × Int)) (x1 y1 wy1 : Int) (is : Bool) (t : Int), (t = 0 ∨ t = 1) → ∀ r, Ev (fun k => (impl_going_drift k ((rl, g1, x1, y1, wy1), (P : Int))).bind fun r1 => cond is (cond (strEq r1.1.1 sg1) (cond (r1.1.2.1 == dx) (impl_IsHighway_l k ((P : Int), r1.2, sg1, dx, dy, r1.1.2.2.2, (r1.1.2.2.1 == dy), t + 1)) (impl_IsHighway_l k ((P : Int), r1.2, sg1, dx, dy, r1.1.2.2.2, false, t + 1))) (impl_IsHighway_l k ((P : Int), r1.2, sg1, dx, dy, r1.1.2.2.2, false, t + 1))) (impl_IsHighway_l k ((P : Int), r1.2, sg1, dx, dy, r1.1.2.2.2, false, t + 1))) r → Ev (fun k => impl_IsHighway_l k ((P : Int), (rl, g1, x1, y1, wy1), sg1, dx, dy, true, is, t)) r := fun g1 x1 y1 wy1 is t ht r hr => by
    have e : w64 (t + 1) = t + 1 := w64_of (by omega) (by omega)
    refine Ev.step (fun k => impl_IsHighway_l.eq k P rl g1 x1 y1 wy1 sg1 dx dy true is t) (Ev.yes (decide_eq_true (by omega)) (Ev.no rfl ?_))
    rw [e]
    exact hr
  -- the second
  rcases run_ev rl P (by omega) sp1 x1 y1 wy1 g1 HP1 hg1 with ⟨sp2, x2, y2, wy2, g2, sg2, HP2, hg2, s2, t2⟩ | ⟨G, s2, t2⟩
  rotate_left
  · exact ⟨(false, false), goS _ (Ev.bind (goS1 _ (one sp1 g1 x1 y1 wy1 true 1 (.inl rfl) _ (Ev.bind s2 (Ev.yes rfl (Ev.now _))))) (Ev.now _)), goI1 true _ (Ev.bind (oneI g1 x1 y1 wy1 _ 0 (.inl rfl) _ (Ev.bind (dr _ _ _ _ _ _ _ t2) (tree_ev (fun k is => impl_IsHighway_l k ((P : Int), G, sg1, dx, dy, false, is, 0 + 1)) _ _ _ _ _ _ _ _ (bad _ _ _ _ _ _ (0 + 1) (by omega))))) (Ev.now _))⟩
  -- the third
  rcases run_ev rl P (by omega) sp2 x2 y2 wy2 g2 HP2 hg2 with ⟨sp3, x3, y3, wy3, g3, sg3, HP3, hg3, s3, t3⟩ | ⟨G, s3, t3⟩
  rotate_left
  · exact ⟨(false, false), goS _ (Ev.bind (goS1 _ (one sp1 g1 x1 y1 wy1 true 1 (.inl rfl) _ (Ev.bind s2 (Ev.no rfl (tree_ev (fun k is => spec_IsHighway_l k ((P : Int), (rl, sp2, x2, y2, wy2), is, sg1, dx, dy, 1 + 1)) _ _ _ _ _ _ _ _ (one sp2 g2 x2 y2 wy2 _ (1 + 1) (.inr rfl) _ (Ev.bind s3 (Ev.yes rfl (Ev.now _))))))))) (Ev.now _)),
      goI1 true _ (by
        obtain ⟨b, I3⟩ : ∃ b, Ev (fun k => impl_IsHighway_l k ((P : Int), (rl, g1, x1, y1, wy1), sg1, dx, dy, true, ((dx != 0) || (dy != 0)), 0)) (.inr (false, b)) := ⟨_, oneI g1 x1 y1 wy1 _ 0 (.inl rfl) _ (Ev.bind (dr _ _ _ _ _ _ _ t2) (tree_ev (fun k is => impl_IsHighway_l k ((P : Int), (rl, g2, x2, y2, wy2), sg1, dx, dy, true, is, 0 + 1)) _ _ _ _ _ _ _ _ (oneI g2 x2 y2 wy2 _ (0 + 1) (.inr rfl) _ (Ev.bind (dr _ _ _ _ _ _ _ t3) (tree_ev (fun k is => impl_IsHighway_l k ((P : Int), G, sg1, dx, dy, false, is, 0 + 1 + 1)) _ _ _ _ _ _ _ _ (bad2 _ _ _ _ _ _ _))))))⟩
        exact Ev.bind I3 (show Ev (fun _ => some (false, false)) (false, false) from Ev.now _))⟩
  · obtain ⟨u2, hu2⟩ : ∃ u, u = upd true sg2 sg1 (w64 (x2 - x1)) dx (w64 (y2 - y1)) dy := ⟨_, rfl⟩
    obtain ⟨u3, hu3⟩ : ∃ u, u = upd u2 sg3 sg1 (w64 (x3 - x2)) dx (w64 (y3 - y2)) dy := ⟨_, rfl⟩
    have S : Ev (fun k => spec_IsHighway_l k ((P : Int), (rl, sp0, x0, y0, wy0), true, ByteArray.empty, 0, 0, 0)) (.inr (u3, dx, dy)) := goS1 _ (one sp1 g1 x1 y1 wy1 true 1 (.inl rfl) _ (Ev.bind s2 (Ev.no rfl (tree_ev (fun k is => spec_IsHighway_l k ((P : Int), (rl, sp2, x2, y2, wy2), is, sg1, dx, dy, 1 + 1)) _ _ _ _ _ _ _ _ (by
      rw [← hu2]
      exact one sp2 g2 x2 y2 wy2 _ (1 + 1) (.inr rfl) _ (Ev.bind s3 (Ev.no rfl (tree_ev (fun k is => spec_IsHighway_l k ((P : Int), (rl, sp3, x3, y3, wy3), is, sg1, dx, dy, 1 + 1 + 1)) _ _ _ _ _ _ _ _ (by
        rw [← hu3]
        exact Ev.step (fun k => spec_IsHighway_l.eq k P rl sp3 x3 y3 wy3 u3 sg1 dx dy (1 + 1 + 1)) (Ev.no rfl (Ev.now _)))))))))))
    obtain ⟨b0, hb0⟩ : ∃ b, b = ((dx != 0) || (dy != 0)) := ⟨_, rfl⟩
    obtain ⟨b2, hb2⟩ : ∃ u, u = upd b0 sg2 sg1 (w64 (x2 - x1)) dx (w64 (y2 - y1)) dy := ⟨_, rfl⟩
    obtain ⟨b3, hb3⟩ : ∃ u, u = upd b2 sg3 sg1 (w64 (x3 - x2)) dx (w64 (y3 - y2)) dy := ⟨_, rfl⟩
    have I : Ev (fun k => impl_IsHighway_l k ((P : Int), (rl, g1, x1, y1, wy1), sg1, dx, dy, true, b0, 0)) (.inr (true, b3)) := oneI g1 x1 y1 wy1 _ 0 (.inl rfl) _ (Ev.bind (dr _ _ _ _ _ _ _ t2) (tree_ev (fun k is => impl_IsHighway_l k ((P : Int), (rl, g2, x2, y2, wy2), sg1, dx, dy, true, is, 0 + 1)) _ _ _ _ _ _ _ _ (by
      rw [← hb2]
      exact oneI g2 x2 y2 wy2 _ (0 + 1) (.inr rfl) _ (Ev.bind (dr _ _ _ _ _ _ _ t3) (tree_ev (fun k is => impl_IsHighway_l k ((P : Int), (rl, g3, x3, y3, wy3), sg1, dx, dy, true, is, 0 + 1 + 1)) _ _ _ _ _ _ _ _ (by
        rw [← hb3]
        exact bad2 _ _ _ _ _ _ _))))))
    have e : b3 = (u3 && b0) := by
      rw [hb3, hu3, hb2, hu2]
      unfold upd
      cases b0
      · simp
      · simp
    refine ⟨(b3, true), goS _ (Ev.bind S ?_), goI1 true _ (by rw [← hb0]; exact Ev.bind I (show Ev (fun _ => some (b3, true)) (b3, true) from Ev.now _))⟩
    rw [e, hb0]
    show Ev (fun k => cond u3 (cond (dx != 0) (some (true, true)) (some ((dy != 0), true))) (some (false, true))) _
    cases u3
    · exact Ev.now _
    · cases (dx != 0)
      · exact Ev.now _
      · exact Ev.now _
theorem main (rl : ByteArray) (sp : List Sp) (x y wy n p : Int) (h1 : rl.size ≤ 9223372036854775807) (h2 : sp.length ≤ 9223372036854775807) : ∃ k, laws_FnExactIsHighway k ((rl, sp, x, y, wy), n, p) = some true := by
  refine Ev.rounds (Ev.step (fun k => laws_FnExactIsHighway.eq k rl sp x y wy n p) ?_)
  obtain ⟨r, s1, s2⟩ := szPlain_ev rl sp x y wy h1 h2
  refine Ev.bind s1 (Ev.cond (fun _ => Ev.now _) fun hn => ?_)
  have hl : sp.length ≤ 1048576 := by
    rcases s2 with s2 | s2
    · exact absurd s2 (of_decide_eq_false hn)
    · exact s2
  obtain ⟨⟨v, ok⟩, hs, hi⟩ := both rl sp x y wy n p h1 hl
  have hto := toPlain_ev rl sp x y wy hl
  have heq := eqPlain_ev rl sp x y wy hl
  have ok1 : ∀ b : Bool, (!(b == b)) = false := fun b => by cases b <;> rfl
  exact Ev.bind hto (Ev.bind hs (Ev.bind hto (Ev.bind hi (Ev.no (ok1 v) (Ev.no (ok1 ok) (Ev.bind hto (Ev.bind heq (Ev.no rfl (Ev.now _)))))))))
theorem pure : ∀ d : Dl laws_FnExactIsHighway.ins, goodL laws_FnExactIsHighway.ins d → ∃ k, laws_FnExactIsHighway k d = some true := by
  rintro ⟨⟨rl, sp, x, y, wy⟩, n, p⟩ hg
  exact main rl sp x y wy n p hg.1.1 hg.1.2.1.1
end Go.Proofs.YtglncfpijlimmaaDoor.fnExactIsHighway
