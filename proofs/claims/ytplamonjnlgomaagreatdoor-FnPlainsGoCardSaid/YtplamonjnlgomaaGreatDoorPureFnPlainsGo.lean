/- The plain law FnPlainsGo. -/
import Derived.Test.YtplamonjnlgomaaGreatDoorOk
import Derived.Test.YtplamonjnlgomaaGreatDoorMgPl
namespace Go.Proofs.YtplamonjnlgomaaGreatDoor.fnPlainsGo
open Go Go.Proofs Go.Proofs.YtplamonjnlgomaaGreatDoorS
set_option linter.unusedVariables false
set_option linter.unusedSimpArgs false
set_option maxRecDepth 10000
theorem sameS (s : ByteArray) : (!(strEq s s)) = false := by rw [strEq_self]; rfl
theorem tail (more : List Int) (hm : ∀ x ∈ more, 0 ≤ x ∧ x ≤ 255) : Ev (fun k => (spec_DrawStepPlain k more).bind fun r24 => (impl_StepPlain k r24).bind fun r25 => (spec_StepPlain k r24).bind fun r26 => (spec_DrawIsHighway k more).bind fun r27 => (impl_DriftOf k r27).bind fun r28 => (spec_DriftOf k r27).bind fun r29 => (impl_IsHighway k r27).bind fun r30 => (spec_IsHighway k r27).bind fun r31 => cond (!(r25.2 == r26.2)) (some false) ((laws_dPlain k (r25.1, r26.1)).bind fun r32 => cond (!r32) (some false) (cond (!(r28.2.2 == r29.2.2)) (some false) (cond (r28.1 != r29.1) (some false) (cond (r28.2.1 != r29.2.1) (some false) (cond (!(r30.2 == r31.2)) (some false) (cond (!(r30.1 == r31.1)) (some false) (cond r30.2 (cond (!r28.2.2) (some false) (cond r30.2 (cond r30.1 ((impl_DriftOf k (r27.1, (w64 (r27.2.1 + r27.2.2)), r27.2.2)).bind fun r33 => (impl_DriftOf k (r27.1, r27.2.1, (w64 (3 * r27.2.2)))).bind fun r34 => cond (!r33.2.2) (some false) (cond (!r34.2.2) (some false) (cond (r33.1 != r28.1) (some false) (cond (r33.2.1 != r28.2.1) (some false) (cond (r34.1 != (w64 (3 * r28.1))) (some false) (cond (r34.2.1 != (w64 (3 * r28.2.1))) (some false) (cond (r28.1 == 0) (cond (r28.2.1 == 0) (some false) (some true)) (some true)))))))) (some true)) (some true))) (cond r30.2 (cond r30.1 ((impl_DriftOf k (r27.1, (w64 (r27.2.1 + r27.2.2)), r27.2.2)).bind fun r35 => (impl_DriftOf k (r27.1, r27.2.1, (w64 (3 * r27.2.2)))).bind fun r36 => cond (!r35.2.2) (some false) (cond (!r36.2.2) (some false) (cond (r35.1 != r28.1) (some false) (cond (r35.2.1 != r28.2.1) (some false) (cond (r36.1 != (w64 (3 * r28.1))) (some false) (cond (r36.2.1 != (w64 (3 * r28.2.1))) (some false) (cond (r28.1 == 0) (cond (r28.2.1 == 0) (some false) (some true)) (some true)))))))) (some true)) (some true)))))))))) true := by
  have sb : ∀ b : Bool, (!(b == b)) = false := fun b => by cases b <;> rfl
  obtain ⟨⟨ql, Q⟩, d1, q1, q2⟩ := drawStepP_ev more hm
  obtain ⟨⟨rl, S⟩, n, p, d2, r1, r2⟩ := drawHighP_ev more hm
  simp only at q1 q2 r1 r2
  have z0 := dPlain_ev zeroP (by show ([] : List Sp).length ≤ _; decide)
  have step : ∃ r : Pl × Bool, Ev (fun k => impl_StepPlain k (ql, Q)) r ∧ Ev (fun k => spec_StepPlain k (ql, Q)) r ∧ Ev (fun k => laws_dPlain k (r.1, r.1)) true := by
    obtain ⟨a, b⟩ := plStep_ev ql Q (by omega) (by omega)
    by_cases H : OkP ql Q ∧ OkP ql (stepF ql Q)
    · obtain ⟨a1, a2⟩ := a H
      exact ⟨_, a1, a2, dPlain_ev _ (by show (stepF ql Q).1.length ≤ _; have := H.2.2.1; omega)⟩
    · obtain ⟨a1, a2⟩ := b H
      exact ⟨_, a1, a2, z0⟩
  obtain ⟨W, s1, s2, s3⟩ := step
  obtain ⟨⟨v1, v2⟩, h1, h2, h3⟩ := highway_ev rl S.1 S.2.1 S.2.2.1 S.2.2.2 n p (by omega) (by omega)
  have h1 : Ev (fun k => spec_IsHighway k ((rl, S), n, p)) (v1, v2) := h1
  have h2 : Ev (fun k => impl_IsHighway k ((rl, S), n, p)) (v1, v2) := h2
  have h3 : HwF rl S n p (v1, v2) := h3
  obtain ⟨dr, dn⟩ := plDrift_ev rl S (by omega) (by omega) n p
  cases v2 with
  | false =>
    have drift : ∃ r : Int × Int × Bool, Ev (fun k => impl_DriftOf k ((rl, S), n, p)) r ∧ Ev (fun k => spec_DriftOf k ((rl, S), n, p)) r := by
      by_cases H : OkP rl S ∧ (0 ≤ n ∧ n ≤ 1000) ∧ (0 ≤ p ∧ p ≤ 1000 - n) ∧ ∃ l0 A q, runF rl n.toNat S = some (l0, A) ∧ runF rl p.toNat A = some q
      · obtain ⟨a, b, c, l0, A, ⟨l1, B⟩, d, e⟩ := H
        obtain ⟨x, y⟩ := dr l0 A l1 B a b c d e
        exact ⟨_, x, y⟩
      · obtain ⟨x, y⟩ := dn H
        exact ⟨_, x, y⟩
    obtain ⟨D, e1, e2⟩ := drift
    repeat' first
      | exact Ev.now _
      | refine Ev.bind (by assumption) ?_
      | refine Ev.no (by first | rfl | assumption | exact neq_self _ | exact sb _ | exact sameS _) ?_
      | refine Ev.yes (by first | rfl | assumption) ?_
  | true =>
    obtain ⟨hO, hn, hp, l0, A, l1, B, g1, g2, g3⟩ := h3 rfl
    obtain ⟨e1, e2⟩ := dr l0 A l1 B hO hn (by omega) g1 g2
    have HA := (run_facts rl _ S l0 A hO g1).1
    obtain ⟨HB, _, ⟨b1, b2⟩, ⟨b3, b4⟩⟩ := run_facts rl _ A l1 B HA g2
    cases v1 with
    | false =>
      repeat' first
        | exact Ev.now _
        | refine Ev.bind (by assumption) ?_
        | refine Ev.no (by first | rfl | assumption | exact neq_self _ | exact sb _ | exact sameS _) ?_
        | refine Ev.yes (by first | rfl | assumption) ?_
    | true =>
      obtain ⟨l2, C, l3, D, g4, g5, ⟨f1, f2⟩, ⟨f3, f4⟩, f5⟩ := g3 rfl
      obtain ⟨N, rfl⟩ := Int.eq_ofNat_of_zero_le hn.1
      obtain ⟨P, rfl⟩ := Int.eq_ofNat_of_zero_le (show 0 ≤ p by omega)
      simp only [Int.toNat_natCast] at g1 g2 g4 g5 b1 b2 b3 b4
      have w1 : w64 ((N : Int) + (P : Int)) = (N : Int) + (P : Int) := w64_of (by omega) (by omega)
      have w2 : w64 (3 * (P : Int)) = 3 * (P : Int) := w64_of (by omega) (by omega)
      have t1 : runF rl ((N : Int) + (P : Int)).toNat S = some (l0 ++ l1, B) := by
        rw [show ((N : Int) + (P : Int)).toNat = N + P by omega, run_add, g1]
        show (runF rl P A).map _ = _
        rw [g2]
        rfl
      have t2 : runF rl (3 * (P : Int)).toNat A = some (l1 ++ (l2 ++ l3), D) := by
        rw [show (3 * (P : Int)).toNat = P + (P + P) by omega, run_add, g2]
        show (runF rl (P + P) B).map _ = _
        rw [run_add, g4]
        show ((runF rl P C).map _).map _ = _
        rw [g5]
        rfl
      have u1 := ((plDrift_ev rl S (by omega) (by omega) ((N : Int) + (P : Int)) (P : Int)).1 (l0 ++ l1) B l2 C hO (by omega) (by omega) t1 (by rw [Int.toNat_natCast]; exact g4)).1
      have u2 := ((plDrift_ev rl S (by omega) (by omega) (N : Int) (3 * (P : Int))).1 l0 A (l1 ++ (l2 ++ l3)) D hO (by omega) (by omega) (by rw [Int.toNat_natCast]; exact g1) t2).1
      rw [f1, f2, ← w1] at u1
      rw [show D.2.1 - A.2.1 = 3 * (B.2.1 - A.2.1) by omega, show D.2.2.1 - A.2.2.1 = 3 * (B.2.2.1 - A.2.2.1) by omega, ← w2] at u2
      generalize B.2.1 - A.2.1 = dx at *
      generalize B.2.2.1 - A.2.2.1 = dy at *
      have y1 : (3 * dx != w64 (3 * dx)) = false := by rw [w64_of (by omega) (by omega)]; exact neq_self _
      have y2 : (3 * dy != w64 (3 * dy)) = false := by rw [w64_of (by omega) (by omega)]; exact neq_self _
      by_cases x0 : dx = 0
      · have x1 : (dx == 0) = true := beq_iff_eq.2 x0
        have x2 : (dy == 0) = false := beq_eq_false_iff_ne.2 fun h => f5 ⟨x0, h⟩
        repeat' first
          | exact Ev.now _
          | refine Ev.bind (by assumption) ?_
          | refine Ev.no (by first | rfl | assumption | exact neq_self _ | exact sb _ | exact sameS _) ?_
          | refine Ev.yes (by first | rfl | assumption) ?_
      · have x1 : (dx == 0) = false := beq_eq_false_iff_ne.2 x0
        repeat' first
          | exact Ev.now _
          | refine Ev.bind (by assumption) ?_
          | refine Ev.no (by first | rfl | assumption | exact neq_self _ | exact sb _ | exact sameS _) ?_
          | refine Ev.yes (by first | rfl | assumption) ?_
theorem main (code more : List Int) (h1 : code.length ≤ 9223372036854775807) (h2 : more.length ≤ 9223372036854775807) (hc : ∀ x ∈ code, 0 ≤ x ∧ x ≤ 255) (hm : ∀ x ∈ more, 0 ≤ x ∧ x ≤ 255) : ∃ k, laws_FnPlainsGo k (code, more) = some true := by
  obtain ⟨b, eb, _⟩ := big_ev code more h1 h2
  refine Ev.rounds (Ev.step (fun k => laws_FnPlainsGo.eq k code more) (Ev.bind eb (Ev.cond (fun _ => Ev.now _) fun _ => ?_)))
  have tl := tail more hm
  have sb : ∀ b : Bool, (!(b == b)) = false := fun b => by cases b <;> rfl
  obtain ⟨⟨rl, S⟩, n, d1, z1, z2⟩ := drawAfterP_ev code hc
  simp only at z1 z2
  have z0 := dPlain_ev zeroP (by show ([] : List Sp).length ≤ _; decide)
  have zS := dPlain_ev (rl, S) (by show S.1.length ≤ _; omega)
  obtain ⟨a1, a2⟩ := plAfter_ev rl S (by omega) (by omega) n
  obtain ⟨b1, b2⟩ := plBefore_ev rl S (by omega) (by omega) n
  have iI := isPl_ev rl S (by omega) (by omega)
  have iS : EvB (fun k => spec_IsPlain k (rl, S)) (OkP rl S) := EvB.step (fun k => spec_IsPlain.eq k rl S.1 S.2.1 S.2.2.1 S.2.2.2) (goodPl_ev rl S (by omega)).ret
  have sml : ∀ {T : PlS}, OkP rl T → T.1.length ≤ 1048576 := fun h => by have := h.2.1; omega
  by_cases HA : GoesP rl S n
  · obtain ⟨hO, hn, ⟨l, T⟩, hr⟩ := HA
    obtain ⟨a3, a4, a5, a6⟩ := a1 l T hO hn hr
    have iI := iI.isT hO
    have iS := iS.isT hO
    obtain ⟨hT, hl, ⟨x1, x2⟩, ⟨y1, y2⟩⟩ := run_facts rl _ S l T hO hr
    have FS := hO.2.2.1
    have FT := hT.2.2.1
    have zT := dPlain_ev (rl, T) (sml hT)
    have bT := ((plBefore_ev rl T (by omega) (sml hT) n).1 S hT hn (brun_run rl _ S l T hO hr)).1
    have dT := ((plDrift_ev rl S (by omega) (by omega) 0 n).1 [] S l T hO (by omega) (by omega) rfl hr).1
    have iT := (isPl_ev rl T (by omega) (sml hT)).isT hT
    have t1 : (((bs l).size : Int) != n) = false := by
      rw [show (bs l).size = l.length from rfl, hl, bne_eq_false_iff_eq]
      omega
    unfold Far at FS FT
    have t2 : (w64 (T.2.1 - S.2.1) != T.2.1 - S.2.1) = false := by rw [w64_of (by omega) (by omega)]; exact neq_self _
    have t3 : (w64 (T.2.2.1 - S.2.2.1) != T.2.2.1 - S.2.2.1) = false := by rw [w64_of (by omega) (by omega)]; exact neq_self _
    have w0 : w64 (0 - n) = -n := by rw [w64_of (by omega) (by omega)]; omega
    have t4 : decide (T.2.1 - S.2.1 > n) = false := decide_eq_false (by omega)
    have t5 : decide (T.2.1 - S.2.1 < w64 (0 - n)) = false := decide_eq_false (by rw [w0]; omega)
    have t6 : decide (T.2.2.1 - S.2.2.1 > n) = false := decide_eq_false (by omega)
    have t7 : decide (T.2.2.1 - S.2.2.1 < w64 (0 - n)) = false := decide_eq_false (by rw [w0]; omega)
    have before : ∃ r : Pl × Bool, Ev (fun k => impl_PlainBefore k ((rl, S), n)) r ∧ Ev (fun k => spec_PlainBefore k ((rl, S), n)) r ∧ Ev (fun k => laws_dPlain k (r.1, r.1)) true ∧ (r.2 = true → Ev (fun k => impl_PlainAfter k (r.1, n)) ((rl, S), true)) := by
      by_cases H : OkP rl S ∧ (0 ≤ n ∧ n ≤ 1000) ∧ ∃ T, brunF rl n.toNat S = some T
      · obtain ⟨h1, h2, U, h3⟩ := H
        obtain ⟨q1, q2⟩ := b1 U h1 h2 h3
        have hU := brun_ok rl _ S U h1 h3
        obtain ⟨l', h4⟩ := run_brun rl _ S U h1 h3
        exact ⟨_, q1, q2, dPlain_ev _ (sml hU), fun _ => ((plAfter_ev rl U (by omega) (sml hU) n).1 l' S hU h2 h4).1⟩
      · obtain ⟨q1, q2⟩ := b2 H
        exact ⟨_, q1, q2, z0, nofun⟩
    obtain ⟨⟨U, ok⟩, c1, c2, c3, c4⟩ := before
    by_cases hp : n > 0
    · have p1 : decide (n > 0) = true := decide_eq_true hp
      obtain ⟨M, hM⟩ : ∃ M : Nat, n = ((M + 1 : Nat) : Int) := ⟨n.toNat - 1, by omega⟩
      have hr' : runF rl (M + 1) S = some (l, T) := by
        have e : n.toNat = M + 1 := by omega
        rw [e] at hr
        exact hr
      obtain ⟨hS1, l', el, hr1⟩ := run_inv hr'
      have p2 := ((plStep_ev rl S (by omega) (by omega)).1 ⟨hO, hS1⟩).1
      have w1 : w64 (n - 1) = (M : Int) := by rw [w64_of (by omega) (by omega)]; omega
      have p3 := ((plAfter_ev rl (stepF rl S) (by omega) (sml hS1) (w64 (n - 1))).1 l' T hS1 (by omega) (by rw [w1, Int.toNat_natCast]; exact hr1)).1
      have p4 := hereC_ev rl S (by omega) (by omega) hO
      obtain ⟨s1, s2, s3⟩ := sign_at hO
      have p5 : inB 0 (bs l).size = true := inB_of (by omega) (by show (0 : Int) < ((l.length : Nat) : Int); omega)
      have p6 : inB (hereF S) rl.size = true := inB_of s1 (by omega)
      have p7 : (bt (bs l) 0 != bt rl (hereF S).toNat) = false := by
        rw [bt_at s3, bt_at (s := bs l) (i := 0) (c := signF rl S) (by show l[0]? = _; rw [el]; rfl)]
        exact neq_self _
      cases ok with
      | true =>
        have c4 := c4 rfl
        repeat' first
          | exact tl
          | exact Ev.now _
          | refine Ev.bind (by assumption) ?_
          | refine Ev.no (by first | rfl | assumption | exact neq_self _ | exact sb _ | exact sameS _) ?_
          | refine Ev.yes (by first | rfl | assumption) ?_
      | false =>
        repeat' first
          | exact tl
          | exact Ev.now _
          | refine Ev.bind (by assumption) ?_
          | refine Ev.no (by first | rfl | assumption | exact neq_self _ | exact sb _ | exact sameS _) ?_
          | refine Ev.yes (by first | rfl | assumption) ?_
    · have p1 : decide (n > 0) = false := decide_eq_false hp
      cases ok with
      | true =>
        have c4 := c4 rfl
        repeat' first
          | exact tl
          | exact Ev.now _
          | refine Ev.bind (by assumption) ?_
          | refine Ev.no (by first | rfl | assumption | exact neq_self _ | exact sb _ | exact sameS _) ?_
          | refine Ev.yes (by first | rfl | assumption) ?_
      | false =>
        repeat' first
          | exact tl
          | exact Ev.now _
          | refine Ev.bind (by assumption) ?_
          | refine Ev.no (by first | rfl | assumption | exact neq_self _ | exact sb _ | exact sameS _) ?_
          | refine Ev.yes (by first | rfl | assumption) ?_
  · obtain ⟨a3, a4, a5, a6⟩ := a2 HA
    obtain ⟨v, i1, i2⟩ := iI
    obtain ⟨v', j1, j2⟩ := iS
    obtain rfl : v = v' := by rw [Bool.eq_iff_iff, i2, j2]
    have before : ∃ r : Pl × Bool, Ev (fun k => impl_PlainBefore k ((rl, S), n)) r ∧ Ev (fun k => spec_PlainBefore k ((rl, S), n)) r ∧ Ev (fun k => laws_dPlain k (r.1, r.1)) true ∧ (r.2 = true → Ev (fun k => impl_PlainAfter k (r.1, n)) ((rl, S), true)) := by
      by_cases H : OkP rl S ∧ (0 ≤ n ∧ n ≤ 1000) ∧ ∃ T, brunF rl n.toNat S = some T
      · obtain ⟨h1, h2, U, h3⟩ := H
        obtain ⟨q1, q2⟩ := b1 U h1 h2 h3
        have hU := brun_ok rl _ S U h1 h3
        obtain ⟨l', h4⟩ := run_brun rl _ S U h1 h3
        exact ⟨_, q1, q2, dPlain_ev _ (sml hU), fun _ => ((plAfter_ev rl U (by omega) (sml hU) n).1 l' S hU h2 h4).1⟩
      · obtain ⟨q1, q2⟩ := b2 H
        exact ⟨_, q1, q2, z0, nofun⟩
    obtain ⟨⟨U, ok⟩, c1, c2, c3, c4⟩ := before
    cases ok with
    | true =>
      have c4 := c4 rfl
      repeat' first
        | exact tl
        | exact Ev.now _
        | refine Ev.bind (by assumption) ?_
        | refine Ev.no (by first | rfl | assumption | exact neq_self _ | exact sb _ | exact sameS _) ?_
        | refine Ev.yes (by first | rfl | assumption) ?_
    | false =>
      repeat' first
        | exact tl
        | exact Ev.now _
        | refine Ev.bind (by assumption) ?_
        | refine Ev.no (by first | rfl | assumption | exact neq_self _ | exact sb _ | exact sameS _) ?_
        | refine Ev.yes (by first | rfl | assumption) ?_
theorem good8 {x : Int} (h : (Sh.int IntKind.u8).good x) : 0 ≤ x ∧ x ≤ 255 := by
  have h : (Lit.int .u8 x).wf = true := h
  simp [Lit.wf, IntKind.min, IntKind.max, IntKind.bits, IntKind.signed] at h
  omega
theorem pure : ∀ d : Dl laws_FnPlainsGo.ins, goodL laws_FnPlainsGo.ins d → ∃ k, laws_FnPlainsGo k d = some true := by
  rintro ⟨code, more⟩ ⟨hg1, hg2⟩
  exact main code more hg1.1 hg2.1 (fun x hx => good8 (hg1.2 x hx)) (fun x hx => good8 (hg2.2 x hx))
end Go.Proofs.YtplamonjnlgomaaGreatDoor.fnPlainsGo
