/- The plain law FnStepsUndone. -/
import Derived.Test.YtmdgodjcfhimbaaGreatDoorOk
import Derived.Test.YtmdgodjcfhimbaaGreatDoorMgBack
import Derived.Test.YtmdgodjcfhimbaaGreatDoorMgDraw
namespace Go.Proofs.YtmdgodjcfhimbaaGreatDoor.fnStepsUndone
open Go Go.Proofs Go.Proofs.YtmdgodjcfhimbaaGreatDoorS
set_option linter.unusedVariables false
set_option linter.unusedSimpArgs false
set_option maxRecDepth 10000
theorem colourAt_ev : ∀ (W : Wo) (x y : Int), OkO W → 0 ≤ x ∧ x ≤ W.2.1 - 1 → 0 ≤ y ∧ y ≤ W.2.2.1 - 1 → Ev (fun k => impl_ColourAt k (W, x, y)) (colB W.2.1 W.2.2.2.1 x y, true)
  | (rl, w, h, cs, X, Y, wy), x, y, H, hx, hy => by
    obtain ⟨z1, z2⟩ := okO_size H
    have a := (isW_ev (rl, w, h, cs, X, Y, wy) (by simp only at z1 ⊢; omega) (by simp only at z2 ⊢; omega)).isT H
    obtain ⟨hR, hw, hh, hs, hcs, _, _, hwy⟩ : WorldOk rl w h cs X Y wy := H
    simp only at hx hy z1
    obtain ⟨a1, a2, a3, a4⟩ := at_range hx hy hw hh
    obtain ⟨c, hc, eqc, c48, cti⟩ := cell_ex hw hh hs hcs hx hy
    have hclt := c.toNat_lt
    have eA := at64 hx hy hw hh
    have hinA : inB (y * w + x) cs.size = true := inB_of a3 (by omega)
    have b := (isAnt_ev w h x y 0 hw hh).isT ⟨hx, hy, by omega⟩
    refine Ev.step (fun k => impl_ColourAt.eq k rl w h cs X Y wy x y) (Ev.bind (Ev.step (fun k => impl_isPlace.eq k rl w h cs X Y wy x y) (Ev.bind a (Ev.yes rfl (Ev.bind b (Ev.now _))))) (Ev.no rfl ?_))
    rw [eA]
    refine Ev.yes hinA (Ev.now' ?_)
    rw [bt_at hc, w8_of (by omega) (by omega), w64_of (by omega) (by omega)]
    show ((c.toNat : Int) - 48, true) = (colB w cs x y, true)
    rw [eqc]
theorem tail (more : List Int) (hm : ∀ x ∈ more, 0 ≤ x ∧ x ≤ 255) : Ev (fun k => (spec_DrawWorldAfter k more).bind fun r26 => (impl_WorldAfter k r26).bind fun r27 => (spec_WorldAfter k r26).bind fun r28 => (impl_WorldBefore k r26).bind fun r29 => (spec_WorldBefore k r26).bind fun r30 => (impl_TurnsAfter k r26).bind fun r31 => (spec_TurnsAfter k r26).bind fun r32 => cond (!(r27.2 == r28.2)) (some false) (cond (!((r27.1.1 == r28.1.1) && ((r27.1.2.1 == r28.1.2.1) && ((r27.1.2.2.1 == r28.1.2.2.1) && ((r27.1.2.2.2.1 == r28.1.2.2.2.1) && ((r27.1.2.2.2.2.1 == r28.1.2.2.2.2.1) && ((r27.1.2.2.2.2.2.1 == r28.1.2.2.2.2.2.1) && ((r27.1.2.2.2.2.2.2 == r28.1.2.2.2.2.2.2) && true)))))))) (some false) (cond (!(r29.2 == r30.2)) (some false) (cond (!((r29.1.1 == r30.1.1) && ((r29.1.2.1 == r30.1.2.1) && ((r29.1.2.2.1 == r30.1.2.2.1) && ((r29.1.2.2.2.1 == r30.1.2.2.2.1) && ((r29.1.2.2.2.2.1 == r30.1.2.2.2.2.1) && ((r29.1.2.2.2.2.2.1 == r30.1.2.2.2.2.2.1) && ((r29.1.2.2.2.2.2.2 == r30.1.2.2.2.2.2.2) && true)))))))) (some false) (cond (!(r31.2 == r32.2)) (some false) (cond (!(strEq r31.1 r32.1)) (some false) (cond (!(r29.2 == r27.2)) (some false) (cond (!(r31.2 == r27.2)) (some false) (cond r27.2 ((impl_WorldBefore k (r27.1, r26.2)).bind fun r33 => (impl_WorldAfter k (r29.1, r26.2)).bind fun r34 => cond (!r33.2) (some false) (cond (!((r33.1.1 == r26.1.1) && ((r33.1.2.1 == r26.1.2.1) && ((r33.1.2.2.1 == r26.1.2.2.1) && ((r33.1.2.2.2.1 == r26.1.2.2.2.1) && ((r33.1.2.2.2.2.1 == r26.1.2.2.2.2.1) && ((r33.1.2.2.2.2.2.1 == r26.1.2.2.2.2.2.1) && ((r33.1.2.2.2.2.2.2 == r26.1.2.2.2.2.2.2) && true)))))))) (some false) (cond (!r34.2) (some false) (cond (!((r34.1.1 == r26.1.1) && ((r34.1.2.1 == r26.1.2.1) && ((r34.1.2.2.1 == r26.1.2.2.1) && ((r34.1.2.2.2.1 == r26.1.2.2.2.1) && ((r34.1.2.2.2.2.1 == r26.1.2.2.2.2.1) && ((r34.1.2.2.2.2.2.1 == r26.1.2.2.2.2.2.1) && ((r34.1.2.2.2.2.2.2 == r26.1.2.2.2.2.2.2) && true)))))))) (some false) (cond ((r31.1.size : Int) != r26.2) (some false) (cond (decide (r26.2 > 0)) ((impl_WorldAfter k (r26.1, (w64 (r26.2 - 1)))).bind fun r35 => (impl_StepWorld k r35.1).bind fun r36 => cond (!r35.2) (some false) (cond (!r36.2) (some false) (cond (!((r36.1.1 == r27.1.1) && ((r36.1.2.1 == r27.1.2.1) && ((r36.1.2.2.1 == r27.1.2.2.1) && ((r36.1.2.2.2.1 == r27.1.2.2.2.1) && ((r36.1.2.2.2.2.1 == r27.1.2.2.2.2.1) && ((r36.1.2.2.2.2.2.1 == r27.1.2.2.2.2.2.1) && ((r36.1.2.2.2.2.2.2 == r27.1.2.2.2.2.2.2) && true)))))))) (some false) (some true)))) (some true))))))) (some true)))))))))) true := by
  obtain ⟨V, c1, e1, ⟨z1, z2⟩, H1⟩ := world_ev 0 (more, 0, 0) (CurOk.start hm) (by omega)
  obtain ⟨n, c2, e2, H2⟩ := steps_ev _ c1 H1 (by omega)
  have hd : Ev (fun k => spec_DrawWorldAfter k more) (V, n) := Ev.step (fun k => spec_DrawWorldAfter.eq k more) (Ev.bind e1 (Ev.bind e2 (Ev.now _)))
  obtain ⟨a1, a2⟩ := after_ev V (by omega) (by omega) n
  obtain ⟨b1, b2⟩ := before_ev V (by omega) (by omega) n
  obtain ⟨t1, t2⟩ := turns_ev V (by omega) (by omega) n
  by_cases H : OkO V ∧ (0 ≤ n ∧ n ≤ 3000)
  · obtain ⟨a3, a4⟩ := a1 H
    obtain ⟨b3, b4⟩ := b1 H
    obtain ⟨t3, t4⟩ := t1 H
    obtain ⟨HV, hn0, hn1⟩ := H
    have R1 := run_ok n.toNat V HV
    have R2 := unrun_ok n.toNat V HV
    obtain ⟨s1, s2⟩ := okO_size R1
    obtain ⟨s3, s4⟩ := okO_size R2
    have g1 := ((before_ev (runO n.toNat V) (by omega) (by omega) n).1 ⟨R1, hn0, hn1⟩).1
    have g2 := ((after_ev (unrunO n.toNat V) (by omega) (by omega) n).1 ⟨R2, hn0, hn1⟩).1
    rw [unrun_run n.toNat V HV] at g1
    rw [run_unrun n.toNat V HV] at g2
    have hz : (((bs (turnsO n.toNat V)).size : Int) != n) = false := by
      rw [show (bs (turnsO n.toNat V)).size = (turnsO n.toNat V).length from rfl, turns_len, bne_eq_false_iff_eq]
      omega
    by_cases hp : n > 0
    · have hp' : decide (n > 0) = true := decide_eq_true hp
      have e3 : w64 (n - 1) = n - 1 := w64_of (by omega) (by omega)
      have g3 := ((after_ev V (by omega) (by omega) (n - 1)).1 ⟨HV, by omega⟩).1
      rw [← e3] at g3
      have R3 := run_ok (n - 1).toNat V HV
      obtain ⟨s5, s6⟩ := okO_size R3
      have g4 := (stepW_ev (runO (n - 1).toNat V) (by omega) (by omega)).1 R3
      rw [← run_succ, show (n - 1).toNat + 1 = n.toNat by omega] at g4
      rw [e3] at g3
      have g3' : Ev (fun k => impl_WorldAfter k (V, w64 (n - 1))) (runO (n - 1).toNat V, true) := by rw [e3]; exact g3
      repeat' first
        | exact Ev.now _
        | refine Ev.bind (by assumption) ?_
        | refine Ev.no (by first | rfl | assumption | exact neq_self _ | exact same7 _ | exact sameS _) ?_
        | refine Ev.yes (by first | rfl | assumption) ?_
    · have hp' : decide (n > 0) = false := decide_eq_false hp
      repeat' first
        | exact Ev.now _
        | refine Ev.bind (by assumption) ?_
        | refine Ev.no (by first | rfl | assumption | exact neq_self _ | exact same7 _ | exact sameS _) ?_
        | refine Ev.yes (by first | rfl | assumption) ?_
  · obtain ⟨a3, a4⟩ := a2 H
    obtain ⟨b3, b4⟩ := b2 H
    obtain ⟨t3, t4⟩ := t2 H
    repeat' first
      | exact Ev.now _
      | refine Ev.bind (by assumption) ?_
      | refine Ev.no (by first | rfl | assumption | exact neq_self _ | exact same7 _ | exact sameS _) ?_
      | refine Ev.yes (by first | rfl | assumption) ?_
theorem main (code more : List Int) (h1 : code.length ≤ 9223372036854775807) (h2 : more.length ≤ 9223372036854775807) (hc : ∀ x ∈ code, 0 ≤ x ∧ x ≤ 255) (hm : ∀ x ∈ more, 0 ≤ x ∧ x ≤ 255) : ∃ k, laws_FnStepsUndone k (code, more) = some true := by
  obtain ⟨b, eb, _⟩ := big_ev code more h1 h2
  refine Ev.rounds (Ev.step (fun k => laws_FnStepsUndone.eq k code more) (Ev.bind eb (Ev.cond (fun _ => Ev.now _) fun _ => ?_)))
  have tl := tail more hm
  obtain ⟨W, c1, e1, ⟨z1, z2⟩, H1⟩ := world_ev 0 (code, 0, 0) (CurOk.start hc) (by omega)
  have hd : Ev (fun k => spec_DrawStepWorld k code) W := Ev.step (fun k => spec_DrawStepWorld.eq k code) (Ev.bind (Ev.step (fun k => spec_DrawIsWorld.eq k code) (Ev.bind e1 (Ev.now _))) (Ev.now _))
  have hr : W.1.size ≤ 1048576 := by omega
  have hcl : W.2.2.2.1.size ≤ 1048576 := by omega
  have wI := isW_ev W hr hcl
  have wS : EvB (fun k => spec_IsWorld k W) (OkO W) := EvB.step (fun k => spec_IsWorld.eq k W.1 W.2.1 W.2.2.1 W.2.2.2.1 W.2.2.2.2.1 W.2.2.2.2.2.1 W.2.2.2.2.2.2) (goodW_ev W).ret
  by_cases H : OkO W
  · have wI := wI.isT H
    have wS := wS.isT H
    have s1 := (stepW_ev W hr hcl).1 H
    have s2 := (stepWS_ev W hr hcl).1 H
    have s3 := (stepB_ev W hr hcl).1 H
    have s4 := (stepBS_ev W hr hcl).1 H
    obtain ⟨R, r1, r2, r3, r4, r5, r6⟩ := count_ev W H
    have ks := kSame_ev R (by have := (okO_size H).1; omega)
    have hN := step_ok W H
    have hB := back_ok W H
    obtain ⟨n1, n2⟩ := okO_size hN
    obtain ⟨m1, m2⟩ := okO_size hB
    have g1 := (stepB_ev (stepO W) (by omega) (by omega)).1 hN
    rw [back_step W H] at g1
    have g2 := (stepW_ev (backO W) (by omega) (by omega)).1 hB
    rw [step_back W H] at g2
    have cs1 := colourSum_ev W H
    have cs2 := colourSum_ev (stepO W) hN
    have eN : (stepO W).1 = W.1 ∧ (stepO W).2.1 = W.2.1 ∧ (stepO W).2.2.1 = W.2.2.1 := ⟨rfl, rfl, rfl⟩
    rw [eN.1, dsum_step W H] at cs2
    have tr := ((turns_ev W hr hcl 1).1 ⟨H, by omega⟩).1
    have tr : Ev (fun k => impl_TurnsAfter k (W, 1)) (bs [signO W], true) := tr
    obtain ⟨hR, hw, hh, hs, hcs, hx, hy, hwy⟩ := id H
    have hr6 := hR.1
    have ca := colourAt_ev W W.2.2.2.2.1 W.2.2.2.2.2.1 H hx hy
    have cb := colourAt_ev (stepO W) W.2.2.2.2.1 W.2.2.2.2.2.1 hN hx hy
    obtain ⟨c, hc', eqc, c48, cti⟩ := cell_ex hw hh hs hcs hx hy
    have hp := mod_range (colB W.2.1 W.2.2.2.1 W.2.2.2.2.1 W.2.2.2.2.2.1 + 1) (k := (W.1.size : Int)) (by omega)
    have ep : colB (stepO W).2.1 (stepO W).2.2.2.1 W.2.2.2.2.1 W.2.2.2.2.2.1 = (colB W.2.1 W.2.2.2.1 W.2.2.2.2.1 W.2.2.2.2.2.1 + 1) % (W.1.size : Int) := (put_same hw hh hs hcs hx hy ((colB W.2.1 W.2.2.2.1 W.2.2.2.2.1 W.2.2.2.2.2.1 + 1) % (W.1.size : Int)) (by omega)).1
    rw [ep] at cb
    have iN := (isW_ev (stepO W) (by omega) (by omega)).isT hN
    have iB := (isW_ev (backO W) (by omega) (by omega)).isT hB
    have kS := kSum_ev R (by omega) (fun z hz => by have := r2 z hz; omega)
    rw [r3] at kS
    have hm9 := mul_range (a := W.2.1) (b := W.2.2.1) (by omega) (by omega) (by omega) (by omega)
    have x1 : (W.2.1 * W.2.2.1 != w64 (W.2.1 * W.2.2.1)) = false := by rw [w64_of (by omega) (by omega)]; exact neq_self _
    have x2 : ((R.length : Int) != (W.1.size : Int)) = false := by rw [r1]; exact neq_self _
    have bw1 := backWorld_ev (stepO W) hN
    have hRN := rev_ok _ hN
    obtain ⟨q1, q2⟩ := okO_size hRN
    have bw2 := (stepW_ev (revO (stepO W)) (by omega) (by omega)).1 hRN
    rw [rev_step W H] at bw2
    have bw3 := backWorld_ev W H
    have ne0 : ((W.1.size : Int) != 0) = true := by rw [bne_iff_ne]; omega
    obtain ⟨v, ev⟩ : ∃ v, colB W.2.1 W.2.2.2.1 W.2.2.2.2.1 W.2.2.2.2.2.1 = v := ⟨_, rfl⟩
    have hv : 0 ≤ v ∧ v ≤ (W.1.size : Int) - 1 := by omega
    have sg : W.1.data.toList[v.toNat]? = some (signO W) := by rw [← ev]; exact (sign_facts W.1 W.2.1 W.2.2.1 W.2.2.2.1 W.2.2.2.2.1 W.2.2.2.2.2.1 W.2.2.2.2.2.2 H).2.1
    have eway : (stepO W).2.2.2.2.2.2 = (W.2.2.2.2.2.2 + quartersB ((signO W).toNat : Int)) % 4 := by
      show wayB W.1 (colB W.2.1 W.2.2.2.1 W.2.2.2.2.1 W.2.2.2.2.2.1) W.2.2.2.2.2.2 = _
      unfold wayB
      rw [ev, bt_at sg]
    rw [ev] at ca cb
    have e1v : w64 (v + 1) = v + 1 := w64_of (by omega) (by omega)
    have hcut : W.1.extract v.toNat (w64 (v + 1)).toNat = bs [signO W] := by
      rw [e1v, show (v + 1).toNat = v.toNat + 1 by omega]
      exact cut_one sg
    have x3 : (((decide ((0 : Int) ≤ w64 (v + 1))) && (decide (w64 (v + 1) ≤ (W.1.size : Int)))) && ((decide ((0 : Int) ≤ v)) && (decide (v ≤ w64 (v + 1))))) = true := by
      rw [e1v, decide_eq_true (by omega), decide_eq_true (by omega), decide_eq_true (by omega), decide_eq_true (by omega)]
      rfl
    have x4 : (!(strEq (bs [signO W]) (W.1.extract v.toNat (w64 (v + 1)).toNat))) = false := by rw [hcut]; exact sameS _
    have x5 : ((v + 1) % (W.1.size : Int) != (w64 (v + 1)).tmod (W.1.size : Int)) = false := by rw [e1v, Int.tmod_eq_emod_of_nonneg (by omega)]; exact neq_self _
    have hdm := mod_range (dsum W.2.2.2.1.data.toList) (k := (W.1.size : Int)) (by omega)
    have x6 : ((dsum W.2.2.2.1.data.toList % (W.1.size : Int) + 1) % (W.1.size : Int) != (w64 (dsum W.2.2.2.1.data.toList % (W.1.size : Int) + 1)).tmod (W.1.size : Int)) = false := by
      rw [w64_of (by omega) (by omega), Int.tmod_eq_emod_of_nonneg (by omega)]
      exact neq_self _
    have way : ∀ d : Int, 0 ≤ d ∧ d ≤ 3 → quartersB ((signO W).toNat : Int) = d → ((stepO W).2.2.2.2.2.2 != (w64 (W.2.2.2.2.2.2 + d)).tmod 4) = false := fun d hd e => by
      rw [eway, e, w64_of (by omega) (by omega), Int.tmod_eq_emod_of_nonneg (by omega)]
      exact neq_self _
    have sgn := hR.2 (signO W) (List.mem_of_getElem? sg)
    have st : ∀ a b : UInt8, a ≠ b → strEq (bs [a]) (bs [b]) = false := fun a b hab => by
      cases h : strEq (bs [a]) (bs [b]) with
      | false => rfl
      | true =>
        have := congrArg (fun s : ByteArray => s.data.toList) (strEq_iff.1 h)
        exact absurd (by simpa [bs] using this) hab
    have yes : ∀ a : UInt8, strEq (bs [a]) (bs [a]) = true := fun a => strEq_self _
    rcases sgn with e | e | e | e
    all_goals rw [e] at tr x4 way
    · have u1 := st 76 82 (by decide)
      have u2 := st 76 85 (by decide)
      have u3 := yes 76
      have u4 := way 3 (by omega) (by decide)
      repeat' first
        | exact tl
        | exact Ev.now _
        | refine Ev.bind (by assumption) ?_
        | refine Ev.no (by first | rfl | assumption | exact neq_self _ | exact same7 _ | exact sameS _) ?_
        | refine Ev.yes (by first | rfl | assumption) ?_
    · have u1 := yes 82
      have u4 := way 1 (by omega) (by decide)
      repeat' first
        | exact tl
        | exact Ev.now _
        | refine Ev.bind (by assumption) ?_
        | refine Ev.no (by first | rfl | assumption | exact neq_self _ | exact same7 _ | exact sameS _) ?_
        | refine Ev.yes (by first | rfl | assumption) ?_
    · have u1 := st 78 82 (by decide)
      have u2 := st 78 85 (by decide)
      have u3 := st 78 76 (by decide)
      have u4 := way 0 (by omega) (by decide)
      repeat' first
        | exact tl
        | exact Ev.now _
        | refine Ev.bind (by assumption) ?_
        | refine Ev.no (by first | rfl | assumption | exact neq_self _ | exact same7 _ | exact sameS _) ?_
        | refine Ev.yes (by first | rfl | assumption) ?_
    · have u1 := st 85 82 (by decide)
      have u2 := yes 85
      have u4 := way 2 (by omega) (by decide)
      repeat' first
        | exact tl
        | exact Ev.now _
        | refine Ev.bind (by assumption) ?_
        | refine Ev.no (by first | rfl | assumption | exact neq_self _ | exact same7 _ | exact sameS _) ?_
        | refine Ev.yes (by first | rfl | assumption) ?_
  · have wI := wI.isF H
    have wS := wS.isF H
    have s1 := (stepW_ev W hr hcl).2 H
    have s2 := (stepWS_ev W hr hcl).2 H
    have s3 := (stepB_ev W hr hcl).2 H
    have s4 := (stepBS_ev W hr hcl).2 H
    obtain ⟨r5, r6⟩ := count_no W hr hcl H
    have ks := kSame_ev [] (by decide)
    repeat' first
      | exact tl
      | exact Ev.now _
      | refine Ev.bind (by assumption) ?_
      | refine Ev.no (by first | rfl | assumption | exact neq_self _ | exact same7 _ | exact sameS _) ?_
      | refine Ev.yes (by first | rfl | assumption) ?_
theorem pure : ∀ d : Dl laws_FnStepsUndone.ins, goodL laws_FnStepsUndone.ins d → ∃ k, laws_FnStepsUndone k d = some true := by
  rintro ⟨code, more⟩ ⟨hg1, hg2⟩
  exact main code more hg1.1 hg2.1 (fun x hx => good8 (hg1.2 x hx)) (fun x hx => good8 (hg2.2 x hx))
end Go.Proofs.YtmdgodjcfhimbaaGreatDoor.fnStepsUndone
