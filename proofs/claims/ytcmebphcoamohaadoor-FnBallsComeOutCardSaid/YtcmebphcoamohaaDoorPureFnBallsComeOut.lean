/- The plain law FnBallsComeOut. -/
import Derived.Test.YtcmebphcoamohaaDoorOk
import Derived.Test.YtcmebphcoamohaaDoorPuMiF
namespace Go.Proofs.YtcmebphcoamohaaDoor.fnBallsComeOut
open Go Go.Proofs Go.Proofs.YtcmebphcoamohaaDoorS
set_option linter.unusedVariables false
set_option linter.unusedSimpArgs false
theorem dSame_ev (a : List Int) (hl : a.length ≤ 1048576) : Ev (fun k => laws_dSame k (a, a)) true := by
  have h : ∀ (m i : Nat), i + m = a.length → Ev (fun k => laws_dSame_l k (a, a, (a.length : Int), (i : Int))) (.inr ()) := by
    intro m
    induction m with
    | zero => intro i h; exact Ev.step (fun k => laws_dSame_l.eq k a a (a.length : Int) i) (Ev.no (not_lt_nat (by omega)) (Ev.now _))
    | succ m ih =>
      intro i h
      refine Ev.step (fun k => laws_dSame_l.eq k a a (a.length : Int) i) (Ev.yes (lt_nat (by omega)) (Ev.yes (inB_nat (by omega)) (Ev.yes (inB_nat (by omega)) (Ev.no (neq_self _) ?_))))
      rw [w64_succ (by omega)]
      exact ih (i + 1) (by omega)
  exact Ev.step (fun k => laws_dSame.eq k a a) (Ev.no (neq_self _) (Ev.bind (h a.length 0 (by omega)) (Ev.now _)))
theorem ba_beq (s : ByteArray) : (s == s) = true := by
  obtain ⟨d⟩ := s
  show (d == d) = true
  simp
theorem same4 (m : MzT) : (!((m.1 == m.1) && ((m.2.1 == m.2.1) && ((m.2.2.1 == m.2.2.1) && ((m.2.2.2 == m.2.2.2) && true))))) = false := by simp [ba_beq]
theorem same3 (m : BaT) : (!((m.1 == m.1) && ((m.2.1 == m.2.1) && ((m.2.2 == m.2.2) && true)))) = false := by simp
theorem sameB (b : Bool) : (!(b == b)) = false := by cases b <;> rfl
/-- All ends of a table. -/
theorem loop_ev {m : MzT} (hM : OkMz m) {T : List Int} (hT : TabOf m T) : ∀ r i : Nat, i + r = T.length → Ev (fun k => laws_FnBallsComeOut_c_c_c_l k (m, T, (T.length : Int), (), (T.length : Int), (i : Int))) (.inr ()) := by
  have hz := hM.size
  have hL := hT.1
  have hw := hM.1
  have hh := hM.2.1
  intro r
  induction r with
  | zero =>
    intro i h
    obtain ⟨w, h, cs, t⟩ := m
    exact Ev.step (fun k => laws_FnBallsComeOut_c_c_c_l.eq k w h cs t T _ _ _) (Ev.no (not_lt_nat (by omega)) (Ev.now _))
  | succ r ih =>
    intro i h
    have hi : i < T.length := by omega
    have hk : 0 ≤ (i : Int) ∧ (i : Int) < 2 * (m.1 + m.2.1) := by omega
    obtain ⟨e, he, ho, hr⟩ := hT.2 i hi
    have gd : T.getD i default = e := getD_at he
    have HB := entry_okBa hM hk
    have eE := ((entryOf_ev m (i : Int) (by omega)).1 ⟨hM, hk⟩).1
    have iB := (isBall_ev m (entryB m.1 m.2.1 (i : Int)) (by omega)).isT HB
    have six : Ev (fun k => impl_ExitOf k (m, entryB m.1 m.2.1 (i : Int))) (e, true) := by
      rcases six_ev m (entryB m.1 m.2.1 (i : Int)) (by omega) with ⟨_, n, _, h2, h3⟩ | ⟨_, h2, _⟩ | ⟨h2, _⟩
      · rw [ho.one ⟨n, h2, rfl⟩]
        exact h3.e1
      · exact absurd h2 (entry_round hM hk)
      · exact absurd HB h2
    have fin : Ev (fun k => cond (!m.2.2.2) (cond (inB e T.length) (cond ((T.getD e.toNat default) != (i : Int)) (some (.inl false)) (cond (e == (i : Int)) (some (.inl false)) (laws_FnBallsComeOut_c_c_c_l k (m, T, (T.length : Int), (), (T.length : Int), w64 ((i : Int) + 1))))) (none))
        (laws_FnBallsComeOut_c_c_c_l k (m, T, (T.length : Int), (), (T.length : Int), w64 ((i : Int) + 1)))) (.inr ()) := by
      rw [w64_succ (by omega)]
      cases ht : m.2.2.2 with
      | true => exact Ev.no rfl (ih (i + 1) (by omega))
      | false =>
        obtain ⟨b1, b2⟩ := table_back hM ht hT he
        exact Ev.yes rfl (Ev.yes (inB_of hr.1 (by omega)) (Ev.no (by rw [getD_at b1]; exact neq_self _) (Ev.no (beq_eq_false_iff_ne.2 b2) (ih (i + 1) (by omega)))))
    obtain ⟨w, h, cs, t⟩ := m
    refine Ev.step (fun k => laws_FnBallsComeOut_c_c_c_l.eq k w h cs t T _ _ _) (Ev.yes (lt_nat hi) (Ev.yes (inB_nat hi) (Ev.bind eE (Ev.bind six (Ev.no rfl (Ev.bind iB (Ev.no rfl (Ev.no rfl ?_))))))))
    rw [Int.toNat_natCast, gd]
    exact Ev.no (neq_self _) (Ev.no (decide_eq_false (by omega)) (Ev.no (decide_eq_false (by simp only at hr hL; omega)) fin))
theorem tail (more : List Int) (hm : ∀ x ∈ more, 0 ≤ x ∧ x ≤ 255) : Ev (fun k => laws_FnBallsComeOut_c_c_c k more) true := by
  obtain ⟨m, c1, e1, z1, H1⟩ := maze_ev 0 (more, 0, 0) (CurOk.start hm) (by omega)
  obtain ⟨M, e, c2, e2, z2, H2⟩ := end_ev 0 (more, 0, 0) (CurOk.start hm) (by omega)
  have dT : Ev (fun k => spec_DrawExitTable k more) m := Ev.step (fun k => spec_DrawExitTable.eq k more) (Ev.bind (Ev.step (fun k => spec_DrawIsMaze.eq k more) (Ev.bind e1 (Ev.now _))) (Ev.now _))
  have dE : Ev (fun k => spec_DrawEntryOf k more) (M, e) := Ev.step (fun k => spec_DrawEntryOf.eq k more) (Ev.bind e2 (Ev.now _))
  obtain ⟨v, ok, x1, x2⟩ : ∃ v ok, Ev (fun k => impl_EntryOf k (M, e)) (v, ok) ∧ Ev (fun k => spec_EntryOf k (M, e)) (v, ok) := by
    by_cases h : OkMz M ∧ (0 ≤ e ∧ e < 2 * (M.1 + M.2.1))
    · exact ⟨_, _, (entryOf_ev M e (by omega)).1 h⟩
    · exact ⟨_, _, (entryOf_ev M e (by omega)).2 h⟩
  have iM := isMaze_ev m.1 m.2.1 m.2.2.1 m.2.2.2 (by omega)
  have sM : EvB (fun k => spec_IsMaze k m) (OkMz m) := EvB.step (fun k => spec_IsMaze.eq k m.1 m.2.1 m.2.2.1 m.2.2.2) (miGood_ev m.1 m.2.1 m.2.2.1 m.2.2.2 (by omega)).ret
  refine Ev.step (fun k => laws_FnBallsComeOut_c_c_c.eq k more) (Ev.bind dT ?_)
  by_cases hM : OkMz m
  · obtain ⟨T, T1, T2, T3⟩ := (table_ev m (by omega)).1 hM
    have hL := T1.1
    have hw := hM.1
    have hh := hM.2.1
    have iM := iM.isT hM
    have sM := sM.isT hM
    exact Ev.bind T2 (Ev.bind T3 (Ev.bind dE (Ev.bind x1 (Ev.bind x2 (Ev.no rfl (Ev.bind (dSame_ev T (by omega)) (Ev.no rfl (Ev.no (sameB _) (Ev.no (same3 _) (Ev.bind iM (Ev.no rfl (Ev.bind iM (Ev.bind sM (Ev.no rfl (Ev.yes rfl (Ev.no (by
      simp only
      rw [w64_of (n := m.1 + m.2.1) (by omega) (by omega), w64_of (by omega) (by omega), hL]
      exact neq_self _) (Ev.bind (loop_ev hM T1 T.length 0 (by omega)) (Ev.now _))))))))))))))))))
  · obtain ⟨T2, T3⟩ := (table_ev m (by omega)).2 hM
    have iM := iM.isF hM
    have sM := sM.isF hM
    exact Ev.bind T2 (Ev.bind T3 (Ev.bind dE (Ev.bind x1 (Ev.bind x2 (Ev.no rfl (Ev.bind (dSame_ev [] (by decide)) (Ev.no rfl (Ev.no (sameB _) (Ev.no (same3 _) (Ev.bind iM (Ev.no rfl (Ev.bind iM (Ev.bind sM (Ev.no rfl (Ev.no rfl (Ev.now _))))))))))))))))
theorem mid_none (more : List Int) (hm : ∀ x ∈ more, 0 ≤ x ∧ x ≤ 255) (m : MzT) (out : Int) (after : MzT) : Ev (fun k => laws_FnBallsComeOut_c_c k (more, m, out, false, after)) true := by
  obtain ⟨w, h, cs, t⟩ := m
  obtain ⟨aw, ah, ac, at_⟩ := after
  exact Ev.step (fun k => laws_FnBallsComeOut_c_c.eq k more w h cs t out false aw ah ac at_) (Ev.no rfl (Ev.bind (tail more hm) (Ev.now _)))
theorem mid (more : List Int) (hm : ∀ x ∈ more, 0 ≤ x ∧ x ≤ 255) {m : MzT} {b : BaT} (H : OkBa m b) {n : Nat} (ho : OutsM m b n) : Ev (fun k => laws_FnBallsComeOut_c_c k (more, m, outM m b n, true, mazeM m b n)) true := by
  have hz := H.1.size
  have hr := outM_range H ho
  have hk := hr.2
  have HB := entry_okBa H.1 hk
  cases ht : m.2.2.2 with
  | true =>
    obtain ⟨w, h, cs, t⟩ := m
    simp only at ht
    subst ht
    exact Ev.step (fun k => laws_FnBallsComeOut_c_c.eq k more w h cs true _ true _ _ _ _) (Ev.yes rfl (Ev.no rfl (Ev.bind (tail more hm) (Ev.now _))))
  | false =>
    have hsame : mazeM m b n = m := by
      obtain ⟨w, h, cs, t⟩ := m
      simp only at ht
      subst ht
      show (w, h, (runS w false n (cs, b)).1, false) = _
      rw [run_stay]
    have eE := ((entryOf_ev m (outM m b n) (by omega)).1 ⟨H.1, hk⟩).1
    obtain ⟨T, T1, T2, _⟩ := (table_ev m (by omega)).1 H.1
    have hL := T1.1
    obtain ⟨j, hj⟩ := Int.eq_ofNat_of_zero_le hk.1
    rw [hj] at hk eE HB ⊢
    have hjl : j < T.length := by omega
    obtain ⟨e2, g1, g2, g3⟩ := T1.2 j hjl
    have six : Ev (fun k => impl_ExitOf k (m, entryB m.1 m.2.1 (j : Int))) (e2, true) := by
      rcases six_ev m (entryB m.1 m.2.1 (j : Int)) (by omega) with ⟨_, n, _, h2, h3⟩ | ⟨_, h2, _⟩ | ⟨h2, _⟩
      · rw [g2.one ⟨n, h2, rfl⟩]
        exact h3.e1
      · exact absurd h2 (entry_round H.1 hk)
      · exact absurd HB h2
    obtain ⟨t1, _⟩ := table_back H.1 ht T1 g1
    have i1 : inB (j : Int) T.length = true := inB_nat hjl
    have i2 : inB e2 T.length = true := inB_of g3.1 (by omega)
    have d1 : (T.getD ((j : Int)).toNat default != e2) = false := by rw [Int.toNat_natCast, getD_at g1]; exact neq_self _
    have d2 : (T.getD e2.toNat default != (j : Int)) = false := by rw [getD_at t1]; exact neq_self _
    rw [hsame]
    have s4 := same4 m
    obtain ⟨w, h, cs, t⟩ := m
    simp only at ht
    subst ht
    exact Ev.step (fun k => laws_FnBallsComeOut_c_c.eq k more w h cs false _ true w h cs false) (Ev.yes rfl (Ev.yes rfl (Ev.no s4 (Ev.bind eE (Ev.bind six (Ev.bind T2 (Ev.no rfl (Ev.no rfl (Ev.no rfl (Ev.yes i1 (Ev.no d1 (Ev.yes i2 (Ev.no d2 (Ev.bind (tail more hm) (Ev.now _)))))))))))))))
/-- Behind the first questions, the ball being behind a cell. -/
theorem part (more : List Int) (hm : ∀ x ∈ more, 0 ≤ x ∧ x ≤ 255) {m : MzT} {b : BaT} (H : OkBa m b) (HN : OkBa (mazeM m b 1) (endM m b 1).2) (out : Int) (after : MzT) (hits : Int) (ok : Bool)
    (hs : (ok = true ∧ ∃ n, n ≤ 1000000 ∧ OutsM m b n ∧ out = outM m b n ∧ after = mazeM m b n ∧ hits = hitsM m b n) ∨ (ok = false ∧ Round m b)) :
    Ev (fun k => laws_FnBallsComeOut_c k (more, m, b, out, ok, after, hits, mazeM m b 1, (endM m b 1).2, true)) true := by
  have hz := H.1.size
  have hzn := HN.1.size
  have hB : inB (w64 ((w64 (b.2.1 * m.1)) + b.1)) m.2.2.1.size = true ∧ bt m.2.2.1 (w64 ((w64 (b.2.1 * m.1)) + b.1)).toNat = signB m.1 m.2.2.1 b := by
    obtain ⟨r1, r2, r3⟩ := cell_range (w := m.1) (h := m.2.1) (s := (m.2.2.1, b)) H
    have er := at_range H.2.1.1 H.2.1.2 H.1.1 H.1.2.1
    have hmr := mul_range H.1.1.1 H.1.1.2 H.1.2.1.1 H.1.2.1.2
    have eI : w64 (w64 (b.2.1 * m.1) + b.1) = b.2.1 * m.1 + b.1 := by rw [w64_of (n := b.2.1 * m.1) (by omega) (by omega), w64_of (by omega) (by omega)]
    rw [eI]
    exact ⟨inB_of r1 (by unfold cellI at r1 r2; simp only at r1 r2; omega), rfl⟩
  have hsg := sign_46 (w := m.1) (h := m.2.1) (s := (m.2.2.1, b)) H
  have hl := hits_le m.1 m.2.2.2
  rcases hs with ⟨rfl, n, hn, ho, rfl, rfl, rfl⟩ | ⟨rfl, hr⟩
  · obtain ⟨q, rfl⟩ : ∃ q, n = q + 1 := by
      rcases Nat.eq_zero_or_pos n with h0 | h0
      · subst h0
        exact absurd H.2.1 ho.2
      · exact ⟨n - 1, by omega⟩
    have ho' := (outs_next H.2.1 q).1 ho
    have six : Six (mazeM m b 1) (endM m b 1).2 (outM m b (q + 1)) (mazeM m b (q + 1)) (hitsM (mazeM m b 1) (endM m b 1).2 q) true := by
      rcases six_ev (mazeM m b 1) (endM m b 1).2 (by omega) with ⟨_, n', _, h2, h3⟩ | ⟨_, h2, _⟩ | ⟨h2, _⟩
      · obtain rfl : n' = q := out_one h2 ho'
        exact h3
      · have h3 := out_stay.1 (show OutAt m.1 m.2.1 false ((mazeM m b 1).2.2.1, (endM m b 1).2) q by have := ho'; unfold OutsM at this; rw [h2.1] at this; exact this)
        exact absurd (h2.2 q) h3.2
      · exact absurd HN h2
    have md := mid more hm H ho
    have hh := hits_next m b q
    have hl' := hl (q + 1) (m.2.2.1, b)
    have hb0 : 0 ≤ hitsM m b (q + 1) ∧ hitsM m b (q + 1) ≤ 1000000 := by unfold hitsM; omega
    have e1 := six.e1
    have e3 := six.e3
    have e5 := six.e5
    have s4 := same4 (mazeM m b (q + 1))
    obtain ⟨w, h, cs, t⟩ := m
    obtain ⟨x, y, wy⟩ := b
    refine Ev.step (fun k => laws_FnBallsComeOut_c.eq k more w h cs t x y wy _ true _ _ _ _ _ _ _ _ _ _ _ _ true) (Ev.yes rfl (Ev.bind e1 (Ev.bind e3 (Ev.bind e5 (Ev.yes hB.1 ?_)))))
    rw [hB.2]
    rcases hsg with ⟨g1, g2⟩ | ⟨g1, g2⟩
    · refine Ev.yes g1 (Ev.no rfl (Ev.yes rfl (Ev.no (neq_self _) (Ev.no rfl (Ev.no s4 (Ev.no rfl (Ev.no ?_ (Ev.bind md (Ev.now _)))))))))
      rw [g2] at hh
      rw [w64_of (by omega) (by omega), bne_eq_false_iff_eq]
      omega
    · refine Ev.no g1 (Ev.no rfl (Ev.yes rfl (Ev.no (neq_self _) (Ev.no rfl (Ev.no s4 (Ev.no rfl (Ev.no ?_ (Ev.bind md (Ev.now _)))))))))
      rw [g2] at hh
      rw [w64_of (by omega) (by omega), bne_eq_false_iff_eq]
      omega
  · have six : Six (mazeM m b 1) (endM m b 1).2 0 zeroMz 0 false := by
      rcases six_ev (mazeM m b 1) (endM m b 1).2 (by omega) with ⟨_, n', _, h2, h3⟩ | ⟨_, _, h3⟩ | ⟨h2, _⟩
      · have h4 := (outs_next H.2.1 n').2 h2
        have h5 := out_stay.1 (show OutAt m.1 m.2.1 false (m.2.2.1, b) (n' + 1) by have := h4; unfold OutsM at this; rw [hr.1] at this; exact this)
        exact absurd (hr.2 (n' + 1)) h5.2
      · exact h3
      · exact absurd HN h2
    have md := mid_none more hm m out after
    have e1 := six.e1
    have e3 := six.e3
    have e5 := six.e5
    obtain ⟨w, h, cs, t⟩ := m
    obtain ⟨x, y, wy⟩ := b
    obtain ⟨aw, ah, ac, at_⟩ := after
    refine Ev.step (fun k => laws_FnBallsComeOut_c.eq k more w h cs t x y wy _ false _ _ _ _ _ _ _ _ _ _ _ _ true) (Ev.yes rfl (Ev.bind e1 (Ev.bind e3 (Ev.bind e5 (Ev.yes hB.1 ?_)))))
    rw [hB.2]
    rcases hsg with ⟨g1, g2⟩ | ⟨g1, g2⟩
    · exact Ev.yes g1 (Ev.no rfl (Ev.no rfl (Ev.bind md (Ev.now _))))
    · exact Ev.no g1 (Ev.no rfl (Ev.no rfl (Ev.bind md (Ev.now _))))
/-- The same where the ball is not in the maze behind the cell. -/
theorem part_no (more : List Int) (hm : ∀ x ∈ more, 0 ≤ x ∧ x ≤ 255) (m : MzT) (b : BaT) (out : Int) (ok : Bool) (after : MzT) (hits : Int) (hx : Ev (fun k => laws_FnBallsComeOut_c_c k (more, m, out, ok, after)) true) (M : MzT) (B : BaT) :
    Ev (fun k => laws_FnBallsComeOut_c k (more, m, b, out, ok, after, hits, M, B, false)) true := by
  obtain ⟨w, h, cs, t⟩ := m
  obtain ⟨x, y, wy⟩ := b
  obtain ⟨aw, ah, ac, at_⟩ := after
  exact Ev.step (fun k => laws_FnBallsComeOut_c.eq k more w h cs t x y wy _ ok _ _ _ _ _ _ _ _ _ _ _ _ false) (Ev.no rfl (Ev.bind hx (Ev.now _)))
theorem main (code more : List Int) (h1 : code.length ≤ 9223372036854775807) (h2 : more.length ≤ 9223372036854775807) (hc : ∀ x ∈ code, 0 ≤ x ∧ x ≤ 255) (hm : ∀ x ∈ more, 0 ≤ x ∧ x ≤ 255) : ∃ k, laws_FnBallsComeOut k (code, more) = some true := by
  obtain ⟨g, eg, _⟩ := big_ev code more h1 h2
  refine Ev.rounds (Ev.step (fun k => laws_FnBallsComeOut.eq k code more) (Ev.bind eg (Ev.cond (fun _ => Ev.now _) fun _ => ?_)))
  obtain ⟨m, b, c1, e1, hz⟩ := ball_ev 0 (code, 0, 0) (CurOk.start hc) (by omega)
  have dB : Ev (fun k => spec_DrawExitOf k code) (m, b) := Ev.step (fun k => spec_DrawExitOf.eq k code) (Ev.bind (Ev.step (fun k => spec_DrawIsBall.eq k code) (Ev.bind e1 (Ev.now _))) (Ev.now _))
  refine Ev.bind dB ?_
  have iB := isBall_ev m b (by omega)
  have sB : EvB (fun k => spec_IsBall k (m, b)) (OkBa m b) := EvB.step (fun k => spec_IsBall.eq k m.1 m.2.1 m.2.2.1 m.2.2.2 b.1 b.2.1 b.2.2) (miBall_ev m b (by omega)).ret
  rcases six_ev m b (by omega) with ⟨H, n, hn, ho, six⟩ | ⟨H, hr, six⟩ | ⟨H, six⟩
  · have iB := iB.isT H
    have sB := sB.isT H
    obtain ⟨x1, x2, x3, x4, x5, x6⟩ := six
    have md := mid more hm H ho
    rcases hitCell_ev m b (by omega) with ⟨_, HN, y1, y2⟩ | ⟨_, y1, y2⟩
    · have hzn := HN.1.size
      have iN := (isBall_ev _ _ (by omega)).isT HN
      have pt := part more hm H HN _ _ _ true (.inl ⟨rfl, n, hn, ho, rfl, rfl, rfl⟩)
      repeat' first
        | exact Ev.now _
        | refine Ev.bind (by assumption) ?_
        | refine Ev.no (by first | rfl | exact neq_self _ | exact same4 _ | exact same3 _) ?_
        | refine Ev.yes (by rfl) ?_
    · have pt := part_no more hm m b (outM m b n) true (mazeM m b n) (hitsM m b n) md zeroMz zeroBa
      repeat' first
        | exact Ev.now _
        | refine Ev.bind (by assumption) ?_
        | refine Ev.no (by first | rfl | exact neq_self _ | exact same4 _ | exact same3 _) ?_
        | refine Ev.yes (by rfl) ?_
  · have iB := iB.isT H
    have sB := sB.isT H
    obtain ⟨x1, x2, x3, x4, x5, x6⟩ := six
    rcases hitCell_ev m b (by omega) with ⟨_, HN, y1, y2⟩ | ⟨hb, y1, y2⟩
    · have hzn := HN.1.size
      have iN := (isBall_ev _ _ (by omega)).isT HN
      have pt := part more hm H HN 0 zeroMz 0 false (.inr ⟨rfl, hr⟩)
      repeat' first
        | exact Ev.now _
        | refine Ev.bind (by assumption) ?_
        | refine Ev.no (by first | rfl | exact neq_self _ | exact same4 _ | exact same3 _) ?_
        | refine Ev.yes (by rfl) ?_
    · have pt := part_no more hm m b 0 false zeroMz 0 (mid_none more hm m 0 zeroMz) zeroMz zeroBa
      repeat' first
        | exact Ev.now _
        | refine Ev.bind (by assumption) ?_
        | refine Ev.no (by first | rfl | exact neq_self _ | exact same4 _ | exact same3 _) ?_
        | refine Ev.yes (by rfl) ?_
  · have iB := iB.isF H
    have sB := sB.isF H
    obtain ⟨x1, x2, x3, x4, x5, x6⟩ := six
    rcases hitCell_ev m b (by omega) with ⟨hB, HN, y1, y2⟩ | ⟨hb, y1, y2⟩
    · exact absurd hB H
    · have pt := part_no more hm m b 0 false zeroMz 0 (mid_none more hm m 0 zeroMz) zeroMz zeroBa
      repeat' first
        | exact Ev.now _
        | refine Ev.bind (by assumption) ?_
        | refine Ev.no (by first | rfl | exact neq_self _ | exact same4 _ | exact same3 _) ?_
        | refine Ev.yes (by rfl) ?_
theorem good8 {x : Int} (h : (Sh.int IntKind.u8).good x) : 0 ≤ x ∧ x ≤ 255 := by
  have h : (Lit.int .u8 x).wf = true := h
  simp [Lit.wf, IntKind.min, IntKind.max, IntKind.bits, IntKind.signed] at h
  omega
theorem pure : ∀ d : Dl laws_FnBallsComeOut.ins, goodL laws_FnBallsComeOut.ins d → ∃ k, laws_FnBallsComeOut k d = some true := by
  rintro ⟨code, more⟩ ⟨hg1, hg2⟩
  exact main code more hg1.1 hg2.1 (fun x hx => good8 (hg1.2 x hx)) (fun x hx => good8 (hg2.2 x hx))
end Go.Proofs.YtcmebphcoamohaaDoor.fnBallsComeOut
