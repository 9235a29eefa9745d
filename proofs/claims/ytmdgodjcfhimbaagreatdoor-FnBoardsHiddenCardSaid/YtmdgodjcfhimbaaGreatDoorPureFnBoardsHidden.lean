/- The plain law FnBoardsHidden. -/
import Derived.Test.YtmdgodjcfhimbaaGreatDoorOk
import Derived.Test.YtmdgodjcfhimbaaGreatDoorMgHdw
namespace Go.Proofs.YtmdgodjcfhimbaaGreatDoor.fnBoardsHidden
open Go Go.Proofs Go.Proofs.YtmdgodjcfhimbaaGreatDoorS
set_option linter.unusedVariables false
set_option linter.unusedSimpArgs false
set_option maxRecDepth 10000
noncomputable abbrev cntT (q : ByteArray × Int × Int) (r : Int × Bool) (k : Nat) : Option Bool :=
  cond r.2 ((laws_FnBoardsHidden_l k (q.1, q.2.1, q.2.2, r.1, 1, 0)).bind fun r45 => some (r45.1 == r45.2)) (some true)
noncomputable abbrev dropT (p : Pz) (i : Int) (r : Pz × Bool) (t : Nat → Option Bool) (k : Nat) : Option Bool :=
  cond r.2 (cond (i == (w64 ((p.2.2.2.length : Int) - 1))) (cond (inB i p.2.2.2.length) ((impl_AddClue k (r.1, (p.2.2.2.getD i.toNat default))).bind fun r43 => cond (!r43.2) (some false) ((laws_dPuzzle k (r43.1, p)).bind fun r44 => cond (!r44) (some false) (t k))) (none)) (t k)) (t k)
noncomputable abbrev addT (p : Pz) (c : Cl) (r : Pz × Bool) (t : Nat → Option Bool) (k : Nat) : Option Bool :=
  cond r.2 ((impl_DropClue k (r.1, (p.2.2.2.length : Int))).bind fun r41 => cond (!r41.2) (some false) ((laws_dPuzzle k (r41.1, p)).bind fun r42 => cond (!r42) (some false) (cond (inB (p.2.2.2.length : Int) r.1.2.2.2.length) (cond (!(((r.1.2.2.2.getD ((p.2.2.2.length : Int).toNat) default).1 == c.1) && (((r.1.2.2.2.getD ((p.2.2.2.length : Int).toNat) default).2.1 == c.2.1) && (((r.1.2.2.2.getD ((p.2.2.2.length : Int).toNat) default).2.2 == c.2.2) && true)))) (some false) (t k)) (none)))) (t k)
noncomputable abbrev fitT (x : Cl) (W : Wo) (r : Bool × Bool) (t : Nat → Option Bool) (k : Nat) : Option Bool :=
  cond r.2 ((impl_IsClue k (W.1, (W.2.2.2.1.size : Int), x)).bind fun r40 => cond (!r40) (some false) (t k)) (t k)
theorem cnt_ev (rl : ByteArray) (w h : Int) (hr : rl.size ≤ 10) : ∃ r, Ev (fun k => impl_CountBoards k (rl, w, h)) r ∧ Ev (fun k => spec_CountBoards k (rl, w, h)) r ∧ Ev (fun k => cntT (rl, w, h) r k) true := by
  obtain ⟨a, b⟩ := countB_ev rl w h (by omega)
  by_cases H : SizeOk rl w h
  · obtain ⟨a1, a2⟩ := a H
    exact ⟨_, a1, a2, Ev.yes rfl (Ev.bind (boardsL_ev rl w h H _) (Ev.now' (beq_iff_eq.2 rfl)))⟩
  · obtain ⟨b1, b2⟩ := b H
    exact ⟨_, b1, b2, Ev.no rfl (Ev.now _)⟩
theorem drp_ev (p : Pz) (i : Int) (hr : p.1.size ≤ 10) (hl : p.2.2.2.length ≤ 8) (t : Nat → Option Bool) (ht : Ev t true) : ∃ r : Pz × Bool, Ev (fun k => impl_DropClue k (p, i)) r ∧ Ev (fun k => spec_DropClue k (p, i)) r ∧ r.1.2.2.2.length ≤ 100 ∧ Ev (fun k => dropT p i r t k) true := by
  obtain ⟨rl, w, h, cl⟩ := p
  simp only at hr hl
  obtain ⟨a, b⟩ := drop_ev rl w h cl (by omega) i
  by_cases H : PuzOk rl w h cl ∧ 0 ≤ i ∧ i ≤ (cl.length : Int) - 1
  · obtain ⟨a1, a2⟩ := a H
    obtain ⟨HP, i0, i1⟩ := H
    obtain ⟨n, rfl⟩ := Int.eq_ofNat_of_zero_le i0
    have hn : n < cl.length := by omega
    have hwl := woC_len hn
    refine ⟨_, a1, a2, by show (woC cl n).length ≤ 100; omega, Ev.yes rfl ?_⟩
    have e1 : w64 ((cl.length : Int) - 1) = (cl.length : Int) - 1 := w64_of (by omega) (by omega)
    show Ev (fun k => cond ((n : Int) == (w64 ((cl.length : Int) - 1))) (cond (inB (n : Int) cl.length) ((impl_AddClue k ((rl, w, h, woC cl n), (cl.getD n default))).bind fun r43 => cond (!r43.2) (some false) ((laws_dPuzzle k (r43.1, (rl, w, h, cl))).bind fun r44 => cond (!r44) (some false) (t k))) (none)) (t k)) true
    rw [e1]
    by_cases e : (n : Int) = (cl.length : Int) - 1
    · obtain ⟨c, hc⟩ := nat_list (l := cl) (i := n) hn
      have hcm := HP.2.2 c (List.mem_of_getElem? hc)
      have hP' : PuzOk rl w h (woC cl n) := ⟨HP.1, by have := HP.2.1; omega, fun d hd => HP.2.2 d (woC_mem hd)⟩
      have add := ((add_ev rl w h (woC cl n) (by omega) c).1 ⟨hP', hcm, by have := HP.2.1; omega⟩).1
      have ec : woC cl n ++ [c] = cl := by
        unfold woC
        rw [List.drop_eq_nil_of_le (by omega), List.append_nil]
        have := List.take_add_one (l := cl) (i := n)
        rw [hc, Option.toList_some] at this
        rw [← this, List.take_of_length_le (by omega)]
      rw [ec] at add
      rw [getD_at hc]
      exact Ev.yes (beq_iff_eq.2 e) (Ev.yes (inB_nat hn) (Ev.bind add (Ev.no rfl (Ev.bind (dPuzzle_ev (rl, w, h, cl) (by show cl.length ≤ _; omega)) (Ev.no rfl ht)))))
    · exact Ev.no (beq_eq_false_iff_ne.2 e) ht
  · obtain ⟨b1, b2⟩ := b H
    exact ⟨_, b1, b2, by show ([] : List Cl).length ≤ 100; decide, Ev.no rfl ht⟩
theorem adt_ev (p : Pz) (c : Cl) (hr : p.1.size ≤ 10) (hl : p.2.2.2.length ≤ 8) (t : Nat → Option Bool) (ht : Ev t true) : ∃ r : Pz × Bool, Ev (fun k => impl_AddClue k (p, c)) r ∧ Ev (fun k => spec_AddClue k (p, c)) r ∧ r.1.2.2.2.length ≤ 100 ∧ Ev (fun k => addT p c r t k) true := by
  obtain ⟨rl, w, h, cl⟩ := p
  simp only at hr hl
  obtain ⟨a, b⟩ := add_ev rl w h cl (by omega) c
  by_cases H : PuzOk rl w h cl ∧ ClueOk rl (w * h) c ∧ cl.length ≠ 6
  · obtain ⟨a1, a2⟩ := a H
    obtain ⟨HP, hc, h6⟩ := H
    have hlen : (cl ++ [c]).length = cl.length + 1 := by rw [List.length_append, List.length_singleton]
    have hP' : PuzOk rl w h (cl ++ [c]) := ⟨HP.1, by have := HP.2.1; omega, fun d hd => (List.mem_append.1 hd).elim (HP.2.2 d) fun q => List.mem_singleton.1 q ▸ hc⟩
    have dr := ((drop_ev rl w h (cl ++ [c]) (by omega) (cl.length : Int)).1 ⟨hP', by omega, by omega⟩).1
    have ec : woC (cl ++ [c]) (cl.length : Int).toNat = cl := by
      unfold woC
      rw [Int.toNat_natCast, List.drop_eq_nil_of_le (by omega), List.append_nil, List.take_left']
      rfl
    rw [ec] at dr
    have hg : (cl ++ [c]).getD (cl.length : Int).toNat default = c := getD_at (by rw [Int.toNat_natCast, List.getElem?_append_right (Nat.le_refl _), Nat.sub_self]; rfl)
    refine ⟨_, a1, a2, by show (cl ++ [c]).length ≤ 100; omega, Ev.yes rfl (Ev.bind dr (Ev.no rfl (Ev.bind (dPuzzle_ev (rl, w, h, cl) (by show cl.length ≤ _; omega)) (Ev.no rfl (Ev.yes (inB_nat (by show cl.length < (cl ++ [c]).length; omega)) (Ev.no ?_ ht))))))⟩
    show (!((((cl ++ [c]).getD (cl.length : Int).toNat default).1 == c.1) && ((((cl ++ [c]).getD (cl.length : Int).toNat default).2.1 == c.2.1) && ((((cl ++ [c]).getD (cl.length : Int).toNat default).2.2 == c.2.2) && true)))) = false
    rw [hg]
    simp
  · obtain ⟨b1, b2⟩ := b H
    exact ⟨_, b1, b2, by show ([] : List Cl).length ≤ 100; decide, Ev.no rfl ht⟩
theorem ftt_ev (x : Cl) (W : Wo) (hr : W.1.size ≤ 1000) (hc : W.2.2.2.1.size ≤ 1000) (t : Nat → Option Bool) (ht : Ev t true) : ∃ r : Bool × Bool, Ev (fun k => impl_DoesFit k (x, W)) r ∧ Ev (fun k => spec_DoesFit k (x, W)) r ∧ Ev (fun k => fitT x W r t k) true := by
  obtain ⟨a, b⟩ := doesFit_ev x W (by omega) (by omega)
  by_cases H : HidO W ∧ ClueOk W.1 (W.2.1 * W.2.2.1) x
  · obtain ⟨a1, a2, a3⟩ := a H
    by_cases hf : Fit x W
    · obtain ⟨f1, f2⟩ := a1 hf
      exact ⟨_, f1, f2, Ev.yes rfl (Ev.bind a3 (Ev.no rfl ht))⟩
    · obtain ⟨f1, f2⟩ := a2 hf
      exact ⟨_, f1, f2, Ev.yes rfl (Ev.bind a3 (Ev.no rfl ht))⟩
  · obtain ⟨b1, b2⟩ := b H
    exact ⟨_, b1, b2, Ev.no rfl ht⟩
theorem tail (more : List Int) (hm : ∀ x ∈ more, 0 ≤ x ∧ x ≤ 255) : Ev (fun k => (spec_DrawAddClue k more).bind fun r23 => (impl_AddClue k r23).bind fun r24 => (spec_AddClue k r23).bind fun r25 => (spec_DrawDropClue k more).bind fun r26 => (impl_DropClue k r26).bind fun r27 => (spec_DropClue k r26).bind fun r28 => (spec_DrawDoesFit k more).bind fun r29 => (impl_DoesFit k r29).bind fun r30 => (spec_DoesFit k r29).bind fun r31 => (spec_DrawIsClue k more).bind fun r32 => (spec_DrawCountBoards k more).bind fun r33 => (impl_CountBoards k r33).bind fun r34 => (spec_CountBoards k r33).bind fun r35 => cond (!(r24.2 == r25.2)) (some false) ((laws_dPuzzle k (r24.1, r25.1)).bind fun r36 => cond (!r36) (some false) (cond (!(r27.2 == r28.2)) (some false) ((laws_dPuzzle k (r27.1, r28.1)).bind fun r37 => cond (!r37) (some false) (cond (!(r30.2 == r31.2)) (some false) (cond (!(r30.1 == r31.1)) (some false) ((impl_IsClue k r32).bind fun r38 => (spec_IsClue k r32).bind fun r39 => cond (!(r38 == r39)) (some false) (cond (!(r34.2 == r35.2)) (some false) (cond (r34.1 != r35.1) (some false) (cond r30.2 ((impl_IsClue k (r29.2.1, (r29.2.2.2.2.1.size : Int), r29.1)).bind fun r40 => cond (!r40) (some false) (cond r24.2 ((impl_DropClue k (r24.1, (r23.1.2.2.2.length : Int))).bind fun r41 => cond (!r41.2) (some false) ((laws_dPuzzle k (r41.1, r23.1)).bind fun r42 => cond (!r42) (some false) (cond (inB (r23.1.2.2.2.length : Int) r24.1.2.2.2.length) (cond (!(((r24.1.2.2.2.getD ((r23.1.2.2.2.length : Int).toNat) default).1 == r23.2.1) && (((r24.1.2.2.2.getD ((r23.1.2.2.2.length : Int).toNat) default).2.1 == r23.2.2.1) && (((r24.1.2.2.2.getD ((r23.1.2.2.2.length : Int).toNat) default).2.2 == r23.2.2.2) && true)))) (some false) (cond r27.2 (cond (r26.2 == (w64 ((r26.1.2.2.2.length : Int) - 1))) (cond (inB r26.2 r26.1.2.2.2.length) ((impl_AddClue k (r27.1, (r26.1.2.2.2.getD r26.2.toNat default))).bind fun r43 => cond (!r43.2) (some false) ((laws_dPuzzle k (r43.1, r26.1)).bind fun r44 => cond (!r44) (some false) (cond r34.2 ((laws_FnBoardsHidden_l k (r33.1, r33.2.1, r33.2.2, r34.1, 1, 0)).bind fun r45 => some (r45.1 == r45.2)) (some true)))) (none)) (cond r34.2 ((laws_FnBoardsHidden_l k (r33.1, r33.2.1, r33.2.2, r34.1, 1, 0)).bind fun r46 => some (r46.1 == r46.2)) (some true))) (cond r34.2 ((laws_FnBoardsHidden_l k (r33.1, r33.2.1, r33.2.2, r34.1, 1, 0)).bind fun r47 => some (r47.1 == r47.2)) (some true)))) (none)))) (cond r27.2 (cond (r26.2 == (w64 ((r26.1.2.2.2.length : Int) - 1))) (cond (inB r26.2 r26.1.2.2.2.length) ((impl_AddClue k (r27.1, (r26.1.2.2.2.getD r26.2.toNat default))).bind fun r48 => cond (!r48.2) (some false) ((laws_dPuzzle k (r48.1, r26.1)).bind fun r49 => cond (!r49) (some false) (cond r34.2 ((laws_FnBoardsHidden_l k (r33.1, r33.2.1, r33.2.2, r34.1, 1, 0)).bind fun r50 => some (r50.1 == r50.2)) (some true)))) (none)) (cond r34.2 ((laws_FnBoardsHidden_l k (r33.1, r33.2.1, r33.2.2, r34.1, 1, 0)).bind fun r51 => some (r51.1 == r51.2)) (some true))) (cond r34.2 ((laws_FnBoardsHidden_l k (r33.1, r33.2.1, r33.2.2, r34.1, 1, 0)).bind fun r52 => some (r52.1 == r52.2)) (some true))))) (cond r24.2 ((impl_DropClue k (r24.1, (r23.1.2.2.2.length : Int))).bind fun r53 => cond (!r53.2) (some false) ((laws_dPuzzle k (r53.1, r23.1)).bind fun r54 => cond (!r54) (some false) (cond (inB (r23.1.2.2.2.length : Int) r24.1.2.2.2.length) (cond (!(((r24.1.2.2.2.getD ((r23.1.2.2.2.length : Int).toNat) default).1 == r23.2.1) && (((r24.1.2.2.2.getD ((r23.1.2.2.2.length : Int).toNat) default).2.1 == r23.2.2.1) && (((r24.1.2.2.2.getD ((r23.1.2.2.2.length : Int).toNat) default).2.2 == r23.2.2.2) && true)))) (some false) (cond r27.2 (cond (r26.2 == (w64 ((r26.1.2.2.2.length : Int) - 1))) (cond (inB r26.2 r26.1.2.2.2.length) ((impl_AddClue k (r27.1, (r26.1.2.2.2.getD r26.2.toNat default))).bind fun r55 => cond (!r55.2) (some false) ((laws_dPuzzle k (r55.1, r26.1)).bind fun r56 => cond (!r56) (some false) (cond r34.2 ((laws_FnBoardsHidden_l k (r33.1, r33.2.1, r33.2.2, r34.1, 1, 0)).bind fun r57 => some (r57.1 == r57.2)) (some true)))) (none)) (cond r34.2 ((laws_FnBoardsHidden_l k (r33.1, r33.2.1, r33.2.2, r34.1, 1, 0)).bind fun r58 => some (r58.1 == r58.2)) (some true))) (cond r34.2 ((laws_FnBoardsHidden_l k (r33.1, r33.2.1, r33.2.2, r34.1, 1, 0)).bind fun r59 => some (r59.1 == r59.2)) (some true)))) (none)))) (cond r27.2 (cond (r26.2 == (w64 ((r26.1.2.2.2.length : Int) - 1))) (cond (inB r26.2 r26.1.2.2.2.length) ((impl_AddClue k (r27.1, (r26.1.2.2.2.getD r26.2.toNat default))).bind fun r60 => cond (!r60.2) (some false) ((laws_dPuzzle k (r60.1, r26.1)).bind fun r61 => cond (!r61) (some false) (cond r34.2 ((laws_FnBoardsHidden_l k (r33.1, r33.2.1, r33.2.2, r34.1, 1, 0)).bind fun r62 => some (r62.1 == r62.2)) (some true)))) (none)) (cond r34.2 ((laws_FnBoardsHidden_l k (r33.1, r33.2.1, r33.2.2, r34.1, 1, 0)).bind fun r63 => some (r63.1 == r63.2)) (some true))) (cond r34.2 ((laws_FnBoardsHidden_l k (r33.1, r33.2.1, r33.2.2, r34.1, 1, 0)).bind fun r64 => some (r64.1 == r64.2)) (some true)))))))))))))) true := by
  have sb : ∀ b : Bool, (!(b == b)) = false := fun b => by cases b <;> rfl
  obtain ⟨p, c, d1, p1, p2⟩ := drawAdd_ev more hm
  obtain ⟨s, i, d2, s1, s2⟩ := drawDrop_ev more hm
  obtain ⟨x, W, d3, w1, w2⟩ := drawFit_ev more hm
  obtain ⟨rl, n, y, d4, r1⟩ := drawIsClue_ev more hm
  obtain ⟨bl, bw, bh, d5, b1⟩ := drawBoards_ev more hm
  obtain ⟨C, c1, c2, c3⟩ := cnt_ev bl bw bh b1
  obtain ⟨D, e1, e2, e4, e3⟩ := drp_ev s i s1 s2 _ c3
  obtain ⟨A, a1, a2, a4, a3⟩ := adt_ev p c p1 p2 _ e3
  obtain ⟨F, f1, f2, f3⟩ := ftt_ev x W w1 w2 _ a3
  have q1 := dPuzzle_ev A.1 (by omega)
  have q2 := dPuzzle_ev D.1 (by omega)
  obtain ⟨v, i1, i2⟩ := isClue_ev rl n y (by omega)
  obtain ⟨v', j1, j2⟩ := isClueS_ev rl n y
  have ev : v = v' := by
    rw [Bool.eq_iff_iff, i2, j2]
  subst ev
  repeat' first
    | exact f3
    | exact Ev.now _
    | refine Ev.bind (by assumption) ?_
    | refine Ev.no (by first | rfl | assumption | exact neq_self _ | exact sb _ | exact sameS _) ?_
    | refine Ev.yes (by first | rfl | assumption) ?_
theorem main (code more : List Int) (h1 : code.length ≤ 9223372036854775807) (h2 : more.length ≤ 9223372036854775807) (hc : ∀ x ∈ code, 0 ≤ x ∧ x ≤ 255) (hm : ∀ x ∈ more, 0 ≤ x ∧ x ≤ 255) : ∃ k, laws_FnBoardsHidden k (code, more) = some true := by
  obtain ⟨b, eb, _⟩ := big_ev code more h1 h2
  refine Ev.rounds (Ev.step (fun k => laws_FnBoardsHidden.eq k code more) (Ev.bind eb (Ev.cond (fun _ => Ev.now _) fun _ => ?_)))
  have tl := tail more hm
  have sb : ∀ b : Bool, (!(b == b)) = false := fun b => by cases b <;> rfl
  obtain ⟨W, n, z, d1, w1, w2⟩ := drawMake_ev code hc
  obtain ⟨⟨ql, qw, qh, qc⟩, d2, q1, q2⟩ := drawHard_ev more hm
  simp only at q1 q2
  obtain ⟨m1, m2⟩ := make_ev W (by omega) (by omega) n z
  obtain ⟨k1, k2, k3, k4⟩ := hard_ev ql qw qh qc (by omega)
  have z0 := dPuzzle_ev zeroP (by show ([] : List Cl).length ≤ _; decide)
  have B : ∀ g : Nat → Option Bool, g = (fun k => (spec_DrawHarderPuzzle k more).bind fun r14 => (impl_HarderPuzzle k r14).bind fun r15 => (spec_HarderPuzzle k r14).bind fun r16 => (impl_IsSolved k r14).bind fun r17 => cond (!(r15.2 == r16.2)) (some false) ((laws_dPuzzle k (r15.1, r16.1)).bind fun r18 => cond (!r18) (some false) (cond r17.2 (cond (!(r15.2 == r17.1)) (some false) (cond r15.2 ((impl_Solutions k r14).bind fun r19 => (impl_Solutions k r15.1).bind fun r20 => (impl_NeedlessClues k r15.1).bind fun r21 => cond (!r19.2) (some false) (cond (!r20.2) (some false) ((laws_dTexts k (r19.1, r20.1)).bind fun r22 => cond (!r22) (some false) (cond (!r21.2) (some false) (cond ((r21.1.length : Int) != 0) (some false) (cond (decide ((r15.1.2.2.2.length : Int) > (r14.2.2.2.length : Int))) (some false) ((spec_DrawAddClue k more).bind fun r23 => (impl_AddClue k r23).bind fun r24 => (spec_AddClue k r23).bind fun r25 => (spec_DrawDropClue k more).bind fun r26 => (impl_DropClue k r26).bind fun r27 => (spec_DropClue k r26).bind fun r28 => (spec_DrawDoesFit k more).bind fun r29 => (impl_DoesFit k r29).bind fun r30 => (spec_DoesFit k r29).bind fun r31 => (spec_DrawIsClue k more).bind fun r32 => (spec_DrawCountBoards k more).bind fun r33 => (impl_CountBoards k r33).bind fun r34 => (spec_CountBoards k r33).bind fun r35 => cond (!(r24.2 == r25.2)) (some false) ((laws_dPuzzle k (r24.1, r25.1)).bind fun r36 => cond (!r36) (some false) (cond (!(r27.2 == r28.2)) (some false) ((laws_dPuzzle k (r27.1, r28.1)).bind fun r37 => cond (!r37) (some false) (cond (!(r30.2 == r31.2)) (some false) (cond (!(r30.1 == r31.1)) (some false) ((impl_IsClue k r32).bind fun r38 => (spec_IsClue k r32).bind fun r39 => cond (!(r38 == r39)) (some false) (cond (!(r34.2 == r35.2)) (some false) (cond (r34.1 != r35.1) (some false) (cond r30.2 ((impl_IsClue k (r29.2.1, (r29.2.2.2.2.1.size : Int), r29.1)).bind fun r40 => cond (!r40) (some false) (cond r24.2 ((impl_DropClue k (r24.1, (r23.1.2.2.2.length : Int))).bind fun r41 => cond (!r41.2) (some false) ((laws_dPuzzle k (r41.1, r23.1)).bind fun r42 => cond (!r42) (some false) (cond (inB (r23.1.2.2.2.length : Int) r24.1.2.2.2.length) (cond (!(((r24.1.2.2.2.getD ((r23.1.2.2.2.length : Int).toNat) default).1 == r23.2.1) && (((r24.1.2.2.2.getD ((r23.1.2.2.2.length : Int).toNat) default).2.1 == r23.2.2.1) && (((r24.1.2.2.2.getD ((r23.1.2.2.2.length : Int).toNat) default).2.2 == r23.2.2.2) && true)))) (some false) (cond r27.2 (cond (r26.2 == (w64 ((r26.1.2.2.2.length : Int) - 1))) (cond (inB r26.2 r26.1.2.2.2.length) ((impl_AddClue k (r27.1, (r26.1.2.2.2.getD r26.2.toNat default))).bind fun r43 => cond (!r43.2) (some false) ((laws_dPuzzle k (r43.1, r26.1)).bind fun r44 => cond (!r44) (some false) (cond r34.2 ((laws_FnBoardsHidden_l k (r33.1, r33.2.1, r33.2.2, r34.1, 1, 0)).bind fun r45 => some (r45.1 == r45.2)) (some true)))) (none)) (cond r34.2 ((laws_FnBoardsHidden_l k (r33.1, r33.2.1, r33.2.2, r34.1, 1, 0)).bind fun r46 => some (r46.1 == r46.2)) (some true))) (cond r34.2 ((laws_FnBoardsHidden_l k (r33.1, r33.2.1, r33.2.2, r34.1, 1, 0)).bind fun r47 => some (r47.1 == r47.2)) (some true)))) (none)))) (cond r27.2 (cond (r26.2 == (w64 ((r26.1.2.2.2.length : Int) - 1))) (cond (inB r26.2 r26.1.2.2.2.length) ((impl_AddClue k (r27.1, (r26.1.2.2.2.getD r26.2.toNat default))).bind fun r48 => cond (!r48.2) (some false) ((laws_dPuzzle k (r48.1, r26.1)).bind fun r49 => cond (!r49) (some false) (cond r34.2 ((laws_FnBoardsHidden_l k (r33.1, r33.2.1, r33.2.2, r34.1, 1, 0)).bind fun r50 => some (r50.1 == r50.2)) (some true)))) (none)) (cond r34.2 ((laws_FnBoardsHidden_l k (r33.1, r33.2.1, r33.2.2, r34.1, 1, 0)).bind fun r51 => some (r51.1 == r51.2)) (some true))) (cond r34.2 ((laws_FnBoardsHidden_l k (r33.1, r33.2.1, r33.2.2, r34.1, 1, 0)).bind fun r52 => some (r52.1 == r52.2)) (some true))))) (cond r24.2 ((impl_DropClue k (r24.1, (r23.1.2.2.2.length : Int))).bind fun r53 => cond (!r53.2) (some false) ((laws_dPuzzle k (r53.1, r23.1)).bind fun r54 => cond (!r54) (some false) (cond (inB (r23.1.2.2.2.length : Int) r24.1.2.2.2.length) (cond (!(((r24.1.2.2.2.getD ((r23.1.2.2.2.length : Int).toNat) default).1 == r23.2.1) && (((r24.1.2.2.2.getD ((r23.1.2.2.2.length : Int).toNat) default).2.1 == r23.2.2.1) && (((r24.1.2.2.2.getD ((r23.1.2.2.2.length : Int).toNat) default).2.2 == r23.2.2.2) && true)))) (some false) (cond r27.2 (cond (r26.2 == (w64 ((r26.1.2.2.2.length : Int) - 1))) (cond (inB r26.2 r26.1.2.2.2.length) ((impl_AddClue k (r27.1, (r26.1.2.2.2.getD r26.2.toNat default))).bind fun r55 => cond (!r55.2) (some false) ((laws_dPuzzle k (r55.1, r26.1)).bind fun r56 => cond (!r56) (some false) (cond r34.2 ((laws_FnBoardsHidden_l k (r33.1, r33.2.1, r33.2.2, r34.1, 1, 0)).bind fun r57 => some (r57.1 == r57.2)) (some true)))) (none)) (cond r34.2 ((laws_FnBoardsHidden_l k (r33.1, r33.2.1, r33.2.2, r34.1, 1, 0)).bind fun r58 => some (r58.1 == r58.2)) (some true))) (cond r34.2 ((laws_FnBoardsHidden_l k (r33.1, r33.2.1, r33.2.2, r34.1, 1, 0)).bind fun r59 => some (r59.1 == r59.2)) (some true)))) (none)))) (cond r27.2 (cond (r26.2 == (w64 ((r26.1.2.2.2.length : Int) - 1))) (cond (inB r26.2 r26.1.2.2.2.length) ((impl_AddClue k (r27.1, (r26.1.2.2.2.getD r26.2.toNat default))).bind fun r60 => cond (!r60.2) (some false) ((laws_dPuzzle k (r60.1, r26.1)).bind fun r61 => cond (!r61) (some false) (cond r34.2 ((laws_FnBoardsHidden_l k (r33.1, r33.2.1, r33.2.2, r34.1, 1, 0)).bind fun r62 => some (r62.1 == r62.2)) (some true)))) (none)) (cond r34.2 ((laws_FnBoardsHidden_l k (r33.1, r33.2.1, r33.2.2, r34.1, 1, 0)).bind fun r63 => some (r63.1 == r63.2)) (some true))) (cond r34.2 ((laws_FnBoardsHidden_l k (r33.1, r33.2.1, r33.2.2, r34.1, 1, 0)).bind fun r64 => some (r64.1 == r64.2)) (some true)))))))))))))))))))) ((spec_DrawAddClue k more).bind fun r65 => (impl_AddClue k r65).bind fun r66 => (spec_AddClue k r65).bind fun r67 => (spec_DrawDropClue k more).bind fun r68 => (impl_DropClue k r68).bind fun r69 => (spec_DropClue k r68).bind fun r70 => (spec_DrawDoesFit k more).bind fun r71 => (impl_DoesFit k r71).bind fun r72 => (spec_DoesFit k r71).bind fun r73 => (spec_DrawIsClue k more).bind fun r74 => (spec_DrawCountBoards k more).bind fun r75 => (impl_CountBoards k r75).bind fun r76 => (spec_CountBoards k r75).bind fun r77 => cond (!(r66.2 == r67.2)) (some false) ((laws_dPuzzle k (r66.1, r67.1)).bind fun r78 => cond (!r78) (some false) (cond (!(r69.2 == r70.2)) (some false) ((laws_dPuzzle k (r69.1, r70.1)).bind fun r79 => cond (!r79) (some false) (cond (!(r72.2 == r73.2)) (some false) (cond (!(r72.1 == r73.1)) (some false) ((impl_IsClue k r74).bind fun r80 => (spec_IsClue k r74).bind fun r81 => cond (!(r80 == r81)) (some false) (cond (!(r76.2 == r77.2)) (some false) (cond (r76.1 != r77.1) (some false) (cond r72.2 ((impl_IsClue k (r71.2.1, (r71.2.2.2.2.1.size : Int), r71.1)).bind fun r82 => cond (!r82) (some false) (cond r66.2 ((impl_DropClue k (r66.1, (r65.1.2.2.2.length : Int))).bind fun r83 => cond (!r83.2) (some false) ((laws_dPuzzle k (r83.1, r65.1)).bind fun r84 => cond (!r84) (some false) (cond (inB (r65.1.2.2.2.length : Int) r66.1.2.2.2.length) (cond (!(((r66.1.2.2.2.getD ((r65.1.2.2.2.length : Int).toNat) default).1 == r65.2.1) && (((r66.1.2.2.2.getD ((r65.1.2.2.2.length : Int).toNat) default).2.1 == r65.2.2.1) && (((r66.1.2.2.2.getD ((r65.1.2.2.2.length : Int).toNat) default).2.2 == r65.2.2.2) && true)))) (some false) (cond r69.2 (cond (r68.2 == (w64 ((r68.1.2.2.2.length : Int) - 1))) (cond (inB r68.2 r68.1.2.2.2.length) ((impl_AddClue k (r69.1, (r68.1.2.2.2.getD r68.2.toNat default))).bind fun r85 => cond (!r85.2) (some false) ((laws_dPuzzle k (r85.1, r68.1)).bind fun r86 => cond (!r86) (some false) (cond r76.2 ((laws_FnBoardsHidden_l k (r75.1, r75.2.1, r75.2.2, r76.1, 1, 0)).bind fun r87 => some (r87.1 == r87.2)) (some true)))) (none)) (cond r76.2 ((laws_FnBoardsHidden_l k (r75.1, r75.2.1, r75.2.2, r76.1, 1, 0)).bind fun r88 => some (r88.1 == r88.2)) (some true))) (cond r76.2 ((laws_FnBoardsHidden_l k (r75.1, r75.2.1, r75.2.2, r76.1, 1, 0)).bind fun r89 => some (r89.1 == r89.2)) (some true)))) (none)))) (cond r69.2 (cond (r68.2 == (w64 ((r68.1.2.2.2.length : Int) - 1))) (cond (inB r68.2 r68.1.2.2.2.length) ((impl_AddClue k (r69.1, (r68.1.2.2.2.getD r68.2.toNat default))).bind fun r90 => cond (!r90.2) (some false) ((laws_dPuzzle k (r90.1, r68.1)).bind fun r91 => cond (!r91) (some false) (cond r76.2 ((laws_FnBoardsHidden_l k (r75.1, r75.2.1, r75.2.2, r76.1, 1, 0)).bind fun r92 => some (r92.1 == r92.2)) (some true)))) (none)) (cond r76.2 ((laws_FnBoardsHidden_l k (r75.1, r75.2.1, r75.2.2, r76.1, 1, 0)).bind fun r93 => some (r93.1 == r93.2)) (some true))) (cond r76.2 ((laws_FnBoardsHidden_l k (r75.1, r75.2.1, r75.2.2, r76.1, 1, 0)).bind fun r94 => some (r94.1 == r94.2)) (some true))))) (cond r66.2 ((impl_DropClue k (r66.1, (r65.1.2.2.2.length : Int))).bind fun r95 => cond (!r95.2) (some false) ((laws_dPuzzle k (r95.1, r65.1)).bind fun r96 => cond (!r96) (some false) (cond (inB (r65.1.2.2.2.length : Int) r66.1.2.2.2.length) (cond (!(((r66.1.2.2.2.getD ((r65.1.2.2.2.length : Int).toNat) default).1 == r65.2.1) && (((r66.1.2.2.2.getD ((r65.1.2.2.2.length : Int).toNat) default).2.1 == r65.2.2.1) && (((r66.1.2.2.2.getD ((r65.1.2.2.2.length : Int).toNat) default).2.2 == r65.2.2.2) && true)))) (some false) (cond r69.2 (cond (r68.2 == (w64 ((r68.1.2.2.2.length : Int) - 1))) (cond (inB r68.2 r68.1.2.2.2.length) ((impl_AddClue k (r69.1, (r68.1.2.2.2.getD r68.2.toNat default))).bind fun r97 => cond (!r97.2) (some false) ((laws_dPuzzle k (r97.1, r68.1)).bind fun r98 => cond (!r98) (some false) (cond r76.2 ((laws_FnBoardsHidden_l k (r75.1, r75.2.1, r75.2.2, r76.1, 1, 0)).bind fun r99 => some (r99.1 == r99.2)) (some true)))) (none)) (cond r76.2 ((laws_FnBoardsHidden_l k (r75.1, r75.2.1, r75.2.2, r76.1, 1, 0)).bind fun r100 => some (r100.1 == r100.2)) (some true))) (cond r76.2 ((laws_FnBoardsHidden_l k (r75.1, r75.2.1, r75.2.2, r76.1, 1, 0)).bind fun r101 => some (r101.1 == r101.2)) (some true)))) (none)))) (cond r69.2 (cond (r68.2 == (w64 ((r68.1.2.2.2.length : Int) - 1))) (cond (inB r68.2 r68.1.2.2.2.length) ((impl_AddClue k (r69.1, (r68.1.2.2.2.getD r68.2.toNat default))).bind fun r102 => cond (!r102.2) (some false) ((laws_dPuzzle k (r102.1, r68.1)).bind fun r103 => cond (!r103) (some false) (cond r76.2 ((laws_FnBoardsHidden_l k (r75.1, r75.2.1, r75.2.2, r76.1, 1, 0)).bind fun r104 => some (r104.1 == r104.2)) (some true)))) (none)) (cond r76.2 ((laws_FnBoardsHidden_l k (r75.1, r75.2.1, r75.2.2, r76.1, 1, 0)).bind fun r105 => some (r105.1 == r105.2)) (some true))) (cond r76.2 ((laws_FnBoardsHidden_l k (r75.1, r75.2.1, r75.2.2, r76.1, 1, 0)).bind fun r106 => some (r106.1 == r106.2)) (some true)))))))))))))))) (cond (!(r15.2 == false)) (some false) (cond r15.2 ((impl_Solutions k r14).bind fun r107 => (impl_Solutions k r15.1).bind fun r108 => (impl_NeedlessClues k r15.1).bind fun r109 => cond (!r107.2) (some false) (cond (!r108.2) (some false) ((laws_dTexts k (r107.1, r108.1)).bind fun r110 => cond (!r110) (some false) (cond (!r109.2) (some false) (cond ((r109.1.length : Int) != 0) (some false) (cond (decide ((r15.1.2.2.2.length : Int) > (r14.2.2.2.length : Int))) (some false) ((spec_DrawAddClue k more).bind fun r111 => (impl_AddClue k r111).bind fun r112 => (spec_AddClue k r111).bind fun r113 => (spec_DrawDropClue k more).bind fun r114 => (impl_DropClue k r114).bind fun r115 => (spec_DropClue k r114).bind fun r116 => (spec_DrawDoesFit k more).bind fun r117 => (impl_DoesFit k r117).bind fun r118 => (spec_DoesFit k r117).bind fun r119 => (spec_DrawIsClue k more).bind fun r120 => (spec_DrawCountBoards k more).bind fun r121 => (impl_CountBoards k r121).bind fun r122 => (spec_CountBoards k r121).bind fun r123 => cond (!(r112.2 == r113.2)) (some false) ((laws_dPuzzle k (r112.1, r113.1)).bind fun r124 => cond (!r124) (some false) (cond (!(r115.2 == r116.2)) (some false) ((laws_dPuzzle k (r115.1, r116.1)).bind fun r125 => cond (!r125) (some false) (cond (!(r118.2 == r119.2)) (some false) (cond (!(r118.1 == r119.1)) (some false) ((impl_IsClue k r120).bind fun r126 => (spec_IsClue k r120).bind fun r127 => cond (!(r126 == r127)) (some false) (cond (!(r122.2 == r123.2)) (some false) (cond (r122.1 != r123.1) (some false) (cond r118.2 ((impl_IsClue k (r117.2.1, (r117.2.2.2.2.1.size : Int), r117.1)).bind fun r128 => cond (!r128) (some false) (cond r112.2 ((impl_DropClue k (r112.1, (r111.1.2.2.2.length : Int))).bind fun r129 => cond (!r129.2) (some false) ((laws_dPuzzle k (r129.1, r111.1)).bind fun r130 => cond (!r130) (some false) (cond (inB (r111.1.2.2.2.length : Int) r112.1.2.2.2.length) (cond (!(((r112.1.2.2.2.getD ((r111.1.2.2.2.length : Int).toNat) default).1 == r111.2.1) && (((r112.1.2.2.2.getD ((r111.1.2.2.2.length : Int).toNat) default).2.1 == r111.2.2.1) && (((r112.1.2.2.2.getD ((r111.1.2.2.2.length : Int).toNat) default).2.2 == r111.2.2.2) && true)))) (some false) (cond r115.2 (cond (r114.2 == (w64 ((r114.1.2.2.2.length : Int) - 1))) (cond (inB r114.2 r114.1.2.2.2.length) ((impl_AddClue k (r115.1, (r114.1.2.2.2.getD r114.2.toNat default))).bind fun r131 => cond (!r131.2) (some false) ((laws_dPuzzle k (r131.1, r114.1)).bind fun r132 => cond (!r132) (some false) (cond r122.2 ((laws_FnBoardsHidden_l k (r121.1, r121.2.1, r121.2.2, r122.1, 1, 0)).bind fun r133 => some (r133.1 == r133.2)) (some true)))) (none)) (cond r122.2 ((laws_FnBoardsHidden_l k (r121.1, r121.2.1, r121.2.2, r122.1, 1, 0)).bind fun r134 => some (r134.1 == r134.2)) (some true))) (cond r122.2 ((laws_FnBoardsHidden_l k (r121.1, r121.2.1, r121.2.2, r122.1, 1, 0)).bind fun r135 => some (r135.1 == r135.2)) (some true)))) (none)))) (cond r115.2 (cond (r114.2 == (w64 ((r114.1.2.2.2.length : Int) - 1))) (cond (inB r114.2 r114.1.2.2.2.length) ((impl_AddClue k (r115.1, (r114.1.2.2.2.getD r114.2.toNat default))).bind fun r136 => cond (!r136.2) (some false) ((laws_dPuzzle k (r136.1, r114.1)).bind fun r137 => cond (!r137) (some false) (cond r122.2 ((laws_FnBoardsHidden_l k (r121.1, r121.2.1, r121.2.2, r122.1, 1, 0)).bind fun r138 => some (r138.1 == r138.2)) (some true)))) (none)) (cond r122.2 ((laws_FnBoardsHidden_l k (r121.1, r121.2.1, r121.2.2, r122.1, 1, 0)).bind fun r139 => some (r139.1 == r139.2)) (some true))) (cond r122.2 ((laws_FnBoardsHidden_l k (r121.1, r121.2.1, r121.2.2, r122.1, 1, 0)).bind fun r140 => some (r140.1 == r140.2)) (some true))))) (cond r112.2 ((impl_DropClue k (r112.1, (r111.1.2.2.2.length : Int))).bind fun r141 => cond (!r141.2) (some false) ((laws_dPuzzle k (r141.1, r111.1)).bind fun r142 => cond (!r142) (some false) (cond (inB (r111.1.2.2.2.length : Int) r112.1.2.2.2.length) (cond (!(((r112.1.2.2.2.getD ((r111.1.2.2.2.length : Int).toNat) default).1 == r111.2.1) && (((r112.1.2.2.2.getD ((r111.1.2.2.2.length : Int).toNat) default).2.1 == r111.2.2.1) && (((r112.1.2.2.2.getD ((r111.1.2.2.2.length : Int).toNat) default).2.2 == r111.2.2.2) && true)))) (some false) (cond r115.2 (cond (r114.2 == (w64 ((r114.1.2.2.2.length : Int) - 1))) (cond (inB r114.2 r114.1.2.2.2.length) ((impl_AddClue k (r115.1, (r114.1.2.2.2.getD r114.2.toNat default))).bind fun r143 => cond (!r143.2) (some false) ((laws_dPuzzle k (r143.1, r114.1)).bind fun r144 => cond (!r144) (some false) (cond r122.2 ((laws_FnBoardsHidden_l k (r121.1, r121.2.1, r121.2.2, r122.1, 1, 0)).bind fun r145 => some (r145.1 == r145.2)) (some true)))) (none)) (cond r122.2 ((laws_FnBoardsHidden_l k (r121.1, r121.2.1, r121.2.2, r122.1, 1, 0)).bind fun r146 => some (r146.1 == r146.2)) (some true))) (cond r122.2 ((laws_FnBoardsHidden_l k (r121.1, r121.2.1, r121.2.2, r122.1, 1, 0)).bind fun r147 => some (r147.1 == r147.2)) (some true)))) (none)))) (cond r115.2 (cond (r114.2 == (w64 ((r114.1.2.2.2.length : Int) - 1))) (cond (inB r114.2 r114.1.2.2.2.length) ((impl_AddClue k (r115.1, (r114.1.2.2.2.getD r114.2.toNat default))).bind fun r148 => cond (!r148.2) (some false) ((laws_dPuzzle k (r148.1, r114.1)).bind fun r149 => cond (!r149) (some false) (cond r122.2 ((laws_FnBoardsHidden_l k (r121.1, r121.2.1, r121.2.2, r122.1, 1, 0)).bind fun r150 => some (r150.1 == r150.2)) (some true)))) (none)) (cond r122.2 ((laws_FnBoardsHidden_l k (r121.1, r121.2.1, r121.2.2, r122.1, 1, 0)).bind fun r151 => some (r151.1 == r151.2)) (some true))) (cond r122.2 ((laws_FnBoardsHidden_l k (r121.1, r121.2.1, r121.2.2, r122.1, 1, 0)).bind fun r152 => some (r152.1 == r152.2)) (some true)))))))))))))))))))) ((spec_DrawAddClue k more).bind fun r153 => (impl_AddClue k r153).bind fun r154 => (spec_AddClue k r153).bind fun r155 => (spec_DrawDropClue k more).bind fun r156 => (impl_DropClue k r156).bind fun r157 => (spec_DropClue k r156).bind fun r158 => (spec_DrawDoesFit k more).bind fun r159 => (impl_DoesFit k r159).bind fun r160 => (spec_DoesFit k r159).bind fun r161 => (spec_DrawIsClue k more).bind fun r162 => (spec_DrawCountBoards k more).bind fun r163 => (impl_CountBoards k r163).bind fun r164 => (spec_CountBoards k r163).bind fun r165 => cond (!(r154.2 == r155.2)) (some false) ((laws_dPuzzle k (r154.1, r155.1)).bind fun r166 => cond (!r166) (some false) (cond (!(r157.2 == r158.2)) (some false) ((laws_dPuzzle k (r157.1, r158.1)).bind fun r167 => cond (!r167) (some false) (cond (!(r160.2 == r161.2)) (some false) (cond (!(r160.1 == r161.1)) (some false) ((impl_IsClue k r162).bind fun r168 => (spec_IsClue k r162).bind fun r169 => cond (!(r168 == r169)) (some false) (cond (!(r164.2 == r165.2)) (some false) (cond (r164.1 != r165.1) (some false) (cond r160.2 ((impl_IsClue k (r159.2.1, (r159.2.2.2.2.1.size : Int), r159.1)).bind fun r170 => cond (!r170) (some false) (cond r154.2 ((impl_DropClue k (r154.1, (r153.1.2.2.2.length : Int))).bind fun r171 => cond (!r171.2) (some false) ((laws_dPuzzle k (r171.1, r153.1)).bind fun r172 => cond (!r172) (some false) (cond (inB (r153.1.2.2.2.length : Int) r154.1.2.2.2.length) (cond (!(((r154.1.2.2.2.getD ((r153.1.2.2.2.length : Int).toNat) default).1 == r153.2.1) && (((r154.1.2.2.2.getD ((r153.1.2.2.2.length : Int).toNat) default).2.1 == r153.2.2.1) && (((r154.1.2.2.2.getD ((r153.1.2.2.2.length : Int).toNat) default).2.2 == r153.2.2.2) && true)))) (some false) (cond r157.2 (cond (r156.2 == (w64 ((r156.1.2.2.2.length : Int) - 1))) (cond (inB r156.2 r156.1.2.2.2.length) ((impl_AddClue k (r157.1, (r156.1.2.2.2.getD r156.2.toNat default))).bind fun r173 => cond (!r173.2) (some false) ((laws_dPuzzle k (r173.1, r156.1)).bind fun r174 => cond (!r174) (some false) (cond r164.2 ((laws_FnBoardsHidden_l k (r163.1, r163.2.1, r163.2.2, r164.1, 1, 0)).bind fun r175 => some (r175.1 == r175.2)) (some true)))) (none)) (cond r164.2 ((laws_FnBoardsHidden_l k (r163.1, r163.2.1, r163.2.2, r164.1, 1, 0)).bind fun r176 => some (r176.1 == r176.2)) (some true))) (cond r164.2 ((laws_FnBoardsHidden_l k (r163.1, r163.2.1, r163.2.2, r164.1, 1, 0)).bind fun r177 => some (r177.1 == r177.2)) (some true)))) (none)))) (cond r157.2 (cond (r156.2 == (w64 ((r156.1.2.2.2.length : Int) - 1))) (cond (inB r156.2 r156.1.2.2.2.length) ((impl_AddClue k (r157.1, (r156.1.2.2.2.getD r156.2.toNat default))).bind fun r178 => cond (!r178.2) (some false) ((laws_dPuzzle k (r178.1, r156.1)).bind fun r179 => cond (!r179) (some false) (cond r164.2 ((laws_FnBoardsHidden_l k (r163.1, r163.2.1, r163.2.2, r164.1, 1, 0)).bind fun r180 => some (r180.1 == r180.2)) (some true)))) (none)) (cond r164.2 ((laws_FnBoardsHidden_l k (r163.1, r163.2.1, r163.2.2, r164.1, 1, 0)).bind fun r181 => some (r181.1 == r181.2)) (some true))) (cond r164.2 ((laws_FnBoardsHidden_l k (r163.1, r163.2.1, r163.2.2, r164.1, 1, 0)).bind fun r182 => some (r182.1 == r182.2)) (some true))))) (cond r154.2 ((impl_DropClue k (r154.1, (r153.1.2.2.2.length : Int))).bind fun r183 => cond (!r183.2) (some false) ((laws_dPuzzle k (r183.1, r153.1)).bind fun r184 => cond (!r184) (some false) (cond (inB (r153.1.2.2.2.length : Int) r154.1.2.2.2.length) (cond (!(((r154.1.2.2.2.getD ((r153.1.2.2.2.length : Int).toNat) default).1 == r153.2.1) && (((r154.1.2.2.2.getD ((r153.1.2.2.2.length : Int).toNat) default).2.1 == r153.2.2.1) && (((r154.1.2.2.2.getD ((r153.1.2.2.2.length : Int).toNat) default).2.2 == r153.2.2.2) && true)))) (some false) (cond r157.2 (cond (r156.2 == (w64 ((r156.1.2.2.2.length : Int) - 1))) (cond (inB r156.2 r156.1.2.2.2.length) ((impl_AddClue k (r157.1, (r156.1.2.2.2.getD r156.2.toNat default))).bind fun r185 => cond (!r185.2) (some false) ((laws_dPuzzle k (r185.1, r156.1)).bind fun r186 => cond (!r186) (some false) (cond r164.2 ((laws_FnBoardsHidden_l k (r163.1, r163.2.1, r163.2.2, r164.1, 1, 0)).bind fun r187 => some (r187.1 == r187.2)) (some true)))) (none)) (cond r164.2 ((laws_FnBoardsHidden_l k (r163.1, r163.2.1, r163.2.2, r164.1, 1, 0)).bind fun r188 => some (r188.1 == r188.2)) (some true))) (cond r164.2 ((laws_FnBoardsHidden_l k (r163.1, r163.2.1, r163.2.2, r164.1, 1, 0)).bind fun r189 => some (r189.1 == r189.2)) (some true)))) (none)))) (cond r157.2 (cond (r156.2 == (w64 ((r156.1.2.2.2.length : Int) - 1))) (cond (inB r156.2 r156.1.2.2.2.length) ((impl_AddClue k (r157.1, (r156.1.2.2.2.getD r156.2.toNat default))).bind fun r190 => cond (!r190.2) (some false) ((laws_dPuzzle k (r190.1, r156.1)).bind fun r191 => cond (!r191) (some false) (cond r164.2 ((laws_FnBoardsHidden_l k (r163.1, r163.2.1, r163.2.2, r164.1, 1, 0)).bind fun r192 => some (r192.1 == r192.2)) (some true)))) (none)) (cond r164.2 ((laws_FnBoardsHidden_l k (r163.1, r163.2.1, r163.2.2, r164.1, 1, 0)).bind fun r193 => some (r193.1 == r193.2)) (some true))) (cond r164.2 ((laws_FnBoardsHidden_l k (r163.1, r163.2.1, r163.2.2, r164.1, 1, 0)).bind fun r194 => some (r194.1 == r194.2)) (some true))))))))))))))))))) → Ev g true := by
    rintro g rfl
    by_cases HP : PuzOk ql qw qh qc
    · obtain ⟨k5, k6⟩ := k3 HP
      by_cases hs : (solC ql qw qh qc).length = 1
      · obtain ⟨P, p1, p2, p3, p4, p5, p6⟩ := k1 ⟨HP, hs⟩
        have k7 := ((hard_ev ql qw qh P (by omega)).2.2.1 p2).2
        rw [p3] at k7
        have e1 : (((solC ql qw qh qc).length : Int) == 1) = true := by rw [beq_iff_eq]; omega
        rw [e1] at k5
        have x1 := dPuzzle_ev (ql, qw, qh, P) (by show P.length ≤ _; omega)
        have x2 := dTexts_ev (solC ql qw qh qc) (by omega)
        have x3 : decide ((P.length : Int) > (qc.length : Int)) = false := decide_eq_false (by omega)
        repeat' first
          | exact tl
          | exact Ev.now _
          | refine Ev.bind (by assumption) ?_
          | refine Ev.no (by first | rfl | assumption | exact neq_self _ | exact sb _ | exact sameS _) ?_
          | refine Ev.yes (by first | rfl | assumption) ?_
      · obtain ⟨p4, p5⟩ := k2 fun q => hs q.2
        have e1 : (((solC ql qw qh qc).length : Int) == 1) = false := by rw [beq_eq_false_iff_ne]; omega
        rw [e1] at k5
        repeat' first
          | exact tl
          | exact Ev.now _
          | refine Ev.bind (by assumption) ?_
          | refine Ev.no (by first | rfl | assumption | exact neq_self _ | exact sb _ | exact sameS _) ?_
          | refine Ev.yes (by first | rfl | assumption) ?_
    · obtain ⟨p4, p5⟩ := k2 fun q => HP q.1
      have k5 := k4 HP
      repeat' first
        | exact tl
        | exact Ev.now _
        | refine Ev.bind (by assumption) ?_
        | refine Ev.no (by first | rfl | assumption | exact neq_self _ | exact sb _ | exact sameS _) ?_
        | refine Ev.yes (by first | rfl | assumption) ?_
  by_cases HM : HidO W ∧ (0 ≤ n ∧ n ≤ 6) ∧ (0 ≤ z ∧ z ≤ 9999)
  · obtain ⟨P, p1, p2, p3, p4⟩ := m1 HM
    obtain ⟨HW, hn, hz⟩ := HM
    obtain ⟨s1, s2, hO⟩ := hid_size HW
    obtain ⟨hS, hWo, hx, hy, hwy⟩ := id HW
    have h9 := hS.2.2.2.1
    have x1 := dPuzzle_ev (W.1, W.2.1, W.2.2.1, P) (by show P.length ≤ _; omega)
    have hPz : PuzOk W.1 W.2.1 W.2.2.1 P := ⟨hS, by omega, fun c hc => (p2 c hc).1⟩
    have x2 := ((hard_ev W.1 W.2.1 W.2.2.1 P (by omega)).2.2.1 hPz).2
    have x3 : Ev (fun k => impl_WorldAfter k (W, 11)) (runO 11 W, true) := ((after_ev W (by omega) (by omega) 11).1 ⟨hO, by omega⟩).1
    have HR := run_ok 11 W hO
    obtain ⟨v1, v2, v3⟩ := valueRun_ev W hO 11 (by omega)
    have g1 := (value_range W hO h9 1 11 _ v1).1 (.inr ⟨.inl rfl, by omega⟩)
    have g2 := (value_range W hO h9 2 11 _ v2).1 (.inr ⟨.inr (.inl rfl), by omega⟩)
    have g3 := (value_range W hO h9 3 11 _ v3).1 (.inr ⟨.inr (.inr rfl), by omega⟩)
    have dF : ∀ c, ClueOk W.1 (W.2.1 * W.2.2.1) c ∧ Fit c W → Ev (fun k => impl_DoesFit k (c, W)) (true, true) := fun c hc => (((doesFit_ev c W (by omega) (by omega)).1 ⟨HW, hc.1⟩).1 hc.2).1
    have y2 := dF _ g2
    have y1 := dF _ g1
    rw [← (place_range HR).2.2] at y1
    obtain ⟨R, r1, r2, r3⟩ := countZero_ev (runO 11 W) HR
    have y3 := dF _ g3
    rw [← r2] at y3
    rw [(run_same 11 W).1] at r1
    have hR1 := hS.1.1
    have t1 : decide ((R.length : Int) < 1) = false := decide_eq_false (by omega)
    have t2 : inB 0 R.length = true := inB_of (by omega) (by omega)
    have x4 := (isPuzzle_ev W.1 W.2.1 W.2.2.1 P (by omega)).isT hPz
    have t3 : ((P.length : Int) != n) = false := by rw [p1]; exact neq_self _
    have hmem : W.2.2.2.1 ∈ solC W.1 W.2.1 W.2.2.1 P := by
      unfold solC
      refine List.mem_filter.2 ⟨mem_allD W.1.size (by omega) _ _ (by have := hWo.2.2.2.1; omega) hWo.2.2.2.2.1, keepC_iff.2 fun c hc => ?_⟩
      have := (p2 c hc).2
      obtain ⟨rl, w, h, cs, x, y, wy⟩ := W
      obtain rfl : x = 0 := hx
      obtain rfl : y = 0 := hy
      obtain rfl : wy = 0 := hwy
      exact this
    have hsl : (solC W.1 W.2.1 W.2.2.1 P).length ≤ 1048576 := by
      rcases solutions_ev W.1 W.2.1 W.2.2.1 P (by omega) with ⟨_, q, _⟩ | ⟨q, _⟩
      · omega
      · exact absurd hPz q
    have x5 := dText_ev _ hsl _ hmem
    have tB := B _ rfl
    repeat' first
      | exact tB
      | exact Ev.now _
      | refine Ev.bind (by assumption) ?_
      | refine Ev.no (by first | rfl | assumption | exact neq_self _ | exact sb _ | exact sameS _) ?_
      | refine Ev.yes (by first | rfl | assumption) ?_
  · obtain ⟨p3, p4⟩ := m2 HM
    have tB := B _ rfl
    repeat' first
      | exact tB
      | exact Ev.now _
      | refine Ev.bind (by assumption) ?_
      | refine Ev.no (by first | rfl | assumption | exact neq_self _ | exact sb _ | exact sameS _) ?_
      | refine Ev.yes (by first | rfl | assumption) ?_
theorem pure : ∀ d : Dl laws_FnBoardsHidden.ins, goodL laws_FnBoardsHidden.ins d → ∃ k, laws_FnBoardsHidden k d = some true := by
  rintro ⟨code, more⟩ ⟨hg1, hg2⟩
  exact main code more hg1.1 hg2.1 (fun x hx => good8 (hg1.2 x hx)) (fun x hx => good8 (hg2.2 x hx))
end Go.Proofs.YtmdgodjcfhimbaaGreatDoor.fnBoardsHidden
