/- The plain law FnMazesTurn. -/
import Derived.Test.YtcmebphcoamohaaGreatDoorOk
import Derived.Test.YtcmebphcoamohaaGreatDoorMgMb
import Derived.Test.YtcmebphcoamohaaGreatDoorPuMiP
namespace Go.Proofs.YtcmebphcoamohaaGreatDoor.fnMazesTurn
open Go Go.Proofs Go.Proofs.YtcmebphcoamohaaGreatDoorS
set_option linter.unusedVariables false
set_option linter.unusedSimpArgs false
theorem dSame_ev (a : List Int) (hl : a.length ≤ 1048576) : Ev (fun k => laws_dSame k (a, a)) true := by
  have h : ∀ (m i : Nat), i + m = a.length → Ev (fun k => laws_dSame_l k (a, a, (a.length : Int), (i : Int))) (.inr ()) := by
    intro m
    induction m with
    | zero => intro i h; exact Ev.step (fun k => laws_dSame_l.eq k a a (a.length : Int) i) (Ev.no (not_lt_nat (by omega)) (Ev.now _))
    | succ m ih =>
      intro i h
      refine Ev.step (fun k => laws_dSame_l.eq k a a (a.length : Int) i) (Ev.yes (lt_nat (by omega)) (Ev.yes (inB_nat (by omega)) (Ev.yes (inB_nat (by omega)) (Ev.no (neq_self _) ?_))))
      rw [w64_succ (by omega)]
      exact ih (i + 1) (by omega)
  exact Ev.step (fun k => laws_dSame.eq k a a) (Ev.no (neq_self _) (Ev.bind (h a.length 0 (by omega)) (Ev.now _)))
theorem dCount_ev {w h : Int} {cs : ByteArray} (hM : MazeOk w h cs) : Ev (fun k => laws_dCount k (cs, 46)) (((cs.data.toList.count 90 + cs.data.toList.count 83 : Nat) : Int)) := by
  have hz := OkMz.size (m := (w, h, cs, false)) hM
  simp only at hz
  have hsz := size_list cs
  have loop : ∀ (m i : Nat), i + m = cs.size → Ev (fun k => laws_dCount_l k (cs, 46, (((cs.data.toList.take i).countP (fun c => c != 46) : Nat) : Int), (i : Int))) ((cs.data.toList.countP (fun c => c != 46) : Nat) : Int) := by
    intro m
    induction m with
    | zero =>
      intro i hi
      rw [List.take_of_length_le (by omega)]
      exact Ev.step (fun k => laws_dCount_l.eq k cs 46 _ _) (Ev.no (not_lt_nat (by omega)) (Ev.now _))
    | succ m ih =>
      intro i hi
      obtain ⟨c, hc⟩ := Go.Proofs.YtcmebphcoamohaaGreatDoorS.byte_at (cs := cs) (i := i) (by omega)
      have ih := ih (i + 1) (by omega)
      have l1 := List.countP_le_length (p := fun c : UInt8 => c != 46) (l := cs.data.toList.take i)
      rw [List.length_take] at l1
      rw [List.take_add_one, hc, Option.toList_some, List.countP_append] at ih
      refine Ev.step (fun k => laws_dCount_l.eq k cs 46 _ _) (Ev.yes (lt_nat (by omega)) (Ev.yes (inB_nat (by omega)) ?_))
      rw [Int.toNat_natCast, bt_at hc, w64_succ (by omega), w64_succ (by omega)]
      rcases hM.2.2.2 c (List.mem_of_getElem? hc) with rfl | rfl | rfl
      · exact Ev.no rfl ih
      · exact Ev.yes rfl ih
      · exact Ev.yes rfl ih
  have h0 := loop cs.size 0 (by omega)
  rw [count_two _ hM.2.2.2] at h0
  exact Ev.step (fun k => laws_dCount.eq k cs 46) (Ev.bind h0 (Ev.now _))
theorem same4 (m : MzT) : (!((m.1 == m.1) && ((m.2.1 == m.2.1) && ((m.2.2.1 == m.2.2.1) && ((m.2.2.2 == m.2.2.2) && true))))) = false := by simp [baM_beq, strEq_self]
theorem sameB (b : Bool) : (!(b == b)) = false := by cases b <;> rfl
theorem sameS (s : ByteArray) : (!(strEq s s)) = false := by rw [strEq_self]; rfl
/-! ### Stages, the last one first -/
theorem st6 (t : ByteArray) (read : MzT) (fifteen : Bool) (h : fifteen = true → Ev (fun k => impl_MazeText k read) (t, true)) : Ev (fun k => laws_FnMazesTurn_c_c_c_c_c_c k (t, read, fifteen)) true := by
  obtain ⟨a, b, c, d⟩ := read
  cases fifteen with
  | false => exact Ev.step (fun k => laws_FnMazesTurn_c_c_c_c_c_c.eq k t a b c d false) (Ev.no rfl (Ev.now _))
  | true => exact Ev.step (fun k => laws_FnMazesTurn_c_c_c_c_c_c.eq k t a b c d true) (Ev.yes rfl (Ev.bind (h rfl) (Ev.yes rfl (Ev.now' (strEq_self _)))))
theorem st5 (e : MzT) (i number : Int) (exits : List Int) (thirteen : Bool) (t : ByteArray) (read : MzT) (fifteen : Bool) (h6 : fifteen = true → Ev (fun k => impl_MazeText k read) (t, true)) (h5 : thirteen = true → OkMz e ∧ RngE e i ∧ (0 ≤ number ∧ number ≤ 600) ∧ exits = outsE i number.toNat e) :
    Ev (fun k => laws_FnMazesTurn_c_c_c_c_c k (e, i, number, exits, thirteen, t, read, fifteen)) true := by
  have s6 := st6 t read fifteen h6
  cases thirteen with
  | false =>
    obtain ⟨a, b, c, d⟩ := read
    obtain ⟨ew, eh, ec, et⟩ := e
    exact Ev.step (fun k => laws_FnMazesTurn_c_c_c_c_c.eq k ew eh ec et i number exits false t a b c d fifteen) (Ev.no rfl (Ev.bind s6 (Ev.now _)))
  | true =>
    obtain ⟨hM, hk, hn, rfl⟩ := h5 rfl
    obtain ⟨N, rfl⟩ := Int.eq_ofNat_of_zero_le hn.1
    rw [Int.toNat_natCast]
    have hlen := outsE_len i N e
    have hz := hM.size
    have g0 : (((outsE i N e).length : Int) != (N : Int)) = false := by rw [hlen]; exact neq_self _
    cases N with
    | zero =>
      obtain ⟨a, b, c, d⟩ := read
      obtain ⟨ew, eh, ec, et⟩ := e
      exact Ev.step (fun k => laws_FnMazesTurn_c_c_c_c_c.eq k ew eh ec et i _ _ true t a b c d fifteen) (Ev.yes rfl (Ev.no g0 (Ev.no rfl (Ev.bind s6 (Ev.now _)))))
    | succ q =>
      have eE := entryI_ev hM hk
      have ex := exitI_ev (entry_okBa hM hk) (lenE_ok hM hk)
      have ea := afterI_ev (entry_okBa hM hk) (lenE_ok hM hk)
      obtain ⟨aM, ak⟩ := nxtE_ok hM hk
      have eR := ((exits_ev (nxtE i e) i (q : Int) (by have := aM.size; omega)).1 ⟨aM, ak, by omega, by omega⟩).1
      rw [Int.toNat_natCast] at eR
      have eo : outsE i (q + 1) e = outVE i e :: outsE i q (nxtE i e) := rfl
      have ed : ((outsE i (q + 1) e).drop 1).take ((outsE i (q + 1) e).length - 1) = outsE i q (nxtE i e) := by
        rw [hlen, eo, List.drop_one, List.tail_cons, List.take_of_length_le (by rw [outsE_len]; omega)]
      have wq : w64 (((q + 1 : Nat) : Int) - 1) = (q : Int) := by rw [w64_of (by omega) (by omega)]; omega
      have i0 : inB 0 (outsE i (q + 1) e).length = true := by rw [hlen]; exact inB_of (by omega) (by omega)
      have gd : (outVE i e != (outsE i (q + 1) e).getD 0 default) = false := by rw [eo]; exact neq_self _
      have dS := dSame_ev (outsE i q (nxtE i e)) (by rw [outsE_len]; omega)
      have d1 : decide ((1 : Int) ≤ ((outsE i (q + 1) e).length : Int)) = true := decide_eq_true (by rw [hlen]; omega)
      have dp : decide (((q + 1 : Nat) : Int) > 0) = true := decide_eq_true (by omega)
      obtain ⟨a, b, c, d⟩ := read
      obtain ⟨ew, eh, ec, et⟩ := e
      refine Ev.step (fun k => laws_FnMazesTurn_c_c_c_c_c.eq k ew eh ec et i _ _ true t a b c d fifteen) (Ev.yes rfl (Ev.no g0 (Ev.yes dp ?_)))
      rw [wq, ed]
      exact Ev.bind eE (Ev.bind ex (Ev.bind ea (Ev.bind eR (Ev.no rfl (Ev.no rfl (Ev.yes i0 (Ev.no gd (Ev.no rfl (Ev.no rfl (Ev.yes d1 (Ev.bind dS (Ev.no rfl (Ev.bind s6 (Ev.now _))))))))))))))
section
variable (e : MzT) (i number : Int) (exits : List Int) (thirteen : Bool) (t : ByteArray) (read : MzT) (fifteen : Bool) (h6 : fifteen = true → Ev (fun k => impl_MazeText k read) (t, true)) (h5 : thirteen = true → OkMz e ∧ RngE e i ∧ (0 ≤ number ∧ number ≤ 600) ∧ exits = outsE i number.toNat e)
include h6 h5
theorem st4_l {d : MzT} {k : Int} (hM : OkMz d) (hk : RngE d k) {J : Nat} (hJ : J ≤ 600) (hs : seqE k J d = d) (hl : ∀ l, 1 ≤ l → l < J → seqE k l d ≠ d) : ∀ (r j : Nat), j + r = J →
    Ev (fun n => laws_FnMazesTurn_c_c_c_c_l n (d, k, (J : Int), e, i, number, exits, thirteen, t, read, fifteen, seqE k j d, ((j + 1 : Nat) : Int))) (.inr (e, i, number, exits, thirteen, t, read, fifteen)) := by
  intro r
  induction r with
  | zero =>
    intro j hj
    obtain ⟨X, hX⟩ : ∃ X, seqE k j d = X := ⟨_, rfl⟩
    rw [hX]
    obtain ⟨d1, d2, d3, d4⟩ := d
    obtain ⟨x1, x2, x3, x4⟩ := X
    obtain ⟨e1, e2, e3, e4⟩ := e
    obtain ⟨r1, r2, r3, r4⟩ := read
    exact Ev.step (fun n => laws_FnMazesTurn_c_c_c_c_l.eq n d1 d2 d3 d4 k _ e1 e2 e3 e4 i number exits thirteen t r1 r2 r3 r4 fifteen x1 x2 x3 x4 _) (Ev.no (decide_eq_false (by omega)) (Ev.now _))
  | succ r ih =>
    intro j hj
    obtain ⟨aM, ak⟩ := seqE_ok (k := k) j hM hk
    obtain ⟨f1, f2, f3⟩ := seqE_dims k (j + 1) d
    have eE := entryI_ev aM ak
    have ea := afterI_ev (entry_okBa aM ak) (lenE_ok aM ak)
    have ea : Ev (fun n => impl_MazeAfterBall n (seqE k j d, entryB (seqE k j d).1 (seqE k j d).2.1 k)) (seqE k (j + 1) d, true) := by rw [seqE_succ]; exact ea
    have hb := eqM_bool f1 f2 f3
    have hb2 := eqM_iff f1 f2 f3
    have ih := ih (j + 1) (by omega)
    have key : ((!(((seqE k (j + 1) d).1 == d.1) && (((seqE k (j + 1) d).2.1 == d.2.1) && (((seqE k (j + 1) d).2.2.1 == d.2.2.1) && (((seqE k (j + 1) d).2.2.2 == d.2.2.2) && true)))) == (((j + 1 : Nat) : Int) == (J : Int)))) = false ∨ True := .inr trivial
    have key2 : (!((((seqE k (j + 1) d).1 == d.1) && (((seqE k (j + 1) d).2.1 == d.2.1) && (((seqE k (j + 1) d).2.2.1 == d.2.2.1) && (((seqE k (j + 1) d).2.2.2 == d.2.2.2) && true)))) == (((j + 1 : Nat) : Int) == (J : Int)))) = false := by
      rw [hb]
      by_cases hJj : j + 1 = J
      · subst hJj
        rw [hb2.2 hs, beq_self_eq_true]
        rfl
      · have h1 : strEq (seqE k (j + 1) d).2.2.1 d.2.2.1 = false := Bool.eq_false_iff.2 fun x => hl (j + 1) (by omega) (by omega) (hb2.1 x)
        rw [h1, beq_eq_false_iff_ne.2 (by omega : ((j + 1 : Nat) : Int) ≠ (J : Int))]
        rfl
    obtain ⟨X, hX⟩ : ∃ X, seqE k j d = X := ⟨_, rfl⟩
    rw [hX] at eE ea ⊢
    obtain ⟨d1, d2, d3, d4⟩ := d
    obtain ⟨x1, x2, x3, x4⟩ := X
    obtain ⟨e1, e2, e3, e4⟩ := e
    obtain ⟨r1, r2, r3, r4⟩ := read
    refine Ev.step (fun n => laws_FnMazesTurn_c_c_c_c_l.eq n d1 d2 d3 d4 k _ e1 e2 e3 e4 i number exits thirteen t r1 r2 r3 r4 fifteen x1 x2 x3 x4 _) (Ev.yes (decide_eq_true (by omega)) (Ev.bind eE (Ev.bind ea (Ev.no rfl (Ev.no rfl (Ev.no key2 ?_))))))
    rw [w64_succ (by omega)]
    exact ih
theorem st4 (d : MzT) (k : Int) (balls : Int) (eleven : Bool) (h4 : FoundE k d (balls, eleven)) (h4' : eleven = true → OkMz d ∧ RngE d k) : Ev (fun n => laws_FnMazesTurn_c_c_c_c n (d, k, balls, eleven, e, i, number, exits, thirteen, t, read, fifteen)) true := by
  have s5 := st5 e i number exits thirteen t read fifteen h6 h5
  rcases h4 with ⟨J, hJ, hr, hs, hl⟩ | hr
  · obtain ⟨rfl, rfl⟩ := Prod.mk.inj hr
    obtain ⟨hM, hk⟩ := h4' rfl
    have lp := st4_l e i number exits thirteen t read fifteen h6 h5 hM hk hJ.2 hs hl J 0 (by omega)
    have lp : Ev (fun n => laws_FnMazesTurn_c_c_c_c_l n (d, k, (J : Int), e, i, number, exits, thirteen, t, read, fifteen, d, 1)) (.inr (e, i, number, exits, thirteen, t, read, fifteen)) := lp
    obtain ⟨d1, d2, d3, d4⟩ := d
    obtain ⟨e1, e2, e3, e4⟩ := e
    obtain ⟨r1, r2, r3, r4⟩ := read
    exact Ev.step (fun n => laws_FnMazesTurn_c_c_c_c.eq n d1 d2 d3 d4 k _ true e1 e2 e3 e4 i number exits thirteen t r1 r2 r3 r4 fifteen) (Ev.yes rfl (Ev.bind lp (Ev.bind s5 (Ev.now _))))
  · obtain ⟨rfl, rfl⟩ := Prod.mk.inj hr
    obtain ⟨d1, d2, d3, d4⟩ := d
    obtain ⟨e1, e2, e3, e4⟩ := e
    obtain ⟨r1, r2, r3, r4⟩ := read
    exact Ev.step (fun n => laws_FnMazesTurn_c_c_c_c.eq n d1 d2 d3 d4 k _ false e1 e2 e3 e4 i number exits thirteen t r1 r2 r3 r4 fifteen) (Ev.no rfl (Ev.bind s5 (Ev.now _)))
theorem st3_no (c d : MzT) (k : Int) (balls : Int) (eleven : Bool) (h4 : FoundE k d (balls, eleven)) (h4' : eleven = true → OkMz d ∧ RngE d k) (count long : Int) : Ev (fun n => laws_FnMazesTurn_c_c_c n (c, count, false, long, d, k, balls, eleven, e, i, number, exits, thirteen, t, read, fifteen)) true := by
  have s4 := st4 e i number exits thirteen t read fifteen h6 h5 d k balls eleven h4 h4'
  obtain ⟨c1, c2, c3, c4⟩ := c
  obtain ⟨d1, d2, d3, d4⟩ := d
  obtain ⟨e1, e2, e3, e4⟩ := e
  obtain ⟨r1, r2, r3, r4⟩ := read
  exact Ev.step (fun n => laws_FnMazesTurn_c_c_c.eq n c1 c2 c3 c4 count false long d1 d2 d3 d4 k balls eleven e1 e2 e3 e4 i number exits thirteen t r1 r2 r3 r4 fifteen) (Ev.no rfl (Ev.bind s4 (Ev.now _)))
theorem st3 {w h : Int} {cs : ByteArray} (hM : MazeOk w h cs) (d : MzT) (k : Int) (balls : Int) (eleven : Bool) (h4 : FoundE k d (balls, eleven)) (h4' : eleven = true → OkMz d ∧ RngE d k) {L : Nat} (hL : LongOf w h cs L) :
    Ev (fun n => laws_FnMazesTurn_c_c_c n ((w, h, cs, false), ((tracksN w h cs (manyC w h) / 2 : Nat) : Int), true, (L : Int), d, k, balls, eleven, e, i, number, exits, thirteen, t, read, fifteen)) true := by
  have s4 := st4 e i number exits thirteen t read fifteen h6 h5 d k balls eleven h4 h4'
  have hz := OkMz.size (m := (w, h, cs, false)) hM
  simp only at hz
  obtain ⟨cs', P, eT⟩ := turnI_ev false hM
  have hM' := pic_maze (turnM_ok w h) hM.2.1 hM.1 hM P
  have eC := tracksI_ev hM'
  rw [← tracks_turn hM P] at eC
  obtain ⟨L', l1, l2, _⟩ := long_ev hM'
  obtain rfl := l1.one (long_turn hM P hL)
  have eM := countI_ev false hM
  have t1 := tracks_mirrors hM
  rw [mirI_count hM] at t1
  obtain ⟨m1, m2, m3⟩ := many_eq hM
  have t2 := tracksN_le (w := w) (h := h) (cs := cs) (manyC w h)
  obtain ⟨⟨kk, k1, k2⟩, _⟩ := hL
  obtain ⟨a1, a2, a3, _⟩ := entry_ok hM.1 hM.2.1 k1
  have t3 := twice_most ⟨hM, a1, a2⟩ a3 k2
  have t4 := (out_near (t := false) (s := (cs, entryB w h kk)) ⟨hM, a1, a2⟩ k2).1
  have c1 := List.count_le_length (a := (90 : UInt8)) (l := cs.data.toList)
  have c2 := List.count_le_length (a := (83 : UInt8)) (l := cs.data.toList)
  have hsz := size_list cs
  obtain ⟨d1, d2, d3, d4⟩ := d
  obtain ⟨e1, e2, e3, e4⟩ := e
  obtain ⟨r1, r2, r3, r4⟩ := read
  refine Ev.step (fun n => laws_FnMazesTurn_c_c_c.eq n w h cs false _ true _ d1 d2 d3 d4 k balls eleven e1 e2 e3 e4 i number exits thirteen t r1 r2 r3 r4 fifteen) (Ev.yes rfl (Ev.bind eT (Ev.bind eC (Ev.bind l2 (Ev.bind eM (Ev.no rfl (Ev.no rfl (Ev.no (neq_self _) (Ev.no rfl (Ev.no (neq_self _) (Ev.no (decide_eq_false (by omega)) (Ev.no ?_ (Ev.no rfl (Ev.no ?_ (Ev.bind s4 (Ev.now _))))))))))))))))
  · rw [w64_of (by omega) (by omega)]
    exact decide_eq_false (by omega)
  · simp only
    rw [w64_of (n := 2 * ((tracksN w h cs (manyC w h) / 2 : Nat) : Int)) (by omega) (by omega), w64_of (by omega) (by omega)]
    exact decide_eq_false (by omega)
end
theorem st2 (more : List Int) (hm : ∀ x ∈ more, 0 ≤ x ∧ x ≤ 255) : Ev (fun k => laws_FnMazesTurn_c_c k more) true := by
  -- what is drawn
  obtain ⟨c, dC, zc⟩ : ∃ c, Ev (fun k => spec_DrawCountTracks k more) c ∧ c.2.2.1.size ≤ 1000 := by
    obtain ⟨m, c1, e1, z1, H1⟩ := maze_ev 0 (more, 0, 0) (CurOk.start hm) (by omega)
    obtain ⟨b, c2, e2, _⟩ := one_ev _ c1 H1 (by omega) 6
    cases b with
    | true => exact ⟨m, Ev.step (fun k => spec_DrawCountTracks.eq k more) (Ev.bind e1 (Ev.bind e2 (Ev.no rfl (Ev.now _)))), z1⟩
    | false => exact ⟨_, Ev.step (fun k => spec_DrawCountTracks.eq k more) (Ev.bind e1 (Ev.bind e2 (Ev.yes rfl (Ev.now _)))), z1⟩
  obtain ⟨d, kk, dB, zd⟩ : ∃ d kk, Ev (fun k => spec_DrawBallsUntilSame k more) (d, kk) ∧ d.2.2.1.size ≤ 1000 := by
    obtain ⟨m, e, c1, e1, z1, H1⟩ := end_ev 0 (more, 0, 0) (CurOk.start hm) (by omega)
    obtain ⟨b, c2, e2, _⟩ := one_ev _ c1 H1 (by omega) 6
    cases b with
    | true => exact ⟨m, e, Ev.step (fun k => spec_DrawBallsUntilSame.eq k more) (Ev.bind e1 (Ev.bind e2 (Ev.no rfl (Ev.now _)))), z1⟩
    | false => exact ⟨_, _, Ev.step (fun k => spec_DrawBallsUntilSame.eq k more) (Ev.bind e1 (Ev.bind e2 (Ev.yes rfl (Ev.now _)))), z1⟩
  obtain ⟨e, i, number, dE, ze⟩ : ∃ e i n, Ev (fun k => spec_DrawExitsInTurn k more) (e, i, n) ∧ e.2.2.1.size ≤ 1000 := by
    obtain ⟨m, e, c1, e1, z1, H1⟩ := end_ev 0 (more, 0, 0) (CurOk.start hm) (by omega)
    obtain ⟨n, c2, e2, _, _⟩ := among_ev _ c1 H1 (by omega) [0, 1, 2, 3, 5, 8, 600, 601, (-1)] (by decide)
    exact ⟨m, e, n, Ev.step (fun k => spec_DrawExitsInTurn.eq k more) (Ev.bind e1 (Ev.bind e2 (Ev.now _))), z1⟩
  obtain ⟨t, dP, zt⟩ := MzP.drawParse_ev more hm
  -- what is told of them
  obtain ⟨⟨balls, eleven⟩, b1, b2, b3, b4⟩ := balls_ev d kk (by omega)
  have b4 : eleven = true → OkMz d ∧ RngE d kk := b4
  obtain ⟨⟨read, fifteen⟩, p1, p2, p3⟩ := MzP.parse_both t (by omega)
  have p3 : fifteen = true → Ev (fun k => impl_MazeText k read) (t, true) := p3
  obtain ⟨exits, thirteen, x1, x2, x3, x4⟩ : ∃ exits thirteen, Ev (fun k => impl_ExitsInTurn k (e, i, number)) (exits, thirteen) ∧ Ev (fun k => spec_ExitsInTurn k (e, i, number)) (exits, thirteen) ∧ (thirteen = true → OkMz e ∧ RngE e i ∧ (0 ≤ number ∧ number ≤ 600) ∧ exits = outsE i number.toNat e) ∧ exits.length ≤ 1048576 := by
    by_cases hx : OkMz e ∧ RngE e i ∧ (0 ≤ number ∧ number ≤ 600)
    · obtain ⟨g1, g2⟩ := (exits_ev e i number (by omega)).1 hx
      exact ⟨_, _, g1, g2, fun _ => ⟨hx.1, hx.2.1, hx.2.2, rfl⟩, by rw [outsE_len]; omega⟩
    · obtain ⟨g1, g2⟩ := (exits_ev e i number (by omega)).2 hx
      exact ⟨_, _, g1, g2, nofun, by simp⟩
  have dS := dSame_ev exits x4
  have iM := isMaze_ev c.1 c.2.1 c.2.2.1 c.2.2.2 (by omega)
  refine Ev.step (fun k => laws_FnMazesTurn_c_c.eq k more) (Ev.bind dC ?_)
  by_cases hC : OkMz c ∧ c.2.2.2 = false
  · obtain ⟨w, h, cs, ct⟩ := c
    obtain ⟨hM, rfl⟩ : MazeOk w h cs ∧ ct = false := hC
    have iM := iM.isT hM
    have k1 := tracksI_ev hM
    have k2 := tracksS_ev hM
    obtain ⟨L, l1, l2, l3⟩ := long_ev hM
    have s3 := st3 e i number exits thirteen t read fifteen p3 x3 hM d kk balls eleven b3 b4 l1
    exact Ev.bind k1 (Ev.bind k2 (Ev.bind l2 (Ev.bind l3 (Ev.bind dB (Ev.bind b1 (Ev.bind b2 (Ev.bind dE (Ev.bind x1 (Ev.bind x2 (Ev.bind dP (Ev.bind p1 (Ev.bind p2 (Ev.no rfl (Ev.no (neq_self _) (Ev.no rfl (Ev.no (neq_self _) (Ev.no (sameB _) (Ev.no (neq_self _) (Ev.no (sameB _) (Ev.bind dS (Ev.no rfl (Ev.no (sameB _) (Ev.no (same4 _) (Ev.no rfl (Ev.bind iM (Ev.yes rfl (Ev.no rfl (Ev.bind s3 (Ev.now _)))))))))))))))))))))))))))))
  · obtain ⟨k1, k2, l2, l3⟩ := tracks_none (m := c) (by omega) hC
    have s3 := st3_no e i number exits thirteen t read fifteen p3 x3 c d kk balls eleven b3 b4 0 0
    by_cases hM : OkMz c
    · have ht : c.2.2.2 = true := by
        cases hb : c.2.2.2 with
        | true => rfl
        | false => exact absurd ⟨hM, hb⟩ hC
      have iM := iM.isT hM
      exact Ev.bind k1 (Ev.bind k2 (Ev.bind l2 (Ev.bind l3 (Ev.bind dB (Ev.bind b1 (Ev.bind b2 (Ev.bind dE (Ev.bind x1 (Ev.bind x2 (Ev.bind dP (Ev.bind p1 (Ev.bind p2 (Ev.no rfl (Ev.no (neq_self _) (Ev.no rfl (Ev.no (neq_self _) (Ev.no (sameB _) (Ev.no (neq_self _) (Ev.no (sameB _) (Ev.bind dS (Ev.no rfl (Ev.no (sameB _) (Ev.no (same4 _) (Ev.no rfl (Ev.bind iM (Ev.yes rfl (Ev.no (by rw [ht]; rfl) (Ev.bind s3 (Ev.now _)))))))))))))))))))))))))))))
    · have iM := iM.isF hM
      exact Ev.bind k1 (Ev.bind k2 (Ev.bind l2 (Ev.bind l3 (Ev.bind dB (Ev.bind b1 (Ev.bind b2 (Ev.bind dE (Ev.bind x1 (Ev.bind x2 (Ev.bind dP (Ev.bind p1 (Ev.bind p2 (Ev.no rfl (Ev.no (neq_self _) (Ev.no rfl (Ev.no (neq_self _) (Ev.no (sameB _) (Ev.no (neq_self _) (Ev.no (sameB _) (Ev.bind dS (Ev.no rfl (Ev.no (sameB _) (Ev.no (same4 _) (Ev.no rfl (Ev.bind iM (Ev.no rfl (Ev.no rfl (Ev.bind s3 (Ev.now _)))))))))))))))))))))))))))))
/-- An exit's picture is the picture's exit. -/
theorem out_pic {S : SymM} {w h w' h' : Int} (O : SymMOk S w h w' h') (hw' : 1 ≤ w' ∧ w' ≤ 9) (hh' : 1 ≤ h' ∧ h' ≤ 9) {cs cs' : ByteArray} {t : Bool} (hM : MazeOk w h cs) (P : PicM S w h cs w' h' cs') (sg : Int → Int) (hsg : ∀ k, 0 ≤ k ∧ k < 2 * (w + h) → (0 ≤ sg k ∧ sg k < 2 * (w' + h')) ∧ entryB w' h' (sg k) = picB S (entryB w h k)) {k e : Int} (hk : 0 ≤ k ∧ k < 2 * (w + h)) (ho : OutTo (w, h, cs, t) (entryB w h k) e) : OutTo (w', h', cs', t) (entryB w' h' (sg k)) (sg e) := by
  obtain ⟨n, n1, rfl⟩ := ho
  obtain ⟨a1, a2, _⟩ := entry_ok hM.1 hM.2.1 hk
  have H : StOk w h (cs, entryB w h k) := ⟨hM, a1, a2⟩
  have n1 : OutAt w h t (cs, entryB w h k) n := n1
  obtain ⟨_, _, g2, g3, _⟩ := out_near H n1
  rw [(hsg k hk).2]
  refine ⟨n, pic_out O hM.1 hM.2.1 hw' hh' t H P n1, ?_⟩
  have r := (pic_run O hM.1 hM.2.1 hw' hh' t H P n n1.1).1
  show sg (outE w h (runS w t n (cs, entryB w h k)).2) = outE w' h' (runS w' t n (cs', picB S (entryB w h k))).2
  rw [r]
  exact (pic_end O hM.1 hM.2.1 hw' hh' sg hsg g3 g2 n1.2).symm
theorem tab_at {m : MzT} {T : List Int} (hT : TabOf m T) {i e : Int} (hi : 0 ≤ i ∧ i < 2 * (m.1 + m.2.1)) (ho : OutTo m (entryB m.1 m.2.1 i) e) : inB i T.length = true ∧ T.getD i.toNat default = e := by
  have hL := hT.1
  obtain ⟨j, rfl⟩ := Int.eq_ofNat_of_zero_le hi.1
  obtain ⟨e', g1, g2, _⟩ := hT.2 j (by omega)
  exact ⟨inB_nat (by omega), by rw [Int.toNat_natCast, getD_at g1]; exact g2.one ho⟩
theorem tables {w h : Int} {cs c1 c2 : ByteArray} {t : Bool} (more : List Int) (hM : MazeOk w h cs) (P : PicM (turnM h) w h cs h w c1) (Q : PicM (mirM w) w h cs w h c2) {T X Y : List Int} (hT : TabOf (w, h, cs, t) T) (hX : TabOf (h, w, c1, t) X) (hY : TabOf (w, h, c2, t) Y) : ∀ (r i : Nat), i + r = T.length →
    Ev (fun k => laws_FnMazesTurn_c_l k (more, (w, h, cs, t), X, Y, 2 * (w + h), T, (T.length : Int), (i : Int))) (.inr more) := by
  have hw := hM.1
  have hh := hM.2.1
  have hL := hT.1
  simp only at hL
  intro r
  induction r with
  | zero =>
    intro i hi
    exact Ev.step (fun k => laws_FnMazesTurn_c_l.eq k more w h cs t X Y _ T _ _) (Ev.no (not_lt_nat (by omega)) (Ev.now _))
  | succ r ih =>
    intro i hi
    obtain ⟨e, e1, e2, e3⟩ := hT.2 i (by omega)
    simp only at e2 e3
    have hk : 0 ≤ (i : Int) ∧ (i : Int) < 2 * (w + h) := by omega
    have o1 := out_pic (turnM_ok w h) hh hw hM P (fun k => (k + h) % (2 * (w + h))) (turn_ends hw hh) hk e2
    have o2 := out_pic (mirM_ok w h) hw hh hM Q (fun k => (w - 1 - k + 2 * (w + h)) % (2 * (w + h))) (mir_ends hw hh) hk e2
    obtain ⟨x1, x2⟩ := tab_at hX (turn_ends hw hh (i : Int) hk).1 o1
    obtain ⟨y1, y2⟩ := tab_at hY (mir_ends hw hh (i : Int) hk).1 o2
    have n0 : (2 * (w + h) != 0) = true := bne_iff_ne.2 (by omega)
    have gT : T.getD i default = e := getD_at e1
    have q1 : (w64 ((i : Int) + h)).tmod (2 * (w + h)) = ((i : Int) + h) % (2 * (w + h)) := by rw [w64_of (by omega) (by omega), Int.tmod_eq_emod_of_nonneg (by omega)]
    have q2 : (w64 (e + h)).tmod (2 * (w + h)) = (e + h) % (2 * (w + h)) := by rw [w64_of (by omega) (by omega), Int.tmod_eq_emod_of_nonneg (by omega)]
    have q3 : ∀ v : Int, 0 ≤ v ∧ v < 2 * (w + h) → (w64 (w64 (w64 (w - 1) - v) + 2 * (w + h))).tmod (2 * (w + h)) = (w - 1 - v + 2 * (w + h)) % (2 * (w + h)) := fun v hv => by
      rw [sub64 hw, w64_of (n := w - 1 - v) (by omega) (by omega), w64_of (by omega) (by omega), Int.tmod_eq_emod_of_nonneg (by omega)]
    refine Ev.step (fun k => laws_FnMazesTurn_c_l.eq k more w h cs t X Y _ T _ _) (Ev.yes (lt_nat (by omega)) (Ev.yes (inB_nat (by omega)) ?_))
    rw [Int.toNat_natCast, gT, q1, q2, q3 (i : Int) hk, q3 e e3, x2, y2, w64_succ (by omega)]
    exact Ev.yes n0 (Ev.yes x1 (Ev.yes n0 (Ev.no (neq_self _) (Ev.yes n0 (Ev.yes y1 (Ev.yes n0 (Ev.no (neq_self _) (ih (i + 1) (by omega)))))))))
theorem main (code more : List Int) (h1 : code.length ≤ 9223372036854775807) (h2 : more.length ≤ 9223372036854775807) (hc : ∀ x ∈ code, 0 ≤ x ∧ x ≤ 255) (hm : ∀ x ∈ more, 0 ≤ x ∧ x ≤ 255) : ∃ k, laws_FnMazesTurn k (code, more) = some true := by
  obtain ⟨g, eg, _⟩ := big_ev code more h1 h2
  refine Ev.rounds (Ev.step (fun k => laws_FnMazesTurn.eq k code more) (Ev.bind eg (Ev.cond (fun _ => Ev.now _) fun _ => ?_)))
  obtain ⟨m, c1, e1, hz, _⟩ := maze_ev 0 (code, 0, 0) (CurOk.start hc) (by omega)
  have dM : Ev (fun k => spec_DrawTurnMaze k code) m := Ev.step (fun k => spec_DrawTurnMaze.eq k code) (Ev.bind (Ev.step (fun k => spec_DrawIsMaze.eq k code) (Ev.bind e1 (Ev.now _))) (Ev.now _))
  refine Ev.bind dM ?_
  have iM := isMaze_ev m.1 m.2.1 m.2.2.1 m.2.2.2 (by omega)
  have sM := miGood_ev m.1 m.2.1 m.2.2.1 m.2.2.2 (by omega)
  have s2 := st2 more hm
  obtain ⟨⟨tx, tok⟩, t1, t2, t3, t4⟩ := MzP.text_both m (by omega)
  by_cases hM : OkMz m
  · obtain ⟨htok, tp⟩ := t4 hM
    have htok : tok = true := htok
    have tp : Ev (fun k => impl_ParseMaze k tx) (m, true) := tp
    subst htok
    have iM := iM.isT hM
    obtain ⟨w, h, cs, t⟩ := m
    have HM : MazeOk w h cs := hM
    have hw := HM.1
    have hh := HM.2.1
    have hsz : cs.size ≤ 81 := OkMz.size (m := (w, h, cs, t)) HM
    obtain ⟨c1, P, a1⟩ := turnI_ev t HM
    have a2 := turnS_ev t HM P
    obtain ⟨c2, Q, a3⟩ := mirI_ev t HM
    have a4 := mirS_ev t HM Q
    have a5 := countI_ev t HM
    have a6 := countS_ev t HM
    have M1 := pic_maze (turnM_ok w h) hh hw HM P
    have M2 := pic_maze (mirM_ok w h) hw hh HM Q
    obtain ⟨T, T1, T2⟩ := tableI_ev (m := (w, h, cs, t)) HM
    obtain ⟨X, X1, X2⟩ := tableI_ev (m := (h, w, c1, t)) M1
    obtain ⟨Y, Y1, Y2⟩ := tableI_ev (m := (w, h, c2, t)) M2
    have b1 := countI_ev t M1
    have q90 := count_turn HM P 83
    have q83 := count_turn HM P 90
    have q90 : c1.data.toList.count 90 = cs.data.toList.count 83 := q90
    have q83 : c1.data.toList.count 83 = cs.data.toList.count 90 := q83
    rw [q90, q83] at b1
    obtain ⟨c3, R, b2⟩ := mirI_ev t M2
    obtain rfl := mir_mir hw hh HM.2.2.1 Q R
    have dc := dCount_ev HM
    have l1 := List.count_le_length (a := (90 : UInt8)) (l := c3.data.toList)
    have l2 := List.count_le_length (a := (83 : UInt8)) (l := c3.data.toList)
    have hsl := size_list c3
    have lp := tables more HM P Q T1 X1 Y1 T.length 0 (by omega)
    have sm := same4 (w, h, c3, t)
    have q : Ev (fun k => laws_FnMazesTurn_c k (more, (w, h, c3, t), (h, w, c1, t), true, (w, h, c2, t), (c3.data.toList.count 90 : Int), (c3.data.toList.count 83 : Int), tx)) true := by
      refine Ev.step (fun k => laws_FnMazesTurn_c.eq k more w h c3 t h w c1 t true w h c2 t _ _ tx) (Ev.yes rfl (Ev.bind T2 (Ev.bind X2 (Ev.bind Y2 (Ev.bind b1 (Ev.bind b2 (Ev.bind tp (Ev.no rfl (Ev.no rfl (Ev.no rfl (Ev.no rfl (Ev.no (neq_self _) (Ev.no (neq_self _) (Ev.no rfl (Ev.no sm (Ev.no rfl (Ev.no sm (Ev.bind dc (Ev.no ?_ ?_)))))))))))))))))))
      · rw [w64_of (by omega) (by omega), bne_eq_false_iff_eq]
        omega
      · rw [w64_of (n := w + h) (by omega) (by omega), w64_of (by omega) (by omega)]
        exact Ev.bind lp (Ev.bind s2 (Ev.now _))
    exact Ev.bind a1 (Ev.bind a2 (Ev.bind a3 (Ev.bind a4 (Ev.bind a5 (Ev.bind a6 (Ev.bind t1 (Ev.bind t2 (Ev.no rfl (Ev.no (same4 (h, w, c1, t)) (Ev.no rfl (Ev.no (same4 (w, h, c2, t)) (Ev.no rfl (Ev.no (neq_self _) (Ev.no (neq_self _) (Ev.no rfl (Ev.no (sameS _) (Ev.bind iM (Ev.no rfl (Ev.no rfl (Ev.no rfl (Ev.no rfl (Ev.bind q (Ev.now _)))))))))))))))))))))))
  · have ht := t3 hM
    cases ht
    have iM := iM.isF hM
    have sM := sM.isF hM
    obtain ⟨w, h, cs, t⟩ := m
    have a1 : Ev (fun k => impl_TurnMaze k (w, h, cs, t)) (zeroMz, false) := Ev.step (fun k => impl_TurnMaze.eq k w h cs t) (Ev.bind iM (Ev.yes rfl (Ev.now _)))
    have a2 : Ev (fun k => spec_TurnMaze k (w, h, cs, t)) (zeroMz, false) := Ev.step (fun k => spec_TurnMaze.eq k w h cs t) (Ev.bind sM (Ev.yes rfl (Ev.now _)))
    have a3 : Ev (fun k => impl_MirrorMaze k (w, h, cs, t)) (zeroMz, false) := Ev.step (fun k => impl_MirrorMaze.eq k w h cs t) (Ev.bind iM (Ev.yes rfl (Ev.now _)))
    have a4 : Ev (fun k => spec_MirrorMaze k (w, h, cs, t)) (zeroMz, false) := Ev.step (fun k => spec_MirrorMaze.eq k w h cs t) (Ev.bind sM (Ev.yes rfl (Ev.now _)))
    have a5 : Ev (fun k => impl_CountMirrors k (w, h, cs, t)) (0, 0, false) := Ev.step (fun k => impl_CountMirrors.eq k w h cs t) (Ev.bind iM (Ev.yes rfl (Ev.now _)))
    have a6 : Ev (fun k => spec_CountMirrors k (w, h, cs, t)) (0, 0, false) := Ev.step (fun k => spec_CountMirrors.eq k w h cs t) (Ev.bind sM (Ev.yes rfl (Ev.now _)))
    have q : Ev (fun k => laws_FnMazesTurn_c k (more, (w, h, cs, t), zeroMz, false, zeroMz, 0, 0, ByteArray.empty)) true := Ev.step (fun k => laws_FnMazesTurn_c.eq k more w h cs t 0 0 ByteArray.empty false false 0 0 ByteArray.empty false 0 0 ByteArray.empty) (Ev.no rfl (Ev.bind s2 (Ev.now _)))
    exact Ev.bind a1 (Ev.bind a2 (Ev.bind a3 (Ev.bind a4 (Ev.bind a5 (Ev.bind a6 (Ev.bind t1 (Ev.bind t2 (Ev.no rfl (Ev.no (same4 _) (Ev.no rfl (Ev.no (same4 _) (Ev.no rfl (Ev.no rfl (Ev.no rfl (Ev.no rfl (Ev.no (sameS _) (Ev.bind iM (Ev.no rfl (Ev.no rfl (Ev.no rfl (Ev.no rfl (Ev.bind q (Ev.now _)))))))))))))))))))))))
theorem good8 {x : Int} (h : (Sh.int IntKind.u8).good x) : 0 ≤ x ∧ x ≤ 255 := by
  have h : (Lit.int .u8 x).wf = true := h
  simp [Lit.wf, IntKind.min, IntKind.max, IntKind.bits, IntKind.signed] at h
  omega
theorem pure : ∀ d : Dl laws_FnMazesTurn.ins, goodL laws_FnMazesTurn.ins d → ∃ k, laws_FnMazesTurn k d = some true := by
  rintro ⟨code, more⟩ ⟨hg1, hg2⟩
  exact main code more hg1.1 hg2.1 (fun x hx => good8 (hg1.2 x hx)) (fun x hx => good8 (hg2.2 x hx))
end Go.Proofs.YtcmebphcoamohaaGreatDoor.fnMazesTurn
