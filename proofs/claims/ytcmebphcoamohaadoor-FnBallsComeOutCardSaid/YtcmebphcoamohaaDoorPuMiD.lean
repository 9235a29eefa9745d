/- Mirrors: ends, entries, a ball until it comes out. -/
import Derived.Test.YtcmebphcoamohaaDoorPuMiC
namespace Go.Proofs.YtcmebphcoamohaaDoorS
open Go
set_option linter.unusedVariables false
set_option linter.unusedSimpArgs false
def entryB (w h k : Int) : BaT := if k < w then (k, 0, 2) else if k < w + h then (w - 1, k - w, 3) else if k < 2 * w + h then (2 * w + h - 1 - k, h - 1, 0) else (0, 2 * (w + h) - 1 - k, 1)
def outE (w h : Int) (b : BaT) : Int := if b.2.1 < 0 then b.1 else if b.1 ≥ w then w + b.2.1 else if b.2.1 ≥ h then 2 * w + h - 1 - b.1 else 2 * (w + h) - 1 - b.2.1
section
variable {w h : Int} (hw : 1 ≤ w ∧ w ≤ 9) (hh : 1 ≤ h ∧ h ≤ 9)
include hw hh
theorem entry_ok {k : Int} (hk : 0 ≤ k ∧ k < 2 * (w + h)) : BallIn w h (entryB w h k) ∧ WayOk (entryB w h k) ∧ Edge w h (entryB w h k) ∧ outE w h (revB (entryB w h k)) = k := by
  unfold entryB
  split
  · simp only [BallIn, WayOk, Edge, revB, backW, dxW, dyW, outE]
    simp
    omega
  · split
    · simp only [BallIn, WayOk, Edge, revB, backW, dxW, dyW, outE]
      simp
      refine ⟨by omega, by omega, ?_⟩
      omega
    · split
      · simp only [BallIn, WayOk, Edge, revB, backW, dxW, dyW, outE]
        simp
        refine ⟨by omega, by omega, ?_⟩
        omega
      · simp only [BallIn, WayOk, Edge, revB, backW, dxW, dyW, outE]
        simp
        refine ⟨by omega, ?_⟩
        rw [if_neg (by omega), if_neg (by omega), if_neg (by omega)]
        omega
theorem out_entry {b : BaT} (hW : WayOk b) (hi : BallIn w h (revB b)) (ho : ¬ BallIn w h b) : entryB w h (outE w h b) = revB b ∧ 0 ≤ outE w h b ∧ outE w h b < 2 * (w + h) := by
  obtain ⟨x, y, wy⟩ := b
  have hW : 0 ≤ wy ∧ wy ≤ 3 := hW
  have : wy = 0 ∨ wy = 1 ∨ wy = 2 ∨ wy = 3 := by omega
  simp only [BallIn, revB] at hi ho
  rcases this with rfl | rfl | rfl | rfl
  · simp [dxW, dyW] at hi
    have e : outE w h (x, y, 0) = x := by unfold outE; rw [if_pos (by show y < 0; omega)]
    rw [e]
    unfold entryB revB
    rw [if_pos (by omega)]
    simp [dxW, dyW, backW]
    omega
  · simp [dxW, dyW] at hi
    have e : outE w h (x, y, 1) = w + y := by unfold outE; rw [if_neg (by show ¬ y < 0; omega), if_pos (by show x ≥ w; omega)]
    rw [e]
    unfold entryB revB
    rw [if_neg (by omega), if_pos (by omega)]
    simp [dxW, dyW, backW]
    omega
  · simp [dxW, dyW] at hi
    have e : outE w h (x, y, 2) = 2 * w + h - 1 - x := by unfold outE; rw [if_neg (by show ¬ y < 0; omega), if_neg (by show ¬ x ≥ w; omega), if_pos (by show y ≥ h; omega)]
    rw [e]
    unfold entryB revB
    rw [if_neg (by omega), if_neg (by omega), if_pos (by omega)]
    simp [dxW, dyW, backW]
    omega
  · simp [dxW, dyW] at hi
    have e : outE w h (x, y, 3) = 2 * (w + h) - 1 - y := by unfold outE; rw [if_neg (by show ¬ y < 0; omega), if_neg (by show ¬ x ≥ w; omega), if_neg (by show ¬ y ≥ h; omega)]
    rw [e]
    unfold entryB revB
    rw [if_neg (by omega), if_neg (by omega), if_neg (by omega)]
    simp [dxW, dyW, backW]
    omega
theorem entry_inj {k j : Int} (hk : 0 ≤ k ∧ k < 2 * (w + h)) (hj : 0 ≤ j ∧ j < 2 * (w + h)) (e : entryB w h k = entryB w h j) : k = j := by
  rw [← (entry_ok hw hh hk).2.2.2, ← (entry_ok hw hh hj).2.2.2, e]
variable (cs : ByteArray) (t : Bool)
theorem ends_ev : Ev (fun k => impl_Maze_ends k (w, h, cs, t)) (2 * (w + h)) := Ev.step (fun k => impl_Maze_ends.eq k w h cs t) (Ev.now' (by rw [w64_of (n := w + h) (by omega) (by omega), w64_of (by omega) (by omega)]))
theorem miEnds_ev : Ev (fun k => spec_miEnds k (w, h, cs, t)) (2 * (w + h)) := Ev.step (fun k => spec_miEnds.eq k w h cs t) (Ev.now' (by rw [w64_of (n := w + h) (by omega) (by omega), w64_of (by omega) (by omega)]))
theorem entries_ev {k : Int} (hk : 0 ≤ k ∧ k < 2 * (w + h)) : Ev (fun n => impl_Maze_entry n ((w, h, cs, t), k)) (entryB w h k) ∧ Ev (fun n => spec_miEntry n ((w, h, cs, t), k)) (entryB w h k) := by
  have e1 : w64 (w + h) = w + h := w64_of (by omega) (by omega)
  have e2 : w64 (2 * w) = 2 * w := w64_of (by omega) (by omega)
  have e3 : w64 (2 * w + h) = 2 * w + h := w64_of (by omega) (by omega)
  have e4 : w64 (2 * w + h - 1) = 2 * w + h - 1 := w64_of (by omega) (by omega)
  have e5 : w64 (2 * w + h - 1 - k) = 2 * w + h - 1 - k := w64_of (by omega) (by omega)
  have e6 : w64 (2 * (w + h) - 1) = 2 * (w + h) - 1 := w64_of (by omega) (by omega)
  have e7 : w64 (2 * (w + h) - 1 - k) = 2 * (w + h) - 1 - k := w64_of (by omega) (by omega)
  have e8 : w64 (k - w) = k - w := w64_of (by omega) (by omega)
  have e9 := sub64 hw
  have e10 := sub64 hh
  unfold entryB
  by_cases c1 : k < w
  · rw [if_pos c1]
    exact ⟨Ev.step (fun n => impl_Maze_entry.eq n w h cs t k) (Ev.yes (decide_eq_true c1) (Ev.now _)), Ev.step (fun n => spec_miEntry.eq n w h cs t k) (Ev.yes (decide_eq_true c1) (Ev.now _))⟩
  · rw [if_neg c1]
    by_cases c2 : k < w + h
    · rw [if_pos c2]
      refine ⟨Ev.step (fun n => impl_Maze_entry.eq n w h cs t k) (Ev.no (decide_eq_false c1) ?_), Ev.step (fun n => spec_miEntry.eq n w h cs t k) (Ev.no (decide_eq_false c1) ?_)⟩ <;> (rw [e1, e8, e9]; exact Ev.yes (decide_eq_true c2) (Ev.now _))
    · rw [if_neg c2]
      by_cases c3 : k < 2 * w + h
      · rw [if_pos c3]
        refine ⟨Ev.step (fun n => impl_Maze_entry.eq n w h cs t k) (Ev.no (decide_eq_false c1) ?_), Ev.step (fun n => spec_miEntry.eq n w h cs t k) (Ev.no (decide_eq_false c1) ?_)⟩ <;> (rw [e1, e2, e3, e4, e5, e10]; exact Ev.no (decide_eq_false c2) (Ev.yes (decide_eq_true c3) (Ev.now _)))
      · rw [if_neg c3]
        refine ⟨Ev.step (fun n => impl_Maze_entry.eq n w h cs t k) (Ev.no (decide_eq_false c1) ?_), Ev.step (fun n => spec_miEntry.eq n w h cs t k) (Ev.no (decide_eq_false c1) ?_)⟩
        · rw [e1, e2, e3]
          exact Ev.no (decide_eq_false c2) (Ev.no (decide_eq_false c3) (Ev.bind (ends_ev hw hh cs t) (Ev.now' (by rw [e6, e7]))))
        · rw [e1, e2, e3]
          exact Ev.no (decide_eq_false c2) (Ev.no (decide_eq_false c3) (Ev.bind (miEnds_ev hw hh cs t) (Ev.now' (by rw [e6, e7]))))
theorem miOut_ev (b : BaT) (hb : (-1 ≤ b.1 ∧ b.1 ≤ 9) ∧ (-1 ≤ b.2.1 ∧ b.2.1 ≤ 9)) : Ev (fun k => spec_miOut k ((w, h, cs, t), b)) (outE w h b) := by
  obtain ⟨x, y, wy⟩ := b
  simp only at hb
  have e1 : w64 (w + y) = w + y := w64_of (by omega) (by omega)
  have e2 : w64 (2 * w) = 2 * w := w64_of (by omega) (by omega)
  have e3 : w64 (2 * w + h) = 2 * w + h := w64_of (by omega) (by omega)
  have e4 : w64 (2 * w + h - 1) = 2 * w + h - 1 := w64_of (by omega) (by omega)
  have e5 : w64 (2 * w + h - 1 - x) = 2 * w + h - 1 - x := w64_of (by omega) (by omega)
  have e6 : w64 (2 * (w + h) - 1) = 2 * (w + h) - 1 := w64_of (by omega) (by omega)
  have e7 : w64 (2 * (w + h) - 1 - y) = 2 * (w + h) - 1 - y := w64_of (by omega) (by omega)
  refine Ev.step (fun n => spec_miOut.eq n w h cs t x y wy) ?_
  unfold outE
  simp only [e1, e2, e3, e4, e5]
  by_cases c1 : y < 0
  · rw [if_pos c1]; exact Ev.yes (decide_eq_true c1) (Ev.now _)
  · rw [if_neg c1]
    refine Ev.no (decide_eq_false c1) ?_
    by_cases c2 : x ≥ w
    · rw [if_pos c2]; exact Ev.yes (decide_eq_true c2) (Ev.now _)
    · rw [if_neg c2]
      refine Ev.no (decide_eq_false c2) ?_
      by_cases c3 : y ≥ h
      · rw [if_pos c3]; exact Ev.yes (decide_eq_true c3) (Ev.now _)
      · rw [if_neg c3]
        exact Ev.no (decide_eq_false c3) (Ev.bind (miEnds_ev hw hh cs t) (Ev.now' (by rw [e6, e7])))
end
/-! ### Runs -/
theorem hits_succ (w : Int) (t : Bool) : ∀ (n : Nat) (s : StM), hitsS w t (n + 1) s = hitsS w t n s + mirB w (runS w t n s)
  | 0, s => by show mirB w s + 0 = 0 + mirB w s; omega
  | n + 1, s => by
    show mirB w s + hitsS w t (n + 1) (hitS w t s) = mirB w s + hitsS w t n (hitS w t s) + mirB w (runS w t n (hitS w t s))
    rw [hits_succ w t n (hitS w t s)]
    omega
theorem hits_le (w : Int) (t : Bool) : ∀ (n : Nat) (s : StM), hitsS w t n s ≤ n
  | 0, s => Nat.le_refl _
  | n + 1, s => by
    have := hits_le w t n (hitS w t s)
    have h2 : mirB w s ≤ 1 := by unfold mirB; split <;> omega
    show mirB w s + hitsS w t n (hitS w t s) ≤ n + 1
    omega
theorem out_same {w h : Int} {t : Bool} {s : StM} {n i : Nat} (ho : OutAt w h t s n) (h1 : 1 ≤ i) (hi : i < n) : runS w t i s ≠ s := fun e => by
  have : runS w t n s = runS w t (n - i) s := by
    have := runS_add w t i (n - i) s
    rw [Nat.add_sub_cancel' (by omega), e] at this
    exact this
  have h2 := ho.1 (n - i) (by omega)
  rw [← this] at h2
  exact ho.2 h2
theorem sign_46 {w h : Int} {s : StM} (H : StOk w h s) : ((signB w s.1 s.2 != 46) = true ∧ mirB w s = 1) ∨ ((signB w s.1 s.2 != 46) = false ∧ mirB w s = 0) := by
  unfold mirB
  rcases sign_cases H with h1 | h1 | h1
  · rw [h1]; exact .inr ⟨rfl, rfl⟩
  · rw [h1]; exact .inl ⟨rfl, rfl⟩
  · rw [h1]; exact .inl ⟨rfl, rfl⟩
/-- A ball behind a cell is at most one cell out. -/
theorem next_near {w h : Int} {s : StM} (t : Bool) (H : StOk w h s) : ((-1 ≤ (hitS w t s).2.1 ∧ (hitS w t s).2.1 ≤ 9) ∧ (-1 ≤ (hitS w t s).2.2.1 ∧ (hitS w t s).2.2.1 ≤ 9)) ∧ BallIn w h (revB (hitS w t s).2) := by
  obtain ⟨cs, b⟩ := s
  have h1 := rev_nx_at w cs b
  have h2 : BallIn w h (revB (hitS w t (cs, b)).2) := by
    have hb := H.2.1
    unfold BallIn at hb ⊢
    rw [show (hitS w t (cs, b)).2 = nxB w cs b from rfl, h1.1, h1.2]
    exact hb
  obtain ⟨⟨hw, hh, _⟩, ⟨hx, hy⟩, _⟩ := H
  obtain ⟨⟨d1, d2⟩, d3, d4⟩ := dW_range (turnB (signB w cs b) b.2.2)
  refine ⟨?_, h2⟩
  show (-1 ≤ b.1 + dxW (turnB (signB w cs b) b.2.2) ∧ b.1 + dxW (turnB (signB w cs b) b.2.2) ≤ 9) ∧ (-1 ≤ b.2.1 + dyW (turnB (signB w cs b) b.2.2) ∧ b.2.1 + dyW (turnB (signB w cs b) b.2.2) ≤ 9)
  simp only at hx hy
  omega
theorem out_near {w h : Int} {s : StM} {t : Bool} (H : StOk w h s) {n : Nat} (ho : OutAt w h t s n) : 1 ≤ n ∧ ((-1 ≤ (runS w t n s).2.1 ∧ (runS w t n s).2.1 ≤ 9) ∧ (-1 ≤ (runS w t n s).2.2.1 ∧ (runS w t n s).2.2.1 ≤ 9)) ∧ BallIn w h (revB (runS w t n s).2) ∧ WayOk (runS w t n s).2 ∧ MazeOk w h (runS w t n s).1 := by
  rcases Nat.eq_zero_or_pos n with h0 | h0
  · subst h0
    exact absurd H.2.1 ho.2
  · obtain ⟨m, rfl⟩ : ∃ m, n = m + 1 := ⟨n - 1, by omega⟩
    have hs := run_st t m s H fun i hi => ho.1 i (by omega)
    obtain ⟨a, b⟩ := next_near t hs
    obtain ⟨c, d⟩ := hit_ok hs t
    rw [runS_succ]
    exact ⟨by omega, a, b, d, c⟩
theorem ne_ball {a b : BaT} (h : a ≠ b) : ((a.1 == b.1) && ((a.2.1 == b.2.1) && ((a.2.2 == b.2.2) && true))) = false := by
  obtain ⟨a1, a2, a3⟩ := a
  obtain ⟨b1, b2, b3⟩ := b
  rw [Bool.eq_false_iff]
  intro e
  simp at e
  exact h (by rw [e.1, e.2.1, e.2.2])
theorem same_ball (a : BaT) : ((a.1 == a.1) && ((a.2.1 == a.2.1) && ((a.2.2 == a.2.2) && true))) = true := by simp
theorem size_st {w h : Int} {s : StM} (h1 : MazeOk w h s.1) : s.1.size ≤ 1099511627776 := by
  have := OkMz.size (m := (w, h, s.1, false)) h1
  simp only at this
  omega
section
variable {w h : Int} {cs : ByteArray} {b : BaT} (t : Bool) (H : StOk w h (cs, b))
include H
abbrev stepArg (w h : Int) (cs : ByteArray) (b : BaT) (t : Bool) (s : StM) (hits cells : Int) : MzT × BaT × MzT × MzT × BaT × Int × Int := ((w, h, cs, t), b, zeroMz, (w, h, s.1, t), s.2, hits, cells)
theorem miRun_next {s : StM} (hs : StOk w h s) (hits cells : Nat) (hb : hits + cells ≤ 1000000000) (r : MzT × Int × Int × Int × Bool)
    (HN : Ev (fun k => (spec_miBall k ((w, h, (hitS w t s).1, t), (hitS w t s).2)).bind fun r3 =>
      cond (!r3) ((spec_miOut k ((w, h, cs, t), (hitS w t s).2)).bind fun r4 => some ((w, h, (hitS w t s).1, t), r4, ((hits + mirB w s : Nat) : Int), ((cells + 1 : Nat) : Int), true))
      (cond (((hitS w t s).2.1 == b.1) && (((hitS w t s).2.2.1 == b.2.1) && (((hitS w t s).2.2.2 == b.2.2) && true)))
       (cond (strEq (hitS w t s).1 cs) (some (zeroMz, 0, 0, 0, false)) (spec_miRun_l k (stepArg w h cs b t (hitS w t s) ((hits + mirB w s : Nat) : Int) ((cells + 1 : Nat) : Int))))
       (spec_miRun_l k (stepArg w h cs b t (hitS w t s) ((hits + mirB w s : Nat) : Int) ((cells + 1 : Nat) : Int))))) r) :
    Ev (fun k => spec_miRun_l k (stepArg w h cs b t s (hits : Int) (cells : Int))) r := by
  obtain ⟨bx, b_y, bw⟩ := b
  obtain ⟨s1, sx, sy, sw⟩ := s
  refine Ev.step (fun k => spec_miRun_l.eq k w h cs t bx b_y bw 0 0 ByteArray.empty false w h s1 t sx sy sw (hits : Int) (cells : Int)) (Ev.bind (miAt_ev t hs) ?_)
  have ec : w64 ((cells : Int) + 1) = ((cells + 1 : Nat) : Int) := by rw [w64_of (by omega) (by omega)]; omega
  rcases sign_46 hs with ⟨h1, h2⟩ | ⟨h1, h2⟩
  · rw [h2] at HN
    have eh : w64 ((hits : Int) + 1) = ((hits + 1 : Nat) : Int) := by rw [w64_of (by omega) (by omega)]; omega
    refine Ev.yes h1 (Ev.bind (miHit_ev t hs) ?_)
    simp only [ec, eh]
    exact HN
  · rw [h2] at HN
    refine Ev.no h1 (Ev.bind (miHit_ev t hs) ?_)
    simp only [ec]
    exact HN
theorem miRun_out {n : Nat} (hn : n ≤ 1000000) (ho : OutAt w h t (cs, b) n) : ∀ r i : Nat, 1 ≤ r → i + r = n →
    Ev (fun k => spec_miRun_l k (stepArg w h cs b t (runS w t i (cs, b)) ((hitsS w t i (cs, b) : Nat) : Int) (i : Int))) ((w, h, (runS w t n (cs, b)).1, t), outE w h (runS w t n (cs, b)).2, ((hitsS w t n (cs, b) : Nat) : Int), (n : Int), true) := by
  intro r
  induction r with
  | zero => intro i h1; omega
  | succ r ih =>
    intro i h1 h2
    have hs := run_st t i (cs, b) H fun j hj => ho.1 j (by omega)
    have hl := hits_le w t i (cs, b)
    refine miRun_next t H hs _ _ (by omega) _ ?_
    obtain ⟨n1, n2⟩ := next_near t hs
    obtain ⟨m1, m2⟩ := hit_ok hs t
    rw [← hits_succ w t i (cs, b), ← runS_succ w t i (cs, b)]
    rw [← runS_succ w t i (cs, b)] at n1 n2 m1 m2
    rcases Nat.eq_zero_or_pos r with h0 | h0
    · subst h0
      obtain rfl : i + 1 = n := by omega
      exact Ev.bind ((miBall_ev _ _ (size_st m1)).isF fun hb => ho.2 hb.2.1) (Ev.yes rfl (Ev.bind (miOut_ev H.1.1 H.1.2.1 cs t _ n1) (Ev.now _)))
    · refine Ev.bind ((miBall_ev _ _ (size_st m1)).isT ⟨m1, ho.1 (i + 1) (by omega), m2⟩) (Ev.no rfl ?_)
      have hne := out_same ho (i := i + 1) (by omega) (by omega)
      by_cases hb : (runS w t (i + 1) (cs, b)).2 = b
      · have hc : (runS w t (i + 1) (cs, b)).1 ≠ cs := fun e => hne (Prod.ext e hb)
        rw [hb]
        refine Ev.yes (same_ball b) (Ev.no (by rw [Bool.eq_false_iff]; intro e; exact hc (strEq_iff.1 e)) ?_)
        exact ih (i + 1) h0 (by omega)
      · exact Ev.no (ne_ball hb) (ih (i + 1) h0 (by omega))
/-- A ball that comes back to its beginning: the reference tells that it never comes out. -/
theorem miRun_back {p : Nat} (hp : p ≤ 1000000) (hin : ∀ i, BallIn w h (rnB w cs i b)) (hback : rnB w cs p b = b) (hfirst : ∀ j, 1 ≤ j → j < p → rnB w cs j b ≠ b) : ∀ r i : Nat, 1 ≤ r → i + r = p →
    Ev (fun k => spec_miRun_l k (stepArg w h cs b false (cs, rnB w cs i b) ((hitsS w false i (cs, b) : Nat) : Int) (i : Int))) (zeroMz, 0, 0, 0, false) := by
  intro r
  induction r with
  | zero => intro i h1; omega
  | succ r ih =>
    intro i h1 h2
    have hs : StOk w h (cs, rnB w cs i b) := ⟨H.1, hin i, rn_way w cs i H.2.2⟩
    have hl := hits_le w false i (cs, b)
    refine miRun_next false H hs _ _ (by omega) _ ?_
    have e1 := hits_succ w false i (cs, b)
    rw [run_stay] at e1
    rw [← e1, hit_stay, ← rn_succ w cs i b]
    refine Ev.bind ((miBall_ev _ _ (size_st (s := (cs, b)) H.1)).isT ⟨H.1, hin (i + 1), rn_way w cs (i + 1) H.2.2⟩) (Ev.no rfl ?_)
    rcases Nat.eq_zero_or_pos r with h0 | h0
    · subst h0
      obtain rfl : i + 1 = p := by omega
      rw [hback]
      exact Ev.yes (same_ball b) (Ev.yes (strEq_self _) (Ev.now _))
    · exact Ev.no (ne_ball (hfirst (i + 1) (by omega) (by omega))) (ih (i + 1) h0 (by omega))
/-! ### The program's passage -/
abbrev passT := Int × Int × ByteArray × Bool × Int × Int × Int
theorem search_ev (M Z : MzT) (hM : M.1 = w ∧ M.2.1 = h) (z1 z2 z3 : Int) (out : MzT) (hits cells : Int) (back : BaT) (e : Nat) (he : (e : Int) < 2 * (w + h)) (hback : entryB w h (e : Int) = back) : ∀ m i : Nat, i + m = e →
    Ev (fun k => impl_Maze_pass_l_l k (M, (Z.1, Z.2.1, Z.2.2.1, Z.2.2.2, z1, z2, z3), (out.1, out.2.1, out.2.2.1, out.2.2.2, (i : Int), hits, cells), back)) ((Z.1, Z.2.1, Z.2.2.1, Z.2.2.2, z1, z2, z3), (out.1, out.2.1, out.2.2.1, out.2.2.2, (e : Int), hits, cells)) := by
  have hw := H.1.1
  have hh := H.1.2.1
  obtain ⟨mw, mh, mc, mt⟩ := M
  obtain ⟨rfl, rfl⟩ := hM
  obtain ⟨bx, b_y, bw⟩ := back
  intro m
  induction m with
  | zero =>
    intro i hi
    obtain rfl : i = e := by omega
    refine Ev.step (fun k => impl_Maze_pass_l_l.eq k mw mh mc mt _ _ _ _ _ _ _ _ _ _ _ _ _ _ bx b_y bw) (Ev.bind (entries_ev hw hh mc mt (k := (i : Int)) (by omega)).1 (Ev.no ?_ (Ev.now _)))
    rw [hback]
    simp
  | succ m ih =>
    intro i hi
    have hne : entryB mw mh (i : Int) ≠ (bx, b_y, bw) := fun h => by
      have := entry_inj hw hh (k := (i : Int)) (j := (e : Int)) (by omega) (by omega) (h.trans hback.symm)
      omega
    refine Ev.step (fun k => impl_Maze_pass_l_l.eq k mw mh mc mt _ _ _ _ _ _ _ _ _ _ _ _ _ _ bx b_y bw) (Ev.bind (entries_ev hw hh mc mt (k := (i : Int)) (by omega)).1 (Ev.yes ?_ ?_))
    · rw [ne_ball hne]; rfl
    · rw [w64_succ (by omega)]
      exact ih (i + 1) (by omega)
abbrev passArg (w h : Int) (cs : ByteArray) (t : Bool) (s : StM) (hits cells most : Int) : MzT × BaT × passT × passT × Int := ((w, h, cs, t), s.2, (0, 0, ByteArray.empty, false, 0, 0, 0), (w, h, s.1, t, 0, hits, cells), most)
theorem pass_out {n : Nat} {most : Nat} (hn : n ≤ most) (hm : most ≤ 1000000) (ho : OutAt w h t (cs, b) n) : ∀ r i : Nat, 1 ≤ r → i + r = n →
    Ev (fun k => impl_Maze_pass_l k (passArg w h cs t (runS w t i (cs, b)) ((hitsS w t i (cs, b) : Nat) : Int) (i : Int) (most : Int))) (.inl ((w, h, (runS w t n (cs, b)).1, t, outE w h (runS w t n (cs, b)).2, ((hitsS w t n (cs, b) : Nat) : Int), (n : Int)), true)) := by
  intro r
  induction r with
  | zero => intro i h1; omega
  | succ r ih =>
    intro i h1 h2
    have hs := run_st t i (cs, b) H fun j hj => ho.1 j (by omega)
    have hl := hits_le w t i (cs, b)
    obtain ⟨n1, n2⟩ := next_near t hs
    obtain ⟨m1, m2⟩ := hit_ok hs t
    have ec : w64 ((i : Int) + 1) = ((i + 1 : Nat) : Int) := by rw [w64_of (by omega) (by omega)]; omega
    have eb : Ev (fun k => impl_bit k (signB w (runS w t i (cs, b)).1 (runS w t i (cs, b)).2 != 46)) ((mirB w (runS w t i (cs, b)) : Nat) : Int) := by
      rcases sign_46 hs with ⟨h1, h2⟩ | ⟨h1, h2⟩
      · rw [h1, h2]; exact Ev.step (fun k => impl_bit.eq k true) (Ev.yes rfl (Ev.now _))
      · rw [h1, h2]; exact Ev.step (fun k => impl_bit.eq k false) (Ev.no rfl (Ev.now _))
    have eh : w64 (((hitsS w t i (cs, b) : Nat) : Int) + ((mirB w (runS w t i (cs, b)) : Nat) : Int)) = ((hitsS w t (i + 1) (cs, b) : Nat) : Int) := by
      have h3 := hits_succ w t i (cs, b)
      have h4 := hits_le w t (i + 1) (cs, b)
      rw [w64_of (by omega) (by omega)]
      omega
    have he := hit_ev t hs
    rw [← runS_succ w t i (cs, b)] at he n1 n2 m1 m2
    obtain ⟨N, hN⟩ : ∃ N, runS w t (i + 1) (cs, b) = N := ⟨_, rfl⟩
    rw [hN] at he n1 n2 m1 m2
    obtain ⟨N1, nx, ny, nw⟩ := N
    obtain ⟨S, hS⟩ : ∃ S, runS w t i (cs, b) = S := ⟨_, rfl⟩
    rw [hS] at he eb eh ⊢
    obtain ⟨S1, sx, sy, sw⟩ := S
    refine Ev.step (fun k => impl_Maze_pass_l.eq k w h cs t sx sy sw 0 0 ByteArray.empty false 0 0 0 w h S1 t 0 ((hitsS w t i (cs, b) : Nat) : Int) (i : Int) (most : Int)) (Ev.yes (decide_eq_true (by omega)) (Ev.bind he (Ev.bind eb ?_)))
    simp only [ec, eh]
    rcases Nat.eq_zero_or_pos r with h0 | h0
    · subst h0
      obtain rfl : i + 1 = n := by omega
      have hout : ¬ BallIn w h (nx, ny, nw) := by have := ho.2; rw [hN] at this; exact this
      obtain ⟨o1, o2, o3⟩ := out_entry H.1.1 H.1.2.1 m2 n2 hout
      obtain ⟨e, he'⟩ := Int.eq_ofNat_of_zero_le o2
      obtain ⟨⟨d1, d2⟩, d3, d4⟩ := dW_range nw
      have m2' : 0 ≤ nw ∧ nw ≤ 3 := m2
      simp only at n1
      have rv : (w64 (nx - dxW nw), w64 (ny - dyW nw), (w64 (nw + 2)).tmod 4) = revB (nx, ny, nw) := by
        rw [w64_of (by omega) (by omega), w64_of (by omega) (by omega), w64_of (by omega) (by omega), Int.tmod_eq_emod_of_nonneg (by omega)]
        unfold revB
        rw [(back_facts m2').2.2.2.2.2]
      refine Ev.no (decide_eq_false hout) (Ev.bind (ahead_ev nw m2') ?_)
      rw [rv]
      refine Ev.bind (search_ev (M := (w, h, cs, t)) H zeroMz ⟨rfl, rfl⟩ 0 0 0 (w, h, N1, t) _ _ _ e (by rw [← he']; exact o3) (by rw [← he']; exact o1) e 0 (by omega)) (Ev.now' ?_)
      rw [← he', hN]
    · have hin : BallIn w h (nx, ny, nw) := by have := ho.1 (i + 1) (by omega); rw [hN] at this; exact this
      refine Ev.yes (decide_eq_true hin) ?_
      have := ih (i + 1) h0 (by omega)
      rw [hN] at this
      exact this
theorem pass_none {most : Nat} (hm : most ≤ 1000000) (hin : ∀ i, i ≤ most → BallIn w h (runS w t i (cs, b)).2) : ∀ r i : Nat, i + r = most →
    Ev (fun k => impl_Maze_pass_l k (passArg w h cs t (runS w t i (cs, b)) ((hitsS w t i (cs, b) : Nat) : Int) (i : Int) (most : Int))) (.inr (0, 0, ByteArray.empty, false, 0, 0, 0)) := by
  intro r
  induction r with
  | zero =>
    intro i h1
    obtain ⟨S1, sx, sy, sw⟩ := runS w t i (cs, b)
    exact Ev.step (fun k => impl_Maze_pass_l.eq k w h cs t sx sy sw 0 0 ByteArray.empty false 0 0 0 w h S1 t 0 ((hitsS w t i (cs, b) : Nat) : Int) (i : Int) (most : Int)) (Ev.no (decide_eq_false (by omega)) (Ev.now _))
  | succ r ih =>
    intro i h1
    have hs := run_st t i (cs, b) H fun j hj => hin j (by omega)
    have hl := hits_le w t i (cs, b)
    have ec : w64 ((i : Int) + 1) = ((i + 1 : Nat) : Int) := by rw [w64_of (by omega) (by omega)]; omega
    have eb : Ev (fun k => impl_bit k (signB w (runS w t i (cs, b)).1 (runS w t i (cs, b)).2 != 46)) ((mirB w (runS w t i (cs, b)) : Nat) : Int) := by
      rcases sign_46 hs with ⟨h1, h2⟩ | ⟨h1, h2⟩
      · rw [h1, h2]; exact Ev.step (fun k => impl_bit.eq k true) (Ev.yes rfl (Ev.now _))
      · rw [h1, h2]; exact Ev.step (fun k => impl_bit.eq k false) (Ev.no rfl (Ev.now _))
    have eh : w64 (((hitsS w t i (cs, b) : Nat) : Int) + ((mirB w (runS w t i (cs, b)) : Nat) : Int)) = ((hitsS w t (i + 1) (cs, b) : Nat) : Int) := by
      have h3 := hits_succ w t i (cs, b)
      have h4 := hits_le w t (i + 1) (cs, b)
      rw [w64_of (by omega) (by omega)]
      omega
    have he := hit_ev t hs
    have hb := hin (i + 1) (by omega)
    have ih := ih (i + 1) (by omega)
    rw [← runS_succ w t i (cs, b)] at he
    obtain ⟨N, hN⟩ : ∃ N, runS w t (i + 1) (cs, b) = N := ⟨_, rfl⟩
    rw [hN] at he hb ih
    obtain ⟨N1, nx, ny, nw⟩ := N
    obtain ⟨S, hS⟩ : ∃ S, runS w t i (cs, b) = S := ⟨_, rfl⟩
    rw [hS] at he eb eh ⊢
    obtain ⟨S1, sx, sy, sw⟩ := S
    refine Ev.step (fun k => impl_Maze_pass_l.eq k w h cs t sx sy sw 0 0 ByteArray.empty false 0 0 0 w h S1 t 0 ((hitsS w t i (cs, b) : Nat) : Int) (i : Int) (most : Int)) (Ev.yes (decide_eq_true (by omega)) (Ev.bind he (Ev.bind eb ?_)))
    simp only [ec, eh]
    exact Ev.yes (decide_eq_true hb) ih
end
end Go.Proofs.YtcmebphcoamohaaDoorS
