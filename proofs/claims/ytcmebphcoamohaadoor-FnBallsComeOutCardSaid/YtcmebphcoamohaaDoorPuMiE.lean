/- Mirrors: what becomes of a ball, told by the program and by the reference; tables of exits. -/
import Derived.Test.YtcmebphcoamohaaDoorPuMiD
namespace Go.Proofs.YtcmebphcoamohaaDoorS
open Go
set_option linter.unusedVariables false
set_option linter.unusedSimpArgs false
theorem least_of {P : Nat → Prop} {n : Nat} (h : P n) : ∃ m, m ≤ n ∧ P m ∧ ∀ j, j < m → ¬ P j := by
  induction n using Nat.strongRecOn with
  | _ n ih =>
    by_cases hx : ∃ j, j < n ∧ P j
    · obtain ⟨j, h1, h2⟩ := hx
      obtain ⟨m, h3, h4, h5⟩ := ih j h1 h2
      exact ⟨m, by omega, h4, h5⟩
    · exact ⟨n, Nat.le_refl _, h, fun j h1 h2 => hx ⟨j, h1, h2⟩⟩
/-- A ball that never comes out (the mirrors stay). -/
def Round (m : MzT) (b : BaT) : Prop := m.2.2.2 = false ∧ ∀ i, BallIn m.1 m.2.1 (rnB m.1 m.2.2.1 i b)
def OutsM (m : MzT) (b : BaT) (n : Nat) : Prop := OutAt m.1 m.2.1 m.2.2.2 (m.2.2.1, b) n
def endM (m : MzT) (b : BaT) (n : Nat) : StM := runS m.1 m.2.2.2 n (m.2.2.1, b)
def outM (m : MzT) (b : BaT) (n : Nat) : Int := outE m.1 m.2.1 (endM m b n).2
def mazeM (m : MzT) (b : BaT) (n : Nat) : MzT := (m.1, m.2.1, (endM m b n).1, m.2.2.2)
def hitsM (m : MzT) (b : BaT) (n : Nat) : Int := ((hitsS m.1 m.2.2.2 n (m.2.2.1, b) : Nat) : Int)
theorem fate {m : MzT} {b : BaT} (H : OkBa m b) :
    (∃ n : Nat, n ≤ 1000000 ∧ OutsM m b n ∧ Ev (fun k => impl_Maze_pass k (m, b)) ((m.1, m.2.1, (endM m b n).1, m.2.2.2, outM m b n, hitsM m b n, (n : Int)), true) ∧ Ev (fun k => spec_miRun k (m, b)) (mazeM m b n, outM m b n, hitsM m b n, (n : Int), true)) ∨
    (Round m b ∧ Ev (fun k => impl_Maze_pass k (m, b)) ((0, 0, ByteArray.empty, false, 0, 0, 0), false) ∧ Ev (fun k => spec_miRun k (m, b)) (zeroMz, 0, 0, 0, false)) := by
  obtain ⟨w, h, cs, t⟩ := m
  obtain ⟨x, y, wy⟩ := b
  have HS : StOk w h (cs, x, y, wy) := H
  have hm := mul_range HS.1.1.1 HS.1.1.2 HS.1.2.1.1 HS.1.2.1.2
  have hs : (cs.size : Int) = w * h := HS.1.2.2.1
  have good : ∀ (n most : Nat), n ≤ most → most ≤ 1000000 → OutAt w h t (cs, x, y, wy) n → Ev (fun k => impl_Maze_pass_l k (passArg w h cs t (cs, x, y, wy) 0 0 (most : Int))) (.inl ((w, h, (endM (w, h, cs, t) (x, y, wy) n).1, t, outM (w, h, cs, t) (x, y, wy) n, hitsM (w, h, cs, t) (x, y, wy) n, (n : Int)), true)) ∧
      Ev (fun k => spec_miRun k ((w, h, cs, t), (x, y, wy))) (mazeM (w, h, cs, t) (x, y, wy) n, outM (w, h, cs, t) (x, y, wy) n, hitsM (w, h, cs, t) (x, y, wy) n, (n : Int), true) := fun n most h1 h2 ho => by
    obtain ⟨h0, _⟩ := out_near HS ho
    exact ⟨pass_out t HS h1 h2 ho n 0 h0 (by omega), Ev.step (fun k => spec_miRun.eq k w h cs t x y wy) (Ev.bind (miRun_out t HS (by omega) ho n 0 h0 (by omega)) (Ev.now _))⟩
  cases t with
  | true =>
    obtain ⟨n, hn, ho⟩ := turning_out HS
    obtain ⟨g1, g2⟩ := good n 1000000 (by omega) (by omega) ho
    exact .inl ⟨n, by omega, ho, Ev.step (fun k => impl_Maze_pass.eq k w h cs true x y wy) (Ev.no rfl (Ev.bind g1 (Ev.now _))), g2⟩
  | false =>
    have e4 : w64 (4 * (cs.size : Int)) = ((4 * cs.size : Nat) : Int) := by rw [w64_of (by omega) (by omega)]; omega
    rcases staying HS with ⟨n, h1, h2, ho⟩ | ⟨p, h1, h2, h3, h4⟩
    · obtain ⟨g1, g2⟩ := good n (4 * cs.size) (by omega) (by omega) ho
      refine .inl ⟨n, by omega, ho, Ev.step (fun k => impl_Maze_pass.eq k w h cs false x y wy) (Ev.yes rfl ?_), g2⟩
      rw [e4]
      exact Ev.bind g1 (Ev.now _)
    · refine .inr ⟨⟨rfl, h4⟩, Ev.step (fun k => impl_Maze_pass.eq k w h cs false x y wy) (Ev.yes rfl ?_), ?_⟩
      · rw [e4]
        exact Ev.bind (pass_none false HS (most := 4 * cs.size) (by omega) (fun i hi => by rw [run_stay]; exact h4 i) (4 * cs.size) 0 (by omega)) (Ev.now _)
      · obtain ⟨q, q1, ⟨q2, q3⟩, q4⟩ := least_of (P := fun p => 1 ≤ p ∧ rnB w cs p (x, y, wy) = (x, y, wy)) ⟨h1, h3⟩
        exact Ev.step (fun k => spec_miRun.eq k w h cs false x y wy) (Ev.bind (miRun_back HS (p := q) (by omega) h4 q3 (fun j hj1 hj2 e => q4 j hj2 ⟨hj1, e⟩) q 0 q2 (by omega)) (Ev.now _))
/-- The three questions on a ball, by the program and by the reference. -/
structure Six (m : MzT) (b : BaT) (out : Int) (after : MzT) (hits : Int) (ok : Bool) : Prop where
  e1 : Ev (fun k => impl_ExitOf k (m, b)) (out, ok)
  e2 : Ev (fun k => spec_ExitOf k (m, b)) (out, ok)
  e3 : Ev (fun k => impl_MazeAfterBall k (m, b)) (after, ok)
  e4 : Ev (fun k => spec_MazeAfterBall k (m, b)) (after, ok)
  e5 : Ev (fun k => impl_HitsOfBall k (m, b)) (hits, ok)
  e6 : Ev (fun k => spec_HitsOfBall k (m, b)) (hits, ok)
theorem six_of {m : MzT} {b : BaT} (H : OkBa m b) (p : passT) (r : MzT × Int × Int × Int × Bool) (ok : Bool) (h1 : Ev (fun k => impl_Maze_pass k (m, b)) (p, ok)) (h2 : Ev (fun k => spec_miRun k (m, b)) r) (hr : r.2.2.2.2 = ok) (ho : r.2.1 = p.2.2.2.2.1) (hm : r.1 = (p.1, p.2.1, p.2.2.1, p.2.2.2.1)) (hh : r.2.2.1 = p.2.2.2.2.2.1) :
    Six m b p.2.2.2.2.1 (p.1, p.2.1, p.2.2.1, p.2.2.2.1) p.2.2.2.2.2.1 ok := by
  have hz := OkMz.size H.1
  have iB := (isBall_ev m b (by omega)).isT H
  have sB := (miBall_ev m b (by omega)).isT H
  obtain ⟨w, h, cs, t⟩ := m
  obtain ⟨x, y, wy⟩ := b
  have po : Ev (fun k => impl_passOf k ((w, h, cs, t), (x, y, wy))) (p, ok) := Ev.step (fun k => impl_passOf.eq k w h cs t x y wy) (Ev.bind iB (Ev.no rfl (Ev.bind h1 (Ev.now _))))
  exact ⟨Ev.step (fun k => impl_ExitOf.eq k w h cs t x y wy) (Ev.bind po (Ev.now _)), Ev.step (fun k => spec_ExitOf.eq k w h cs t x y wy) (Ev.bind sB (Ev.no rfl (Ev.bind h2 (Ev.now' (by rw [ho, hr]))))),
    Ev.step (fun k => impl_MazeAfterBall.eq k w h cs t x y wy) (Ev.bind po (Ev.now _)), Ev.step (fun k => spec_MazeAfterBall.eq k w h cs t x y wy) (Ev.bind sB (Ev.no rfl (Ev.bind h2 (Ev.now' (by rw [hm, hr]))))),
    Ev.step (fun k => impl_HitsOfBall.eq k w h cs t x y wy) (Ev.bind po (Ev.now _)), Ev.step (fun k => spec_HitsOfBall.eq k w h cs t x y wy) (Ev.bind sB (Ev.no rfl (Ev.bind h2 (Ev.now' (by rw [hh, hr])))))⟩
theorem six_none {m : MzT} {b : BaT} (hc : m.2.2.1.size ≤ 1099511627776) (H : ¬ OkBa m b) : Six m b 0 zeroMz 0 false := by
  have iB := (isBall_ev m b hc).isF H
  have sB := (miBall_ev m b hc).isF H
  obtain ⟨w, h, cs, t⟩ := m
  obtain ⟨x, y, wy⟩ := b
  have po : Ev (fun k => impl_passOf k ((w, h, cs, t), (x, y, wy))) ((0, 0, ByteArray.empty, false, 0, 0, 0), false) := Ev.step (fun k => impl_passOf.eq k w h cs t x y wy) (Ev.bind iB (Ev.yes rfl (Ev.now _)))
  exact ⟨Ev.step (fun k => impl_ExitOf.eq k w h cs t x y wy) (Ev.bind po (Ev.now _)), Ev.step (fun k => spec_ExitOf.eq k w h cs t x y wy) (Ev.bind sB (Ev.yes rfl (Ev.now _))),
    Ev.step (fun k => impl_MazeAfterBall.eq k w h cs t x y wy) (Ev.bind po (Ev.now _)), Ev.step (fun k => spec_MazeAfterBall.eq k w h cs t x y wy) (Ev.bind sB (Ev.yes rfl (Ev.now _))),
    Ev.step (fun k => impl_HitsOfBall.eq k w h cs t x y wy) (Ev.bind po (Ev.now _)), Ev.step (fun k => spec_HitsOfBall.eq k w h cs t x y wy) (Ev.bind sB (Ev.yes rfl (Ev.now _)))⟩
theorem six_ev (m : MzT) (b : BaT) (hc : m.2.2.1.size ≤ 1099511627776) :
    (OkBa m b ∧ ∃ n : Nat, n ≤ 1000000 ∧ OutsM m b n ∧ Six m b (outM m b n) (mazeM m b n) (hitsM m b n) true) ∨ (OkBa m b ∧ Round m b ∧ Six m b 0 zeroMz 0 false) ∨ (¬ OkBa m b ∧ Six m b 0 zeroMz 0 false) := by
  by_cases H : OkBa m b
  · rcases fate H with ⟨n, h1, h2, h3, h4⟩ | ⟨h1, h2, h3⟩
    · exact .inl ⟨H, n, h1, h2, six_of H _ _ true h3 h4 rfl rfl rfl rfl⟩
    · exact .inr (.inl ⟨H, h1, six_of H _ _ false h2 h3 rfl rfl rfl rfl⟩)
  · exact .inr (.inr ⟨H, six_none hc H⟩)
theorem hitCell_ev (m : MzT) (b : BaT) (hc : m.2.2.1.size ≤ 1099511627776) :
    (OkBa m b ∧ OkBa (mazeM m b 1) (endM m b 1).2 ∧ Ev (fun k => impl_HitCell k (m, b)) (mazeM m b 1, (endM m b 1).2, true) ∧ Ev (fun k => spec_HitCell k (m, b)) (mazeM m b 1, (endM m b 1).2, true)) ∨
    (¬ (OkBa m b ∧ BallIn m.1 m.2.1 (endM m b 1).2) ∧ Ev (fun k => impl_HitCell k (m, b)) (zeroMz, zeroBa, false) ∧ Ev (fun k => spec_HitCell k (m, b)) (zeroMz, zeroBa, false)) := by
  obtain ⟨w, h, cs, t⟩ := m
  obtain ⟨x, y, wy⟩ := b
  by_cases H : OkBa (w, h, cs, t) (x, y, wy)
  · have HS : StOk w h (cs, x, y, wy) := H
    have iB := (isBall_ev _ _ hc).isT H
    have sB := (miBall_ev _ _ hc).isT H
    have h1 := hit_ev t HS
    have h2 := miHit_ev t HS
    obtain ⟨m1, m2⟩ := hit_ok HS t
    have nB := miBall_ev (w, h, (hitS w t (cs, x, y, wy)).1, t) (hitS w t (cs, x, y, wy)).2 (size_st m1)
    by_cases hb : BallIn w h (hitS w t (cs, x, y, wy)).2
    · exact .inl ⟨H, ⟨m1, hb, m2⟩, Ev.step (fun k => impl_HitCell.eq k w h cs t x y wy) (Ev.bind iB (Ev.no rfl (Ev.bind h1 (Ev.no (by simp only [decide_eq_true hb]; rfl) (Ev.now _))))), Ev.step (fun k => spec_HitCell.eq k w h cs t x y wy) (Ev.bind sB (Ev.no rfl (Ev.bind h2 (Ev.bind (nB.isT ⟨m1, hb, m2⟩) (Ev.no rfl (Ev.now _))))))⟩
    · exact .inr ⟨fun h => hb h.2, Ev.step (fun k => impl_HitCell.eq k w h cs t x y wy) (Ev.bind iB (Ev.no rfl (Ev.bind h1 (Ev.yes (by simp only [decide_eq_false hb]; rfl) (Ev.now _))))), Ev.step (fun k => spec_HitCell.eq k w h cs t x y wy) (Ev.bind sB (Ev.no rfl (Ev.bind h2 (Ev.bind (nB.isF fun h => hb h.2.1) (Ev.yes rfl (Ev.now _))))))⟩
  · have iB := (isBall_ev _ _ hc).isF H
    have sB := (miBall_ev _ _ hc).isF H
    exact .inr ⟨fun h => H h.1, Ev.step (fun k => impl_HitCell.eq k w h cs t x y wy) (Ev.bind iB (Ev.yes rfl (Ev.now _))), Ev.step (fun k => spec_HitCell.eq k w h cs t x y wy) (Ev.bind sB (Ev.yes rfl (Ev.now _)))⟩
/-- Behind a cell all goes on. -/
theorem outs_next {m : MzT} {b : BaT} (hb : BallIn m.1 m.2.1 b) (n : Nat) : OutsM m b (n + 1) ↔ OutsM (mazeM m b 1) (endM m b 1).2 n := by
  constructor
  · rintro ⟨h1, h2⟩
    exact ⟨fun i hi => h1 (i + 1) (by omega), h2⟩
  · rintro ⟨h1, h2⟩
    refine ⟨fun i hi => ?_, h2⟩
    cases i with
    | zero => exact hb
    | succ i => exact h1 i (by omega)
theorem hits_next (m : MzT) (b : BaT) (n : Nat) : hitsM m b (n + 1) = ((mirB m.1 (m.2.2.1, b) : Nat) : Int) + hitsM (mazeM m b 1) (endM m b 1).2 n := by
  show ((mirB m.1 (m.2.2.1, b) + hitsS m.1 m.2.2.2 n (hitS m.1 m.2.2.2 (m.2.2.1, b)) : Nat) : Int) = _
  rw [Int.natCast_add]
  rfl
/-! ### Ends -/
theorem isEnd_ev (m : MzT) (k : Int) (hc : m.2.2.1.size ≤ 1099511627776) : EvB (fun n => impl_isEnd n (m, k)) (OkMz m ∧ (0 ≤ k ∧ k < 2 * (m.1 + m.2.1))) := by
  obtain ⟨w, h, cs, t⟩ := m
  refine EvB.step (fun n => impl_isEnd.eq n w h cs t k) (EvB.and (isMaze_ev w h cs t hc) fun hM => ?_)
  obtain ⟨b, h1, h2⟩ := within_ev k 0 (2 * (w + h) - 1)
  have hw := hM.1
  have hh := hM.2.1
  simp only at hw hh
  have e : w64 (2 * (w + h) - 1) = 2 * (w + h) - 1 := w64_of (by omega) (by omega)
  refine ⟨b, Ev.bind (ends_ev hw hh cs t) ?_, by rw [h2]; simp only; omega⟩
  rw [e]
  exact Ev.bind h1 (Ev.now _)
theorem miEnd_ev (m : MzT) (k : Int) (hc : m.2.2.1.size ≤ 1099511627776) : EvB (fun n => spec_miEnd n (m, k)) (OkMz m ∧ (0 ≤ k ∧ k < 2 * (m.1 + m.2.1))) := by
  obtain ⟨w, h, cs, t⟩ := m
  refine EvB.step (fun n => spec_miEnd.eq n w h cs t k) (EvB.and (miGood_ev w h cs t hc) fun hM => ?_)
  obtain ⟨b, h1, h2⟩ := l1In_ev k 0 (2 * (w + h) - 1)
  have hw := hM.1
  have hh := hM.2.1
  simp only at hw hh
  have e : w64 (2 * (w + h) - 1) = 2 * (w + h) - 1 := w64_of (by omega) (by omega)
  refine ⟨b, Ev.bind (miEnds_ev hw hh cs t) ?_, by rw [h2]; simp only; omega⟩
  rw [e]
  exact Ev.bind h1 (Ev.now _)
theorem entryOf_ev (m : MzT) (k : Int) (hc : m.2.2.1.size ≤ 1099511627776) : (OkMz m ∧ (0 ≤ k ∧ k < 2 * (m.1 + m.2.1)) → Ev (fun n => impl_EntryOf n (m, k)) (entryB m.1 m.2.1 k, true) ∧ Ev (fun n => spec_EntryOf n (m, k)) (entryB m.1 m.2.1 k, true)) ∧
    (¬ (OkMz m ∧ (0 ≤ k ∧ k < 2 * (m.1 + m.2.1))) → Ev (fun n => impl_EntryOf n (m, k)) (zeroBa, false) ∧ Ev (fun n => spec_EntryOf n (m, k)) (zeroBa, false)) := by
  have iE := isEnd_ev m k hc
  have sE := miEnd_ev m k hc
  obtain ⟨w, h, cs, t⟩ := m
  constructor
  · rintro ⟨hM, hk⟩
    obtain ⟨e1, e2⟩ := entries_ev hM.1 hM.2.1 cs t hk
    exact ⟨Ev.step (fun n => impl_EntryOf.eq n w h cs t k) (Ev.bind (iE.isT ⟨hM, hk⟩) (Ev.no rfl (Ev.bind e1 (Ev.now _)))), Ev.step (fun n => spec_EntryOf.eq n w h cs t k) (Ev.bind (sE.isT ⟨hM, hk⟩) (Ev.no rfl (Ev.bind e2 (Ev.now _))))⟩
  · intro hn
    exact ⟨Ev.step (fun n => impl_EntryOf.eq n w h cs t k) (Ev.bind (iE.isF hn) (Ev.yes rfl (Ev.now _))), Ev.step (fun n => spec_EntryOf.eq n w h cs t k) (Ev.bind (sE.isF hn) (Ev.yes rfl (Ev.now _)))⟩
/-! ### Tables of exits -/
/-- A ball comes out at an end. -/
def OutTo (m : MzT) (b : BaT) (e : Int) : Prop := ∃ n, OutsM m b n ∧ e = outM m b n
theorem OutTo.one {m : MzT} {b : BaT} {e e' : Int} (h : OutTo m b e) (h' : OutTo m b e') : e = e' := by
  obtain ⟨n, h1, rfl⟩ := h
  obtain ⟨n', h2, rfl⟩ := h'
  rw [out_one h1 h2]
theorem entry_okBa {m : MzT} (hM : OkMz m) {k : Int} (hk : 0 ≤ k ∧ k < 2 * (m.1 + m.2.1)) : OkBa m (entryB m.1 m.2.1 k) := by
  obtain ⟨h1, h2, _⟩ := entry_ok hM.1 hM.2.1 hk
  exact ⟨hM, h1, h2⟩
theorem entry_round {m : MzT} (hM : OkMz m) {k : Int} (hk : 0 ≤ k ∧ k < 2 * (m.1 + m.2.1)) : ¬ Round m (entryB m.1 m.2.1 k) := by
  rintro ⟨h1, h2⟩
  obtain ⟨a, b, c, _⟩ := entry_ok hM.1 hM.2.1 hk
  obtain ⟨n, _, _, h3⟩ := edge_out (cs := m.2.2.1) ⟨hM, a, b⟩ c
  exact (out_stay.1 h3).2 (h2 n)
theorem entry_fate {m : MzT} (hM : OkMz m) {k : Int} (hk : 0 ≤ k ∧ k < 2 * (m.1 + m.2.1)) : ∃ n : Nat, n ≤ 1000000 ∧ OutsM m (entryB m.1 m.2.1 k) n ∧ Ev (fun j => impl_Maze_pass j (m, entryB m.1 m.2.1 k)) ((m.1, m.2.1, (endM m (entryB m.1 m.2.1 k) n).1, m.2.2.2, outM m (entryB m.1 m.2.1 k) n, hitsM m (entryB m.1 m.2.1 k) n, (n : Int)), true) ∧
    Ev (fun j => spec_miRun j (m, entryB m.1 m.2.1 k)) (mazeM m (entryB m.1 m.2.1 k) n, outM m (entryB m.1 m.2.1 k) n, hitsM m (entryB m.1 m.2.1 k) n, (n : Int), true) := by
  rcases fate (entry_okBa hM hk) with h1 | ⟨h1, _⟩
  · exact h1
  · exact absurd h1 (entry_round hM hk)
theorem outM_range {m : MzT} {b : BaT} (H : OkBa m b) {n : Nat} (ho : OutsM m b n) : entryB m.1 m.2.1 (outM m b n) = revB (endM m b n).2 ∧ 0 ≤ outM m b n ∧ outM m b n < 2 * (m.1 + m.2.1) := by
  obtain ⟨_, _, h2, h3, _⟩ := out_near (w := m.1) (h := m.2.1) (s := (m.2.2.1, b)) (t := m.2.2.2) H ho
  exact out_entry H.1.1 H.1.2.1 h3 h2 ho.2
def TabOf (m : MzT) (T : List Int) : Prop := (T.length : Int) = 2 * (m.1 + m.2.1) ∧ ∀ i : Nat, i < T.length → ∃ e, T[i]? = some e ∧ OutTo m (entryB m.1 m.2.1 (i : Int)) e ∧ (0 ≤ e ∧ e < 2 * (m.1 + m.2.1))
theorem table_l_ev {m : MzT} (hM : OkMz m) (N : Nat) (hN : (N : Int) = 2 * (m.1 + m.2.1)) : ∀ (r i : Nat) (out : List Int), i + r = N → out.length = i → (∀ j : Nat, j < i → ∃ e, out[j]? = some e ∧ OutTo m (entryB m.1 m.2.1 (j : Int)) e ∧ (0 ≤ e ∧ e < 2 * (m.1 + m.2.1))) →
    ∃ T, TabOf m T ∧ Ev (fun k => impl_ExitTable_l k (m, out, 2 * (m.1 + m.2.1), (i : Int))) T ∧ Ev (fun k => spec_ExitTable_l k (m, out, (i : Int))) T := by
  have hw := hM.1
  have hh := hM.2.1
  intro r
  induction r with
  | zero =>
    intro i out h1 h2 h3
    obtain rfl : i = N := by omega
    refine ⟨out, ⟨by omega, fun j hj => h3 j (by omega)⟩, ?_, ?_⟩
    · obtain ⟨w, h, cs, t⟩ := m
      exact Ev.step (fun k => impl_ExitTable_l.eq k w h cs t out _ _) (Ev.no (decide_eq_false (by omega)) (Ev.now _))
    · obtain ⟨w, h, cs, t⟩ := m
      exact Ev.step (fun k => spec_ExitTable_l.eq k w h cs t out _) (Ev.bind (miEnds_ev hw hh cs t) (Ev.no (decide_eq_false (by simp only at hN ⊢; omega)) (Ev.now _)))
  | succ r ih =>
    intro i out h1 h2 h3
    have hk : 0 ≤ (i : Int) ∧ (i : Int) < 2 * (m.1 + m.2.1) := by omega
    obtain ⟨n, _, n1, n2, n3⟩ := entry_fate hM hk
    have hr := outM_range (entry_okBa hM hk) n1
    obtain ⟨T, T1, T2, T3⟩ := ih (i + 1) (out ++ [outM m (entryB m.1 m.2.1 (i : Int)) n]) (by omega) (by rw [List.length_append, h2]; rfl) (fun j hj => by
      by_cases hji : j < i
      · obtain ⟨e, e1, e2⟩ := h3 j hji
        exact ⟨e, by rw [List.getElem?_append_left (by omega)]; exact e1, e2⟩
      · obtain rfl : j = i := by omega
        exact ⟨_, by rw [List.getElem?_append_right (by omega), h2, Nat.sub_self]; rfl, ⟨n, n1, rfl⟩, hr.2⟩)
    obtain ⟨e1, e2⟩ := entries_ev hw hh m.2.2.1 m.2.2.2 hk
    have hf : fits (out.length + 1) 8 = true := fits_of (by omega)
    have hs : w64 ((i : Int) + 1) = ((i + 1 : Nat) : Int) := w64_succ (by omega)
    refine ⟨T, T1, ?_, ?_⟩
    · obtain ⟨w, h, cs, t⟩ := m
      refine Ev.step (fun k => impl_ExitTable_l.eq k w h cs t out _ _) (Ev.yes (decide_eq_true (by simp only at hk ⊢; omega)) (Ev.bind e1 (Ev.bind n2 (Ev.yes hf ?_))))
      rw [hs]
      exact T2
    · obtain ⟨w, h, cs, t⟩ := m
      refine Ev.step (fun k => spec_ExitTable_l.eq k w h cs t out _) (Ev.bind (miEnds_ev hw hh cs t) (Ev.yes (decide_eq_true (by simp only at hk ⊢; omega)) (Ev.bind e2 (Ev.bind n3 (Ev.yes hf ?_)))))
      rw [hs]
      exact T3
theorem table_ev (m : MzT) (hc : m.2.2.1.size ≤ 1099511627776) : (OkMz m → ∃ T, TabOf m T ∧ Ev (fun k => impl_ExitTable k m) (T, true) ∧ Ev (fun k => spec_ExitTable k m) (T, true)) ∧ (¬ OkMz m → Ev (fun k => impl_ExitTable k m) ([], false) ∧ Ev (fun k => spec_ExitTable k m) ([], false)) := by
  have iM := isMaze_ev m.1 m.2.1 m.2.2.1 m.2.2.2 hc
  have sM := miGood_ev m.1 m.2.1 m.2.2.1 m.2.2.2 hc
  constructor
  · intro hM
    have hw := hM.1
    have hh := hM.2.1
    obtain ⟨T, T1, T2, T3⟩ := table_l_ev hM (2 * (m.1 + m.2.1)).toNat (by omega) (2 * (m.1 + m.2.1)).toNat 0 [] (by omega) rfl (fun j hj => by omega)
    refine ⟨T, T1, ?_, ?_⟩
    · obtain ⟨w, h, cs, t⟩ := m
      exact Ev.step (fun k => impl_ExitTable.eq k w h cs t) (Ev.bind (iM.isT hM) (Ev.no rfl (Ev.bind (ends_ev hw hh cs t) (Ev.bind T2 (Ev.now _)))))
    · obtain ⟨w, h, cs, t⟩ := m
      exact Ev.step (fun k => spec_ExitTable.eq k w h cs t) (Ev.bind (sM.isT hM) (Ev.no rfl (Ev.bind T3 (Ev.now _))))
  · intro hM
    obtain ⟨w, h, cs, t⟩ := m
    exact ⟨Ev.step (fun k => impl_ExitTable.eq k w h cs t) (Ev.bind (iM.isF hM) (Ev.yes rfl (Ev.now _))), Ev.step (fun k => spec_ExitTable.eq k w h cs t) (Ev.bind (sM.isF hM) (Ev.yes rfl (Ev.now _)))⟩
/-- Tables of mirrors that stay lead back, and nowhere to the same end. -/
theorem table_back {m : MzT} (hM : OkMz m) (ht : m.2.2.2 = false) {T : List Int} (hT : TabOf m T) {i : Nat} {e : Int} (he : T[i]? = some e) : T[e.toNat]? = some (i : Int) ∧ e ≠ (i : Int) := by
  have hi : i < T.length := (List.getElem?_eq_some_iff.1 he).1
  obtain ⟨e', he', ⟨n, hn, rfl⟩, hr⟩ := hT.2 i hi
  obtain rfl : e = outM m (entryB m.1 m.2.1 (i : Int)) n := by rw [he] at he'; exact Option.some.inj he'
  have hk : 0 ≤ (i : Int) ∧ (i : Int) < 2 * (m.1 + m.2.1) := by have := hT.1; omega
  obtain ⟨b1, b2, b3, b4⟩ := entry_ok hM.1 hM.2.1 hk
  have hx := (outM_range (entry_okBa hM hk) hn).1
  obtain ⟨w, h, cs, t⟩ := m
  simp only at ht
  subst ht
  simp only at b1 b2 b3 b4 hx hr hk ⊢
  have hn' : OutAt w h false (cs, entryB w h (i : Int)) n := hn
  obtain ⟨n1, _⟩ := out_near (t := false) (s := (cs, entryB w h (i : Int))) ⟨hM, b1, b2⟩ hn'
  have hE : endM (w, h, cs, false) (entryB w h (i : Int)) n = (cs, rnB w cs n (entryB w h (i : Int))) := run_stay w cs n _
  obtain ⟨r1, r2, r3, r4, r5⟩ := out_rev (w := w) (h := h) (cs := cs) (b := entryB w h (i : Int)) ⟨hM, b1, b2⟩ b3 n1 hn'
  rw [hE] at hx
  simp only at hx
  obtain ⟨j, hj⟩ : ∃ j : Nat, outM (w, h, cs, false) (entryB w h (i : Int)) n = (j : Int) := Int.eq_ofNat_of_zero_le hr.1
  rw [hj] at hx hr ⊢
  have hjl : j < T.length := by have := hT.1; simp only at this; omega
  obtain ⟨e2, he2, ho2, _⟩ := hT.2 j hjl
  have ho3 : OutTo (w, h, cs, false) (entryB w h (j : Int)) (i : Int) := by
    refine ⟨n, ?_, ?_⟩
    · show OutAt w h false (cs, entryB w h (j : Int)) n
      rw [hx]
      exact r4
    · show (i : Int) = outE w h (runS w false n (cs, entryB w h (j : Int))).2
      rw [hx, run_stay, r5, b4]
  refine ⟨by rw [Int.toNat_natCast, he2, ho2.one ho3], fun e => ?_⟩
  rw [e] at hx
  exact out_ne (h := h) (n := n) b2 hx.symm
end Go.Proofs.YtcmebphcoamohaaDoorS
