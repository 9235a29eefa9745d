/- Mirrors that stay: balls backwards, no ball is led to one place from two, and each one comes out or back. -/
import Derived.Test.YtcmebphcoamohaaDoorPuMiA
namespace Go.Proofs.YtcmebphcoamohaaDoorS
open Go
set_option linter.unusedVariables false
set_option linter.unusedSimpArgs false
def backW (wy : Int) : Int := if wy = 0 then 2 else if wy = 1 then 3 else if wy = 2 then 0 else 1
/-- The ball that goes the other way over the edge by which this one comes. -/
def revB (b : BaT) : BaT := (b.1 - dxW b.2.2, b.2.1 - dyW b.2.2, backW b.2.2)
theorem back_facts {wy : Int} (h : 0 ≤ wy ∧ wy ≤ 3) : backW (backW wy) = wy ∧ dxW (backW wy) = -dxW wy ∧ dyW (backW wy) = -dyW wy ∧ (0 ≤ backW wy ∧ backW wy ≤ 3) ∧ backW wy ≠ wy ∧ backW wy = (wy + 2) % 4 := by
  have : wy = 0 ∨ wy = 1 ∨ wy = 2 ∨ wy = 3 := by omega
  rcases this with rfl | rfl | rfl | rfl <;> decide
theorem turn_back (z : Int) {wy : Int} (h : 0 ≤ wy ∧ wy ≤ 3) : turnB z (backW (turnB z wy)) = backW wy := by
  have : wy = 0 ∨ wy = 1 ∨ wy = 2 ∨ wy = 3 := by omega
  unfold turnB
  by_cases h1 : z = 90
  · simp only [if_pos h1]
    rcases this with rfl | rfl | rfl | rfl <;> decide
  · simp only [if_neg h1]
    by_cases h2 : z = 83
    · simp only [if_pos h2]
      rcases this with rfl | rfl | rfl | rfl <;> decide
    · simp only [if_neg h2]
theorem turn_ne_back (z : Int) {wy : Int} (h : 0 ≤ wy ∧ wy ≤ 3) : backW (turnB z wy) ≠ wy := by
  have : wy = 0 ∨ wy = 1 ∨ wy = 2 ∨ wy = 3 := by omega
  unfold turnB
  by_cases h1 : z = 90
  · simp only [if_pos h1]
    rcases this with rfl | rfl | rfl | rfl <;> decide
  · simp only [if_neg h1]
    by_cases h2 : z = 83
    · simp only [if_pos h2]
      rcases this with rfl | rfl | rfl | rfl <;> decide
    · simp only [if_neg h2]
      exact (back_facts h).2.2.2.2.1
theorem rev_way {b : BaT} (h : WayOk b) : WayOk (revB b) := (back_facts h).2.2.2.1
theorem rev_rev {b : BaT} (h : WayOk b) : revB (revB b) = b := by
  obtain ⟨x, y, wy⟩ := b
  obtain ⟨h1, h2, h3, _⟩ := back_facts h
  simp only [revB, h1, h2, h3]
  refine Prod.ext ?_ (Prod.ext ?_ rfl)
  · show x - dxW wy - -dxW wy = x
    omega
  · show y - dyW wy - -dyW wy = y
    omega
theorem rev_ne {b : BaT} (h : WayOk b) : revB b ≠ b := fun e => (back_facts h).2.2.2.2.1 (congrArg (fun x : BaT => x.2.2) e)
/-- A ball behind a cell. -/
def nxB (w : Int) (cs : ByteArray) (b : BaT) : BaT := goB b (turnB (signB w cs b) b.2.2)
theorem hit_stay (w : Int) (cs : ByteArray) (b : BaT) : hitS w false (cs, b) = (cs, nxB w cs b) := rfl
def rnB (w : Int) (cs : ByteArray) : Nat → BaT → BaT
  | 0, b => b
  | n + 1, b => rnB w cs n (nxB w cs b)
theorem run_stay (w : Int) (cs : ByteArray) : ∀ (n : Nat) (b : BaT), runS w false n (cs, b) = (cs, rnB w cs n b)
  | 0, b => rfl
  | n + 1, b => run_stay w cs n (nxB w cs b)
theorem rn_succ (w : Int) (cs : ByteArray) : ∀ (n : Nat) (b : BaT), rnB w cs (n + 1) b = nxB w cs (rnB w cs n b)
  | 0, b => rfl
  | n + 1, b => rn_succ w cs n (nxB w cs b)
theorem rn_add (w : Int) (cs : ByteArray) : ∀ (n m : Nat) (b : BaT), rnB w cs (n + m) b = rnB w cs m (rnB w cs n b)
  | 0, m, b => by rw [Nat.zero_add]; rfl
  | n + 1, m, b => by rw [show n + 1 + m = n + m + 1 by omega]; exact rn_add w cs n m (nxB w cs b)
theorem nx_way (w : Int) (cs : ByteArray) {b : BaT} (h : WayOk b) : WayOk (nxB w cs b) := turnB_ok h
theorem rn_way (w : Int) (cs : ByteArray) : ∀ (n : Nat) {b : BaT}, WayOk b → WayOk (rnB w cs n b)
  | 0, b, h => h
  | n + 1, b, h => rn_way w cs n (nx_way w cs h)
/-- Where the reversed ball behind a cell is: in that cell. -/
theorem rev_nx_at (w : Int) (cs : ByteArray) (b : BaT) : (revB (nxB w cs b)).1 = b.1 ∧ (revB (nxB w cs b)).2.1 = b.2.1 := by
  unfold revB nxB goB
  simp only
  omega
theorem nx_rev (w : Int) (cs : ByteArray) {b : BaT} (h : WayOk b) : nxB w cs (revB (nxB w cs b)) = revB b := by
  obtain ⟨h1, h2⟩ := rev_nx_at w cs b
  have hs : signB w cs (revB (nxB w cs b)) = signB w cs b := by
    unfold signB cellI
    rw [h1, h2]
  have h3 : turnB (signB w cs b) (revB (nxB w cs b)).2.2 = backW b.2.2 := turn_back (signB w cs b) h
  obtain ⟨_, d1, d2, _⟩ := back_facts h
  show goB (revB (nxB w cs b)) (turnB (signB w cs (revB (nxB w cs b))) (revB (nxB w cs b)).2.2) = revB b
  rw [hs, h3]
  unfold goB
  rw [h1, h2, d1, d2]
  rfl
theorem nx_inj (w : Int) (cs : ByteArray) {a b : BaT} (ha : WayOk a) (hb : WayOk b) (e : nxB w cs a = nxB w cs b) : a = b := by
  have h1 := nx_rev w cs ha
  have h2 := nx_rev w cs hb
  rw [e, h2] at h1
  rw [← rev_rev ha, ← h1, rev_rev hb]
theorem rn_inj (w : Int) (cs : ByteArray) : ∀ (n : Nat) {a b : BaT}, WayOk a → WayOk b → rnB w cs n a = rnB w cs n b → a = b
  | 0, a, b, ha, hb, e => e
  | n + 1, a, b, ha, hb, e => nx_inj w cs ha hb (rn_inj w cs n (nx_way w cs ha) (nx_way w cs hb) e)
theorem rn_rev (w : Int) (cs : ByteArray) : ∀ (n : Nat) {b : BaT}, WayOk b → rnB w cs n (revB (rnB w cs n b)) = revB b
  | 0, b, h => rfl
  | n + 1, b, h => by
    rw [rn_succ w cs n b]
    show rnB w cs n (nxB w cs (revB (nxB w cs (rnB w cs n b)))) = revB b
    rw [nx_rev w cs (rn_way w cs n h)]
    exact rn_rev w cs n h
theorem rn_rev' (w : Int) (cs : ByteArray) {n k : Nat} (hk : k ≤ n) {b : BaT} (h : WayOk b) : rnB w cs k (revB (rnB w cs n b)) = revB (rnB w cs (n - k) b) := by
  have e : rnB w cs n b = rnB w cs k (rnB w cs (n - k) b) := by rw [← rn_add, Nat.sub_add_cancel hk]
  rw [e]
  exact rn_rev w cs k (rn_way w cs _ h)
/-! ### Each ball comes out or back -/
def codeB (w : Int) (b : BaT) : Nat := ((cellI w b) * 4 + b.2.2).toNat
theorem cell_inj {w h : Int} (hw : 1 ≤ w ∧ w ≤ 9) (hh : 1 ≤ h ∧ h ≤ 9) {a b : BaT} (ha : BallIn w h a) (hb : BallIn w h b) (e : cellI w a = cellI w b) : a.1 = b.1 ∧ a.2.1 = b.2.1 := by
  obtain ⟨ax, ay⟩ := ha
  obtain ⟨bx, by_⟩ := hb
  unfold cellI at e
  have m1 : (a.2.1 * w + a.1) / w = a.2.1 := by rw [Int.add_comm, Int.add_mul_ediv_right _ _ (by omega), Int.ediv_eq_zero_of_lt (by omega) (by omega)]; omega
  have m2 : (b.2.1 * w + b.1) / w = b.2.1 := by rw [Int.add_comm, Int.add_mul_ediv_right _ _ (by omega), Int.ediv_eq_zero_of_lt (by omega) (by omega)]; omega
  have e2 : a.2.1 = b.2.1 := by rw [← m1, ← m2, e]
  rw [e2] at e
  exact ⟨by omega, e2⟩
theorem code_inj {w h : Int} (hw : 1 ≤ w ∧ w ≤ 9) (hh : 1 ≤ h ∧ h ≤ 9) {a b : BaT} (ha : BallIn w h a) (hb : BallIn w h b) (wa : WayOk a) (wb : WayOk b) (e : codeB w a = codeB w b) : a = b := by
  have ra := at_range ha.1 ha.2 hw hh
  have rb := at_range hb.1 hb.2 hw hh
  unfold codeB cellI at e
  unfold WayOk at wa wb
  have h1 : cellI w a = cellI w b := by unfold cellI; omega
  have h2 : a.2.2 = b.2.2 := by unfold cellI at h1; omega
  obtain ⟨h3, h4⟩ := cell_inj hw hh ha hb h1
  exact Prod.ext h3 (Prod.ext h4 h2)
theorem code_lt {w h : Int} (hw : 1 ≤ w ∧ w ≤ 9) (hh : 1 ≤ h ∧ h ≤ 9) {a : BaT} (ha : BallIn w h a) (wa : WayOk a) : codeB w a < (4 * (w * h)).toNat := by
  have ra := at_range ha.1 ha.2 hw hh
  unfold WayOk at wa
  unfold codeB cellI
  omega
theorem twice_of {n m : Nat} (f : Nat → Nat) (hf : ∀ i, i < n → f i < m) (hn : m < n) : ∃ i j, i < j ∧ j < n ∧ f i = f j := by
  refine Classical.byContradiction fun hne => ?_
  have hp : ((List.range n).map f).Nodup := by
    unfold List.Nodup
    rw [List.pairwise_map]
    refine List.Pairwise.imp_of_mem (R := (· < ·)) (fun {a b} ha hb hab e => hne ⟨a, b, hab, List.mem_range.1 hb, e⟩) List.pairwise_lt_range
  have := pigeon m _ hp (fun x hx => by
    obtain ⟨i, hi, rfl⟩ := List.mem_map.1 hx
    exact hf i (List.mem_range.1 hi))
  rw [List.length_map, List.length_range] at this
  omega
/-- A ball among mirrors that stay comes out within four times as many cells as there are, or it comes back to its beginning. -/
theorem staying {w h : Int} {cs : ByteArray} {b : BaT} (H : StOk w h (cs, b)) : (∃ n : Nat, 1 ≤ n ∧ (n : Int) ≤ 4 * (w * h) ∧ OutAt w h false (cs, b) n) ∨
    ∃ p : Nat, 1 ≤ p ∧ (p : Int) ≤ 4 * (w * h) ∧ rnB w cs p b = b ∧ ∀ i, BallIn w h (rnB w cs i b) := by
  obtain ⟨hM, hB, hW⟩ := H
  obtain ⟨hw, hh, hs, hc⟩ := hM
  have hm := mul_range hw.1 hw.2 hh.1 hh.2
  obtain ⟨N, hN⟩ : ∃ N : Nat, 4 * (w * h) = (N : Int) := ⟨(4 * (w * h)).toNat, by omega⟩
  rcases out_least w h false (cs, b) N with h1 | ⟨n, h1, h2⟩
  · right
    have hin : ∀ i, i ≤ N → BallIn w h (rnB w cs i b) := fun i hi => by have := h1 i hi; rw [run_stay] at this; exact this
    obtain ⟨i, j, hij, hj, e⟩ := twice_of (n := N + 1) (m := N) (fun i => codeB w (rnB w cs i b)) (fun i hi => by
      have := code_lt hw hh (hin i (by omega)) (rn_way w cs i hW)
      rw [hN] at this
      exact this) (by omega)
    have e2 := code_inj hw hh (hin i (by omega)) (hin j (by omega)) (rn_way w cs i hW) (rn_way w cs j hW) e
    have e3 : rnB w cs (j - i) b = b := by
      have : rnB w cs j b = rnB w cs i (rnB w cs (j - i) b) := by rw [← rn_add, Nat.sub_add_cancel (by omega)]
      rw [this] at e2
      exact (rn_inj w cs i hW (rn_way w cs _ hW) e2).symm
    refine ⟨j - i, by omega, by omega, e3, ?_⟩
    -- all later places are among the first ones
    have per : ∀ k, rnB w cs (k + (j - i)) b = rnB w cs k b := fun k => by rw [Nat.add_comm, rn_add, e3]
    intro k
    induction k using Nat.strongRecOn with
    | _ k ih =>
      by_cases hk : k < j - i
      · exact hin k (by omega)
      · rw [show k = (k - (j - i)) + (j - i) by omega, per]
        exact ih _ (by omega)
  · left
    refine ⟨n, ?_, by omega, h2⟩
    rcases Nat.eq_zero_or_pos n with h0 | h0
    · subst h0
      exact absurd hB h2.2
    · exact h0
theorem out_stay {w h : Int} {cs : ByteArray} {b : BaT} {n : Nat} : OutAt w h false (cs, b) n ↔ (∀ i, i < n → BallIn w h (rnB w cs i b)) ∧ ¬ BallIn w h (rnB w cs n b) := by
  unfold OutAt
  simp only [run_stay]
theorem out_one {w h : Int} {t : Bool} {s : StM} {n m : Nat} (h1 : OutAt w h t s n) (h2 : OutAt w h t s m) : n = m := by
  rcases Nat.lt_trichotomy n m with h3 | h3 | h3
  · exact absurd (h2.1 n h3) h1.2
  · exact h3
  · exact absurd (h1.1 m h3) h2.2
/-- A ball that comes over an edge from outside comes out among mirrors that stay. -/
def Edge (w h : Int) (b : BaT) : Prop := ¬ BallIn w h (revB b)
theorem edge_out {w h : Int} {cs : ByteArray} {b : BaT} (H : StOk w h (cs, b)) (he : Edge w h b) : ∃ n : Nat, 1 ≤ n ∧ (n : Int) ≤ 4 * (w * h) ∧ OutAt w h false (cs, b) n := by
  rcases staying H with h1 | ⟨p, h1, h2, h3, h4⟩
  · exact h1
  · exfalso
    obtain ⟨q, rfl⟩ : ∃ q, p = q + 1 := ⟨p - 1, by omega⟩
    rw [rn_succ] at h3
    obtain ⟨a1, a2⟩ := rev_nx_at w cs (rnB w cs q b)
    have := h4 q
    refine he ?_
    rw [← h3]
    unfold BallIn at this ⊢
    rw [a1, a2]
    exact this
/-- The same way back: what comes in where a ball came out comes out where the ball came in. -/
theorem out_rev {w h : Int} {cs : ByteArray} {b : BaT} {n : Nat} (H : StOk w h (cs, b)) (he : Edge w h b) (hn : 1 ≤ n) (ho : OutAt w h false (cs, b) n) :
    BallIn w h (revB (rnB w cs n b)) ∧ WayOk (revB (rnB w cs n b)) ∧ Edge w h (revB (rnB w cs n b)) ∧ OutAt w h false (cs, revB (rnB w cs n b)) n ∧ rnB w cs n (revB (rnB w cs n b)) = revB b := by
  obtain ⟨h1, h2⟩ := out_stay.1 ho
  obtain ⟨_, hB, hW⟩ := H
  have hin : ∀ m, m < n → BallIn w h (revB (rnB w cs (m + 1) b)) := fun m hm => by
    rw [rn_succ]
    obtain ⟨a1, a2⟩ := rev_nx_at w cs (rnB w cs m b)
    have := h1 m hm
    unfold BallIn at this ⊢
    rw [a1, a2]
    exact this
  have hw := rn_way w cs n hW
  refine ⟨by have := hin (n - 1) (by omega); rwa [Nat.sub_add_cancel hn] at this, rev_way hw, by unfold Edge; rw [rev_rev hw]; exact h2, out_stay.2 ⟨fun i hi => ?_, ?_⟩, rn_rev w cs n hW⟩
  · rw [rn_rev' w cs (by omega) hW]
    have := hin (n - i - 1) (by omega)
    rwa [show n - i - 1 + 1 = n - i by omega] at this
  · rw [rn_rev w cs n hW]
    exact he
/-- No ball comes out where it came in. -/
theorem out_ne {w h : Int} {cs : ByteArray} {b : BaT} {n : Nat} (hW : WayOk b) (e : revB (rnB w cs n b) = b) : False := by
  have back : ∀ k, k ≤ n → rnB w cs k b = revB (rnB w cs (n - k) b) := fun k hk => by
    have := rn_rev' w cs hk hW
    rw [e] at this
    exact this
  rcases Nat.mod_two_eq_zero_or_one n with h2 | h2
  · have := back (n / 2) (by omega)
    rw [show n - n / 2 = n / 2 by omega] at this
    exact rev_ne (rn_way w cs _ hW) this.symm
  · have := back (n / 2) (by omega)
    rw [show n - n / 2 = n / 2 + 1 by omega, rn_succ] at this
    have hw := rn_way w cs (n / 2) hW
    have h3 : (revB (nxB w cs (rnB w cs (n / 2) b))).2.2 = (rnB w cs (n / 2) b).2.2 := by rw [← this]
    exact turn_ne_back (signB w cs (rnB w cs (n / 2) b)) hw h3
end Go.Proofs.YtcmebphcoamohaaDoorS
