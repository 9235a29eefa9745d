/- Several texts in one: PuMiA, PuMiB, PuMiC, PuMiD, PuMiE, PuMiF. -/
import Derived.Test.YtcmebphcoamohaaGreatDoorPuBase
import Derived.Test.YtcmebphcoamohaaGreatDoorPuCur
namespace Go.Proofs.YtcmebphcoamohaaGreatDoorS
open Go
set_option linter.unusedVariables false
set_option linter.unusedSimpArgs false
abbrev MzT := Int × Int × ByteArray × Bool
abbrev BaT := Int × Int × Int
def SignM (c : UInt8) : Prop := c = 46 ∨ c = 90 ∨ c = 83
def MazeOk (w h : Int) (cs : ByteArray) : Prop := (1 ≤ w ∧ w ≤ 9) ∧ (1 ≤ h ∧ h ≤ 9) ∧ (cs.size : Int) = w * h ∧ ∀ c ∈ cs.data.toList, SignM c
def BallIn (w h : Int) (b : BaT) : Prop := (0 ≤ b.1 ∧ b.1 ≤ w - 1) ∧ (0 ≤ b.2.1 ∧ b.2.1 ≤ h - 1)
instance (w h : Int) (b : BaT) : Decidable (BallIn w h b) := inferInstanceAs (Decidable (_ ∧ _))
def WayOk (b : BaT) : Prop := 0 ≤ b.2.2 ∧ b.2.2 ≤ 3
def turnB (z wy : Int) : Int := if z = 90 then (if wy = 0 then 1 else if wy = 1 then 0 else if wy = 2 then 3 else 2) else if z = 83 then 3 - wy else wy
def goB (b : BaT) (wy : Int) : BaT := (b.1 + dxW wy, b.2.1 + dyW wy, wy)
def cellI (w : Int) (b : BaT) : Int := b.2.1 * w + b.1
def signB (w : Int) (cs : ByteArray) (b : BaT) : Int := bt cs (cellI w b).toNat
def flipB (z : Int) : UInt8 := if z = 90 then 83 else 90
abbrev StM := ByteArray × BaT
def hitC (w : Int) (s : StM) : ByteArray := if signB w s.1 s.2 = 46 then s.1 else setByte s.1 (cellI w s.2).toNat (flipB (signB w s.1 s.2))
def hitS (w : Int) (t : Bool) (s : StM) : StM := (if t then hitC w s else s.1, goB s.2 (turnB (signB w s.1 s.2) s.2.2.2))
def runS (w : Int) (t : Bool) : Nat → StM → StM
  | 0, s => s
  | n + 1, s => runS w t n (hitS w t s)
def mirB (w : Int) (s : StM) : Nat := if signB w s.1 s.2 = 46 then 0 else 1
def hitsS (w : Int) (t : Bool) : Nat → StM → Nat
  | 0, s => 0
  | n + 1, s => mirB w s + hitsS w t n (hitS w t s)
def StOk (w h : Int) (s : StM) : Prop := MazeOk w h s.1 ∧ BallIn w h s.2 ∧ WayOk s.2
def OutAt (w h : Int) (t : Bool) (s : StM) (n : Nat) : Prop := (∀ i, i < n → BallIn w h (runS w t i s).2) ∧ ¬ BallIn w h (runS w t n s).2
theorem runS_succ (w : Int) (t : Bool) : ∀ (n : Nat) (s : StM), runS w t (n + 1) s = hitS w t (runS w t n s)
  | 0, s => rfl
  | n + 1, s => runS_succ w t n (hitS w t s)
theorem runS_add (w : Int) (t : Bool) : ∀ (n m : Nat) (s : StM), runS w t (n + m) s = runS w t m (runS w t n s)
  | 0, m, s => by rw [Nat.zero_add]; rfl
  | n + 1, m, s => by rw [show n + 1 + m = n + m + 1 by omega]; exact runS_add w t n m (hitS w t s)
theorem way_cases {b : BaT} (h : WayOk b) : b.2.2 = 0 ∨ b.2.2 = 1 ∨ b.2.2 = 2 ∨ b.2.2 = 3 := by unfold WayOk at h; omega
theorem turnB_ok {z wy : Int} (h : 0 ≤ wy ∧ wy ≤ 3) : 0 ≤ turnB z wy ∧ turnB z wy ≤ 3 := by
  unfold turnB
  split
  · split
    · omega
    · split
      · omega
      · split <;> omega
  · split <;> omega
section
variable {w h : Int} {s : StM} (H : StOk w h s)
include H
theorem cell_range : 0 ≤ cellI w s.2 ∧ (cellI w s.2).toNat < s.1.size ∧ (cellI w s.2).toNat < 81 := by
  obtain ⟨⟨hw, hh, hs, hc⟩, ⟨hx, hy⟩, _⟩ := H
  obtain ⟨_, _, a3, a4⟩ := at_range hx hy hw hh
  have := mul_range hw.1 hw.2 hh.1 hh.2
  unfold cellI
  omega
theorem sign_at : ∃ c : UInt8, s.1.data.toList[(cellI w s.2).toNat]? = some c ∧ signB w s.1 s.2 = (c.toNat : Int) ∧ SignM c := by
  obtain ⟨_, h2, _⟩ := cell_range H
  obtain ⟨c, hc⟩ := byte_at h2
  exact ⟨c, hc, bt_at hc, H.1.2.2.2 c (List.mem_of_getElem? hc)⟩
theorem sign_cases : signB w s.1 s.2 = 46 ∨ signB w s.1 s.2 = 90 ∨ signB w s.1 s.2 = 83 := by
  obtain ⟨c, _, h2, h3⟩ := sign_at H
  rw [h2]
  rcases h3 with rfl | rfl | rfl <;> decide
theorem hitC_ok : MazeOk w h (hitC w s) := by
  unfold hitC
  split
  · exact H.1
  · obtain ⟨hw, hh, hs, hc⟩ := H.1
    refine ⟨hw, hh, by rw [setByte_size]; exact hs, fun c hc' => ?_⟩
    have hc' : c ∈ s.1.data.toList.set (cellI w s.2).toNat (flipB (signB w s.1 s.2)) := hc'
    rcases List.mem_or_eq_of_mem_set hc' with h1 | h1
    · exact hc c h1
    · rw [h1]
      unfold flipB SignM
      split
      · exact .inr (.inr rfl)
      · exact .inr (.inl rfl)
theorem hit_ok (t : Bool) : MazeOk w h (hitS w t s).1 ∧ WayOk (hitS w t s).2 := by
  refine ⟨?_, turnB_ok H.2.2⟩
  cases t with
  | true => exact hitC_ok H
  | false => exact H.1
end
theorem run_ok {w h : Int} (t : Bool) : ∀ (n : Nat) (s : StM), StOk w h s → (∀ i, i < n → BallIn w h (runS w t i s).2) → MazeOk w h (runS w t n s).1 ∧ WayOk (runS w t n s).2
  | 0, s, H, hb => ⟨H.1, H.2.2⟩
  | n + 1, s, H, hb => by
    obtain ⟨h1, h2⟩ := run_ok t n s H (fun i hi => hb i (by omega))
    rw [runS_succ]
    exact hit_ok ⟨h1, hb n (by omega), h2⟩ t
theorem run_st {w h : Int} (t : Bool) (n : Nat) (s : StM) (H : StOk w h s) (hb : ∀ i, i ≤ n → BallIn w h (runS w t i s).2) : StOk w h (runS w t n s) := by
  obtain ⟨h1, h2⟩ := run_ok t n s H (fun i hi => hb i (by omega))
  exact ⟨h1, hb n (Nat.le_refl _), h2⟩
/-- The least step at which a ball is out, if there is one. -/
theorem out_least (w h : Int) (t : Bool) (s : StM) : ∀ n : Nat, (∀ i, i ≤ n → BallIn w h (runS w t i s).2) ∨ ∃ k, k ≤ n ∧ OutAt w h t s k
  | 0 => by
    by_cases hb : BallIn w h (runS w t 0 s).2
    · exact .inl fun i hi => by obtain rfl : i = 0 := by omega
                                exact hb
    · exact .inr ⟨0, Nat.le_refl _, fun i hi => by omega, hb⟩
  | n + 1 => by
    rcases out_least w h t s n with h1 | ⟨k, h1, h2⟩
    · by_cases hb : BallIn w h (runS w t (n + 1) s).2
      · refine .inl fun i hi => ?_
        by_cases hi' : i = n + 1
        · rw [hi']; exact hb
        · exact h1 i (by omega)
      · exact .inr ⟨n + 1, Nat.le_refl _, fun i hi => h1 i (by omega), hb⟩
    · exact .inr ⟨k, by omega, h2⟩
/-! ### Potentials -/
def pT : List (List Int) := [[4121, 1373, 347, 59, 5, -5, -59, -347, -1373, -4121], [1208, 512, 170, 38, 4, -4, -38, -170, -512, -1208], [263, 143, 65, 21, 3, -3, -21, -65, -143, -263], [38, 26, 16, 8, 2, -2, -8, -16, -26, -38], [5, 4, 3, 2, 1, -1, -2, -3, -4, -5], [38, 26, 16, 8, 2, -2, -8, -16, -26, -38], [263, 143, 65, 21, 3, -3, -21, -65, -143, -263], [1208, 512, 170, 38, 4, -4, -38, -170, -512, -1208], [4121, 1373, 347, 59, 5, -5, -59, -347, -1373, -4121]]
def qT : List (List Int) := [[4121, 1208, 263, 38, 5, 38, 263, 1208, 4121], [1373, 512, 143, 26, 4, 26, 143, 512, 1373], [347, 170, 65, 16, 3, 16, 65, 170, 347], [59, 38, 21, 8, 2, 8, 21, 38, 59], [5, 4, 3, 2, 1, 2, 3, 4, 5], [-5, -4, -3, -2, -1, -2, -3, -4, -5], [-59, -38, -21, -8, -2, -8, -21, -38, -59], [-347, -170, -65, -16, -3, -16, -65, -170, -347], [-1373, -512, -143, -26, -4, -26, -143, -512, -1373], [-4121, -1208, -263, -38, -5, -38, -263, -1208, -4121]]
def aT : List (List Int) := [[2747, 860, 203, 32, 0, -32, -203, -860, -2747], [860, 341, 104, 21, 0, -21, -104, -341, -860], [203, 104, 43, 12, 0, -12, -43, -104, -203], [32, 21, 12, 5, 0, -5, -12, -21, -32], [0, 0, 0, 0, 0, 0, 0, 0, 0], [-32, -21, -12, -5, 0, 5, 12, 21, 32], [-203, -104, -43, -12, 0, 12, 43, 104, 203], [-860, -341, -104, -21, 0, 21, 104, 341, 860], [-2747, -860, -203, -32, 0, 32, 203, 860, 2747]]
def tabM (l : List (List Int)) (i j : Nat) : Int := (l.getD i []).getD j 0
def potB (b : BaT) : Int := if b.2.2 = 0 then tabM qT (b.2.1 + 1).toNat b.1.toNat else if b.2.2 = 1 then -(tabM pT b.2.1.toNat b.1.toNat) else if b.2.2 = 2 then -(tabM qT b.2.1.toNat b.1.toNat) else tabM pT b.2.1.toNat (b.1 + 1).toNat
def valA (w i : Nat) (c : UInt8) : Int := if c = 83 then tabM aT (i / w) (i % w) else 0
def sumA (w : Nat) : Nat → List UInt8 → Int
  | _, [] => 0
  | i, c :: l => valA w i c + sumA w (i + 1) l
theorem pot_facts : ∀ y x : Fin 9, 1 ≤ tabM pT y x + tabM qT y x + tabM aT y x ∧ 1 ≤ tabM aT y x - tabM pT y (x + 1) - tabM qT (y + 1) x ∧ 1 ≤ tabM pT y x - tabM qT (y + 1) x - tabM aT y x ∧ 1 ≤ tabM qT y x - tabM pT y (x + 1) - tabM aT y x ∧
    1 ≤ tabM pT y x - tabM pT y (x + 1) ∧ 1 ≤ tabM qT y x - tabM qT (y + 1) x ∧ (-4121 ≤ tabM pT y x ∧ tabM pT y x ≤ 4121) ∧ (-4121 ≤ tabM qT y x ∧ tabM qT y x ≤ 4121) ∧ (-4121 ≤ tabM pT y (x + 1) ∧ tabM pT y (x + 1) ≤ 4121) ∧ (-4121 ≤ tabM qT (y + 1) x ∧ tabM qT (y + 1) x ≤ 4121) := by decide
theorem a_facts : ∀ y x : Nat, -2747 ≤ tabM aT y x ∧ tabM aT y x ≤ 2747 := by
  have h : ∀ r ∈ aT, ∀ v ∈ r, -2747 ≤ v ∧ v ≤ 2747 := by decide
  intro y x
  unfold tabM
  rw [List.getD_eq_getElem?_getD, List.getD_eq_getElem?_getD]
  cases h1 : aT[y]? with
  | none => simp
  | some r =>
    rw [Option.getD_some]
    cases h2 : r[x]? with
    | none => simp
    | some v => exact h r (List.mem_of_getElem? h1) v (List.mem_of_getElem? h2)
theorem sumA_range (w : Nat) : ∀ (l : List UInt8) (i : Nat), -2747 * (l.length : Int) ≤ sumA w i l ∧ sumA w i l ≤ 2747 * (l.length : Int)
  | [], i => by simp [sumA]
  | c :: l, i => by
    have h := sumA_range w l (i + 1)
    have h2 : -2747 ≤ valA w i c ∧ valA w i c ≤ 2747 := by
      unfold valA
      split
      · exact a_facts _ _
      · omega
    simp only [sumA, List.length_cons]
    omega
theorem sumA_set (w : Nat) (d : UInt8) : ∀ (l : List UInt8) (i j : Nat) (c : UInt8), l[j]? = some c → sumA w i (l.set j d) = sumA w i l - valA w (i + j) c + valA w (i + j) d
  | [], i, j, c, h => by simp at h
  | e :: l, i, 0, c, h => by
    obtain rfl : e = c := by simpa using h
    simp only [List.set_cons_zero, sumA, Nat.add_zero]
    omega
  | e :: l, i, j + 1, c, h => by
    have h1 : l[j]? = some c := by simpa using h
    have := sumA_set w d l (i + 1) j c h1
    simp only [List.set_cons_succ, sumA]
    rw [this, show i + 1 + j = i + (j + 1) by omega]
    omega
def potS (w : Int) (s : StM) : Int := sumA w.toNat 0 s.1.data.toList + potB s.2
theorem pot_step {w h : Int} {s : StM} (H : StOk w h s) : potS w s + 1 ≤ potS w (hitS w true s) := by
  obtain ⟨cs, x, y, wy⟩ := s
  obtain ⟨c, hc, hz, hS⟩ := sign_at H
  obtain ⟨⟨hw, hh, hs, _⟩, ⟨hx, hy⟩, hwy⟩ := H
  simp only [cellI] at hc hz hx hy
  obtain ⟨_, _, r3, _⟩ := at_range hx hy hw hh
  obtain ⟨X, rfl⟩ := Int.eq_ofNat_of_zero_le hx.1
  obtain ⟨Y, rfl⟩ := Int.eq_ofNat_of_zero_le hy.1
  obtain ⟨W, rfl⟩ := Int.eq_ofNat_of_zero_le (show 0 ≤ w by omega)
  have hi : ((Y : Int) * (W : Int) + (X : Int)).toNat = Y * W + X := by
    rw [show (Y : Int) * (W : Int) + (X : Int) = ((Y * W + X : Nat) : Int) by simp]
    rfl
  have hdiv : (Y * W + X) / W = Y := by rw [Nat.mul_comm, Nat.mul_add_div (by omega), Nat.div_eq_of_lt (by omega)]; omega
  have hmod : (Y * W + X) % W = X := by rw [Nat.mul_comm, Nat.mul_add_mod, Nat.mod_eq_of_lt (by omega)]
  rw [hi] at hc
  have F := pot_facts ⟨Y, by omega⟩ ⟨X, by omega⟩
  simp only at F
  have e1 : ((Y : Int) + 1).toNat = Y + 1 := by omega
  have e2 : ((X : Int) + 1).toNat = X + 1 := by omega
  have e3 : ((X : Int) + 0).toNat = X := by omega
  have e4 : ((Y : Int) + -1 + 1).toNat = Y := by omega
  have e5 : ((X : Int) + -1 + 1).toNat = X := by omega
  have e6 : ((Y : Int) + 0).toNat = Y := by omega
  have e7 : ((Y : Int)).toNat = Y := by omega
  have e8 : ((X : Int)).toNat = X := by omega
  have e9 : ((W : Int)).toNat = W := by omega
  have set : ∀ d : UInt8, sumA W 0 (setByte cs (Y * W + X) d).data.toList = sumA W 0 cs.data.toList - valA W (Y * W + X) c + valA W (Y * W + X) d := fun d => by
    have := sumA_set W d cs.data.toList 0 (Y * W + X) c hc
    rw [Nat.zero_add] at this
    exact this
  unfold potS hitS
  simp only [if_true, hitC, signB, cellI]
  unfold signB cellI at hz
  simp only at hz
  rw [hi] at hz
  simp only [hi, hz, e9]
  rcases hS with rfl | rfl | rfl
  · simp only [show ((UInt8.toNat 46 : Nat) : Int) = 46 from rfl]
    simp only [if_true]
    rcases way_cases (b := ((X : Int), (Y : Int), wy)) hwy with h1 | h1 | h1 | h1 <;> (simp only at h1; subst h1; simp [potB, goB, turnB, dxW, dyW, e1, e2, e3, e4, e5, e6, e7, e8]; omega)
  · simp only [show ((UInt8.toNat 90 : Nat) : Int) = 90 from rfl]
    rw [if_neg (by decide), show flipB 90 = 83 from rfl, set]
    have v1 : valA W (Y * W + X) 90 = 0 := rfl
    have v2 : valA W (Y * W + X) 83 = tabM aT Y X := by unfold valA; rw [if_pos rfl, hdiv, hmod]
    rw [v1, v2]
    rcases way_cases (b := ((X : Int), (Y : Int), wy)) hwy with h1 | h1 | h1 | h1 <;> (simp only at h1; subst h1; simp [potB, goB, turnB, dxW, dyW, e1, e2, e3, e4, e5, e6, e7, e8]; omega)
  · simp only [show ((UInt8.toNat 83 : Nat) : Int) = 83 from rfl]
    rw [if_neg (by decide), show flipB 83 = 90 from rfl, set]
    have v1 : valA W (Y * W + X) 90 = 0 := rfl
    have v2 : valA W (Y * W + X) 83 = tabM aT Y X := by unfold valA; rw [if_pos rfl, hdiv, hmod]
    rw [v1, v2]
    rcases way_cases (b := ((X : Int), (Y : Int), wy)) hwy with h1 | h1 | h1 | h1 <;> (simp only at h1; subst h1; simp [potB, goB, turnB, dxW, dyW, e1, e2, e3, e4, e5, e6, e7, e8]; omega)
theorem pot_range {w h : Int} {s : StM} (H : StOk w h s) : -226628 ≤ potS w s ∧ potS w s ≤ 226628 := by
  obtain ⟨cs, x, y, wy⟩ := s
  obtain ⟨⟨hw, hh, hs, _⟩, ⟨hx, hy⟩, hwy⟩ := H
  have hm := mul_range hw.1 hw.2 hh.1 hh.2
  simp only at hx hy
  obtain ⟨X, rfl⟩ := Int.eq_ofNat_of_zero_le hx.1
  obtain ⟨Y, rfl⟩ := Int.eq_ofNat_of_zero_le hy.1
  have F := pot_facts ⟨Y, by omega⟩ ⟨X, by omega⟩
  simp only at F
  have hl := size_list cs
  have h1 := sumA_range w.toNat cs.data.toList 0
  simp only at hs
  have e1 : ((Y : Int) + 1).toNat = Y + 1 := by omega
  have e2 : ((X : Int) + 1).toNat = X + 1 := by omega
  have e7 : ((Y : Int)).toNat = Y := by omega
  have e8 : ((X : Int)).toNat = X := by omega
  unfold potS potB
  simp only [e1, e2, e7, e8]
  split
  · omega
  · split
    · omega
    · split <;> omega
/-- A ball among mirrors that turn comes out. -/
theorem turning_out {w h : Int} {s : StM} (H : StOk w h s) : ∃ n, n ≤ 453257 ∧ OutAt w h true s n := by
  rcases out_least w h true s 453257 with h1 | h1
  · exfalso
    have up : ∀ n, n ≤ 453257 → potS w s + n ≤ potS w (runS w true n s) := by
      intro n
      induction n with
      | zero => intro _; show potS w s + ((0 : Nat) : Int) ≤ potS w s; omega
      | succ n ih =>
        intro hn
        have a := ih (by omega)
        have b := pot_step (run_st true n s H fun i hi => h1 i (by omega))
        rw [runS_succ]
        omega
    have a := up 453257 (Nat.le_refl _)
    have b := pot_range (run_st true 453257 s H h1)
    have c := pot_range H
    omega
  · exact h1
def backW (wy : Int) : Int := if wy = 0 then 2 else if wy = 1 then 3 else if wy = 2 then 0 else 1
/-- The ball that goes the other way over the edge by which this one comes. -/
def revB (b : BaT) : BaT := (b.1 - dxW b.2.2, b.2.1 - dyW b.2.2, backW b.2.2)
theorem back_facts {wy : Int} (h : 0 ≤ wy ∧ wy ≤ 3) : backW (backW wy) = wy ∧ dxW (backW wy) = -dxW wy ∧ dyW (backW wy) = -dyW wy ∧ (0 ≤ backW wy ∧ backW wy ≤ 3) ∧ backW wy ≠ wy ∧ backW wy = (wy + 2) % 4 := by
  have : wy = 0 ∨ wy = 1 ∨ wy = 2 ∨ wy = 3 := by omega
  rcases this with rfl | rfl | rfl | rfl <;> decide
theorem turn_back (z : Int) {wy : Int} (h : 0 ≤ wy ∧ wy ≤ 3) : turnB z (backW (turnB z wy)) = backW wy := by
  have : wy = 0 ∨ wy = 1 ∨ wy = 2 ∨ wy = 3 := by omega
  unfold turnB
  by_cases h1 : z = 90
  · simp only [if_pos h1]
    rcases this with rfl | rfl | rfl | rfl <;> decide
  · simp only [if_neg h1]
    by_cases h2 : z = 83
    · simp only [if_pos h2]
      rcases this with rfl | rfl | rfl | rfl <;> decide
    · simp only [if_neg h2]
theorem turn_ne_back (z : Int) {wy : Int} (h : 0 ≤ wy ∧ wy ≤ 3) : backW (turnB z wy) ≠ wy := by
  have : wy = 0 ∨ wy = 1 ∨ wy = 2 ∨ wy = 3 := by omega
  unfold turnB
  by_cases h1 : z = 90
  · simp only [if_pos h1]
    rcases this with rfl | rfl | rfl | rfl <;> decide
  · simp only [if_neg h1]
    by_cases h2 : z = 83
    · simp only [if_pos h2]
      rcases this with rfl | rfl | rfl | rfl <;> decide
    · simp only [if_neg h2]
      exact (back_facts h).2.2.2.2.1
theorem rev_way {b : BaT} (h : WayOk b) : WayOk (revB b) := (back_facts h).2.2.2.1
theorem rev_rev {b : BaT} (h : WayOk b) : revB (revB b) = b := by
  obtain ⟨x, y, wy⟩ := b
  obtain ⟨h1, h2, h3, _⟩ := back_facts h
  simp only [revB, h1, h2, h3]
  refine Prod.ext ?_ (Prod.ext ?_ rfl)
  · show x - dxW wy - -dxW wy = x
    omega
  · show y - dyW wy - -dyW wy = y
    omega
theorem rev_ne {b : BaT} (h : WayOk b) : revB b ≠ b := fun e => (back_facts h).2.2.2.2.1 (congrArg (fun x : BaT => x.2.2) e)
/-- A ball behind a cell. -/
def nxB (w : Int) (cs : ByteArray) (b : BaT) : BaT := goB b (turnB (signB w cs b) b.2.2)
theorem hit_stay (w : Int) (cs : ByteArray) (b : BaT) : hitS w false (cs, b) = (cs, nxB w cs b) := rfl
def rnB (w : Int) (cs : ByteArray) : Nat → BaT → BaT
  | 0, b => b
  | n + 1, b => rnB w cs n (nxB w cs b)
theorem run_stay (w : Int) (cs : ByteArray) : ∀ (n : Nat) (b : BaT), runS w false n (cs, b) = (cs, rnB w cs n b)
  | 0, b => rfl
  | n + 1, b => run_stay w cs n (nxB w cs b)
theorem rn_succ (w : Int) (cs : ByteArray) : ∀ (n : Nat) (b : BaT), rnB w cs (n + 1) b = nxB w cs (rnB w cs n b)
  | 0, b => rfl
  | n + 1, b => rn_succ w cs n (nxB w cs b)
theorem rn_add (w : Int) (cs : ByteArray) : ∀ (n m : Nat) (b : BaT), rnB w cs (n + m) b = rnB w cs m (rnB w cs n b)
  | 0, m, b => by rw [Nat.zero_add]; rfl
  | n + 1, m, b => by rw [show n + 1 + m = n + m + 1 by omega]; exact rn_add w cs n m (nxB w cs b)
theorem nx_way (w : Int) (cs : ByteArray) {b : BaT} (h : WayOk b) : WayOk (nxB w cs b) := turnB_ok h
theorem rn_way (w : Int) (cs : ByteArray) : ∀ (n : Nat) {b : BaT}, WayOk b → WayOk (rnB w cs n b)
  | 0, b, h => h
  | n + 1, b, h => rn_way w cs n (nx_way w cs h)
/-- Where the reversed ball behind a cell is: in that cell. -/
theorem rev_nx_at (w : Int) (cs : ByteArray) (b : BaT) : (revB (nxB w cs b)).1 = b.1 ∧ (revB (nxB w cs b)).2.1 = b.2.1 := by
  unfold revB nxB goB
  simp only
  omega
theorem nx_rev (w : Int) (cs : ByteArray) {b : BaT} (h : WayOk b) : nxB w cs (revB (nxB w cs b)) = revB b := by
  obtain ⟨h1, h2⟩ := rev_nx_at w cs b
  have hs : signB w cs (revB (nxB w cs b)) = signB w cs b := by
    unfold signB cellI
    rw [h1, h2]
  have h3 : turnB (signB w cs b) (revB (nxB w cs b)).2.2 = backW b.2.2 := turn_back (signB w cs b) h
  obtain ⟨_, d1, d2, _⟩ := back_facts h
  show goB (revB (nxB w cs b)) (turnB (signB w cs (revB (nxB w cs b))) (revB (nxB w cs b)).2.2) = revB b
  rw [hs, h3]
  unfold goB
  rw [h1, h2, d1, d2]
  rfl
theorem nx_inj (w : Int) (cs : ByteArray) {a b : BaT} (ha : WayOk a) (hb : WayOk b) (e : nxB w cs a = nxB w cs b) : a = b := by
  have h1 := nx_rev w cs ha
  have h2 := nx_rev w cs hb
  rw [e, h2] at h1
  rw [← rev_rev ha, ← h1, rev_rev hb]
theorem rn_inj (w : Int) (cs : ByteArray) : ∀ (n : Nat) {a b : BaT}, WayOk a → WayOk b → rnB w cs n a = rnB w cs n b → a = b
  | 0, a, b, ha, hb, e => e
  | n + 1, a, b, ha, hb, e => nx_inj w cs ha hb (rn_inj w cs n (nx_way w cs ha) (nx_way w cs hb) e)
theorem rn_rev (w : Int) (cs : ByteArray) : ∀ (n : Nat) {b : BaT}, WayOk b → rnB w cs n (revB (rnB w cs n b)) = revB b
  | 0, b, h => rfl
  | n + 1, b, h => by
    rw [rn_succ w cs n b]
    show rnB w cs n (nxB w cs (revB (nxB w cs (rnB w cs n b)))) = revB b
    rw [nx_rev w cs (rn_way w cs n h)]
    exact rn_rev w cs n h
theorem rn_rev' (w : Int) (cs : ByteArray) {n k : Nat} (hk : k ≤ n) {b : BaT} (h : WayOk b) : rnB w cs k (revB (rnB w cs n b)) = revB (rnB w cs (n - k) b) := by
  have e : rnB w cs n b = rnB w cs k (rnB w cs (n - k) b) := by rw [← rn_add, Nat.sub_add_cancel hk]
  rw [e]
  exact rn_rev w cs k (rn_way w cs _ h)
/-! ### Each ball comes out or back -/
def codeB (w : Int) (b : BaT) : Nat := ((cellI w b) * 4 + b.2.2).toNat
theorem cell_inj {w h : Int} (hw : 1 ≤ w ∧ w ≤ 9) (hh : 1 ≤ h ∧ h ≤ 9) {a b : BaT} (ha : BallIn w h a) (hb : BallIn w h b) (e : cellI w a = cellI w b) : a.1 = b.1 ∧ a.2.1 = b.2.1 := by
  obtain ⟨ax, ay⟩ := ha
  obtain ⟨bx, by_⟩ := hb
  unfold cellI at e
  have m1 : (a.2.1 * w + a.1) / w = a.2.1 := by rw [Int.add_comm, Int.add_mul_ediv_right _ _ (by omega), Int.ediv_eq_zero_of_lt (by omega) (by omega)]; omega
  have m2 : (b.2.1 * w + b.1) / w = b.2.1 := by rw [Int.add_comm, Int.add_mul_ediv_right _ _ (by omega), Int.ediv_eq_zero_of_lt (by omega) (by omega)]; omega
  have e2 : a.2.1 = b.2.1 := by rw [← m1, ← m2, e]
  rw [e2] at e
  exact ⟨by omega, e2⟩
theorem code_inj {w h : Int} (hw : 1 ≤ w ∧ w ≤ 9) (hh : 1 ≤ h ∧ h ≤ 9) {a b : BaT} (ha : BallIn w h a) (hb : BallIn w h b) (wa : WayOk a) (wb : WayOk b) (e : codeB w a = codeB w b) : a = b := by
  have ra := at_range ha.1 ha.2 hw hh
  have rb := at_range hb.1 hb.2 hw hh
  unfold codeB cellI at e
  unfold WayOk at wa wb
  have h1 : cellI w a = cellI w b := by unfold cellI; omega
  have h2 : a.2.2 = b.2.2 := by unfold cellI at h1; omega
  obtain ⟨h3, h4⟩ := cell_inj hw hh ha hb h1
  exact Prod.ext h3 (Prod.ext h4 h2)
theorem code_lt {w h : Int} (hw : 1 ≤ w ∧ w ≤ 9) (hh : 1 ≤ h ∧ h ≤ 9) {a : BaT} (ha : BallIn w h a) (wa : WayOk a) : codeB w a < (4 * (w * h)).toNat := by
  have ra := at_range ha.1 ha.2 hw hh
  unfold WayOk at wa
  unfold codeB cellI
  omega
theorem twice_of {n m : Nat} (f : Nat → Nat) (hf : ∀ i, i < n → f i < m) (hn : m < n) : ∃ i j, i < j ∧ j < n ∧ f i = f j := by
  refine Classical.byContradiction fun hne => ?_
  have hp : ((List.range n).map f).Nodup := by
    unfold List.Nodup
    rw [List.pairwise_map]
    refine List.Pairwise.imp_of_mem (R := (· < ·)) (fun {a b} ha hb hab e => hne ⟨a, b, hab, List.mem_range.1 hb, e⟩) List.pairwise_lt_range
  have := pigeon m _ hp (fun x hx => by
    obtain ⟨i, hi, rfl⟩ := List.mem_map.1 hx
    exact hf i (List.mem_range.1 hi))
  rw [List.length_map, List.length_range] at this
  omega
/-- A ball among mirrors that stay comes out within four times as many cells as there are, or it comes back to its beginning. -/
theorem staying {w h : Int} {cs : ByteArray} {b : BaT} (H : StOk w h (cs, b)) : (∃ n : Nat, 1 ≤ n ∧ (n : Int) ≤ 4 * (w * h) ∧ OutAt w h false (cs, b) n) ∨
    ∃ p : Nat, 1 ≤ p ∧ (p : Int) ≤ 4 * (w * h) ∧ rnB w cs p b = b ∧ ∀ i, BallIn w h (rnB w cs i b) := by
  obtain ⟨hM, hB, hW⟩ := H
  obtain ⟨hw, hh, hs, hc⟩ := hM
  have hm := mul_range hw.1 hw.2 hh.1 hh.2
  obtain ⟨N, hN⟩ : ∃ N : Nat, 4 * (w * h) = (N : Int) := ⟨(4 * (w * h)).toNat, by omega⟩
  rcases out_least w h false (cs, b) N with h1 | ⟨n, h1, h2⟩
  · right
    have hin : ∀ i, i ≤ N → BallIn w h (rnB w cs i b) := fun i hi => by have := h1 i hi; rw [run_stay] at this; exact this
    obtain ⟨i, j, hij, hj, e⟩ := twice_of (n := N + 1) (m := N) (fun i => codeB w (rnB w cs i b)) (fun i hi => by
      have := code_lt hw hh (hin i (by omega)) (rn_way w cs i hW)
      rw [hN] at this
      exact this) (by omega)
    have e2 := code_inj hw hh (hin i (by omega)) (hin j (by omega)) (rn_way w cs i hW) (rn_way w cs j hW) e
    have e3 : rnB w cs (j - i) b = b := by
      have : rnB w cs j b = rnB w cs i (rnB w cs (j - i) b) := by rw [← rn_add, Nat.sub_add_cancel (by omega)]
      rw [this] at e2
      exact (rn_inj w cs i hW (rn_way w cs _ hW) e2).symm
    refine ⟨j - i, by omega, by omega, e3, ?_⟩
    -- all later places are among the first ones
    have per : ∀ k, rnB w cs (k + (j - i)) b = rnB w cs k b := fun k => by rw [Nat.add_comm, rn_add, e3]
    intro k
    induction k using Nat.strongRecOn with
    | _ k ih =>
      by_cases hk : k < j - i
      · exact hin k (by omega)
      · rw [show k = (k - (j - i)) + (j - i) by omega, per]
        exact ih _ (by omega)
  · left
    refine ⟨n, ?_, by omega, h2⟩
    rcases Nat.eq_zero_or_pos n with h0 | h0
    · subst h0
      exact absurd hB h2.2
    · exact h0
theorem out_stay {w h : Int} {cs : ByteArray} {b : BaT} {n : Nat} : OutAt w h false (cs, b) n ↔ (∀ i, i < n → BallIn w h (rnB w cs i b)) ∧ ¬ BallIn w h (rnB w cs n b) := by
  unfold OutAt
  simp only [run_stay]
theorem out_one {w h : Int} {t : Bool} {s : StM} {n m : Nat} (h1 : OutAt w h t s n) (h2 : OutAt w h t s m) : n = m := by
  rcases Nat.lt_trichotomy n m with h3 | h3 | h3
  · exact absurd (h2.1 n h3) h1.2
  · exact h3
  · exact absurd (h1.1 m h3) h2.2
/-- A ball that comes over an edge from outside comes out among mirrors that stay. -/
def Edge (w h : Int) (b : BaT) : Prop := ¬ BallIn w h (revB b)
theorem edge_out {w h : Int} {cs : ByteArray} {b : BaT} (H : StOk w h (cs, b)) (he : Edge w h b) : ∃ n : Nat, 1 ≤ n ∧ (n : Int) ≤ 4 * (w * h) ∧ OutAt w h false (cs, b) n := by
  rcases staying H with h1 | ⟨p, h1, h2, h3, h4⟩
  · exact h1
  · exfalso
    obtain ⟨q, rfl⟩ : ∃ q, p = q + 1 := ⟨p - 1, by omega⟩
    rw [rn_succ] at h3
    obtain ⟨a1, a2⟩ := rev_nx_at w cs (rnB w cs q b)
    have := h4 q
    refine he ?_
    rw [← h3]
    unfold BallIn at this ⊢
    rw [a1, a2]
    exact this
/-- The same way back: what comes in where a ball came out comes out where the ball came in. -/
theorem out_rev {w h : Int} {cs : ByteArray} {b : BaT} {n : Nat} (H : StOk w h (cs, b)) (he : Edge w h b) (hn : 1 ≤ n) (ho : OutAt w h false (cs, b) n) :
    BallIn w h (revB (rnB w cs n b)) ∧ WayOk (revB (rnB w cs n b)) ∧ Edge w h (revB (rnB w cs n b)) ∧ OutAt w h false (cs, revB (rnB w cs n b)) n ∧ rnB w cs n (revB (rnB w cs n b)) = revB b := by
  obtain ⟨h1, h2⟩ := out_stay.1 ho
  obtain ⟨_, hB, hW⟩ := H
  have hin : ∀ m, m < n → BallIn w h (revB (rnB w cs (m + 1) b)) := fun m hm => by
    rw [rn_succ]
    obtain ⟨a1, a2⟩ := rev_nx_at w cs (rnB w cs m b)
    have := h1 m hm
    unfold BallIn at this ⊢
    rw [a1, a2]
    exact this
  have hw := rn_way w cs n hW
  refine ⟨by have := hin (n - 1) (by omega); rwa [Nat.sub_add_cancel hn] at this, rev_way hw, by unfold Edge; rw [rev_rev hw]; exact h2, out_stay.2 ⟨fun i hi => ?_, ?_⟩, rn_rev w cs n hW⟩
  · rw [rn_rev' w cs (by omega) hW]
    have := hin (n - i - 1) (by omega)
    rwa [show n - i - 1 + 1 = n - i by omega] at this
  · rw [rn_rev w cs n hW]
    exact he
/-- No ball comes out where it came in. -/
theorem out_ne {w h : Int} {cs : ByteArray} {b : BaT} {n : Nat} (hW : WayOk b) (e : revB (rnB w cs n b) = b) : False := by
  have back : ∀ k, k ≤ n → rnB w cs k b = revB (rnB w cs (n - k) b) := fun k hk => by
    have := rn_rev' w cs hk hW
    rw [e] at this
    exact this
  rcases Nat.mod_two_eq_zero_or_one n with h2 | h2
  · have := back (n / 2) (by omega)
    rw [show n - n / 2 = n / 2 by omega] at this
    exact rev_ne (rn_way w cs _ hW) this.symm
  · have := back (n / 2) (by omega)
    rw [show n - n / 2 = n / 2 + 1 by omega, rn_succ] at this
    have hw := rn_way w cs (n / 2) hW
    have h3 : (revB (nxB w cs (rnB w cs (n / 2) b))).2.2 = (rnB w cs (n / 2) b).2.2 := by rw [← this]
    exact turn_ne_back (signB w cs (rnB w cs (n / 2) b)) hw h3
def OkMz (m : MzT) : Prop := MazeOk m.1 m.2.1 m.2.2.1
def OkBa (m : MzT) (b : BaT) : Prop := OkMz m ∧ BallIn m.1 m.2.1 b ∧ WayOk b
abbrev zeroMz : MzT := (0, 0, ByteArray.empty, false)
abbrev zeroBa : BaT := (0, 0, 0)
theorem OkMz.size {m : MzT} (h : OkMz m) : m.2.2.1.size ≤ 81 := by
  have := mul_range h.1.1 h.1.2 h.2.1.1 h.2.1.2
  have := h.2.2.1
  omega
theorem mw64 {w h : Int} (hw : 1 ≤ w ∧ w ≤ 9) (hh : 1 ≤ h ∧ h ≤ 9) : w64 (w * h) = w * h := by
  have := mul_range hw.1 hw.2 hh.1 hh.2
  exact w64_of (by omega) (by omega)
theorem miGood_ev (w h : Int) (cs : ByteArray) (t : Bool) (hc : cs.size ≤ 1099511627776) : EvB (fun k => spec_miGood k (w, h, cs, t)) (OkMz (w, h, cs, t)) := by
  have sI : ∀ (i : Nat) (c : UInt8), cs.data.toList[i]? = some c → SignM c → ∀ r, Ev (fun k => spec_miGood_l k ((w, h, cs, t), ((i + 1 : Nat) : Int))) r → Ev (fun k => spec_miGood_l k ((w, h, cs, t), (i : Int))) r := fun i c hx hs r H => by
    have hi : i < cs.size := by rw [size_list]; exact (List.getElem?_eq_some_iff.1 hx).1
    refine Ev.step (fun k => spec_miGood_l.eq k w h cs t (i : Int)) (Ev.yes (lt_nat hi) (Ev.yes (inB_nat hi) ?_))
    rw [Int.toNat_natCast, bt_at hx, w64_succ (by omega)]
    rcases hs with rfl | rfl | rfl
    · exact Ev.no rfl H
    · exact Ev.yes rfl (Ev.yes (inB_nat hi) (Ev.no rfl H))
    · exact Ev.yes rfl (Ev.yes (inB_nat hi) (Ev.yes rfl (Ev.yes (inB_nat hi) (Ev.no rfl H))))
  have sO : ∀ (i : Nat) (c : UInt8), cs.data.toList[i]? = some c → ¬ SignM c → Ev (fun k => spec_miGood_l k ((w, h, cs, t), (i : Int))) (.inl false) := fun i c hx hs => by
    have hi : i < cs.size := by rw [size_list]; exact (List.getElem?_eq_some_iff.1 hx).1
    have ne : ∀ n : Nat, n < 256 → c ≠ UInt8.ofNat n → ((c.toNat : Int) != (n : Int)) = true := fun n hn h => by
      rw [bne_iff_ne]
      intro e
      exact h ((u8_eq hn).1 (beq_iff_eq.2 e))
    unfold SignM at hs
    refine Ev.step (fun k => spec_miGood_l.eq k w h cs t (i : Int)) (Ev.yes (lt_nat hi) (Ev.yes (inB_nat hi) ?_))
    rw [Int.toNat_natCast, bt_at hx]
    exact Ev.yes (ne 46 (by decide) fun e => hs (.inl e)) (Ev.yes (inB_nat hi) (Ev.yes (ne 90 (by decide) fun e => hs (.inr (.inl e))) (Ev.yes (inB_nat hi) (Ev.yes (ne 83 (by decide) fun e => hs (.inr (.inr e))) (Ev.now _)))))
  have srch := Ev.search (L := fun k i => spec_miGood_l k ((w, h, cs, t), i)) (n := cs.size) (fun i => ∃ c, cs.data.toList[i]? = some c ∧ ¬ SignM c) (fun i => .inl false) (.inr ())
    (fun i hi hp r H => by
      obtain ⟨c, hx⟩ := byte_at hi
      exact sI i c hx (Classical.byContradiction fun hn => hp ⟨c, hx, hn⟩) r H)
    (fun i hi ⟨c, hx, hn⟩ => sO i c hx hn)
    (Ev.step (fun k => spec_miGood_l.eq k w h cs t (cs.size : Int)) (Ev.no (not_lt_nat (Nat.lt_irrefl _)) (Ev.now _))) cs.size 0 (by omega)
  refine EvB.step (fun k => spec_miGood.eq k w h cs t) (EvB.and' (l1In_ev _ _ _) fun hw => EvB.and' (l1In_ev _ _ _) fun hh => ?_)
  rw [mw64 hw hh]
  refine EvB.ifN (P := (cs.size : Int) = w * h) (by rw [bne_eq_false_iff_eq]) fun hs => ?_
  rcases srch with ⟨h1, h2⟩ | ⟨j, _, hj, ⟨x, hx, hn⟩, _, h2⟩
  · refine ⟨true, Ev.bind h2 (Ev.now _), ⟨fun _ c hm => ?_, fun _ => rfl⟩⟩
    obtain ⟨i, hi⟩ := List.mem_iff_getElem?.1 hm
    exact Classical.byContradiction fun hn => h1 i (Nat.zero_le _) (by rw [size_list]; exact (List.getElem?_eq_some_iff.1 hi).1) ⟨c, hi, hn⟩
  · exact ⟨false, Ev.bind h2 (Ev.now _), ⟨nofun, fun h => absurd (h x (List.mem_of_getElem? hx)) hn⟩⟩
theorem trim_nil (l cs : List UInt8) : Lib.trimS l cs = [] ↔ l.all (fun c => cs.contains c) = true := by
  have dn : ∀ (p : UInt8 → Bool) (l : List UInt8), l.dropWhile p = [] ↔ l.all p = true := fun p l => by
    induction l with
    | nil => simp
    | cons x l ih => by_cases h : p x = true <;> simp [List.dropWhile_cons, h, ih]
  have da : ∀ (p : UInt8 → Bool) (l : List UInt8), (l.dropWhile p).all p = true ↔ l.all p = true := fun p l => by
    induction l with
    | nil => simp
    | cons x l ih => by_cases h : p x = true <;> simp [List.dropWhile_cons, h, ih]
  unfold Lib.trimS Lib.trimLeftS Lib.trimRightS
  rw [dn, List.all_reverse, da, List.all_reverse]
theorem isMaze_ev (w h : Int) (cs : ByteArray) (t : Bool) (hc : cs.size ≤ 1099511627776) : EvB (fun k => impl_IsMaze k (w, h, cs, t)) (OkMz (w, h, cs, t)) := by
  have hsz : EvB (fun k => impl_isSize k (w, h)) ((1 ≤ w ∧ w ≤ 9) ∧ (1 ≤ h ∧ h ≤ 9)) := EvB.step (fun k => impl_isSize.eq k w h) (EvB.and (within_ev _ _ _) fun _ => (within_ev _ _ _).ret)
  refine EvB.iff (EvB.step (fun k => impl_IsMaze.eq k w h cs t) (EvB.and hsz fun hwh => EvB.ifT (P := (cs.size : Int) = w * h) (Q := ∀ c ∈ cs.data.toList, SignM c) (by rw [mw64 hwh.1 hwh.2, beq_iff_eq]) fun _ => ?_)) ⟨fun h => ⟨h.1.1, h.1.2, h.2.1, h.2.2⟩, fun h => ⟨⟨h.1, h.2.1⟩, h.2.2.1, h.2.2.2⟩⟩
  have ht : strTrim cs (bs [46, 90, 83]) = some ⟨(Lib.trimS cs.data.toList [46, 90, 83]).toArray⟩ := if_pos ⟨by omega, by decide, by decide⟩
  refine ⟨_, Ev.bind (Ev.step (fun k => (strings_Trim.eq k (cs, bs [46, 90, 83])).trans ht) (Ev.now _)) (Ev.now _), ?_⟩
  rw [strEq_iff]
  have e1 : (⟨(Lib.trimS cs.data.toList [46, 90, 83]).toArray⟩ : ByteArray) = ByteArray.empty ↔ Lib.trimS cs.data.toList [46, 90, 83] = [] := by
    constructor
    · intro h
      have := congrArg (fun b : ByteArray => b.data.toList) h
      simpa using this
    · intro h
      rw [h]
      rfl
  rw [e1, trim_nil, List.all_eq_true]
  constructor
  · intro h c hc
    have := h c hc
    simp at this
    unfold SignM
    exact this
  · intro h c hc
    have := h c hc
    unfold SignM at this
    simp
    exact this
theorem sub64 {w : Int} (hw : 1 ≤ w ∧ w ≤ 9) : w64 (w - 1) = w - 1 := w64_of (by omega) (by omega)
theorem miBall_ev (m : MzT) (b : BaT) (hc : m.2.2.1.size ≤ 1099511627776) : EvB (fun k => spec_miBall k (m, b)) (OkBa m b) := by
  obtain ⟨w, h, cs, t⟩ := m
  obtain ⟨x, y, wy⟩ := b
  refine EvB.iff (EvB.step (fun k => spec_miBall.eq k w h cs t x y wy) (EvB.and (miGood_ev w h cs t hc) fun hM => EvB.and (P := 0 ≤ x ∧ x ≤ w - 1) (by rw [sub64 hM.1]; exact l1In_ev _ _ _) fun _ => EvB.and (P := 0 ≤ y ∧ y ≤ h - 1) (by rw [sub64 hM.2.1]; exact l1In_ev _ _ _) fun _ => (l1In_ev wy 0 3).ret)) ⟨fun h => ⟨h.1, ⟨h.2.1, h.2.2.1⟩, h.2.2.2⟩, fun h => ⟨h.1, h.2.1.1, h.2.1.2, h.2.2⟩⟩
theorem isBall_ev (m : MzT) (b : BaT) (hc : m.2.2.1.size ≤ 1099511627776) : EvB (fun k => impl_IsBall k (m, b)) (OkBa m b) := by
  obtain ⟨w, h, cs, t⟩ := m
  obtain ⟨x, y, wy⟩ := b
  exact EvB.iff (EvB.step (fun k => impl_IsBall.eq k w h cs t x y wy) (EvB.and (isMaze_ev w h cs t hc) fun hM => (isAnt_ev w h x y wy hM.1 hM.2.1).ret)) ⟨fun h => ⟨h.1, ⟨h.2.1, h.2.2.1⟩, h.2.2.2⟩, fun h => ⟨h.1, h.2.1.1, h.2.1.2, h.2.2⟩⟩
/-! ### Through a cell -/
theorem ahead_tail {w h x y wy : Int} (z : Int) (M : MzT) (C : Bool) (hw : 1 ≤ w ∧ w ≤ 9) (hh : 1 ≤ h ∧ h ≤ 9) (hx : 0 ≤ x ∧ x ≤ w - 1) (hy : 0 ≤ y ∧ y ≤ h - 1) (hwy : 0 ≤ wy ∧ wy ≤ 3) :
    Ev (fun k => (impl_ahead k wy).bind fun r1 => (impl_within k ((w64 (x + r1.1)), 0, (w64 (w - 1)))).bind fun r2 =>
      cond r2 ((impl_within k ((w64 (y + r1.2)), 0, (w64 (h - 1)))).bind fun r3 => some (M, ((w64 (x + r1.1)), (w64 (y + r1.2)), wy), C, r3)) (some (M, ((w64 (x + r1.1)), (w64 (y + r1.2)), wy), C, false)))
      (M, goB (x, y, z) wy, C, decide (BallIn w h (goB (x, y, z) wy))) := by
  obtain ⟨⟨d1, d2⟩, d3, d4⟩ := dW_range wy
  have ex : w64 (x + dxW wy) = x + dxW wy := w64_of (by omega) (by omega)
  have ey : w64 (y + dyW wy) = y + dyW wy := w64_of (by omega) (by omega)
  refine Ev.bind (ahead_ev wy hwy) ?_
  simp only [ex, ey, sub64 hw, sub64 hh]
  by_cases b1 : 0 ≤ x + dxW wy ∧ x + dxW wy ≤ w - 1
  · by_cases b2 : 0 ≤ y + dyW wy ∧ y + dyW wy ≤ h - 1
    · exact Ev.bind ((within_ev _ _ _).isT b1) (Ev.yes rfl (Ev.bind ((within_ev _ _ _).isT b2) (Ev.now' (by rw [decide_eq_true (show BallIn w h (goB (x, y, z) wy) from ⟨b1, b2⟩)]; rfl))))
    · exact Ev.bind ((within_ev _ _ _).isT b1) (Ev.yes rfl (Ev.bind ((within_ev _ _ _).isF b2) (Ev.now' (by rw [decide_eq_false (show ¬ BallIn w h (goB (x, y, z) wy) from fun h => b2 h.2)]; rfl))))
  · exact Ev.bind ((within_ev _ _ _).isF b1) (Ev.no rfl (Ev.now' (by rw [decide_eq_false (show ¬ BallIn w h (goB (x, y, z) wy) from fun h => b1 h.1)]; rfl)))
section
variable {w h : Int} {cs : ByteArray} {b : BaT} (t : Bool) (H : StOk w h (cs, b))
include H
theorem hit_ev : Ev (fun k => impl_Maze_hit k ((w, h, cs, t), b)) ((w, h, (hitS w t (cs, b)).1, t), (hitS w t (cs, b)).2, signB w cs b != 46, decide (BallIn w h (hitS w t (cs, b)).2)) := by
  obtain ⟨r1, r2, r3⟩ := cell_range H
  have hz := sign_cases H
  obtain ⟨x, y, wy⟩ := b
  obtain ⟨⟨hw, hh, hs, hc⟩, ⟨hx, hy⟩, hwy⟩ := H
  simp only [cellI] at r1 r2 r3 hx hy hs
  have hwy : 0 ≤ wy ∧ wy ≤ 3 := hwy
  have er := at_range hx hy hw hh
  have eI : w64 (w64 (y * w) + x) = y * w + x := by rw [w64_of (n := y * w) (by omega) (by omega), w64_of (by omega) (by omega)]
  have hB : inB (y * w + x) cs.size = true := inB_of r1 (by omega)
  have hL : inB (y * w + x) (bytesOf cs).length = true := by unfold bytesOf; rw [List.length_map, ← size_list]; exact hB
  obtain ⟨z, hzz⟩ : ∃ z, bt cs (y * w + x).toNat = z := ⟨_, rfl⟩
  have hz' : signB w cs (x, y, wy) = z := hzz
  rw [hz'] at hz
  have w0 : wy = 0 ∨ wy = 1 ∨ wy = 2 ∨ wy = 3 := by omega
  have set : ∀ n : Int, ofBytes ((bytesOf cs).set (y * w + x).toNat (w8 (173 - n))) = setByte cs (y * w + x).toNat (UInt8.ofNat (w8 (173 - n)).toNat) := fun n => setByte_a _ _ _
  refine Ev.step (fun k => impl_Maze_hit.eq k w h cs t x y wy) ?_
  unfold hitS hitC
  simp only [eI, hz', hzz, cellI]
  refine Ev.yes hB ?_
  rcases hz with rfl | rfl | rfl
  · refine Ev.no rfl (Ev.no rfl ?_)
    cases t
    · exact Ev.no rfl (ahead_tail wy _ _ hw hh hx hy hwy)
    · exact Ev.yes rfl (Ev.no rfl (ahead_tail wy _ _ hw hh hx hy hwy))
  · rw [set, show UInt8.ofNat (w8 (173 - 90)).toNat = flipB 90 by decide]
    cases t
    · rcases w0 with rfl | rfl | rfl | rfl
      · exact Ev.yes rfl (Ev.yes rfl (Ev.no rfl (ahead_tail (wy := 1) 0 _ _ hw hh hx hy (by decide))))
      · exact Ev.yes rfl (Ev.yes rfl (Ev.no rfl (ahead_tail (wy := 0) 1 _ _ hw hh hx hy (by decide))))
      · exact Ev.yes rfl (Ev.yes rfl (Ev.no rfl (ahead_tail (wy := 3) 2 _ _ hw hh hx hy (by decide))))
      · exact Ev.yes rfl (Ev.yes rfl (Ev.no rfl (ahead_tail (wy := 2) 3 _ _ hw hh hx hy (by decide))))
    · rcases w0 with rfl | rfl | rfl | rfl
      · exact Ev.yes rfl (Ev.yes rfl (Ev.yes rfl (Ev.yes rfl (Ev.yes hL (ahead_tail (wy := 1) 0 _ _ hw hh hx hy (by decide))))))
      · exact Ev.yes rfl (Ev.yes rfl (Ev.yes rfl (Ev.yes rfl (Ev.yes hL (ahead_tail (wy := 0) 1 _ _ hw hh hx hy (by decide))))))
      · exact Ev.yes rfl (Ev.yes rfl (Ev.yes rfl (Ev.yes rfl (Ev.yes hL (ahead_tail (wy := 3) 2 _ _ hw hh hx hy (by decide))))))
      · exact Ev.yes rfl (Ev.yes rfl (Ev.yes rfl (Ev.yes rfl (Ev.yes hL (ahead_tail (wy := 2) 3 _ _ hw hh hx hy (by decide))))))
  · rw [set, show UInt8.ofNat (w8 (173 - 83)).toNat = flipB 83 by decide]
    cases t
    · rcases w0 with rfl | rfl | rfl | rfl
      · exact Ev.no rfl (Ev.yes rfl (Ev.yes rfl (Ev.no rfl (ahead_tail (wy := 3) 0 _ _ hw hh hx hy (by decide)))))
      · exact Ev.no rfl (Ev.yes rfl (Ev.yes rfl (Ev.no rfl (ahead_tail (wy := 2) 1 _ _ hw hh hx hy (by decide)))))
      · exact Ev.no rfl (Ev.yes rfl (Ev.yes rfl (Ev.no rfl (ahead_tail (wy := 1) 2 _ _ hw hh hx hy (by decide)))))
      · exact Ev.no rfl (Ev.yes rfl (Ev.yes rfl (Ev.no rfl (ahead_tail (wy := 0) 3 _ _ hw hh hx hy (by decide)))))
    · rcases w0 with rfl | rfl | rfl | rfl
      · exact Ev.no rfl (Ev.yes rfl (Ev.yes rfl (Ev.yes rfl (Ev.yes rfl (Ev.yes hL (ahead_tail (wy := 3) 0 _ _ hw hh hx hy (by decide)))))))
      · exact Ev.no rfl (Ev.yes rfl (Ev.yes rfl (Ev.yes rfl (Ev.yes rfl (Ev.yes hL (ahead_tail (wy := 2) 1 _ _ hw hh hx hy (by decide)))))))
      · exact Ev.no rfl (Ev.yes rfl (Ev.yes rfl (Ev.yes rfl (Ev.yes rfl (Ev.yes hL (ahead_tail (wy := 1) 2 _ _ hw hh hx hy (by decide)))))))
      · exact Ev.no rfl (Ev.yes rfl (Ev.yes rfl (Ev.yes rfl (Ev.yes rfl (Ev.yes hL (ahead_tail (wy := 0) 3 _ _ hw hh hx hy (by decide)))))))
theorem miHit_ev : Ev (fun k => spec_miHit k ((w, h, cs, t), b)) ((w, h, (hitS w t (cs, b)).1, t), (hitS w t (cs, b)).2) := by
  obtain ⟨r1, r2, r3⟩ := cell_range H
  have hz := sign_cases H
  obtain ⟨x, y, wy⟩ := b
  obtain ⟨⟨hw, hh, hs, hc⟩, ⟨hx, hy⟩, hwy⟩ := H
  simp only [cellI] at r1 r2 r3 hx hy hs
  have hwy : 0 ≤ wy ∧ wy ≤ 3 := hwy
  have er := at_range hx hy hw hh
  have eI : w64 (w64 (y * w) + x) = y * w + x := by rw [w64_of (n := y * w) (by omega) (by omega), w64_of (by omega) (by omega)]
  have eJ : w64 (y * w + x + 1) = y * w + x + 1 := w64_of (by omega) (by omega)
  have hB : inB (y * w + x) cs.size = true := inB_of r1 (by omega)
  have d1 : ((decide ((0 : Int) ≤ y * w + x)) && (decide (y * w + x ≤ (cs.size : Int)))) = true := by rw [decide_eq_true r1, decide_eq_true (by omega)]; rfl
  have d2 : ((decide ((0 : Int) ≤ y * w + x + 1)) && (decide (y * w + x + 1 ≤ (cs.size : Int)))) = true := by rw [decide_eq_true (by omega), decide_eq_true (by omega)]; rfl
  have hm := mul_range hw.1 hw.2 hh.1 hh.2
  have x1 : (cs.extract 0 (y * w + x).toNat).size ≤ 81 := by rw [ByteArray.size_extract]; omega
  have x2 : (cs.extract (y * w + x + 1).toNat cs.size).size ≤ 81 := by rw [ByteArray.size_extract]; omega
  have f1 : ∀ c : UInt8, fitS (cs.extract 0 (y * w + x).toNat) (bs [c]) = true := fun c => fitS_of (by have : (bs [c]).size = 1 := rfl; omega)
  have f2 : ∀ c : UInt8, fitS (cs.extract 0 (y * w + x).toNat ++ bs [c]) (cs.extract (y * w + x + 1).toNat cs.size) = true := fun c => fitS_of (by have : (bs [c]).size = 1 := rfl; rw [ByteArray.size_append]; omega)
  have set : ∀ c : UInt8, cs.extract 0 (y * w + x).toNat ++ bs [c] ++ cs.extract (y * w + x + 1).toNat cs.size = setByte cs (y * w + x).toNat c := fun c => by
    have := setByte_b cs (y * w + x).toNat (c.toNat : Int) r2
    rw [show (y * w + x + 1).toNat = (y * w + x).toNat + 1 by omega, show bs [c] = ofBytes [(c.toNat : Int)] by simp [bs, ofBytes], this]
    simp
  have ym : w64 (y - 1) = y + -1 := by rw [w64_of (by omega) (by omega)]; omega
  have yp : w64 (y + 1) = y + 1 := w64_of (by omega) (by omega)
  have xm : w64 (x - 1) = x + -1 := by rw [w64_of (by omega) (by omega)]; omega
  have xp : w64 (x + 1) = x + 1 := w64_of (by omega) (by omega)
  have wm : w64 (3 - wy) = 3 - wy := w64_of (by omega) (by omega)
  have fin0 : ∀ (M : MzT) (wz : Int), wz = 0 ∨ wz = 1 ∨ wz = 2 ∨ wz = 3 → Ev (fun k : Nat => cond (wz == 0) (some (M, (x, y + -1, wz))) (cond (wz == 1) (some (M, (x + 1, y, wz))) (cond (wz == 2) (some (M, (x, y + 1, wz))) (some (M, (x + -1, y, wz)))))) (M, goB (x, y, wy) wz) := fun M wz h => by
    rcases h with rfl | rfl | rfl | rfl
    · exact Ev.yes rfl (Ev.now' (by simp [goB, dxW, dyW]))
    · exact Ev.no rfl (Ev.yes rfl (Ev.now' (by simp [goB, dxW, dyW])))
    · exact Ev.no rfl (Ev.no rfl (Ev.yes rfl (Ev.now' (by simp [goB, dxW, dyW]))))
    · exact Ev.no rfl (Ev.no rfl (Ev.no rfl (Ev.now' (by simp [goB, dxW, dyW]))))
  obtain ⟨z, hzz⟩ : ∃ z, bt cs (y * w + x).toNat = z := ⟨_, rfl⟩
  have hz' : signB w cs (x, y, wy) = z := hzz
  rw [hz'] at hz
  have w0 : wy = 0 ∨ wy = 1 ∨ wy = 2 ∨ wy = 3 := by omega
  have xo : xorI .i64 wy 1 = turnB 90 wy := by rcases w0 with rfl | rfl | rfl | rfl <;> decide
  have to := turnB_ok (z := 90) hwy
  refine Ev.step (fun k => spec_miHit.eq k w h cs t x y wy) ?_
  unfold hitS hitC
  simp only [eI, eJ, hz', hzz, cellI, ym, yp, xm, xp, wm, xo, set]
  refine Ev.yes hB ?_
  rcases hz with rfl | rfl | rfl
  · refine Ev.no rfl (Ev.no rfl ?_)
    cases t
    · exact Ev.no rfl (fin0 _ wy w0)
    · exact Ev.yes rfl (Ev.no rfl (fin0 _ wy w0))
  · refine Ev.yes rfl ?_
    cases t
    · exact Ev.no rfl (fin0 _ (turnB 90 wy) (by omega))
    · exact Ev.yes rfl (Ev.yes rfl (Ev.yes d1 (Ev.yes (f1 _) (Ev.yes d2 (Ev.yes (f2 _) (fin0 _ (turnB 90 wy) (by omega)))))))
  · refine Ev.no rfl (Ev.yes rfl ?_)
    cases t
    · exact Ev.no rfl (fin0 _ (3 - wy) (by omega))
    · exact Ev.yes rfl (Ev.yes rfl (Ev.yes d1 (Ev.yes (f1 _) (Ev.yes d2 (Ev.yes (f2 _) (fin0 _ (3 - wy) (by omega)))))))
theorem miAt_ev : Ev (fun k => spec_miAt k ((w, h, cs, t), b)) (signB w cs b) := by
  obtain ⟨r1, r2, r3⟩ := cell_range H
  obtain ⟨x, y, wy⟩ := b
  obtain ⟨⟨hw, hh, hs, hc⟩, ⟨hx, hy⟩, hwy⟩ := H
  simp only [cellI] at r1 r2 r3 hx hy hs
  have er := at_range hx hy hw hh
  have eI : w64 (w64 (y * w) + x) = y * w + x := by rw [w64_of (n := y * w) (by omega) (by omega), w64_of (by omega) (by omega)]
  refine Ev.step (fun k => spec_miAt.eq k w h cs t x y wy) ?_
  rw [eI]
  exact Ev.yes (inB_of r1 (by omega)) (Ev.now _)
end
def entryB (w h k : Int) : BaT := if k < w then (k, 0, 2) else if k < w + h then (w - 1, k - w, 3) else if k < 2 * w + h then (2 * w + h - 1 - k, h - 1, 0) else (0, 2 * (w + h) - 1 - k, 1)
def outE (w h : Int) (b : BaT) : Int := if b.2.1 < 0 then b.1 else if b.1 ≥ w then w + b.2.1 else if b.2.1 ≥ h then 2 * w + h - 1 - b.1 else 2 * (w + h) - 1 - b.2.1
section
variable {w h : Int} (hw : 1 ≤ w ∧ w ≤ 9) (hh : 1 ≤ h ∧ h ≤ 9)
include hw hh
theorem entry_ok {k : Int} (hk : 0 ≤ k ∧ k < 2 * (w + h)) : BallIn w h (entryB w h k) ∧ WayOk (entryB w h k) ∧ Edge w h (entryB w h k) ∧ outE w h (revB (entryB w h k)) = k := by
  unfold entryB
  split
  · simp only [BallIn, WayOk, Edge, revB, backW, dxW, dyW, outE]
    simp
    omega
  · split
    · simp only [BallIn, WayOk, Edge, revB, backW, dxW, dyW, outE]
      simp
      refine ⟨by omega, by omega, ?_⟩
      omega
    · split
      · simp only [BallIn, WayOk, Edge, revB, backW, dxW, dyW, outE]
        simp
        refine ⟨by omega, by omega, ?_⟩
        omega
      · simp only [BallIn, WayOk, Edge, revB, backW, dxW, dyW, outE]
        simp
        refine ⟨by omega, ?_⟩
        rw [if_neg (by omega), if_neg (by omega), if_neg (by omega)]
        omega
theorem out_entry {b : BaT} (hW : WayOk b) (hi : BallIn w h (revB b)) (ho : ¬ BallIn w h b) : entryB w h (outE w h b) = revB b ∧ 0 ≤ outE w h b ∧ outE w h b < 2 * (w + h) := by
  obtain ⟨x, y, wy⟩ := b
  have hW : 0 ≤ wy ∧ wy ≤ 3 := hW
  have : wy = 0 ∨ wy = 1 ∨ wy = 2 ∨ wy = 3 := by omega
  simp only [BallIn, revB] at hi ho
  rcases this with rfl | rfl | rfl | rfl
  · simp [dxW, dyW] at hi
    have e : outE w h (x, y, 0) = x := by unfold outE; rw [if_pos (by show y < 0; omega)]
    rw [e]
    unfold entryB revB
    rw [if_pos (by omega)]
    simp [dxW, dyW, backW]
    omega
  · simp [dxW, dyW] at hi
    have e : outE w h (x, y, 1) = w + y := by unfold outE; rw [if_neg (by show ¬ y < 0; omega), if_pos (by show x ≥ w; omega)]
    rw [e]
    unfold entryB revB
    rw [if_neg (by omega), if_pos (by omega)]
    simp [dxW, dyW, backW]
    omega
  · simp [dxW, dyW] at hi
    have e : outE w h (x, y, 2) = 2 * w + h - 1 - x := by unfold outE; rw [if_neg (by show ¬ y < 0; omega), if_neg (by show ¬ x ≥ w; omega), if_pos (by show y ≥ h; omega)]
    rw [e]
    unfold entryB revB
    rw [if_neg (by omega), if_neg (by omega), if_pos (by omega)]
    simp [dxW, dyW, backW]
    omega
  · simp [dxW, dyW] at hi
    have e : outE w h (x, y, 3) = 2 * (w + h) - 1 - y := by unfold outE; rw [if_neg (by show ¬ y < 0; omega), if_neg (by show ¬ x ≥ w; omega), if_neg (by show ¬ y ≥ h; omega)]
    rw [e]
    unfold entryB revB
    rw [if_neg (by omega), if_neg (by omega), if_neg (by omega)]
    simp [dxW, dyW, backW]
    omega
theorem entry_inj {k j : Int} (hk : 0 ≤ k ∧ k < 2 * (w + h)) (hj : 0 ≤ j ∧ j < 2 * (w + h)) (e : entryB w h k = entryB w h j) : k = j := by
  rw [← (entry_ok hw hh hk).2.2.2, ← (entry_ok hw hh hj).2.2.2, e]
variable (cs : ByteArray) (t : Bool)
theorem ends_ev : Ev (fun k => impl_Maze_ends k (w, h, cs, t)) (2 * (w + h)) := Ev.step (fun k => impl_Maze_ends.eq k w h cs t) (Ev.now' (by rw [w64_of (n := w + h) (by omega) (by omega), w64_of (by omega) (by omega)]))
theorem miEnds_ev : Ev (fun k => spec_miEnds k (w, h, cs, t)) (2 * (w + h)) := Ev.step (fun k => spec_miEnds.eq k w h cs t) (Ev.now' (by rw [w64_of (n := w + h) (by omega) (by omega), w64_of (by omega) (by omega)]))
theorem entries_ev {k : Int} (hk : 0 ≤ k ∧ k < 2 * (w + h)) : Ev (fun n => impl_Maze_entry n ((w, h, cs, t), k)) (entryB w h k) ∧ Ev (fun n => spec_miEntry n ((w, h, cs, t), k)) (entryB w h k) := by
  have e1 : w64 (w + h) = w + h := w64_of (by omega) (by omega)
  have e2 : w64 (2 * w) = 2 * w := w64_of (by omega) (by omega)
  have e3 : w64 (2 * w + h) = 2 * w + h := w64_of (by omega) (by omega)
  have e4 : w64 (2 * w + h - 1) = 2 * w + h - 1 := w64_of (by omega) (by omega)
  have e5 : w64 (2 * w + h - 1 - k) = 2 * w + h - 1 - k := w64_of (by omega) (by omega)
  have e6 : w64 (2 * (w + h) - 1) = 2 * (w + h) - 1 := w64_of (by omega) (by omega)
  have e7 : w64 (2 * (w + h) - 1 - k) = 2 * (w + h) - 1 - k := w64_of (by omega) (by omega)
  have e8 : w64 (k - w) = k - w := w64_of (by omega) (by omega)
  have e9 := sub64 hw
  have e10 := sub64 hh
  unfold entryB
  by_cases c1 : k < w
  · rw [if_pos c1]
    exact ⟨Ev.step (fun n => impl_Maze_entry.eq n w h cs t k) (Ev.yes (decide_eq_true c1) (Ev.now _)), Ev.step (fun n => spec_miEntry.eq n w h cs t k) (Ev.yes (decide_eq_true c1) (Ev.now _))⟩
  · rw [if_neg c1]
    by_cases c2 : k < w + h
    · rw [if_pos c2]
      refine ⟨Ev.step (fun n => impl_Maze_entry.eq n w h cs t k) (Ev.no (decide_eq_false c1) ?_), Ev.step (fun n => spec_miEntry.eq n w h cs t k) (Ev.no (decide_eq_false c1) ?_)⟩ <;> (rw [e1, e8, e9]; exact Ev.yes (decide_eq_true c2) (Ev.now _))
    · rw [if_neg c2]
      by_cases c3 : k < 2 * w + h
      · rw [if_pos c3]
        refine ⟨Ev.step (fun n => impl_Maze_entry.eq n w h cs t k) (Ev.no (decide_eq_false c1) ?_), Ev.step (fun n => spec_miEntry.eq n w h cs t k) (Ev.no (decide_eq_false c1) ?_)⟩ <;> (rw [e1, e2, e3, e4, e5, e10]; exact Ev.no (decide_eq_false c2) (Ev.yes (decide_eq_true c3) (Ev.now _)))
      · rw [if_neg c3]
        refine ⟨Ev.step (fun n => impl_Maze_entry.eq n w h cs t k) (Ev.no (decide_eq_false c1) ?_), Ev.step (fun n => spec_miEntry.eq n w h cs t k) (Ev.no (decide_eq_false c1) ?_)⟩
        · rw [e1, e2, e3]
          exact Ev.no (decide_eq_false c2) (Ev.no (decide_eq_false c3) (Ev.bind (ends_ev hw hh cs t) (Ev.now' (by rw [e6, e7]))))
        · rw [e1, e2, e3]
          exact Ev.no (decide_eq_false c2) (Ev.no (decide_eq_false c3) (Ev.bind (miEnds_ev hw hh cs t) (Ev.now' (by rw [e6, e7]))))
theorem miOut_ev (b : BaT) (hb : (-1 ≤ b.1 ∧ b.1 ≤ 9) ∧ (-1 ≤ b.2.1 ∧ b.2.1 ≤ 9)) : Ev (fun k => spec_miOut k ((w, h, cs, t), b)) (outE w h b) := by
  obtain ⟨x, y, wy⟩ := b
  simp only at hb
  have e1 : w64 (w + y) = w + y := w64_of (by omega) (by omega)
  have e2 : w64 (2 * w) = 2 * w := w64_of (by omega) (by omega)
  have e3 : w64 (2 * w + h) = 2 * w + h := w64_of (by omega) (by omega)
  have e4 : w64 (2 * w + h - 1) = 2 * w + h - 1 := w64_of (by omega) (by omega)
  have e5 : w64 (2 * w + h - 1 - x) = 2 * w + h - 1 - x := w64_of (by omega) (by omega)
  have e6 : w64 (2 * (w + h) - 1) = 2 * (w + h) - 1 := w64_of (by omega) (by omega)
  have e7 : w64 (2 * (w + h) - 1 - y) = 2 * (w + h) - 1 - y := w64_of (by omega) (by omega)
  refine Ev.step (fun n => spec_miOut.eq n w h cs t x y wy) ?_
  unfold outE
  simp only [e1, e2, e3, e4, e5]
  by_cases c1 : y < 0
  · rw [if_pos c1]; exact Ev.yes (decide_eq_true c1) (Ev.now _)
  · rw [if_neg c1]
    refine Ev.no (decide_eq_false c1) ?_
    by_cases c2 : x ≥ w
    · rw [if_pos c2]; exact Ev.yes (decide_eq_true c2) (Ev.now _)
    · rw [if_neg c2]
      refine Ev.no (decide_eq_false c2) ?_
      by_cases c3 : y ≥ h
      · rw [if_pos c3]; exact Ev.yes (decide_eq_true c3) (Ev.now _)
      · rw [if_neg c3]
        exact Ev.no (decide_eq_false c3) (Ev.bind (miEnds_ev hw hh cs t) (Ev.now' (by rw [e6, e7])))
end
/-! ### Runs -/
theorem hits_succ (w : Int) (t : Bool) : ∀ (n : Nat) (s : StM), hitsS w t (n + 1) s = hitsS w t n s + mirB w (runS w t n s)
  | 0, s => by show mirB w s + 0 = 0 + mirB w s; omega
  | n + 1, s => by
    show mirB w s + hitsS w t (n + 1) (hitS w t s) = mirB w s + hitsS w t n (hitS w t s) + mirB w (runS w t n (hitS w t s))
    rw [hits_succ w t n (hitS w t s)]
    omega
theorem hits_le (w : Int) (t : Bool) : ∀ (n : Nat) (s : StM), hitsS w t n s ≤ n
  | 0, s => Nat.le_refl _
  | n + 1, s => by
    have := hits_le w t n (hitS w t s)
    have h2 : mirB w s ≤ 1 := by unfold mirB; split <;> omega
    show mirB w s + hitsS w t n (hitS w t s) ≤ n + 1
    omega
theorem out_same {w h : Int} {t : Bool} {s : StM} {n i : Nat} (ho : OutAt w h t s n) (h1 : 1 ≤ i) (hi : i < n) : runS w t i s ≠ s := fun e => by
  have : runS w t n s = runS w t (n - i) s := by
    have := runS_add w t i (n - i) s
    rw [Nat.add_sub_cancel' (by omega), e] at this
    exact this
  have h2 := ho.1 (n - i) (by omega)
  rw [← this] at h2
  exact ho.2 h2
theorem sign_46 {w h : Int} {s : StM} (H : StOk w h s) : ((signB w s.1 s.2 != 46) = true ∧ mirB w s = 1) ∨ ((signB w s.1 s.2 != 46) = false ∧ mirB w s = 0) := by
  unfold mirB
  rcases sign_cases H with h1 | h1 | h1
  · rw [h1]; exact .inr ⟨rfl, rfl⟩
  · rw [h1]; exact .inl ⟨rfl, rfl⟩
  · rw [h1]; exact .inl ⟨rfl, rfl⟩
/-- A ball behind a cell is at most one cell out. -/
theorem next_near {w h : Int} {s : StM} (t : Bool) (H : StOk w h s) : ((-1 ≤ (hitS w t s).2.1 ∧ (hitS w t s).2.1 ≤ 9) ∧ (-1 ≤ (hitS w t s).2.2.1 ∧ (hitS w t s).2.2.1 ≤ 9)) ∧ BallIn w h (revB (hitS w t s).2) := by
  obtain ⟨cs, b⟩ := s
  have h1 := rev_nx_at w cs b
  have h2 : BallIn w h (revB (hitS w t (cs, b)).2) := by
    have hb := H.2.1
    unfold BallIn at hb ⊢
    rw [show (hitS w t (cs, b)).2 = nxB w cs b from rfl, h1.1, h1.2]
    exact hb
  obtain ⟨⟨hw, hh, _⟩, ⟨hx, hy⟩, _⟩ := H
  obtain ⟨⟨d1, d2⟩, d3, d4⟩ := dW_range (turnB (signB w cs b) b.2.2)
  refine ⟨?_, h2⟩
  show (-1 ≤ b.1 + dxW (turnB (signB w cs b) b.2.2) ∧ b.1 + dxW (turnB (signB w cs b) b.2.2) ≤ 9) ∧ (-1 ≤ b.2.1 + dyW (turnB (signB w cs b) b.2.2) ∧ b.2.1 + dyW (turnB (signB w cs b) b.2.2) ≤ 9)
  simp only at hx hy
  omega
theorem out_near {w h : Int} {s : StM} {t : Bool} (H : StOk w h s) {n : Nat} (ho : OutAt w h t s n) : 1 ≤ n ∧ ((-1 ≤ (runS w t n s).2.1 ∧ (runS w t n s).2.1 ≤ 9) ∧ (-1 ≤ (runS w t n s).2.2.1 ∧ (runS w t n s).2.2.1 ≤ 9)) ∧ BallIn w h (revB (runS w t n s).2) ∧ WayOk (runS w t n s).2 ∧ MazeOk w h (runS w t n s).1 := by
  rcases Nat.eq_zero_or_pos n with h0 | h0
  · subst h0
    exact absurd H.2.1 ho.2
  · obtain ⟨m, rfl⟩ : ∃ m, n = m + 1 := ⟨n - 1, by omega⟩
    have hs := run_st t m s H fun i hi => ho.1 i (by omega)
    obtain ⟨a, b⟩ := next_near t hs
    obtain ⟨c, d⟩ := hit_ok hs t
    rw [runS_succ]
    exact ⟨by omega, a, b, d, c⟩
theorem ne_ball {a b : BaT} (h : a ≠ b) : ((a.1 == b.1) && ((a.2.1 == b.2.1) && ((a.2.2 == b.2.2) && true))) = false := by
  obtain ⟨a1, a2, a3⟩ := a
  obtain ⟨b1, b2, b3⟩ := b
  rw [Bool.eq_false_iff]
  intro e
  simp at e
  exact h (by rw [e.1, e.2.1, e.2.2])
theorem same_ball (a : BaT) : ((a.1 == a.1) && ((a.2.1 == a.2.1) && ((a.2.2 == a.2.2) && true))) = true := by simp
theorem size_st {w h : Int} {s : StM} (h1 : MazeOk w h s.1) : s.1.size ≤ 1099511627776 := by
  have := OkMz.size (m := (w, h, s.1, false)) h1
  simp only at this
  omega
section
variable {w h : Int} {cs : ByteArray} {b : BaT} (t : Bool) (H : StOk w h (cs, b))
include H
abbrev stepArg (w h : Int) (cs : ByteArray) (b : BaT) (t : Bool) (s : StM) (hits cells : Int) : MzT × BaT × MzT × MzT × BaT × Int × Int := ((w, h, cs, t), b, zeroMz, (w, h, s.1, t), s.2, hits, cells)
theorem miRun_next {s : StM} (hs : StOk w h s) (hits cells : Nat) (hb : hits + cells ≤ 1000000000) (r : MzT × Int × Int × Int × Bool)
    (HN : Ev (fun k => (spec_miBall k ((w, h, (hitS w t s).1, t), (hitS w t s).2)).bind fun r3 =>
      cond (!r3) ((spec_miOut k ((w, h, cs, t), (hitS w t s).2)).bind fun r4 => some ((w, h, (hitS w t s).1, t), r4, ((hits + mirB w s : Nat) : Int), ((cells + 1 : Nat) : Int), true))
      (cond (((hitS w t s).2.1 == b.1) && (((hitS w t s).2.2.1 == b.2.1) && (((hitS w t s).2.2.2 == b.2.2) && true)))
       (cond (strEq (hitS w t s).1 cs) (some (zeroMz, 0, 0, 0, false)) (spec_miRun_l k (stepArg w h cs b t (hitS w t s) ((hits + mirB w s : Nat) : Int) ((cells + 1 : Nat) : Int))))
       (spec_miRun_l k (stepArg w h cs b t (hitS w t s) ((hits + mirB w s : Nat) : Int) ((cells + 1 : Nat) : Int))))) r) :
    Ev (fun k => spec_miRun_l k (stepArg w h cs b t s (hits : Int) (cells : Int))) r := by
  obtain ⟨bx, b_y, bw⟩ := b
  obtain ⟨s1, sx, sy, sw⟩ := s
  refine Ev.step (fun k => spec_miRun_l.eq k w h cs t bx b_y bw 0 0 ByteArray.empty false w h s1 t sx sy sw (hits : Int) (cells : Int)) (Ev.bind (miAt_ev t hs) ?_)
  have ec : w64 ((cells : Int) + 1) = ((cells + 1 : Nat) : Int) := by rw [w64_of (by omega) (by omega)]; omega
  rcases sign_46 hs with ⟨h1, h2⟩ | ⟨h1, h2⟩
  · rw [h2] at HN
    have eh : w64 ((hits : Int) + 1) = ((hits + 1 : Nat) : Int) := by rw [w64_of (by omega) (by omega)]; omega
    refine Ev.yes h1 (Ev.bind (miHit_ev t hs) ?_)
    simp only [ec, eh]
    exact HN
  · rw [h2] at HN
    refine Ev.no h1 (Ev.bind (miHit_ev t hs) ?_)
    simp only [ec]
    exact HN
theorem miRun_out {n : Nat} (hn : n ≤ 1000000) (ho : OutAt w h t (cs, b) n) : ∀ r i : Nat, 1 ≤ r → i + r = n →
    Ev (fun k => spec_miRun_l k (stepArg w h cs b t (runS w t i (cs, b)) ((hitsS w t i (cs, b) : Nat) : Int) (i : Int))) ((w, h, (runS w t n (cs, b)).1, t), outE w h (runS w t n (cs, b)).2, ((hitsS w t n (cs, b) : Nat) : Int), (n : Int), true) := by
  intro r
  induction r with
  | zero => intro i h1; omega
  | succ r ih =>
    intro i h1 h2
    have hs := run_st t i (cs, b) H fun j hj => ho.1 j (by omega)
    have hl := hits_le w t i (cs, b)
    refine miRun_next t H hs _ _ (by omega) _ ?_
    obtain ⟨n1, n2⟩ := next_near t hs
    obtain ⟨m1, m2⟩ := hit_ok hs t
    rw [← hits_succ w t i (cs, b), ← runS_succ w t i (cs, b)]
    rw [← runS_succ w t i (cs, b)] at n1 n2 m1 m2
    rcases Nat.eq_zero_or_pos r with h0 | h0
    · subst h0
      obtain rfl : i + 1 = n := by omega
      exact Ev.bind ((miBall_ev _ _ (size_st m1)).isF fun hb => ho.2 hb.2.1) (Ev.yes rfl (Ev.bind (miOut_ev H.1.1 H.1.2.1 cs t _ n1) (Ev.now _)))
    · refine Ev.bind ((miBall_ev _ _ (size_st m1)).isT ⟨m1, ho.1 (i + 1) (by omega), m2⟩) (Ev.no rfl ?_)
      have hne := out_same ho (i := i + 1) (by omega) (by omega)
      by_cases hb : (runS w t (i + 1) (cs, b)).2 = b
      · have hc : (runS w t (i + 1) (cs, b)).1 ≠ cs := fun e => hne (Prod.ext e hb)
        rw [hb]
        refine Ev.yes (same_ball b) (Ev.no (by rw [Bool.eq_false_iff]; intro e; exact hc (strEq_iff.1 e)) ?_)
        exact ih (i + 1) h0 (by omega)
      · exact Ev.no (ne_ball hb) (ih (i + 1) h0 (by omega))
/-- A ball that comes back to its beginning: the reference tells that it never comes out. -/
theorem miRun_back {p : Nat} (hp : p ≤ 1000000) (hin : ∀ i, BallIn w h (rnB w cs i b)) (hback : rnB w cs p b = b) (hfirst : ∀ j, 1 ≤ j → j < p → rnB w cs j b ≠ b) : ∀ r i : Nat, 1 ≤ r → i + r = p →
    Ev (fun k => spec_miRun_l k (stepArg w h cs b false (cs, rnB w cs i b) ((hitsS w false i (cs, b) : Nat) : Int) (i : Int))) (zeroMz, 0, 0, 0, false) := by
  intro r
  induction r with
  | zero => intro i h1; omega
  | succ r ih =>
    intro i h1 h2
    have hs : StOk w h (cs, rnB w cs i b) := ⟨H.1, hin i, rn_way w cs i H.2.2⟩
    have hl := hits_le w false i (cs, b)
    refine miRun_next false H hs _ _ (by omega) _ ?_
    have e1 := hits_succ w false i (cs, b)
    rw [run_stay] at e1
    rw [← e1, hit_stay, ← rn_succ w cs i b]
    refine Ev.bind ((miBall_ev _ _ (size_st (s := (cs, b)) H.1)).isT ⟨H.1, hin (i + 1), rn_way w cs (i + 1) H.2.2⟩) (Ev.no rfl ?_)
    rcases Nat.eq_zero_or_pos r with h0 | h0
    · subst h0
      obtain rfl : i + 1 = p := by omega
      rw [hback]
      exact Ev.yes (same_ball b) (Ev.yes (strEq_self _) (Ev.now _))
    · exact Ev.no (ne_ball (hfirst (i + 1) (by omega) (by omega))) (ih (i + 1) h0 (by omega))
/-! ### The program's passage -/
abbrev passT := Int × Int × ByteArray × Bool × Int × Int × Int
theorem search_ev (M Z : MzT) (hM : M.1 = w ∧ M.2.1 = h) (z1 z2 z3 : Int) (out : MzT) (hits cells : Int) (back : BaT) (e : Nat) (he : (e : Int) < 2 * (w + h)) (hback : entryB w h (e : Int) = back) : ∀ m i : Nat, i + m = e →
    Ev (fun k => impl_Maze_pass_l_l k (M, (Z.1, Z.2.1, Z.2.2.1, Z.2.2.2, z1, z2, z3), (out.1, out.2.1, out.2.2.1, out.2.2.2, (i : Int), hits, cells), back)) ((Z.1, Z.2.1, Z.2.2.1, Z.2.2.2, z1, z2, z3), (out.1, out.2.1, out.2.2.1, out.2.2.2, (e : Int), hits, cells)) := by
  have hw := H.1.1
  have hh := H.1.2.1
  obtain ⟨mw, mh, mc, mt⟩ := M
  obtain ⟨rfl, rfl⟩ := hM
  obtain ⟨bx, b_y, bw⟩ := back
  intro m
  induction m with
  | zero =>
    intro i hi
    obtain rfl : i = e := by omega
    refine Ev.step (fun k => impl_Maze_pass_l_l.eq k mw mh mc mt _ _ _ _ _ _ _ _ _ _ _ _ _ _ bx b_y bw) (Ev.bind (entries_ev hw hh mc mt (k := (i : Int)) (by omega)).1 (Ev.no ?_ (Ev.now _)))
    rw [hback]
    simp
  | succ m ih =>
    intro i hi
    have hne : entryB mw mh (i : Int) ≠ (bx, b_y, bw) := fun h => by
      have := entry_inj hw hh (k := (i : Int)) (j := (e : Int)) (by omega) (by omega) (h.trans hback.symm)
      omega
    refine Ev.step (fun k => impl_Maze_pass_l_l.eq k mw mh mc mt _ _ _ _ _ _ _ _ _ _ _ _ _ _ bx b_y bw) (Ev.bind (entries_ev hw hh mc mt (k := (i : Int)) (by omega)).1 (Ev.yes ?_ ?_))
    · rw [ne_ball hne]; rfl
    · rw [w64_succ (by omega)]
      exact ih (i + 1) (by omega)
abbrev passArg (w h : Int) (cs : ByteArray) (t : Bool) (s : StM) (hits cells most : Int) : MzT × BaT × passT × passT × Int := ((w, h, cs, t), s.2, (0, 0, ByteArray.empty, false, 0, 0, 0), (w, h, s.1, t, 0, hits, cells), most)
theorem pass_out {n : Nat} {most : Nat} (hn : n ≤ most) (hm : most ≤ 1000000) (ho : OutAt w h t (cs, b) n) : ∀ r i : Nat, 1 ≤ r → i + r = n →
    Ev (fun k => impl_Maze_pass_l k (passArg w h cs t (runS w t i (cs, b)) ((hitsS w t i (cs, b) : Nat) : Int) (i : Int) (most : Int))) (.inl ((w, h, (runS w t n (cs, b)).1, t, outE w h (runS w t n (cs, b)).2, ((hitsS w t n (cs, b) : Nat) : Int), (n : Int)), true)) := by
  intro r
  induction r with
  | zero => intro i h1; omega
  | succ r ih =>
    intro i h1 h2
    have hs := run_st t i (cs, b) H fun j hj => ho.1 j (by omega)
    have hl := hits_le w t i (cs, b)
    obtain ⟨n1, n2⟩ := next_near t hs
    obtain ⟨m1, m2⟩ := hit_ok hs t
    have ec : w64 ((i : Int) + 1) = ((i + 1 : Nat) : Int) := by rw [w64_of (by omega) (by omega)]; omega
    have eb : Ev (fun k => impl_bit k (signB w (runS w t i (cs, b)).1 (runS w t i (cs, b)).2 != 46)) ((mirB w (runS w t i (cs, b)) : Nat) : Int) := by
      rcases sign_46 hs with ⟨h1, h2⟩ | ⟨h1, h2⟩
      · rw [h1, h2]; exact Ev.step (fun k => impl_bit.eq k true) (Ev.yes rfl (Ev.now _))
      · rw [h1, h2]; exact Ev.step (fun k => impl_bit.eq k false) (Ev.no rfl (Ev.now _))
    have eh : w64 (((hitsS w t i (cs, b) : Nat) : Int) + ((mirB w (runS w t i (cs, b)) : Nat) : Int)) = ((hitsS w t (i + 1) (cs, b) : Nat) : Int) := by
      have h3 := hits_succ w t i (cs, b)
      have h4 := hits_le w t (i + 1) (cs, b)
      rw [w64_of (by omega) (by omega)]
      omega
    have he := hit_ev t hs
    rw [← runS_succ w t i (cs, b)] at he n1 n2 m1 m2
    obtain ⟨N, hN⟩ : ∃ N, runS w t (i + 1) (cs, b) = N := ⟨_, rfl⟩
    rw [hN] at he n1 n2 m1 m2
    obtain ⟨N1, nx, ny, nw⟩ := N
    obtain ⟨S, hS⟩ : ∃ S, runS w t i (cs, b) = S := ⟨_, rfl⟩
    rw [hS] at he eb eh ⊢
    obtain ⟨S1, sx, sy, sw⟩ := S
    refine Ev.step (fun k => impl_Maze_pass_l.eq k w h cs t sx sy sw 0 0 ByteArray.empty false 0 0 0 w h S1 t 0 ((hitsS w t i (cs, b) : Nat) : Int) (i : Int) (most : Int)) (Ev.yes (decide_eq_true (by omega)) (Ev.bind he (Ev.bind eb ?_)))
    simp only [ec, eh]
    rcases Nat.eq_zero_or_pos r with h0 | h0
    · subst h0
      obtain rfl : i + 1 = n := by omega
      have hout : ¬ BallIn w h (nx, ny, nw) := by have := ho.2; rw [hN] at this; exact this
      obtain ⟨o1, o2, o3⟩ := out_entry H.1.1 H.1.2.1 m2 n2 hout
      obtain ⟨e, he'⟩ := Int.eq_ofNat_of_zero_le o2
      obtain ⟨⟨d1, d2⟩, d3, d4⟩ := dW_range nw
      have m2' : 0 ≤ nw ∧ nw ≤ 3 := m2
      simp only at n1
      have rv : (w64 (nx - dxW nw), w64 (ny - dyW nw), (w64 (nw + 2)).tmod 4) = revB (nx, ny, nw) := by
        rw [w64_of (by omega) (by omega), w64_of (by omega) (by omega), w64_of (by omega) (by omega), Int.tmod_eq_emod_of_nonneg (by omega)]
        unfold revB
        rw [(back_facts m2').2.2.2.2.2]
      refine Ev.no (decide_eq_false hout) (Ev.bind (ahead_ev nw m2') ?_)
      rw [rv]
      refine Ev.bind (search_ev (M := (w, h, cs, t)) H zeroMz ⟨rfl, rfl⟩ 0 0 0 (w, h, N1, t) _ _ _ e (by rw [← he']; exact o3) (by rw [← he']; exact o1) e 0 (by omega)) (Ev.now' ?_)
      rw [← he', hN]
    · have hin : BallIn w h (nx, ny, nw) := by have := ho.1 (i + 1) (by omega); rw [hN] at this; exact this
      refine Ev.yes (decide_eq_true hin) ?_
      have := ih (i + 1) h0 (by omega)
      rw [hN] at this
      exact this
theorem pass_none {most : Nat} (hm : most ≤ 1000000) (hin : ∀ i, i ≤ most → BallIn w h (runS w t i (cs, b)).2) : ∀ r i : Nat, i + r = most →
    Ev (fun k => impl_Maze_pass_l k (passArg w h cs t (runS w t i (cs, b)) ((hitsS w t i (cs, b) : Nat) : Int) (i : Int) (most : Int))) (.inr (0, 0, ByteArray.empty, false, 0, 0, 0)) := by
  intro r
  induction r with
  | zero =>
    intro i h1
    obtain ⟨S1, sx, sy, sw⟩ := runS w t i (cs, b)
    exact Ev.step (fun k => impl_Maze_pass_l.eq k w h cs t sx sy sw 0 0 ByteArray.empty false 0 0 0 w h S1 t 0 ((hitsS w t i (cs, b) : Nat) : Int) (i : Int) (most : Int)) (Ev.no (decide_eq_false (by omega)) (Ev.now _))
  | succ r ih =>
    intro i h1
    have hs := run_st t i (cs, b) H fun j hj => hin j (by omega)
    have hl := hits_le w t i (cs, b)
    have ec : w64 ((i : Int) + 1) = ((i + 1 : Nat) : Int) := by rw [w64_of (by omega) (by omega)]; omega
    have eb : Ev (fun k => impl_bit k (signB w (runS w t i (cs, b)).1 (runS w t i (cs, b)).2 != 46)) ((mirB w (runS w t i (cs, b)) : Nat) : Int) := by
      rcases sign_46 hs with ⟨h1, h2⟩ | ⟨h1, h2⟩
      · rw [h1, h2]; exact Ev.step (fun k => impl_bit.eq k true) (Ev.yes rfl (Ev.now _))
      · rw [h1, h2]; exact Ev.step (fun k => impl_bit.eq k false) (Ev.no rfl (Ev.now _))
    have eh : w64 (((hitsS w t i (cs, b) : Nat) : Int) + ((mirB w (runS w t i (cs, b)) : Nat) : Int)) = ((hitsS w t (i + 1) (cs, b) : Nat) : Int) := by
      have h3 := hits_succ w t i (cs, b)
      have h4 := hits_le w t (i + 1) (cs, b)
      rw [w64_of (by omega) (by omega)]
      omega
    have he := hit_ev t hs
    have hb := hin (i + 1) (by omega)
    have ih := ih (i + 1) (by omega)
    rw [← runS_succ w t i (cs, b)] at he
    obtain ⟨N, hN⟩ : ∃ N, runS w t (i + 1) (cs, b) = N := ⟨_, rfl⟩
    rw [hN] at he hb ih
    obtain ⟨N1, nx, ny, nw⟩ := N
    obtain ⟨S, hS⟩ : ∃ S, runS w t i (cs, b) = S := ⟨_, rfl⟩
    rw [hS] at he eb eh ⊢
    obtain ⟨S1, sx, sy, sw⟩ := S
    refine Ev.step (fun k => impl_Maze_pass_l.eq k w h cs t sx sy sw 0 0 ByteArray.empty false 0 0 0 w h S1 t 0 ((hitsS w t i (cs, b) : Nat) : Int) (i : Int) (most : Int)) (Ev.yes (decide_eq_true (by omega)) (Ev.bind he (Ev.bind eb ?_)))
    simp only [ec, eh]
    exact Ev.yes (decide_eq_true hb) ih
end
theorem least_of {P : Nat → Prop} {n : Nat} (h : P n) : ∃ m, m ≤ n ∧ P m ∧ ∀ j, j < m → ¬ P j := by
  induction n using Nat.strongRecOn with
  | _ n ih =>
    by_cases hx : ∃ j, j < n ∧ P j
    · obtain ⟨j, h1, h2⟩ := hx
      obtain ⟨m, h3, h4, h5⟩ := ih j h1 h2
      exact ⟨m, by omega, h4, h5⟩
    · exact ⟨n, Nat.le_refl _, h, fun j h1 h2 => hx ⟨j, h1, h2⟩⟩
/-- A ball that never comes out (the mirrors stay). -/
def Round (m : MzT) (b : BaT) : Prop := m.2.2.2 = false ∧ ∀ i, BallIn m.1 m.2.1 (rnB m.1 m.2.2.1 i b)
def OutsM (m : MzT) (b : BaT) (n : Nat) : Prop := OutAt m.1 m.2.1 m.2.2.2 (m.2.2.1, b) n
def endM (m : MzT) (b : BaT) (n : Nat) : StM := runS m.1 m.2.2.2 n (m.2.2.1, b)
def outM (m : MzT) (b : BaT) (n : Nat) : Int := outE m.1 m.2.1 (endM m b n).2
def mazeM (m : MzT) (b : BaT) (n : Nat) : MzT := (m.1, m.2.1, (endM m b n).1, m.2.2.2)
def hitsM (m : MzT) (b : BaT) (n : Nat) : Int := ((hitsS m.1 m.2.2.2 n (m.2.2.1, b) : Nat) : Int)
theorem fate {m : MzT} {b : BaT} (H : OkBa m b) :
    (∃ n : Nat, n ≤ 1000000 ∧ OutsM m b n ∧ Ev (fun k => impl_Maze_pass k (m, b)) ((m.1, m.2.1, (endM m b n).1, m.2.2.2, outM m b n, hitsM m b n, (n : Int)), true) ∧ Ev (fun k => spec_miRun k (m, b)) (mazeM m b n, outM m b n, hitsM m b n, (n : Int), true)) ∨
    (Round m b ∧ Ev (fun k => impl_Maze_pass k (m, b)) ((0, 0, ByteArray.empty, false, 0, 0, 0), false) ∧ Ev (fun k => spec_miRun k (m, b)) (zeroMz, 0, 0, 0, false)) := by
  obtain ⟨w, h, cs, t⟩ := m
  obtain ⟨x, y, wy⟩ := b
  have HS : StOk w h (cs, x, y, wy) := H
  have hm := mul_range HS.1.1.1 HS.1.1.2 HS.1.2.1.1 HS.1.2.1.2
  have hs : (cs.size : Int) = w * h := HS.1.2.2.1
  have good : ∀ (n most : Nat), n ≤ most → most ≤ 1000000 → OutAt w h t (cs, x, y, wy) n → Ev (fun k => impl_Maze_pass_l k (passArg w h cs t (cs, x, y, wy) 0 0 (most : Int))) (.inl ((w, h, (endM (w, h, cs, t) (x, y, wy) n).1, t, outM (w, h, cs, t) (x, y, wy) n, hitsM (w, h, cs, t) (x, y, wy) n, (n : Int)), true)) ∧
      Ev (fun k => spec_miRun k ((w, h, cs, t), (x, y, wy))) (mazeM (w, h, cs, t) (x, y, wy) n, outM (w, h, cs, t) (x, y, wy) n, hitsM (w, h, cs, t) (x, y, wy) n, (n : Int), true) := fun n most h1 h2 ho => by
    obtain ⟨h0, _⟩ := out_near HS ho
    exact ⟨pass_out t HS h1 h2 ho n 0 h0 (by omega), Ev.step (fun k => spec_miRun.eq k w h cs t x y wy) (Ev.bind (miRun_out t HS (by omega) ho n 0 h0 (by omega)) (Ev.now _))⟩
  cases t with
  | true =>
    obtain ⟨n, hn, ho⟩ := turning_out HS
    obtain ⟨g1, g2⟩ := good n 1000000 (by omega) (by omega) ho
    exact .inl ⟨n, by omega, ho, Ev.step (fun k => impl_Maze_pass.eq k w h cs true x y wy) (Ev.no rfl (Ev.bind g1 (Ev.now _))), g2⟩
  | false =>
    have e4 : w64 (4 * (cs.size : Int)) = ((4 * cs.size : Nat) : Int) := by rw [w64_of (by omega) (by omega)]; omega
    rcases staying HS with ⟨n, h1, h2, ho⟩ | ⟨p, h1, h2, h3, h4⟩
    · obtain ⟨g1, g2⟩ := good n (4 * cs.size) (by omega) (by omega) ho
      refine .inl ⟨n, by omega, ho, Ev.step (fun k => impl_Maze_pass.eq k w h cs false x y wy) (Ev.yes rfl ?_), g2⟩
      rw [e4]
      exact Ev.bind g1 (Ev.now _)
    · refine .inr ⟨⟨rfl, h4⟩, Ev.step (fun k => impl_Maze_pass.eq k w h cs false x y wy) (Ev.yes rfl ?_), ?_⟩
      · rw [e4]
        exact Ev.bind (pass_none false HS (most := 4 * cs.size) (by omega) (fun i hi => by rw [run_stay]; exact h4 i) (4 * cs.size) 0 (by omega)) (Ev.now _)
      · obtain ⟨q, q1, ⟨q2, q3⟩, q4⟩ := least_of (P := fun p => 1 ≤ p ∧ rnB w cs p (x, y, wy) = (x, y, wy)) ⟨h1, h3⟩
        exact Ev.step (fun k => spec_miRun.eq k w h cs false x y wy) (Ev.bind (miRun_back HS (p := q) (by omega) h4 q3 (fun j hj1 hj2 e => q4 j hj2 ⟨hj1, e⟩) q 0 q2 (by omega)) (Ev.now _))
/-- Behind a cell all goes on. -/
theorem outs_next {m : MzT} {b : BaT} (hb : BallIn m.1 m.2.1 b) (n : Nat) : OutsM m b (n + 1) ↔ OutsM (mazeM m b 1) (endM m b 1).2 n := by
  constructor
  · rintro ⟨h1, h2⟩
    exact ⟨fun i hi => h1 (i + 1) (by omega), h2⟩
  · rintro ⟨h1, h2⟩
    refine ⟨fun i hi => ?_, h2⟩
    cases i with
    | zero => exact hb
    | succ i => exact h1 i (by omega)
theorem hits_next (m : MzT) (b : BaT) (n : Nat) : hitsM m b (n + 1) = ((mirB m.1 (m.2.2.1, b) : Nat) : Int) + hitsM (mazeM m b 1) (endM m b 1).2 n := by
  show ((mirB m.1 (m.2.2.1, b) + hitsS m.1 m.2.2.2 n (hitS m.1 m.2.2.2 (m.2.2.1, b)) : Nat) : Int) = _
  rw [Int.natCast_add]
  rfl
/-! ### Ends -/
theorem isEnd_ev (m : MzT) (k : Int) (hc : m.2.2.1.size ≤ 1099511627776) : EvB (fun n => impl_isEnd n (m, k)) (OkMz m ∧ (0 ≤ k ∧ k < 2 * (m.1 + m.2.1))) := by
  obtain ⟨w, h, cs, t⟩ := m
  refine EvB.step (fun n => impl_isEnd.eq n w h cs t k) (EvB.and (isMaze_ev w h cs t hc) fun hM => ?_)
  obtain ⟨b, h1, h2⟩ := within_ev k 0 (2 * (w + h) - 1)
  have hw := hM.1
  have hh := hM.2.1
  simp only at hw hh
  have e : w64 (2 * (w + h) - 1) = 2 * (w + h) - 1 := w64_of (by omega) (by omega)
  refine ⟨b, Ev.bind (ends_ev hw hh cs t) ?_, by rw [h2]; simp only; omega⟩
  rw [e]
  exact Ev.bind h1 (Ev.now _)
theorem miEnd_ev (m : MzT) (k : Int) (hc : m.2.2.1.size ≤ 1099511627776) : EvB (fun n => spec_miEnd n (m, k)) (OkMz m ∧ (0 ≤ k ∧ k < 2 * (m.1 + m.2.1))) := by
  obtain ⟨w, h, cs, t⟩ := m
  refine EvB.step (fun n => spec_miEnd.eq n w h cs t k) (EvB.and (miGood_ev w h cs t hc) fun hM => ?_)
  obtain ⟨b, h1, h2⟩ := l1In_ev k 0 (2 * (w + h) - 1)
  have hw := hM.1
  have hh := hM.2.1
  simp only at hw hh
  have e : w64 (2 * (w + h) - 1) = 2 * (w + h) - 1 := w64_of (by omega) (by omega)
  refine ⟨b, Ev.bind (miEnds_ev hw hh cs t) ?_, by rw [h2]; simp only; omega⟩
  rw [e]
  exact Ev.bind h1 (Ev.now _)
/-! ### Tables of exits -/
/-- A ball comes out at an end. -/
def OutTo (m : MzT) (b : BaT) (e : Int) : Prop := ∃ n, OutsM m b n ∧ e = outM m b n
theorem OutTo.one {m : MzT} {b : BaT} {e e' : Int} (h : OutTo m b e) (h' : OutTo m b e') : e = e' := by
  obtain ⟨n, h1, rfl⟩ := h
  obtain ⟨n', h2, rfl⟩ := h'
  rw [out_one h1 h2]
theorem entry_okBa {m : MzT} (hM : OkMz m) {k : Int} (hk : 0 ≤ k ∧ k < 2 * (m.1 + m.2.1)) : OkBa m (entryB m.1 m.2.1 k) := by
  obtain ⟨h1, h2, _⟩ := entry_ok hM.1 hM.2.1 hk
  exact ⟨hM, h1, h2⟩
theorem entry_round {m : MzT} (hM : OkMz m) {k : Int} (hk : 0 ≤ k ∧ k < 2 * (m.1 + m.2.1)) : ¬ Round m (entryB m.1 m.2.1 k) := by
  rintro ⟨h1, h2⟩
  obtain ⟨a, b, c, _⟩ := entry_ok hM.1 hM.2.1 hk
  obtain ⟨n, _, _, h3⟩ := edge_out (cs := m.2.2.1) ⟨hM, a, b⟩ c
  exact (out_stay.1 h3).2 (h2 n)
theorem entry_fate {m : MzT} (hM : OkMz m) {k : Int} (hk : 0 ≤ k ∧ k < 2 * (m.1 + m.2.1)) : ∃ n : Nat, n ≤ 1000000 ∧ OutsM m (entryB m.1 m.2.1 k) n ∧ Ev (fun j => impl_Maze_pass j (m, entryB m.1 m.2.1 k)) ((m.1, m.2.1, (endM m (entryB m.1 m.2.1 k) n).1, m.2.2.2, outM m (entryB m.1 m.2.1 k) n, hitsM m (entryB m.1 m.2.1 k) n, (n : Int)), true) ∧
    Ev (fun j => spec_miRun j (m, entryB m.1 m.2.1 k)) (mazeM m (entryB m.1 m.2.1 k) n, outM m (entryB m.1 m.2.1 k) n, hitsM m (entryB m.1 m.2.1 k) n, (n : Int), true) := by
  rcases fate (entry_okBa hM hk) with h1 | ⟨h1, _⟩
  · exact h1
  · exact absurd h1 (entry_round hM hk)
theorem outM_range {m : MzT} {b : BaT} (H : OkBa m b) {n : Nat} (ho : OutsM m b n) : entryB m.1 m.2.1 (outM m b n) = revB (endM m b n).2 ∧ 0 ≤ outM m b n ∧ outM m b n < 2 * (m.1 + m.2.1) := by
  obtain ⟨_, _, h2, h3, _⟩ := out_near (w := m.1) (h := m.2.1) (s := (m.2.2.1, b)) (t := m.2.2.2) H ho
  exact out_entry H.1.1 H.1.2.1 h3 h2 ho.2
def TabOf (m : MzT) (T : List Int) : Prop := (T.length : Int) = 2 * (m.1 + m.2.1) ∧ ∀ i : Nat, i < T.length → ∃ e, T[i]? = some e ∧ OutTo m (entryB m.1 m.2.1 (i : Int)) e ∧ (0 ≤ e ∧ e < 2 * (m.1 + m.2.1))
/-- Tables of mirrors that stay lead back, and nowhere to the same end. -/
theorem table_back {m : MzT} (hM : OkMz m) (ht : m.2.2.2 = false) {T : List Int} (hT : TabOf m T) {i : Nat} {e : Int} (he : T[i]? = some e) : T[e.toNat]? = some (i : Int) ∧ e ≠ (i : Int) := by
  have hi : i < T.length := (List.getElem?_eq_some_iff.1 he).1
  obtain ⟨e', he', ⟨n, hn, rfl⟩, hr⟩ := hT.2 i hi
  obtain rfl : e = outM m (entryB m.1 m.2.1 (i : Int)) n := by rw [he] at he'; exact Option.some.inj he'
  have hk : 0 ≤ (i : Int) ∧ (i : Int) < 2 * (m.1 + m.2.1) := by have := hT.1; omega
  obtain ⟨b1, b2, b3, b4⟩ := entry_ok hM.1 hM.2.1 hk
  have hx := (outM_range (entry_okBa hM hk) hn).1
  obtain ⟨w, h, cs, t⟩ := m
  simp only at ht
  subst ht
  simp only at b1 b2 b3 b4 hx hr hk ⊢
  have hn' : OutAt w h false (cs, entryB w h (i : Int)) n := hn
  obtain ⟨n1, _⟩ := out_near (t := false) (s := (cs, entryB w h (i : Int))) ⟨hM, b1, b2⟩ hn'
  have hE : endM (w, h, cs, false) (entryB w h (i : Int)) n = (cs, rnB w cs n (entryB w h (i : Int))) := run_stay w cs n _
  obtain ⟨r1, r2, r3, r4, r5⟩ := out_rev (w := w) (h := h) (cs := cs) (b := entryB w h (i : Int)) ⟨hM, b1, b2⟩ b3 n1 hn'
  rw [hE] at hx
  simp only at hx
  obtain ⟨j, hj⟩ : ∃ j : Nat, outM (w, h, cs, false) (entryB w h (i : Int)) n = (j : Int) := Int.eq_ofNat_of_zero_le hr.1
  rw [hj] at hx hr ⊢
  have hjl : j < T.length := by have := hT.1; simp only at this; omega
  obtain ⟨e2, he2, ho2, _⟩ := hT.2 j hjl
  have ho3 : OutTo (w, h, cs, false) (entryB w h (j : Int)) (i : Int) := by
    refine ⟨n, ?_, ?_⟩
    · show OutAt w h false (cs, entryB w h (j : Int)) n
      rw [hx]
      exact r4
    · show (i : Int) = outE w h (runS w false n (cs, entryB w h (j : Int))).2
      rw [hx, run_stay, r5, b4]
  refine ⟨by rw [Int.toNat_natCast, he2, ho2.one ho3], fun e => ?_⟩
  rw [e] at hx
  exact out_ne (h := h) (n := n) b2 hx.symm
theorem CurOk.up {n m : Nat} {c : CurT} (h : CurOk n c) (hm : n ≤ m) (h' : m ≤ 1099511627776) : CurOk m c := by
  obtain ⟨h1, ⟨h2, h3⟩, h4⟩ := h
  exact ⟨h1, ⟨h2, by omega⟩, h'⟩
theorem sureMaze_l_ev (w h : Int) (tn : Bool) (hw : 1 ≤ w ∧ w ≤ 9) (hh : 1 ≤ h ∧ h ≤ 9) : ∀ (r n : Nat) (c : CurT) (cs : ByteArray), CurOk n c → n + 2 * r + 100 ≤ 1099511627776 → ((cs.size + r : Nat) : Int) = w * h → (∀ c ∈ cs.data.toList, SignM c) →
    ∃ s c', Ev (fun k => spec_l1Cur_sureMaze_l k (c, zeroMz, (w, h, cs, tn), ())) (zeroMz, (w, h, s, tn), c') ∧ MazeOk w h s ∧ CurOk (n + 2 * r) c'
  | 0, n, c, cs, H, hn, hs, hc => by
    obtain ⟨code, at_, seed⟩ := c
    refine ⟨cs, _, Ev.step (fun k => spec_l1Cur_sureMaze_l.eq k code at_ seed 0 0 ByteArray.empty false w h cs tn) (Ev.no (decide_eq_false (by rw [mw64 hw hh]; omega)) (Ev.now _)), ⟨hw, hh, hs, hc⟩, H⟩
  | r + 1, n, c, cs, H, hn, hs, hc => by
    have hm := mul_range hw.1 hw.2 hh.1 hh.2
    obtain ⟨t, c1, e1, ht, H1⟩ := of_ev n c H (by omega) [(bs [46]), (bs [90]), (bs [83])] (by decide)
    have h2 : t.size = 1 ∧ ∀ b ∈ t.data.toList, SignM b := by
      simp only [List.mem_cons, List.not_mem_nil, or_false] at ht
      rcases ht with rfl | rfl | rfl <;> exact ⟨rfl, fun b hb => by simp [bs] at hb; subst hb; simp [SignM]⟩
    have hz : (cs ++ t).size = cs.size + 1 := by rw [ByteArray.size_append, h2.1]
    obtain ⟨s, c2, e2, s1, H2⟩ := sureMaze_l_ev w h tn hw hh r (n + 2) c1 (cs ++ t) H1 (by omega) (by rw [hz]; omega) (fun b hb => by
      rw [append_list] at hb
      rcases List.mem_append.1 hb with hb | hb
      · exact hc b hb
      · exact h2.2 b hb)
    obtain ⟨code, at_, seed⟩ := c
    exact ⟨s, c2, Ev.step (fun k => spec_l1Cur_sureMaze_l.eq k code at_ seed 0 0 ByteArray.empty false w h cs tn) (Ev.yes (decide_eq_true (by rw [mw64 hw hh]; omega)) (Ev.bind e1 (Ev.yes (fitS_of (by simp only; omega)) e2))), s1, by rw [show n + 2 * (r + 1) = n + 2 + 2 * r by omega]; exact H2⟩
theorem sureMaze_ev (n : Nat) (c : CurT) (H : CurOk n c) (hn : n + 1000 ≤ 1099511627776) (most : Int) (hmost : 1 ≤ most ∧ most ≤ 9) : ∃ m c', Ev (fun k => spec_l1Cur_sureMaze k (c, most)) (m, c') ∧ OkMz m ∧ CurOk (n + 300) c' := by
  obtain ⟨r1, c1, e1, p1, q1, H1⟩ := pick_ev n c H (by omega) most
  obtain ⟨r2, c2, e2, p2, q2, H2⟩ := pick_ev _ c1 H1 (by omega) most
  have q1 := q1 hmost.1
  have q2 := q2 hmost.1
  obtain ⟨b, c3, e3, H3⟩ := one_ev _ c2 H2 (by omega) 2
  have w1 : w64 (1 + r1) = 1 + r1 := w64_of (by omega) (by omega)
  have w2 : w64 (1 + r2) = 1 + r2 := w64_of (by omega) (by omega)
  have hm := mul_range (a := 1 + r1) (b := 1 + r2) (by omega) (by omega) (by omega) (by omega)
  obtain ⟨s, c4, e4, s1, H4⟩ := sureMaze_l_ev (1 + r1) (1 + r2) b (by omega) (by omega) ((1 + r1) * (1 + r2)).toNat _ c3 ByteArray.empty H3 (by omega) (by show ((0 + _ : Nat) : Int) = _; omega) (fun c hc => by cases hc)
  obtain ⟨code, at_, seed⟩ := c
  refine ⟨(1 + r1, 1 + r2, s, b), c4, Ev.step (fun k => spec_l1Cur_sureMaze.eq k code at_ seed most) (Ev.bind e1 (Ev.bind e2 (Ev.bind e3 ?_))), s1, H4.up (by omega) (by omega)⟩
  simp only [w1, w2]
  exact Ev.bind e4 (Ev.now _)
theorem maze_ev (n : Nat) (c : CurT) (H : CurOk n c) (hn : n + 2000 ≤ 1099511627776) : ∃ m c', Ev (fun k => spec_l1Cur_maze k c) (m, c') ∧ m.2.2.1.size ≤ 1000 ∧ CurOk (n + 400) c' := by
  obtain ⟨M, c1, e1, HM, H1⟩ := sureMaze_ev n c H (by omega) 5 (by omega)
  have hz := HM.size
  obtain ⟨r, c2, e2, p, q, H2⟩ := pick_ev _ c1 H1 (by omega) 16
  obtain ⟨a, c4, e4, _, H4⟩ := among_ev _ c2 H2 (by omega) [(-1), 0, 1, 9, 10, 4611686018427387904] (by decide)
  obtain ⟨t, c5, e5, ht, H5⟩ := of_ev _ c2 H2 (by omega) [(bs [46]), (bs [120]), (bs [90])] (by decide)
  have ht1 : t.size ≤ 1 := by
    simp only [List.mem_cons, List.not_mem_nil, or_false] at ht
    rcases ht with rfl | rfl | rfl <;> decide
  obtain ⟨u, c6, e6, hu, H6⟩ := spoilt_ev _ c2 M.2.2.1 (bs [90, 83, 46, 120]) H2 (by omega) (by omega) (by decide)
  have hz2 : (M.2.2.1 ++ t).size = M.2.2.1.size + t.size := ByteArray.size_append
  obtain ⟨code, at_, seed⟩ := c
  by_cases r0 : r = 0
  · exact ⟨_, _, Ev.step (fun k => spec_l1Cur_maze.eq k code at_ seed) (Ev.bind e1 <| Ev.bind e2 <| Ev.yes (beq_iff_eq.2 r0) (Ev.bind e4 (Ev.now _))), by simp only; omega, H4.up (by omega) (by omega)⟩
  · have n0 := beq_eq_false_iff_ne.2 r0
    by_cases r1 : r = 1
    · exact ⟨_, _, Ev.step (fun k => spec_l1Cur_maze.eq k code at_ seed) (Ev.bind e1 <| Ev.bind e2 <| Ev.no n0 (Ev.yes (beq_iff_eq.2 r1) (Ev.bind e5 (Ev.yes (fitS_of (by simp only; omega)) (Ev.now _))))), by simp only; omega, H5.up (by omega) (by omega)⟩
    · have n1 := beq_eq_false_iff_ne.2 r1
      by_cases r2 : r = 2
      · exact ⟨_, _, Ev.step (fun k => spec_l1Cur_maze.eq k code at_ seed) (Ev.bind e1 <| Ev.bind e2 <| Ev.no n0 (Ev.no n1 (Ev.yes (beq_iff_eq.2 r2) (Ev.bind e6 (Ev.now _))))), by simp only; omega, H6.up (by omega) (by omega)⟩
      · exact ⟨_, _, Ev.step (fun k => spec_l1Cur_maze.eq k code at_ seed) (Ev.bind e1 <| Ev.bind e2 <| Ev.no n0 (Ev.no n1 (Ev.no (beq_eq_false_iff_ne.2 r2) (Ev.now _)))), by simp only; omega, H2.up (by omega) (by omega)⟩
theorem end_ev (n : Nat) (c : CurT) (H : CurOk n c) (hn : n + 3000 ≤ 1099511627776) : ∃ m e c', Ev (fun k => spec_l1Cur_end k c) ((m, e), c') ∧ m.2.2.1.size ≤ 1000 ∧ CurOk (n + 500) c' := by
  obtain ⟨M, c1, e1, hz, H1⟩ := maze_ev n c H (by omega)
  obtain ⟨g, eg, hg⟩ := miGood_ev M.1 M.2.1 M.2.2.1 M.2.2.2 (by omega)
  obtain ⟨o, c2, e2, H2⟩ := one_ev _ c1 H1 (by omega) 14
  obtain ⟨code, at_, seed⟩ := c
  cases g with
  | false =>
    obtain ⟨a, c3, e3, _, H3⟩ := among_ev _ c1 H1 (by omega) [(-1), 0, 36, 4611686018427387904] (by decide)
    exact ⟨M, _, _, Ev.step (fun k => spec_l1Cur_end.eq k code at_ seed) (Ev.bind e1 (Ev.bind eg (Ev.yes rfl (Ev.bind e3 (Ev.now _))))), hz, H3.up (by omega) (by omega)⟩
  | true =>
    cases o with
    | true =>
      obtain ⟨a, c3, e3, _, H3⟩ := among_ev _ c2 H2 (by omega) [(-1), 0, 36, 4611686018427387904] (by decide)
      exact ⟨M, _, _, Ev.step (fun k => spec_l1Cur_end.eq k code at_ seed) (Ev.bind e1 (Ev.bind eg (Ev.no rfl (Ev.bind e2 (Ev.yes rfl (Ev.bind e3 (Ev.now _))))))), hz, H3.up (by omega) (by omega)⟩
    | false =>
      have hM := hg.1 rfl
      obtain ⟨x, c3, e3, _, _, H3⟩ := pick_ev _ c2 H2 (by omega) (2 * (M.1 + M.2.1))
      exact ⟨M, _, _, Ev.step (fun k => spec_l1Cur_end.eq k code at_ seed) (Ev.bind e1 (Ev.bind eg (Ev.no rfl (Ev.bind e2 (Ev.no rfl (Ev.bind (miEnds_ev hM.1 hM.2.1 M.2.2.1 M.2.2.2) (Ev.bind e3 (Ev.now _)))))))), hz, H3.up (by omega) (by omega)⟩
end Go.Proofs.YtcmebphcoamohaaGreatDoorS
