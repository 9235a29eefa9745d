/- Mirrors as functions: hits, runs, potentials: each ball comes out of mirrors that turn. -/
import Derived.Test.YtcmebphcoamohaaDoorPuBase
namespace Go.Proofs.YtcmebphcoamohaaDoorS
open Go
set_option linter.unusedVariables false
set_option linter.unusedSimpArgs false
abbrev MzT := Int × Int × ByteArray × Bool
abbrev BaT := Int × Int × Int
def SignM (c : UInt8) : Prop := c = 46 ∨ c = 90 ∨ c = 83
def MazeOk (w h : Int) (cs : ByteArray) : Prop := (1 ≤ w ∧ w ≤ 9) ∧ (1 ≤ h ∧ h ≤ 9) ∧ (cs.size : Int) = w * h ∧ ∀ c ∈ cs.data.toList, SignM c
def BallIn (w h : Int) (b : BaT) : Prop := (0 ≤ b.1 ∧ b.1 ≤ w - 1) ∧ (0 ≤ b.2.1 ∧ b.2.1 ≤ h - 1)
instance (w h : Int) (b : BaT) : Decidable (BallIn w h b) := inferInstanceAs (Decidable (_ ∧ _))
def WayOk (b : BaT) : Prop := 0 ≤ b.2.2 ∧ b.2.2 ≤ 3
def turnB (z wy : Int) : Int := if z = 90 then (if wy = 0 then 1 else if wy = 1 then 0 else if wy = 2 then 3 else 2) else if z = 83 then 3 - wy else wy
def goB (b : BaT) (wy : Int) : BaT := (b.1 + dxW wy, b.2.1 + dyW wy, wy)
def cellI (w : Int) (b : BaT) : Int := b.2.1 * w + b.1
def signB (w : Int) (cs : ByteArray) (b : BaT) : Int := bt cs (cellI w b).toNat
def flipB (z : Int) : UInt8 := if z = 90 then 83 else 90
abbrev StM := ByteArray × BaT
def hitC (w : Int) (s : StM) : ByteArray := if signB w s.1 s.2 = 46 then s.1 else setByte s.1 (cellI w s.2).toNat (flipB (signB w s.1 s.2))
def hitS (w : Int) (t : Bool) (s : StM) : StM := (if t then hitC w s else s.1, goB s.2 (turnB (signB w s.1 s.2) s.2.2.2))
def runS (w : Int) (t : Bool) : Nat → StM → StM
  | 0, s => s
  | n + 1, s => runS w t n (hitS w t s)
def mirB (w : Int) (s : StM) : Nat := if signB w s.1 s.2 = 46 then 0 else 1
def hitsS (w : Int) (t : Bool) : Nat → StM → Nat
  | 0, s => 0
  | n + 1, s => mirB w s + hitsS w t n (hitS w t s)
def StOk (w h : Int) (s : StM) : Prop := MazeOk w h s.1 ∧ BallIn w h s.2 ∧ WayOk s.2
def OutAt (w h : Int) (t : Bool) (s : StM) (n : Nat) : Prop := (∀ i, i < n → BallIn w h (runS w t i s).2) ∧ ¬ BallIn w h (runS w t n s).2
theorem runS_succ (w : Int) (t : Bool) : ∀ (n : Nat) (s : StM), runS w t (n + 1) s = hitS w t (runS w t n s)
  | 0, s => rfl
  | n + 1, s => runS_succ w t n (hitS w t s)
theorem runS_add (w : Int) (t : Bool) : ∀ (n m : Nat) (s : StM), runS w t (n + m) s = runS w t m (runS w t n s)
  | 0, m, s => by rw [Nat.zero_add]; rfl
  | n + 1, m, s => by rw [show n + 1 + m = n + m + 1 by omega]; exact runS_add w t n m (hitS w t s)
theorem way_cases {b : BaT} (h : WayOk b) : b.2.2 = 0 ∨ b.2.2 = 1 ∨ b.2.2 = 2 ∨ b.2.2 = 3 := by unfold WayOk at h; omega
theorem turnB_ok {z wy : Int} (h : 0 ≤ wy ∧ wy ≤ 3) : 0 ≤ turnB z wy ∧ turnB z wy ≤ 3 := by
  unfold turnB
  split
  · split
    · omega
    · split
      · omega
      · split <;> omega
  · split <;> omega
section
variable {w h : Int} {s : StM} (H : StOk w h s)
include H
theorem cell_range : 0 ≤ cellI w s.2 ∧ (cellI w s.2).toNat < s.1.size ∧ (cellI w s.2).toNat < 81 := by
  obtain ⟨⟨hw, hh, hs, hc⟩, ⟨hx, hy⟩, _⟩ := H
  obtain ⟨_, _, a3, a4⟩ := at_range hx hy hw hh
  have := mul_range hw.1 hw.2 hh.1 hh.2
  unfold cellI
  omega
theorem sign_at : ∃ c : UInt8, s.1.data.toList[(cellI w s.2).toNat]? = some c ∧ signB w s.1 s.2 = (c.toNat : Int) ∧ SignM c := by
  obtain ⟨_, h2, _⟩ := cell_range H
  obtain ⟨c, hc⟩ := byte_at h2
  exact ⟨c, hc, bt_at hc, H.1.2.2.2 c (List.mem_of_getElem? hc)⟩
theorem sign_cases : signB w s.1 s.2 = 46 ∨ signB w s.1 s.2 = 90 ∨ signB w s.1 s.2 = 83 := by
  obtain ⟨c, _, h2, h3⟩ := sign_at H
  rw [h2]
  rcases h3 with rfl | rfl | rfl <;> decide
theorem hitC_ok : MazeOk w h (hitC w s) := by
  unfold hitC
  split
  · exact H.1
  · obtain ⟨hw, hh, hs, hc⟩ := H.1
    refine ⟨hw, hh, by rw [setByte_size]; exact hs, fun c hc' => ?_⟩
    have hc' : c ∈ s.1.data.toList.set (cellI w s.2).toNat (flipB (signB w s.1 s.2)) := hc'
    rcases List.mem_or_eq_of_mem_set hc' with h1 | h1
    · exact hc c h1
    · rw [h1]
      unfold flipB SignM
      split
      · exact .inr (.inr rfl)
      · exact .inr (.inl rfl)
theorem hit_ok (t : Bool) : MazeOk w h (hitS w t s).1 ∧ WayOk (hitS w t s).2 := by
  refine ⟨?_, turnB_ok H.2.2⟩
  cases t with
  | true => exact hitC_ok H
  | false => exact H.1
end
theorem run_ok {w h : Int} (t : Bool) : ∀ (n : Nat) (s : StM), StOk w h s → (∀ i, i < n → BallIn w h (runS w t i s).2) → MazeOk w h (runS w t n s).1 ∧ WayOk (runS w t n s).2
  | 0, s, H, hb => ⟨H.1, H.2.2⟩
  | n + 1, s, H, hb => by
    obtain ⟨h1, h2⟩ := run_ok t n s H (fun i hi => hb i (by omega))
    rw [runS_succ]
    exact hit_ok ⟨h1, hb n (by omega), h2⟩ t
theorem run_st {w h : Int} (t : Bool) (n : Nat) (s : StM) (H : StOk w h s) (hb : ∀ i, i ≤ n → BallIn w h (runS w t i s).2) : StOk w h (runS w t n s) := by
  obtain ⟨h1, h2⟩ := run_ok t n s H (fun i hi => hb i (by omega))
  exact ⟨h1, hb n (Nat.le_refl _), h2⟩
/-- The least step at which a ball is out, if there is one. -/
theorem out_least (w h : Int) (t : Bool) (s : StM) : ∀ n : Nat, (∀ i, i ≤ n → BallIn w h (runS w t i s).2) ∨ ∃ k, k ≤ n ∧ OutAt w h t s k
  | 0 => by
    by_cases hb : BallIn w h (runS w t 0 s).2
    · exact .inl fun i hi => by obtain rfl : i = 0 := by omega
                                exact hb
    · exact .inr ⟨0, Nat.le_refl _, fun i hi => by omega, hb⟩
  | n + 1 => by
    rcases out_least w h t s n with h1 | ⟨k, h1, h2⟩
    · by_cases hb : BallIn w h (runS w t (n + 1) s).2
      · refine .inl fun i hi => ?_
        by_cases hi' : i = n + 1
        · rw [hi']; exact hb
        · exact h1 i (by omega)
      · exact .inr ⟨n + 1, Nat.le_refl _, fun i hi => h1 i (by omega), hb⟩
    · exact .inr ⟨k, by omega, h2⟩
/-! ### Potentials -/
def pT : List (List Int) := [[4121, 1373, 347, 59, 5, -5, -59, -347, -1373, -4121], [1208, 512, 170, 38, 4, -4, -38, -170, -512, -1208], [263, 143, 65, 21, 3, -3, -21, -65, -143, -263], [38, 26, 16, 8, 2, -2, -8, -16, -26, -38], [5, 4, 3, 2, 1, -1, -2, -3, -4, -5], [38, 26, 16, 8, 2, -2, -8, -16, -26, -38], [263, 143, 65, 21, 3, -3, -21, -65, -143, -263], [1208, 512, 170, 38, 4, -4, -38, -170, -512, -1208], [4121, 1373, 347, 59, 5, -5, -59, -347, -1373, -4121]]
def qT : List (List Int) := [[4121, 1208, 263, 38, 5, 38, 263, 1208, 4121], [1373, 512, 143, 26, 4, 26, 143, 512, 1373], [347, 170, 65, 16, 3, 16, 65, 170, 347], [59, 38, 21, 8, 2, 8, 21, 38, 59], [5, 4, 3, 2, 1, 2, 3, 4, 5], [-5, -4, -3, -2, -1, -2, -3, -4, -5], [-59, -38, -21, -8, -2, -8, -21, -38, -59], [-347, -170, -65, -16, -3, -16, -65, -170, -347], [-1373, -512, -143, -26, -4, -26, -143, -512, -1373], [-4121, -1208, -263, -38, -5, -38, -263, -1208, -4121]]
def aT : List (List Int) := [[2747, 860, 203, 32, 0, -32, -203, -860, -2747], [860, 341, 104, 21, 0, -21, -104, -341, -860], [203, 104, 43, 12, 0, -12, -43, -104, -203], [32, 21, 12, 5, 0, -5, -12, -21, -32], [0, 0, 0, 0, 0, 0, 0, 0, 0], [-32, -21, -12, -5, 0, 5, 12, 21, 32], [-203, -104, -43, -12, 0, 12, 43, 104, 203], [-860, -341, -104, -21, 0, 21, 104, 341, 860], [-2747, -860, -203, -32, 0, 32, 203, 860, 2747]]
def tabM (l : List (List Int)) (i j : Nat) : Int := (l.getD i []).getD j 0
def potB (b : BaT) : Int := if b.2.2 = 0 then tabM qT (b.2.1 + 1).toNat b.1.toNat else if b.2.2 = 1 then -(tabM pT b.2.1.toNat b.1.toNat) else if b.2.2 = 2 then -(tabM qT b.2.1.toNat b.1.toNat) else tabM pT b.2.1.toNat (b.1 + 1).toNat
def valA (w i : Nat) (c : UInt8) : Int := if c = 83 then tabM aT (i / w) (i % w) else 0
def sumA (w : Nat) : Nat → List UInt8 → Int
  | _, [] => 0
  | i, c :: l => valA w i c + sumA w (i + 1) l
theorem pot_facts : ∀ y x : Fin 9, 1 ≤ tabM pT y x + tabM qT y x + tabM aT y x ∧ 1 ≤ tabM aT y x - tabM pT y (x + 1) - tabM qT (y + 1) x ∧ 1 ≤ tabM pT y x - tabM qT (y + 1) x - tabM aT y x ∧ 1 ≤ tabM qT y x - tabM pT y (x + 1) - tabM aT y x ∧
    1 ≤ tabM pT y x - tabM pT y (x + 1) ∧ 1 ≤ tabM qT y x - tabM qT (y + 1) x ∧ (-4121 ≤ tabM pT y x ∧ tabM pT y x ≤ 4121) ∧ (-4121 ≤ tabM qT y x ∧ tabM qT y x ≤ 4121) ∧ (-4121 ≤ tabM pT y (x + 1) ∧ tabM pT y (x + 1) ≤ 4121) ∧ (-4121 ≤ tabM qT (y + 1) x ∧ tabM qT (y + 1) x ≤ 4121) := by decide
theorem a_facts : ∀ y x : Nat, -2747 ≤ tabM aT y x ∧ tabM aT y x ≤ 2747 := by
  have h : ∀ r ∈ aT, ∀ v ∈ r, -2747 ≤ v ∧ v ≤ 2747 := by decide
  intro y x
  unfold tabM
  rw [List.getD_eq_getElem?_getD, List.getD_eq_getElem?_getD]
  cases h1 : aT[y]? with
  | none => simp
  | some r =>
    rw [Option.getD_some]
    cases h2 : r[x]? with
    | none => simp
    | some v => exact h r (List.mem_of_getElem? h1) v (List.mem_of_getElem? h2)
theorem sumA_range (w : Nat) : ∀ (l : List UInt8) (i : Nat), -2747 * (l.length : Int) ≤ sumA w i l ∧ sumA w i l ≤ 2747 * (l.length : Int)
  | [], i => by simp [sumA]
  | c :: l, i => by
    have h := sumA_range w l (i + 1)
    have h2 : -2747 ≤ valA w i c ∧ valA w i c ≤ 2747 := by
      unfold valA
      split
      · exact a_facts _ _
      · omega
    simp only [sumA, List.length_cons]
    omega
theorem sumA_set (w : Nat) (d : UInt8) : ∀ (l : List UInt8) (i j : Nat) (c : UInt8), l[j]? = some c → sumA w i (l.set j d) = sumA w i l - valA w (i + j) c + valA w (i + j) d
  | [], i, j, c, h => by simp at h
  | e :: l, i, 0, c, h => by
    obtain rfl : e = c := by simpa using h
    simp only [List.set_cons_zero, sumA, Nat.add_zero]
    omega
  | e :: l, i, j + 1, c, h => by
    have h1 : l[j]? = some c := by simpa using h
    have := sumA_set w d l (i + 1) j c h1
    simp only [List.set_cons_succ, sumA]
    rw [this, show i + 1 + j = i + (j + 1) by omega]
    omega
def potS (w : Int) (s : StM) : Int := sumA w.toNat 0 s.1.data.toList + potB s.2
theorem pot_step {w h : Int} {s : StM} (H : StOk w h s) : potS w s + 1 ≤ potS w (hitS w true s) := by
  obtain ⟨cs, x, y, wy⟩ := s
  obtain ⟨c, hc, hz, hS⟩ := sign_at H
  obtain ⟨⟨hw, hh, hs, _⟩, ⟨hx, hy⟩, hwy⟩ := H
  simp only [cellI] at hc hz hx hy
  obtain ⟨_, _, r3, _⟩ := at_range hx hy hw hh
  obtain ⟨X, rfl⟩ := Int.eq_ofNat_of_zero_le hx.1
  obtain ⟨Y, rfl⟩ := Int.eq_ofNat_of_zero_le hy.1
  obtain ⟨W, rfl⟩ := Int.eq_ofNat_of_zero_le (show 0 ≤ w by omega)
  have hi : ((Y : Int) * (W : Int) + (X : Int)).toNat = Y * W + X := by
    rw [show (Y : Int) * (W : Int) + (X : Int) = ((Y * W + X : Nat) : Int) by simp]
    rfl
  have hdiv : (Y * W + X) / W = Y := by rw [Nat.mul_comm, Nat.mul_add_div (by omega), Nat.div_eq_of_lt (by omega)]; omega
  have hmod : (Y * W + X) % W = X := by rw [Nat.mul_comm, Nat.mul_add_mod, Nat.mod_eq_of_lt (by omega)]
  rw [hi] at hc
  have F := pot_facts ⟨Y, by omega⟩ ⟨X, by omega⟩
  simp only at F
  have e1 : ((Y : Int) + 1).toNat = Y + 1 := by omega
  have e2 : ((X : Int) + 1).toNat = X + 1 := by omega
  have e3 : ((X : Int) + 0).toNat = X := by omega
  have e4 : ((Y : Int) + -1 + 1).toNat = Y := by omega
  have e5 : ((X : Int) + -1 + 1).toNat = X := by omega
  have e6 : ((Y : Int) + 0).toNat = Y := by omega
  have e7 : ((Y : Int)).toNat = Y := by omega
  have e8 : ((X : Int)).toNat = X := by omega
  have e9 : ((W : Int)).toNat = W := by omega
  have set : ∀ d : UInt8, sumA W 0 (setByte cs (Y * W + X) d).data.toList = sumA W 0 cs.data.toList - valA W (Y * W + X) c + valA W (Y * W + X) d := fun d => by
    have := sumA_set W d cs.data.toList 0 (Y * W + X) c hc
    rw [Nat.zero_add] at this
    exact this
  unfold potS hitS
  simp only [if_true, hitC, signB, cellI]
  unfold signB cellI at hz
  simp only at hz
  rw [hi] at hz
  simp only [hi, hz, e9]
  rcases hS with rfl | rfl | rfl
  · simp only [show ((UInt8.toNat 46 : Nat) : Int) = 46 from rfl]
    simp only [if_true]
    rcases way_cases (b := ((X : Int), (Y : Int), wy)) hwy with h1 | h1 | h1 | h1 <;> (simp only at h1; subst h1; simp [potB, goB, turnB, dxW, dyW, e1, e2, e3, e4, e5, e6, e7, e8]; omega)
  · simp only [show ((UInt8.toNat 90 : Nat) : Int) = 90 from rfl]
    rw [if_neg (by decide), show flipB 90 = 83 from rfl, set]
    have v1 : valA W (Y * W + X) 90 = 0 := rfl
    have v2 : valA W (Y * W + X) 83 = tabM aT Y X := by unfold valA; rw [if_pos rfl, hdiv, hmod]
    rw [v1, v2]
    rcases way_cases (b := ((X : Int), (Y : Int), wy)) hwy with h1 | h1 | h1 | h1 <;> (simp only at h1; subst h1; simp [potB, goB, turnB, dxW, dyW, e1, e2, e3, e4, e5, e6, e7, e8]; omega)
  · simp only [show ((UInt8.toNat 83 : Nat) : Int) = 83 from rfl]
    rw [if_neg (by decide), show flipB 83 = 90 from rfl, set]
    have v1 : valA W (Y * W + X) 90 = 0 := rfl
    have v2 : valA W (Y * W + X) 83 = tabM aT Y X := by unfold valA; rw [if_pos rfl, hdiv, hmod]
    rw [v1, v2]
    rcases way_cases (b := ((X : Int), (Y : Int), wy)) hwy with h1 | h1 | h1 | h1 <;> (simp only at h1; subst h1; simp [potB, goB, turnB, dxW, dyW, e1, e2, e3, e4, e5, e6, e7, e8]; omega)
theorem pot_range {w h : Int} {s : StM} (H : StOk w h s) : -226628 ≤ potS w s ∧ potS w s ≤ 226628 := by
  obtain ⟨cs, x, y, wy⟩ := s
  obtain ⟨⟨hw, hh, hs, _⟩, ⟨hx, hy⟩, hwy⟩ := H
  have hm := mul_range hw.1 hw.2 hh.1 hh.2
  simp only at hx hy
  obtain ⟨X, rfl⟩ := Int.eq_ofNat_of_zero_le hx.1
  obtain ⟨Y, rfl⟩ := Int.eq_ofNat_of_zero_le hy.1
  have F := pot_facts ⟨Y, by omega⟩ ⟨X, by omega⟩
  simp only at F
  have hl := size_list cs
  have h1 := sumA_range w.toNat cs.data.toList 0
  simp only at hs
  have e1 : ((Y : Int) + 1).toNat = Y + 1 := by omega
  have e2 : ((X : Int) + 1).toNat = X + 1 := by omega
  have e7 : ((Y : Int)).toNat = Y := by omega
  have e8 : ((X : Int)).toNat = X := by omega
  unfold potS potB
  simp only [e1, e2, e7, e8]
  split
  · omega
  · split
    · omega
    · split <;> omega
/-- A ball among mirrors that turn comes out. -/
theorem turning_out {w h : Int} {s : StM} (H : StOk w h s) : ∃ n, n ≤ 453257 ∧ OutAt w h true s n := by
  rcases out_least w h true s 453257 with h1 | h1
  · exfalso
    have up : ∀ n, n ≤ 453257 → potS w s + n ≤ potS w (runS w true n s) := by
      intro n
      induction n with
      | zero => intro _; show potS w s + ((0 : Nat) : Int) ≤ potS w s; omega
      | succ n ih =>
        intro hn
        have a := ih (by omega)
        have b := pot_step (run_st true n s H fun i hi => h1 i (by omega))
        rw [runS_succ]
        omega
    have a := up 453257 (Nat.le_refl _)
    have b := pot_range (run_st true 453257 s H h1)
    have c := pot_range H
    omega
  · exact h1
end Go.Proofs.YtcmebphcoamohaaDoorS
