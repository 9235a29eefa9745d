/- Mirrors: what is a maze, a ball; a ball goes through a cell. -/
import Derived.Test.YtcmebphcoamohaaDoorPuMiB
namespace Go.Proofs.YtcmebphcoamohaaDoorS
open Go
set_option linter.unusedVariables false
set_option linter.unusedSimpArgs false
def OkMz (m : MzT) : Prop := MazeOk m.1 m.2.1 m.2.2.1
def OkBa (m : MzT) (b : BaT) : Prop := OkMz m ∧ BallIn m.1 m.2.1 b ∧ WayOk b
abbrev zeroMz : MzT := (0, 0, ByteArray.empty, false)
abbrev zeroBa : BaT := (0, 0, 0)
theorem OkMz.size {m : MzT} (h : OkMz m) : m.2.2.1.size ≤ 81 := by
  have := mul_range h.1.1 h.1.2 h.2.1.1 h.2.1.2
  have := h.2.2.1
  omega
theorem mw64 {w h : Int} (hw : 1 ≤ w ∧ w ≤ 9) (hh : 1 ≤ h ∧ h ≤ 9) : w64 (w * h) = w * h := by
  have := mul_range hw.1 hw.2 hh.1 hh.2
  exact w64_of (by omega) (by omega)
theorem miGood_ev (w h : Int) (cs : ByteArray) (t : Bool) (hc : cs.size ≤ 1099511627776) : EvB (fun k => spec_miGood k (w, h, cs, t)) (OkMz (w, h, cs, t)) := by
  have sI : ∀ (i : Nat) (c : UInt8), cs.data.toList[i]? = some c → SignM c → ∀ r, Ev (fun k => spec_miGood_l k ((w, h, cs, t), ((i + 1 : Nat) : Int))) r → Ev (fun k => spec_miGood_l k ((w, h, cs, t), (i : Int))) r := fun i c hx hs r H => by
    have hi : i < cs.size := by rw [size_list]; exact (List.getElem?_eq_some_iff.1 hx).1
    refine Ev.step (fun k => spec_miGood_l.eq k w h cs t (i : Int)) (Ev.yes (lt_nat hi) (Ev.yes (inB_nat hi) ?_))
    rw [Int.toNat_natCast, bt_at hx, w64_succ (by omega)]
    rcases hs with rfl | rfl | rfl
    · exact Ev.no rfl H
    · exact Ev.yes rfl (Ev.yes (inB_nat hi) (Ev.no rfl H))
    · exact Ev.yes rfl (Ev.yes (inB_nat hi) (Ev.yes rfl (Ev.yes (inB_nat hi) (Ev.no rfl H))))
  have sO : ∀ (i : Nat) (c : UInt8), cs.data.toList[i]? = some c → ¬ SignM c → Ev (fun k => spec_miGood_l k ((w, h, cs, t), (i : Int))) (.inl false) := fun i c hx hs => by
    have hi : i < cs.size := by rw [size_list]; exact (List.getElem?_eq_some_iff.1 hx).1
    have ne : ∀ n : Nat, n < 256 → c ≠ UInt8.ofNat n → ((c.toNat : Int) != (n : Int)) = true := fun n hn h => by
      rw [bne_iff_ne]
      intro e
      exact h ((u8_eq hn).1 (beq_iff_eq.2 e))
    unfold SignM at hs
    refine Ev.step (fun k => spec_miGood_l.eq k w h cs t (i : Int)) (Ev.yes (lt_nat hi) (Ev.yes (inB_nat hi) ?_))
    rw [Int.toNat_natCast, bt_at hx]
    exact Ev.yes (ne 46 (by decide) fun e => hs (.inl e)) (Ev.yes (inB_nat hi) (Ev.yes (ne 90 (by decide) fun e => hs (.inr (.inl e))) (Ev.yes (inB_nat hi) (Ev.yes (ne 83 (by decide) fun e => hs (.inr (.inr e))) (Ev.now _)))))
  have srch := Ev.search (L := fun k i => spec_miGood_l k ((w, h, cs, t), i)) (n := cs.size) (fun i => ∃ c, cs.data.toList[i]? = some c ∧ ¬ SignM c) (fun i => .inl false) (.inr ())
    (fun i hi hp r H => by
      obtain ⟨c, hx⟩ := byte_at hi
      exact sI i c hx (Classical.byContradiction fun hn => hp ⟨c, hx, hn⟩) r H)
    (fun i hi ⟨c, hx, hn⟩ => sO i c hx hn)
    (Ev.step (fun k => spec_miGood_l.eq k w h cs t (cs.size : Int)) (Ev.no (not_lt_nat (Nat.lt_irrefl _)) (Ev.now _))) cs.size 0 (by omega)
  refine EvB.step (fun k => spec_miGood.eq k w h cs t) (EvB.and' (l1In_ev _ _ _) fun hw => EvB.and' (l1In_ev _ _ _) fun hh => ?_)
  rw [mw64 hw hh]
  refine EvB.ifN (P := (cs.size : Int) = w * h) (by rw [bne_eq_false_iff_eq]) fun hs => ?_
  rcases srch with ⟨h1, h2⟩ | ⟨j, _, hj, ⟨x, hx, hn⟩, _, h2⟩
  · refine ⟨true, Ev.bind h2 (Ev.now _), ⟨fun _ c hm => ?_, fun _ => rfl⟩⟩
    obtain ⟨i, hi⟩ := List.mem_iff_getElem?.1 hm
    exact Classical.byContradiction fun hn => h1 i (Nat.zero_le _) (by rw [size_list]; exact (List.getElem?_eq_some_iff.1 hi).1) ⟨c, hi, hn⟩
  · exact ⟨false, Ev.bind h2 (Ev.now _), ⟨nofun, fun h => absurd (h x (List.mem_of_getElem? hx)) hn⟩⟩
theorem trim_nil (l cs : List UInt8) : Lib.trimS l cs = [] ↔ l.all (fun c => cs.contains c) = true := by
  have dn : ∀ (p : UInt8 → Bool) (l : List UInt8), l.dropWhile p = [] ↔ l.all p = true := fun p l => by
    induction l with
    | nil => simp
    | cons x l ih => by_cases h : p x = true <;> simp [List.dropWhile_cons, h, ih]
  have da : ∀ (p : UInt8 → Bool) (l : List UInt8), (l.dropWhile p).all p = true ↔ l.all p = true := fun p l => by
    induction l with
    | nil => simp
    | cons x l ih => by_cases h : p x = true <;> simp [List.dropWhile_cons, h, ih]
  unfold Lib.trimS Lib.trimLeftS Lib.trimRightS
  rw [dn, List.all_reverse, da, List.all_reverse]
theorem isMaze_ev (w h : Int) (cs : ByteArray) (t : Bool) (hc : cs.size ≤ 1099511627776) : EvB (fun k => impl_IsMaze k (w, h, cs, t)) (OkMz (w, h, cs, t)) := by
  have hsz : EvB (fun k => impl_isSize k (w, h)) ((1 ≤ w ∧ w ≤ 9) ∧ (1 ≤ h ∧ h ≤ 9)) := EvB.step (fun k => impl_isSize.eq k w h) (EvB.and (within_ev _ _ _) fun _ => (within_ev _ _ _).ret)
  refine EvB.iff (EvB.step (fun k => impl_IsMaze.eq k w h cs t) (EvB.and hsz fun hwh => EvB.ifT (P := (cs.size : Int) = w * h) (Q := ∀ c ∈ cs.data.toList, SignM c) (by rw [mw64 hwh.1 hwh.2, beq_iff_eq]) fun _ => ?_)) ⟨fun h => ⟨h.1.1, h.1.2, h.2.1, h.2.2⟩, fun h => ⟨⟨h.1, h.2.1⟩, h.2.2.1, h.2.2.2⟩⟩
  have ht : strTrim cs (bs [46, 90, 83]) = some ⟨(Lib.trimS cs.data.toList [46, 90, 83]).toArray⟩ := if_pos ⟨by omega, by decide, by decide⟩
  refine ⟨_, Ev.bind (Ev.step (fun k => (strings_Trim.eq k (cs, bs [46, 90, 83])).trans ht) (Ev.now _)) (Ev.now _), ?_⟩
  rw [strEq_iff]
  have e1 : (⟨(Lib.trimS cs.data.toList [46, 90, 83]).toArray⟩ : ByteArray) = ByteArray.empty ↔ Lib.trimS cs.data.toList [46, 90, 83] = [] := by
    constructor
    · intro h
      have := congrArg (fun b : ByteArray => b.data.toList) h
      simpa using this
    · intro h
      rw [h]
      rfl
  rw [e1, trim_nil, List.all_eq_true]
  constructor
  · intro h c hc
    have := h c hc
    simp at this
    unfold SignM
    exact this
  · intro h c hc
    have := h c hc
    unfold SignM at this
    simp
    exact this
theorem sub64 {w : Int} (hw : 1 ≤ w ∧ w ≤ 9) : w64 (w - 1) = w - 1 := w64_of (by omega) (by omega)
theorem miBall_ev (m : MzT) (b : BaT) (hc : m.2.2.1.size ≤ 1099511627776) : EvB (fun k => spec_miBall k (m, b)) (OkBa m b) := by
  obtain ⟨w, h, cs, t⟩ := m
  obtain ⟨x, y, wy⟩ := b
  refine EvB.iff (EvB.step (fun k => spec_miBall.eq k w h cs t x y wy) (EvB.and (miGood_ev w h cs t hc) fun hM => EvB.and (P := 0 ≤ x ∧ x ≤ w - 1) (by rw [sub64 hM.1]; exact l1In_ev _ _ _) fun _ => EvB.and (P := 0 ≤ y ∧ y ≤ h - 1) (by rw [sub64 hM.2.1]; exact l1In_ev _ _ _) fun _ => (l1In_ev wy 0 3).ret)) ⟨fun h => ⟨h.1, ⟨h.2.1, h.2.2.1⟩, h.2.2.2⟩, fun h => ⟨h.1, h.2.1.1, h.2.1.2, h.2.2⟩⟩
theorem isBall_ev (m : MzT) (b : BaT) (hc : m.2.2.1.size ≤ 1099511627776) : EvB (fun k => impl_IsBall k (m, b)) (OkBa m b) := by
  obtain ⟨w, h, cs, t⟩ := m
  obtain ⟨x, y, wy⟩ := b
  exact EvB.iff (EvB.step (fun k => impl_IsBall.eq k w h cs t x y wy) (EvB.and (isMaze_ev w h cs t hc) fun hM => (isAnt_ev w h x y wy hM.1 hM.2.1).ret)) ⟨fun h => ⟨h.1, ⟨h.2.1, h.2.2.1⟩, h.2.2.2⟩, fun h => ⟨h.1, h.2.1.1, h.2.1.2, h.2.2⟩⟩
/-! ### Through a cell -/
theorem ahead_tail {w h x y wy : Int} (z : Int) (M : MzT) (C : Bool) (hw : 1 ≤ w ∧ w ≤ 9) (hh : 1 ≤ h ∧ h ≤ 9) (hx : 0 ≤ x ∧ x ≤ w - 1) (hy : 0 ≤ y ∧ y ≤ h - 1) (hwy : 0 ≤ wy ∧ wy ≤ 3) :
    Ev (fun k => (impl_ahead k wy).bind fun r1 => (impl_within k ((w64 (x + r1.1)), 0, (w64 (w - 1)))).bind fun r2 =>
      cond r2 ((impl_within k ((w64 (y + r1.2)), 0, (w64 (h - 1)))).bind fun r3 => some (M, ((w64 (x + r1.1)), (w64 (y + r1.2)), wy), C, r3)) (some (M, ((w64 (x + r1.1)), (w64 (y + r1.2)), wy), C, false)))
      (M, goB (x, y, z) wy, C, decide (BallIn w h (goB (x, y, z) wy))) := by
  obtain ⟨⟨d1, d2⟩, d3, d4⟩ := dW_range wy
  have ex : w64 (x + dxW wy) = x + dxW wy := w64_of (by omega) (by omega)
  have ey : w64 (y + dyW wy) = y + dyW wy := w64_of (by omega) (by omega)
  refine Ev.bind (ahead_ev wy hwy) ?_
  simp only [ex, ey, sub64 hw, sub64 hh]
  by_cases b1 : 0 ≤ x + dxW wy ∧ x + dxW wy ≤ w - 1
  · by_cases b2 : 0 ≤ y + dyW wy ∧ y + dyW wy ≤ h - 1
    · exact Ev.bind ((within_ev _ _ _).isT b1) (Ev.yes rfl (Ev.bind ((within_ev _ _ _).isT b2) (Ev.now' (by rw [decide_eq_true (show BallIn w h (goB (x, y, z) wy) from ⟨b1, b2⟩)]; rfl))))
    · exact Ev.bind ((within_ev _ _ _).isT b1) (Ev.yes rfl (Ev.bind ((within_ev _ _ _).isF b2) (Ev.now' (by rw [decide_eq_false (show ¬ BallIn w h (goB (x, y, z) wy) from fun h => b2 h.2)]; rfl))))
  · exact Ev.bind ((within_ev _ _ _).isF b1) (Ev.no rfl (Ev.now' (by rw [decide_eq_false (show ¬ BallIn w h (goB (x, y, z) wy) from fun h => b1 h.1)]; rfl)))
section
variable {w h : Int} {cs : ByteArray} {b : BaT} (t : Bool) (H : StOk w h (cs, b))
include H
theorem hit_ev : Ev (fun k => impl_Maze_hit k ((w, h, cs, t), b)) ((w, h, (hitS w t (cs, b)).1, t), (hitS w t (cs, b)).2, signB w cs b != 46, decide (BallIn w h (hitS w t (cs, b)).2)) := by
  obtain ⟨r1, r2, r3⟩ := cell_range H
  have hz := sign_cases H
  obtain ⟨x, y, wy⟩ := b
  obtain ⟨⟨hw, hh, hs, hc⟩, ⟨hx, hy⟩, hwy⟩ := H
  simp only [cellI] at r1 r2 r3 hx hy hs
  have hwy : 0 ≤ wy ∧ wy ≤ 3 := hwy
  have er := at_range hx hy hw hh
  have eI : w64 (w64 (y * w) + x) = y * w + x := by rw [w64_of (n := y * w) (by omega) (by omega), w64_of (by omega) (by omega)]
  have hB : inB (y * w + x) cs.size = true := inB_of r1 (by omega)
  have hL : inB (y * w + x) (bytesOf cs).length = true := by unfold bytesOf; rw [List.length_map, ← size_list]; exact hB
  obtain ⟨z, hzz⟩ : ∃ z, bt cs (y * w + x).toNat = z := ⟨_, rfl⟩
  have hz' : signB w cs (x, y, wy) = z := hzz
  rw [hz'] at hz
  have w0 : wy = 0 ∨ wy = 1 ∨ wy = 2 ∨ wy = 3 := by omega
  have set : ∀ n : Int, ofBytes ((bytesOf cs).set (y * w + x).toNat (w8 (173 - n))) = setByte cs (y * w + x).toNat (UInt8.ofNat (w8 (173 - n)).toNat) := fun n => setByte_a _ _ _
  refine Ev.step (fun k => impl_Maze_hit.eq k w h cs t x y wy) ?_
  unfold hitS hitC
  simp only [eI, hz', hzz, cellI]
  refine Ev.yes hB ?_
  rcases hz with rfl | rfl | rfl
  · refine Ev.no rfl (Ev.no rfl ?_)
    cases t
    · exact Ev.no rfl (ahead_tail wy _ _ hw hh hx hy hwy)
    · exact Ev.yes rfl (Ev.no rfl (ahead_tail wy _ _ hw hh hx hy hwy))
  · rw [set, show UInt8.ofNat (w8 (173 - 90)).toNat = flipB 90 by decide]
    cases t
    · rcases w0 with rfl | rfl | rfl | rfl
      · exact Ev.yes rfl (Ev.yes rfl (Ev.no rfl (ahead_tail (wy := 1) 0 _ _ hw hh hx hy (by decide))))
      · exact Ev.yes rfl (Ev.yes rfl (Ev.no rfl (ahead_tail (wy := 0) 1 _ _ hw hh hx hy (by decide))))
      · exact Ev.yes rfl (Ev.yes rfl (Ev.no rfl (ahead_tail (wy := 3) 2 _ _ hw hh hx hy (by decide))))
      · exact Ev.yes rfl (Ev.yes rfl (Ev.no rfl (ahead_tail (wy := 2) 3 _ _ hw hh hx hy (by decide))))
    · rcases w0 with rfl | rfl | rfl | rfl
      · exact Ev.yes rfl (Ev.yes rfl (Ev.yes rfl (Ev.yes rfl (Ev.yes hL (ahead_tail (wy := 1) 0 _ _ hw hh hx hy (by decide))))))
      · exact Ev.yes rfl (Ev.yes rfl (Ev.yes rfl (Ev.yes rfl (Ev.yes hL (ahead_tail (wy := 0) 1 _ _ hw hh hx hy (by decide))))))
      · exact Ev.yes rfl (Ev.yes rfl (Ev.yes rfl (Ev.yes rfl (Ev.yes hL (ahead_tail (wy := 3) 2 _ _ hw hh hx hy (by decide))))))
      · exact Ev.yes rfl (Ev.yes rfl (Ev.yes rfl (Ev.yes rfl (Ev.yes hL (ahead_tail (wy := 2) 3 _ _ hw hh hx hy (by decide))))))
  · rw [set, show UInt8.ofNat (w8 (173 - 83)).toNat = flipB 83 by decide]
    cases t
    · rcases w0 with rfl | rfl | rfl | rfl
      · exact Ev.no rfl (Ev.yes rfl (Ev.yes rfl (Ev.no rfl (ahead_tail (wy := 3) 0 _ _ hw hh hx hy (by decide)))))
      · exact Ev.no rfl (Ev.yes rfl (Ev.yes rfl (Ev.no rfl (ahead_tail (wy := 2) 1 _ _ hw hh hx hy (by decide)))))
      · exact Ev.no rfl (Ev.yes rfl (Ev.yes rfl (Ev.no rfl (ahead_tail (wy := 1) 2 _ _ hw hh hx hy (by decide)))))
      · exact Ev.no rfl (Ev.yes rfl (Ev.yes rfl (Ev.no rfl (ahead_tail (wy := 0) 3 _ _ hw hh hx hy (by decide)))))
    · rcases w0 with rfl | rfl | rfl | rfl
      · exact Ev.no rfl (Ev.yes rfl (Ev.yes rfl (Ev.yes rfl (Ev.yes rfl (Ev.yes hL (ahead_tail (wy := 3) 0 _ _ hw hh hx hy (by decide)))))))
      · exact Ev.no rfl (Ev.yes rfl (Ev.yes rfl (Ev.yes rfl (Ev.yes rfl (Ev.yes hL (ahead_tail (wy := 2) 1 _ _ hw hh hx hy (by decide)))))))
      · exact Ev.no rfl (Ev.yes rfl (Ev.yes rfl (Ev.yes rfl (Ev.yes rfl (Ev.yes hL (ahead_tail (wy := 1) 2 _ _ hw hh hx hy (by decide)))))))
      · exact Ev.no rfl (Ev.yes rfl (Ev.yes rfl (Ev.yes rfl (Ev.yes rfl (Ev.yes hL (ahead_tail (wy := 0) 3 _ _ hw hh hx hy (by decide)))))))
theorem miHit_ev : Ev (fun k => spec_miHit k ((w, h, cs, t), b)) ((w, h, (hitS w t (cs, b)).1, t), (hitS w t (cs, b)).2) := by
  obtain ⟨r1, r2, r3⟩ := cell_range H
  have hz := sign_cases H
  obtain ⟨x, y, wy⟩ := b
  obtain ⟨⟨hw, hh, hs, hc⟩, ⟨hx, hy⟩, hwy⟩ := H
  simp only [cellI] at r1 r2 r3 hx hy hs
  have hwy : 0 ≤ wy ∧ wy ≤ 3 := hwy
  have er := at_range hx hy hw hh
  have eI : w64 (w64 (y * w) + x) = y * w + x := by rw [w64_of (n := y * w) (by omega) (by omega), w64_of (by omega) (by omega)]
  have eJ : w64 (y * w + x + 1) = y * w + x + 1 := w64_of (by omega) (by omega)
  have hB : inB (y * w + x) cs.size = true := inB_of r1 (by omega)
  have d1 : ((decide ((0 : Int) ≤ y * w + x)) && (decide (y * w + x ≤ (cs.size : Int)))) = true := by rw [decide_eq_true r1, decide_eq_true (by omega)]; rfl
  have d2 : ((decide ((0 : Int) ≤ y * w + x + 1)) && (decide (y * w + x + 1 ≤ (cs.size : Int)))) = true := by rw [decide_eq_true (by omega), decide_eq_true (by omega)]; rfl
  have hm := mul_range hw.1 hw.2 hh.1 hh.2
  have x1 : (cs.extract 0 (y * w + x).toNat).size ≤ 81 := by rw [ByteArray.size_extract]; omega
  have x2 : (cs.extract (y * w + x + 1).toNat cs.size).size ≤ 81 := by rw [ByteArray.size_extract]; omega
  have f1 : ∀ c : UInt8, fitS (cs.extract 0 (y * w + x).toNat) (bs [c]) = true := fun c => fitS_of (by have : (bs [c]).size = 1 := rfl; omega)
  have f2 : ∀ c : UInt8, fitS (cs.extract 0 (y * w + x).toNat ++ bs [c]) (cs.extract (y * w + x + 1).toNat cs.size) = true := fun c => fitS_of (by have : (bs [c]).size = 1 := rfl; rw [ByteArray.size_append]; omega)
  have set : ∀ c : UInt8, cs.extract 0 (y * w + x).toNat ++ bs [c] ++ cs.extract (y * w + x + 1).toNat cs.size = setByte cs (y * w + x).toNat c := fun c => by
    have := setByte_b cs (y * w + x).toNat (c.toNat : Int) r2
    rw [show (y * w + x + 1).toNat = (y * w + x).toNat + 1 by omega, show bs [c] = ofBytes [(c.toNat : Int)] by simp [bs, ofBytes], this]
    simp
  have ym : w64 (y - 1) = y + -1 := by rw [w64_of (by omega) (by omega)]; omega
  have yp : w64 (y + 1) = y + 1 := w64_of (by omega) (by omega)
  have xm : w64 (x - 1) = x + -1 := by rw [w64_of (by omega) (by omega)]; omega
  have xp : w64 (x + 1) = x + 1 := w64_of (by omega) (by omega)
  have wm : w64 (3 - wy) = 3 - wy := w64_of (by omega) (by omega)
  have fin0 : ∀ (M : MzT) (wz : Int), wz = 0 ∨ wz = 1 ∨ wz = 2 ∨ wz = 3 → Ev (fun k : Nat => cond (wz == 0) (some (M, (x, y + -1, wz))) (cond (wz == 1) (some (M, (x + 1, y, wz))) (cond (wz == 2) (some (M, (x, y + 1, wz))) (some (M, (x + -1, y, wz)))))) (M, goB (x, y, wy) wz) := fun M wz h => by
    rcases h with rfl | rfl | rfl | rfl
    · exact Ev.yes rfl (Ev.now' (by simp [goB, dxW, dyW]))
    · exact Ev.no rfl (Ev.yes rfl (Ev.now' (by simp [goB, dxW, dyW])))
    · exact Ev.no rfl (Ev.no rfl (Ev.yes rfl (Ev.now' (by simp [goB, dxW, dyW]))))
    · exact Ev.no rfl (Ev.no rfl (Ev.no rfl (Ev.now' (by simp [goB, dxW, dyW]))))
  obtain ⟨z, hzz⟩ : ∃ z, bt cs (y * w + x).toNat = z := ⟨_, rfl⟩
  have hz' : signB w cs (x, y, wy) = z := hzz
  rw [hz'] at hz
  have w0 : wy = 0 ∨ wy = 1 ∨ wy = 2 ∨ wy = 3 := by omega
  have xo : xorI .i64 wy 1 = turnB 90 wy := by rcases w0 with rfl | rfl | rfl | rfl <;> decide
  have to := turnB_ok (z := 90) hwy
  refine Ev.step (fun k => spec_miHit.eq k w h cs t x y wy) ?_
  unfold hitS hitC
  simp only [eI, eJ, hz', hzz, cellI, ym, yp, xm, xp, wm, xo, set]
  refine Ev.yes hB ?_
  rcases hz with rfl | rfl | rfl
  · refine Ev.no rfl (Ev.no rfl ?_)
    cases t
    · exact Ev.no rfl (fin0 _ wy w0)
    · exact Ev.yes rfl (Ev.no rfl (fin0 _ wy w0))
  · refine Ev.yes rfl ?_
    cases t
    · exact Ev.no rfl (fin0 _ (turnB 90 wy) (by omega))
    · exact Ev.yes rfl (Ev.yes rfl (Ev.yes d1 (Ev.yes (f1 _) (Ev.yes d2 (Ev.yes (f2 _) (fin0 _ (turnB 90 wy) (by omega)))))))
  · refine Ev.no rfl (Ev.yes rfl ?_)
    cases t
    · exact Ev.no rfl (fin0 _ (3 - wy) (by omega))
    · exact Ev.yes rfl (Ev.yes rfl (Ev.yes d1 (Ev.yes (f1 _) (Ev.yes d2 (Ev.yes (f2 _) (fin0 _ (3 - wy) (by omega)))))))
theorem miAt_ev : Ev (fun k => spec_miAt k ((w, h, cs, t), b)) (signB w cs b) := by
  obtain ⟨r1, r2, r3⟩ := cell_range H
  obtain ⟨x, y, wy⟩ := b
  obtain ⟨⟨hw, hh, hs, hc⟩, ⟨hx, hy⟩, hwy⟩ := H
  simp only [cellI] at r1 r2 r3 hx hy hs
  have er := at_range hx hy hw hh
  have eI : w64 (w64 (y * w) + x) = y * w + x := by rw [w64_of (n := y * w) (by omega) (by omega), w64_of (by omega) (by omega)]
  refine Ev.step (fun k => spec_miAt.eq k w h cs t x y wy) ?_
  rw [eI]
  exact Ev.yes (inB_of r1 (by omega)) (Ev.now _)
end
end Go.Proofs.YtcmebphcoamohaaDoorS
