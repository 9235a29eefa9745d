/- What a clue tells of a world. -/
import Derived.Test.YthobhonnicadaaaDoorPuFilter
import Derived.Test.YthobhonnicadaaaDoorPuWo
namespace Go.Proofs.YthobhonnicadaaaDoorS
open Go
set_option linter.unusedVariables false
set_option linter.unusedSimpArgs false

/-! ### What a clue tells -/
theorem steps_ev (kind : Int) (rl : ByteArray) (w h : Int) (n : Nat) (hn : n ≤ 1000) : ∀ (m i : Nat) (cs : ByteArray) (x y wy : Int), WorldOk rl w h cs x y wy → i + m = n → ∃ cs' x' y' wy', WorldOk rl w h cs' x' y' wy' ∧
    Ev (fun k => impl_told_l_2 k (kind, (rl, w, h, cs, x, y, wy), (n : Int), (i : Int))) (kind, (rl, w, h, cs', x', y', wy')) ∧ Ev (fun k => spec_pzValue_l k (kind, (m : Int), (rl, w, h, cs, x, y, wy), 0, 0)) (kind, 0, (rl, w, h, cs', x', y', wy'), 0, 0)
  | 0, i, cs, x, y, wy, H, hi => ⟨cs, x, y, wy, H, Ev.step (fun k => impl_told_l_2.eq k kind rl w h cs x y wy (n : Int) (i : Int)) (Ev.no (not_lt_nat (by omega)) (Ev.now _)), Ev.step (fun k => spec_pzValue_l.eq k kind 0 rl w h cs x y wy 0 0) (Ev.no rfl (Ev.now _))⟩
  | m + 1, i, cs, x, y, wy, H, hi => by
    obtain ⟨cs1, x1, y1, wy1, p1, p2, H1⟩ := wstep_ev rl w h cs x y wy H
    obtain ⟨cs2, x2, y2, wy2, H2, q1, q2⟩ := steps_ev kind rl w h n hn m (i + 1) cs1 x1 y1 wy1 H1 (by omega)
    refine ⟨cs2, x2, y2, wy2, H2, ?_, ?_⟩
    · refine Ev.step (fun k => impl_told_l_2.eq k kind rl w h cs x y wy (n : Int) (i : Int)) (Ev.yes (lt_nat (by omega)) (Ev.bind p1 ?_))
      rw [w64_succ (by omega)]
      exact q1
    · refine Ev.step (fun k => spec_pzValue_l.eq k kind ((m + 1 : Nat) : Int) rl w h cs x y wy 0 0) (Ev.yes (decide_eq_true (by omega)) (Ev.bind p2 ?_))
      rw [show w64 (((m + 1 : Nat) : Int) - 1) = (m : Int) by rw [w64_of (by omega) (by omega)]; omega]
      exact q2
def sumD : List UInt8 → Int
  | [] => 0
  | c :: r => ((c.toNat : Int) - 48) + sumD r
theorem drop_at {cs : ByteArray} {i : Nat} {c : UInt8} (h : cs.data.toList[i]? = some c) : cs.data.toList.drop i = c :: cs.data.toList.drop (i + 1) := by
  obtain ⟨hlt, he⟩ := List.getElem?_eq_some_iff.1 h
  rw [List.drop_eq_getElem_cons hlt, he]
theorem sums_ev (kind a : Int) (rl : ByteArray) (w h : Int) (cs : ByteArray) (x y wy : Int) (hsz : cs.size ≤ 81) (hcs : CellsOk 9 cs) : ∀ (m i : Nat) (sum free : Int), i + m = cs.size → 0 ≤ sum → sum ≤ 9 * i → 0 ≤ free → free ≤ i →
    Ev (fun k => spec_pzValue_l_2 k (kind, a, (rl, w, h, cs, x, y, wy), sum, free, (i : Int))) (kind, a, (rl, w, h, cs, x, y, wy), sum + sumD (cs.data.toList.drop i), free + ((cs.data.toList.drop i).count 48 : Int))
  | 0, i, sum, free, hi, h0, h1, h2, h3 => Ev.step (fun k => spec_pzValue_l_2.eq k kind a rl w h cs x y wy sum free (i : Int)) (Ev.no (not_lt_nat (by omega)) (Ev.now' (by
      rw [List.drop_of_length_le (by rw [← size_list]; omega)]
      simp [sumD])))
  | m + 1, i, sum, free, hi, h0, h1, h2, h3 => by
    obtain ⟨c, hc⟩ := byte_at (cs := cs) (i := i) (by omega)
    obtain ⟨c48, c9⟩ := hcs c (List.mem_of_getElem? hc)
    have e1 : w64 (w8 ((c.toNat : Int) - 48)) = (c.toNat : Int) - 48 := by rw [w8_of (by omega) (by omega), w64_of (by omega) (by omega)]
    have e2 : w64 (sum + ((c.toNat : Int) - 48)) = sum + ((c.toNat : Int) - 48) := w64_of (by omega) (by omega)
    have e3 : w64 (free + 1) = free + 1 := w64_of (by omega) (by omega)
    have hB : inB (i : Int) cs.size = true := inB_nat (by omega)
    refine Ev.step (fun k => spec_pzValue_l_2.eq k kind a rl w h cs x y wy sum free (i : Int)) (Ev.yes (lt_nat (by omega)) (Ev.yes hB (Ev.yes hB ?_)))
    rw [Int.toNat_natCast, bt_at hc, e1, e2, e3, w64_succ (by omega), drop_at hc]
    by_cases h48 : c = 48
    · subst h48
      refine Ev.yes rfl ?_
      have := sums_ev kind a rl w h cs x y wy hsz hcs m (i + 1) (sum + (((48 : UInt8).toNat : Int) - 48)) (free + 1) (by omega) (by omega) (by omega) (by omega) (by omega)
      rw [List.count_cons_self, show sumD ((48 : UInt8) :: cs.data.toList.drop (i + 1)) = (((48 : UInt8).toNat : Int) - 48) + sumD (cs.data.toList.drop (i + 1)) from rfl, ← Int.add_assoc,
        show free + (((cs.data.toList.drop (i + 1)).count 48 + 1 : Nat) : Int) = free + 1 + ((cs.data.toList.drop (i + 1)).count 48 : Int) by omega]
      exact this
    · have hb : (((c.toNat : Int)) == 48) = false := by
        rw [beq_eq_false_iff_ne]
        intro e
        apply h48
        apply UInt8.toNat_inj.1
        show c.toNat = 48
        omega
      refine Ev.no hb ?_
      have := sums_ev kind a rl w h cs x y wy hsz hcs m (i + 1) (sum + ((c.toNat : Int) - 48)) free (by omega) (by omega) (by omega) (by omega) (by omega)
      rw [List.count_cons_of_ne h48, show sumD (c :: cs.data.toList.drop (i + 1)) = ((c.toNat : Int) - 48) + sumD (cs.data.toList.drop (i + 1)) from rfl, ← Int.add_assoc]
      exact this
theorem sumI_ev (cs : ByteArray) (hsz : cs.size ≤ 81) (hcs : CellsOk 9 cs) : ∀ (m i : Nat) (all : Int), i + m = cs.size → 0 ≤ all → all ≤ 9 * i → Ev (fun k => impl_told_l k (all, bytesOf cs, (cs.size : Int), (i : Int))) (all + sumD (cs.data.toList.drop i))
  | 0, i, all, hi, h0, h1 => Ev.step (fun k => impl_told_l.eq k all (bytesOf cs) (cs.size : Int) (i : Int)) (Ev.no (not_lt_nat (by omega)) (Ev.now' (by
      rw [List.drop_of_length_le (by rw [← size_list]; omega)]
      simp [sumD])))
  | m + 1, i, all, hi, h0, h1 => by
    obtain ⟨c, hc⟩ := byte_at (cs := cs) (i := i) (by omega)
    obtain ⟨c48, c9⟩ := hcs c (List.mem_of_getElem? hc)
    have e1 : w64 (w8 ((c.toNat : Int) - 48)) = (c.toNat : Int) - 48 := by rw [w8_of (by omega) (by omega), w64_of (by omega) (by omega)]
    have e2 : w64 (all + ((c.toNat : Int) - 48)) = all + ((c.toNat : Int) - 48) := w64_of (by omega) (by omega)
    have hbl : (bytesOf cs).length = cs.size := by unfold bytesOf; rw [List.length_map, ← size_list]
    have hbg : (bytesOf cs).getD i default = (c.toNat : Int) := getD_at (by unfold bytesOf; rw [List.getElem?_map, hc]; rfl)
    refine Ev.step (fun k => impl_told_l.eq k all (bytesOf cs) (cs.size : Int) (i : Int)) (Ev.yes (lt_nat (by omega)) (Ev.yes (inB_nat (by omega)) ?_))
    rw [Int.toNat_natCast, hbg, e1, e2, w64_succ (by omega), drop_at hc, show sumD (c :: cs.data.toList.drop (i + 1)) = ((c.toNat : Int) - 48) + sumD (cs.data.toList.drop (i + 1)) from rfl, ← Int.add_assoc]
    exact sumI_ev cs hsz hcs m (i + 1) _ (by omega) (by omega) (by omega)
theorem cells9 {t : Nat} (ht : t ≤ 9) {cs : ByteArray} (h : CellsOk (t : Int) cs) : CellsOk 9 cs := fun c hc => by
  have := h c hc
  omega
/-- The number that a clue tells: both ways. -/
theorem value_ev (rl : ByteArray) (w h : Int) (cs : ByteArray) (x y wy : Int) (H : WorldOk rl w h cs x y wy) (kind a : Int) (hk : (kind = 0 ∧ 0 ≤ a ∧ a < (cs.size : Int)) ∨ (kind = 4 ∧ a = 0) ∨ ((kind = 1 ∨ kind = 2 ∨ kind = 3) ∧ 0 ≤ a ∧ a ≤ 50)) :
    ∃ v, Ev (fun k => impl_told k (kind, a, (rl, w, h, cs, x, y, wy))) v ∧ Ev (fun k => spec_pzValue k (kind, a, (rl, w, h, cs, x, y, wy))) v := by
  obtain ⟨hR, hw, hh, hs, hcs, hx, hy, hwy⟩ := id H
  have hm := mul_range (a := w) (b := h) (by omega) (by omega) (by omega) (by omega)
  have hsz : cs.size ≤ 81 := by omega
  have h9 := cells9 (by have := hR.1; omega) hcs
  have sS := fun kind a => sums_ev kind a rl w h cs x y wy hsz h9 cs.size 0 0 0 (by omega) (by omega) (by omega) (by omega) (by omega)
  rw [List.drop_zero, Int.zero_add, Int.zero_add] at sS
  have hbl : (bytesOf cs).length = cs.size := by unfold bytesOf; rw [List.length_map, ← size_list]
  rcases hk with ⟨rfl, a0, a1⟩ | ⟨rfl, rfl⟩ | ⟨hk, a0, a1⟩
  · have hB : inB a cs.size = true := inB_of a0 a1
    exact ⟨_, Ev.step (fun k => impl_told.eq k 0 a rl w h cs x y wy) (Ev.yes rfl (Ev.yes hB (Ev.now _))), Ev.step (fun k => spec_pzValue.eq k 0 a rl w h cs x y wy) (Ev.no rfl (Ev.bind (sS 0 a) (Ev.yes rfl (Ev.yes hB (Ev.now _)))))⟩
  · have sI := sumI_ev cs hsz h9 cs.size 0 0 (by omega) (by omega) (by omega)
    rw [List.drop_zero, Int.zero_add] at sI
    refine ⟨sumD cs.data.toList, Ev.step (fun k => impl_told.eq k 4 0 rl w h cs x y wy) (Ev.no rfl (Ev.yes rfl ?_)), Ev.step (fun k => spec_pzValue.eq k 4 0 rl w h cs x y wy) (Ev.yes rfl (Ev.no rfl (Ev.bind (sS 4 0) (Ev.no rfl (Ev.no rfl (Ev.no rfl (Ev.no rfl (Ev.now _))))))))⟩
    rw [hbl]
    exact Ev.bind sI (Ev.now _)
  · obtain ⟨n, rfl⟩ := Int.eq_ofNat_of_zero_le a0
    obtain ⟨cs', x', y', wy', H', p1, p2⟩ := steps_ev kind rl w h n (by omega) n 0 cs x y wy H (by omega)
    obtain ⟨_, _, _, hs', hcs', hx', hy', hwy'⟩ := id H'
    have sS' := sums_ev kind 0 rl w h cs' x' y' wy' (by omega) (cells9 (by have := hR.1; omega) hcs') cs'.size 0 0 0 (by omega) (by omega) (by omega) (by omega) (by omega)
    rw [List.drop_zero, Int.zero_add, Int.zero_add] at sS'
    have g1 : decide (kind > 0) = true := decide_eq_true (by omega)
    have g2 : decide (kind < 4) = true := decide_eq_true (by omega)
    have g3 : (kind == 0) = false := by rw [beq_eq_false_iff_ne]; omega
    have g4 : (kind == 4) = false := by rw [beq_eq_false_iff_ne]; omega
    have goI : ∀ v, Ev (fun k => cond (kind == 1) ((impl_World_at k (rl, w, h, cs', x', y', wy')).bind fun r3 => some r3) (cond (kind == 2) (some wy') ((strings_Count k (cs', bs [48])).bind fun r4 => some r4))) v → Ev (fun k => impl_told k (kind, (n : Int), (rl, w, h, cs, x, y, wy))) v := fun v hv =>
      Ev.step (fun k => impl_told.eq k kind (n : Int) rl w h cs x y wy) (Ev.no g3 (Ev.no g4 (Ev.bind p1 hv)))
    have goS : ∀ v, Ev (fun k => cond (kind == 1) (some (w64 (w64 (y' * w) + x'))) (cond (kind == 2) (some wy') (cond (kind == 3) (some (cs'.data.toList.count 48 : Int)) (some (sumD cs'.data.toList))))) v → Ev (fun k => spec_pzValue k (kind, (n : Int), (rl, w, h, cs, x, y, wy))) v := fun v hv =>
      Ev.step (fun k => spec_pzValue.eq k kind (n : Int) rl w h cs x y wy) (Ev.yes g1 (Ev.yes g2 (Ev.bind p2 (Ev.bind sS' (Ev.no g3 hv)))))
    rcases hk with rfl | rfl | rfl
    · exact ⟨_, goI _ (Ev.yes rfl (Ev.bind (Ev.step (fun k => impl_World_at.eq k rl w h cs' x' y' wy') (Ev.now _)) (Ev.now _))), goS _ (Ev.yes rfl (Ev.now _))⟩
    · exact ⟨_, goI _ (Ev.no rfl (Ev.yes rfl (Ev.now _))), goS _ (Ev.no rfl (Ev.yes rfl (Ev.now _)))⟩
    · exact ⟨(cs'.data.toList.count 48 : Int), goI _ (Ev.no rfl (Ev.no rfl (Ev.bind (Ev.step (fun k => (strings_Count.eq k (cs', bs [48])).trans (show strCount1 cs' (bs [48]) = some (cs'.data.toList.count 48 : Int) from rfl)) (Ev.now _)) (Ev.now _)))), goS _ (Ev.no rfl (Ev.no rfl (Ev.yes rfl (Ev.now _))))⟩
/-! ### Clues -/
def ClueOk (rl : ByteArray) (n : Int) (c : Cl) : Prop := (c.1 = 0 ∧ (0 ≤ c.2.1 ∧ c.2.1 ≤ n - 1) ∧ (0 ≤ c.2.2 ∧ c.2.2 ≤ (rl.size : Int) - 1)) ∨ (c.1 = 1 ∧ (0 ≤ c.2.1 ∧ c.2.1 ≤ 50) ∧ (0 ≤ c.2.2 ∧ c.2.2 ≤ n - 1)) ∨
  (c.1 = 2 ∧ (0 ≤ c.2.1 ∧ c.2.1 ≤ 50) ∧ (0 ≤ c.2.2 ∧ c.2.2 ≤ 3)) ∨ (c.1 = 3 ∧ (0 ≤ c.2.1 ∧ c.2.1 ≤ 50) ∧ (0 ≤ c.2.2 ∧ c.2.2 ≤ n)) ∨ (c.1 = 4 ∧ (0 ≤ c.2.1 ∧ c.2.1 ≤ 100) ∧ c.2.2 = 0)
def Fit (c : Cl) (W : Wo) : Prop := Ev (fun k => spec_pzFits k (c, W)) true
theorem fits_ev (rl : ByteArray) (w h : Int) (cs : ByteArray) (x y wy : Int) (H : WorldOk rl w h cs x y wy) (c : Cl) (hc : ClueOk rl (w * h) c) : EvB (fun k => impl_Clue_fits k (c, (rl, w, h, cs, x, y, wy))) (Fit c (rl, w, h, cs, x, y, wy)) ∧ EvB (fun k => spec_pzFits k (c, (rl, w, h, cs, x, y, wy))) (Fit c (rl, w, h, cs, x, y, wy)) := by
  have hs := H.2.2.2.1
  obtain ⟨kind, a, b⟩ := c
  have key : ∃ v : Bool, Ev (fun k => impl_Clue_fits k ((kind, a, b), (rl, w, h, cs, x, y, wy))) v ∧ Ev (fun k => spec_pzFits k ((kind, a, b), (rl, w, h, cs, x, y, wy))) v := by
    unfold ClueOk at hc
    simp only at hc
    by_cases h4 : kind = 4
    · obtain ⟨v, v1, v2⟩ := value_ev rl w h cs x y wy H 4 0 (.inr (.inl ⟨rfl, rfl⟩))
      exact ⟨_, Ev.step (fun k => impl_Clue_fits.eq k kind a b rl w h cs x y wy) (Ev.yes (beq_iff_eq.2 h4) (Ev.bind v1 (Ev.now _))), Ev.step (fun k => spec_pzFits.eq k kind a b rl w h cs x y wy) (Ev.yes (beq_iff_eq.2 h4) (Ev.bind v2 (Ev.now _)))⟩
    · obtain ⟨v, v1, v2⟩ := value_ev rl w h cs x y wy H kind a (by omega)
      have g : (kind == 4) = false := by rw [beq_eq_false_iff_ne]; exact h4
      exact ⟨_, Ev.step (fun k => impl_Clue_fits.eq k kind a b rl w h cs x y wy) (Ev.no g (Ev.bind v1 (Ev.now _))), Ev.step (fun k => spec_pzFits.eq k kind a b rl w h cs x y wy) (Ev.no g (Ev.bind v2 (Ev.now _)))⟩
  obtain ⟨v, v1, v2⟩ := key
  have e : v = true ↔ Fit (kind, a, b) (rl, w, h, cs, x, y, wy) := ⟨fun e => by subst e; exact v2, fun f => Ev.one v2 f⟩
  exact ⟨⟨v, v1, e⟩, ⟨v, v2, e⟩⟩
end Go.Proofs.YthobhonnicadaaaDoorS
