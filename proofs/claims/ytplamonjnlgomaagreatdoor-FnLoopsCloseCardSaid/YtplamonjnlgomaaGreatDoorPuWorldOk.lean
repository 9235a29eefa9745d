/- Worlds: what is one. -/
import Derived.Test.YtplamonjnlgomaaGreatDoorPuWo
namespace Go.Proofs.YtplamonjnlgomaaGreatDoorS
open Go
set_option linter.unusedVariables false
set_option linter.unusedSimpArgs false

section
variable (rl : ByteArray) (w h : Int) (cs : ByteArray) (x y wy : Int)
theorem isWorld_ev (hrl : rl.size ≤ 9223372036854775807) (hc : cs.size ≤ 9223372036854775807) : EvB (fun k => impl_IsWorld k (rl, w, h, cs, x, y, wy)) (WorldOk rl w h cs x y wy) := by
  have H : EvB (fun k => impl_IsWorld k (rl, w, h, cs, x, y, wy)) (RuleOk rl ∧ (((1 ≤ w ∧ w ≤ 9) ∧ (1 ≤ h ∧ h ≤ 9)) ∧ ((CellsOk (rl.size : Int) cs ∧ (cs.size : Int) = w * h) ∧ ((0 ≤ x ∧ x ≤ w - 1) ∧ ((0 ≤ y ∧ y ≤ h - 1) ∧ (0 ≤ wy ∧ wy ≤ 3)))))) := by
    refine EvB.step (fun k => impl_IsWorld.eq k rl w h cs x y wy) (EvB.and (isRuleR_ev rl hrl) fun hR => EvB.and (EvB.step (fun k => impl_isSize.eq k w h) (EvB.and (within_ev w 1 9) fun _ => (within_ev h 1 9).ret)) fun hs => ?_)
    have hm := mul_range (a := w) (b := h) (by omega) (by omega) (by omega) (by omega)
    have h6 := hR.1
    rw [w64_of (n := w * h) (by omega) (by omega)]
    exact EvB.and (areCells_ev (rl.size : Int) (by omega) cs hc (w * h)) fun _ => (isAnt_ev w h x y wy hs.1 hs.2).ret
  exact H.iff ⟨fun q => ⟨q.1, q.2.1.1, q.2.1.2, q.2.2.1.2, q.2.2.1.1, q.2.2.2.1, q.2.2.2.2.1, q.2.2.2.2.2⟩, fun q => ⟨q.1, ⟨q.2.1, q.2.2.1⟩, ⟨q.2.2.2.2.1, q.2.2.2.1⟩, q.2.2.2.2.2.1, q.2.2.2.2.2.2.1, q.2.2.2.2.2.2.2⟩⟩
theorem woGood_ev : EvB (fun k => spec_woGood k (rl, w, h, cs, x, y, wy)) (WorldOk rl w h cs x y wy) := by
  refine EvB.step (fun k => spec_woGood.eq k rl w h cs x y wy) (EvB.and' (woRuleR_ev rl) fun hR => EvB.and' (l1In_ev w 1 9) fun hw => EvB.and' (l1In_ev h 1 9) fun hh => ?_)
  have hm := mul_range (a := w) (b := h) (by omega) (by omega) (by omega) (by omega)
  have h6 := hR.1
  rw [w64_of (n := w * h) (by omega) (by omega)]
  refine EvB.ifN (P := (cs.size : Int) = w * h) (by rw [bne_eq_false_iff_eq]) fun _ => ?_
  have e1 : w64 ((rl.size : Int) - 1) = (rl.size : Int) - 1 := w64_of (by omega) (by omega)
  have step : ∀ (i : Nat) (c : UInt8), cs.data.toList[i]? = some c → ∀ r, Ev (fun k => (spec_l1In k ((c.toNat : Int) - 48, 0, (rl.size : Int) - 1)).bind fun r1 => cond (!r1) (some (.inl false)) (spec_woGood_l k ((rl, w, h, cs, x, y, wy), w64 ((i : Int) + 1)))) r → Ev (fun k => spec_woGood_l k ((rl, w, h, cs, x, y, wy), (i : Int))) r := fun i c hx r H => by
    have hi : i < cs.size := by rw [size_list]; exact (List.getElem?_eq_some_iff.1 hx).1
    exact Ev.step (fun k => spec_woGood_l.eq k rl w h cs x y wy (i : Int)) (Ev.yes (lt_nat hi) (Ev.yes (inB_nat hi) (by rw [Int.toNat_natCast, bt_at hx, num_of, e1]; exact H)))
  have srch := Ev.search (L := fun k i => spec_woGood_l k ((rl, w, h, cs, x, y, wy), i)) (n := cs.size) (fun i => ∃ c, cs.data.toList[i]? = some c ∧ ¬ (48 ≤ c.toNat ∧ (c.toNat : Int) ≤ 47 + (rl.size : Int))) (fun i => .inl false) (.inr (rl, w, h, cs, x, y, wy))
    (fun i hi hp r H => by
      obtain ⟨c, hx⟩ := byte_at hi
      have hr : 48 ≤ c.toNat ∧ (c.toNat : Int) ≤ 47 + (rl.size : Int) := Classical.byContradiction fun hn => hp ⟨c, hx, hn⟩
      exact step i c hx r (Ev.bind ((l1In_ev _ _ _).isT (by omega)) (Ev.no rfl (by rw [w64_succ (by omega)]; exact H))))
    (fun i hi hp => by
      obtain ⟨c, hx, hn⟩ := hp
      exact step i c hx _ (Ev.bind ((l1In_ev _ _ _).isF (by omega)) (Ev.yes rfl (Ev.now _))))
    (Ev.step (fun k => spec_woGood_l.eq k rl w h cs x y wy (cs.size : Int)) (Ev.no (not_lt_nat (Nat.lt_irrefl _)) (Ev.now _))) cs.size 0 (by omega)
  rcases srch with ⟨h1, h2⟩ | ⟨j, _, hj, ⟨c, hx, hn⟩, _, h2⟩
  · have hcs : CellsOk (rl.size : Int) cs := fun c hm => by
      obtain ⟨i, hi⟩ := List.mem_iff_getElem?.1 hm
      exact Classical.byContradiction fun hn => h1 i (Nat.zero_le _) (by rw [size_list]; exact (List.getElem?_eq_some_iff.1 hi).1) ⟨c, hi, hn⟩
    have rest : EvB (fun k => (spec_l1In k (x, 0, w64 (w - 1))).bind fun r7 => cond r7 ((spec_l1In k (y, 0, w64 (h - 1))).bind fun r8 => cond r8 ((spec_l1In k (wy, 0, 3)).bind fun r9 => some r9) (some false)) (some false)) ((0 ≤ x ∧ x ≤ w - 1) ∧ (0 ≤ y ∧ y ≤ h - 1) ∧ (0 ≤ wy ∧ wy ≤ 3)) := by
      rw [w64_of (n := w - 1) (by omega) (by omega), w64_of (n := h - 1) (by omega) (by omega)]
      exact EvB.and (l1In_ev _ _ _) fun _ => EvB.and (l1In_ev _ _ _) fun _ => (l1In_ev _ _ _).ret
    obtain ⟨b, q1, q2⟩ := rest
    exact ⟨b, Ev.bind h2 q1, q2.trans ⟨fun q => ⟨hcs, q⟩, fun q => q.2⟩⟩
  · exact ⟨false, Ev.bind h2 (Ev.now _), ⟨nofun, fun h => absurd (h.1 c (List.mem_of_getElem? hx)) hn⟩⟩
end
end Go.Proofs.YtplamonjnlgomaaGreatDoorS
