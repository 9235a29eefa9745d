/- Hidden worlds. -/
import Derived.Test.YtodmlhpobebdgaaDoorPuSize
import Derived.Test.YtodmlhpobebdgaaDoorPuWorldOk
namespace Go.Proofs.YtodmlhpobebdgaaDoorS
open Go
set_option linter.unusedVariables false
set_option linter.unusedSimpArgs false

def HidOk (rl : ByteArray) (w h : Int) (cs : ByteArray) (x y wy : Int) : Prop := SizeOk rl w h ∧ WorldOk rl w h cs x y wy ∧ x = 0 ∧ y = 0 ∧ wy = 0
section
variable (rl : ByteArray) (w h : Int) (cs : ByteArray) (x y wy : Int)
theorem pzHidden_ev : EvB (fun k => spec_pzHidden k (rl, w, h, cs, x, y, wy)) (HidOk rl w h cs x y wy) := by
  have H : EvB (fun k => spec_pzHidden k (rl, w, h, cs, x, y, wy)) (WorldOk rl w h cs x y wy ∧ (x = 0 ∧ (y = 0 ∧ (wy = 0 ∧ SizeOk rl w h)))) :=
    EvB.step (fun k => spec_pzHidden.eq k rl w h cs x y wy) (EvB.and (woGood_ev rl w h cs x y wy) fun _ => EvB.ifT beq_iff_eq fun _ => EvB.ifT beq_iff_eq fun _ => EvB.ifT beq_iff_eq fun _ => (pzSize_ev rl w h).ret)
  exact H.iff ⟨fun q => ⟨q.2.2.2.2, q.1, q.2.1, q.2.2.1, q.2.2.2.1⟩, fun q => ⟨q.2.1, q.2.2.1, q.2.2.2.1, q.2.2.2.2, q.1⟩⟩
theorem isHidden_ev (hrl : rl.size ≤ 9223372036854775807) (hc : cs.size ≤ 9223372036854775807) : EvB (fun k => impl_isHiddenWorld k (rl, w, h, cs, x, y, wy)) (HidOk rl w h cs x y wy) := by
  obtain ⟨n, b, c1, c2⟩ := countBoards_ev rl w h hrl
  cases b with
  | false => exact ⟨false, Ev.step (fun k => impl_isHiddenWorld.eq k rl w h cs x y wy) (Ev.bind c1 (Ev.yes rfl (Ev.now _))), ⟨nofun, fun q => by have := c2.2 q.1; cases this⟩⟩
  | true =>
    have body : EvB (fun k => (impl_IsWorld k (rl, w, h, cs, x, y, wy)).bind fun r2 => cond r2 ((impl_World_at k (rl, w, h, cs, x, y, wy)).bind fun r3 => cond (r3 == 0) (some (wy == 0)) (some false)) (some false)) (WorldOk rl w h cs x y wy ∧ (x = 0 ∧ y = 0) ∧ wy = 0) := by
      refine EvB.and (isWorld_ev rl w h cs x y wy hrl hc) fun hW => ?_
      obtain ⟨_, hw, hh, _, _, hx, hy, _⟩ := hW
      obtain ⟨a1, a2, a3, a4⟩ := at_range hx hy hw hh
      have hz : y * w + x = 0 ↔ x = 0 ∧ y = 0 := by
        constructor
        · intro e
          have e1 : x = 0 := by omega
          have e2 : y * w = 0 := by omega
          rcases Int.mul_eq_zero.1 e2 with e3 | e3
          · exact ⟨e1, e3⟩
          · omega
        · rintro ⟨rfl, rfl⟩
          simp
      obtain ⟨v, v1, v2⟩ := EvB.ifT (b := (y * w + x == 0)) (P := x = 0 ∧ y = 0) (h := fun _ => some (wy == 0)) (Q := wy = 0) (by rw [beq_iff_eq]; exact hz) fun _ => EvB.val beq_iff_eq
      exact ⟨v, Ev.bind (Ev.step (fun k => impl_World_at.eq k rl w h cs x y wy) (Ev.now' (at64 hx hy hw hh))) v1, v2⟩
    obtain ⟨v, v1, v2⟩ := body
    exact ⟨v, Ev.step (fun k => impl_isHiddenWorld.eq k rl w h cs x y wy) (Ev.bind c1 (Ev.no rfl v1)), v2.trans ⟨fun q => ⟨c2.1 rfl, q.1, q.2.1.1, q.2.1.2, q.2.2⟩, fun q => ⟨q.2.1, ⟨q.2.2.1, q.2.2.2.1⟩, q.2.2.2.2⟩⟩⟩
end
end Go.Proofs.YtodmlhpobebdgaaDoorS
