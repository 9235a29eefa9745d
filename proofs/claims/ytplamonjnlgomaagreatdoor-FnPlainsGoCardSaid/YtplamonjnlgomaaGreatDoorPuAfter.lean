/- The plain behind steps: the map's spots sorted. -/
import Derived.Test.YtplamonjnlgomaaGreatDoorPuMove
namespace Go.Proofs.YtplamonjnlgomaaGreatDoorS
open Go Go.Sort
set_option linter.unusedVariables false
set_option linter.unusedSimpArgs false
theorem plain_ev (rl : ByteArray) (sp : List Sp) (x y wy : Int) (g : List (Pt × Int)) (H : PlainOk rl sp x y wy) (hg : g.Perm (sp.map ent)) : Ev (fun k => impl_going_plain k (rl, g, x, y, wy)) (rl, sp, x, y, wy) := by
  have hlen : g.length = sp.length := by rw [hg.length_eq, List.length_map]
  have h300 := H.2.1
  have hmap : (g.map fun e => ((e.1.1, e.1.2, e.2) : Int × Int × Int)).Perm sp := by
    have := hg.map fun e : Pt × Int => ((e.1.1, e.1.2, e.2) : Int × Int × Int)
    rw [List.map_map] at this
    have e : sp.map ((fun e : Pt × Int => ((e.1.1, e.1.2, e.2) : Int × Int × Int)) ∘ ent) = sp := by
      conv => rhs; rw [← List.map_id sp]
      rfl
    rwa [e] at this
  have hys : ∀ xs : List Sp, xs.Perm (g.map fun e => ((e.1.1, e.1.2, e.2) : Int × Int × Int)) → sortB (s := SpS) nearS nearS0 cmpS xs = some sp := fun xs hx => by
    have hxs : xs.Perm sp := hx.trans hmap
    have hnear : ∀ s ∈ xs, nearS s = true := fun s hs => by
      have hso := H.2.2.2.2.1 s (hxs.mem_iff.1 hs)
      unfold SpotOk Far at hso
      exact decide_eq_true (by omega)
    have hnd : (xs.map cellOf).Nodup := by
      have hk := keys_of H.2.2.2.2.2
      unfold Keys at hk
      rw [List.map_map] at hk
      exact ((hxs.map cellOf).nodup_iff).2 hk
    obtain ⟨S, e1, e2, e3⟩ := sortB_sorted xs hnear (by have := hxs.length_eq; omega) hnd
    rw [show S = sp from less_unique S sp e3 H.2.2.2.2.2 (e2.trans hxs)] at e1
    exact e1
  have hb : plainB (rl, g, x, y, wy) = some (rl, sp, x, y, wy) := by
    have hex : ∃ ys : List SpS.T, ∀ xs : List SpS.T, xs.Perm (g.map fun e => ((e.1.1, e.1.2, e.2) : Int × Int × Int)) → sortB (s := SpS) nearS nearS0 cmpS xs = some ys := ⟨sp, hys⟩
    unfold plainB
    rw [dif_pos ⟨by dsimp only; omega, hex⟩]
    have h1 := hex.choose_spec _ (List.Perm.refl _)
    have h2 := hys _ (List.Perm.refl _)
    have e : hex.choose = sp := Option.some.inj (h1.symm.trans h2)
    show some (rl, hex.choose, x, y, wy) = _
    rw [e]
    rfl
  exact Ev.step (fun k => (impl_going_plain.eq k (rl, g, x, y, wy)).trans hb) (Ev.now _)
end Go.Proofs.YtplamonjnlgomaaGreatDoorS
