/- The plain law FnExactDoesFit. -/
import Derived.Test.YtngfakjifgafeaaDoorOk
import Derived.Test.YtngfakjifgafeaaDoorPuHidden
namespace Go.Proofs.YtngfakjifgafeaaDoor.fnExactDoesFit
open Go Go.Proofs Go.Proofs.YtngfakjifgafeaaDoorS
set_option linter.unusedVariables false
set_option linter.unusedSimpArgs false
theorem both (kd a b : Int) (rl : ByteArray) (w h : Int) (cs : ByteArray) (x y wy : Int) (hrl : rl.size ≤ 9223372036854775807) (hc : cs.size ≤ 9223372036854775807) : ∃ (v ok : Bool), Ev (fun k => spec_DoesFit k ((kd, a, b), (rl, w, h, cs, x, y, wy))) (v, ok) ∧ Ev (fun k => impl_DoesFit k ((kd, a, b), (rl, w, h, cs, x, y, wy))) (v, ok) := by
  have a1 := isHidden_ev rl w h cs x y wy hrl hc
  have a2 := pzHidden_ev rl w h cs x y wy
  by_cases H : HidOk rl w h cs x y wy
  rotate_left
  · exact ⟨false, false, Ev.step (fun k => spec_DoesFit.eq k kd a b rl w h cs x y wy) (Ev.bind (a2.isF H) (Ev.yes rfl (Ev.now _))), Ev.step (fun k => impl_DoesFit.eq k kd a b rl w h cs x y wy) (Ev.bind (a1.isF H) (Ev.yes rfl (Ev.now _)))⟩
  obtain ⟨hS, hW, _⟩ := id H
  have hsz := hW.2.2.2.1
  have hm := mul_range (a := w) (b := h) (by have := hS.2.1; omega) (by have := hS.2.1; omega) (by have := hS.2.2.1; omega) (by have := hS.2.2.1; omega)
  have h9 := hS.2.2.2.1
  have h6 := hS.1.1
  have c1 : EvB (fun k => impl_IsClue k (rl, (cs.size : Int), (kd, a, b))) (ClueOk rl (cs.size : Int) (kd, a, b)) := (isClue_ev rl (cs.size : Int) (kd, a, b) hrl).iff ⟨fun q => q.2.2, fun q => ⟨hS.1, by omega, q⟩⟩
  have c2 := pzClue_ev rl (cs.size : Int) (kd, a, b) (by omega) (by omega)
  by_cases hC : ClueOk rl (cs.size : Int) (kd, a, b)
  rotate_left
  · exact ⟨false, false, Ev.step (fun k => spec_DoesFit.eq k kd a b rl w h cs x y wy) (Ev.bind (a2.isT H) (Ev.no rfl (Ev.bind (c2.isF hC) (Ev.yes rfl (Ev.now _))))), Ev.step (fun k => impl_DoesFit.eq k kd a b rl w h cs x y wy) (Ev.bind (a1.isT H) (Ev.no rfl (Ev.bind (c1.isF hC) (Ev.yes rfl (Ev.now _)))))⟩
  have hC' := hC
  rw [hsz] at hC'
  obtain ⟨f1, f2⟩ := fits_ev rl w h cs x y wy hW (kd, a, b) hC'
  by_cases hF : Fit (kd, a, b) (rl, w, h, cs, x, y, wy)
  · exact ⟨true, true, Ev.step (fun k => spec_DoesFit.eq k kd a b rl w h cs x y wy) (Ev.bind (a2.isT H) (Ev.no rfl (Ev.bind (c2.isT hC) (Ev.no rfl (Ev.bind (f2.isT hF) (Ev.now _)))))), Ev.step (fun k => impl_DoesFit.eq k kd a b rl w h cs x y wy) (Ev.bind (a1.isT H) (Ev.no rfl (Ev.bind (c1.isT hC) (Ev.no rfl (Ev.bind (f1.isT hF) (Ev.now _))))))⟩
  · exact ⟨false, true, Ev.step (fun k => spec_DoesFit.eq k kd a b rl w h cs x y wy) (Ev.bind (a2.isT H) (Ev.no rfl (Ev.bind (c2.isT hC) (Ev.no rfl (Ev.bind (f2.isF hF) (Ev.now _)))))), Ev.step (fun k => impl_DoesFit.eq k kd a b rl w h cs x y wy) (Ev.bind (a1.isT H) (Ev.no rfl (Ev.bind (c1.isT hC) (Ev.no rfl (Ev.bind (f1.isF hF) (Ev.now _))))))⟩
theorem main (kd a b : Int) (rl : ByteArray) (w h : Int) (cs : ByteArray) (x y wy : Int) (hrl : rl.size ≤ 9223372036854775807) (hc : cs.size ≤ 9223372036854775807) : ∃ k, laws_FnExactDoesFit k ((kd, a, b), (rl, w, h, cs, x, y, wy)) = some true := by
  refine Ev.rounds (Ev.step (fun k => laws_FnExactDoesFit.eq k kd a b rl w h cs x y wy) ?_)
  obtain ⟨r, s1⟩ := szWorld_ev rl w h cs x y wy hrl hc
  refine Ev.bind s1 (Ev.cond (fun _ => Ev.now _) fun hn => ?_)
  obtain ⟨v, ok, hs, hi⟩ := both kd a b rl w h cs x y wy hrl hc
  have htc : Ev (fun k => laws_toClue k (kd, a, b)) (kd, a, b) := Ev.step (fun k => laws_toClue.eq k kd a b) (Ev.now _)
  have htw := toWorld_ev rl w h cs x y wy
  have ok1 : ∀ b : Bool, (!(b == b)) = false := fun b => by cases b <;> rfl
  exact Ev.bind htc (Ev.bind htw (Ev.bind hs (Ev.bind htc (Ev.bind htw (Ev.bind hi (Ev.no (ok1 v) (Ev.no (ok1 ok) (Ev.now _))))))))
theorem pure : ∀ d : Dl laws_FnExactDoesFit.ins, goodL laws_FnExactDoesFit.ins d → ∃ k, laws_FnExactDoesFit k d = some true := by
  rintro ⟨⟨kd, a, b⟩, rl, w, h, cs, x, y, wy⟩ hg
  exact main kd a b rl w h cs x y wy hg.2.1 hg.2.2.2.2.1
end Go.Proofs.YtngfakjifgafeaaDoor.fnExactDoesFit
