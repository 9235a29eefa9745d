/- The plain law FnExactLoopOfScene. -/
import Derived.Test.YtiaagflfiphioaaDoorOk
import Derived.Test.YtiaagflfiphioaaDoorPuScL
namespace Go.Proofs.YtiaagflfiphioaaDoor.fnExactLoopOfScene
open Go Go.Proofs Go.Proofs.YtiaagflfiphioaaDoorS Go.Proofs.YtiaagflfiphioaaDoorS.Sc
set_option linter.unusedVariables false
theorem main (st ti : Int) (rs : List Sc.Rw) (w h : Int) (cs : ByteArray) (x y wy sa : Int) (hl : rs.length ≤ 9223372036854775807) (hr : ∀ x ∈ rs, x.2.1.size ≤ 9223372036854775807) (hc : cs.size ≤ 9223372036854775807) : ∃ k, laws_FnExactLoopOfScene k (st, ti, rs, w, h, cs, x, y, wy, sa) = some true := by
  refine Ev.rounds (Ev.step (fun k => laws_FnExactLoopOfScene.eq k st ti rs w h cs x y wy sa) ?_)
  obtain ⟨r, h1, h2⟩ := Sc.szScene_ev st ti rs w h cs x y wy sa hr hl hc
  refine Ev.bind h1 (Ev.cond (fun _ => Ev.now _) fun hn => ?_)
  have hl2 : rs.length ≤ 1048576 := by
    rcases h2 with h2 | h2
    · exact absurd h2 (of_decide_eq_false hn)
    · exact h2
  have hto := Sc.toScene_ev st ti rs w h cs x y wy sa hl2
  obtain ⟨a, b, ok, hsp, him⟩ := Sc.loopOfScene_ev st ti rs w h cs x y wy sa hl2 hc
  have he0 := Sc.eqScene_ev st ti rs w h cs x y wy sa hl2
  have ok1 : (!(ok == ok)) = false := by cases ok <;> rfl
  exact Ev.bind hto (Ev.bind hsp (Ev.bind hto (Ev.bind him (Ev.no (neq_self _) (Ev.no (neq_self _) (Ev.no ok1 (Ev.bind hto (Ev.bind he0 (Ev.no rfl (Ev.now _))))))))))
theorem pure : ∀ d : Dl laws_FnExactLoopOfScene.ins, goodL laws_FnExactLoopOfScene.ins d → ∃ k, laws_FnExactLoopOfScene k d = some true := by
  rintro ⟨st, ti, rs, w, h, cs, x, y, wy, sa⟩ hg
  exact main st ti rs w h cs x y wy sa hg.2.2.1.1 (fun x hx => (hg.2.2.1.2 x hx).2.1) hg.2.2.2.2.2.1
end Go.Proofs.YtiaagflfiphioaaDoor.fnExactLoopOfScene
