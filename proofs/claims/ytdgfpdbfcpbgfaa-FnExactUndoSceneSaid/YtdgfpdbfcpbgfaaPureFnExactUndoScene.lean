/- The plain law FnExactUndoScene. -/
import Derived.Test.YtdgfpdbfcpbgfaaOk
import Derived.Test.YtdgfpdbfcpbgfaaPuScene5
namespace Go.Proofs.Ytdgfpdbfcpbgfaa.fnExactUndoScene
open Go Go.Proofs Go.Proofs.YtdgfpdbfcpbgfaaS
set_option linter.unusedVariables false
theorem main (st ti : Int) (rs : List Rw) (w h : Int) (cs : ByteArray) (x y wy sa : Int) (hl : rs.length ≤ 9223372036854775807) (hr : ∀ x ∈ rs, x.2.1.size ≤ 9223372036854775807) (hc : cs.size ≤ 9223372036854775807) : ∃ k, laws_FnExactUndoScene k (st, ti, rs, w, h, cs, x, y, wy, sa) = some true := by
  refine Ev.rounds (Ev.step (fun k => laws_FnExactUndoScene.eq k st ti rs w h cs x y wy sa) ?_)
  obtain ⟨r, h1, h2⟩ := szScene_ev st ti rs w h cs x y wy sa hr hl hc
  refine Ev.bind h1 (Ev.cond (fun _ => Ev.now _) fun hn => ?_)
  have hl2 : rs.length ≤ 1048576 := by
    rcases h2 with h2 | h2
    · exact absurd h2 (of_decide_eq_false hn)
    · exact h2
  have hto := toScene_ev st ti rs w h cs x y wy sa hl2
  obtain ⟨st', ti', rs', w', h', cs', x', y', wy', sa', ok, hsp, him, hl'⟩ := undoScene_ev st ti rs w h cs x y wy sa hl2 hc
  have he := eqScene_ev st' ti' rs' w' h' cs' x' y' wy' sa' hl'
  have he0 := eqScene_ev st ti rs w h cs x y wy sa hl2
  obtain ⟨M0, hm0, _⟩ := markScene_ev st ti rs w h cs x y wy sa hl2
  obtain ⟨M, hm, hh⟩ := markScene_ev st' ti' rs' w' h' cs' x' y' wy' sa' hl'
  have n0 : decide (1 + 3 * (rs.length : Int) < 0) = false := decide_eq_false (by omega)
  have n1 : decide (1 + 3 * (rs'.length : Int) < 0) = false := decide_eq_false (by omega)
  have ok1 : (!(ok == ok)) = false := by cases ok <;> rfl
  refine Ev.bind hto (Ev.bind hsp (Ev.bind hto (Ev.bind him (Ev.bind he (Ev.no rfl (Ev.no ok1 ?_))))))
  refine Ev.bind hto (Ev.bind he0 (Ev.no rfl (Ev.bind hm0 (Ev.no n0 ?_))))
  refine Ev.bind he (Ev.no rfl (Ev.no ok1 (Ev.bind hm (Ev.bind hh (Ev.no n1 (Ev.no (neq_self _) ?_))))))
  exact Ev.bind hto (Ev.bind him (Ev.bind he (Ev.no rfl (Ev.no ok1 (Ev.bind hh (Ev.no n1 (Ev.no (neq_self _) (Ev.now _))))))))
theorem pure : ∀ d : Dl laws_FnExactUndoScene.ins, goodL laws_FnExactUndoScene.ins d → ∃ k, laws_FnExactUndoScene k d = some true := by
  rintro ⟨st, ti, rs, w, h, cs, x, y, wy, sa⟩ hg
  exact main st ti rs w h cs x y wy sa hg.2.2.1.1 (fun x hx => (hg.2.2.1.2 x hx).2.1) hg.2.2.2.2.2.1
end Go.Proofs.Ytdgfpdbfcpbgfaa.fnExactUndoScene
