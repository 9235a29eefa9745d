/- The plain law FnExactLongestLife. -/
import Derived.Test.YtgmpmdjennmidaaOk
import Derived.Test.YtgmpmdjennmidaaPuWorm
namespace Go.Proofs.Ytgmpmdjennmidaa.fnExactLongestLife
open Go Go.Proofs Go.Proofs.YtgmpmdjennmidaaS
set_option linter.unusedVariables false
theorem both (w h : Int) (ri dn : ByteArray) (x y wy : Int) (h1 : ri.size ≤ 1048576) (h2 : dn.size ≤ 1048576) : ∃ (l : List ByteArray) (n : Int) (ok : Bool), l.length ≤ 1048576 ∧ Ev (fun k => spec_LongestLife k (w, h, ri, dn, x, y, wy)) (l, n, ok) ∧ Ev (fun k => impl_LongestLife k (w, h, ri, dn, x, y, wy)) (l, n, ok) := by
  have a1 := isWorm_ev w h ri dn x y wy h1 h2
  have a2 := wmGood_ev w h ri dn x y wy h1 h2
  by_cases H : WormOk w h ri dn x y wy
  · obtain ⟨R, r0, r1, r2⟩ := longest_l_ev w h ri dn x y wy H tasteL.length 0 [] (-1) (by omega) (by simp)
    exact ⟨R.1, R.2, true, by omega, Ev.step (fun k => spec_LongestLife.eq k w h ri dn x y wy) (Ev.bind (a2.isT H) (Ev.no rfl (Ev.bind (a := tasteL) (Ev.step (fun k => spec_wmTastes.eq k) (Ev.now _)) (Ev.bind r1 (Ev.now _))))),
      Ev.step (fun k => impl_LongestLife.eq k w h ri dn x y wy) (Ev.bind (a1.isT H) (Ev.no rfl (Ev.bind (a := tasteL) (Ev.step (fun k => impl_tastes.eq k) (Ev.now _)) (Ev.bind r2 (Ev.now _)))))⟩
  · exact ⟨[], 0, false, by simp, Ev.step (fun k => spec_LongestLife.eq k w h ri dn x y wy) (Ev.bind (a2.isF H) (Ev.yes rfl (Ev.now _))), Ev.step (fun k => impl_LongestLife.eq k w h ri dn x y wy) (Ev.bind (a1.isF H) (Ev.yes rfl (Ev.now _)))⟩
theorem main (w h : Int) (ri dn : ByteArray) (x y wy : Int) (h1 : ri.size ≤ 9223372036854775807) (h2 : dn.size ≤ 9223372036854775807) : ∃ k, laws_FnExactLongestLife k (w, h, ri, dn, x, y, wy) = some true := by
  refine Ev.rounds (Ev.step (fun k => laws_FnExactLongestLife.eq k w h ri dn x y wy) ?_)
  obtain ⟨r, s1, s2⟩ := szWorm_ev w h ri dn x y wy h1 h2
  refine Ev.bind s1 (Ev.cond (fun _ => Ev.now _) fun hn => ?_)
  have s3 : ri.size ≤ 1048576 ∧ dn.size ≤ 1048576 := by
    rcases s2 with s2 | s2
    · exact absurd s2 (of_decide_eq_false hn)
    · exact s2
  obtain ⟨l, n, ok, hl, hs, hi⟩ := both w h ri dn x y wy s3.1 s3.2
  have hto := toWorm_ev w h ri dn x y wy
  have he := eqStringS_ev l hl
  obtain ⟨M, hm, hh⟩ := markStringS_ev l hl
  have n1 : decide (1 + (l.length : Int) < 0) = false := decide_eq_false (by omega)
  have ok1 : (!(ok == ok)) = false := by cases ok <;> rfl
  refine Ev.bind hto (Ev.bind hs (Ev.bind hto (Ev.bind hi (Ev.bind he (Ev.no rfl (Ev.no (neq_self _) (Ev.no ok1 ?_)))))))
  refine Ev.bind hm (Ev.bind hh (Ev.no n1 (Ev.no (neq_self _) ?_)))
  exact Ev.bind hto (Ev.bind hi (Ev.bind he (Ev.no rfl (Ev.no (neq_self _) (Ev.no ok1 (Ev.bind hh (Ev.no n1 (Ev.no (neq_self _) (Ev.now _)))))))))
theorem pure : ∀ d : Dl laws_FnExactLongestLife.ins, goodL laws_FnExactLongestLife.ins d → ∃ k, laws_FnExactLongestLife k d = some true := by
  rintro ⟨w, h, ri, dn, x, y, wy⟩ hg
  exact main w h ri dn x y wy hg.2.2.1 hg.2.2.2.1
end Go.Proofs.Ytgmpmdjennmidaa.fnExactLongestLife
