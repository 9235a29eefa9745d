/- The plain law FnExactTrackOfWorm. -/
import Derived.Test.YtgmpmdjennmidaaOk
import Derived.Test.YtgmpmdjennmidaaPuWorm
namespace Go.Proofs.Ytgmpmdjennmidaa.fnExactTrackOfWorm
open Go Go.Proofs Go.Proofs.YtgmpmdjennmidaaS
set_option linter.unusedVariables false
theorem both (w h : Int) (ri dn : ByteArray) (x y wy : Int) (ts : ByteArray) (h1 : ri.size ≤ 1048576) (h2 : dn.size ≤ 1048576) : ∃ (l : List Int) (ok : Bool), l.length ≤ 1048576 ∧ Ev (fun k => spec_TrackOfWorm k ((w, h, ri, dn, x, y, wy), ts)) (l, ok) ∧ Ev (fun k => impl_TrackOfWorm k ((w, h, ri, dn, x, y, wy), ts)) (l, ok) := by
  have a1 : EvB (fun k => impl_isTasting k ((w, h, ri, dn, x, y, wy), ts)) (WormOk w h ri dn x y wy ∧ ts ∈ tasteL) := EvB.step (fun k => impl_isTasting.eq k w h ri dn x y wy ts) (EvB.and (isWorm_ev w h ri dn x y wy h1 h2) fun _ => (isTaste_ev ts).ret)
  have a2 : EvB (fun k => spec_wmAsked k ((w, h, ri, dn, x, y, wy), ts)) (WormOk w h ri dn x y wy ∧ ts ∈ tasteL) := EvB.step (fun k => spec_wmAsked.eq k w h ri dn x y wy ts) (EvB.and (wmGood_ev w h ri dn x y wy h1 h2) fun _ => (wmTaste_ev ts).ret)
  by_cases H : WormOk w h ri dn x y wy ∧ ts ∈ tasteL
  · obtain ⟨t1, t2⟩ := tasteL_ok ts H.2
    obtain ⟨W', tr, sg, p1, p2, p3, p4⟩ := life_ev w h ri dn x y wy H.1 ts t1 t2
    exact ⟨tr, true, by omega, Ev.step (fun k => spec_TrackOfWorm.eq k w h ri dn x y wy ts) (Ev.bind (a2.isT H) (Ev.no rfl (Ev.bind p1 (Ev.now _)))), Ev.step (fun k => impl_TrackOfWorm.eq k w h ri dn x y wy ts) (Ev.bind (a1.isT H) (Ev.no rfl (Ev.bind p2 (Ev.now _))))⟩
  · exact ⟨[], false, by simp, Ev.step (fun k => spec_TrackOfWorm.eq k w h ri dn x y wy ts) (Ev.bind (a2.isF H) (Ev.yes rfl (Ev.now _))), Ev.step (fun k => impl_TrackOfWorm.eq k w h ri dn x y wy ts) (Ev.bind (a1.isF H) (Ev.yes rfl (Ev.now _)))⟩
theorem main (w h : Int) (ri dn : ByteArray) (x y wy : Int) (ts : ByteArray) (h1 : ri.size ≤ 9223372036854775807) (h2 : dn.size ≤ 9223372036854775807) : ∃ k, laws_FnExactTrackOfWorm k ((w, h, ri, dn, x, y, wy), ts) = some true := by
  refine Ev.rounds (Ev.step (fun k => laws_FnExactTrackOfWorm.eq k w h ri dn x y wy ts) (Ev.cond (fun _ => Ev.now _) fun _ => ?_))
  obtain ⟨r, s1, s2⟩ := szWorm_ev w h ri dn x y wy h1 h2
  refine Ev.bind s1 (Ev.cond (fun _ => Ev.now _) fun hn => ?_)
  have s3 : ri.size ≤ 1048576 ∧ dn.size ≤ 1048576 := by
    rcases s2 with s2 | s2
    · exact absurd s2 (of_decide_eq_false hn)
    · exact s2
  obtain ⟨l, ok, hl, hs, hi⟩ := both w h ri dn x y wy ts s3.1 s3.2
  have hto := toWorm_ev w h ri dn x y wy
  have he := eqIntS_ev l hl
  obtain ⟨M, hm, hh⟩ := markIntS_ev l hl
  have n1 : decide (1 + (l.length : Int) < 0) = false := decide_eq_false (by omega)
  have ok1 : (!(ok == ok)) = false := by cases ok <;> rfl
  refine Ev.bind hto (Ev.bind hs (Ev.bind hto (Ev.bind hi (Ev.bind he (Ev.no rfl (Ev.no ok1 ?_))))))
  refine Ev.bind hm (Ev.bind hh (Ev.no n1 (Ev.no (neq_self _) ?_)))
  exact Ev.bind hto (Ev.bind hi (Ev.bind he (Ev.no rfl (Ev.no ok1 (Ev.bind hh (Ev.no n1 (Ev.no (neq_self _) (Ev.now _))))))))
theorem pure : ∀ d : Dl laws_FnExactTrackOfWorm.ins, goodL laws_FnExactTrackOfWorm.ins d → ∃ k, laws_FnExactTrackOfWorm k d = some true := by
  rintro ⟨⟨w, h, ri, dn, x, y, wy⟩, ts⟩ hg
  exact main w h ri dn x y wy ts hg.1.2.2.1 hg.1.2.2.2.1
end Go.Proofs.Ytgmpmdjennmidaa.fnExactTrackOfWorm
