/- The plain law FnExactIsDesk. -/
import Derived.Test.YtodmlhpobebdgaaDoorOk
import Derived.Test.YtodmlhpobebdgaaDoorPuWorldOk
import Derived.Test.YtodmlhpobebdgaaDoorPuProg
namespace Go.Proofs.YtodmlhpobebdgaaDoor.fnExactIsDesk
open Go Go.Proofs Go.Proofs.YtodmlhpobebdgaaDoorS
set_option linter.unusedVariables false
set_option linter.unusedSimpArgs false
theorem main (rl : ByteArray) (w h : Int) (cs : ByteArray) (x y wy : Int) (rl' : ByteArray) (w' h' : Int) (cs' : ByteArray) (x' y' wy' : Int) (pr : ByteArray)
    (h1 : rl.size ≤ 9223372036854775807) (h2 : cs.size ≤ 9223372036854775807) (h3 : rl'.size ≤ 9223372036854775807) (h4 : cs'.size ≤ 9223372036854775807) (h5 : pr.size ≤ 9223372036854775807) : ∃ k, laws_FnExactIsDesk k (rl, w, h, cs, x, y, wy, rl', w', h', cs', x', y', wy', pr) = some true := by
  refine Ev.rounds (Ev.step (fun k => laws_FnExactIsDesk.eq k rl w h cs x y wy rl' w' h' cs' x' y' wy' pr) ?_)
  have sz : ∃ r, Ev (fun k => laws_szDesk k ((rl, w, h, cs, x, y, wy, rl', w', h', cs', x', y', wy', pr), 1048576)) r := by
    obtain ⟨r1, s1⟩ : ∃ r, Ev (fun k => laws_szWorld k ((rl, w, h, cs, x, y, wy), 1048576)) r := by
      by_cases c1 : w64 (1048576 - (rl.size : Int)) < 0
      · exact ⟨_, Ev.step (fun k => laws_szWorld.eq k rl w h cs x y wy _) (Ev.yes (decide_eq_true c1) (Ev.now _))⟩
      by_cases c2 : w64 (w64 (1048576 - (rl.size : Int)) - (cs.size : Int)) < 0
      · exact ⟨_, Ev.step (fun k => laws_szWorld.eq k rl w h cs x y wy _) (Ev.no (decide_eq_false c1) (Ev.yes (decide_eq_true c2) (Ev.now _)))⟩
      · exact ⟨_, Ev.step (fun k => laws_szWorld.eq k rl w h cs x y wy _) (Ev.no (decide_eq_false c1) (Ev.no (decide_eq_false c2) (Ev.now _)))⟩
    obtain ⟨r2, s2⟩ : ∃ r, Ev (fun k => laws_szWorld k ((rl', w', h', cs', x', y', wy'), r1)) r := by
      by_cases c1 : w64 (r1 - (rl'.size : Int)) < 0
      · exact ⟨_, Ev.step (fun k => laws_szWorld.eq k rl' w' h' cs' x' y' wy' _) (Ev.yes (decide_eq_true c1) (Ev.now _))⟩
      by_cases c2 : w64 (w64 (r1 - (rl'.size : Int)) - (cs'.size : Int)) < 0
      · exact ⟨_, Ev.step (fun k => laws_szWorld.eq k rl' w' h' cs' x' y' wy' _) (Ev.no (decide_eq_false c1) (Ev.yes (decide_eq_true c2) (Ev.now _)))⟩
      · exact ⟨_, Ev.step (fun k => laws_szWorld.eq k rl' w' h' cs' x' y' wy' _) (Ev.no (decide_eq_false c1) (Ev.no (decide_eq_false c2) (Ev.now _)))⟩
    by_cases c1 : r1 < 0
    · exact ⟨_, Ev.step (fun k => laws_szDesk.eq k rl w h cs x y wy rl' w' h' cs' x' y' wy' pr _) (Ev.bind s1 (Ev.yes (decide_eq_true c1) (Ev.now _)))⟩
    by_cases c2 : r2 < 0
    · exact ⟨_, Ev.step (fun k => laws_szDesk.eq k rl w h cs x y wy rl' w' h' cs' x' y' wy' pr _) (Ev.bind s1 (Ev.no (decide_eq_false c1) (Ev.bind s2 (Ev.yes (decide_eq_true c2) (Ev.now _)))))⟩
    by_cases c3 : w64 (r2 - (pr.size : Int)) < 0
    · exact ⟨_, Ev.step (fun k => laws_szDesk.eq k rl w h cs x y wy rl' w' h' cs' x' y' wy' pr _) (Ev.bind s1 (Ev.no (decide_eq_false c1) (Ev.bind s2 (Ev.no (decide_eq_false c2) (Ev.yes (decide_eq_true c3) (Ev.now _))))))⟩
    · exact ⟨_, Ev.step (fun k => laws_szDesk.eq k rl w h cs x y wy rl' w' h' cs' x' y' wy' pr _) (Ev.bind s1 (Ev.no (decide_eq_false c1) (Ev.bind s2 (Ev.no (decide_eq_false c2) (Ev.no (decide_eq_false c3) (Ev.now _))))))⟩
  obtain ⟨r, s1⟩ := sz
  refine Ev.bind s1 (Ev.cond (fun _ => Ev.now _) fun hn => ?_)
  have td : Ev (fun k => laws_toDesk k (rl, w, h, cs, x, y, wy, rl', w', h', cs', x', y', wy', pr)) (rl, w, h, cs, x, y, wy, rl', w', h', cs', x', y', wy', pr) :=
    Ev.step (fun k => laws_toDesk.eq k rl w h cs x y wy rl' w' h' cs' x' y' wy' pr) (Ev.bind (toWorld_ev rl w h cs x y wy) (Ev.bind (toWorld_ev rl' w' h' cs' x' y' wy') (Ev.now _)))
  have hi : EvB (fun k => impl_IsDesk k (rl, w, h, cs, x, y, wy, rl', w', h', cs', x', y', wy', pr)) (WorldOk rl w h cs x y wy ∧ WorldOk rl' w' h' cs' x' y' wy' ∧ ProgOk pr) :=
    EvB.step (fun k => impl_IsDesk.eq k rl w h cs x y wy rl' w' h' cs' x' y' wy' pr) (EvB.and (isWorld_ev rl w h cs x y wy h1 h2) fun _ => EvB.and (isWorld_ev rl' w' h' cs' x' y' wy' h3 h4) fun _ => (isProgram_ev pr h5).ret)
  have hs : EvB (fun k => spec_IsDesk k (rl, w, h, cs, x, y, wy, rl', w', h', cs', x', y', wy', pr)) (WorldOk rl w h cs x y wy ∧ WorldOk rl' w' h' cs' x' y' wy' ∧ ProgOk pr) :=
    EvB.step (fun k => spec_IsDesk.eq k rl w h cs x y wy rl' w' h' cs' x' y' wy' pr) (EvB.ret (EvB.step (fun k => spec_coGood.eq k rl w h cs x y wy rl' w' h' cs' x' y' wy' pr) (EvB.and (woGood_ev rl w h cs x y wy) fun _ => EvB.and (woGood_ev rl' w' h' cs' x' y' wy') fun _ => (tuGood_ev pr h5).ret)))
  obtain ⟨b, i1, i2⟩ := hi
  obtain ⟨b', j1, j2⟩ := hs
  have e : b = b' := by
    cases b <;> cases b' <;> simp_all
  subst e
  exact Ev.bind td (Ev.bind j1 (Ev.bind td (Ev.bind i1 (Ev.no (by cases b <;> rfl) (Ev.now _)))))
theorem pure : ∀ d : Dl laws_FnExactIsDesk.ins, goodL laws_FnExactIsDesk.ins d → ∃ k, laws_FnExactIsDesk k d = some true := by
  rintro ⟨rl, w, h, cs, x, y, wy, rl', w', h', cs', x', y', wy', pr⟩ hg
  exact main rl w h cs x y wy rl' w' h' cs' x' y' wy' pr hg.1 hg.2.2.2.1 hg.2.2.2.2.2.2.2.1 hg.2.2.2.2.2.2.2.2.2.2.1 hg.2.2.2.2.2.2.2.2.2.2.2.2.2.2
end Go.Proofs.YtodmlhpobebdgaaDoor.fnExactIsDesk
