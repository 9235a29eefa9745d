/- Scenes: many steps. -/
import Derived.Test.YtdgfpdbfcpbgfaaPuScene3
namespace Go.Proofs.YtdgfpdbfcpbgfaaS
open Go
set_option linter.unusedVariables false
set_option linter.unusedSimpArgs false

abbrev zeroS : Int × Int × List Rw × Int × Int × ByteArray × Int × Int × Int × Int := (0, 0, [], 0, 0, ByteArray.empty, 0, 0, 0, 0)
theorem loop_ev (st ti : Int) (rs : List Rw) (w h : Int) (n : Nat) (hn : n ≤ 3000) : ∀ (m i : Nat) (cs : ByteArray) (x y wy sa : Int), SceneOk st ti rs w h cs x y wy sa → i + m = n → ∃ cs' x' y' wy' sa',
    Ev (fun k => impl_SceneAfter_l k ((st, ti, rs, w, h, cs, x, y, wy, sa), zeroS, (n : Int), (i : Int))) ((st, ti, rs, w, h, cs', x', y', wy', sa'), zeroS) ∧
    Ev (fun k => spec_SceneAfter_l k ((m : Int), zeroS, (st, ti, rs, w, h, cs, x, y, wy, sa))) (zeroS, (st, ti, rs, w, h, cs', x', y', wy', sa')) ∧ SceneOk st ti rs w h cs' x' y' wy' sa'
  | 0, i, cs, x, y, wy, sa, H, hi => ⟨cs, x, y, wy, sa, Ev.step (fun k => impl_SceneAfter_l.eq k st ti rs w h cs x y wy sa 0 0 [] 0 0 ByteArray.empty 0 0 0 0 (n : Int) (i : Int)) (Ev.no (not_lt_nat (by omega)) (Ev.now _)),
      Ev.step (fun k => spec_SceneAfter_l.eq k 0 0 0 [] 0 0 ByteArray.empty 0 0 0 0 st ti rs w h cs x y wy sa) (Ev.no rfl (Ev.now _)), H⟩
  | m + 1, i, cs, x, y, wy, sa, H, hi => by
    obtain ⟨cs1, x1, y1, wy1, sa1, p1, p2, H1⟩ := step_ev st ti rs w h cs x y wy sa H
    obtain ⟨cs2, x2, y2, wy2, sa2, q1, q2, H2⟩ := loop_ev st ti rs w h n hn m (i + 1) cs1 x1 y1 wy1 sa1 H1 (by omega)
    refine ⟨cs2, x2, y2, wy2, sa2, ?_, ?_, H2⟩
    · refine Ev.step (fun k => impl_SceneAfter_l.eq k st ti rs w h cs x y wy sa 0 0 [] 0 0 ByteArray.empty 0 0 0 0 (n : Int) (i : Int)) (Ev.yes (lt_nat (by omega)) (Ev.bind p1 ?_))
      rw [w64_succ (by omega)]
      exact q1
    · refine Ev.step (fun k => spec_SceneAfter_l.eq k ((m + 1 : Nat) : Int) 0 0 [] 0 0 ByteArray.empty 0 0 0 0 st ti rs w h cs x y wy sa) (Ev.yes (decide_eq_true (by omega)) (Ev.bind p2 ?_))
      rw [show w64 (((m + 1 : Nat) : Int) - 1) = (m : Int) by rw [w64_of (by omega) (by omega)]; omega]
      exact q2
section
variable (st ti : Int) (rs : List Rw) (w h : Int) (cs : ByteArray) (x y wy sa : Int) (hl : rs.length ≤ 1048576)
include hl
theorem own_ev : Ev (fun k => impl_Scene_own k (st, ti, rs, w, h, cs, x, y, wy, sa)) (st, ti, rs, w, h, cs, x, y, wy, sa) :=
  Ev.step (fun k => impl_Scene_own.eq k st ti rs w h cs x y wy sa) (Ev.bind (Ev.step (fun k => impl_Table_own.eq k st ti rs) (Ev.bind (slices_Clone_ev rs hl) (Ev.now _))) (Ev.now _))
theorem taOwn_ev : Ev (fun k => spec_taOwn k (st, ti, rs, w, h, cs, x, y, wy, sa)) (st, ti, rs, w, h, cs, x, y, wy, sa) :=
  Ev.step (fun k => spec_taOwn.eq k st ti rs w h cs x y wy sa) (Ev.yes (fits_of (by omega)) (Ev.now' (by rw [List.nil_append])))
theorem sceneAfter_ev (hc : cs.size ≤ 9223372036854775807) (steps : Int) : ∃ st' ti' rs' w' h' cs' x' y' wy' sa' ok, Ev (fun k => spec_SceneAfter k ((st, ti, rs, w, h, cs, x, y, wy, sa), steps)) ((st', ti', rs', w', h', cs', x', y', wy', sa'), ok) ∧
    Ev (fun k => impl_SceneAfter k ((st, ti, rs, w, h, cs, x, y, wy, sa), steps)) ((st', ti', rs', w', h', cs', x', y', wy', sa'), ok) ∧ rs'.length ≤ 1048576 ∧ (ok = false → cs' = ByteArray.empty) ∧ cs'.size ≤ 1048576 := by
  have a1 : EvB (fun k => impl_isRound k ((st, ti, rs, w, h, cs, x, y, wy, sa), steps)) (SceneOk st ti rs w h cs x y wy sa ∧ (0 ≤ steps ∧ steps ≤ 3000)) :=
    EvB.step (fun k => impl_isRound.eq k st ti rs w h cs x y wy sa steps) (EvB.and (isScene_ev st ti rs w h cs x y wy sa hl hc) fun _ => (within_ev steps 0 3000).ret)
  have a2 : EvB (fun k => spec_taAsked k ((st, ti, rs, w, h, cs, x, y, wy, sa), steps)) (SceneOk st ti rs w h cs x y wy sa ∧ (0 ≤ steps ∧ steps ≤ 3000)) :=
    EvB.step (fun k => spec_taAsked.eq k st ti rs w h cs x y wy sa steps) (EvB.and (taScene_ev st ti rs w h cs x y wy sa hl) fun _ => (l1In_ev steps 0 3000).ret)
  by_cases H : SceneOk st ti rs w h cs x y wy sa ∧ (0 ≤ steps ∧ steps ≤ 3000)
  · obtain ⟨H1, H2⟩ := H
    obtain ⟨n, rfl⟩ := Int.eq_ofNat_of_zero_le H2.1
    obtain ⟨cs', x', y', wy', sa', q1, q2, H3⟩ := loop_ev st ti rs w h n (by omega) n 0 cs x y wy sa H1 (by omega)
    have hsz : cs'.size ≤ 1048576 := by
      have h1 := H3.2.2.2.1
      have h2 := H3.2.1
      have h3 := H3.2.2.1
      have := mul_range (a := w) (b := h) (by omega) (by omega) (by omega) (by omega)
      omega
    exact ⟨st, ti, rs, w, h, cs', x', y', wy', sa', true,
      Ev.step (fun k => spec_SceneAfter.eq k st ti rs w h cs x y wy sa (n : Int)) (Ev.bind (a2.isT ⟨H1, H2⟩) (Ev.no rfl (Ev.bind (taOwn_ev st ti rs w h cs x y wy sa hl) (Ev.bind q2 (Ev.now _))))),
      Ev.step (fun k => impl_SceneAfter.eq k st ti rs w h cs x y wy sa (n : Int)) (Ev.bind (a1.isT ⟨H1, H2⟩) (Ev.no rfl (Ev.bind q1 (Ev.bind (own_ev st ti rs w h cs' x' y' wy' sa' hl) (Ev.now _))))), hl, nofun, hsz⟩
  · exact ⟨0, 0, [], 0, 0, ByteArray.empty, 0, 0, 0, 0, false, Ev.step (fun k => spec_SceneAfter.eq k st ti rs w h cs x y wy sa steps) (Ev.bind (a2.isF H) (Ev.yes rfl (Ev.now _))),
      Ev.step (fun k => impl_SceneAfter.eq k st ti rs w h cs x y wy sa steps) (Ev.bind (a1.isF H) (Ev.yes rfl (Ev.now _))), Nat.zero_le _, fun _ => rfl, Nat.zero_le _⟩
theorem stepScene_ev (hc : cs.size ≤ 9223372036854775807) : ∃ st' ti' rs' w' h' cs' x' y' wy' sa' ok, Ev (fun k => spec_StepScene k (st, ti, rs, w, h, cs, x, y, wy, sa)) ((st', ti', rs', w', h', cs', x', y', wy', sa'), ok) ∧
    Ev (fun k => impl_StepScene k (st, ti, rs, w, h, cs, x, y, wy, sa)) ((st', ti', rs', w', h', cs', x', y', wy', sa'), ok) ∧ rs'.length ≤ 1048576 := by
  have a1 : EvB (fun k => impl_isRound k ((st, ti, rs, w, h, cs, x, y, wy, sa), 1)) (SceneOk st ti rs w h cs x y wy sa ∧ ((0 : Int) ≤ 1 ∧ (1 : Int) ≤ 3000)) :=
    EvB.step (fun k => impl_isRound.eq k st ti rs w h cs x y wy sa 1) (EvB.and (isScene_ev st ti rs w h cs x y wy sa hl hc) fun _ => (within_ev 1 0 3000).ret)
  have a2 := taScene_ev st ti rs w h cs x y wy sa hl
  by_cases H : SceneOk st ti rs w h cs x y wy sa
  · obtain ⟨cs', x', y', wy', sa', q1, q2, H3⟩ := step_ev st ti rs w h cs x y wy sa H
    refine ⟨st, ti, rs, w, h, cs', x', y', wy', sa', true, Ev.step (fun k => spec_StepScene.eq k st ti rs w h cs x y wy sa) (Ev.bind (a2.isT H) (Ev.no rfl (Ev.bind (taOwn_ev st ti rs w h cs x y wy sa hl) (Ev.bind q2 (Ev.now _))))), ?_, hl⟩
    refine Ev.step (fun k => impl_StepScene.eq k st ti rs w h cs x y wy sa) (Ev.bind (Ev.step (fun k => impl_SceneAfter.eq k st ti rs w h cs x y wy sa 1) (Ev.bind (a1.isT ⟨H, by omega, by omega⟩) (Ev.no rfl (Ev.bind (a := ((st, ti, rs, w, h, cs', x', y', wy', sa'), zeroS)) ?_ (Ev.bind (own_ev st ti rs w h cs' x' y' wy' sa' hl) (Ev.now _)))))) (Ev.now _))
    exact Ev.step (fun k => impl_SceneAfter_l.eq k st ti rs w h cs x y wy sa 0 0 [] 0 0 ByteArray.empty 0 0 0 0 1 0) (Ev.yes rfl (Ev.bind q1 (Ev.step (fun k => impl_SceneAfter_l.eq k st ti rs w h cs' x' y' wy' sa' 0 0 [] 0 0 ByteArray.empty 0 0 0 0 1 1) (Ev.no rfl (Ev.now _)))))
  · exact ⟨0, 0, [], 0, 0, ByteArray.empty, 0, 0, 0, 0, false, Ev.step (fun k => spec_StepScene.eq k st ti rs w h cs x y wy sa) (Ev.bind (a2.isF H) (Ev.yes rfl (Ev.now _))),
      Ev.step (fun k => impl_StepScene.eq k st ti rs w h cs x y wy sa) (Ev.bind (Ev.step (fun k => impl_SceneAfter.eq k st ti rs w h cs x y wy sa 1) (Ev.bind (a1.isF fun q => H q.1) (Ev.yes rfl (Ev.now _)))) (Ev.now _)), Nat.zero_le _⟩
end
end Go.Proofs.YtdgfpdbfcpbgfaaS
