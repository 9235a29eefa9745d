/- The plain law FnExactMirrorPlain. -/
import Derived.Test.YtmdgodjcfhimbaaGreatDoorOk
import Derived.Test.YtmdgodjcfhimbaaGreatDoorPuMove
import Derived.Test.YtmdgodjcfhimbaaGreatDoorPuOther
namespace Go.Proofs.YtmdgodjcfhimbaaGreatDoor.fnExactMirrorPlain
open Go Go.Proofs Go.Proofs.YtmdgodjcfhimbaaGreatDoorS
set_option linter.unusedVariables false
set_option linter.unusedSimpArgs false
def tn (a b : Int) : Pt := (-a, b)
theorem tn_moves : Moves tn := by
  refine ⟨fun a b c e h => ?_, fun a b ha hb => ?_⟩
  · have h1 : -a = -c := congrArg Prod.fst h
    have h2 : b = e := congrArg Prod.snd h
    omega
  · unfold Far at ha hb
    show (_ ≤ -a ∧ -a ≤ _) ∧ (_ ≤ b ∧ b ≤ _)
    omega
theorem turn1_ev {a b : Int} (hb : Far a) : Ev (fun k => impl_MirrorPlain_1 k (a, b)) (-a, b) := Ev.step (fun k => impl_MirrorPlain_1.eq k a b) (Ev.now' (by
  unfold Far at hb
  rw [w64_of (by omega) (by omega), Int.zero_sub]))
theorem changed_l_ev (rl : ByteArray) (sp : List Sp) (wy : Int) (hl : sp.length ≤ 300) (hF : ∀ s ∈ sp, Far s.1 ∧ Far s.2.1) (Z : ByteArray × List Sp × Int × Int × Int) (X Y : Int) :
    ∀ (m i : Nat), i + m = sp.length → Ev (fun k => impl_Plain_changed_l k ((), Z, (rl, (sp.take i).map (img tn), X, Y, wy), sp, (sp.length : Int), (i : Int))) (Z, (rl, sp.map (img tn), X, Y, wy))
  | 0, i, hi => Ev.step (fun k => impl_Plain_changed_l.eq k Z.1 Z.2.1 Z.2.2.1 Z.2.2.2.1 Z.2.2.2.2 rl _ X Y wy sp _ _) (Ev.no (not_lt_nat (by omega)) (Ev.now' (by rw [List.take_of_length_le (by omega)])))
  | m + 1, i, hi => by
    obtain ⟨s, hs⟩ := nat_list (l := sp) (i := i) (by omega)
    obtain ⟨f1, f2⟩ := hF s (List.mem_of_getElem? hs)
    have ih := changed_l_ev rl sp wy hl hF Z X Y m (i + 1) (by omega)
    refine Ev.step (fun k => impl_Plain_changed_l.eq k Z.1 Z.2.1 Z.2.2.1 Z.2.2.2.1 Z.2.2.2.2 rl _ X Y wy sp _ _) (Ev.yes (lt_nat (by omega)) (Ev.yes (inB_nat (by omega)) ?_))
    rw [Int.toNat_natCast, getD_at hs, w64_succ (by omega)]
    refine Ev.bind (turn1_ev (a := s.1) f1) (Ev.yes (fits_of (by rw [List.length_map, List.length_take]; omega)) ?_)
    rw [take_next' hs, List.map_append] at ih
    exact ih
theorem both (rl : ByteArray) (sp : List Sp) (x y wy : Int) (hsp : sp.length ≤ 1048576) (hrl : rl.size ≤ 9223372036854775807) : ∃ (rl' : ByteArray) (T : List Sp) (x' y' wy' : Int) (ok : Bool), T.length ≤ 300 ∧ Ev (fun k => spec_MirrorPlain k (rl, sp, x, y, wy)) ((rl', T, x', y', wy'), ok) ∧ Ev (fun k => impl_MirrorPlain k (rl, sp, x, y, wy)) ((rl', T, x', y', wy'), ok) := by
  have a1 := isPlain_ev rl sp x y wy hsp hrl
  have a2 := enGood_ev rl sp x y wy hsp
  by_cases H : PlainOk rl sp x y wy
  rotate_left
  · exact ⟨ByteArray.empty, [], 0, 0, 0, false, by simp, Ev.step (fun k => spec_MirrorPlain.eq k rl sp x y wy) (Ev.bind (a2.isF H) (Ev.yes rfl (Ev.now _))), Ev.step (fun k => impl_MirrorPlain.eq k rl sp x y wy) (Ev.bind (a1.isF H) (Ev.yes rfl (Ev.now _)))⟩
  obtain ⟨hR, hlen, ⟨hx, hy⟩, hwy, hS⟩ := id H
  have hF : ∀ s ∈ sp, Far s.1 ∧ Far s.2.1 := fun s hs => (hS.1 s hs).1
  have M := tn_moves
  have hf : ∀ a b, Far a → Far b → (w64 (w64 (w64 ((-1) * a) + w64 (0 * b)) + 0), w64 (w64 (w64 (0 * a) + w64 (1 * b)) + 0)) = tn a b := fun a b ha hb => by
    unfold Far at ha hb
    have wa : w64 (-a) = -a := w64_of (by omega) (by omega)
    have wb : w64 b = b := w64_of (by omega) (by omega)
    have w0 : w64 0 = 0 := w64_of (by omega) (by omega)
    simp only [Int.one_mul, Int.zero_mul, show (-1) * a = -a by omega, wa, wb, w0, Int.add_zero, Int.zero_add]
    rfl
  obtain ⟨T, t1, t2, t3⟩ := enMap_l_ev rl sp x y wy (-1) 0 0 1 0 0 M hf hS.2 hlen (fun s hs => ⟨hF s hs, (hS.1 s hs).2.1⟩) (ByteArray.empty, [], 0, 0, 0) 0 0 sp.length 0 [] (by omega) List.Pairwise.nil (by simp)
  have hTl : T.length = sp.length := by rw [t2.length_eq, List.length_map]
  have eW : (w64 (4 - wy)).tmod 4 = (4 - wy) % 4 := by rw [w64_of (by omega) (by omega), Int.tmod_eq_emod_of_nonneg (by omega)]
  have hW : 0 ≤ (4 - wy) % 4 ∧ (4 - wy) % 4 ≤ 3 := by omega
  have G : PlainOk (oth rl) T (-x) y ((4 - wy) % 4) := by
    refine ⟨ruleOk_oth hR, by omega, ⟨by unfold Far at hx ⊢; omega, hy⟩, hW, fun s hs => ?_, t1⟩
    rw [oth_size]
    obtain ⟨q, hq, rfl⟩ := List.mem_map.1 (t2.mem_iff.1 hs)
    obtain ⟨⟨g1, g2⟩, g3⟩ := hS.1 q hq
    exact ⟨⟨by show Far (-q.1); unfold Far at g1 ⊢; omega, g2⟩, g3⟩
  generalize eO : (4 - wy) % 4 = wz at eW hW G
  obtain ⟨v, g, _⟩ := enGood_ev rl T (-x) y wy (by omega)
  have g' := isPlain_ev (oth rl) T (-x) y wz (by omega) (by rw [oth_size]; exact hrl)
  have eq := hf x y hx hy
  have ex : w64 (w64 (w64 ((-1) * x) + w64 (0 * y)) + 0) = -x := congrArg Prod.fst eq
  have ey : w64 (w64 (w64 (0 * x) + w64 (1 * y)) + 0) = y := congrArg Prod.snd eq
  have loopI := changed_l_ev (oth rl) sp wz hlen hF (ByteArray.empty, [], 0, 0, 0) (-x) y sp.length 0 (by omega)
  have st := sorted_ev M hS.2 hlen hF t1 t2
  have hr6 := hR.1
  have o1 := woOther_ev rl (by omega)
  have o2 := other_ev rl (by omega)
  have o3 := otherWay_ev wy hwy
  rw [eO] at o3
  refine ⟨oth rl, T, -x, y, wz, true, by omega, ?_, ?_⟩
  · refine Ev.step (fun k => spec_MirrorPlain.eq k rl sp x y wy) (Ev.bind (a2.isT H) (Ev.no rfl (Ev.bind (a := ((rl, T, -x, y, wy), v)) (Ev.step (fun k => spec_enMap.eq k rl sp x y wy (-1) 0 0 1 0 0) (Ev.bind t3 ?_)) ?_)))
    · dsimp only
      rw [ex, ey]
      exact Ev.bind g (Ev.now _)
    · dsimp only
      rw [eW]
      exact Ev.bind o1 (Ev.now _)
  · refine Ev.step (fun k => impl_MirrorPlain.eq k rl sp x y wy) (Ev.bind (a1.isT H) (Ev.no rfl (Ev.bind o2 (Ev.bind o3 ?_))))
    refine Ev.bind (a := ((oth rl, T, -x, y, wz), true)) (Ev.step (fun k => impl_Plain_changed.eq k (oth rl) sp x y wz) (Ev.bind (turn1_ev hx) (Ev.bind loopI (Ev.bind st (Ev.bind (a := ((oth rl, T, -x, y, wz), true)) (Ev.step (fun k => impl_whole.eq k (oth rl) T (-x) y wz) (Ev.bind (g'.isT G) (Ev.no rfl (Ev.now _)))) (Ev.now _)))))) (Ev.now _)
theorem main (rl : ByteArray) (sp : List Sp) (x y wy : Int) (h1 : rl.size ≤ 9223372036854775807) (h2 : sp.length ≤ 9223372036854775807) : ∃ k, laws_FnExactMirrorPlain k (rl, sp, x, y, wy) = some true := by
  refine Ev.rounds (Ev.step (fun k => laws_FnExactMirrorPlain.eq k rl sp x y wy) ?_)
  obtain ⟨z, s1, s2⟩ := szPlain_ev rl sp x y wy h1 h2
  refine Ev.bind s1 (Ev.cond (fun _ => Ev.now _) fun hn => ?_)
  have hl : sp.length ≤ 1048576 := by
    rcases s2 with s2 | s2
    · exact absurd s2 (of_decide_eq_false hn)
    · exact s2
  obtain ⟨rl', T, x', y', wy', ok, hT, hs, hi⟩ := both rl sp x y wy hl h1
  have hto := toPlain_ev rl sp x y wy hl
  have heq := eqPlain_ev rl sp x y wy hl
  have ok1 : (!(ok == ok)) = false := by cases ok <;> rfl
  have he := eqPlain_ev rl' T x' y' wy' (by omega)
  obtain ⟨M0, hm0, _⟩ := markHeldP_ev rl sp x y wy hl
  obtain ⟨M, hm, hh⟩ := markHeldP_ev rl' T x' y' wy' (by omega)
  have n0 : decide (1 + 3 * (sp.length : Int) < 0) = false := decide_eq_false (by omega)
  have n1 : decide (1 + 3 * (T.length : Int) < 0) = false := decide_eq_false (by omega)
  refine Ev.bind hto (Ev.bind hs (Ev.bind hto (Ev.bind hi (Ev.bind he (Ev.no rfl (Ev.no ok1 ?_))))))
  refine Ev.bind hto (Ev.bind heq (Ev.no rfl (Ev.bind hm0 (Ev.no n0 ?_))))
  refine Ev.bind he (Ev.no rfl (Ev.no ok1 (Ev.bind hm (Ev.bind hh (Ev.no n1 (Ev.no (neq_self _) ?_))))))
  exact Ev.bind hto (Ev.bind hi (Ev.bind he (Ev.no rfl (Ev.no ok1 (Ev.bind hh (Ev.no n1 (Ev.no (neq_self _) (Ev.now _))))))))
theorem pure : ∀ d : Dl laws_FnExactMirrorPlain.ins, goodL laws_FnExactMirrorPlain.ins d → ∃ k, laws_FnExactMirrorPlain k d = some true := by
  rintro ⟨rl, sp, x, y, wy⟩ hg
  exact main rl sp x y wy hg.1 hg.2.1.1
end Go.Proofs.YtmdgodjcfhimbaaGreatDoor.fnExactMirrorPlain
