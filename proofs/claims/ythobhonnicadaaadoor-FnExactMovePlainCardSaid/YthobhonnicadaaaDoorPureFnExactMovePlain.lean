/- The plain law FnExactMovePlain. -/
import Derived.Test.YthobhonnicadaaaDoorOk
import Derived.Test.YthobhonnicadaaaDoorPuMove
namespace Go.Proofs.YthobhonnicadaaaDoor.fnExactMovePlain
open Go Go.Proofs Go.Proofs.YthobhonnicadaaaDoorS
set_option linter.unusedVariables false
set_option linter.unusedSimpArgs false
def mv (r d a b : Int) : Pt := (a + r, b + d)
theorem mv_moves {r d : Int} (hr : Far r) (hd : Far d) : Moves (mv r d) := by
  unfold Far at hr hd
  refine ⟨fun a b c e h => ?_, fun a b ha hb => ?_⟩
  · have h1 : a + r = c + r := congrArg Prod.fst h
    have h2 : b + d = e + d := congrArg Prod.snd h
    omega
  · unfold Far at ha hb
    show (_ ≤ a + r ∧ a + r ≤ _) ∧ (_ ≤ b + d ∧ b + d ≤ _)
    omega
theorem near64 {a r : Int} (ha : Far a) (hr : Far r) : w64 (a + r) = a + r := by unfold Far at ha hr; exact w64_of (by omega) (by omega)
theorem changed_l_ev (rl : ByteArray) (sp : List Sp) (wy r d : Int) (hr : Far r) (hd : Far d) (hl : sp.length ≤ 300) (hF : ∀ s ∈ sp, Far s.1 ∧ Far s.2.1) (Z : ByteArray × List Sp × Int × Int × Int) (X Y : Int) :
    ∀ (m i : Nat), i + m = sp.length → Ev (fun k => impl_Plain_changed_l k ((r, d), Z, (rl, (sp.take i).map (img (mv r d)), X, Y, wy), sp, (sp.length : Int), (i : Int))) (Z, (rl, sp.map (img (mv r d)), X, Y, wy))
  | 0, i, hi => Ev.step (fun k => impl_Plain_changed_l.eq k r d Z.1 Z.2.1 Z.2.2.1 Z.2.2.2.1 Z.2.2.2.2 rl _ X Y wy sp _ _) (Ev.no (not_lt_nat (by omega)) (Ev.now' (by rw [List.take_of_length_le (by omega)])))
  | m + 1, i, hi => by
    obtain ⟨s, hs⟩ := nat_list (l := sp) (i := i) (by omega)
    obtain ⟨f1, f2⟩ := hF s (List.mem_of_getElem? hs)
    have ih := changed_l_ev rl sp wy r d hr hd hl hF Z X Y m (i + 1) (by omega)
    refine Ev.step (fun k => impl_Plain_changed_l.eq k r d Z.1 Z.2.1 Z.2.2.1 Z.2.2.2.1 Z.2.2.2.2 rl _ X Y wy sp _ _) (Ev.yes (lt_nat (by omega)) (Ev.yes (inB_nat (by omega)) ?_))
    rw [Int.toNat_natCast, getD_at hs, w64_succ (by omega)]
    refine Ev.bind (a := (s.1 + r, s.2.1 + d)) (Ev.step (fun k => impl_MovePlain_1.eq k s.1 s.2.1 r d) (Ev.now' (by rw [near64 f1 hr, near64 f2 hd]))) (Ev.yes (fits_of (by rw [List.length_map, List.length_take]; omega)) ?_)
    rw [take_next' hs, List.map_append] at ih
    exact ih
theorem both (rl : ByteArray) (sp : List Sp) (x y wy r d : Int) (hsp : sp.length ≤ 1048576) (hrl : rl.size ≤ 9223372036854775807) : ∃ (rl' : ByteArray) (T : List Sp) (x' y' wy' : Int) (ok : Bool), T.length ≤ 300 ∧ Ev (fun k => spec_MovePlain k ((rl, sp, x, y, wy), r, d)) ((rl', T, x', y', wy'), ok) ∧ Ev (fun k => impl_MovePlain k ((rl, sp, x, y, wy), r, d)) ((rl', T, x', y', wy'), ok) := by
  have a1 := isPlain_ev rl sp x y wy hsp hrl
  have a2 := enGood_ev rl sp x y wy hsp
  have nS : ∀ {g h : Nat → Option ((ByteArray × List Sp × Int × Int × Int) × Bool)}, Ev g ((ByteArray.empty, [], 0, 0, 0), false) → Ev h ((ByteArray.empty, [], 0, 0, 0), false) → ∃ (rl' : ByteArray) (T : List Sp) (x' y' wy' : Int) (ok : Bool), T.length ≤ 300 ∧ Ev g ((rl', T, x', y', wy'), ok) ∧ Ev h ((rl', T, x', y', wy'), ok) := fun h1 h2 => ⟨ByteArray.empty, [], 0, 0, 0, false, by simp, h1, h2⟩
  by_cases H : PlainOk rl sp x y wy
  rotate_left
  · exact nS (Ev.step (fun k => spec_MovePlain.eq k rl sp x y wy r d) (Ev.bind (Ev.step (fun k => spec_enCell.eq k rl sp x y wy r d) (Ev.bind (a2.isF H) (Ev.no rfl (Ev.now _)))) (Ev.yes rfl (Ev.now _)))) (Ev.step (fun k => impl_MovePlain.eq k rl sp x y wy r d) (Ev.bind (a1.isF H) (Ev.yes rfl (Ev.now _))))
  by_cases hr : Far r ∧ Far d
  rotate_left
  · obtain ⟨v, v1, v2⟩ := EvB.and (enFar_ev r) fun _ => (enFar_ev d).ret
    have hv : v = false := by cases v with | false => rfl | true => exact absurd (v2.1 rfl) hr
    subst hv
    exact nS (Ev.step (fun k => spec_MovePlain.eq k rl sp x y wy r d) (Ev.bind (Ev.step (fun k => spec_enCell.eq k rl sp x y wy r d) (Ev.bind (a2.isT H) (Ev.yes rfl v1))) (Ev.yes rfl (Ev.now _)))) (Ev.step (fun k => impl_MovePlain.eq k rl sp x y wy r d) (Ev.bind (a1.isT H) (Ev.no rfl (Ev.bind ((isNear_ev r d).isF hr) (Ev.yes rfl (Ev.now _))))))
  obtain ⟨hr, hd⟩ := hr
  obtain ⟨hR, hlen, ⟨hx, hy⟩, hwy, hS⟩ := id H
  have hF : ∀ s ∈ sp, Far s.1 ∧ Far s.2.1 := fun s hs => (hS.1 s hs).1
  have M := mv_moves hr hd
  have hf : ∀ a b, Far a → Far b → (w64 (w64 (w64 (1 * a) + w64 (0 * b)) + r), w64 (w64 (w64 (0 * a) + w64 (1 * b)) + d)) = mv r d a b := fun a b ha hb => by
    have ea := near64 ha hr
    have eb := near64 hb hd
    unfold Far at ha hb
    rw [Int.one_mul, Int.one_mul, Int.zero_mul, Int.zero_mul, w64_of (n := a) (by omega) (by omega), w64_of (n := b) (by omega) (by omega), w64_of (n := 0) (by omega) (by omega), Int.add_zero, Int.zero_add, w64_of (n := a) (by omega) (by omega), w64_of (n := b) (by omega) (by omega), ea, eb]
    rfl
  obtain ⟨T, t1, t2, t3⟩ := enMap_l_ev rl sp x y wy 1 0 0 1 r d M hf hS.2 hlen (fun s hs => ⟨hF s hs, (hS.1 s hs).2.1⟩) (ByteArray.empty, [], 0, 0, 0) 0 0 sp.length 0 [] (by omega) List.Pairwise.nil (by simp)
  have hTl : T.length = sp.length := by rw [t2.length_eq, List.length_map]
  have g := enGood_ev rl T (x + r) (y + d) wy (by omega)
  have g' := isPlain_ev rl T (x + r) (y + d) wy (by omega) hrl
  have eq := hf x y hx hy
  have ex : w64 (w64 (w64 (1 * x) + w64 (0 * y)) + r) = x + r := congrArg Prod.fst eq
  have ey : w64 (w64 (w64 (0 * x) + w64 (1 * y)) + d) = y + d := congrArg Prod.snd eq
  have loopI := changed_l_ev rl sp wy r d hr hd hlen hF (ByteArray.empty, [], 0, 0, 0) (x + r) (y + d) sp.length 0 (by omega)
  have st := sorted_ev M hS.2 hlen hF t1 t2
  have sp0 : ∀ (ok : Bool), Ev (fun k => spec_enGood k (rl, T, x + r, y + d, wy)) ok → ∀ res, Ev (fun k => cond (!ok) (some ((ByteArray.empty, [], 0, 0, 0), false)) (some ((rl, T, x + r, y + d, wy), true))) res → Ev (fun k => spec_MovePlain k ((rl, sp, x, y, wy), r, d)) res := fun ok hok res hres => by
    refine Ev.step (fun k => spec_MovePlain.eq k rl sp x y wy r d) (Ev.bind (Ev.step (fun k => spec_enCell.eq k rl sp x y wy r d) (Ev.bind (a2.isT H) (Ev.yes rfl (Ev.bind ((enFar_ev r).isT hr) (Ev.yes rfl (Ev.bind ((enFar_ev d).isT hd) (Ev.now _))))))) (Ev.no rfl (Ev.bind (a := ((rl, T, x + r, y + d, wy), ok)) (Ev.step (fun k => spec_enMap.eq k rl sp x y wy 1 0 0 1 r d) (Ev.bind t3 ?_)) hres)))
    dsimp only
    rw [ex, ey]
    exact Ev.bind hok (Ev.now _)
  have ip0 : ∀ (ok : Bool), Ev (fun k => impl_IsPlain k (rl, T, x + r, y + d, wy)) ok → ∀ res, Ev (fun k => cond (!ok) (some ((ByteArray.empty, [], 0, 0, 0), false)) (some ((rl, T, x + r, y + d, wy), true))) res → Ev (fun k => impl_MovePlain k ((rl, sp, x, y, wy), r, d)) res := fun ok hok res hres => by
    refine Ev.step (fun k => impl_MovePlain.eq k rl sp x y wy r d) (Ev.bind (a1.isT H) (Ev.no rfl (Ev.bind ((isNear_ev r d).isT ⟨hr, hd⟩) (Ev.no rfl (Ev.bind (a := res) (Ev.step (fun k => impl_Plain_changed.eq k rl sp x y wy r d) (Ev.bind (a := (x + r, y + d)) (Ev.step (fun k => impl_MovePlain_1.eq k x y r d) (Ev.now' (by rw [near64 hx hr, near64 hy hd]))) (Ev.bind loopI (Ev.bind st (Ev.bind (a := res) (Ev.step (fun k => impl_whole.eq k rl T (x + r) (y + d) wy) (Ev.bind hok hres)) (Ev.now _)))))) (Ev.now _))))))
  by_cases G : PlainOk rl T (x + r) (y + d) wy
  · exact ⟨rl, T, x + r, y + d, wy, true, by omega, sp0 true (g.isT G) _ (Ev.now _), ip0 true (g'.isT G) _ (Ev.now _)⟩
  · exact nS (sp0 false (g.isF G) _ (Ev.now _)) (ip0 false (g'.isF G) _ (Ev.now _))
theorem main (rl : ByteArray) (sp : List Sp) (x y wy r d : Int) (h1 : rl.size ≤ 9223372036854775807) (h2 : sp.length ≤ 9223372036854775807) : ∃ k, laws_FnExactMovePlain k ((rl, sp, x, y, wy), r, d) = some true := by
  refine Ev.rounds (Ev.step (fun k => laws_FnExactMovePlain.eq k rl sp x y wy r d) ?_)
  obtain ⟨z, s1, s2⟩ := szPlain_ev rl sp x y wy h1 h2
  refine Ev.bind s1 (Ev.cond (fun _ => Ev.now _) fun hn => ?_)
  have hl : sp.length ≤ 1048576 := by
    rcases s2 with s2 | s2
    · exact absurd s2 (of_decide_eq_false hn)
    · exact s2
  obtain ⟨rl', T, x', y', wy', ok, hT, hs, hi⟩ := both rl sp x y wy r d hl h1
  have hto := toPlain_ev rl sp x y wy hl
  have heq := eqPlain_ev rl sp x y wy hl
  have ok1 : (!(ok == ok)) = false := by cases ok <;> rfl
  have he := eqPlain_ev rl' T x' y' wy' (by omega)
  obtain ⟨M0, hm0, _⟩ := markHeldP_ev rl sp x y wy hl
  obtain ⟨M, hm, hh⟩ := markHeldP_ev rl' T x' y' wy' (by omega)
  have n0 : decide (1 + 3 * (sp.length : Int) < 0) = false := decide_eq_false (by omega)
  have n1 : decide (1 + 3 * (T.length : Int) < 0) = false := decide_eq_false (by omega)
  refine Ev.bind hto (Ev.bind hs (Ev.bind hto (Ev.bind hi (Ev.bind he (Ev.no rfl (Ev.no ok1 ?_))))))
  refine Ev.bind hto (Ev.bind heq (Ev.no rfl (Ev.bind hm0 (Ev.no n0 ?_))))
  refine Ev.bind he (Ev.no rfl (Ev.no ok1 (Ev.bind hm (Ev.bind hh (Ev.no n1 (Ev.no (neq_self _) ?_))))))
  exact Ev.bind hto (Ev.bind hi (Ev.bind he (Ev.no rfl (Ev.no ok1 (Ev.bind hh (Ev.no n1 (Ev.no (neq_self _) (Ev.now _))))))))
theorem pure : ∀ d : Dl laws_FnExactMovePlain.ins, goodL laws_FnExactMovePlain.ins d → ∃ k, laws_FnExactMovePlain k d = some true := by
  rintro ⟨⟨rl, sp, x, y, wy⟩, r, d⟩ hg
  exact main rl sp x y wy r d hg.1.1 hg.1.2.1.1
end Go.Proofs.YthobhonnicadaaaDoor.fnExactMovePlain
