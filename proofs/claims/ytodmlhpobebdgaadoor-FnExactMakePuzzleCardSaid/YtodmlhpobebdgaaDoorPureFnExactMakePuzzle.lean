/- The plain law FnExactMakePuzzle. -/
import Derived.Test.YtodmlhpobebdgaaDoorOk
import Derived.Test.YtodmlhpobebdgaaDoorPuHidden
import Derived.Test.YtodmlhpobebdgaaDoorPuPuz1
import Derived.Test.YtodmlhpobebdgaaDoorPuPzL
namespace Go.Proofs.YtodmlhpobebdgaaDoor.fnExactMakePuzzle
open Go Go.Proofs Go.Proofs.YtodmlhpobebdgaaDoorS
set_option linter.unusedVariables false
set_option linter.unusedSimpArgs false
def nx (z : Int) : Int := (z * 151 + 2083).tmod 10007
theorem nx_range {z : Int} (h : 0 ≤ z ∧ z ≤ 10006) : 0 ≤ nx z ∧ nx z ≤ 10006 := by
  unfold nx
  rw [Int.tmod_eq_emod_of_nonneg (by omega)]
  omega
theorem loop (rl : ByteArray) (w h : Int) (cs : ByteArray) (x y wy : Int) (H : WorldOk rl w h cs x y wy) (n : Nat) (hn : n ≤ 6) (t6 : ByteArray × Int × Int × List Cl) : ∀ (m i : Nat) (p : List Cl) (z : Int), i + m = n → p.length = i → 0 ≤ z ∧ z ≤ 10006 →
    ∃ P : List Cl, P.length = n ∧ Ev (fun k => spec_MakePuzzle_l k ((m : Int), (rl, w, h, cs, x, y, wy), t6, (rl, w, h, p), z)) (t6, (rl, w, h, P)) ∧ Ev (fun k => impl_MakePuzzle_l k ((rl, w, h, cs, x, y, wy), t6, z, (rl, w, h, p), (n : Int), (i : Int))) (t6, (rl, w, h, P))
  | 0, i, p, z, hi, hp, hz => ⟨p, by omega, Ev.step (fun k => spec_MakePuzzle_l.eq k _ rl w h cs x y wy t6.1 t6.2.1 t6.2.2.1 t6.2.2.2 rl w h p z) (Ev.no rfl (Ev.now _)),
      Ev.step (fun k => impl_MakePuzzle_l.eq k rl w h cs x y wy t6.1 t6.2.1 t6.2.2.1 t6.2.2.2 z rl w h p _ _) (Ev.no (not_lt_nat (by omega)) (Ev.now _))⟩
  | m + 1, i, p, z, hi, hp, hz => by
    obtain ⟨hR, hw, hh, hs, _⟩ := id H
    have hm := mul_range (a := w) (b := h) (by omega) (by omega) (by omega) (by omega)
    have nS : ∀ z : Int, 0 ≤ z ∧ z ≤ 10006 → Ev (fun k => spec_pzNext k z) (nx z) := fun z hz => Ev.step (fun k => spec_pzNext.eq k z) (Ev.now' (by
      unfold nx
      rw [w64_of (n := 151 * z) (by omega) (by omega), w64_of (by omega) (by omega), Int.mul_comm]))
    have nI : ∀ z : Int, 0 ≤ z ∧ z ≤ 10006 → Ev (fun k => impl_MakePuzzle_1 k z) (nx z, nx z) := fun z hz => Ev.step (fun k => impl_MakePuzzle_1.eq k z) (Ev.now' (by
      unfold nx
      rw [w64_of (n := z * 151) (by omega) (by omega), w64_of (by omega) (by omega)]))
    have r1 := nx_range hz
    have s1 := nS z hz
    have i1 := nI z hz
    generalize nx z = z1 at r1 s1 i1
    have r2 := nx_range r1
    have s2 := nS z1 r1
    have i2 := nI z1 r1
    generalize nx z1 = z2 at r2 s2 i2
    obtain ⟨kd, ekd⟩ : ∃ kd, z1.tmod 5 = kd := ⟨_, rfl⟩
    have hkd : 0 ≤ kd ∧ kd ≤ 4 := by rw [← ekd, Int.tmod_eq_emod_of_nonneg (by omega)]; omega
    have hne : ((cs.size : Int) != 0) = true := by rw [bne_iff_ne]; omega
    have hf : fits (p.length + 1) 24 = true := fits_of (by omega)
    have e1 : w64 (((m + 1 : Nat) : Int) - 1) = (m : Int) := by rw [w64_of (by omega) (by omega)]; omega
    have e2 : w64 ((i : Int) + 1) = ((i + 1 : Nat) : Int) := w64_succ (by omega)
    have goS : ∀ r, Ev (fun k => cond (decide (kd < 4))
   ((spec_pzNext k z1).bind fun r2 =>
    cond (kd == 0)
    (cond ((cs.size : Int) != 0)
     ((spec_pzOf k (kd, (r2.tmod (cs.size : Int)), (rl, w, h, cs, x, y, wy))).bind fun r3 =>
      cond (fits (p.length + 1) 24)
      (spec_MakePuzzle_l k ((m : Int), (rl, w, h, cs, x, y, wy), t6, (rl, w, h, (p ++ [r3])), r2))
      (none))
     (none))
    ((spec_pzOf k (kd, (r2.tmod 51), (rl, w, h, cs, x, y, wy))).bind fun r4 =>
     cond (fits (p.length + 1) 24)
     (spec_MakePuzzle_l k ((m : Int), (rl, w, h, cs, x, y, wy), t6, (rl, w, h, (p ++ [r4])), r2))
     (none)))
   ((spec_pzOf k (kd, 0, (rl, w, h, cs, x, y, wy))).bind fun r5 =>
    cond (fits (p.length + 1) 24)
    (spec_MakePuzzle_l k ((m : Int), (rl, w, h, cs, x, y, wy), t6, (rl, w, h, (p ++ [r5])), z1))
    (none))) r → Ev (fun k => spec_MakePuzzle_l k (((m + 1 : Nat) : Int), (rl, w, h, cs, x, y, wy), t6, (rl, w, h, p), z)) r := fun r hr => by
      refine Ev.step (fun k => spec_MakePuzzle_l.eq k _ rl w h cs x y wy t6.1 t6.2.1 t6.2.2.1 t6.2.2.2 rl w h p z) (Ev.yes (decide_eq_true (by omega)) (Ev.bind s1 ?_))
      rw [ekd, e1]
      exact hr
    have goI : ∀ r, Ev (fun k => cond (kd == 0)
   ((impl_MakePuzzle_1 k z1).bind fun r2 =>
    cond ((cs.size : Int) != 0)
    (cond (kd == 4)
     ((impl_told k (4, 0, (rl, w, h, cs, x, y, wy))).bind fun r3 =>
      cond (fits (p.length + 1) 24)
      (impl_MakePuzzle_l k ((rl, w, h, cs, x, y, wy), t6, r2.2, (rl, w, h, (p ++ [(kd, (r3, 0))])), (n : Int), ((i + 1 : Nat) : Int)))
      (none))
     ((impl_told k (kd, (r2.1.tmod (cs.size : Int)), (rl, w, h, cs, x, y, wy))).bind fun r4 =>
      cond (fits (p.length + 1) 24)
      (impl_MakePuzzle_l k ((rl, w, h, cs, x, y, wy), t6, r2.2, (rl, w, h, (p ++ [(kd, ((r2.1.tmod (cs.size : Int)), r4))])), (n : Int), ((i + 1 : Nat) : Int)))
      (none)))
    (none))
   (cond (kd == 1)
    ((impl_MakePuzzle_1 k z1).bind fun r5 =>
     cond (kd == 4)
     ((impl_told k (4, 0, (rl, w, h, cs, x, y, wy))).bind fun r6 =>
      cond (fits (p.length + 1) 24)
      (impl_MakePuzzle_l k ((rl, w, h, cs, x, y, wy), t6, r5.2, (rl, w, h, (p ++ [(kd, (r6, 0))])), (n : Int), ((i + 1 : Nat) : Int)))
      (none))
     ((impl_told k (kd, (r5.1.tmod 51), (rl, w, h, cs, x, y, wy))).bind fun r7 =>
      cond (fits (p.length + 1) 24)
      (impl_MakePuzzle_l k ((rl, w, h, cs, x, y, wy), t6, r5.2, (rl, w, h, (p ++ [(kd, ((r5.1.tmod 51), r7))])), (n : Int), ((i + 1 : Nat) : Int)))
      (none)))
    (cond (kd == 2)
     ((impl_MakePuzzle_1 k z1).bind fun r8 =>
      cond (kd == 4)
      ((impl_told k (4, 0, (rl, w, h, cs, x, y, wy))).bind fun r9 =>
       cond (fits (p.length + 1) 24)
       (impl_MakePuzzle_l k ((rl, w, h, cs, x, y, wy), t6, r8.2, (rl, w, h, (p ++ [(kd, (r9, 0))])), (n : Int), ((i + 1 : Nat) : Int)))
       (none))
      ((impl_told k (kd, (r8.1.tmod 51), (rl, w, h, cs, x, y, wy))).bind fun r10 =>
       cond (fits (p.length + 1) 24)
       (impl_MakePuzzle_l k ((rl, w, h, cs, x, y, wy), t6, r8.2, (rl, w, h, (p ++ [(kd, ((r8.1.tmod 51), r10))])), (n : Int), ((i + 1 : Nat) : Int)))
       (none)))
     (cond (kd == 3)
      ((impl_MakePuzzle_1 k z1).bind fun r11 =>
       cond (kd == 4)
       ((impl_told k (4, 0, (rl, w, h, cs, x, y, wy))).bind fun r12 =>
        cond (fits (p.length + 1) 24)
        (impl_MakePuzzle_l k ((rl, w, h, cs, x, y, wy), t6, r11.2, (rl, w, h, (p ++ [(kd, (r12, 0))])), (n : Int), ((i + 1 : Nat) : Int)))
        (none))
       ((impl_told k (kd, (r11.1.tmod 51), (rl, w, h, cs, x, y, wy))).bind fun r13 =>
        cond (fits (p.length + 1) 24)
        (impl_MakePuzzle_l k ((rl, w, h, cs, x, y, wy), t6, r11.2, (rl, w, h, (p ++ [(kd, ((r11.1.tmod 51), r13))])), (n : Int), ((i + 1 : Nat) : Int)))
        (none)))
      (cond (kd == 4)
       ((impl_told k (4, 0, (rl, w, h, cs, x, y, wy))).bind fun r14 =>
        cond (fits (p.length + 1) 24)
        (impl_MakePuzzle_l k ((rl, w, h, cs, x, y, wy), t6, z1, (rl, w, h, (p ++ [(kd, (r14, 0))])), (n : Int), ((i + 1 : Nat) : Int)))
        (none))
       ((impl_told k (kd, 0, (rl, w, h, cs, x, y, wy))).bind fun r15 =>
        cond (fits (p.length + 1) 24)
        (impl_MakePuzzle_l k ((rl, w, h, cs, x, y, wy), t6, z1, (rl, w, h, (p ++ [(kd, (0, r15))])), (n : Int), ((i + 1 : Nat) : Int)))
        (none))))))) r → Ev (fun k => impl_MakePuzzle_l k ((rl, w, h, cs, x, y, wy), t6, z, (rl, w, h, p), (n : Int), (i : Int))) r := fun r hr => by
      refine Ev.step (fun k => impl_MakePuzzle_l.eq k rl w h cs x y wy t6.1 t6.2.1 t6.2.2.1 t6.2.2.2 z rl w h p _ _) (Ev.yes (lt_nat (by omega)) (Ev.bind i1 ?_))
      dsimp only
      rw [ekd, e2]
      exact hr
    clear ekd
    have ofN : ∀ (kd a v : Int), (kd == 4) = false → Ev (fun k => spec_pzValue k (kd, a, (rl, w, h, cs, x, y, wy))) v → Ev (fun k => spec_pzOf k (kd, a, (rl, w, h, cs, x, y, wy))) (kd, a, v) := fun kd a v hk hv => Ev.step (fun k => spec_pzOf.eq k kd a rl w h cs x y wy) (Ev.no hk (Ev.bind hv (Ev.now _)))
    have : kd = 0 ∨ kd = 1 ∨ kd = 2 ∨ kd = 3 ∨ kd = 4 := by omega
    have m1 : 0 ≤ z2.tmod (cs.size : Int) ∧ z2.tmod (cs.size : Int) < (cs.size : Int) := by
      rw [Int.tmod_eq_emod_of_nonneg (by omega)]
      exact ⟨Int.emod_nonneg _ (by omega), Int.emod_lt_of_pos _ (by omega)⟩
    have m2 : 0 ≤ z2.tmod 51 ∧ z2.tmod 51 ≤ 50 := by
      rw [Int.tmod_eq_emod_of_nonneg (by omega)]
      omega
    rcases this with rfl | rfl | rfl | rfl | rfl
    · obtain ⟨v, v1, v2⟩ := value_ev rl w h cs x y wy H 0 (z2.tmod (cs.size : Int)) (.inl ⟨rfl, m1.1, m1.2⟩)
      obtain ⟨P, hP, q1, q2⟩ := loop rl w h cs x y wy H n hn t6 m (i + 1) (p ++ [(0, z2.tmod (cs.size : Int), v)]) z2 (by omega) (by simp; omega) r2
      exact ⟨P, hP, goS _ (Ev.yes rfl (Ev.bind s2 (Ev.yes rfl (Ev.yes hne (Ev.bind (ofN _ _ _ rfl v2) (Ev.yes hf q1)))))), goI _ (Ev.yes rfl (Ev.bind i2 (Ev.yes hne (Ev.no rfl (Ev.bind v1 (Ev.yes hf q2))))))⟩
    · obtain ⟨v, v1, v2⟩ := value_ev rl w h cs x y wy H 1 (z2.tmod 51) (.inr (.inr ⟨.inl rfl, m2.1, m2.2⟩))
      obtain ⟨P, hP, q1, q2⟩ := loop rl w h cs x y wy H n hn t6 m (i + 1) (p ++ [(1, z2.tmod 51, v)]) z2 (by omega) (by simp; omega) r2
      exact ⟨P, hP, goS _ (Ev.yes rfl (Ev.bind s2 (Ev.no rfl (Ev.bind (ofN _ _ _ rfl v2) (Ev.yes hf q1))))), goI _ (Ev.no rfl (Ev.yes rfl (Ev.bind i2 (Ev.no rfl (Ev.bind v1 (Ev.yes hf q2))))))⟩
    · obtain ⟨v, v1, v2⟩ := value_ev rl w h cs x y wy H 2 (z2.tmod 51) (.inr (.inr ⟨.inr (.inl rfl), m2.1, m2.2⟩))
      obtain ⟨P, hP, q1, q2⟩ := loop rl w h cs x y wy H n hn t6 m (i + 1) (p ++ [(2, z2.tmod 51, v)]) z2 (by omega) (by simp; omega) r2
      exact ⟨P, hP, goS _ (Ev.yes rfl (Ev.bind s2 (Ev.no rfl (Ev.bind (ofN _ _ _ rfl v2) (Ev.yes hf q1))))), goI _ (Ev.no rfl (Ev.no rfl (Ev.yes rfl (Ev.bind i2 (Ev.no rfl (Ev.bind v1 (Ev.yes hf q2)))))))⟩
    · obtain ⟨v, v1, v2⟩ := value_ev rl w h cs x y wy H 3 (z2.tmod 51) (.inr (.inr ⟨.inr (.inr rfl), m2.1, m2.2⟩))
      obtain ⟨P, hP, q1, q2⟩ := loop rl w h cs x y wy H n hn t6 m (i + 1) (p ++ [(3, z2.tmod 51, v)]) z2 (by omega) (by simp; omega) r2
      exact ⟨P, hP, goS _ (Ev.yes rfl (Ev.bind s2 (Ev.no rfl (Ev.bind (ofN _ _ _ rfl v2) (Ev.yes hf q1))))), goI _ (Ev.no rfl (Ev.no rfl (Ev.no rfl (Ev.yes rfl (Ev.bind i2 (Ev.no rfl (Ev.bind v1 (Ev.yes hf q2))))))))⟩
    · obtain ⟨v, v1, v2⟩ := value_ev rl w h cs x y wy H 4 0 (.inr (.inl ⟨rfl, rfl⟩))
      obtain ⟨P, hP, q1, q2⟩ := loop rl w h cs x y wy H n hn t6 m (i + 1) (p ++ [(4, v, 0)]) z1 (by omega) (by simp; omega) r1
      have of4 : Ev (fun k => spec_pzOf k (4, 0, (rl, w, h, cs, x, y, wy))) (4, v, 0) := Ev.step (fun k => spec_pzOf.eq k 4 0 rl w h cs x y wy) (Ev.yes rfl (Ev.bind v2 (Ev.now _)))
      exact ⟨P, hP, goS _ (Ev.no rfl (Ev.bind of4 (Ev.yes hf q1))), goI _ (Ev.no rfl (Ev.no rfl (Ev.no rfl (Ev.no rfl (Ev.yes rfl (Ev.bind v1 (Ev.yes hf q2)))))))⟩
theorem both (rl : ByteArray) (w h : Int) (cs : ByteArray) (x y wy n z : Int) (hrl : rl.size ≤ 9223372036854775807) (hc : cs.size ≤ 9223372036854775807) : ∃ (rl' : ByteArray) (w' h' : Int) (P : List Cl) (ok : Bool), P.length ≤ 6 ∧ Ev (fun k => spec_MakePuzzle k ((rl, w, h, cs, x, y, wy), n, z)) ((rl', w', h', P), ok) ∧ Ev (fun k => impl_MakePuzzle k ((rl, w, h, cs, x, y, wy), n, z)) ((rl', w', h', P), ok) := by
  have a1 := isHidden_ev rl w h cs x y wy hrl hc
  have a2 := pzHidden_ev rl w h cs x y wy
  by_cases H : HidOk rl w h cs x y wy
  rotate_left
  · exact ⟨ByteArray.empty, 0, 0, [], false, by simp, Ev.step (fun k => spec_MakePuzzle.eq k rl w h cs x y wy n z) (Ev.bind (a2.isF H) (Ev.yes rfl (Ev.now _))), Ev.step (fun k => impl_MakePuzzle.eq k rl w h cs x y wy n z) (Ev.bind (a1.isF H) (Ev.yes rfl (Ev.now _)))⟩
  by_cases hN : 0 ≤ n ∧ n ≤ 6
  rotate_left
  · exact ⟨ByteArray.empty, 0, 0, [], false, by simp, Ev.step (fun k => spec_MakePuzzle.eq k rl w h cs x y wy n z) (Ev.bind (a2.isT H) (Ev.no rfl (Ev.bind ((l1In_ev n 0 6).isF hN) (Ev.yes rfl (Ev.now _))))), Ev.step (fun k => impl_MakePuzzle.eq k rl w h cs x y wy n z) (Ev.bind (a1.isT H) (Ev.no rfl (Ev.bind ((within_ev n 0 6).isF hN) (Ev.yes rfl (Ev.now _)))))⟩
  by_cases hZ : 0 ≤ z ∧ z ≤ 9999
  rotate_left
  · exact ⟨ByteArray.empty, 0, 0, [], false, by simp, Ev.step (fun k => spec_MakePuzzle.eq k rl w h cs x y wy n z) (Ev.bind (a2.isT H) (Ev.no rfl (Ev.bind ((l1In_ev n 0 6).isT hN) (Ev.no rfl (Ev.bind ((l1In_ev z 0 9999).isF hZ) (Ev.yes rfl (Ev.now _))))))), Ev.step (fun k => impl_MakePuzzle.eq k rl w h cs x y wy n z) (Ev.bind (a1.isT H) (Ev.no rfl (Ev.bind ((within_ev n 0 6).isT hN) (Ev.no rfl (Ev.bind ((within_ev z 0 9999).isF hZ) (Ev.yes rfl (Ev.now _)))))))⟩
  obtain ⟨N, rfl⟩ := Int.eq_ofNat_of_zero_le hN.1
  obtain ⟨P, hP, q1, q2⟩ := loop rl w h cs x y wy H.2.1 N (by omega) (ByteArray.empty, 0, 0, []) N 0 [] z (by omega) rfl (by omega)
  exact ⟨rl, w, h, P, true, by omega, Ev.step (fun k => spec_MakePuzzle.eq k rl w h cs x y wy N z) (Ev.bind (a2.isT H) (Ev.no rfl (Ev.bind ((l1In_ev N 0 6).isT hN) (Ev.no rfl (Ev.bind ((l1In_ev z 0 9999).isT hZ) (Ev.no rfl (Ev.bind q1 (Ev.now _)))))))), Ev.step (fun k => impl_MakePuzzle.eq k rl w h cs x y wy N z) (Ev.bind (a1.isT H) (Ev.no rfl (Ev.bind ((within_ev N 0 6).isT hN) (Ev.no rfl (Ev.bind ((within_ev z 0 9999).isT hZ) (Ev.no rfl (Ev.bind q2 (Ev.now _))))))))⟩
theorem main (rl : ByteArray) (w h : Int) (cs : ByteArray) (x y wy n z : Int) (hrl : rl.size ≤ 9223372036854775807) (hc : cs.size ≤ 9223372036854775807) : ∃ k, laws_FnExactMakePuzzle k ((rl, w, h, cs, x, y, wy), n, z) = some true := by
  refine Ev.rounds (Ev.step (fun k => laws_FnExactMakePuzzle.eq k rl w h cs x y wy n z) ?_)
  obtain ⟨r, s1⟩ := szWorld_ev rl w h cs x y wy hrl hc
  refine Ev.bind s1 (Ev.cond (fun _ => Ev.now _) fun hn => ?_)
  obtain ⟨rl', w', h', P, ok, hP, hs, hi⟩ := both rl w h cs x y wy n z hrl hc
  have htw := toWorld_ev rl w h cs x y wy
  have ok1 : (!(ok == ok)) = false := by cases ok <;> rfl
  have he := eqPuzzle_ev rl' w' h' P (by omega)
  obtain ⟨M, hm, hh⟩ := markHeld_ev rl' w' h' P (by omega)
  have n1 : decide (1 + 3 * (P.length : Int) < 0) = false := decide_eq_false (by omega)
  exact Ev.bind htw (Ev.bind hs (Ev.bind htw (Ev.bind hi (Ev.bind he (Ev.no rfl (Ev.no ok1 (Ev.bind hm (Ev.bind hh (Ev.no n1 (Ev.no (neq_self _) (Ev.bind htw (Ev.bind hi (Ev.bind he (Ev.no rfl (Ev.no ok1 (Ev.bind hh (Ev.no n1 (Ev.no (neq_self _) (Ev.now _)))))))))))))))))))
theorem pure : ∀ d : Dl laws_FnExactMakePuzzle.ins, goodL laws_FnExactMakePuzzle.ins d → ∃ k, laws_FnExactMakePuzzle k d = some true := by
  rintro ⟨⟨rl, w, h, cs, x, y, wy⟩, n, z⟩ hg
  exact main rl w h cs x y wy n z hg.1.1 hg.1.2.2.2.1
end Go.Proofs.YtodmlhpobebdgaaDoor.fnExactMakePuzzle
