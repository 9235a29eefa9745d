/- The plain law FnWormsLeave. -/
import Derived.Test.YtplamonjnlgomaaGreatDoorOk
import Derived.Test.YtplamonjnlgomaaGreatDoorPuWmG
namespace Go.Proofs.YtplamonjnlgomaaGreatDoor.fnWormsLeave
open Go Go.Proofs Go.Proofs.YtplamonjnlgomaaGreatDoorS Go.Proofs.YtplamonjnlgomaaGreatDoorS.WmP
set_option linter.unusedVariables false
set_option linter.unusedSimpArgs false
theorem dSame_ev (a : List Int) (hl : a.length ≤ 1048576) : Ev (fun k => laws_dSame k (a, a)) true := by
  have h : ∀ (m i : Nat), i + m = a.length → Ev (fun k => laws_dSame_l k (a, a, (a.length : Int), (i : Int))) (.inr ()) := by
    intro m
    induction m with
    | zero => intro i h; exact Ev.step (fun k => laws_dSame_l.eq k a a (a.length : Int) i) (Ev.no (not_lt_nat (by omega)) (Ev.now _))
    | succ m ih =>
      intro i h
      refine Ev.step (fun k => laws_dSame_l.eq k a a (a.length : Int) i) (Ev.yes (lt_nat (by omega)) (Ev.yes (inB_nat (by omega)) (Ev.yes (inB_nat (by omega)) (Ev.no (neq_self _) ?_))))
      rw [w64_succ (by omega)]
      exact ih (i + 1) (by omega)
  exact Ev.step (fun k => laws_dSame.eq k a a) (Ev.no (neq_self _) (Ev.bind (h a.length 0 (by omega)) (Ev.now _)))
theorem dTexts_ev (a : List ByteArray) (hl : a.length ≤ 1048576) : Ev (fun k => laws_dTexts k (a, a)) true := by
  have h : ∀ (m i : Nat), i + m = a.length → Ev (fun k => laws_dTexts_l k (a, a, (a.length : Int), (i : Int))) (.inr ()) := by
    intro m
    induction m with
    | zero => intro i h; exact Ev.step (fun k => laws_dTexts_l.eq k a a (a.length : Int) i) (Ev.no (not_lt_nat (by omega)) (Ev.now _))
    | succ m ih =>
      intro i h
      refine Ev.step (fun k => laws_dTexts_l.eq k a a (a.length : Int) i) (Ev.yes (lt_nat (by omega)) (Ev.yes (inB_nat (by omega)) (Ev.yes (inB_nat (by omega)) (Ev.no (by rw [strEq_self]; rfl) ?_))))
      rw [w64_succ (by omega)]
      exact ih (i + 1) (by omega)
  exact Ev.step (fun k => laws_dTexts.eq k a a) (Ev.no (neq_self _) (Ev.bind (h a.length 0 (by omega)) (Ev.now _)))
theorem dHas_ev (a : List Int) (n : Int) (hl : a.length ≤ 1048576) : EvB (fun k => laws_dHas k (a, n)) (n ∈ a) := by
  have srch := Ev.search (L := fun k i => laws_dHas_l k (n, a, (a.length : Int), i)) (n := a.length) (fun i => a[i]? = some n) (fun i => .inl true) (.inr ())
    (fun i hi hp r H => by
      obtain ⟨t, ht⟩ := nat_list hi
      refine Ev.step (fun k => laws_dHas_l.eq k n a (a.length : Int) (i : Int)) (Ev.yes (lt_nat hi) (Ev.yes (inB_nat hi) ?_))
      rw [Int.toNat_natCast, getD_at ht, w64_succ (by omega)]
      exact Ev.cond (fun e => absurd (by rw [ht, beq_iff_eq.1 e]) hp) fun _ => H)
    (fun i hi hp => by
      refine Ev.step (fun k => laws_dHas_l.eq k n a (a.length : Int) (i : Int)) (Ev.yes (lt_nat hi) (Ev.yes (inB_nat hi) ?_))
      rw [Int.toNat_natCast, getD_at hp]
      exact Ev.yes (beq_self_eq_true _) (Ev.now _))
    (Ev.step (fun k => laws_dHas_l.eq k n a (a.length : Int) (a.length : Int)) (Ev.no (not_lt_nat (Nat.lt_irrefl _)) (Ev.now _))) a.length 0 (by omega)
  refine EvB.step (fun k => laws_dHas.eq k a n) ?_
  rcases srch with ⟨h1, h2⟩ | ⟨j, _, hj, hp, _, h2⟩
  · refine ⟨false, Ev.bind h2 (Ev.now _), ⟨nofun, fun hm => ?_⟩⟩
    obtain ⟨i, hi⟩ := List.mem_iff_getElem?.1 hm
    exact absurd hi (h1 i (Nat.zero_le _) (List.getElem?_eq_some_iff.1 hi).1)
  · exact ⟨true, Ev.bind h2 (Ev.now _), ⟨fun _ => List.mem_of_getElem? hp, fun _ => rfl⟩⟩
theorem dText_ev (a : List ByteArray) (n : ByteArray) (hl : a.length ≤ 1048576) : EvB (fun k => laws_dText k (a, n)) (n ∈ a) := by
  have srch := Ev.search (L := fun k i => laws_dText_l k (n, a, (a.length : Int), i)) (n := a.length) (fun i => a[i]? = some n) (fun i => .inl true) (.inr ())
    (fun i hi hp r H => by
      obtain ⟨t, ht⟩ := nat_list hi
      refine Ev.step (fun k => laws_dText_l.eq k n a (a.length : Int) (i : Int)) (Ev.yes (lt_nat hi) (Ev.yes (inB_nat hi) ?_))
      rw [Int.toNat_natCast, getD_at ht, w64_succ (by omega)]
      exact Ev.cond (fun e => absurd (by rw [ht, strEq_iff.1 e]) hp) fun _ => H)
    (fun i hi hp => by
      refine Ev.step (fun k => laws_dText_l.eq k n a (a.length : Int) (i : Int)) (Ev.yes (lt_nat hi) (Ev.yes (inB_nat hi) ?_))
      rw [Int.toNat_natCast, getD_at hp]
      exact Ev.yes (strEq_self _) (Ev.now _))
    (Ev.step (fun k => laws_dText_l.eq k n a (a.length : Int) (a.length : Int)) (Ev.no (not_lt_nat (Nat.lt_irrefl _)) (Ev.now _))) a.length 0 (by omega)
  refine EvB.step (fun k => laws_dText.eq k a n) ?_
  rcases srch with ⟨h1, h2⟩ | ⟨j, _, hj, hp, _, h2⟩
  · refine ⟨false, Ev.bind h2 (Ev.now _), ⟨nofun, fun hm => ?_⟩⟩
    obtain ⟨i, hi⟩ := List.mem_iff_getElem?.1 hm
    exact absurd hi (h1 i (Nat.zero_le _) (List.getElem?_eq_some_iff.1 hi).1)
  · exact ⟨true, Ev.bind h2 (Ev.now _), ⟨fun _ => List.mem_of_getElem? hp, fun _ => rfl⟩⟩
theorem ba_beq (s : ByteArray) : (s == s) = true := by
  obtain ⟨d⟩ := s
  show (d == d) = true
  simp
theorem same7 (W : WT) : (!((W.1 == W.1) && ((W.2.1 == W.2.1) && ((W.2.2.1 == W.2.2.1) && ((W.2.2.2.1 == W.2.2.2.1) && ((W.2.2.2.2.1 == W.2.2.2.2.1) && ((W.2.2.2.2.2.1 == W.2.2.2.2.2.1) && ((W.2.2.2.2.2.2 == W.2.2.2.2.2.2) && true)))))))) = false := by simp [ba_beq]
theorem sameB (b : Bool) : (!(b == b)) = false := by cases b <;> rfl
theorem sameS (s : ByteArray) : (!(strEq s s)) = false := by rw [strEq_self]; rfl
/-! ### The law's end, from behind -/
theorem end7 (s : ByteArray) (r : WT × Bool) (h : r.2 = true → Ev (fun k => impl_WormText k r.1) (s, true)) : Ev (fun k => laws_FnWormsLeave_c_c_c_c_c_c_c k (s, r.1, r.2)) true := by
  refine Ev.step (fun k => laws_FnWormsLeave_c_c_c_c_c_c_c.eq k s r.1.1 r.1.2.1 r.1.2.2.1 r.1.2.2.2.1 r.1.2.2.2.2.1 r.1.2.2.2.2.2.1 r.1.2.2.2.2.2.2 r.2) ?_
  cases hr : r.2 with
  | true => exact Ev.yes rfl (Ev.bind (h hr) (Ev.yes rfl (Ev.now' (strEq_self s))))
  | false => exact Ev.no rfl (Ev.now _)
theorem end6 (a b : Int) (F : WT × Bool) (hF : F.2 = true → OkW F.1 ∧ FullW F.1 ∧ F.1.1 = a ∧ F.1.2.1 = b) (s : ByteArray) (r : WT × Bool) (h : r.2 = true → Ev (fun k => impl_WormText k r.1) (s, true)) : Ev (fun k => laws_FnWormsLeave_c_c_c_c_c_c k (a, b, F.1, F.2, s, r.1, r.2)) true := by
  refine Ev.step (fun k => laws_FnWormsLeave_c_c_c_c_c_c.eq k a b F.1.1 F.1.2.1 F.1.2.2.1 F.1.2.2.2.1 F.1.2.2.2.2.1 F.1.2.2.2.2.2.1 F.1.2.2.2.2.2.2 F.2 s r.1.1 r.1.2.1 r.1.2.2.1 r.1.2.2.2.1 r.1.2.2.2.2.1 r.1.2.2.2.2.2.1 r.1.2.2.2.2.2.2 r.2) ?_
  have q := end7 s r h
  cases hf : F.2 with
  | false => exact Ev.no rfl (Ev.bind q (Ev.now _))
  | true =>
    obtain ⟨H, L, ea, eb⟩ := hF hf
    obtain ⟨sr, sd⟩ := H.size
    have hn := H.sz.n
    have hw := H.1
    have hh := H.2.1
    obtain ⟨r1, e1, _, v1, _⟩ := left_both F.1 sr sd
    obtain ⟨r2, e2, _, _, v2⟩ := pieces_both F.1 sr sd
    obtain ⟨r3, e3, _, v3, _⟩ := odd_both F.1 sr sd
    obtain ⟨p, v2, _, _, _, v4⟩ := v2 H
    rw [v1 H] at e1
    rw [v2, v4 L] at e2
    rw [v3 H] at e3
    have c1 : (((onesW F.1 : Nat) : Int) != w64 (w64 (2 * a) * b)) = false := by
      rw [bne_eq_false_iff_eq, full_ones H L, w64_of (n := 2 * a) (by omega) (by omega), show 2 * a * b = 2 * (a * b) from Int.mul_assoc _ _ _, w64_of (by rw [← ea, ← eb]; omega) (by rw [← ea, ← eb]; omega), ← ea, ← eb, ← hn.1]
      omega
    have c2 : (((oddF F.1 (nN F.1)).length : Int) != 0) = false := by
      rw [bne_eq_false_iff_eq, full_odd H L]
      rfl
    exact Ev.yes rfl (Ev.bind e1 (Ev.bind e2 (Ev.bind e3 (Ev.no rfl (Ev.no c1 (Ev.no rfl (Ev.no rfl (Ev.no rfl (Ev.no c2 (Ev.bind q (Ev.now _)))))))))))
theorem end5 (G : WT) (way : Int) (g : WT × Bool) (hG : g.2 = true → OkW G ∧ OkW g.1 ∧ onesW g.1 = onesW G + 1 ∧ g.1.2.2.2.2.2.2 = way) (a b : Int) (F : WT × Bool) (hF : F.2 = true → OkW F.1 ∧ FullW F.1 ∧ F.1.1 = a ∧ F.1.2.1 = b) (s : ByteArray) (r : WT × Bool) (h : r.2 = true → Ev (fun k => impl_WormText k r.1) (s, true)) :
    Ev (fun k => laws_FnWormsLeave_c_c_c_c_c k (G, way, g.1, g.2, a, b, F.1, F.2, s, r.1, r.2)) true := by
  refine Ev.step (fun k => laws_FnWormsLeave_c_c_c_c_c.eq k G.1 G.2.1 G.2.2.1 G.2.2.2.1 G.2.2.2.2.1 G.2.2.2.2.2.1 G.2.2.2.2.2.2 way g.1.1 g.1.2.1 g.1.2.2.1 g.1.2.2.2.1 g.1.2.2.2.2.1 g.1.2.2.2.2.2.1 g.1.2.2.2.2.2.2 g.2 a b F.1.1 F.1.2.1 F.1.2.2.1 F.1.2.2.2.1 F.1.2.2.2.2.1 F.1.2.2.2.2.2.1 F.1.2.2.2.2.2.2 F.2 s r.1.1 r.1.2.1 r.1.2.2.1 r.1.2.2.2.1 r.1.2.2.2.2.1 r.1.2.2.2.2.2.1 r.1.2.2.2.2.2.2 r.2) ?_
  have q := end6 a b F hF s r h
  cases hg : g.2 with
  | false => exact Ev.no rfl (Ev.bind q (Ev.now _))
  | true =>
    obtain ⟨H, H', e, ew⟩ := hG hg
    obtain ⟨sr, sd⟩ := H.size
    obtain ⟨sr', sd'⟩ := H'.size
    have small := ones_small H
    obtain ⟨r1, e1, _, v1, _⟩ := left_both G sr sd
    obtain ⟨r2, e2, _, v2, _⟩ := left_both g.1 sr' sd'
    rw [v1 H] at e1
    rw [v2 H'] at e2
    have c1 : (((onesW g.1 : Nat) : Int) != w64 (((onesW G : Nat) : Int) + 1)) = false := by
      rw [bne_eq_false_iff_eq, w64_of (by omega) (by omega), e]
      omega
    have c2 : (g.1.2.2.2.2.2.2 != way) = false := by rw [ew]; exact neq_self _
    exact Ev.yes rfl (Ev.bind e1 (Ev.bind e2 (Ev.no rfl (Ev.no rfl (Ev.no c1 (Ev.no c2 (Ev.bind q (Ev.now _))))))))
theorem end4 (V : WT) (x y : Int) (u : WT × Bool) (hV : u.2 = true → ShArg V x y ∧ u.1 = shW V x y) (G : WT) (way : Int) (g : WT × Bool) (hG : g.2 = true → OkW G ∧ OkW g.1 ∧ onesW g.1 = onesW G + 1 ∧ g.1.2.2.2.2.2.2 = way) (a b : Int) (F : WT × Bool) (hF : F.2 = true → OkW F.1 ∧ FullW F.1 ∧ F.1.1 = a ∧ F.1.2.1 = b) (s : ByteArray) (r : WT × Bool) (h : r.2 = true → Ev (fun k => impl_WormText k r.1) (s, true)) :
    Ev (fun k => laws_FnWormsLeave_c_c_c_c k (V, x, y, u.1, u.2, G, way, g.1, g.2, a, b, F.1, F.2, s, r.1, r.2)) true := by
  refine Ev.step (fun k => laws_FnWormsLeave_c_c_c_c.eq k V.1 V.2.1 V.2.2.1 V.2.2.2.1 V.2.2.2.2.1 V.2.2.2.2.2.1 V.2.2.2.2.2.2 x y u.1.1 u.1.2.1 u.1.2.2.1 u.1.2.2.2.1 u.1.2.2.2.2.1 u.1.2.2.2.2.2.1 u.1.2.2.2.2.2.2 u.2 G.1 G.2.1 G.2.2.1 G.2.2.2.1 G.2.2.2.2.1 G.2.2.2.2.2.1 G.2.2.2.2.2.2 way g.1.1 g.1.2.1 g.1.2.2.1 g.1.2.2.2.1 g.1.2.2.2.2.1 g.1.2.2.2.2.2.1 g.1.2.2.2.2.2.2 g.2 a b F.1.1 F.1.2.1 F.1.2.2.1 F.1.2.2.2.1 F.1.2.2.2.2.1 F.1.2.2.2.2.2.1 F.1.2.2.2.2.2.2 F.2 s r.1.1 r.1.2.1 r.1.2.2.1 r.1.2.2.2.1 r.1.2.2.2.2.1 r.1.2.2.2.2.2.1 r.1.2.2.2.2.2.2 r.2) ?_
  have q := end5 G way g hG a b F hF s r h
  cases hu : u.2 with
  | false => exact Ev.no rfl (Ev.bind q (Ev.now _))
  | true =>
    obtain ⟨⟨H, hx, hy⟩, eu⟩ := hV hu
    have hw := H.1
    have hh := H.2.1
    have n1 : (V.1 != 0) = true := by rw [bne_iff_ne]; omega
    have n2 : (V.2.1 != 0) = true := by rw [bne_iff_ne]; omega
    have t1 : (w64 (V.1 - x)).tmod V.1 = (V.1 - x) % V.1 := by rw [w64_of (by omega) (by omega), Int.tmod_eq_emod_of_nonneg (by omega)]
    have t2 : (w64 (V.2.1 - y)).tmod V.2.1 = (V.2.1 - y) % V.2.1 := by rw [w64_of (by omega) (by omega), Int.tmod_eq_emod_of_nonneg (by omega)]
    have H' := shW_ok H x y
    obtain ⟨sr', sd'⟩ := H'.size
    obtain ⟨r1, e1, _, v1, _⟩ := shift_both (shW V x y) sr' sd' ((V.1 - x) % V.1) ((V.2.1 - y) % V.2.1)
    have z1 := sh_range (u := V.1) (d := -x) hw.1
    have z2 := sh_range (u := V.2.1) (d := -y) hh.1
    have home := shW_home H (dx := x) (dy := y) (ex := (V.1 - x) % V.1) (ey := (V.2.1 - y) % V.2.1) (by rw [Int.emod_add_emod, Int.sub_add_cancel, Int.emod_self]) (by rw [Int.emod_add_emod, Int.sub_add_cancel, Int.emod_self])
    rw [v1 ⟨H', z1, z2⟩, home, ← eu, ← t1, ← t2] at e1
    have hT : bs [76, 78, 82] ∈ tasteL := List.mem_cons.2 (.inl rfl)
    obtain ⟨n, l1, l2⟩ := shift_life H x y hT
    rw [← eu] at l2
    exact Ev.yes rfl (Ev.yes n1 (Ev.yes n2 (Ev.bind e1 (Ev.bind l1 (Ev.bind l2 (Ev.no rfl (Ev.no (same7 V) (Ev.no rfl (Ev.no rfl (Ev.no (neq_self _) (Ev.bind q (Ev.now _))))))))))))
theorem rest (more : List Int) (hm : ∀ x ∈ more, 0 ≤ x ∧ x ≤ 255) : Ev (fun k => laws_FnWormsLeave_c_c k more) true := by
  obtain ⟨V, x, y, d1, z1, z2⟩ := drawShift_ev more hm
  obtain ⟨u, a1, a2, a3, a4⟩ := shift_both V (by omega) (by omega) x y
  obtain ⟨G, way, d2, z3, z4⟩ := drawGive_ev more hm
  obtain ⟨g, b1, b2, b3⟩ := give_both G (by omega) (by omega) way
  obtain ⟨a, b, d3⟩ := drawFresh_ev more hm
  obtain ⟨F, f1, f2, f3⟩ := fresh_both a b
  obtain ⟨L, p, q, d4, z5, z6⟩ := drawAt_ev more hm
  obtain ⟨l, g1, g2, _⟩ := linesAt_both L (by omega) (by omega) p q
  obtain ⟨s, d5, z7⟩ := drawParse_ev more hm
  obtain ⟨r, r1, r2, r3⟩ := parse_both s (by omega)
  have hV : u.2 = true → ShArg V x y ∧ u.1 = shW V x y := fun hu => by
    by_cases A : ShArg V x y
    · exact ⟨A, by rw [a3 A]⟩
    · rw [a4 A] at hu
      exact Bool.noConfusion hu
  have q4 := end4 V x y u hV G way g b3 a b F f3 s r r3
  refine Ev.step (fun k => laws_FnWormsLeave_c_c.eq k more) (Ev.bind d1 (Ev.bind a1 (Ev.bind a2 (Ev.bind d2 (Ev.bind b1 (Ev.bind b2 (Ev.bind d3 (Ev.bind f1 (Ev.bind f2 (Ev.bind d4 (Ev.bind g1 (Ev.bind g2 (Ev.bind d5 (Ev.bind r1 (Ev.bind r2 (Ev.bind (Ev.step (fun k => laws_FnWormsLeave_c_c_c.eq k V.1 V.2.1 V.2.2.1 V.2.2.2.1 V.2.2.2.2.1 V.2.2.2.2.2.1 V.2.2.2.2.2.2 x y u.1.1 u.1.2.1 u.1.2.2.1 u.1.2.2.2.1 u.1.2.2.2.2.1 u.1.2.2.2.2.2.1 u.1.2.2.2.2.2.2 u.2 u.1.1 u.1.2.1 u.1.2.2.1 u.1.2.2.2.1 u.1.2.2.2.2.1 u.1.2.2.2.2.2.1 u.1.2.2.2.2.2.2 u.2 G.1 G.2.1 G.2.2.1 G.2.2.2.1 G.2.2.2.2.1 G.2.2.2.2.2.1 G.2.2.2.2.2.2 way g.1.1 g.1.2.1 g.1.2.2.1 g.1.2.2.2.1 g.1.2.2.2.2.1 g.1.2.2.2.2.2.1 g.1.2.2.2.2.2.2 g.2 g.1.1 g.1.2.1 g.1.2.2.1 g.1.2.2.2.1 g.1.2.2.2.2.1 g.1.2.2.2.2.2.1 g.1.2.2.2.2.2.2 g.2 a b F.1.1 F.1.2.1 F.1.2.2.1 F.1.2.2.2.1 F.1.2.2.2.2.1 F.1.2.2.2.2.2.1 F.1.2.2.2.2.2.2 F.2 F.1.1 F.1.2.1 F.1.2.2.1 F.1.2.2.2.1 F.1.2.2.2.2.1 F.1.2.2.2.2.2.1 F.1.2.2.2.2.2.2 F.2 l.1 l.2 l.1 l.2 s r.1.1 r.1.2.1 r.1.2.2.1 r.1.2.2.2.1 r.1.2.2.2.2.1 r.1.2.2.2.2.2.1 r.1.2.2.2.2.2.2 r.2 r.1.1 r.1.2.1 r.1.2.2.1 r.1.2.2.2.1 r.1.2.2.2.2.1 r.1.2.2.2.2.2.1 r.1.2.2.2.2.2.2 r.2) ?_) (Ev.now _)))))))))))))))))
  exact Ev.no (sameB _) (Ev.no (same7 u.1) (Ev.no (sameB _) (Ev.no (same7 g.1) (Ev.no (sameB _) (Ev.no (same7 F.1) (Ev.no (sameB _) (Ev.no (neq_self _) (Ev.no (sameB _) (Ev.no (same7 r.1) (Ev.bind q4 (Ev.now _)))))))))))
/-! ### The worm's own part -/
theorem sum_le (W : WT) : ∀ i : Nat, sm i (degW W) ≤ 4 * i
  | 0 => Nat.le_refl _
  | i + 1 => by
    have h1 := sum_le W i
    have h2 := deg_le W i
    show sm i (degW W) + degW W i ≤ _
    omega
theorem nodes_ev {W : WT} (H : OkW W) (more : List Int) (pieces : Int) (tastes : List ByteArray) (most left : Int) (text : ByteArray) : ∀ (m i : Nat), i + m = nN W →
    Ev (fun k => laws_FnWormsLeave_c_l k (more, W, oddF W (nN W), pieces, tastes, most, left, text, (nN W : Int), (sm i (degW W) : Int), (i : Int))) (.inr (more, W, oddF W (nN W), pieces, tastes, most, left, text, (nN W : Int), (sm (nN W) (degW W) : Int))) := by
  have hn := H.sz.n
  obtain ⟨sr, sd⟩ := H.size
  intro m
  induction m with
  | zero =>
    intro i hi
    obtain rfl : i = nN W := by omega
    exact Ev.step (fun k => laws_FnWormsLeave_c_l.eq k more W.1 W.2.1 W.2.2.1 W.2.2.2.1 W.2.2.2.2.1 W.2.2.2.2.2.1 W.2.2.2.2.2.2 (oddF W (nN W)) pieces tastes most left text (nN W : Int) (sm (nN W) (degW W) : Int) (nN W : Int)) (Ev.no (not_lt_nat (by omega)) (Ev.now _))
  | succ m ih =>
    intro i hi
    have hlt : i < nN W := by omega
    obtain ⟨t1, t2, t3⟩ := node_tm H.sz hlt
    obtain ⟨r, e, _, v⟩ := linesAt_both W sr sd (nX W i) (nY W i)
    rw [v i H hlt rfl rfl, ← t1, ← t2] at e
    have hd := deg_le W i
    have hs := sum_le W i
    have hl := oddF_len W (nN W)
    have hc := cf_le (fun a => decide (degW W a % 2 = 1)) (nN W)
    obtain ⟨b, eb, hb⟩ := dHas_ev (oddF W (nN W)) (i : Int) (by omega)
    have hbe : (!(b == (((degW W i : Nat) : Int).tmod 2 == 1))) = false := by
      have e1 : (((degW W i : Nat) : Int).tmod 2 == 1) = b := by
        rw [Int.tmod_eq_emod_of_nonneg (by omega)]
        cases b with
        | true =>
          have := (oddF_mem hlt).1 (hb.1 rfl)
          rw [beq_iff_eq]
          omega
        | false =>
          rw [beq_eq_false_iff_ne]
          intro h
          exact Bool.noConfusion (hb.2 ((oddF_mem hlt).2 (by omega)))
      rw [e1]
      exact sameB b
    refine Ev.step (fun k => laws_FnWormsLeave_c_l.eq k more W.1 W.2.1 W.2.2.1 W.2.2.2.1 W.2.2.2.2.1 W.2.2.2.2.2.1 W.2.2.2.2.2.2 (oddF W (nN W)) pieces tastes most left text (nN W : Int) (sm i (degW W) : Int) (i : Int)) (Ev.yes (lt_nat hlt) (Ev.yes t3 (Ev.yes t3 (Ev.bind e (Ev.no rfl (Ev.no (decide_eq_false (by omega)) (Ev.no (decide_eq_false (by omega)) (Ev.bind eb (Ev.no hbe ?_)))))))))
    rw [w64_succ (by omega), w64_of (n := (sm i (degW W) : Int) + (degW W i : Int)) (by omega) (by omega)]
    have q := ih (i + 1) (by omega)
    rw [show ((sm (i + 1) (degW W) : Nat) : Int) = (sm i (degW W) : Int) + (degW W i : Int) from Int.natCast_add _ _] at q
    exact q
theorem tastes_ev {W : WT} (more : List Int) (out : List ByteArray) (most : Int) (ho : out.length ≤ 6) {lf : ByteArray → Nat} (hlf : ∀ t ∈ tasteL, Ev (fun k => impl_LifeOf k (W, t)) ((lf t : Int), true) ∧ (lf t : Int) ≤ most ∧ (t ∈ out ↔ (lf t : Int) = most)) : ∀ (m i : Nat), i + m = tasteL.length →
    Ev (fun k => laws_FnWormsLeave_c_l_2 k (more, W, out, most, tasteL, (tasteL.length : Int), (i : Int))) (.inr more) := by
  have h6 : tasteL.length = 6 := rfl
  intro m
  induction m with
  | zero =>
    intro i hi
    exact Ev.step (fun k => laws_FnWormsLeave_c_l_2.eq k more W.1 W.2.1 W.2.2.1 W.2.2.2.1 W.2.2.2.2.1 W.2.2.2.2.2.1 W.2.2.2.2.2.2 out most tasteL (tasteL.length : Int) (i : Int)) (Ev.no (not_lt_nat (by omega)) (Ev.now _))
  | succ m ih =>
    intro i hi
    obtain ⟨t, ht⟩ := nat_list (l := tasteL) (i := i) (by omega)
    obtain ⟨e, h1, h2⟩ := hlf t (List.mem_of_getElem? ht)
    obtain ⟨b, eb, hb⟩ := dText_ev out t (by omega)
    have hbe : (!((((lf t : Nat) : Int) == most) == b)) = false := by
      have e1 : (((lf t : Nat) : Int) == most) = b := by
        cases b with
        | true => exact beq_iff_eq.2 (h2.1 (hb.1 rfl))
        | false =>
          rw [beq_eq_false_iff_ne]
          intro h
          exact Bool.noConfusion (hb.2 (h2.2 h))
      rw [e1]
      exact sameB b
    have q := ih (i + 1) (by omega)
    rw [← w64_succ (by omega)] at q
    refine Ev.step (fun k => laws_FnWormsLeave_c_l_2.eq k more W.1 W.2.1 W.2.2.1 W.2.2.2.1 W.2.2.2.2.1 W.2.2.2.2.2.1 W.2.2.2.2.2.2 out most tasteL (tasteL.length : Int) (i : Int)) (Ev.yes (lt_nat (by omega)) (Ev.yes (inB_nat (by omega)) ?_))
    rw [Int.toNat_natCast, getD_at ht]
    exact Ev.bind e (Ev.no rfl (Ev.no (decide_eq_false (by omega)) (Ev.bind eb (Ev.no hbe q))))
theorem main (code more : List Int) (h1 : code.length ≤ 9223372036854775807) (h2 : more.length ≤ 9223372036854775807) (hc : ∀ x ∈ code, 0 ≤ x ∧ x ≤ 255) (hm : ∀ x ∈ more, 0 ≤ x ∧ x ≤ 255) : ∃ k, laws_FnWormsLeave k (code, more) = some true := by
  obtain ⟨b, eb, _⟩ := big_ev code more h1 h2
  refine Ev.rounds (Ev.step (fun k => laws_FnWormsLeave.eq k code more) (Ev.bind eb (Ev.cond (fun _ => Ev.now _) fun _ => ?_)))
  have tl := rest more hm
  obtain ⟨W, d, z1, z2⟩ := drawOdd_ev code hc
  have hr : W.2.2.1.size ≤ 1048576 := by omega
  have hd : W.2.2.2.1.size ≤ 1048576 := by omega
  obtain ⟨o, o1, o2, o3, o4⟩ := odd_both W hr hd
  obtain ⟨p, p1, p2, p3, p4⟩ := pieces_both W hr hd
  obtain ⟨l, l1, l2, l3, l4⟩ := longest_both W hr hd
  obtain ⟨n, n1, n2, n3, n4⟩ := left_both W hr hd
  obtain ⟨t, t1, t2, t3, t4⟩ := wormText_both W hr hd
  have wI : EvB (fun k => impl_IsWorm k W) (OkW W) := isWorm_ev W.1 W.2.1 W.2.2.1 W.2.2.2.1 W.2.2.2.2.1 W.2.2.2.2.2.1 W.2.2.2.2.2.2 hr hd
  by_cases H : OkW W
  rotate_left
  · have o4 := o4 H
    have p3 := p3 H
    have l3 := l3 H
    have n4 := n4 H
    have t3 := t3 H
    subst o4 p3 l3 n4 t3
    exact Ev.bind d (Ev.bind o1 (Ev.bind o2 (Ev.bind p1 (Ev.bind p2 (Ev.bind l1 (Ev.bind l2 (Ev.bind n1 (Ev.bind n2 (Ev.bind t1 (Ev.bind t2 (Ev.no rfl (Ev.bind (dSame_ev [] (by simp)) (Ev.no rfl (Ev.no rfl (Ev.no rfl (Ev.no rfl (Ev.bind (dTexts_ev [] (by simp)) (Ev.no rfl (Ev.no rfl (Ev.no rfl (Ev.no rfl (Ev.no rfl (Ev.no (sameS _) (Ev.bind (wI.isF H)
      (Ev.no rfl (Ev.no rfl (Ev.no rfl (Ev.no rfl (Ev.no rfl (Ev.bind (Ev.step (fun k => laws_FnWormsLeave_c.eq k more W.1 W.2.1 W.2.2.1 W.2.2.2.1 W.2.2.2.2.1 W.2.2.2.2.2.1 W.2.2.2.2.2.2 _ _ _ _ _ _ _) (Ev.no rfl (Ev.bind tl (Ev.now _)))) (Ev.now _)))))))))))))))))))))))))))))))
  have hn := H.sz.n
  have hw := H.1
  have hh := H.2.1
  obtain ⟨q, p4, q1, q2, q3, _⟩ := p4 H
  obtain ⟨l5, l6, l7, lf, l8⟩ := l4 H
  obtain ⟨t5, t6, t7⟩ := t4 H
  have o3 := o3 H
  have n3 := n3 H
  obtain ⟨tastes, most, lok⟩ := l
  obtain ⟨text, tok⟩ := t
  simp only at l5 l6 l7 t5 t6 t7 l8
  subst o3 p4 n3 l5 t5
  have small := ones_small H
  have hl := oddF_len W (nN W)
  have hcf := cf_le (fun a => decide (degW W a % 2 = 1)) (nN W)
  have L1 := nodes_ev H more (q : Int) tastes most (onesW W : Int) text (nN W) 0 (by omega)
  have L2 := tastes_ev (W := W) more tastes most l6 l8 tasteL.length 0 (by omega)
  have e64 : w64 (W.1 * W.2.1) = (nN W : Int) := by rw [← hn.1, w64_of (by omega) (by omega)]
  rw [← e64] at L1
  have g1 : (((sm (nN W) (degW W) : Nat) : Int) != w64 (2 * ((onesW W : Nat) : Int))) = false := by
    rw [bne_eq_false_iff_eq, deg_sum H, w64_of (by omega) (by omega)]
    omega
  have g2 : (((oddF W (nN W)).length : Int).tmod 2 != 0) = false := by
    have := odd_len H
    rw [Int.tmod_eq_emod_of_nonneg (by omega), bne_eq_false_iff_eq]
    omega
  have g3 : decide ((q : Int) < 1) = false := decide_eq_false (by omega)
  have g4 : decide ((q : Int) > w64 (W.1 * W.2.1)) = false := decide_eq_false (by rw [e64]; omega)
  have g5 : decide ((q : Int) < w64 (w64 (W.1 * W.2.1) - ((onesW W : Nat) : Int))) = false := decide_eq_false (by rw [e64, w64_of (by omega) (by omega)]; omega)
  have g6 : decide ((tastes.length : Int) < 1) = false := decide_eq_false (by
    have := List.length_pos_iff.2 l7
    omega)
  have C : Ev (fun k => laws_FnWormsLeave_c k (more, W, oddF W (nN W), true, (q : Int), tastes, most, ((onesW W : Nat) : Int), text)) true :=
    Ev.step (fun k => laws_FnWormsLeave_c.eq k more W.1 W.2.1 W.2.2.1 W.2.2.2.1 W.2.2.2.2.1 W.2.2.2.2.2.1 W.2.2.2.2.2.2 _ _ _ _ _ _ _) (Ev.yes rfl (Ev.bind L1 (Ev.bind t7 (Ev.no g1 (Ev.no g2 (Ev.no g3 (Ev.no g4 (Ev.no g5 (Ev.no rfl (Ev.no (same7 W) (Ev.no g6 (Ev.bind L2 (Ev.bind tl (Ev.now _))))))))))))))
  have D1 := dSame_ev (oddF W (nN W)) (by omega)
  have D2 := dTexts_ev tastes (by omega)
  exact Ev.bind d (Ev.bind o1 (Ev.bind o2 (Ev.bind p1 (Ev.bind p2 (Ev.bind l1 (Ev.bind l2 (Ev.bind n1 (Ev.bind n2 (Ev.bind t1 (Ev.bind t2 (Ev.no rfl (Ev.bind D1 (Ev.no rfl (Ev.no rfl (Ev.no (neq_self _) (Ev.no rfl (Ev.bind D2 (Ev.no rfl (Ev.no (neq_self _) (Ev.no rfl (Ev.no (neq_self _) (Ev.no rfl (Ev.no (sameS _) (Ev.bind (wI.isT H)
    (Ev.no rfl (Ev.no rfl (Ev.no rfl (Ev.no rfl (Ev.no rfl (Ev.bind C (Ev.now _)))))))))))))))))))))))))))))))
theorem good8 {x : Int} (h : (Sh.int IntKind.u8).good x) : 0 ≤ x ∧ x ≤ 255 := by
  have h : (Lit.int .u8 x).wf = true := h
  simp [Lit.wf, IntKind.min, IntKind.max, IntKind.bits, IntKind.signed] at h
  omega
theorem pure : ∀ d : Dl laws_FnWormsLeave.ins, goodL laws_FnWormsLeave.ins d → ∃ k, laws_FnWormsLeave k d = some true := by
  rintro ⟨code, more⟩ ⟨hg1, hg2⟩
  exact main code more hg1.1 hg2.1 (fun x hx => good8 (hg1.2 x hx)) (fun x hx => good8 (hg2.2 x hx))
end Go.Proofs.YtplamonjnlgomaaGreatDoor.fnWormsLeave
