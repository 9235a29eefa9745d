/- The plain law FnWormsDie. -/
import Derived.Test.YtmdgodjcfhimbaaOk
import Derived.Test.YtmdgodjcfhimbaaPuWormLaw
import Derived.Test.YtmdgodjcfhimbaaPuWormDraw
namespace Go.Proofs.Ytmdgodjcfhimbaa.fnWormsDie
open Go Go.Proofs Go.Proofs.YtmdgodjcfhimbaaS
set_option linter.unusedVariables false
set_option linter.unusedSimpArgs false
theorem dSame_ev (a : List Int) (hl : a.length ≤ 1048576) : Ev (fun k => laws_dSame k (a, a)) true := by
  have h : ∀ (m i : Nat), i + m = a.length → Ev (fun k => laws_dSame_l k (a, a, (a.length : Int), (i : Int))) (.inr ()) := by
    intro m
    induction m with
    | zero => intro i h; exact Ev.step (fun k => laws_dSame_l.eq k a a (a.length : Int) i) (Ev.no (not_lt_nat (by omega)) (Ev.now _))
    | succ m ih =>
      intro i h
      refine Ev.step (fun k => laws_dSame_l.eq k a a (a.length : Int) i) (Ev.yes (lt_nat (by omega)) (Ev.yes (inB_nat (by omega)) (Ev.yes (inB_nat (by omega)) (Ev.no (neq_self _) ?_))))
      rw [w64_succ (by omega)]
      exact ih (i + 1) (by omega)
  exact Ev.step (fun k => laws_dSame.eq k a a) (Ev.no (neq_self _) (Ev.bind (h a.length 0 (by omega)) (Ev.now _)))
theorem ba_beq (s : ByteArray) : (s == s) = true := by
  obtain ⟨d⟩ := s
  show (d == d) = true
  simp
theorem same7 (W : WT) : (!((W.1 == W.1) && ((W.2.1 == W.2.1) && ((W.2.2.1 == W.2.2.1) && ((W.2.2.2.1 == W.2.2.2.1) && ((W.2.2.2.2.1 == W.2.2.2.2.1) && ((W.2.2.2.2.2.1 == W.2.2.2.2.2.1) && ((W.2.2.2.2.2.2 == W.2.2.2.2.2.2) && true)))))))) = false := by simp [ba_beq]
theorem sameB (b : Bool) : (!(b == b)) = false := by cases b <;> rfl
theorem sameS (s : ByteArray) : (!(strEq s s)) = false := by rw [strEq_self]; rfl
/-- The law's end: so many steps are one and then the others. -/
theorem tail (more : List Int) (hm : ∀ x ∈ more, 0 ≤ x ∧ x ≤ 255) : Ev (fun k => (spec_DrawWormAfter k more).bind fun r29 => (impl_WormAfter k r29).bind fun r30 => (spec_WormAfter k r29).bind fun r31 =>
   cond (!(r30.2 == r31.2)) (some false) (cond (!((r30.1.1 == r31.1.1) && ((r30.1.2.1 == r31.1.2.1) && ((r30.1.2.2.1 == r31.1.2.2.1) && ((r30.1.2.2.2.1 == r31.1.2.2.2.1) && ((r30.1.2.2.2.2.1 == r31.1.2.2.2.2.1) && ((r30.1.2.2.2.2.2.1 == r31.1.2.2.2.2.2.1) && ((r30.1.2.2.2.2.2.2 == r31.1.2.2.2.2.2.2) && true))))))))
   (some false) (cond r30.2 (cond (decide (r29.2.2 > 0)) ((impl_EatLine k (r29.1, r29.2.1)).bind fun r32 => (impl_WormAfter k (r32.1, r29.2.1, (w64 (r29.2.2 - 1)))).bind fun r33 => cond (!r32.2) (some false) (cond (!r33.2) (some false)
   (cond (!((r33.1.1 == r30.1.1) && ((r33.1.2.1 == r30.1.2.1) && ((r33.1.2.2.1 == r30.1.2.2.1) && ((r33.1.2.2.2.1 == r30.1.2.2.2.1) && ((r33.1.2.2.2.2.1 == r30.1.2.2.2.2.1) && ((r33.1.2.2.2.2.2.1 == r30.1.2.2.2.2.2.1) && ((r33.1.2.2.2.2.2.2 == r30.1.2.2.2.2.2.2) && true)))))))) (some false) (some true))))
   (some true)) (some true)))) true := by
  obtain ⟨W, ts, c1, e1, ⟨z1, z2⟩, H1⟩ := eater_ev 0 (more, 0, 0) (CurOk.start hm) (by omega)
  obtain ⟨n, c2, e2, hn, H2⟩ := among_ev _ c1 H1 (by omega) [0, 1, 2, 4, 7, 12, 20, 100, 101, (-1)] (by decide)
  refine Ev.bind (Ev.step (fun k => spec_DrawWormAfter.eq k more) (Ev.bind e1 (Ev.bind e2 (Ev.now _)))) ?_
  have none_ : ∀ x : WT, Ev (fun k => impl_WormAfter k (W, ts, n)) (x, false) → Ev (fun k => spec_WormAfter k (W, ts, n)) (x, false) → Ev (fun k => (impl_WormAfter k (W, ts, n)).bind fun r30 => (spec_WormAfter k (W, ts, n)).bind fun r31 =>
      cond (!(r30.2 == r31.2)) (some false) (cond (!((r30.1.1 == r31.1.1) && ((r30.1.2.1 == r31.1.2.1) && ((r30.1.2.2.1 == r31.1.2.2.1) && ((r30.1.2.2.2.1 == r31.1.2.2.2.1) && ((r30.1.2.2.2.2.1 == r31.1.2.2.2.2.1) && ((r30.1.2.2.2.2.2.1 == r31.1.2.2.2.2.2.1) && ((r30.1.2.2.2.2.2.2 == r31.1.2.2.2.2.2.2) && true))))))))
      (some false) (cond r30.2 (cond (decide (n > 0)) ((impl_EatLine k (W, ts)).bind fun r32 => (impl_WormAfter k (r32.1, ts, (w64 (n - 1)))).bind fun r33 => cond (!r32.2) (some false) (cond (!r33.2) (some false)
      (cond (!((r33.1.1 == r30.1.1) && ((r33.1.2.1 == r30.1.2.1) && ((r33.1.2.2.1 == r30.1.2.2.1) && ((r33.1.2.2.2.1 == r30.1.2.2.2.1) && ((r33.1.2.2.2.2.1 == r30.1.2.2.2.2.1) && ((r33.1.2.2.2.2.2.1 == r30.1.2.2.2.2.2.1) && ((r33.1.2.2.2.2.2.2 == r30.1.2.2.2.2.2.2) && true)))))))) (some false) (some true))))
      (some true)) (some true)))) true := fun x h1 h2 => Ev.bind h1 (Ev.bind h2 (Ev.no rfl (Ev.no (same7 x) (Ev.no rfl (Ev.now _)))))
  by_cases H : OkW W ∧ ts ∈ tasteL
  · by_cases hn1 : 0 ≤ n ∧ n ≤ 100
    · obtain ⟨HW, ht⟩ := H
      obtain ⟨t1, t2⟩ := tasteL_ok ts ht
      obtain ⟨m, rfl⟩ := Int.eq_ofNat_of_zero_le hn1.1
      obtain ⟨r, R⟩ := runs_ex ts t1 t2 m W HW
      obtain ⟨a1, a2⟩ := R.after ht HW (by omega)
      cases r with
      | none => exact none_ zeroW a1 a2
      | some A =>
        refine Ev.bind a1 (Ev.bind a2 (Ev.no rfl (Ev.no (same7 A) (Ev.yes rfl ?_))))
        cases R with
        | zero => exact Ev.no rfl (Ev.now _)
        | @step m _ V c _ h hr =>
          obtain ⟨b1, _⟩ := (eatLine_ev ht HW).1 c V h
          obtain ⟨c1, _⟩ := hr.after ht h.2.2.1 (by omega)
          refine Ev.yes (decide_eq_true (by show ((m + 1 : Nat) : Int) > 0; omega)) (Ev.bind b1 ?_)
          show Ev (fun k => (impl_WormAfter k (V, ts, w64 (((m + 1 : Nat) : Int) - 1))).bind _) true
          rw [show w64 (((m + 1 : Nat) : Int) - 1) = (m : Int) by rw [w64_of (by omega) (by omega)]; omega]
          exact Ev.bind c1 (Ev.no rfl (Ev.no rfl (Ev.no (same7 A) (Ev.now _))))
    · obtain ⟨a1, a2⟩ := after_out W ts n (by omega) (by omega) hn1
      exact none_ zeroW a1 a2
  · obtain ⟨a1, a2⟩ := (noLife W ts (by omega) (by omega) H).2.2.2.2.1 n
    exact none_ zeroW a1 a2
theorem main (code more : List Int) (h1 : code.length ≤ 9223372036854775807) (h2 : more.length ≤ 9223372036854775807) (hc : ∀ x ∈ code, 0 ≤ x ∧ x ≤ 255) (hm : ∀ x ∈ more, 0 ≤ x ∧ x ≤ 255) : ∃ k, laws_FnWormsDie k (code, more) = some true := by
  obtain ⟨b, eb, _⟩ := big_ev code more h1 h2
  refine Ev.rounds (Ev.step (fun k => laws_FnWormsDie.eq k code more) (Ev.bind eb (Ev.cond (fun _ => Ev.now _) fun _ => ?_)))
  have tl := tail more hm
  obtain ⟨W, ts, c1, e1, ⟨z1, z2⟩, H1⟩ := eater_ev 0 (code, 0, 0) (CurOk.start hc) (by omega)
  refine Ev.bind (Ev.step (fun k => spec_DrawLifeOf.eq k code) (Ev.bind (Ev.step (fun k => spec_DrawEatLine.eq k code) (Ev.bind e1 (Ev.now _))) (Ev.now _))) ?_
  have tI := isTaste_ev ts
  have tS : EvB (fun k => spec_IsTaste k ts) (ts ∈ tasteL) := EvB.step (fun k => spec_IsTaste.eq k ts) (wmTaste_ev ts).ret
  have wI : EvB (fun k => impl_IsWorm k W) (OkW W) := isWorm_ev W.1 W.2.1 W.2.2.1 W.2.2.2.1 W.2.2.2.2.1 W.2.2.2.2.2.1 W.2.2.2.2.2.2 (by omega) (by omega)
  have wS : EvB (fun k => spec_IsWorm k W) (OkW W) := EvB.step (fun k => spec_IsWorm.eq k W.1 W.2.1 W.2.2.1 W.2.2.2.1 W.2.2.2.2.1 W.2.2.2.2.2.1 W.2.2.2.2.2.2) (wmGood_ev W.1 W.2.1 W.2.2.1 W.2.2.2.1 W.2.2.2.2.1 W.2.2.2.2.2.1 W.2.2.2.2.2.2 (by omega) (by omega)).ret
  by_cases HT : ts ∈ tasteL
  · have tI := tI.isT HT
    have tS := tS.isT HT
    by_cases HW : OkW W
    · have wI := wI.isT HW
      have wS := wS.isT HW
      obtain ⟨t1, t2⟩ := tasteL_ok ts HT
      have h3 : (76 : UInt8) ∈ ts.data.toList ∧ (78 : UInt8) ∈ ts.data.toList ∧ (82 : UInt8) ∈ ts.data.toList ∧ ∀ c ∈ ts.data.toList, quartersB (c.toNat : Int) ≠ 2 := by
        have hT := HT
        simp only [tasteL, List.mem_cons, List.not_mem_nil, or_false] at hT
        rcases hT with rfl | rfl | rfl | rfl | rfl | rfl <;> (simp only [bs]; decide)
      obtain ⟨q76, q78, q82, hq⟩ := h3
      obtain ⟨D, tr, ml, L⟩ := lives_ex ts t1 t2 _ W HW rfl
      obtain ⟨HD, f1, f2, f3, f4, f5⟩ := L.facts HW
      have small := ones_small HW
      obtain ⟨⟨l1, l2⟩, ⟨l3, l4⟩, ⟨l5, l6⟩, ⟨l7, l8⟩⟩ := L.told HT HW
      have hds := dSame_ev (nodeW W :: tr) (by simp only [List.length_cons]; omega)
      obtain ⟨⟨d1, _⟩, _⟩ := (Lives.dead f3).told HT HD
      have k1 := left_ev HW
      have k2 := left_ev HD
      obtain ⟨sr, sd⟩ := HD.size
      have wD : Ev (fun k => impl_IsWorm k D) true := (isWorm_ev D.1 D.2.1 D.2.2.1 D.2.2.2.1 D.2.2.2.2.1 D.2.2.2.2.2.1 D.2.2.2.2.2.2 sr sd).isT HD
      have n1 := node64 HW
      have n2 := node64 HD
      have a1 : Ev (fun k => impl_WormAfter k (W, ts, (ml.length : Int))) (D, true) := (L.runs.after HT HW (by omega)).1
      have hz : ((ofBytes ml).size : Int) = (ml.length : Int) := by rw [size_list]; unfold ofBytes; simp
      have hlen : (((nodeW W :: tr).length : Int) != w64 ((ml.length : Int) + 1)) = false := by
        rw [w64_of (by omega) (by omega), bne_eq_false_iff_eq]
        simp only [List.length_cons, f2]
        omega
      have hsz : (((ofBytes ml).size : Int) != (ml.length : Int)) = false := by rw [hz]; exact neq_self _
      have hkk : ((w64 ((onesW W : Int) - (onesW D : Int))) != (ml.length : Int)) = false := by
        rw [w64_of (by omega) (by omega), bne_eq_false_iff_eq]
        omega
      have i0 : inB 0 (nodeW W :: tr).length = true := inB_of (by omega) (by simp only [List.length_cons]; omega)
      have i1 : inB (ml.length : Int) (nodeW W :: tr).length = true := inB_nat (by simp only [List.length_cons]; omega)
      have g0 : ((nodeW W :: tr).getD 0 default != w64 (w64 (W.2.2.2.2.2.1 * W.1) + W.2.2.2.2.1)) = false := by rw [n1]; exact neq_self _
      have gl : (nodeW W :: tr).getD ml.length default = nodeW D := getD_at f4
      have g1 : ((nodeW W :: tr).getD (ml.length : Int).toNat default != w64 (w64 (D.2.2.2.2.2.1 * D.1) + D.2.2.2.2.1)) = false := by rw [n2, Int.toNat_natCast, gl]; exact neq_self _
      have h100 : decide ((ml.length : Int) ≤ 100) = true := decide_eq_true (by omega)
      have hw := HW.1
      have hh := HW.2.1
      have hmr := mul_range (a := W.1) (b := W.2.1) (by omega) (by omega) (by omega) (by omega)
      have e2w : w64 (w64 (2 * W.1) * W.2.1) = 2 * (W.1 * W.2.1) := by
        rw [w64_of (n := 2 * W.1) (by omega) (by omega), show 2 * W.1 * W.2.1 = 2 * (W.1 * W.2.1) from Int.mul_assoc _ _ _, w64_of (by omega) (by omega)]
      have gh : ((onesW W : Int) == w64 (w64 (2 * W.1) * W.2.1)) = true → ((nodeW W :: tr).getD (ml.length : Int).toNat default != (nodeW W :: tr).getD 0 default) = false := fun h => by
        rw [e2w, beq_iff_eq] at h
        rw [Int.toNat_natCast, gl, fresh_home q76 q78 q82 L HW h]
        exact neq_self _
      cases L with
      | dead hst =>
        obtain ⟨s1, s2⟩ := (eatLine_ev HT HW).2 hst
        have fl : (!(false == decide (((([] : List Int).length : Nat) : Int) > 0))) = false := rfl
        repeat' first
          | exact tl
          | exact Ev.now _
          | refine Ev.bind (by assumption) ?_
          | refine Ev.no (by first | rfl | assumption | exact neq_self _ | exact same7 _ | exact sameS _) ?_
          | refine Ev.yes (by first | rfl | assumption) ?_
          | refine Ev.no (gh (by assumption)) ?_
          | refine Ev.cond (fun hc => ?_) (fun hc => ?_)
      | @step _ V _ c tr ml h hl =>
        obtain ⟨s1, s2⟩ := (eatLine_ev HT HW).1 c V h
        have HV := h.2.2.1
        have k3 := left_ev HV
        obtain ⟨⟨l9, _⟩, _⟩ := hl.told HT HV
        have gb := giveBack_ev hq HW h
        have hcnt := h.2.2.2.1
        have fl : (!(true == decide (((((c.toNat : Int) :: ml).length : Nat) : Int) > 0))) = false := by rw [decide_eq_true (by simp only [List.length_cons]; omega)]; rfl
        have x1 : ((onesW V : Int) != w64 ((onesW W : Int) - 1)) = false := by
          rw [w64_of (by omega) (by omega), bne_eq_false_iff_eq]
          omega
        have x2 : ((ml.length : Int) != w64 (((((c.toNat : Int) :: ml).length : Nat) : Int) - 1)) = false := by
          simp only [List.length_cons] at small f1 ⊢
          rw [w64_of (by omega) (by omega), bne_eq_false_iff_eq]
          omega
        repeat' first
          | exact tl
          | exact Ev.now _
          | refine Ev.bind (by assumption) ?_
          | refine Ev.no (by first | rfl | assumption | exact neq_self _ | exact same7 _ | exact sameS _) ?_
          | refine Ev.yes (by first | rfl | assumption) ?_
          | refine Ev.no (gh (by assumption)) ?_
          | refine Ev.cond (fun hc => ?_) (fun hc => ?_)
    · have wI := wI.isF HW
      have wS := wS.isF HW
      obtain ⟨⟨l1, l2⟩, ⟨l3, l4⟩, ⟨l5, l6⟩, ⟨l7, l8⟩, _, l9, l10⟩ := noLife W ts (by omega) (by omega) (fun h => HW h.1)
      have hds := dSame_ev [] (by decide)
      repeat' first
        | exact tl
        | exact Ev.now _
        | refine Ev.bind (by assumption) ?_
        | refine Ev.no (by first | rfl | assumption | exact neq_self _ | exact same7 _ | exact sameS _) ?_
        | refine Ev.yes (by first | rfl | assumption) ?_
  · have tI := tI.isF HT
    have tS := tS.isF HT
    obtain ⟨bw, w1, w2⟩ := wI
    obtain ⟨bw', w3, w4⟩ := wS
    obtain rfl : bw = bw' := by cases bw <;> cases bw' <;> simp_all
    have hbw := sameB bw
    obtain ⟨⟨l1, l2⟩, ⟨l3, l4⟩, ⟨l5, l6⟩, ⟨l7, l8⟩, _, l9, l10⟩ := noLife W ts (by omega) (by omega) (fun h => HT h.2)
    have hds := dSame_ev [] (by decide)
    repeat' first
      | exact tl
      | exact Ev.now _
      | refine Ev.bind (by assumption) ?_
      | refine Ev.no (by first | rfl | assumption | exact neq_self _ | exact same7 _ | exact sameS _) ?_
      | refine Ev.yes (by first | rfl | assumption) ?_
theorem good8 {x : Int} (h : (Sh.int IntKind.u8).good x) : 0 ≤ x ∧ x ≤ 255 := by
  have h : (Lit.int .u8 x).wf = true := h
  simp [Lit.wf, IntKind.min, IntKind.max, IntKind.bits, IntKind.signed] at h
  omega
theorem pure : ∀ d : Dl laws_FnWormsDie.ins, goodL laws_FnWormsDie.ins d → ∃ k, laws_FnWormsDie k d = some true := by
  rintro ⟨code, more⟩ ⟨hg1, hg2⟩
  exact main code more hg1.1 hg2.1 (fun x hx => good8 (hg1.2 x hx)) (fun x hx => good8 (hg2.2 x hx))
end Go.Proofs.Ytmdgodjcfhimbaa.fnWormsDie
