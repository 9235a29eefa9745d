/- Several texts in one: PuOther, PuColours, PuBackW. -/
import Derived.Test.YtmdgodjcfhimbaaGreatDoorPuDigits
import Derived.Test.YtmdgodjcfhimbaaGreatDoorPuStep
namespace Go.Proofs.YtmdgodjcfhimbaaGreatDoorS
open Go
set_option linter.unusedVariables false
set_option linter.unusedSimpArgs false

def othC (c : UInt8) : UInt8 := if c = 76 then 82 else if c = 82 then 76 else c
def oth (s : ByteArray) : ByteArray := swapS (swp (76 : UInt8).toNat (82 : UInt8).toNat) s
theorem othC_eq (c : UInt8) : UInt8.ofNat (swp (76 : UInt8).toNat (82 : UInt8).toNat c.toNat) = othC c := by
  unfold othC swp swU
  by_cases h1 : c = 76
  · subst h1
    rfl
  · by_cases h2 : c = 82
    · subst h2
      rfl
    · rw [if_neg (fun e => h1 (UInt8.toNat_inj.1 e)), if_neg (fun e => h2 (UInt8.toNat_inj.1 e)), if_neg h1, if_neg h2]
      simp
theorem othC_othC (c : UInt8) : othC (othC c) = c := by
  unfold othC
  by_cases h1 : c = 76
  · subst h1
    rfl
  · by_cases h2 : c = 82
    · subst h2
      rfl
    · rw [if_neg h1, if_neg h2, if_neg h1, if_neg h2]
theorem oth_list (s : ByteArray) : (oth s).data.toList = s.data.toList.map othC := by
  show (s.data.toList.map fun c => UInt8.ofNat (swp (76 : UInt8).toNat (82 : UInt8).toNat c.toNat)).toArray.toList = _
  rw [List.toList_toArray]
  exact List.map_congr_left fun c _ => othC_eq c
theorem oth_size (s : ByteArray) : (oth s).size = s.size := by
  rw [size_list, size_list, oth_list, List.length_map]
theorem oth_oth (s : ByteArray) : oth (oth s) = s := by
  apply ba_ext
  rw [oth_list, oth_list, List.map_map]
  conv => rhs; rw [← List.map_id s.data.toList]
  exact List.map_congr_left fun c _ => othC_othC c
theorem signC_oth {c : UInt8} (h : SignC c) : SignC (othC c) := by
  unfold othC
  by_cases h1 : c = 76
  · subst h1
    simp [SignC]
  · by_cases h2 : c = 82
    · subst h2
      simp [SignC]
    · rw [if_neg h1, if_neg h2]
      exact h
theorem ruleOk_oth {s : ByteArray} (h : RuleOk s) : RuleOk (oth s) := by
  refine ⟨by rw [oth_size]; exact h.1, fun c hc => ?_⟩
  rw [oth_list] at hc
  obtain ⟨d, hd, rfl⟩ := List.mem_map.1 hc
  exact signC_oth (h.2 d hd)
theorem other_ev (s : ByteArray) (h : s.size ≤ 1048576) : Ev (fun k => impl_other k s) (oth s) :=
  Ev.step (fun k => (impl_other.eq k s).trans (show otherB 76 82 s = some (oth s) from if_pos (by omega))) (Ev.now _)
theorem otherWay_ev (wy : Int) (h : 0 ≤ wy ∧ wy ≤ 3) : Ev (fun k => impl_otherWay k wy) ((4 - wy) % 4) := Ev.step (fun k => impl_otherWay.eq k wy) (Ev.now' (by rw [w64_of (by omega) (by omega), Int.tmod_eq_emod_of_nonneg (by omega)]))
theorem cut_one {cs : ByteArray} {i : Nat} {c : UInt8} (h : cs.data.toList[i]? = some c) : cs.extract i (i + 1) = bs [c] := by
  apply ba_ext
  obtain ⟨hlt, he⟩ := List.getElem?_eq_some_iff.1 h
  rw [extract_list, List.drop_take, show i + 1 - i = 1 by omega, List.drop_eq_getElem_cons hlt, he]
  rfl
theorem woOther_l_ev (s : ByteArray) (hs : s.size ≤ 1048576) : ∀ (m i : Nat), i + m = s.size → Ev (fun k => spec_woOther_l k (s, bs ((s.data.toList.take i).map othC), (i : Int))) (oth s)
  | 0, i, hi => Ev.step (fun k => spec_woOther_l.eq k s _ i) (Ev.no (not_lt_nat (by omega)) (Ev.now' (by
      apply ba_ext
      rw [oth_list, List.take_of_length_le (by rw [← size_list]; omega)]
      rfl)))
  | m + 1, i, hi => by
    obtain ⟨c, hc⟩ := byte_at (cs := s) (i := i) (by omega)
    have ih := woOther_l_ev s hs m (i + 1) (by omega)
    have hz : (bs ((s.data.toList.take i).map othC)).size = i := by
      rw [size_list]
      simp only [bs, List.toList_toArray, List.length_map, List.length_take]
      rw [← size_list]
      omega
    have e1 : w64 ((i : Int) + 1) = ((i + 1 : Nat) : Int) := w64_succ (by omega)
    have ef : ∀ d : UInt8, fitS (bs ((s.data.toList.take i).map othC)) (bs [d]) = true := fun d => fitS_of (by rw [hz]; show i + 1 < _; omega)
    have ea : ∀ d : UInt8, d = othC c → bs ((s.data.toList.take i).map othC) ++ bs [d] = bs ((s.data.toList.take (i + 1)).map othC) := fun d hd => by
      apply ba_ext
      rw [append_list, List.take_add_one, hc, List.map_append]
      subst hd
      rfl
    refine Ev.step (fun k => spec_woOther_l.eq k s _ i) (Ev.yes (lt_nat (by omega)) (Ev.yes (inB_nat (by omega)) ?_))
    rw [Int.toNat_natCast, bt_at hc, e1]
    by_cases h1 : c = 76
    · refine Ev.yes (by rw [h1]; rfl) (Ev.yes (ef 82) ?_)
      rw [ea 82 (by rw [h1]; rfl)]
      exact ih
    · have n1 : ((c.toNat : Int) == 76) = false := by
        rw [beq_eq_false_iff_ne]
        intro e
        exact h1 (UInt8.toNat_inj.1 (by show c.toNat = 76; omega))
      refine Ev.no n1 ?_
      by_cases h2 : c = 82
      · refine Ev.yes (by rw [h2]; rfl) (Ev.yes (ef 76) ?_)
        rw [ea 76 (by rw [h2]; rfl)]
        exact ih
      · have n2 : ((c.toNat : Int) == 82) = false := by
          rw [beq_eq_false_iff_ne]
          intro e
          exact h2 (UInt8.toNat_inj.1 (by show c.toNat = 82; omega))
        rw [Int.toNat_natCast, cut_one hc]
        refine Ev.no n2 (Ev.yes (by rw [decide_eq_true (by omega), decide_eq_true (by omega), decide_eq_true (by omega), decide_eq_true (by omega)]; rfl) (Ev.yes (ef c) ?_))
        rw [ea c (by unfold othC; rw [if_neg h1, if_neg h2])]
        exact ih
theorem woOther_ev (s : ByteArray) (hs : s.size ≤ 1048576) : Ev (fun k => spec_woOther k s) (oth s) := Ev.step (fun k => spec_woOther.eq k s) (Ev.bind (woOther_l_ev s hs s.size 0 (by omega)) (Ev.now _))

def wsum : Int → List Int → Int
  | _, [] => 0
  | a, x :: l => a * x + wsum (a + 1) l
def dsum (l : List UInt8) : Int := (l.map fun c => (c.toNat : Int) - 48).sum
theorem sum_set : ∀ (l : List Int) (i : Nat) (x v : Int), l[i]? = some x → (l.set i v).sum = l.sum - x + v
  | [], i, x, v, h => by simp at h
  | y :: l, 0, x, v, h => by
    obtain rfl : y = x := by simpa using h
    simp only [List.set_cons_zero, List.sum_cons]
    omega
  | y :: l, i + 1, x, v, h => by
    have := sum_set l i x v (by simpa using h)
    simp only [List.set_cons_succ, List.sum_cons]
    omega
theorem wsum_set : ∀ (l : List Int) (a : Int) (i : Nat) (x v : Int), l[i]? = some x → wsum a (l.set i v) = wsum a l + (a + (i : Int)) * (v - x)
  | [], a, i, x, v, h => by simp at h
  | y :: l, a, 0, x, v, h => by
    obtain rfl : y = x := by simpa using h
    simp only [List.set_cons_zero, wsum]
    rw [show a + ((0 : Nat) : Int) = a by omega, Int.mul_sub]
    omega
  | y :: l, a, i + 1, x, v, h => by
    have := wsum_set l (a + 1) i x v (by simpa using h)
    simp only [List.set_cons_succ, wsum]
    rw [this, show a + ((i + 1 : Nat) : Int) = a + 1 + (i : Int) by omega]
    omega
theorem wsum_zero : ∀ (n : Nat) (a : Int), wsum a (List.replicate n 0) = 0
  | 0, _ => rfl
  | n + 1, a => by
    rw [List.replicate_succ]
    show a * 0 + wsum (a + 1) (List.replicate n 0) = 0
    rw [wsum_zero n, Int.mul_zero]
    rfl
theorem sum_zero : ∀ n : Nat, (List.replicate n (0 : Int)).sum = 0
  | 0 => rfl
  | n + 1 => by rw [List.replicate_succ, List.sum_cons, sum_zero n]; rfl
theorem dsum_set (l : List UInt8) (i : Nat) (x v : UInt8) (h : l[i]? = some x) : dsum (l.set i v) = dsum l - ((x.toNat : Int) - 48) + ((v.toNat : Int) - 48) := by
  unfold dsum
  rw [List.map_set]
  exact sum_set _ i _ _ (by rw [List.getElem?_map, h]; rfl)
theorem count_l_ev (rl : ByteArray) (w h : Int) (cs : ByteArray) (x y wy : Int) (hr : rl.size ≤ 6) (hz : cs.size ≤ 81) (hcs : CellsOk (rl.size : Int) cs) : ∀ (m i : Nat) (out : List Int), i + m = cs.size → out.length = rl.size → (∀ z ∈ out, 0 ≤ z ∧ z ≤ (i : Int)) →
    ∃ R : List Int, R.length = rl.size ∧ (∀ z ∈ R, 0 ≤ z ∧ z ≤ (cs.size : Int)) ∧ R.sum = out.sum + (m : Int) ∧ wsum 0 R = wsum 0 out + dsum (cs.data.toList.drop i) ∧ Ev (fun k => impl_CountColours_l k (out, bytesOf cs, (cs.size : Int), (i : Int))) R ∧ Ev (fun k => spec_CountColours_l k ((rl, w, h, cs, x, y, wy), out, (i : Int))) R
  | 0, i, out, hi, ho, hb => by
    refine ⟨out, ho, fun z hz' => by have := hb z hz'; omega, by omega, ?_, Ev.step (fun k => impl_CountColours_l.eq k out (bytesOf cs) (cs.size : Int) (i : Int)) (Ev.no (not_lt_nat (by omega)) (Ev.now _)), Ev.step (fun k => spec_CountColours_l.eq k rl w h cs x y wy out (i : Int)) (Ev.no (not_lt_nat (by omega)) (Ev.now _))⟩
    rw [List.drop_eq_nil_of_le (by rw [← size_list]; omega)]
    show _ = _ + (0 : Int)
    omega
  | m + 1, i, out, hi, ho, hb => by
    obtain ⟨c, hc⟩ := byte_at (cs := cs) (i := i) (by omega)
    obtain ⟨c48, cti⟩ := hcs c (List.mem_of_getElem? hc)
    have hclt := c.toNat_lt
    have hbl : (bytesOf cs).length = cs.size := by unfold bytesOf; rw [List.length_map, ← size_list]
    have hbg : (bytesOf cs).getD i default = (c.toNat : Int) := getD_at (by unfold bytesOf; rw [List.getElem?_map, hc]; rfl)
    have e8 : w8 ((c.toNat : Int) - 48) = (c.toNat : Int) - 48 := w8_of (by omega) (by omega)
    obtain ⟨v, hv⟩ := nat_list (l := out) (i := ((c.toNat : Int) - 48).toNat) (by omega)
    have hvb := hb v (List.mem_of_getElem? hv)
    have ev : w64 (out.getD ((c.toNat : Int) - 48).toNat default + 1) = v + 1 := by rw [getD_at hv, w64_of (by omega) (by omega)]
    have hin : inB ((c.toNat : Int) - 48) out.length = true := inB_of (by omega) (by omega)
    obtain ⟨R, r1, r2, r3, r4, r5, r6⟩ := count_l_ev rl w h cs x y wy hr hz hcs m (i + 1) (out.set ((c.toNat : Int) - 48).toNat (v + 1)) (by omega) (by rw [List.length_set]; exact ho) (fun z hz' => by
      rcases List.mem_or_eq_of_mem_set hz' with h | h
      · have := hb z h
        omega
      · omega)
    refine ⟨R, r1, r2, ?_, ?_, ?_, ?_⟩
    · rw [r3, sum_set out _ v (v + 1) hv]
      omega
    · rw [r4, wsum_set out 0 _ v (v + 1) hv]
      obtain ⟨hlt, he⟩ := List.getElem?_eq_some_iff.1 hc
      have : dsum (cs.data.toList.drop i) = ((c.toNat : Int) - 48) + dsum (cs.data.toList.drop (i + 1)) := by
        rw [List.drop_eq_getElem_cons hlt, he]
        unfold dsum
        rw [List.map_cons, List.sum_cons]
      rw [this, show v + 1 - v = 1 by omega, Int.mul_one]
      omega
    · refine Ev.step (fun k => impl_CountColours_l.eq k out (bytesOf cs) (cs.size : Int) (i : Int)) (Ev.yes (lt_nat (by omega)) (Ev.yes (inB_nat (by omega)) ?_))
      rw [Int.toNat_natCast, hbg, e8, ev, w64_succ (by omega)]
      exact Ev.yes hin (Ev.yes hin r5)
    · refine Ev.step (fun k => spec_CountColours_l.eq k rl w h cs x y wy out (i : Int)) (Ev.yes (lt_nat (by omega)) (Ev.yes (inB_nat (by omega)) ?_))
      rw [Int.toNat_natCast, bt_at hc, e8, ev, w64_succ (by omega)]
      exact Ev.yes hin (Ev.yes hin r6)
theorem count_ev : ∀ W : Wo, OkO W → ∃ R : List Int, R.length = W.1.size ∧ (∀ z ∈ R, 0 ≤ z ∧ z ≤ 81) ∧ R.sum = W.2.1 * W.2.2.1 ∧ wsum 0 R = dsum W.2.2.2.1.data.toList ∧ Ev (fun k => impl_CountColours k W) (R, true) ∧ Ev (fun k => spec_CountColours k W) (R, true)
  | (rl, w, h, cs, x, y, wy), H => by
    obtain ⟨z1, z2⟩ := okO_size H
    have a := (isW_ev (rl, w, h, cs, x, y, wy) (by simp only at z1 ⊢; omega) (by simp only at z2 ⊢; omega)).isT H
    have b := (goodW_ev (rl, w, h, cs, x, y, wy)).isT H
    obtain ⟨hR, hw, hh, hs, hcs, hx, hy, hwy⟩ : WorldOk rl w h cs x y wy := H
    simp only at z1 z2
    obtain ⟨R, r1, r2, r3, r4, r5, r6⟩ := count_l_ev rl w h cs x y wy z1 z2 hcs cs.size 0 (List.replicate rl.size 0) (by omega) (by simp) (fun z hz => by rw [List.eq_of_mem_replicate hz]; omega)
    have hbl : (bytesOf cs).length = cs.size := by unfold bytesOf; rw [List.length_map, ← size_list]
    have hg : (((decide ((0 : Int) ≤ (rl.size : Int))) && (decide ((rl.size : Int) ≤ (rl.size : Int)))) && (fits (rl.size : Int).toNat 8)) = true := by
      rw [decide_eq_true (by omega), decide_eq_true (by omega), fits_of (by omega)]
      rfl
    refine ⟨R, r1, fun z hz => by have := r2 z hz; omega, ?_, ?_, ?_, ?_⟩
    · show R.sum = w * h
      rw [r3, sum_zero]
      omega
    · rw [r4, wsum_zero, List.drop_zero, Int.zero_add]
    · refine Ev.step (fun k => impl_CountColours.eq k rl w h cs x y wy) (Ev.bind a (Ev.no rfl (Ev.yes hg ?_)))
      rw [Int.toNat_natCast, hbl]
      exact Ev.bind r5 (Ev.now _)
    · refine Ev.step (fun k => spec_CountColours.eq k rl w h cs x y wy) (Ev.bind b (Ev.no rfl (Ev.yes hg ?_)))
      rw [Int.toNat_natCast]
      exact Ev.bind r6 (Ev.now _)
theorem count_no (W : Wo) (hr : W.1.size ≤ 1048576) (hc : W.2.2.2.1.size ≤ 1048576) (H : ¬ OkO W) : Ev (fun k => impl_CountColours k W) ([], false) ∧ Ev (fun k => spec_CountColours k W) ([], false) := by
  have a := (isW_ev W hr hc).isF H
  have b := (goodW_ev W).isF H
  obtain ⟨rl, w, h, cs, x, y, wy⟩ := W
  exact ⟨Ev.step (fun k => impl_CountColours.eq k rl w h cs x y wy) (Ev.bind a (Ev.yes rfl (Ev.now _))), Ev.step (fun k => spec_CountColours.eq k rl w h cs x y wy) (Ev.bind b (Ev.yes rfl (Ev.now _)))⟩
theorem colourSum_l_ev (R : List Int) (hl : R.length ≤ 6) (hb : ∀ z ∈ R, 0 ≤ z ∧ z ≤ 81) : ∀ (m i : Nat) (s : Int), i + m = R.length → 0 ≤ s ∧ s ≤ 1000 * (i : Int) → Ev (fun k => impl_ColourSum_l k (R, s, (), (R.length : Int), (i : Int))) (R, s + wsum (i : Int) (R.drop i))
  | 0, i, s, hi, hs => by
    rw [List.drop_eq_nil_of_le (by omega)]
    show Ev _ (R, s + 0)
    rw [Int.add_zero]
    exact Ev.step (fun k => impl_ColourSum_l.eq k R s _ (i : Int)) (Ev.no (not_lt_nat (by omega)) (Ev.now _))
  | m + 1, i, s, hi, hs => by
    obtain ⟨z, hz⟩ := nat_list (l := R) (i := i) (by omega)
    have hzb := hb z (List.mem_of_getElem? hz)
    have hmul : 0 ≤ (i : Int) * z ∧ (i : Int) * z ≤ 1000 := by
      have h1 := Int.mul_nonneg (show 0 ≤ (i : Int) by omega) hzb.1
      have h2 := Int.mul_le_mul (show (i : Int) ≤ 6 by omega) hzb.2 hzb.1 (by omega)
      omega
    have e1 : w64 ((i : Int) * z) = (i : Int) * z := w64_of (by omega) (by omega)
    have e2 : w64 (s + (i : Int) * z) = s + (i : Int) * z := w64_of (by omega) (by omega)
    have ih := colourSum_l_ev R hl hb m (i + 1) (s + (i : Int) * z) (by omega) (by omega)
    obtain ⟨hlt, he⟩ := List.getElem?_eq_some_iff.1 hz
    refine Ev.step (fun k => impl_ColourSum_l.eq k R s _ (i : Int)) (Ev.yes (lt_nat (by omega)) (Ev.yes (inB_nat (by omega)) ?_))
    rw [Int.toNat_natCast, getD_at hz, e1, e2, w64_succ (by omega), List.drop_eq_getElem_cons hlt, he]
    show Ev _ (R, s + ((i : Int) * z + wsum ((i : Int) + 1) (R.drop (i + 1))))
    rw [← Int.add_assoc]
    exact ih
theorem dsum_nonneg : ∀ l : List UInt8, (∀ c ∈ l, 48 ≤ c.toNat) → 0 ≤ dsum l
  | [], _ => Int.le_refl _
  | c :: l, h => by
    have h1 := dsum_nonneg l fun d hd => h d (List.mem_cons_of_mem _ hd)
    have h2 := h c (by simp)
    unfold dsum at h1 ⊢
    rw [List.map_cons, List.sum_cons]
    omega
theorem colourSum_ev (W : Wo) (H : OkO W) : Ev (fun k => impl_ColourSum k W) (dsum W.2.2.2.1.data.toList % (W.1.size : Int), true) := by
  obtain ⟨R, r1, r2, r3, r4, r5, r6⟩ := count_ev W H
  obtain ⟨z1, z2⟩ := okO_size H
  have hR := H.1.1
  have hn := dsum_nonneg W.2.2.2.1.data.toList fun c hc => (H.2.2.2.2.1 c hc).1
  have q := colourSum_l_ev R (by omega) r2 R.length 0 0 (by omega) (by omega)
  rw [List.drop_zero, Int.zero_add] at q
  have q : Ev (fun k => impl_ColourSum_l k (R, 0, (), (R.length : Int), 0)) (R, wsum 0 R) := q
  have hne : ((R.length : Int) != 0) = true := by rw [bne_iff_ne]; omega
  have e : (wsum 0 R).tmod (R.length : Int) = dsum W.2.2.2.1.data.toList % (W.1.size : Int) := by rw [r4, r1, Int.tmod_eq_emod_of_nonneg hn]
  obtain ⟨rl, w, h, cs, x, y, wy⟩ := W
  exact Ev.step (fun k => impl_ColourSum.eq k rl w h cs x y wy) (Ev.bind r5 (Ev.no rfl (Ev.bind q (Ev.yes hne (Ev.now' (by rw [e]))))))
/-- The sum behind a step. -/
theorem dsum_step : ∀ W : Wo, OkO W → dsum (stepO W).2.2.2.1.data.toList % (W.1.size : Int) = (dsum W.2.2.2.1.data.toList % (W.1.size : Int) + 1) % (W.1.size : Int)
  | (rl, w, h, cs, x, y, wy), H => by
    obtain ⟨hR, hw, hh, hs, hcs, hx, hy, hwy⟩ : WorldOk rl w h cs x y wy := H
    have hr6 := hR.1
    obtain ⟨c, hc, eqc, c48, cti⟩ := cell_ex hw hh hs hcs hx hy
    have hp := mod_range (colB w cs x y + 1) (k := (rl.size : Int)) (by omega)
    show dsum (putB w cs x y ((colB w cs x y + 1) % (rl.size : Int))).data.toList % (rl.size : Int) = (dsum cs.data.toList % (rl.size : Int) + 1) % (rl.size : Int)
    unfold putB setByte
    rw [List.toList_toArray, dsum_set _ _ c _ hc, toNat_ofNat8 (by omega)]
    rw [show dsum cs.data.toList - ((c.toNat : Int) - 48) + (((48 + (colB w cs x y + 1) % (rl.size : Int)).toNat : Int) - 48) = dsum cs.data.toList - colB w cs x y + (colB w cs x y + 1) % (rl.size : Int) by omega]
    rw [Int.add_emod, Int.emod_emod, ← Int.add_emod, show dsum cs.data.toList - colB w cs x y + (colB w cs x y + 1) = dsum cs.data.toList + 1 by omega, Int.emod_add_emod]

def ng (k z : Int) : Int := (k - z) % k
def negC (k : Int) (c : UInt8) : UInt8 := UInt8.ofNat (48 + ng k ((c.toNat : Int) - 48)).toNat
def negS (k : Int) (cs : ByteArray) : ByteArray := bs (cs.data.toList.map (negC k))
def revR (rl : ByteArray) : ByteArray := bs (oth rl).data.toList.reverse
def revO : Wo → Wo
  | (rl, w, h, cs, x, y, wy) => (revR rl, w, h, negS (rl.size : Int) cs, go1 x w (1 * dxW ((wy + 2) % 4)), go1 y h (1 * dyW ((wy + 2) % 4)), (wy + 2) % 4)
theorem bs_list (l : List UInt8) : (bs l).data.toList = l := rfl
theorem bs_size (l : List UInt8) : (bs l).size = l.length := rfl
theorem revR_size (rl : ByteArray) : (revR rl).size = rl.size := by
  unfold revR
  rw [bs_size, List.length_reverse, ← size_list, oth_size]
theorem negS_size (k : Int) (cs : ByteArray) : (negS k cs).size = cs.size := by
  unfold negS
  rw [bs_size, List.length_map, ← size_list]
theorem ng_range (z : Int) {k : Int} (hk : 1 ≤ k) : 0 ≤ ng k z ∧ ng k z ≤ k - 1 := mod_range _ hk
theorem negC_nat {k : Int} (hk : 1 ≤ k ∧ k ≤ 6) (c : UInt8) : ((negC k c).toNat : Int) = 48 + ng k ((c.toNat : Int) - 48) := by
  have := ng_range ((c.toNat : Int) - 48) hk.1
  unfold negC
  rw [toNat_ofNat8 (by omega)]
  omega
theorem negS_put {k : Int} (hk : 1 ≤ k ∧ k ≤ 6) (w : Int) (cs : ByteArray) (x y p : Int) (hp : 0 ≤ p ∧ p ≤ 9) : negS k (putB w cs x y p) = putB w (negS k cs) x y (ng k p) := by
  apply ba_ext
  unfold negS putB setByte
  rw [bs_list, bs_list, List.toList_toArray, List.toList_toArray, List.map_set]
  congr 1
  have e : ((UInt8.ofNat (48 + p).toNat).toNat : Int) - 48 = p := by
    rw [toNat_ofNat8 (by omega)]
    omega
  unfold negC
  rw [e]
theorem negS_col {k w h : Int} (hk : 1 ≤ k ∧ k ≤ 6) {cs : ByteArray} {x y : Int} (hw : 1 ≤ w ∧ w ≤ 9) (hh : 1 ≤ h ∧ h ≤ 9) (hs : (cs.size : Int) = w * h) (hx : 0 ≤ x ∧ x ≤ w - 1) (hy : 0 ≤ y ∧ y ≤ h - 1) : colB w (negS k cs) x y = ng k (colB w cs x y) := by
  obtain ⟨a1, a2, a3, a4⟩ := at_range hx hy hw hh
  obtain ⟨c, hc⟩ := byte_at (cs := cs) (i := (y * w + x).toNat) (by omega)
  unfold colB
  have h2 : (negS k cs).data.toList[(y * w + x).toNat]? = some (negC k c) := by
    unfold negS
    rw [bs_list, List.getElem?_map, hc]
    rfl
  rw [bt_at hc, bt_at h2, negC_nat hk]
  omega
theorem negS_ok {k : Int} (hk : 1 ≤ k ∧ k ≤ 6) (cs : ByteArray) : CellsOk k (negS k cs) := fun b hb => by
  unfold negS at hb
  rw [bs_list] at hb
  obtain ⟨c, _, rfl⟩ := List.mem_map.1 hb
  have h1 := negC_nat hk c
  have h2 := ng_range ((c.toNat : Int) - 48) hk.1
  omega
theorem revR_ok {rl : ByteArray} (h : RuleOk rl) : RuleOk (revR rl) := by
  refine ⟨by rw [revR_size]; exact h.1, fun c hc => ?_⟩
  unfold revR at hc
  rw [bs_list] at hc
  exact (ruleOk_oth h).2 c (List.mem_reverse.1 hc)
theorem rev_ok : ∀ W : Wo, OkO W → OkO (revO W)
  | (rl, w, h, cs, x, y, wy), H => by
    obtain ⟨hR, hw, hh, hs, hcs, hx, hy, hwy⟩ : WorldOk rl w h cs x y wy := H
    have hr6 := hR.1
    obtain ⟨⟨d1, d2⟩, d3, d4⟩ := dW_range ((wy + 2) % 4)
    refine ⟨revR_ok hR, hw, hh, ?_, ?_, go1_in hx (by omega), go1_in hy (by omega), ?_⟩
    · show ((negS _ cs).size : Int) = w * h
      rw [negS_size]
      exact hs
    · show CellsOk ((revR rl).size : Int) (negS (rl.size : Int) cs)
      rw [revR_size]
      exact negS_ok (by omega) cs
    · show 0 ≤ (wy + 2) % 4 ∧ (wy + 2) % 4 ≤ 3
      omega
theorem quarters_oth {c : UInt8} (h : SignC c) : quartersB ((othC c).toNat : Int) = (4 - quartersB (c.toNat : Int)) % 4 := by
  rcases h with rfl | rfl | rfl | rfl <;> decide
theorem dW_op {wy : Int} (h : 0 ≤ wy ∧ wy ≤ 3) : dxW ((wy + 2) % 4) = -dxW wy ∧ dyW ((wy + 2) % 4) = -dyW wy := by
  have : wy = 0 ∨ wy = 1 ∨ wy = 2 ∨ wy = 3 := by omega
  rcases this with rfl | rfl | rfl | rfl <;> decide
/-- What leads back from behind a step comes before it. -/
theorem rev_step : ∀ W : Wo, OkO W → stepO (revO (stepO W)) = revO W
  | (rl, w, h, cs, x, y, wy), H => by
    obtain ⟨hR, hw, hh, hs, hcs, hx, hy, hwy⟩ : WorldOk rl w h cs x y wy := H
    have hr6 := hR.1
    have hk : (1 : Int) ≤ (rl.size : Int) ∧ (rl.size : Int) ≤ 6 := by omega
    obtain ⟨c, hc, eqc, c48, cti⟩ := cell_ex hw hh hs hcs hx hy
    obtain ⟨v, ev⟩ : ∃ v, colB w cs x y = v := ⟨_, rfl⟩
    have hv : 0 ≤ v ∧ v ≤ (rl.size : Int) - 1 := by omega
    have hp := mod_range (v + 1) hk.1
    obtain ⟨s, hs'⟩ := byte_at (cs := rl) (i := v.toNat) (by omega)
    have hsg := hR.2 s (List.mem_of_getElem? hs')
    have eq : bt rl v.toNat = (s.toNat : Int) := bt_at hs'
    obtain ⟨q0, q3⟩ := quartersB_range (s.toNat : Int)
    obtain ⟨wz, ewz⟩ : ∃ wz, wayB rl v wy = wz := ⟨_, rfl⟩
    have hwz : wz = (wy + quartersB (s.toNat : Int)) % 4 := by rw [← ewz]; unfold wayB; rw [eq]
    have hwz3 : 0 ≤ wz ∧ wz ≤ 3 := by omega
    obtain ⟨o1, o2⟩ := dW_op hwz3
    obtain ⟨d1, d2⟩ := dW_cases wz
    have ex : go1 (go1 x w (1 * dxW wz)) w (1 * dxW ((wz + 2) % 4)) = x := by
      rw [o1, Int.one_mul, Int.one_mul]
      exact back_go hx d1
    have ey : go1 (go1 y h (1 * dyW wz)) h (1 * dyW ((wz + 2) % 4)) = y := by
      rw [o2, Int.one_mul, Int.one_mul]
      exact back_go hy d2
    have hN : negS (rl.size : Int) (putB w cs x y ((v + 1) % (rl.size : Int))) = putB w (negS (rl.size : Int) cs) x y (ng (rl.size : Int) ((v + 1) % (rl.size : Int))) := negS_put hk w cs x y _ (by omega)
    have hns : ((negS (rl.size : Int) cs).size : Int) = w * h := by rw [negS_size]; exact hs
    have hnc : CellsOk ((revR rl).size : Int) (negS (rl.size : Int) cs) := by rw [revR_size]; exact negS_ok hk cs
    obtain ⟨c1, ec1⟩ : ∃ c1, ng (rl.size : Int) ((v + 1) % (rl.size : Int)) = c1 := ⟨_, rfl⟩
    have hc1 := ng_range ((v + 1) % (rl.size : Int)) hk.1
    rw [ec1] at hc1 hN
    -- where the colour lies: the reverse's sign, and the colour behind
    have key : (c1 + v = (rl.size : Int) - 1) ∧ (c1 + 1) % (rl.size : Int) = ng (rl.size : Int) v := by
      rw [← ec1]
      unfold ng
      by_cases hl : v + 1 = (rl.size : Int)
      · rw [hl, Int.emod_self, Int.sub_zero, Int.emod_self, show (rl.size : Int) - v = 1 by omega]
        exact ⟨by omega, by rw [Int.zero_add]⟩
      · rw [Int.emod_eq_of_lt (show 0 ≤ v + 1 by omega) (by omega), Int.emod_eq_of_lt (show 0 ≤ (rl.size : Int) - (v + 1) by omega) (by omega), show (rl.size : Int) - (v + 1) + 1 = (rl.size : Int) - v by omega]
        exact ⟨by omega, rfl⟩
    have hsign : bt (revR rl) c1.toNat = ((othC s).toNat : Int) := by
      apply bt_at
      unfold revR
      have hlen : (oth rl).data.toList.length = rl.size := by rw [← size_list, oth_size]
      rw [bs_list, List.getElem?_reverse (by omega), hlen, show rl.size - 1 - c1.toNat = v.toNat by omega, oth_list, List.getElem?_map, hs']
      rfl
    obtain ⟨p1, p2⟩ := put_same (rl := revR rl) hw hh hns hnc hx hy c1 (by omega)
    have hcol : colB w (negS (rl.size : Int) cs) x y = ng (rl.size : Int) v := by rw [negS_col hk hw hh hs hx hy, ev]
    have ew : wayB (revR rl) c1 ((wz + 2) % 4) = (wy + 2) % 4 := by
      unfold wayB
      rw [hsign, quarters_oth hsg]
      omega
    show stepO (revR rl, w, h, negS (rl.size : Int) (putB w cs x y ((colB w cs x y + 1) % (rl.size : Int))), go1 (go1 x w (1 * dxW (wayB rl (colB w cs x y) wy))) w (1 * dxW ((wayB rl (colB w cs x y) wy + 2) % 4)), go1 (go1 y h (1 * dyW (wayB rl (colB w cs x y) wy))) h (1 * dyW ((wayB rl (colB w cs x y) wy + 2) % 4)), (wayB rl (colB w cs x y) wy + 2) % 4) = _
    rw [ev, ewz, ex, ey, hN]
    show (revR rl, w, h, putB w (putB w (negS (rl.size : Int) cs) x y c1) x y ((colB w (putB w (negS (rl.size : Int) cs) x y c1) x y + 1) % ((revR rl).size : Int)), _, _, _) = (revR rl, w, h, negS (rl.size : Int) cs, _, _, _)
    rw [p1, revR_size, key.2, ew, ← hcol, p2]
theorem rev_l_ev : ∀ (n : Nat) (A M B : List Int), M.length = n → A.length + n + B.length ≤ 1000 → Ev (fun k => slices_Reverse_l k (A ++ M ++ B, (A.length : Int), (A.length : Int) + (n : Int) - 1, ())) (A ++ M.reverse ++ B)
  | 0, A, M, B, hM, hl => by
    obtain rfl := List.length_eq_zero_iff.1 hM
    exact Ev.step (fun k => slices_Reverse_l.eq k _ _ _) (Ev.no (decide_eq_false (by omega)) (Ev.now _))
  | 1, A, M, B, hM, hl => by
    match M, hM with
    | [z], _ => exact Ev.step (fun k => slices_Reverse_l.eq k _ _ _) (Ev.no (decide_eq_false (by omega)) (Ev.now _))
  | n + 2, A, M, B, hM, hl => by
    match M, hM with
    | z :: T, hM =>
      have hT : T ≠ [] := by intro e; rw [e] at hM; simp at hM
      obtain ⟨M', y, rfl⟩ : ∃ M' y, T = M' ++ [y] := ⟨T.dropLast, T.getLast hT, (List.dropLast_concat_getLast hT).symm⟩
      have hM' : M'.length = n := by simp at hM; omega
      have ih := rev_l_ev n (A ++ [y]) M' (z :: B) hM' (by simp; omega)
      have e0 : A ++ (z :: (M' ++ [y])) ++ B = A ++ (z :: (M' ++ (y :: B))) := by simp
      have gi : (A ++ (z :: (M' ++ (y :: B)))).getD A.length default = z := getD_at (by simp)
      have gj : (A ++ (z :: (M' ++ (y :: B)))).getD (A.length + n + 1) default = y := getD_at (by
        rw [List.getElem?_append_right (by omega), show A.length + n + 1 - A.length = n + 1 by omega, List.getElem?_cons_succ, List.getElem?_append_right (by omega), hM', Nat.sub_self]
        rfl)
      have s1 : ((A ++ (z :: (M' ++ (y :: B)))).set A.length y).set (A.length + n + 1) z = (A ++ [y]) ++ M' ++ (z :: B) := by
        rw [List.set_append_right _ _ (Nat.le_refl _), Nat.sub_self, List.set_cons_zero, List.set_append_right _ _ (by omega), show A.length + n + 1 - A.length = n + 1 by omega, List.set_cons_succ, List.set_append_right _ _ (by omega), hM', Nat.sub_self, List.set_cons_zero]
        simp
      have hlen : (A ++ (z :: (M' ++ (y :: B)))).length = A.length + n + 2 + B.length := by simp; omega
      have j1 : ((A.length : Int) + ((n + 2 : Nat) : Int) - 1) = ((A.length + n + 1 : Nat) : Int) := by omega
      have er : (z :: (M' ++ [y])).reverse = y :: M'.reverse ++ [z] := by simp
      rw [e0, j1, er]
      refine Ev.step (fun k => slices_Reverse_l.eq k _ _ _) (Ev.yes (decide_eq_true (by omega)) (Ev.yes (inB_nat (by rw [hlen]; omega)) (Ev.yes (inB_nat (by rw [hlen]; omega)) (Ev.yes (inB_nat (by rw [hlen]; omega)) (Ev.yes (inB_nat (by rw [List.length_set, hlen]; omega)) ?_)))))
      rw [Int.toNat_natCast, Int.toNat_natCast, gi, gj, s1, w64_succ (by omega), show w64 (((A.length + n + 1 : Nat) : Int) - 1) = ((A ++ [y]).length : Int) + (n : Int) - 1 by rw [w64_of (by omega) (by omega)]; simp; omega, show A.length + 1 = (A ++ [y]).length by simp]
      have e2 : A ++ (y :: M'.reverse ++ [z]) ++ B = (A ++ [y]) ++ M'.reverse ++ (z :: B) := by simp
      rw [e2]
      exact ih
theorem reverse_ev (l : List Int) (hl : l.length ≤ 1000) : Ev (fun k => slices_Reverse k l) ((), l.reverse) := by
  have q := rev_l_ev l.length [] l [] rfl (by simp; omega)
  rw [List.nil_append, List.append_nil, List.nil_append, List.append_nil] at q
  have e : w64 ((l.length : Int) - 1) = (([] : List Int).length : Int) + (l.length : Int) - 1 := by rw [w64_of (by omega) (by omega)]; simp
  refine Ev.step (fun k => slices_Reverse.eq k l) ?_
  rw [e]
  exact Ev.bind q (Ev.now _)
theorem backW_l_ev (W : Wo) (rule : List Int) (hr : 1 ≤ rule.length ∧ rule.length ≤ 6) : ∀ (M : List UInt8) (A : List Int) (n : Nat), A.length + M.length = n → n ≤ 1000 → (∀ c ∈ M, 48 ≤ c.toNat ∧ (c.toNat : Int) ≤ 47 + (rule.length : Int)) →
    Ev (fun k => impl_BackWorld_l k (W, zeroO, rule, A ++ M.map (fun c => (c.toNat : Int)), (), (n : Int), (A.length : Int))) (W, zeroO, rule, A ++ M.map (fun c => ((negC (rule.length : Int) c).toNat : Int)))
  | [], A, n, hn, h1, hM => by
    obtain ⟨rl, w, h, cs, x, y, wy⟩ := W
    exact Ev.step (fun k => impl_BackWorld_l.eq k rl w h cs x y wy ByteArray.empty 0 0 ByteArray.empty 0 0 0 rule _ (n : Int) (A.length : Int)) (Ev.no (not_lt_nat (by simp at hn; omega)) (Ev.now _))
  | c :: M, A, n, hn, h1, hM => by
    obtain ⟨c48, cti⟩ := hM c (by simp)
    have hk : (1 : Int) ≤ (rule.length : Int) ∧ (rule.length : Int) ≤ 6 := by omega
    have ih := backW_l_ev W rule hr M (A ++ [((negC (rule.length : Int) c).toNat : Int)]) n (by simp at hn ⊢; omega) h1 (fun d hd => hM d (List.mem_cons_of_mem _ hd))
    have hlen : (A ++ (c :: M).map (fun c => (c.toNat : Int))).length = n := by simp at hn ⊢; omega
    have hA : A.length < n := by simp at hn; omega
    have hg : (A ++ (c :: M).map (fun c => (c.toNat : Int))).getD A.length default = (c.toNat : Int) := getD_at (by simp)
    have hclt := c.toNat_lt
    have e1 : w64 (w8 ((c.toNat : Int) - 48)) = (c.toNat : Int) - 48 := by rw [w8_of (by omega) (by omega), w64_of (by omega) (by omega)]
    have hng := ng_range ((c.toNat : Int) - 48) hk.1
    have e2 : (w64 ((rule.length : Int) - ((c.toNat : Int) - 48))).tmod (rule.length : Int) = ng (rule.length : Int) ((c.toNat : Int) - 48) := by
      rw [w64_of (by omega) (by omega), Int.tmod_eq_emod_of_nonneg (by omega)]
      rfl
    have e3 : w8 (w64 (48 + ng (rule.length : Int) ((c.toNat : Int) - 48))) = ((negC (rule.length : Int) c).toNat : Int) := by
      rw [w64_of (by omega) (by omega), w8_of (by omega) (by omega), negC_nat hk]
    have hne : ((rule.length : Int) != 0) = true := by rw [bne_iff_ne]; omega
    have hset : (A ++ (c :: M).map (fun c => (c.toNat : Int))).set A.length ((negC (rule.length : Int) c).toNat : Int) = (A ++ [((negC (rule.length : Int) c).toNat : Int)]) ++ M.map (fun c => (c.toNat : Int)) := by
      rw [List.map_cons, List.set_append_right _ _ (Nat.le_refl _), Nat.sub_self, List.set_cons_zero]
      simp
    have hres : A ++ (c :: M).map (fun c => ((negC (rule.length : Int) c).toNat : Int)) = (A ++ [((negC (rule.length : Int) c).toNat : Int)]) ++ M.map (fun c => ((negC (rule.length : Int) c).toNat : Int)) := by simp
    have hsz : w64 ((A.length : Int) + 1) = ((A ++ [((negC (rule.length : Int) c).toNat : Int)]).length : Int) := by rw [w64_of (by omega) (by omega)]; simp
    rw [hres]
    obtain ⟨rl, w, h, cs, x, y, wy⟩ := W
    refine Ev.step (fun k => impl_BackWorld_l.eq k rl w h cs x y wy ByteArray.empty 0 0 ByteArray.empty 0 0 0 rule _ (n : Int) (A.length : Int)) (Ev.yes (lt_nat hA) (Ev.yes (inB_nat (by omega)) (Ev.yes hne (Ev.yes (inB_nat (by omega)) ?_))))
    rw [Int.toNat_natCast, hg, e1, e2, e3, hset, hsz]
    exact ih
theorem backWorld_ev : ∀ W : Wo, OkO W → Ev (fun k => impl_BackWorld k W) (revO W, true)
  | (rl, w, h, cs, x, y, wy), H => by
    obtain ⟨z1, z2⟩ := okO_size H
    have a := (isW_ev (rl, w, h, cs, x, y, wy) (by simp only at z1 ⊢; omega) (by simp only at z2 ⊢; omega)).isT H
    obtain ⟨hR, hw, hh, hs, hcs, hx, hy, hwy⟩ : WorldOk rl w h cs x y wy := H
    have hr6 := hR.1
    simp only at z1 z2
    have hrl : (bytesOf (oth rl)).reverse.length = rl.size := by
      rw [List.length_reverse]
      unfold bytesOf
      rw [List.length_map, ← size_list, oth_size]
    have hrev := reverse_ev (bytesOf (oth rl)) (by rw [← List.length_reverse, hrl]; omega)
    have hbl : (bytesOf cs).length = cs.size := by unfold bytesOf; rw [List.length_map, ← size_list]
    have q := backW_l_ev (rl, w, h, cs, x, y, wy) (bytesOf (oth rl)).reverse (by rw [hrl]; omega) cs.data.toList [] cs.size (by rw [size_list]; simp) (by omega) (fun c hc => by rw [hrl]; exact hcs c hc)
    rw [List.nil_append, List.nil_append, hrl] at q
    have hwz : 0 ≤ (wy + 2) % 4 ∧ (wy + 2) % 4 ≤ 3 := by omega
    have eW : (w64 (wy + 2)).tmod 4 = (wy + 2) % 4 := by rw [w64_of (by omega) (by omega), Int.tmod_eq_emod_of_nonneg (by omega)]
    have o1 : ofBytes (bytesOf (oth rl)).reverse = revR rl := by
      unfold bytesOf
      rw [← List.map_reverse, ofBytes_of]
      rfl
    have o2 : ofBytes (cs.data.toList.map (fun c => ((negC (rl.size : Int) c).toNat : Int))) = negS (rl.size : Int) cs := by
      rw [show cs.data.toList.map (fun c => ((negC (rl.size : Int) c).toNat : Int)) = (cs.data.toList.map (negC (rl.size : Int))).map (fun c => (c.toNat : Int)) by rw [List.map_map]; rfl, ofBytes_of]
      rfl
    have hg := gone_ev (revR rl) w h (negS (rl.size : Int) cs) x y ((wy + 2) % 4) 1 hw hh hx hy hwz (.inl rfl)
    refine Ev.step (fun k => impl_BackWorld.eq k rl w h cs x y wy) (Ev.bind a (Ev.no rfl (Ev.bind (other_ev rl (by omega)) (Ev.bind hrev ?_))))
    rw [hbl]
    refine Ev.bind q ?_
    dsimp only
    rw [o1, o2, eW]
    exact Ev.bind hg (Ev.now _)
end Go.Proofs.YtmdgodjcfhimbaaGreatDoorS
