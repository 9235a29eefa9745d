/- Several texts in one: PuHidA, PuHidB, PuHidC. -/
import Derived.Test.YtmdgodjcfhimbaaGreatDoorMgPuz
namespace Go.Proofs.YtmdgodjcfhimbaaGreatDoorS
open Go
set_option linter.unusedVariables false
set_option linter.unusedSimpArgs false

theorem filter_sub {α : Type} {p q : α → Bool} (h : ∀ x, p x = true → q x = true) : ∀ l : List α, (l.filter p).Sublist (l.filter q)
  | [] => List.Sublist.refl _
  | a :: l => by
    by_cases hp : p a = true
    · rw [List.filter_cons_of_pos hp, List.filter_cons_of_pos (h a hp)]
      exact (filter_sub h l).cons_cons a
    · rw [List.filter_cons_of_neg hp]
      by_cases hq : q a = true
      · rw [List.filter_cons_of_pos hq]
        exact (filter_sub h l).cons a
      · rw [List.filter_cons_of_neg hq]
        exact filter_sub h l
theorem solC_sub (rl : ByteArray) (w h : Int) {q p : List Cl} (hs : ∀ c ∈ p, c ∈ q) : (solC rl w h q).Sublist (solC rl w h p) :=
  filter_sub (fun x hx => keepC_iff.2 fun c hc => keepC_iff.1 hx c (hs c hc)) _
theorem mem_allD (t : Nat) (ht : t ≤ 9) : ∀ (n : Nat) (s : ByteArray), s.size = n → CellsOk (t : Int) s → s ∈ allD t n
  | 0, s, hs, _ => by
    have : s = ByteArray.empty := ba_ext (by
      have := size_list s
      rw [hs] at this
      exact (List.length_eq_zero_iff.1 this.symm))
    rw [this]
    exact List.mem_singleton.2 rfl
  | n + 1, s, hs, hc => by
    have hl := size_list s
    rw [hs] at hl
    obtain ⟨L, c, hL⟩ : ∃ L c, s.data.toList = L ++ [c] := by
      have hne : s.data.toList ≠ [] := by intro e; rw [e] at hl; simp at hl
      exact ⟨_, _, (List.dropLast_concat_getLast hne).symm⟩
    have hc1 := hc c (by rw [hL]; simp)
    have hb : bs L ++ ofBytes [48 + ((c.toNat - 48 : Nat) : Int)] = s := by
      apply ba_ext
      rw [digit_list _ _ (by have := c.toNat_lt; omega), hL]
      show L ++ [UInt8.ofNat (48 + (c.toNat - 48))] = L ++ [c]
      rw [show 48 + (c.toNat - 48) = c.toNat by omega]
      simp
    have hin : bs L ∈ allD t n := mem_allD t ht n (bs L) (by
      show L.length = n
      rw [hL] at hl
      simp at hl
      omega) (fun d hd => hc d (by rw [hL]; exact List.mem_append_left _ hd))
    show s ∈ (allD t n).flatMap (extD t)
    exact List.mem_flatMap.2 ⟨bs L, hin, mem_ext.2 ⟨c.toNat - 48, by omega, hb.symm⟩⟩
theorem sumD_range : ∀ l : List UInt8, (∀ c ∈ l, 48 ≤ c.toNat ∧ c.toNat ≤ 57) → 0 ≤ sumD l ∧ sumD l ≤ 9 * (l.length : Int)
  | [], _ => ⟨Int.le_refl _, Int.le_refl _⟩
  | c :: l, h => by
    have h1 := h c (by simp)
    have h2 := sumD_range l fun d hd => h d (List.mem_cons_of_mem _ hd)
    show 0 ≤ ((c.toNat : Int) - 48) + sumD l ∧ ((c.toNat : Int) - 48) + sumD l ≤ 9 * ((l.length + 1 : Nat) : Int)
    omega
/-! ### What a clue tells of a world some steps on -/
def zerosO (W : Wo) : Nat := W.2.2.2.1.data.toList.count 48
def placeO (W : Wo) : Int := W.2.2.2.2.2.1 * W.2.1 + W.2.2.2.2.1
theorem valueRun_l_ev (kind : Int) : ∀ (m : Nat) (W : Wo), OkO W → m ≤ 1000 → Ev (fun k => spec_pzValue_l k (kind, (m : Int), W, 0, 0)) (kind, 0, runO m W, 0, 0)
  | 0, (rl, w, h, cs, x, y, wy), H, hm => Ev.step (fun k => spec_pzValue_l.eq k kind 0 rl w h cs x y wy 0 0) (Ev.no rfl (Ev.now _))
  | m + 1, W, H, hm => by
    have s := (step_ev W H).2.1
    have ih := valueRun_l_ev kind m (stepO W) (step_ok W H) (by omega)
    obtain ⟨rl, w, h, cs, x, y, wy⟩ := W
    refine Ev.step (fun k => spec_pzValue_l.eq k kind ((m + 1 : Nat) : Int) rl w h cs x y wy 0 0) (Ev.yes (decide_eq_true (by omega)) (Ev.bind s ?_))
    rw [show w64 (((m + 1 : Nat) : Int) - 1) = (m : Int) by rw [w64_of (by omega) (by omega)]; omega]
    exact ih
theorem place_range {W : Wo} (H : OkO W) : 0 ≤ placeO W ∧ placeO W ≤ W.2.1 * W.2.2.1 - 1 ∧ w64 (w64 (W.2.2.2.2.2.1 * W.2.1) + W.2.2.2.2.1) = placeO W := by
  obtain ⟨rl, w, h, cs, x, y, wy⟩ := W
  obtain ⟨hR, hw, hh, hs, hcs, hx, hy, hwy⟩ := H
  obtain ⟨a1, a2, a3, a4⟩ := at_range hx hy hw hh
  simp only at a3 a4
  refine ⟨a3, ?_, at64 hx hy hw hh⟩
  show y * w + x ≤ w * h - 1
  omega
theorem valueRun_ev (W : Wo) (H : OkO W) (n : Nat) (hn : n ≤ 50) : Ev (fun k => spec_pzValue k (1, (n : Int), W)) (placeO (runO n W)) ∧ Ev (fun k => spec_pzValue k (2, (n : Int), W)) (runO n W).2.2.2.2.2.2 ∧ Ev (fun k => spec_pzValue k (3, (n : Int), W)) (zerosO (runO n W) : Int) := by
  have hr := fun kind => valueRun_l_ev kind n W H (by omega)
  have HR := run_ok n W H
  have pr := (place_range HR).2.2
  obtain ⟨rl, w, h, cs, x, y, wy⟩ := W
  have hsz := (okO_size HR).2
  obtain ⟨hR', _, _, hs', hcs', _⟩ := id HR
  have h9 := cells9 (by have := hR'.1; omega) hcs'
  unfold zerosO
  generalize runO n (rl, w, h, cs, x, y, wy) = V at *
  obtain ⟨rl', w', h', cs', x', y', wy'⟩ := V
  have sS := fun kind => sums_ev kind 0 rl' w' h' cs' x' y' wy' hsz h9 cs'.size 0 0 0 (by omega) (by omega) (by omega) (by omega) (by omega)
  rw [List.drop_zero, Int.zero_add, Int.zero_add] at sS
  refine ⟨?_, ?_, ?_⟩
  · refine Ev.step (fun k => spec_pzValue.eq k 1 (n : Int) rl w h cs x y wy) (Ev.yes rfl (Ev.yes rfl (Ev.bind (hr 1) (Ev.bind (sS 1) (Ev.no rfl (Ev.yes rfl (Ev.now' ?_)))))))
    exact pr
  · exact Ev.step (fun k => spec_pzValue.eq k 2 (n : Int) rl w h cs x y wy) (Ev.yes rfl (Ev.yes rfl (Ev.bind (hr 2) (Ev.bind (sS 2) (Ev.no rfl (Ev.no rfl (Ev.yes rfl (Ev.now _))))))))
  · exact Ev.step (fun k => spec_pzValue.eq k 3 (n : Int) rl w h cs x y wy) (Ev.yes rfl (Ev.yes rfl (Ev.bind (hr 3) (Ev.bind (sS 3) (Ev.no rfl (Ev.no rfl (Ev.no rfl (Ev.yes rfl (Ev.now _)))))))))
theorem run_same : ∀ (n : Nat) (W : Wo), (runO n W).1 = W.1 ∧ (runO n W).2.1 = W.2.1 ∧ (runO n W).2.2.1 = W.2.2.1
  | 0, W => ⟨rfl, rfl, rfl⟩
  | n + 1, W => by
    obtain ⟨a, b, c⟩ := run_same n (stepO W)
    obtain ⟨rl, w, h, cs, x, y, wy⟩ := W
    exact ⟨a, b, c⟩
theorem zeros_range {W : Wo} (H : OkO W) : (zerosO W : Int) ≤ W.2.1 * W.2.2.1 := by
  obtain ⟨_, _, _, hs, _⟩ := H
  have := List.count_le_length (a := (48 : UInt8)) (l := W.2.2.2.1.data.toList)
  rw [← size_list] at this
  unfold zerosO
  omega
/-- The number that a clue tells lies in its bounds. -/
theorem value_range (W : Wo) (H : OkO W) (h9 : W.2.1 * W.2.2.1 ≤ 9) (kd a v : Int) (hv : Ev (fun k => spec_pzValue k (kd, a, W)) v) :
    ((kd = 0 ∧ 0 ≤ a ∧ a < (W.2.2.2.1.size : Int)) ∨ ((kd = 1 ∨ kd = 2 ∨ kd = 3) ∧ 0 ≤ a ∧ a ≤ 50) → ClueOk W.1 (W.2.1 * W.2.2.1) (kd, a, v) ∧ Fit (kd, a, v) W) ∧ (kd = 4 ∧ a = 0 → ClueOk W.1 (W.2.1 * W.2.2.1) (4, v, 0) ∧ Fit (4, v, 0) W) := by
  have fit : (kd == 4) = false → Fit (kd, a, v) W := fun hk => by
    obtain ⟨rl, w, h, cs, x, y, wy⟩ := W
    exact Ev.step (fun k => spec_pzFits.eq k kd a v rl w h cs x y wy) (Ev.no hk (Ev.bind hv (Ev.now' (beq_iff_eq.2 rfl))))
  constructor
  · intro hk
    have hk4 : (kd == 4) = false := by rw [beq_eq_false_iff_ne]; omega
    refine ⟨?_, fit hk4⟩
    rcases hk with ⟨rfl, a0, a1⟩ | ⟨hk, a0, a1⟩
    · obtain ⟨rl, w, h, cs, x, y, wy⟩ := W
      obtain ⟨hR, hw, hh, hs, hcs, hx, hy, hwy⟩ := H
      simp only at a1 h9 hs
      have hsz : cs.size ≤ 81 := by omega
      have c9 := cells9 (by have := hR.1; omega) hcs
      have sS := sums_ev 0 a rl w h cs x y wy hsz c9 cs.size 0 0 0 (by omega) (by omega) (by omega) (by omega) (by omega)
      have hB : inB a cs.size = true := inB_of a0 a1
      obtain ⟨c, hc⟩ := byte_at (cs := cs) (i := a.toNat) (by omega)
      obtain ⟨c48, cti⟩ := hcs c (List.mem_of_getElem? hc)
      have hv' : Ev (fun k => spec_pzValue k (0, a, (rl, w, h, cs, x, y, wy))) ((c.toNat : Int) - 48) := Ev.step (fun k => spec_pzValue.eq k 0 a rl w h cs x y wy) (Ev.no rfl (Ev.bind sS (Ev.yes rfl (Ev.yes hB (Ev.now' (by
        rw [bt_at hc, w8_of (by omega) (by have := hR.1; omega), w64_of (by omega) (by have := hR.1; omega)]))))))
      obtain rfl := Ev.one hv hv'
      refine .inl ⟨rfl, ⟨a0, ?_⟩, ?_, ?_⟩
      · show a ≤ w * h - 1
        omega
      · show 0 ≤ (c.toNat : Int) - 48
        omega
      · show (c.toNat : Int) - 48 ≤ (rl.size : Int) - 1
        have cti : (c.toNat : Int) ≤ 47 + (rl.size : Int) := cti
        omega
    · obtain ⟨n, rfl⟩ := Int.eq_ofNat_of_zero_le a0
      obtain ⟨v1, v2, v3⟩ := valueRun_ev W H n (by omega)
      have HR := run_ok n W H
      obtain ⟨s1, s2, s3⟩ := run_same n W
      rcases hk with rfl | rfl | rfl
      · obtain rfl := Ev.one hv v1
        obtain ⟨p1, p2, _⟩ := place_range HR
        rw [s2, s3] at p2
        exact .inr (.inl ⟨rfl, ⟨a0, a1⟩, p1, p2⟩)
      · obtain rfl := Ev.one hv v2
        have := HR.2.2.2.2.2.2.2
        exact .inr (.inr (.inl ⟨rfl, ⟨a0, a1⟩, this⟩))
      · obtain rfl := Ev.one hv v3
        have := zeros_range HR
        rw [s2, s3] at this
        exact .inr (.inr (.inr (.inl ⟨rfl, ⟨a0, a1⟩, by show (0 : Int) ≤ (_ : Nat); omega, this⟩)))
  · rintro ⟨rfl, rfl⟩
    obtain ⟨rl, w, h, cs, x, y, wy⟩ := W
    refine ⟨?_, Ev.step (fun k => spec_pzFits.eq k 4 v 0 rl w h cs x y wy) (Ev.yes rfl (Ev.bind hv (Ev.now' (beq_iff_eq.2 rfl))))⟩
    obtain ⟨hR, hw, hh, hs, hcs, hx, hy, hwy⟩ := H
    simp only at h9 hs
    have hsz : cs.size ≤ 81 := by omega
    have c9 := cells9 (by have := hR.1; omega) hcs
    have sS := sums_ev 4 0 rl w h cs x y wy hsz c9 cs.size 0 0 0 (by omega) (by omega) (by omega) (by omega) (by omega)
    rw [List.drop_zero, Int.zero_add, Int.zero_add] at sS
    have hv' : Ev (fun k => spec_pzValue k (4, 0, (rl, w, h, cs, x, y, wy))) (sumD cs.data.toList) := Ev.step (fun k => spec_pzValue.eq k 4 0 rl w h cs x y wy) (Ev.yes rfl (Ev.no rfl (Ev.bind sS (Ev.no rfl (Ev.no rfl (Ev.no rfl (Ev.no rfl (Ev.now _))))))))
    obtain rfl := Ev.one hv hv'
    obtain ⟨r1, r2⟩ := sumD_range cs.data.toList fun c hc => by
      have := hcs c hc
      have := hR.1
      omega
    rw [← size_list] at r2
    exact .inr (.inr (.inr (.inr ⟨rfl, ⟨r1, by show sumD cs.data.toList ≤ 100; omega⟩, rfl⟩)))
/-! ### The first count of colours -/
theorem countZero_l_ev (cs : ByteArray) (t : Nat) (ht : 1 ≤ t ∧ t ≤ 6) (hz : cs.size ≤ 81) (hcs : CellsOk (t : Int) cs) : ∀ (m i : Nat) (out : List Int), i + m = cs.size → out.length = t → (∀ z ∈ out, 0 ≤ z ∧ z ≤ (i : Int)) → ∀ v : Int, out[0]? = some v →
    ∃ R : List Int, R[0]? = some (v + ((cs.data.toList.drop i).count 48 : Int)) ∧ Ev (fun k => impl_CountColours_l k (out, bytesOf cs, (cs.size : Int), (i : Int))) R
  | 0, i, out, hi, ho, hb, v, hv => ⟨out, by rw [hv, List.drop_eq_nil_of_le (by rw [← size_list]; omega)]; simp, Ev.step (fun k => impl_CountColours_l.eq k out (bytesOf cs) (cs.size : Int) (i : Int)) (Ev.no (not_lt_nat (by omega)) (Ev.now _))⟩
  | m + 1, i, out, hi, ho, hb, v, hv => by
    obtain ⟨c, hc⟩ := byte_at (cs := cs) (i := i) (by omega)
    obtain ⟨c48, cti⟩ := hcs c (List.mem_of_getElem? hc)
    have hclt := c.toNat_lt
    have hbl : (bytesOf cs).length = cs.size := by unfold bytesOf; rw [List.length_map, ← size_list]
    have hbg : (bytesOf cs).getD i default = (c.toNat : Int) := getD_at (by unfold bytesOf; rw [List.getElem?_map, hc]; rfl)
    have e8 : w8 ((c.toNat : Int) - 48) = (c.toNat : Int) - 48 := w8_of (by omega) (by omega)
    obtain ⟨u, hu⟩ := nat_list (l := out) (i := ((c.toNat : Int) - 48).toNat) (by omega)
    have hub := hb u (List.mem_of_getElem? hu)
    have eu : w64 (out.getD ((c.toNat : Int) - 48).toNat default + 1) = u + 1 := by rw [getD_at hu, w64_of (by omega) (by omega)]
    have hin : inB ((c.toNat : Int) - 48) out.length = true := inB_of (by omega) (by omega)
    have hdrop : cs.data.toList.drop i = c :: cs.data.toList.drop (i + 1) := by
      obtain ⟨hlt, he⟩ := List.getElem?_eq_some_iff.1 hc
      rw [List.drop_eq_getElem_cons hlt, he]
    have go : ∀ r, Ev (fun k => impl_CountColours_l k (out.set ((c.toNat : Int) - 48).toNat (u + 1), bytesOf cs, (cs.size : Int), ((i + 1 : Nat) : Int))) r → Ev (fun k => impl_CountColours_l k (out, bytesOf cs, (cs.size : Int), (i : Int))) r := fun r Hr => by
      refine Ev.step (fun k => impl_CountColours_l.eq k out (bytesOf cs) (cs.size : Int) (i : Int)) (Ev.yes (lt_nat (by omega)) (Ev.yes (inB_nat (by omega)) ?_))
      rw [Int.toNat_natCast, hbg, e8, eu, w64_succ (by omega)]
      exact Ev.yes hin (Ev.yes hin Hr)
    have hb' : ∀ z ∈ out.set ((c.toNat : Int) - 48).toNat (u + 1), 0 ≤ z ∧ z ≤ ((i + 1 : Nat) : Int) := fun z hz' => by
      rcases List.mem_or_eq_of_mem_set hz' with h | h
      · have := hb z h
        omega
      · omega
    by_cases h48 : c = 48
    · subst h48
      have e0 : (((48 : UInt8).toNat : Int) - 48).toNat = 0 := rfl
      rw [e0] at hu go hb'
      rw [hv] at hu
      obtain rfl := Option.some.inj hu
      obtain ⟨R, r1, r2⟩ := countZero_l_ev cs t ht hz hcs m (i + 1) (out.set 0 (v + 1)) (by omega) (by rw [List.length_set]; exact ho) hb' (v + 1) (by rw [List.getElem?_set_self (by omega)])
      refine ⟨R, ?_, go _ r2⟩
      rw [r1, hdrop, List.count_cons_self]
      congr 1
      omega
    · have hne : ((c.toNat : Int) - 48).toNat ≠ 0 := by
        intro e
        apply h48
        apply UInt8.toNat_inj.1
        show c.toNat = 48
        omega
      obtain ⟨R, r1, r2⟩ := countZero_l_ev cs t ht hz hcs m (i + 1) (out.set ((c.toNat : Int) - 48).toNat (u + 1)) (by omega) (by rw [List.length_set]; exact ho) hb' v (by rw [List.getElem?_set_ne hne]; exact hv)
      refine ⟨R, ?_, go _ r2⟩
      rw [r1, hdrop, List.count_cons_of_ne h48]
theorem countZero_ev (W : Wo) (H : OkO W) : ∃ R : List Int, (R.length : Int) = (W.1.size : Int) ∧ R.getD 0 default = (zerosO W : Int) ∧ Ev (fun k => impl_CountColours k W) (R, true) := by
  obtain ⟨R, r1, _, _, _, r5, _⟩ := count_ev W H
  obtain ⟨z1, z2⟩ := okO_size H
  have a := (isW_ev W (by omega) (by omega)).isT H
  obtain ⟨rl, w, h, cs, x, y, wy⟩ := W
  obtain ⟨hR, hw, hh, hs, hcs, hx, hy, hwy⟩ := H
  simp only at z1 z2 r1 hR hcs
  have hR1 := hR.1
  obtain ⟨Q, q1, q2⟩ := countZero_l_ev cs rl.size (by omega) z2 hcs cs.size 0 (List.replicate rl.size 0) (by omega) (by simp) (fun z hz => by rw [List.eq_of_mem_replicate hz]; omega) 0 (by rw [List.getElem?_replicate, if_pos (by omega)])
  have hbl : (bytesOf cs).length = cs.size := by unfold bytesOf; rw [List.length_map, ← size_list]
  have hg : (((decide ((0 : Int) ≤ (rl.size : Int))) && (decide ((rl.size : Int) ≤ (rl.size : Int)))) && (fits (rl.size : Int).toNat 8)) = true := by
    rw [decide_eq_true (by omega), decide_eq_true (by omega), fits_of (by omega)]
    rfl
  have q3 : Ev (fun k => impl_CountColours k (rl, w, h, cs, x, y, wy)) (Q, true) := by
    refine Ev.step (fun k => impl_CountColours.eq k rl w h cs x y wy) (Ev.bind a (Ev.no rfl (Ev.yes hg ?_)))
    rw [Int.toNat_natCast, hbl]
    exact Ev.bind q2 (Ev.now _)
  obtain rfl : R = Q := congrArg Prod.fst (Ev.one r5 q3)
  refine ⟨R, by rw [r1], ?_, r5⟩
  rw [getD_at q1, List.drop_zero, Int.zero_add]
  rfl

def nx (z : Int) : Int := (z * 151 + 2083).tmod 10007
theorem nx_range {z : Int} (h : 0 ≤ z ∧ z ≤ 10006) : 0 ≤ nx z ∧ nx z ≤ 10006 := by
  unfold nx
  rw [Int.tmod_eq_emod_of_nonneg (by omega)]
  omega
theorem make_l_ev (rl : ByteArray) (w h : Int) (cs : ByteArray) (x y wy : Int) (H : WorldOk rl w h cs x y wy) (h9 : w * h ≤ 9) (n : Nat) (hn : n ≤ 6) (t6 : ByteArray × Int × Int × List Cl) : ∀ (m i : Nat) (p : List Cl) (z : Int), i + m = n → p.length = i → 0 ≤ z ∧ z ≤ 10006 → (∀ c ∈ p, ClueOk rl (w * h) c ∧ Fit c (rl, w, h, cs, x, y, wy)) →
    ∃ P : List Cl, P.length = n ∧ (∀ c ∈ P, ClueOk rl (w * h) c ∧ Fit c (rl, w, h, cs, x, y, wy)) ∧ Ev (fun k => spec_MakePuzzle_l k ((m : Int), (rl, w, h, cs, x, y, wy), t6, (rl, w, h, p), z)) (t6, (rl, w, h, P)) ∧ Ev (fun k => impl_MakePuzzle_l k ((rl, w, h, cs, x, y, wy), t6, z, (rl, w, h, p), (n : Int), (i : Int))) (t6, (rl, w, h, P))
  | 0, i, p, z, hi, hp, hz, hq => ⟨p, by omega, hq, Ev.step (fun k => spec_MakePuzzle_l.eq k _ rl w h cs x y wy t6.1 t6.2.1 t6.2.2.1 t6.2.2.2 rl w h p z) (Ev.no rfl (Ev.now _)),
      Ev.step (fun k => impl_MakePuzzle_l.eq k rl w h cs x y wy t6.1 t6.2.1 t6.2.2.1 t6.2.2.2 z rl w h p _ _) (Ev.no (not_lt_nat (by omega)) (Ev.now _))⟩
  | m + 1, i, p, z, hi, hp, hz, hq => by
    have ap : ∀ c : Cl, ClueOk rl (w * h) c ∧ Fit c (rl, w, h, cs, x, y, wy) → ∀ d ∈ p ++ [c], ClueOk rl (w * h) d ∧ Fit d (rl, w, h, cs, x, y, wy) := fun c hc d hd => (List.mem_append.1 hd).elim (hq d) fun h => List.mem_singleton.1 h ▸ hc
    obtain ⟨hR, hw, hh, hs, _⟩ := id H
    have hm := mul_range (a := w) (b := h) (by omega) (by omega) (by omega) (by omega)
    have nS : ∀ z : Int, 0 ≤ z ∧ z ≤ 10006 → Ev (fun k => spec_pzNext k z) (nx z) := fun z hz => Ev.step (fun k => spec_pzNext.eq k z) (Ev.now' (by
      unfold nx
      rw [w64_of (n := 151 * z) (by omega) (by omega), w64_of (by omega) (by omega), Int.mul_comm]))
    have nI : ∀ z : Int, 0 ≤ z ∧ z ≤ 10006 → Ev (fun k => impl_MakePuzzle_1 k z) (nx z, nx z) := fun z hz => Ev.step (fun k => impl_MakePuzzle_1.eq k z) (Ev.now' (by
      unfold nx
      rw [w64_of (n := z * 151) (by omega) (by omega), w64_of (by omega) (by omega)]))
    have r1 := nx_range hz
    have s1 := nS z hz
    have i1 := nI z hz
    generalize nx z = z1 at r1 s1 i1
    have r2 := nx_range r1
    have s2 := nS z1 r1
    have i2 := nI z1 r1
    generalize nx z1 = z2 at r2 s2 i2
    obtain ⟨kd, ekd⟩ : ∃ kd, z1.tmod 5 = kd := ⟨_, rfl⟩
    have hkd : 0 ≤ kd ∧ kd ≤ 4 := by rw [← ekd, Int.tmod_eq_emod_of_nonneg (by omega)]; omega
    have hne : ((cs.size : Int) != 0) = true := by rw [bne_iff_ne]; omega
    have hf : fits (p.length + 1) 24 = true := fits_of (by omega)
    have e1 : w64 (((m + 1 : Nat) : Int) - 1) = (m : Int) := by rw [w64_of (by omega) (by omega)]; omega
    have e2 : w64 ((i : Int) + 1) = ((i + 1 : Nat) : Int) := w64_succ (by omega)
    have goS : ∀ r, Ev (fun k => cond (decide (kd < 4))
   ((spec_pzNext k z1).bind fun r2 =>
    cond (kd == 0)
    (cond ((cs.size : Int) != 0)
     ((spec_pzOf k (kd, (r2.tmod (cs.size : Int)), (rl, w, h, cs, x, y, wy))).bind fun r3 =>
      cond (fits (p.length + 1) 24)
      (spec_MakePuzzle_l k ((m : Int), (rl, w, h, cs, x, y, wy), t6, (rl, w, h, (p ++ [r3])), r2))
      (none))
     (none))
    ((spec_pzOf k (kd, (r2.tmod 51), (rl, w, h, cs, x, y, wy))).bind fun r4 =>
     cond (fits (p.length + 1) 24)
     (spec_MakePuzzle_l k ((m : Int), (rl, w, h, cs, x, y, wy), t6, (rl, w, h, (p ++ [r4])), r2))
     (none)))
   ((spec_pzOf k (kd, 0, (rl, w, h, cs, x, y, wy))).bind fun r5 =>
    cond (fits (p.length + 1) 24)
    (spec_MakePuzzle_l k ((m : Int), (rl, w, h, cs, x, y, wy), t6, (rl, w, h, (p ++ [r5])), z1))
    (none))) r → Ev (fun k => spec_MakePuzzle_l k (((m + 1 : Nat) : Int), (rl, w, h, cs, x, y, wy), t6, (rl, w, h, p), z)) r := fun r hr => by
      refine Ev.step (fun k => spec_MakePuzzle_l.eq k _ rl w h cs x y wy t6.1 t6.2.1 t6.2.2.1 t6.2.2.2 rl w h p z) (Ev.yes (decide_eq_true (by omega)) (Ev.bind s1 ?_))
      rw [ekd, e1]
      exact hr
    have goI : ∀ r, Ev (fun k => cond (kd == 0)
   ((impl_MakePuzzle_1 k z1).bind fun r2 =>
    cond ((cs.size : Int) != 0)
    (cond (kd == 4)
     ((impl_told k (4, 0, (rl, w, h, cs, x, y, wy))).bind fun r3 =>
      cond (fits (p.length + 1) 24)
      (impl_MakePuzzle_l k ((rl, w, h, cs, x, y, wy), t6, r2.2, (rl, w, h, (p ++ [(kd, (r3, 0))])), (n : Int), ((i + 1 : Nat) : Int)))
      (none))
     ((impl_told k (kd, (r2.1.tmod (cs.size : Int)), (rl, w, h, cs, x, y, wy))).bind fun r4 =>
      cond (fits (p.length + 1) 24)
      (impl_MakePuzzle_l k ((rl, w, h, cs, x, y, wy), t6, r2.2, (rl, w, h, (p ++ [(kd, ((r2.1.tmod (cs.size : Int)), r4))])), (n : Int), ((i + 1 : Nat) : Int)))
      (none)))
    (none))
   (cond (kd == 1)
    ((impl_MakePuzzle_1 k z1).bind fun r5 =>
     cond (kd == 4)
     ((impl_told k (4, 0, (rl, w, h, cs, x, y, wy))).bind fun r6 =>
      cond (fits (p.length + 1) 24)
      (impl_MakePuzzle_l k ((rl, w, h, cs, x, y, wy), t6, r5.2, (rl, w, h, (p ++ [(kd, (r6, 0))])), (n : Int), ((i + 1 : Nat) : Int)))
      (none))
     ((impl_told k (kd, (r5.1.tmod 51), (rl, w, h, cs, x, y, wy))).bind fun r7 =>
      cond (fits (p.length + 1) 24)
      (impl_MakePuzzle_l k ((rl, w, h, cs, x, y, wy), t6, r5.2, (rl, w, h, (p ++ [(kd, ((r5.1.tmod 51), r7))])), (n : Int), ((i + 1 : Nat) : Int)))
      (none)))
    (cond (kd == 2)
     ((impl_MakePuzzle_1 k z1).bind fun r8 =>
      cond (kd == 4)
      ((impl_told k (4, 0, (rl, w, h, cs, x, y, wy))).bind fun r9 =>
       cond (fits (p.length + 1) 24)
       (impl_MakePuzzle_l k ((rl, w, h, cs, x, y, wy), t6, r8.2, (rl, w, h, (p ++ [(kd, (r9, 0))])), (n : Int), ((i + 1 : Nat) : Int)))
       (none))
      ((impl_told k (kd, (r8.1.tmod 51), (rl, w, h, cs, x, y, wy))).bind fun r10 =>
       cond (fits (p.length + 1) 24)
       (impl_MakePuzzle_l k ((rl, w, h, cs, x, y, wy), t6, r8.2, (rl, w, h, (p ++ [(kd, ((r8.1.tmod 51), r10))])), (n : Int), ((i + 1 : Nat) : Int)))
       (none)))
     (cond (kd == 3)
      ((impl_MakePuzzle_1 k z1).bind fun r11 =>
       cond (kd == 4)
       ((impl_told k (4, 0, (rl, w, h, cs, x, y, wy))).bind fun r12 =>
        cond (fits (p.length + 1) 24)
        (impl_MakePuzzle_l k ((rl, w, h, cs, x, y, wy), t6, r11.2, (rl, w, h, (p ++ [(kd, (r12, 0))])), (n : Int), ((i + 1 : Nat) : Int)))
        (none))
       ((impl_told k (kd, (r11.1.tmod 51), (rl, w, h, cs, x, y, wy))).bind fun r13 =>
        cond (fits (p.length + 1) 24)
        (impl_MakePuzzle_l k ((rl, w, h, cs, x, y, wy), t6, r11.2, (rl, w, h, (p ++ [(kd, ((r11.1.tmod 51), r13))])), (n : Int), ((i + 1 : Nat) : Int)))
        (none)))
      (cond (kd == 4)
       ((impl_told k (4, 0, (rl, w, h, cs, x, y, wy))).bind fun r14 =>
        cond (fits (p.length + 1) 24)
        (impl_MakePuzzle_l k ((rl, w, h, cs, x, y, wy), t6, z1, (rl, w, h, (p ++ [(kd, (r14, 0))])), (n : Int), ((i + 1 : Nat) : Int)))
        (none))
       ((impl_told k (kd, 0, (rl, w, h, cs, x, y, wy))).bind fun r15 =>
        cond (fits (p.length + 1) 24)
        (impl_MakePuzzle_l k ((rl, w, h, cs, x, y, wy), t6, z1, (rl, w, h, (p ++ [(kd, (0, r15))])), (n : Int), ((i + 1 : Nat) : Int)))
        (none))))))) r → Ev (fun k => impl_MakePuzzle_l k ((rl, w, h, cs, x, y, wy), t6, z, (rl, w, h, p), (n : Int), (i : Int))) r := fun r hr => by
      refine Ev.step (fun k => impl_MakePuzzle_l.eq k rl w h cs x y wy t6.1 t6.2.1 t6.2.2.1 t6.2.2.2 z rl w h p _ _) (Ev.yes (lt_nat (by omega)) (Ev.bind i1 ?_))
      dsimp only
      rw [ekd, e2]
      exact hr
    clear ekd
    have ofN : ∀ (kd a v : Int), (kd == 4) = false → Ev (fun k => spec_pzValue k (kd, a, (rl, w, h, cs, x, y, wy))) v → Ev (fun k => spec_pzOf k (kd, a, (rl, w, h, cs, x, y, wy))) (kd, a, v) := fun kd a v hk hv => Ev.step (fun k => spec_pzOf.eq k kd a rl w h cs x y wy) (Ev.no hk (Ev.bind hv (Ev.now _)))
    have : kd = 0 ∨ kd = 1 ∨ kd = 2 ∨ kd = 3 ∨ kd = 4 := by omega
    have m1 : 0 ≤ z2.tmod (cs.size : Int) ∧ z2.tmod (cs.size : Int) < (cs.size : Int) := by
      rw [Int.tmod_eq_emod_of_nonneg (by omega)]
      exact ⟨Int.emod_nonneg _ (by omega), Int.emod_lt_of_pos _ (by omega)⟩
    have m2 : 0 ≤ z2.tmod 51 ∧ z2.tmod 51 ≤ 50 := by
      rw [Int.tmod_eq_emod_of_nonneg (by omega)]
      omega
    rcases this with rfl | rfl | rfl | rfl | rfl
    · obtain ⟨v, v1, v2⟩ := value_ev rl w h cs x y wy H 0 (z2.tmod (cs.size : Int)) (.inl ⟨rfl, m1.1, m1.2⟩)
      obtain ⟨P, hP, hQ, q1, q2⟩ := make_l_ev rl w h cs x y wy H h9 n hn t6 m (i + 1) (p ++ [(0, z2.tmod (cs.size : Int), v)]) z2 (by omega) (by simp; omega) r2 (ap _ ((value_range (rl, w, h, cs, x, y, wy) H h9 0 _ v v2).1 (.inl ⟨rfl, m1.1, m1.2⟩)))
      exact ⟨P, hP, hQ, goS _ (Ev.yes rfl (Ev.bind s2 (Ev.yes rfl (Ev.yes hne (Ev.bind (ofN _ _ _ rfl v2) (Ev.yes hf q1)))))), goI _ (Ev.yes rfl (Ev.bind i2 (Ev.yes hne (Ev.no rfl (Ev.bind v1 (Ev.yes hf q2))))))⟩
    · obtain ⟨v, v1, v2⟩ := value_ev rl w h cs x y wy H 1 (z2.tmod 51) (.inr (.inr ⟨.inl rfl, m2.1, m2.2⟩))
      obtain ⟨P, hP, hQ, q1, q2⟩ := make_l_ev rl w h cs x y wy H h9 n hn t6 m (i + 1) (p ++ [(1, z2.tmod 51, v)]) z2 (by omega) (by simp; omega) r2 (ap _ ((value_range (rl, w, h, cs, x, y, wy) H h9 1 _ v v2).1 (.inr ⟨.inl rfl, m2⟩)))
      exact ⟨P, hP, hQ, goS _ (Ev.yes rfl (Ev.bind s2 (Ev.no rfl (Ev.bind (ofN _ _ _ rfl v2) (Ev.yes hf q1))))), goI _ (Ev.no rfl (Ev.yes rfl (Ev.bind i2 (Ev.no rfl (Ev.bind v1 (Ev.yes hf q2))))))⟩
    · obtain ⟨v, v1, v2⟩ := value_ev rl w h cs x y wy H 2 (z2.tmod 51) (.inr (.inr ⟨.inr (.inl rfl), m2.1, m2.2⟩))
      obtain ⟨P, hP, hQ, q1, q2⟩ := make_l_ev rl w h cs x y wy H h9 n hn t6 m (i + 1) (p ++ [(2, z2.tmod 51, v)]) z2 (by omega) (by simp; omega) r2 (ap _ ((value_range (rl, w, h, cs, x, y, wy) H h9 2 _ v v2).1 (.inr ⟨.inr (.inl rfl), m2⟩)))
      exact ⟨P, hP, hQ, goS _ (Ev.yes rfl (Ev.bind s2 (Ev.no rfl (Ev.bind (ofN _ _ _ rfl v2) (Ev.yes hf q1))))), goI _ (Ev.no rfl (Ev.no rfl (Ev.yes rfl (Ev.bind i2 (Ev.no rfl (Ev.bind v1 (Ev.yes hf q2)))))))⟩
    · obtain ⟨v, v1, v2⟩ := value_ev rl w h cs x y wy H 3 (z2.tmod 51) (.inr (.inr ⟨.inr (.inr rfl), m2.1, m2.2⟩))
      obtain ⟨P, hP, hQ, q1, q2⟩ := make_l_ev rl w h cs x y wy H h9 n hn t6 m (i + 1) (p ++ [(3, z2.tmod 51, v)]) z2 (by omega) (by simp; omega) r2 (ap _ ((value_range (rl, w, h, cs, x, y, wy) H h9 3 _ v v2).1 (.inr ⟨.inr (.inr rfl), m2⟩)))
      exact ⟨P, hP, hQ, goS _ (Ev.yes rfl (Ev.bind s2 (Ev.no rfl (Ev.bind (ofN _ _ _ rfl v2) (Ev.yes hf q1))))), goI _ (Ev.no rfl (Ev.no rfl (Ev.no rfl (Ev.yes rfl (Ev.bind i2 (Ev.no rfl (Ev.bind v1 (Ev.yes hf q2))))))))⟩
    · obtain ⟨v, v1, v2⟩ := value_ev rl w h cs x y wy H 4 0 (.inr (.inl ⟨rfl, rfl⟩))
      obtain ⟨P, hP, hQ, q1, q2⟩ := make_l_ev rl w h cs x y wy H h9 n hn t6 m (i + 1) (p ++ [(4, v, 0)]) z1 (by omega) (by simp; omega) r1 (ap _ ((value_range (rl, w, h, cs, x, y, wy) H h9 4 0 v v2).2 ⟨rfl, rfl⟩))
      have of4 : Ev (fun k => spec_pzOf k (4, 0, (rl, w, h, cs, x, y, wy))) (4, v, 0) := Ev.step (fun k => spec_pzOf.eq k 4 0 rl w h cs x y wy) (Ev.yes rfl (Ev.bind v2 (Ev.now _)))
      exact ⟨P, hP, hQ, goS _ (Ev.no rfl (Ev.bind of4 (Ev.yes hf q1))), goI _ (Ev.no rfl (Ev.no rfl (Ev.no rfl (Ev.no rfl (Ev.yes rfl (Ev.bind v1 (Ev.yes hf q2)))))))⟩
abbrev zeroP : ByteArray × Int × Int × List Cl := (ByteArray.empty, 0, 0, [])
def HidO (W : Wo) : Prop := HidOk W.1 W.2.1 W.2.2.1 W.2.2.2.1 W.2.2.2.2.1 W.2.2.2.2.2.1 W.2.2.2.2.2.2
theorem make_ev (W : Wo) (hr : W.1.size ≤ 1048576) (hc : W.2.2.2.1.size ≤ 1048576) (n z : Int) :
    (HidO W ∧ (0 ≤ n ∧ n ≤ 6) ∧ (0 ≤ z ∧ z ≤ 9999) → ∃ P : List Cl, (P.length : Int) = n ∧ (∀ c ∈ P, ClueOk W.1 (W.2.1 * W.2.2.1) c ∧ Fit c W) ∧ Ev (fun k => spec_MakePuzzle k (W, n, z)) ((W.1, W.2.1, W.2.2.1, P), true) ∧ Ev (fun k => impl_MakePuzzle k (W, n, z)) ((W.1, W.2.1, W.2.2.1, P), true)) ∧
    (¬ (HidO W ∧ (0 ≤ n ∧ n ≤ 6) ∧ (0 ≤ z ∧ z ≤ 9999)) → Ev (fun k => spec_MakePuzzle k (W, n, z)) (zeroP, false) ∧ Ev (fun k => impl_MakePuzzle k (W, n, z)) (zeroP, false)) := by
  obtain ⟨rl, w, h, cs, x, y, wy⟩ := W
  simp only at hr hc
  have a1 := isHidden_ev rl w h cs x y wy (by omega) (by omega)
  have a2 := pzHidden_ev rl w h cs x y wy
  constructor
  · rintro ⟨H, hN, hZ⟩
    have H : HidOk rl w h cs x y wy := H
    obtain ⟨N, rfl⟩ := Int.eq_ofNat_of_zero_le hN.1
    obtain ⟨P, hP, hQ, q1, q2⟩ := make_l_ev rl w h cs x y wy H.2.1 H.1.2.2.2.1 N (by omega) zeroP N 0 [] z (by omega) rfl (by omega) (fun c hc => by cases hc)
    exact ⟨P, by omega, hQ, Ev.step (fun k => spec_MakePuzzle.eq k rl w h cs x y wy N z) (Ev.bind (a2.isT H) (Ev.no rfl (Ev.bind ((l1In_ev N 0 6).isT hN) (Ev.no rfl (Ev.bind ((l1In_ev z 0 9999).isT hZ) (Ev.no rfl (Ev.bind q1 (Ev.now _)))))))), Ev.step (fun k => impl_MakePuzzle.eq k rl w h cs x y wy N z) (Ev.bind (a1.isT H) (Ev.no rfl (Ev.bind ((within_ev N 0 6).isT hN) (Ev.no rfl (Ev.bind ((within_ev z 0 9999).isT hZ) (Ev.no rfl (Ev.bind q2 (Ev.now _))))))))⟩
  · intro hno
    by_cases H : HidOk rl w h cs x y wy
    · by_cases hN : 0 ≤ n ∧ n ≤ 6
      · have hZ : ¬ (0 ≤ z ∧ z ≤ 9999) := fun hZ => hno ⟨H, hN, hZ⟩
        exact ⟨Ev.step (fun k => spec_MakePuzzle.eq k rl w h cs x y wy n z) (Ev.bind (a2.isT H) (Ev.no rfl (Ev.bind ((l1In_ev n 0 6).isT hN) (Ev.no rfl (Ev.bind ((l1In_ev z 0 9999).isF hZ) (Ev.yes rfl (Ev.now _))))))), Ev.step (fun k => impl_MakePuzzle.eq k rl w h cs x y wy n z) (Ev.bind (a1.isT H) (Ev.no rfl (Ev.bind ((within_ev n 0 6).isT hN) (Ev.no rfl (Ev.bind ((within_ev z 0 9999).isF hZ) (Ev.yes rfl (Ev.now _)))))))⟩
      · exact ⟨Ev.step (fun k => spec_MakePuzzle.eq k rl w h cs x y wy n z) (Ev.bind (a2.isT H) (Ev.no rfl (Ev.bind ((l1In_ev n 0 6).isF hN) (Ev.yes rfl (Ev.now _))))), Ev.step (fun k => impl_MakePuzzle.eq k rl w h cs x y wy n z) (Ev.bind (a1.isT H) (Ev.no rfl (Ev.bind ((within_ev n 0 6).isF hN) (Ev.yes rfl (Ev.now _)))))⟩
    · exact ⟨Ev.step (fun k => spec_MakePuzzle.eq k rl w h cs x y wy n z) (Ev.bind (a2.isF H) (Ev.yes rfl (Ev.now _))), Ev.step (fun k => impl_MakePuzzle.eq k rl w h cs x y wy n z) (Ev.bind (a1.isF H) (Ev.yes rfl (Ev.now _)))⟩
/-! ### Does a clue fit -/
theorem doesFit_ev (c : Cl) (W : Wo) (hr : W.1.size ≤ 1048576) (hc : W.2.2.2.1.size ≤ 1048576) :
    (HidO W ∧ ClueOk W.1 (W.2.1 * W.2.2.1) c → (Fit c W → Ev (fun k => impl_DoesFit k (c, W)) (true, true) ∧ Ev (fun k => spec_DoesFit k (c, W)) (true, true)) ∧ (¬ Fit c W → Ev (fun k => impl_DoesFit k (c, W)) (false, true) ∧ Ev (fun k => spec_DoesFit k (c, W)) (false, true)) ∧ Ev (fun k => impl_IsClue k (W.1, (W.2.2.2.1.size : Int), c)) true) ∧
    (¬ (HidO W ∧ ClueOk W.1 (W.2.1 * W.2.2.1) c) → Ev (fun k => impl_DoesFit k (c, W)) (false, false) ∧ Ev (fun k => spec_DoesFit k (c, W)) (false, false)) := by
  obtain ⟨rl, w, h, cs, x, y, wy⟩ := W
  obtain ⟨kd, a, b⟩ := c
  simp only at hr hc
  have a1 := isHidden_ev rl w h cs x y wy (by omega) (by omega)
  have a2 := pzHidden_ev rl w h cs x y wy
  by_cases H : HidOk rl w h cs x y wy
  rotate_left
  · exact ⟨fun q => absurd q.1 H, fun _ => ⟨Ev.step (fun k => impl_DoesFit.eq k kd a b rl w h cs x y wy) (Ev.bind (a1.isF H) (Ev.yes rfl (Ev.now _))), Ev.step (fun k => spec_DoesFit.eq k kd a b rl w h cs x y wy) (Ev.bind (a2.isF H) (Ev.yes rfl (Ev.now _)))⟩⟩
  obtain ⟨hS, hW, _⟩ := id H
  have hsz := hW.2.2.2.1
  have hm := mul_range (a := w) (b := h) (by have := hS.2.1; omega) (by have := hS.2.1; omega) (by have := hS.2.2.1; omega) (by have := hS.2.2.1; omega)
  have h9 := hS.2.2.2.1
  have h6 := hS.1.1
  have c1 : EvB (fun k => impl_IsClue k (rl, (cs.size : Int), (kd, a, b))) (ClueOk rl (w * h) (kd, a, b)) := (isClue_ev rl (cs.size : Int) (kd, a, b) (by omega)).iff ⟨fun q => hsz ▸ q.2.2, fun q => ⟨hS.1, by omega, hsz.symm ▸ q⟩⟩
  have c2 : EvB (fun k => spec_pzClue k (rl, (cs.size : Int), (kd, a, b))) (ClueOk rl (w * h) (kd, a, b)) := (pzClue_ev rl (cs.size : Int) (kd, a, b) (by omega) (by omega)).iff ⟨fun q => hsz ▸ q, fun q => hsz.symm ▸ q⟩
  by_cases hC : ClueOk rl (w * h) (kd, a, b)
  rotate_left
  · exact ⟨fun q => absurd q.2 hC, fun _ => ⟨Ev.step (fun k => impl_DoesFit.eq k kd a b rl w h cs x y wy) (Ev.bind (a1.isT H) (Ev.no rfl (Ev.bind (c1.isF hC) (Ev.yes rfl (Ev.now _))))), Ev.step (fun k => spec_DoesFit.eq k kd a b rl w h cs x y wy) (Ev.bind (a2.isT H) (Ev.no rfl (Ev.bind (c2.isF hC) (Ev.yes rfl (Ev.now _)))))⟩⟩
  obtain ⟨f1, f2⟩ := fits_ev rl w h cs x y wy hW (kd, a, b) hC
  refine ⟨fun _ => ⟨fun hF => ⟨?_, ?_⟩, fun hF => ⟨?_, ?_⟩, c1.isT hC⟩, fun q => absurd ⟨H, hC⟩ q⟩
  · exact Ev.step (fun k => impl_DoesFit.eq k kd a b rl w h cs x y wy) (Ev.bind (a1.isT H) (Ev.no rfl (Ev.bind (c1.isT hC) (Ev.no rfl (Ev.bind (f1.isT hF) (Ev.now _))))))
  · exact Ev.step (fun k => spec_DoesFit.eq k kd a b rl w h cs x y wy) (Ev.bind (a2.isT H) (Ev.no rfl (Ev.bind (c2.isT hC) (Ev.no rfl (Ev.bind (f2.isT hF) (Ev.now _))))))
  · exact Ev.step (fun k => impl_DoesFit.eq k kd a b rl w h cs x y wy) (Ev.bind (a1.isT H) (Ev.no rfl (Ev.bind (c1.isT hC) (Ev.no rfl (Ev.bind (f1.isF hF) (Ev.now _))))))
  · exact Ev.step (fun k => spec_DoesFit.eq k kd a b rl w h cs x y wy) (Ev.bind (a2.isT H) (Ev.no rfl (Ev.bind (c2.isT hC) (Ev.no rfl (Ev.bind (f2.isF hF) (Ev.now _))))))
/-! ### Clues added, dropped -/
section
variable (rl : ByteArray) (w h : Int) (cl : List Cl) (hrl : rl.size ≤ 1048576)
include hrl
theorem add_ev (c : Cl) : (PuzOk rl w h cl ∧ ClueOk rl (w * h) c ∧ cl.length ≠ 6 → Ev (fun k => impl_AddClue k ((rl, w, h, cl), c)) ((rl, w, h, cl ++ [c]), true) ∧ Ev (fun k => spec_AddClue k ((rl, w, h, cl), c)) ((rl, w, h, cl ++ [c]), true)) ∧
    (¬ (PuzOk rl w h cl ∧ ClueOk rl (w * h) c ∧ cl.length ≠ 6) → Ev (fun k => impl_AddClue k ((rl, w, h, cl), c)) (zeroP, false) ∧ Ev (fun k => spec_AddClue k ((rl, w, h, cl), c)) (zeroP, false)) := by
  obtain ⟨kd, a, b⟩ := c
  have a1 := isPuzzle_ev rl w h cl (by omega)
  have a2 := pzGood_ev rl w h cl
  by_cases H : PuzOk rl w h cl
  rotate_left
  · exact ⟨fun q => absurd q.1 H, fun _ => ⟨Ev.step (fun k => impl_AddClue.eq k rl w h cl kd a b) (Ev.bind (a1.isF H) (Ev.yes rfl (Ev.now _))), Ev.step (fun k => spec_AddClue.eq k rl w h cl kd a b) (Ev.bind (a2.isF H) (Ev.yes rfl (Ev.now _)))⟩⟩
  obtain ⟨hS, hl6, hok⟩ := id H
  have hm := mul_range (a := w) (b := h) (by have := hS.2.1; omega) (by have := hS.2.1; omega) (by have := hS.2.2.1; omega) (by have := hS.2.2.1; omega)
  have h9 := hS.2.2.2.1
  have h6 := hS.1.1
  have e64 : w64 (w * h) = w * h := w64_of (by omega) (by omega)
  have c1 : EvB (fun k => impl_IsClue k (rl, w * h, (kd, a, b))) (ClueOk rl (w * h) (kd, a, b)) := (isClue_ev rl (w * h) (kd, a, b) (by omega)).iff ⟨fun q => q.2.2, fun q => ⟨hS.1, by omega, q⟩⟩
  have c2 := pzClue_ev rl (w * h) (kd, a, b) (by omega) (by omega)
  have goI : ∀ r, Ev (fun k => (impl_IsClue k (rl, w * h, (kd, a, b))).bind fun r2 => cond (!r2) (some (zeroP, false)) (cond ((cl.length : Int) == 6) (some (zeroP, false)) ((slices_Clone k cl).bind fun r3 => cond (fits (r3.length + 1) 24) ((impl_Puzzle_changed k ((rl, w, h, cl), (r3 ++ [(kd, (a, b))]))).bind fun r4 => some (r4, true)) (none)))) r → Ev (fun k => impl_AddClue k ((rl, w, h, cl), (kd, a, b))) r := fun r Hr => by
    refine Ev.step (fun k => impl_AddClue.eq k rl w h cl kd a b) (Ev.bind (a1.isT H) (Ev.no rfl ?_))
    rw [e64]
    exact Hr
  have goS : ∀ r, Ev (fun k => (spec_pzClue k (rl, w * h, (kd, a, b))).bind fun r2 => cond (!r2) (some (zeroP, false)) (cond ((cl.length : Int) == 6) (some (zeroP, false)) (cond (fits (0 + cl.length) 24) (cond (fits (([] ++ cl).length + 1) 24) ((spec_pzWith_2 k ((rl, w, h, cl), (([] ++ cl) ++ [(kd, (a, b))]))).bind fun r3 => some (r3, true)) (none)) (none)))) r → Ev (fun k => spec_AddClue k ((rl, w, h, cl), (kd, a, b))) r := fun r Hr => by
    refine Ev.step (fun k => spec_AddClue.eq k rl w h cl kd a b) (Ev.bind (a2.isT H) (Ev.no rfl ?_))
    rw [e64]
    exact Hr
  by_cases hC : ClueOk rl (w * h) (kd, a, b)
  rotate_left
  · exact ⟨fun q => absurd q.2.1 hC, fun _ => ⟨goI _ (Ev.bind (c1.isF hC) (Ev.yes rfl (Ev.now _))), goS _ (Ev.bind (c2.isF hC) (Ev.yes rfl (Ev.now _)))⟩⟩
  by_cases hn : cl.length = 6
  · have e6 : ((cl.length : Int) == 6) = true := by rw [beq_iff_eq]; omega
    exact ⟨fun q => absurd hn q.2.2, fun _ => ⟨goI _ (Ev.bind (c1.isT hC) (Ev.no rfl (Ev.yes e6 (Ev.now _)))), goS _ (Ev.bind (c2.isT hC) (Ev.no rfl (Ev.yes e6 (Ev.now _))))⟩⟩
  · have e6 : ((cl.length : Int) == 6) = false := by rw [beq_eq_false_iff_ne]; omega
    have hcl : Ev (fun k => slices_Clone k cl) cl := Ev.step (fun k => (slices_Clone.eq k cl).trans (cloneB_some (s := .pair (.int .i64) (.pair (.int .i64) (.int .i64))) 24 cl (by show List.length (α := Cl) cl * 24 ≤ _; omega))) (Ev.now _)
    exact ⟨fun _ => ⟨goI _ (Ev.bind (c1.isT hC) (Ev.no rfl (Ev.no e6 (Ev.bind hcl (Ev.yes (fits_of (by omega)) (Ev.bind (Ev.step (fun k => impl_Puzzle_changed.eq k rl w h cl _) (Ev.now _)) (Ev.now _))))))),
      goS _ (Ev.bind (c2.isT hC) (Ev.no rfl (Ev.no e6 (Ev.yes (fits_of (by omega)) (Ev.yes (fits_of (by rw [List.nil_append]; omega)) (Ev.bind (Ev.step (fun k => spec_pzWith_2.eq k rl w h cl _) (Ev.now _)) (Ev.now _)))))))⟩, fun q => absurd ⟨H, hC, hn⟩ q⟩
theorem drop_ev (i : Int) : (PuzOk rl w h cl ∧ 0 ≤ i ∧ i ≤ (cl.length : Int) - 1 → Ev (fun k => impl_DropClue k ((rl, w, h, cl), i)) ((rl, w, h, woC cl i.toNat), true) ∧ Ev (fun k => spec_DropClue k ((rl, w, h, cl), i)) ((rl, w, h, woC cl i.toNat), true)) ∧
    (¬ (PuzOk rl w h cl ∧ 0 ≤ i ∧ i ≤ (cl.length : Int) - 1) → Ev (fun k => impl_DropClue k ((rl, w, h, cl), i)) (zeroP, false) ∧ Ev (fun k => spec_DropClue k ((rl, w, h, cl), i)) (zeroP, false)) := by
  have a1 := isPuzzle_ev rl w h cl (by omega)
  have a2 := pzGood_ev rl w h cl
  by_cases H : PuzOk rl w h cl
  rotate_left
  · exact ⟨fun q => absurd q.1 H, fun _ => ⟨Ev.step (fun k => impl_DropClue.eq k rl w h cl i) (Ev.bind (a1.isF H) (Ev.yes rfl (Ev.now _))), Ev.step (fun k => spec_DropClue.eq k rl w h cl i) (Ev.bind (a2.isF H) (Ev.yes rfl (Ev.now _)))⟩⟩
  have hl := H.2.1
  have e1 : w64 ((cl.length : Int) - 1) = (cl.length : Int) - 1 := w64_of (by omega) (by omega)
  by_cases hI : 0 ≤ i ∧ i ≤ (cl.length : Int) - 1
  rotate_left
  · refine ⟨fun q => absurd q.2 hI, fun _ => ⟨Ev.step (fun k => impl_DropClue.eq k rl w h cl i) (Ev.bind (a1.isT H) (Ev.no rfl ?_)), Ev.step (fun k => spec_DropClue.eq k rl w h cl i) (Ev.bind (a2.isT H) (Ev.no rfl ?_))⟩⟩
    · rw [e1]
      exact Ev.bind ((within_ev i 0 _).isF hI) (Ev.yes rfl (Ev.now _))
    · rw [e1]
      exact Ev.bind ((l1In_ev i 0 _).isF hI) (Ev.yes rfl (Ev.now _))
  obtain ⟨n, rfl⟩ := Int.eq_ofNat_of_zero_le hI.1
  have hn : n < cl.length := by omega
  refine ⟨fun _ => ⟨Ev.step (fun k => impl_DropClue.eq k rl w h cl n) (Ev.bind (a1.isT H) (Ev.no rfl ?_)), Ev.step (fun k => spec_DropClue.eq k rl w h cl n) (Ev.bind (a2.isT H) (Ev.no rfl ?_))⟩, fun q => absurd ⟨H, hI⟩ q⟩
  · rw [e1]
    exact Ev.bind ((within_ev _ 0 _).isT hI) (Ev.no rfl (Ev.bind (dropped_ev cl (by omega) n hn) (Ev.bind (Ev.step (fun k => impl_Puzzle_changed.eq k rl w h cl (woC cl n)) (Ev.now _)) (Ev.now _))))
  · rw [e1]
    exact Ev.bind ((l1In_ev _ 0 _).isT hI) (Ev.no rfl (Ev.bind (pzWithout_ev cl (by omega) n hn) (Ev.bind (Ev.step (fun k => spec_pzWith_2.eq k rl w h cl (woC cl n)) (Ev.now _)) (Ev.now _))))
end
/-! ### Harder puzzles -/
theorem woC_two {q : List Cl} {i j : Nat} (hj : j < i) (hi : i < q.length) {c : Cl} (h : c ∈ woC (woC q i) j) : c ∈ woC q j := by
  have e : woC q i = q.take i ++ q.drop (i + 1) := rfl
  have ht : (q.take i).length = i := by rw [List.length_take]; omega
  unfold woC at h
  rcases List.mem_append.1 h with h | h
  · refine List.mem_append_left _ ?_
    rw [List.take_append_of_le_length (by omega), List.take_take, Nat.min_eq_left (by omega)] at h
    exact h
  · refine List.mem_append_right _ ?_
    rw [List.drop_append_of_le_length (by omega)] at h
    rcases List.mem_append.1 h with h | h
    · rw [List.drop_take] at h
      exact List.mem_of_mem_take h
    · rw [show i + 1 = (j + 1) + (i - j) by omega, ← List.drop_drop] at h
      exact List.mem_of_mem_drop h
section
variable (rl : ByteArray) (w h : Int) (h1 : SizeOk rl w h) (cl : List Cl)
include h1
theorem hard_l_ev (t : ByteArray × Int × Int × List Cl) : ∀ (m i : Nat) (q : List Cl), q.length + (q.length - i) ≤ m → q.length ≤ 6 → (∀ c ∈ q, ClueOk rl (w * h) c) → (solC rl w h q).length = 1 → (∀ j, j < i → j < q.length → 2 ≤ (solC rl w h (woC q j)).length) →
    ∃ P : List Cl, P.length ≤ q.length ∧ (∀ c ∈ P, c ∈ q) ∧ (solC rl w h P).length = 1 ∧ (∀ j, j < P.length → 2 ≤ (solC rl w h (woC P j)).length) ∧ Ev (fun k => spec_HarderPuzzle_l k ((rl, w, h, cl), t, q, (i : Int))) ((rl, w, h, cl), t, P) ∧ Ev (fun k => impl_HarderPuzzle_l k ((rl, w, h, cl), t, q, (i : Int))) ((rl, w, h, cl), t, P)
  | 0, i, q, hm, hq, hok, hs, hd => by
    have h0 : q.length = 0 := by omega
    exact ⟨q, Nat.le_refl _, fun c hc => hc, hs, fun j hj => by omega, Ev.step (fun k => spec_HarderPuzzle_l.eq k rl w h cl t.1 t.2.1 t.2.2.1 t.2.2.2 q (i : Int)) (Ev.no (decide_eq_false (by omega)) (Ev.now _)), Ev.step (fun k => impl_HarderPuzzle_l.eq k rl w h cl t.1 t.2.1 t.2.2.1 t.2.2.2 q (i : Int)) (Ev.no (decide_eq_false (by omega)) (Ev.now _))⟩
  | m + 1, i, q, hm, hq, hok, hs, hd => by
    by_cases hi : i < q.length
    rotate_left
    · exact ⟨q, Nat.le_refl _, fun c hc => hc, hs, fun j hj => hd j (by omega) hj, Ev.step (fun k => spec_HarderPuzzle_l.eq k rl w h cl t.1 t.2.1 t.2.2.1 t.2.2.2 q (i : Int)) (Ev.no (decide_eq_false (by omega)) (Ev.now _)), Ev.step (fun k => impl_HarderPuzzle_l.eq k rl w h cl t.1 t.2.1 t.2.2.1 t.2.2.2 q (i : Int)) (Ev.no (decide_eq_false (by omega)) (Ev.now _))⟩
    have hwl := woC_len hi
    have hsub : ∀ c ∈ woC q i, ClueOk rl (w * h) c := fun c hc => hok c (woC_mem hc)
    have wS := pzAll_ev rl w h h1 (woC q i) (by omega) hsub
    have wI := impl_Puzzle_with_ev rl w h h1 (woC q i) (by omega) hsub cl
    have pS := pzWithout_ev q (by omega) i hi
    have pI := dropped_ev q (by omega) i hi
    have sS : Ev (fun k => spec_pzSolved_2 k ((rl, w, h, cl), woC q i)) (((solC rl w h (woC q i)).length : Int) == 1) := Ev.step (fun k => spec_pzSolved_2.eq k rl w h cl (woC q i)) (Ev.bind (Ev.step (fun k => spec_pzWith_2.eq k rl w h cl (woC q i)) (Ev.now _)) (Ev.bind wS (Ev.now _)))
    have big := (solC_sub rl w h (q := q) (p := woC q i) fun c hc => woC_mem hc).length_le
    cases hc : (((solC rl w h (woC q i)).length : Int) == 1) with
    | true =>
      have hs' : (solC rl w h (woC q i)).length = 1 := by have := beq_iff_eq.1 hc; omega
      obtain ⟨P, p1, p2, p3, p4, g1, g2⟩ := hard_l_ev t m i (woC q i) (by omega) (by omega) hsub hs' (fun j hj hjl => by
        have := hd j hj (by omega)
        have s2 := (solC_sub rl w h (q := woC q j) (p := woC (woC q i) j) fun c hc => woC_two hj hi hc).length_le
        omega)
      exact ⟨P, by omega, fun c hc => woC_mem (p2 c hc), p3, p4, Ev.step (fun k => spec_HarderPuzzle_l.eq k rl w h cl t.1 t.2.1 t.2.2.1 t.2.2.2 q (i : Int)) (Ev.yes (lt_nat hi) (Ev.bind pS (Ev.bind sS (Ev.yes hc g1)))), Ev.step (fun k => impl_HarderPuzzle_l.eq k rl w h cl t.1 t.2.1 t.2.2.1 t.2.2.2 q (i : Int)) (Ev.yes (lt_nat hi) (Ev.bind pI (Ev.bind wI (Ev.yes hc g2))))⟩
    | false =>
      have hs' : (solC rl w h (woC q i)).length ≠ 1 := by have := beq_eq_false_iff_ne.1 hc; omega
      obtain ⟨P, p1, p2, p3, p4, g1, g2⟩ := hard_l_ev t m (i + 1) q (by omega) hq hok hs (fun j hj hjl => by
        by_cases e : j = i
        · subst e
          omega
        · exact hd j (by omega) hjl)
      have e1 : w64 ((i : Int) + 1) = ((i + 1 : Nat) : Int) := w64_succ (by omega)
      refine ⟨P, p1, p2, p3, p4, Ev.step (fun k => spec_HarderPuzzle_l.eq k rl w h cl t.1 t.2.1 t.2.2.1 t.2.2.2 q (i : Int)) (Ev.yes (lt_nat hi) (Ev.bind pS (Ev.bind sS (Ev.no hc ?_)))), Ev.step (fun k => impl_HarderPuzzle_l.eq k rl w h cl t.1 t.2.1 t.2.2.1 t.2.2.2 q (i : Int)) (Ev.yes (lt_nat hi) (Ev.bind pI (Ev.bind wI (Ev.no hc ?_))))⟩
      · rw [e1]; exact g1
      · rw [e1]; exact g2
end
theorem hard_ev (rl : ByteArray) (w h : Int) (cl : List Cl) (hrl : rl.size ≤ 1048576) :
    (PuzOk rl w h cl ∧ (solC rl w h cl).length = 1 → ∃ P : List Cl, P.length ≤ cl.length ∧ PuzOk rl w h P ∧ solC rl w h P = solC rl w h cl ∧ Ev (fun k => impl_HarderPuzzle k (rl, w, h, cl)) ((rl, w, h, P), true) ∧ Ev (fun k => spec_HarderPuzzle k (rl, w, h, cl)) ((rl, w, h, P), true) ∧ Ev (fun k => impl_NeedlessClues k (rl, w, h, P)) ([], true)) ∧
    (¬ (PuzOk rl w h cl ∧ (solC rl w h cl).length = 1) → Ev (fun k => impl_HarderPuzzle k (rl, w, h, cl)) (zeroP, false) ∧ Ev (fun k => spec_HarderPuzzle k (rl, w, h, cl)) (zeroP, false)) ∧
    (PuzOk rl w h cl → Ev (fun k => impl_IsSolved k (rl, w, h, cl)) (((solC rl w h cl).length : Int) == 1, true) ∧ Ev (fun k => impl_Solutions k (rl, w, h, cl)) (solC rl w h cl, true)) ∧
    (¬ PuzOk rl w h cl → Ev (fun k => impl_IsSolved k (rl, w, h, cl)) (false, false)) := by
  have cI : ∀ {v : List ByteArray} {ok : Bool}, Ev (fun k => impl_Solutions k (rl, w, h, cl)) (v, ok) → Ev (fun k => impl_IsSolved k (rl, w, h, cl)) (((v.length : Int) == 1), ok) := fun {v ok} q => Ev.step (fun k => impl_IsSolved.eq k rl w h cl) (Ev.bind (Ev.step (fun k => impl_CountSolutions.eq k rl w h cl) (Ev.bind q (Ev.now _))) (Ev.now _))
  rcases solutions_ev rl w h cl (by omega) with ⟨H, hsl, q1, q2, q3⟩ | ⟨H, q1, q2⟩
  rotate_left
  · exact ⟨fun q => absurd q.1 H, fun _ => ⟨Ev.step (fun k => impl_HarderPuzzle.eq k rl w h cl) (Ev.bind (cI q1) (Ev.yes rfl (Ev.now _))), Ev.step (fun k => spec_HarderPuzzle.eq k rl w h cl) (Ev.bind q2 (Ev.yes rfl (Ev.now _)))⟩, fun q => absurd q H, fun _ => cI q1⟩
  obtain ⟨h1, h2, h3⟩ := id H
  have sS : Ev (fun k => spec_pzSolved k ((rl, w, h, cl), ())) (((solC rl w h cl).length : Int) == 1) := Ev.step (fun k => spec_pzSolved.eq k rl w h cl) (Ev.bind (Ev.step (fun k => spec_pzWith.eq k rl w h cl) (Ev.now _)) (Ev.bind q3 (Ev.now _)))
  refine ⟨?_, ?_, fun _ => ⟨cI q1, q1⟩, fun q => absurd H q⟩
  · rintro ⟨_, hs⟩
    have hc : (((solC rl w h cl).length : Int) == 1) = true := by rw [beq_iff_eq]; omega
    obtain ⟨P, p1, p2, p3, p4, g1, g2⟩ := hard_l_ev rl w h h1 cl zeroP 100 0 cl (by omega) h2 h3 hs (fun j hj => by omega)
    have hP : PuzOk rl w h P := ⟨h1, by omega, fun c hc => h3 c (p2 c hc)⟩
    have heq : solC rl w h cl = solC rl w h P := (solC_sub rl w h p2).eq_of_length (by omega)
    have hcl : Ev (fun k => slices_Clone k cl) cl := Ev.step (fun k => (slices_Clone.eq k cl).trans (cloneB_some (s := .pair (.int .i64) (.pair (.int .i64) (.int .i64))) 24 cl (by show List.length (α := Cl) cl * 24 ≤ _; omega))) (Ev.now _)
    have needless : Ev (fun k => impl_NeedlessClues k (rl, w, h, P)) ([], true) := by
      have loop : ∀ m i : Nat, i + m = P.length → Ev (fun k => impl_NeedlessClues_l k ((rl, w, h, P), ((solC rl w h P).length : Int), [], (P.length : Int), (i : Int))) [] := by
        intro m
        induction m with
        | zero =>
          intro i hi
          exact Ev.step (fun k => impl_NeedlessClues_l.eq k rl w h P _ [] (P.length : Int) (i : Int)) (Ev.no (not_lt_nat (by omega)) (Ev.now _))
        | succ m ih =>
          intro i hi
          have hn : i < P.length := by omega
          have hwl := woC_len hn
          have wI := impl_Puzzle_with_ev rl w h h1 (woC P i) (by omega) (fun c hc => h3 c (p2 c (woC_mem hc))) P
          have pI := dropped_ev P (by omega) i hn
          have := p4 i hn
          refine Ev.step (fun k => impl_NeedlessClues_l.eq k rl w h P _ [] (P.length : Int) (i : Int)) (Ev.yes (lt_nat hn) (Ev.bind pI (Ev.bind wI (Ev.no (by rw [beq_eq_false_iff_ne]; omega) ?_))))
          rw [w64_succ (by omega)]
          exact ih (i + 1) (by omega)
      rcases solutions_ev rl w h P (by omega) with ⟨_, _, s1, _, _⟩ | ⟨hno, _⟩
      · exact Ev.step (fun k => impl_NeedlessClues.eq k rl w h P) (Ev.bind (Ev.step (fun k => impl_CountSolutions.eq k rl w h P) (Ev.bind s1 (Ev.now _))) (Ev.no rfl (Ev.bind (loop P.length 0 (by omega)) (Ev.now _))))
      · exact absurd hP hno
    exact ⟨P, p1, hP, heq.symm, Ev.step (fun k => impl_HarderPuzzle.eq k rl w h cl) (Ev.bind (cI q1) (Ev.no (by rw [hc]; rfl) (Ev.bind hcl (Ev.bind g2 (Ev.bind (Ev.step (fun k => impl_Puzzle_changed.eq k rl w h cl P) (Ev.now _)) (Ev.now _)))))),
      Ev.step (fun k => spec_HarderPuzzle.eq k rl w h cl) (Ev.bind q2 (Ev.no rfl (Ev.bind sS (Ev.no (by rw [hc]; rfl) (Ev.yes (fits_of (by omega)) (Ev.bind g1 (Ev.bind (Ev.step (fun k => spec_pzWith_2.eq k rl w h cl P) (Ev.now _)) (Ev.now _)))))))), needless⟩
  · intro hno
    have hc : (((solC rl w h cl).length : Int) == 1) = false := by
      rw [beq_eq_false_iff_ne]
      intro e
      exact hno ⟨H, by omega⟩
    exact ⟨Ev.step (fun k => impl_HarderPuzzle.eq k rl w h cl) (Ev.bind (cI q1) (Ev.yes (by rw [hc]; rfl) (Ev.now _))), Ev.step (fun k => spec_HarderPuzzle.eq k rl w h cl) (Ev.bind q2 (Ev.no rfl (Ev.bind sS (Ev.yes (by rw [hc]; rfl) (Ev.now _)))))⟩

theorem isClueS_ev (rl : ByteArray) (n : Int) (c : Cl) : EvB (fun k => spec_IsClue k (rl, n, c)) (RuleOk rl ∧ (1 ≤ n ∧ n ≤ 9) ∧ ClueOk rl n c) :=
  EvB.step (fun k => spec_IsClue.eq k rl n c.1 c.2.1 c.2.2) (EvB.and (woRuleR_ev rl) fun hR => EvB.and (l1In_ev n 1 9) fun hn => (pzClue_ev rl n c (by have := hR.1; omega) (by omega)).ret)
/-! ### How many boards -/
theorem pow_step {t N : Nat} (ht : 1 ≤ t) (h : t ^ N ≤ 300) {i : Nat} (hi : i ≤ N) : t ^ i ≤ 300 := Nat.le_trans (Nat.pow_le_pow_right ht hi) h
theorem powerV_ev (rl : ByteArray) (ht : 1 ≤ rl.size ∧ rl.size ≤ 6) (N : Nat) (hp : rl.size ^ N ≤ 300) (hN : N ≤ 100) : Ev (fun k => spec_pzPower k (rl, (N : Int))) ((rl.size ^ N : Nat) : Int) := by
  have loop : ∀ (m i : Nat), i + m = N → Ev (fun k => spec_pzPower_l k (rl, (m : Int), ((rl.size ^ i : Nat) : Int))) (.inr ((rl.size ^ N : Nat) : Int)) := by
    intro m
    induction m with
    | zero =>
      intro i hi
      obtain rfl : i = N := by omega
      exact Ev.step (fun k => spec_pzPower_l.eq k rl 0 _) (Ev.no rfl (Ev.now _))
    | succ m ih =>
      intro i hi
      have h1 := pow_step ht.1 hp (i := i) (by omega)
      have h2 := pow_step ht.1 hp (i := i + 1) (by omega)
      have e : w64 (((rl.size ^ i : Nat) : Int) * (rl.size : Int)) = ((rl.size ^ (i + 1) : Nat) : Int) := by rw [natmul, show rl.size ^ i * rl.size = rl.size ^ (i + 1) from rfl, w64_of (by omega) (by omega)]
      refine Ev.step (fun k => spec_pzPower_l.eq k rl _ _) (Ev.yes (decide_eq_true (by omega)) ?_)
      rw [e, show w64 (((m + 1 : Nat) : Int) - 1) = (m : Int) by rw [w64_of (by omega) (by omega)]; omega]
      exact Ev.no (decide_eq_false (by omega)) (ih (i + 1) (by omega))
  have := loop N 0 (by omega)
  rw [Nat.pow_zero] at this
  exact Ev.step (fun k => spec_pzPower.eq k rl (N : Int)) (Ev.bind this (Ev.now _))
theorem boardsV_ev (t : Nat) (ht : 1 ≤ t ∧ t ≤ 6) (N : Nat) (hp : t ^ N ≤ 300) (hN : N ≤ 100) : Ev (fun k => impl_boards k ((t : Int), (N : Int), 300)) ((t ^ N : Nat) : Int) := by
  have loop : ∀ (m i : Nat), i + m = N → Ev (fun k => impl_boards_l k ((t : Int), 300, ((t ^ i : Nat) : Int), (N : Int), (i : Int))) ((t ^ N : Nat) : Int) := by
    intro m
    induction m with
    | zero =>
      intro i hi
      obtain rfl : i = N := by omega
      exact Ev.step (fun k => impl_boards_l.eq k (t : Int) 300 _ _ _) (Ev.no (not_lt_nat (by omega)) (Ev.now _))
    | succ m ih =>
      intro i hi
      have h1 := pow_step ht.1 hp (i := i) (by omega)
      have h2 := pow_step ht.1 hp (i := i + 1) (by omega)
      have e : w64 (((t ^ i : Nat) : Int) * (t : Int)) = ((t ^ (i + 1) : Nat) : Int) := by rw [natmul, show t ^ i * t = t ^ (i + 1) from rfl, w64_of (by omega) (by omega)]
      refine Ev.step (fun k => impl_boards_l.eq k (t : Int) 300 _ _ _) (Ev.yes (lt_nat (by omega)) ?_)
      rw [e, show w64 (300 + 1) = 301 from rfl, if_neg (by omega), w64_succ (by omega)]
      exact ih (i + 1) (by omega)
  have := loop N 0 (by omega)
  rw [Nat.pow_zero] at this
  exact Ev.step (fun k => impl_boards.eq k (t : Int) (N : Int) 300) (Ev.bind this (Ev.now _))
theorem boardsL_ev (rl : ByteArray) (w h : Int) (H : SizeOk rl w h) (n : Int) : Ev (fun k => laws_FnBoardsHidden_l k (rl, w, h, n, 1, 0)) (n, ((rl.size ^ (w * h).toNat : Nat) : Int)) := by
  obtain ⟨hR, hw, hh, h9, hp⟩ := H
  have hm := mul_range (a := w) (b := h) (by omega) (by omega) (by omega) (by omega)
  have e64 : w64 (w * h) = (((w * h).toNat : Nat) : Int) := by rw [w64_of (by omega) (by omega)]; omega
  have hR1 := hR.1
  have loop : ∀ (m i : Nat), i + m = (w * h).toNat → Ev (fun k => laws_FnBoardsHidden_l k (rl, w, h, n, ((rl.size ^ i : Nat) : Int), (i : Int))) (n, ((rl.size ^ (w * h).toNat : Nat) : Int)) := by
    intro m
    induction m with
    | zero =>
      intro i hi
      refine Ev.step (fun k => laws_FnBoardsHidden_l.eq k rl w h n _ _) ?_
      rw [e64]
      exact Ev.no (not_lt_nat (by omega)) (Ev.now' (by rw [show i = (w * h).toNat by omega]))
    | succ m ih =>
      intro i hi
      have h1 := pow_step (by omega) hp (i := i) (by omega)
      have h2 := pow_step (by omega) hp (i := i + 1) (by omega)
      have e : w64 (((rl.size ^ i : Nat) : Int) * (rl.size : Int)) = ((rl.size ^ (i + 1) : Nat) : Int) := by rw [natmul, show rl.size ^ i * rl.size = rl.size ^ (i + 1) from rfl, w64_of (by omega) (by omega)]
      refine Ev.step (fun k => laws_FnBoardsHidden_l.eq k rl w h n _ _) ?_
      rw [e64, e, w64_succ (by omega)]
      exact Ev.yes (lt_nat (by omega)) (ih (i + 1) (by omega))
  have := loop (w * h).toNat 0 (by omega)
  rw [Nat.pow_zero] at this
  exact this
theorem countB_ev (rl : ByteArray) (w h : Int) (hrl : rl.size ≤ 1048576) : (SizeOk rl w h → Ev (fun k => impl_CountBoards k (rl, w, h)) (((rl.size ^ (w * h).toNat : Nat) : Int), true) ∧ Ev (fun k => spec_CountBoards k (rl, w, h)) (((rl.size ^ (w * h).toNat : Nat) : Int), true)) ∧
    (¬ SizeOk rl w h → Ev (fun k => impl_CountBoards k (rl, w, h)) (0, false) ∧ Ev (fun k => spec_CountBoards k (rl, w, h)) (0, false)) := by
  have sS := pzSize_ev rl w h
  have hid : EvB (fun k => impl_isHidden k (rl, w, h)) (RuleOk rl ∧ ((1 ≤ w ∧ w ≤ 9) ∧ (1 ≤ h ∧ h ≤ 9)) ∧ w * h ≤ 9) := by
    refine EvB.step (fun k => impl_isHidden.eq k rl w h) (EvB.and (isRuleR_ev rl (by omega)) fun hR => EvB.and (EvB.step (fun k => impl_isSize.eq k w h) (EvB.and (within_ev w 1 9) fun _ => (within_ev h 1 9).ret)) fun hs => ?_)
    have hm := mul_range (a := w) (b := h) (by omega) (by omega) (by omega) (by omega)
    rw [w64_of (by omega) (by omega)]
    exact EvB.val decide_eq_true_iff
  constructor
  · intro H
    obtain ⟨hR, hw, hh, h9, hp⟩ := id H
    have hm := mul_range (a := w) (b := h) (by omega) (by omega) (by omega) (by omega)
    have e64 : w64 (w * h) = (((w * h).toNat : Nat) : Int) := by rw [w64_of (by omega) (by omega)]; omega
    constructor
    · refine Ev.step (fun k => impl_CountBoards.eq k rl w h) (Ev.bind (hid.isT ⟨hR, ⟨hw, hh⟩, h9⟩) (Ev.no rfl ?_))
      rw [e64]
      exact Ev.bind (boardsV_ev rl.size hR.1 _ hp (by omega)) (Ev.no (decide_eq_false (by omega)) (Ev.now _))
    · refine Ev.step (fun k => spec_CountBoards.eq k rl w h) (Ev.bind (sS.isT H) (Ev.no rfl ?_))
      rw [e64]
      exact Ev.bind (powerV_ev rl hR.1 _ hp (by omega)) (Ev.now _)
  · intro H
    refine ⟨?_, Ev.step (fun k => spec_CountBoards.eq k rl w h) (Ev.bind (sS.isF H) (Ev.yes rfl (Ev.now _)))⟩
    by_cases hi : RuleOk rl ∧ ((1 ≤ w ∧ w ≤ 9) ∧ (1 ≤ h ∧ h ≤ 9)) ∧ w * h ≤ 9
    · obtain ⟨hR, ⟨hw, hh⟩, h9⟩ := id hi
      have hm := mul_range (a := w) (b := h) (by omega) (by omega) (by omega) (by omega)
      have e64 : w64 (w * h) = (((w * h).toNat : Nat) : Int) := by rw [w64_of (by omega) (by omega)]; omega
      obtain ⟨v, v1, v2⟩ := boards_ev rl.size (w * h).toNat hR.1 (by omega)
      refine Ev.step (fun k => impl_CountBoards.eq k rl w h) (Ev.bind (hid.isT hi) (Ev.no rfl ?_))
      rw [e64]
      have hv : ¬ v ≤ 300 := fun q => H ⟨hR, hw, hh, h9, v2.1 q⟩
      exact Ev.bind v1 (Ev.yes (decide_eq_true (by omega)) (Ev.now _))
    · exact Ev.step (fun k => impl_CountBoards.eq k rl w h) (Ev.bind (hid.isF hi) (Ev.yes rfl (Ev.now _)))
/-! ### The law's helpers -/
theorem dPuzzle_ev (p : ByteArray × Int × Int × List Cl) (hl : p.2.2.2.length ≤ 1048576) : Ev (fun k => laws_dPuzzle k (p, p)) true := by
  obtain ⟨rl, w, h, cl⟩ := p
  simp only at hl
  have loop : ∀ m i : Nat, i + m = cl.length → Ev (fun k => laws_dPuzzle_l k ((rl, w, h, cl), (rl, w, h, cl), (cl.length : Int), (i : Int))) (.inr ()) := by
    intro m
    induction m with
    | zero =>
      intro i hi
      exact Ev.step (fun k => laws_dPuzzle_l.eq k rl w h cl rl w h cl _ _) (Ev.no (not_lt_nat (by omega)) (Ev.now _))
    | succ m ih =>
      intro i hi
      refine Ev.step (fun k => laws_dPuzzle_l.eq k rl w h cl rl w h cl _ _) (Ev.yes (lt_nat (by omega)) (Ev.yes (inB_nat (by omega)) (Ev.yes (inB_nat (by omega)) (Ev.no (by simp) ?_))))
      rw [w64_succ (by omega)]
      exact ih (i + 1) (by omega)
  exact Ev.step (fun k => laws_dPuzzle.eq k rl w h cl rl w h cl) (Ev.no (sameS _) (Ev.no (neq_self _) (Ev.no (neq_self _) (Ev.no (neq_self _) (Ev.bind (loop cl.length 0 (by omega)) (Ev.now _))))))
theorem dTexts_ev (a : List ByteArray) (hl : a.length ≤ 1048576) : Ev (fun k => laws_dTexts k (a, a)) true := by
  have loop : ∀ m i : Nat, i + m = a.length → Ev (fun k => laws_dTexts_l k (a, a, (a.length : Int), (i : Int))) (.inr ()) := by
    intro m
    induction m with
    | zero =>
      intro i hi
      exact Ev.step (fun k => laws_dTexts_l.eq k a a _ _) (Ev.no (not_lt_nat (by omega)) (Ev.now _))
    | succ m ih =>
      intro i hi
      refine Ev.step (fun k => laws_dTexts_l.eq k a a _ _) (Ev.yes (lt_nat (by omega)) (Ev.yes (inB_nat (by omega)) (Ev.yes (inB_nat (by omega)) (Ev.no (sameS _) ?_))))
      rw [w64_succ (by omega)]
      exact ih (i + 1) (by omega)
  exact Ev.step (fun k => laws_dTexts.eq k a a) (Ev.no (neq_self _) (Ev.bind (loop a.length 0 (by omega)) (Ev.now _)))
theorem dText_ev (a : List ByteArray) (hl : a.length ≤ 1048576) (s : ByteArray) (hs : s ∈ a) : Ev (fun k => laws_dText k (a, s)) true := by
  have srch := Ev.search (L := fun k i => laws_dText_l k (s, a, (a.length : Int), i)) (n := a.length) (fun i => a[i]? = some s) (fun i => .inl true) (.inr ())
    (fun i hi hp r H => by
      obtain ⟨x, hx⟩ := nat_list (l := a) (i := i) hi
      refine Ev.step (fun k => laws_dText_l.eq k s a (a.length : Int) (i : Int)) (Ev.yes (lt_nat hi) (Ev.yes (inB_nat hi) ?_))
      rw [Int.toNat_natCast, getD_at hx, w64_succ (by omega)]
      refine Ev.no ?_ H
      cases e : strEq x s with
      | false => rfl
      | true => exact absurd (by rw [hx, strEq_iff.1 e]) hp)
    (fun i hi hp => by
      refine Ev.step (fun k => laws_dText_l.eq k s a (a.length : Int) (i : Int)) (Ev.yes (lt_nat hi) (Ev.yes (inB_nat hi) ?_))
      rw [Int.toNat_natCast, getD_at hp]
      exact Ev.yes (strEq_self s) (Ev.now _))
    (Ev.step (fun k => laws_dText_l.eq k s a (a.length : Int) (a.length : Int)) (Ev.no (not_lt_nat (Nat.lt_irrefl _)) (Ev.now _))) a.length 0 (by omega)
  rcases srch with ⟨h1, h2⟩ | ⟨j, _, hj, h3, _, h4⟩
  · obtain ⟨i, hi⟩ := List.mem_iff_getElem?.1 hs
    obtain ⟨hlt, _⟩ := List.getElem?_eq_some_iff.1 hi
    exact absurd hi (h1 i (by omega) hlt)
  · exact Ev.step (fun k => laws_dText.eq k a s) (Ev.bind h4 (Ev.now _))
end Go.Proofs.YtmdgodjcfhimbaaGreatDoorS
