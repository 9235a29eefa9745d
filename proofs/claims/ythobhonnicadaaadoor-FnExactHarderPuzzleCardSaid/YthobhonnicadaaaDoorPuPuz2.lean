/- All boards of digits; those that fit all clues, told twice. -/
import Derived.Test.YthobhonnicadaaaDoorPuPuz1
import Derived.Test.YthobhonnicadaaaDoorPuSize
namespace Go.Proofs.YthobhonnicadaaaDoorS
open Go
set_option linter.unusedVariables false
set_option linter.unusedSimpArgs false

/-! ### Digits in breadth -/
theorem ext_at {t c : Nat} {s : ByteArray} (h : c < t) : (extD t s)[c]? = some (s ++ ofBytes [48 + (c : Int)]) := by
  unfold extD
  rw [List.getElem?_map, List.getElem?_range h]
  rfl
theorem dig64 {c : Nat} (h : c < 10) : w8 (w64 (48 + (c : Int))) = 48 + (c : Int) := by rw [w64_of (by omega) (by omega), w8_of (by omega) (by omega)]
theorem digits3_ev (t : Nat) (ht : t ≤ 9) (s : ByteArray) (hs : s.size ≤ 100) (t11 t12 : Int) (t15 : List ByteArray) (t16 t17 : Int) : ∀ (m c : Nat) (next : List ByteArray), c + m = t → next.length + m ≤ 100000 →
    Ev (fun k => impl_digits_l_l_l k ((t : Int), next, s, t11, t12, t15, t16, t17, (t : Int), (c : Int))) ((t : Int), next ++ (extD t s).drop c, t11, t12, t15, t16, t17)
  | 0, c, next, h, hn => Ev.step (fun k => impl_digits_l_l_l.eq k (t : Int) next s t11 t12 t15 t16 t17 (t : Int) (c : Int)) (Ev.no (not_lt_nat (by omega)) (Ev.now' (by rw [List.drop_of_length_le (by rw [ext_len]; omega), List.append_nil])))
  | m + 1, c, next, h, hn => by
    have hx := ext_at (t := t) (c := c) (s := s) (by omega)
    obtain ⟨hlt, he⟩ := List.getElem?_eq_some_iff.1 hx
    refine Ev.step (fun k => impl_digits_l_l_l.eq k (t : Int) next s t11 t12 t15 t16 t17 (t : Int) (c : Int)) (Ev.yes (lt_nat (by omega)) ?_)
    rw [dig64 (by omega), w64_succ (by omega), List.drop_eq_getElem_cons hlt, he]
    have := digits3_ev t ht s hs t11 t12 t15 t16 t17 m (c + 1) (next ++ [s ++ ofBytes [48 + (c : Int)]]) (by omega) (by simp; omega)
    rw [List.append_assoc] at this
    exact Ev.yes (fitS_of (by show s.size + 1 < _; omega)) (Ev.yes (fits_of (by omega)) this)
theorem digits2_ev (t : Nat) (ht : t ≤ 9) (t11 t12 : Int) (out : List ByteArray) (ho : ∀ s ∈ out, s.size ≤ 100) (hl : out.length ≤ 1000) : ∀ (m i : Nat) (next : List ByteArray), i + m = out.length → next.length + m * 9 ≤ 100000 →
    Ev (fun k => impl_digits_l_l k ((t : Int), next, t11, t12, out, (out.length : Int), (i : Int))) ((t : Int), next ++ (out.drop i).flatMap (extD t), t11, t12)
  | 0, i, next, h, hn => Ev.step (fun k => impl_digits_l_l.eq k (t : Int) next t11 t12 out (out.length : Int) (i : Int)) (Ev.no (not_lt_nat (by omega)) (Ev.now' (by rw [List.drop_of_length_le (by omega)]; simp)))
  | m + 1, i, next, h, hn => by
    obtain ⟨s, hx⟩ := nat_list (l := out) (i := i) (by omega)
    obtain ⟨hlt, he⟩ := List.getElem?_eq_some_iff.1 hx
    have h3 := digits3_ev t ht s (ho s (List.mem_of_getElem? hx)) t11 t12 out (out.length : Int) (i : Int) t 0 next (by omega) (by omega)
    rw [List.drop_zero] at h3
    refine Ev.step (fun k => impl_digits_l_l.eq k (t : Int) next t11 t12 out (out.length : Int) (i : Int)) (Ev.yes (lt_nat (by omega)) (Ev.yes (inB_nat (by omega)) ?_))
    rw [Int.toNat_natCast, getD_at hx]
    refine Ev.bind h3 ?_
    have := digits2_ev t ht t11 t12 out ho hl m (i + 1) (next ++ extD t s) (by omega) (by rw [List.length_append, ext_len]; omega)
    rw [List.append_assoc] at this
    rw [List.drop_eq_getElem_cons hlt, he, List.flatMap_cons]
    show Ev (fun k => impl_digits_l_l k ((t : Int), next ++ extD t s, t11, t12, out, (out.length : Int), w64 ((i : Int) + 1))) _
    rw [w64_succ (by omega)]
    exact this
theorem digits_ev (t N : Nat) (ht : 1 ≤ t ∧ t ≤ 6) (hN : N ≤ 9) (hp : t ^ N ≤ 300) : Ev (fun k => impl_digits k ((t : Int), (N : Int))) (allD t N) := by
  have loop : ∀ (m i : Nat), i + m = N → Ev (fun k => impl_digits_l k ((t : Int), allD t i, (N : Int), (i : Int))) (allD t N) := by
    intro m
    induction m with
    | zero =>
      intro i hi
      obtain rfl : i = N := by omega
      exact Ev.step (fun k => impl_digits_l.eq k (t : Int) (allD t i) (i : Int) (i : Int)) (Ev.no (not_lt_nat (by omega)) (Ev.now _))
    | succ m ih =>
      intro i hi
      have hle : t ^ i ≤ 300 := Nat.le_trans (pow_le_pow ht.1 (by omega)) hp
      have hlen : (allD t i).length ≤ 300 := by rw [allD_len]; exact hle
      have h2 := digits2_ev t (by omega) (N : Int) (i : Int) (allD t i) (fun s hs => by have := (allD_ok (by omega) i s hs).1; omega) (by omega) (allD t i).length 0 [] (by omega) (by simp; omega)
      rw [List.drop_zero, List.nil_append] at h2
      refine Ev.step (fun k => impl_digits_l.eq k (t : Int) (allD t i) (N : Int) (i : Int)) (Ev.yes (lt_nat (by omega)) (Ev.bind h2 ?_))
      show Ev (fun k => impl_digits_l k ((t : Int), allD t (i + 1), (N : Int), w64 ((i : Int) + 1))) _
      rw [w64_succ (by omega)]
      exact ih (i + 1) (by omega)
  exact Ev.step (fun k => impl_digits.eq k (t : Int) (N : Int)) (Ev.bind (loop N 0 (by omega)) (Ev.now _))
/-! ### Which boards fit -/
open Classical in
noncomputable def keepC (rl : ByteArray) (w h : Int) (cl : List Cl) (s : ByteArray) : Bool := decide (∀ c ∈ cl, Fit c (rl, w, h, s, 0, 0, 0))
open Classical in
theorem keepC_iff {rl : ByteArray} {w h : Int} {cl : List Cl} {s : ByteArray} : keepC rl w h cl s = true ↔ ∀ c ∈ cl, Fit c (rl, w, h, s, 0, 0, 0) := by
  unfold keepC
  exact decide_eq_true_iff
theorem board_ok {rl : ByteArray} {w h : Int} (H : SizeOk rl w h) {s : ByteArray} (hs : (s.size : Int) = w * h) (hc : CellsOk (rl.size : Int) s) : WorldOk rl w h s 0 0 0 := by
  obtain ⟨hR, hw, hh, _⟩ := H
  exact ⟨hR, hw, hh, hs, hc, by omega, by omega, by omega⟩
theorem lookD_len (t : Nat) : ∀ (m : Nat) (s : ByteArray), (lookD t m s).length = t ^ m
  | 0, s => rfl
  | m + 1, s => by
    show ((extD t s).flatMap (lookD t m)).length = _
    rw [List.length_flatMap]
    have : (extD t s).map (fun a => (lookD t m a).length) = List.replicate (extD t s).length (t ^ m) := by
      rw [List.eq_replicate_iff]
      refine ⟨by simp, fun b hb => ?_⟩
      obtain ⟨a, _, rfl⟩ := List.mem_map.1 hb
      exact lookD_len t m a
    rw [this, List.sum_replicate_nat, ext_len, Nat.pow_succ, Nat.mul_comm]
section
variable (rl : ByteArray) (w h : Int) (H : SizeOk rl w h) (cl : List Cl) (hl : cl.length ≤ 6) (hcl : ∀ c ∈ cl, ClueOk rl (w * h) c)
include H hl hcl
/-- One board: fits it all clues? The reference's way. -/
theorem lookFits_ev (s : ByteArray) (hs : (s.size : Int) = w * h) (hc : CellsOk (rl.size : Int) s) (out : List ByteArray) : (keepC rl w h cl s = true ∧ Ev (fun k => spec_pzLook_l k (s, out, (rl, w, h, s, 0, 0, 0), cl, (cl.length : Int), 0, ())) (.inr (s, out, ()))) ∨
    (keepC rl w h cl s = false ∧ Ev (fun k => spec_pzLook_l k (s, out, (rl, w, h, s, 0, 0, 0), cl, (cl.length : Int), 0, ())) (.inl out)) := by
  have W := board_ok H hs hc
  have step : ∀ (i : Nat) (c : Cl), cl[i]? = some c → ∀ r, Ev (fun k => (spec_pzFits k (c, (rl, w, h, s, 0, 0, 0))).bind fun r1 => cond (!r1) (some (.inl out)) (spec_pzLook_l k (s, out, (rl, w, h, s, 0, 0, 0), cl, (cl.length : Int), w64 ((i : Int) + 1), ()))) r → Ev (fun k => spec_pzLook_l k (s, out, (rl, w, h, s, 0, 0, 0), cl, (cl.length : Int), (i : Int), ())) r := fun i c hx r Hr => by
    have hi := (List.getElem?_eq_some_iff.1 hx).1
    exact Ev.step (fun k => spec_pzLook_l.eq k s out rl w h s 0 0 0 cl (cl.length : Int) (i : Int)) (Ev.yes (lt_nat hi) (Ev.yes (inB_nat hi) (by rw [Int.toNat_natCast, getD_at hx]; exact Hr)))
  have srch := Ev.search (L := fun k i => spec_pzLook_l k (s, out, (rl, w, h, s, 0, 0, 0), cl, (cl.length : Int), i, ())) (n := cl.length) (fun i => ∃ c, cl[i]? = some c ∧ ¬ Fit c (rl, w, h, s, 0, 0, 0)) (fun i => .inl out) (.inr (s, out, ()))
    (fun i hi hp r Hr => by
      obtain ⟨c, hx⟩ := nat_list hi
      have hf : Fit c (rl, w, h, s, 0, 0, 0) := Classical.byContradiction fun hn => hp ⟨c, hx, hn⟩
      exact step i c hx r (Ev.bind ((fits_ev rl w h s 0 0 0 W c (hcl c (List.mem_of_getElem? hx))).2.isT hf) (Ev.no rfl (by rw [w64_succ (by omega)]; exact Hr))))
    (fun i hi hp => by
      obtain ⟨c, hx, hn⟩ := hp
      exact step i c hx _ (Ev.bind ((fits_ev rl w h s 0 0 0 W c (hcl c (List.mem_of_getElem? hx))).2.isF hn) (Ev.yes rfl (Ev.now _))))
    (Ev.step (fun k => spec_pzLook_l.eq k s out rl w h s 0 0 0 cl (cl.length : Int) (cl.length : Int)) (Ev.no (not_lt_nat (Nat.lt_irrefl _)) (Ev.now _))) cl.length 0 (by omega)
  rcases srch with ⟨h1, h2⟩ | ⟨j, _, hj, ⟨c, hx, hn⟩, _, h2⟩
  · refine .inl ⟨keepC_iff.2 fun c hm => ?_, h2⟩
    obtain ⟨i, hi⟩ := List.mem_iff_getElem?.1 hm
    exact Classical.byContradiction fun hn => h1 i (Nat.zero_le _) (List.getElem?_eq_some_iff.1 hi).1 ⟨c, hi, hn⟩
  · refine .inr ⟨?_, h2⟩
    cases hk : keepC rl w h cl s with
    | false => rfl
    | true => exact absurd (keepC_iff.1 hk c (List.mem_of_getElem? hx)) hn
theorem look_ev : ∀ (m : Nat) (s : ByteArray) (out : List ByteArray), (s.size : Int) + m = w * h → CellsOk (rl.size : Int) s → out.length + rl.size ^ m ≤ 1000 →
    Ev (fun k => spec_pzLook k ((rl, w, h, cl), s, out)) ((), out ++ (lookD rl.size m s).filter (keepC rl w h cl)) := by
  have hR := H.1
  have hw := H.2.1
  have hh := H.2.2.1
  have hwh := H.2.2.2.1
  have hm := mul_range (a := w) (b := h) (by omega) (by omega) (by omega) (by omega)
  have e64 : w64 (w * h) = w * h := w64_of (by omega) (by omega)
  intro m
  induction m with
  | zero =>
    intro s out hs hc ho
    have hs' : (s.size : Int) = w * h := by omega
    refine Ev.step (fun k => spec_pzLook.eq k rl w h cl s out) ?_
    rw [e64]
    refine Ev.yes (beq_iff_eq.2 hs') ?_
    have hld : lookD rl.size 0 s = [s] := rfl
    rw [hld]
    rcases lookFits_ev rl w h H cl hl hcl s hs' hc out with ⟨k1, k2⟩ | ⟨k1, k2⟩
    · rw [show [s].filter (keepC rl w h cl) = [s] by simp [k1]]
      exact Ev.bind k2 (Ev.yes (fits_of (by show (out.length + 1) * 16 < _; omega)) (Ev.now _))
    · rw [show [s].filter (keepC rl w h cl) = [] by simp [k1], List.append_nil]
      exact Ev.bind k2 (Ev.now _)
  | succ m ih =>
    intro s out hs hc ho
    have hne : ((s.size : Int) == w * h) = false := by rw [beq_eq_false_iff_ne]; omega
    refine Ev.step (fun k => spec_pzLook.eq k rl w h cl s out) ?_
    rw [e64]
    refine Ev.no hne ?_
    have loop : ∀ (j c : Nat) (out : List ByteArray), c + j = rl.size → out.length + j * rl.size ^ m ≤ 1000 → Ev (fun k => spec_pzLook_l_2 k (s, out, (rl, w, h, cl), (rl.size : Int), (c : Int), ())) (out ++ (((extD rl.size s).drop c).flatMap (lookD rl.size m)).filter (keepC rl w h cl)) := by
      intro j
      induction j with
      | zero =>
        intro c out hc' ho
        exact Ev.step (fun k => spec_pzLook_l_2.eq k s out rl w h cl (rl.size : Int) (c : Int)) (Ev.no (not_lt_nat (by omega)) (Ev.now' (by rw [List.drop_of_length_le (by rw [ext_len]; omega)]; simp)))
      | succ j ihj =>
        intro c out hc' ho
        rw [Nat.succ_mul] at ho
        have hx := ext_at (t := rl.size) (c := c) (s := s) (by omega)
        obtain ⟨hlt, he⟩ := List.getElem?_eq_some_iff.1 hx
        have h6 := hR.1.2
        have h1 := ih (s ++ ofBytes [48 + (c : Int)]) out (by rw [digit_size]; omega) (cells_digit hc (by omega) (by omega)) (by omega)
        have hfl := List.length_filter_le (keepC rl w h cl) (lookD rl.size m (s ++ ofBytes [48 + (c : Int)]))
        rw [lookD_len] at hfl
        have h2 := ihj (c + 1) (out ++ (lookD rl.size m (s ++ ofBytes [48 + (c : Int)])).filter (keepC rl w h cl)) (by omega) (by rw [List.length_append]; omega)
        refine Ev.step (fun k => spec_pzLook_l_2.eq k s out rl w h cl (rl.size : Int) (c : Int)) (Ev.yes (lt_nat (by omega)) (Ev.bind (l1Num_ev (c : Int) (by omega)) (Ev.yes (fitS_of (by show s.size + 1 < _; omega)) (Ev.bind h1 ?_))))
        rw [w64_succ (by omega), List.drop_eq_getElem_cons hlt, he, List.flatMap_cons, List.filter_append, ← List.append_assoc]
        exact h2
    have := loop rl.size 0 out (by omega) (by rw [Nat.pow_succ, Nat.mul_comm] at ho; exact ho)
    rw [List.drop_zero] at this
    exact Ev.bind this (Ev.now _)
noncomputable def solC (rl : ByteArray) (w h : Int) (cl : List Cl) : List ByteArray := (allD rl.size (w * h).toNat).filter (keepC rl w h cl)
theorem pzAll_ev : Ev (fun k => spec_pzAll k (rl, w, h, cl)) (solC rl w h cl) := by
  have hm := mul_range (a := w) (b := h) (by have := H.2.1; omega) (by have := H.2.1; omega) (by have := H.2.2.1; omega) (by have := H.2.2.1; omega)
  have := look_ev rl w h H cl hl hcl (w * h).toNat ByteArray.empty [] (by show (0 : Int) + _ = _; omega) (fun c hc => by cases hc) (by have := H.2.2.2.2; simp; omega)
  rw [List.nil_append, look_empty] at this
  exact Ev.step (fun k => spec_pzAll.eq k rl w h cl) (Ev.bind this (Ev.now _))
/-- One board: is it taken out? The program's way. -/
theorem taken_ev (s : ByteArray) (hs : (s.size : Int) = w * h) (hc : CellsOk (rl.size : Int) s) : EvB (fun k => slices_ContainsFunc_2 k (cl, (rl, w, h, s, 0, 0, 0))) (¬ keepC rl w h cl s = true) := by
  have W := board_ok H hs hc
  have test : ∀ c ∈ cl, EvB (fun k => impl_Puzzle_with_1_1 k (c, (rl, w, h, s, 0, 0, 0))) (¬ Fit c (rl, w, h, s, 0, 0, 0)) := fun c hm =>
    EvB.step (fun k => impl_Puzzle_with_1_1.eq k c.1 c.2.1 c.2.2 rl w h s 0 0 0) (fits_ev rl w h s 0 0 0 W c (hcl c hm)).1.neg
  have step : ∀ (i : Nat) (c : Cl), cl[i]? = some c → ∀ r, Ev (fun k => (impl_Puzzle_with_1_1 k (c, (rl, w, h, s, 0, 0, 0))).bind fun r1 => cond r1 (some (.inl (i : Int))) (slices_IndexFunc_3_l k (cl, (rl, w, h, s, 0, 0, 0), (cl.length : Int), w64 ((i : Int) + 1)))) r → Ev (fun k => slices_IndexFunc_3_l k (cl, (rl, w, h, s, 0, 0, 0), (cl.length : Int), (i : Int))) r := fun i c hx r Hr => by
    have hi := (List.getElem?_eq_some_iff.1 hx).1
    exact Ev.step (fun k => slices_IndexFunc_3_l.eq k cl rl w h s 0 0 0 (cl.length : Int) (i : Int)) (Ev.yes (lt_nat hi) (Ev.yes (inB_nat hi) (by rw [Int.toNat_natCast, getD_at hx]; exact Hr)))
  have srch := Ev.search (L := fun k i => slices_IndexFunc_3_l k (cl, (rl, w, h, s, 0, 0, 0), (cl.length : Int), i)) (n := cl.length) (fun i => ∃ c, cl[i]? = some c ∧ ¬ Fit c (rl, w, h, s, 0, 0, 0)) (fun i => .inl (i : Int)) (.inr ())
    (fun i hi hp r Hr => by
      obtain ⟨c, hx⟩ := nat_list hi
      have hf : Fit c (rl, w, h, s, 0, 0, 0) := Classical.byContradiction fun hn => hp ⟨c, hx, hn⟩
      exact step i c hx r (Ev.bind ((test c (List.mem_of_getElem? hx)).isF fun q => q hf) (Ev.no rfl (by rw [w64_succ (by omega)]; exact Hr))))
    (fun i hi hp => by
      obtain ⟨c, hx, hn⟩ := hp
      exact step i c hx _ (Ev.bind ((test c (List.mem_of_getElem? hx)).isT hn) (Ev.yes rfl (Ev.now _))))
    (Ev.step (fun k => slices_IndexFunc_3_l.eq k cl rl w h s 0 0 0 (cl.length : Int) (cl.length : Int)) (Ev.no (not_lt_nat (Nat.lt_irrefl _)) (Ev.now _))) cl.length 0 (by omega)
  have go : ∀ r, Ev (fun k => (slices_IndexFunc_3_l k (cl, (rl, w, h, s, 0, 0, 0), (cl.length : Int), ((0 : Nat) : Int))).bind fun r1 => r1.elim (fun r2 => some r2) (fun r3 => some (-1))) r → Ev (fun k => slices_ContainsFunc_2 k (cl, (rl, w, h, s, 0, 0, 0))) (decide (r ≥ 0)) := fun r Hr =>
    Ev.step (fun k => slices_ContainsFunc_2.eq k cl rl w h s 0 0 0) (Ev.bind (Ev.step (fun k => slices_IndexFunc_3.eq k cl rl w h s 0 0 0) Hr) (Ev.now _))
  rcases srch with ⟨h1, h2⟩ | ⟨j, _, hj, ⟨c, hx, hn⟩, _, h2⟩
  · refine ⟨_, go _ (Ev.bind h2 (Ev.now _)), ⟨fun h => by simp at h, fun h => absurd (keepC_iff.2 fun c hm => ?_) h⟩⟩
    obtain ⟨i, hi⟩ := List.mem_iff_getElem?.1 hm
    exact Classical.byContradiction fun hn => h1 i (Nat.zero_le _) (List.getElem?_eq_some_iff.1 hi).1 ⟨c, hi, hn⟩
  · exact ⟨_, go _ (Ev.bind h2 (Ev.now _)), ⟨fun _ h => hn (keepC_iff.1 h c (List.mem_of_getElem? hx)), fun _ => decide_eq_true (by omega)⟩⟩
theorem impl_Puzzle_with_ev (pc : List Cl) : Ev (fun k => impl_Puzzle_with_2 k ((rl, w, h, pc), cl)) (solC rl w h cl) := by
  have hm := mul_range (a := w) (b := h) (by have := H.2.1; omega) (by have := H.2.1; omega) (by have := H.2.2.1; omega) (by have := H.2.2.1; omega)
  have e64 : w64 (w * h) = (((w * h).toNat : Nat) : Int) := by rw [w64_of (by omega) (by omega)]; omega
  have hd := digits_ev rl.size (w * h).toNat H.1.1 (by have := H.2.2.2.1; omega) H.2.2.2.2
  have hall : ∀ s ∈ allD rl.size (w * h).toNat, (s.size : Int) = w * h ∧ CellsOk (rl.size : Int) s := fun s hs => by
    have := allD_ok (t := rl.size) (by have := H.1.1; omega) _ s hs
    exact ⟨by omega, this.2⟩
  have hlen : (allD rl.size (w * h).toNat).length ≤ 300 := by rw [allD_len]; exact H.2.2.2.2
  unfold solC
  generalize allD rl.size (w * h).toNat = l at hd hall hlen
  have test : ∀ s ∈ l, EvB (fun k => impl_Puzzle_with_1_2 k (s, (rl, w, h, pc), cl)) (¬ keepC rl w h cl s = true) := fun s hs =>
    EvB.step (fun k => impl_Puzzle_with_1_2.eq k s rl w h pc cl) (taken_ev rl w h H cl hl hcl s (hall s hs).1 (hall s hs).2).ret
  have kf : ∀ {s : ByteArray}, ¬ keepC rl w h cl s = true → keepC rl w h cl s = false := fun {s} hn => by
    cases hk : keepC rl w h cl s with
    | false => rfl
    | true => exact absurd hk hn
  have step : ∀ (i : Nat) (x : ByteArray), l[i]? = some x → ∀ r, Ev (fun k => (impl_Puzzle_with_1_2 k (x, (rl, w, h, pc), cl)).bind fun r1 => cond r1 (some (.inl (i : Int))) (slices_IndexFunc_4_l k (l, ((rl, w, h, pc), cl), (l.length : Int), w64 ((i : Int) + 1)))) r → Ev (fun k => slices_IndexFunc_4_l k (l, ((rl, w, h, pc), cl), (l.length : Int), (i : Int))) r := fun i x hx r Hr => by
    have hi := (List.getElem?_eq_some_iff.1 hx).1
    exact Ev.step (fun k => slices_IndexFunc_4_l.eq k l rl w h pc cl (l.length : Int) (i : Int)) (Ev.yes (lt_nat hi) (Ev.yes (inB_nat hi) (by rw [Int.toNat_natCast, getD_at hx]; exact Hr)))
  have srch := Ev.search (L := fun k i => slices_IndexFunc_4_l k (l, ((rl, w, h, pc), cl), (l.length : Int), i)) (n := l.length) (fun i => ∃ x, l[i]? = some x ∧ ¬ keepC rl w h cl x = true) (fun i => .inl (i : Int)) (.inr ())
    (fun i hi hp r Hr => by
      obtain ⟨x, hx⟩ := nat_list hi
      have hk : keepC rl w h cl x = true := Classical.byContradiction fun hn => hp ⟨x, hx, hn⟩
      exact step i x hx r (Ev.bind ((test x (List.mem_of_getElem? hx)).isF fun q => q hk) (Ev.no rfl (by rw [w64_succ (by omega)]; exact Hr))))
    (fun i hi hp => by
      obtain ⟨x, hx, hn⟩ := hp
      exact step i x hx _ (Ev.bind ((test x (List.mem_of_getElem? hx)).isT hn) (Ev.yes rfl (Ev.now _))))
    (Ev.step (fun k => slices_IndexFunc_4_l.eq k l rl w h pc cl (l.length : Int) (l.length : Int)) (Ev.no (not_lt_nat (Nat.lt_irrefl _)) (Ev.now _))) l.length 0 (by omega)
  have goI : ∀ r, Ev (fun k => (slices_IndexFunc_4_l k (l, ((rl, w, h, pc), cl), (l.length : Int), ((0 : Nat) : Int))).bind fun r1 => r1.elim (fun r2 => some r2) (fun r3 => some (-1))) r → Ev (fun k => slices_IndexFunc_4 k (l, ((rl, w, h, pc), cl))) r := fun r Hr => Ev.step (fun k => slices_IndexFunc_4.eq k l rl w h pc cl) Hr
  suffices hdel : Ev (fun k => slices_DeleteFunc_2 k (l, ((rl, w, h, pc), cl))) (l.filter (keepC rl w h cl)) by
    refine Ev.step (fun k => impl_Puzzle_with_2.eq k rl w h pc cl) ?_
    rw [e64]
    exact Ev.bind hd (Ev.bind hdel (Ev.now _))
  rcases srch with ⟨h1, h2⟩ | ⟨i, _, hi, ⟨x, hx, hn⟩, h1, h2⟩
  · rw [filter_all fun s hs => Classical.byContradiction fun hn => by
      obtain ⟨i, hi⟩ := List.mem_iff_getElem?.1 hs
      exact h1 i (Nat.zero_le _) (List.getElem?_eq_some_iff.1 hi).1 ⟨s, hi, hn⟩]
    exact Ev.step (fun k => slices_DeleteFunc_2.eq k l rl w h pc cl) (Ev.bind (goI _ (Ev.bind h2 (Ev.now _))) (Ev.yes rfl (Ev.now _)))
  · have F0 : Filt (keepC rl w h cl) l l i (i + 1) := Filt.first hx (kf hn) fun m y hm hy => Classical.byContradiction fun hk => h1 m (Nat.zero_le _) hm ⟨y, hy, hk⟩
    have loop : ∀ (m : Nat) (s : List ByteArray) (i j : Nat), Filt (keepC rl w h cl) l s i j → j + m = l.length → ∃ (s' : List ByteArray) (i' : Nat), Ev (fun k => slices_DeleteFunc_2_l k (s, ((rl, w, h, pc), cl), (i : Int), (j : Int))) (s', (i' : Int)) ∧ Filt (keepC rl w h cl) l s' i' l.length := by
      intro m
      induction m with
      | zero =>
        intro s i j F hj
        obtain rfl : j = l.length := by omega
        exact ⟨s, i, Ev.step (fun k => slices_DeleteFunc_2_l.eq k s rl w h pc cl (i : Int) (l.length : Int)) (Ev.no (decide_eq_false (by rw [F.len]; omega)) (Ev.now _)), F⟩
      | succ m ih =>
        intro s i j F hj
        obtain ⟨x, hx⟩ := nat_list (l := l) (i := j) (by omega)
        have hsx : s[j]? = some x := F.get.trans hx
        have hle := F.le
        have hlen' := F.len
        have go : ∀ r, Ev (fun k => (impl_Puzzle_with_1_2 k (x, (rl, w, h, pc), cl)).bind fun r1 => cond (!r1) (cond (inB (i : Int) s.length) (slices_DeleteFunc_2_l k (s.set i x, ((rl, w, h, pc), cl), w64 ((i : Int) + 1), w64 ((j : Int) + 1))) none) (slices_DeleteFunc_2_l k (s, ((rl, w, h, pc), cl), (i : Int), w64 ((j : Int) + 1)))) r → Ev (fun k => slices_DeleteFunc_2_l k (s, ((rl, w, h, pc), cl), (i : Int), (j : Int))) r := fun r Hr =>
          Ev.step (fun k => slices_DeleteFunc_2_l.eq k s rl w h pc cl (i : Int) (j : Int)) (Ev.yes (lt_nat (by omega)) (Ev.yes (inB_nat (by omega)) (by rw [Int.toNat_natCast, Int.toNat_natCast, getD_at hsx]; exact Hr)))
        rw [w64_succ (by omega), w64_succ (by omega)] at go
        cases hk : keepC rl w h cl x with
        | true =>
          obtain ⟨s', i', e1, e2⟩ := ih (s.set i x) (i + 1) (j + 1) (F.keep hx hk) (by omega)
          exact ⟨s', i', go _ (Ev.bind ((test x (List.mem_of_getElem? hx)).isF fun q => q hk) (Ev.yes rfl (Ev.yes (inB_nat (by omega)) e1))), e2⟩
        | false =>
          obtain ⟨s', i', e1, e2⟩ := ih s i (j + 1) (F.skip hx hk) (by omega)
          exact ⟨s', i', go _ (Ev.bind ((test x (List.mem_of_getElem? hx)).isT (by rw [hk]; exact nofun)) (Ev.no rfl e1)), e2⟩
    obtain ⟨s', i', e1, e2⟩ := loop (l.length - (i + 1)) l i (i + 1) F0 (by omega)
    have hle := e2.le
    have hlen' := e2.len
    refine Ev.step (fun k => slices_DeleteFunc_2.eq k l rl w h pc cl) (Ev.bind (goI _ (Ev.bind h2 (Ev.now _))) (Ev.no (by rw [beq_eq_false_iff_ne]; omega) ?_))
    rw [w64_succ (by omega)]
    refine Ev.bind e1 ?_
    simp only [Int.toNat_natCast]
    refine Ev.yes (by rw [decide_eq_true (by omega), decide_eq_true (by omega)]; rfl) (Ev.yes ?_ (Ev.now' ?_))
    · rw [decide_eq_true (by omega), decide_eq_true (by simp; omega)]
      rfl
    · rw [← e2.done, List.append_assoc, List.take_append_of_le_length (by simp; omega), List.take_take, Nat.min_self]
theorem impl_Puzzle_with_2_ev : Ev (fun k => impl_Puzzle_with k ((rl, w, h, cl), ())) (solC rl w h cl) := by
  have hm := mul_range (a := w) (b := h) (by have := H.2.1; omega) (by have := H.2.1; omega) (by have := H.2.2.1; omega) (by have := H.2.2.1; omega)
  have e64 : w64 (w * h) = (((w * h).toNat : Nat) : Int) := by rw [w64_of (by omega) (by omega)]; omega
  have hd := digits_ev rl.size (w * h).toNat H.1.1 (by have := H.2.2.2.1; omega) H.2.2.2.2
  have hall : ∀ s ∈ allD rl.size (w * h).toNat, (s.size : Int) = w * h ∧ CellsOk (rl.size : Int) s := fun s hs => by
    have := allD_ok (t := rl.size) (by have := H.1.1; omega) _ s hs
    exact ⟨by omega, this.2⟩
  have hlen : (allD rl.size (w * h).toNat).length ≤ 300 := by rw [allD_len]; exact H.2.2.2.2
  unfold solC
  generalize allD rl.size (w * h).toNat = l at hd hall hlen
  have test : ∀ s ∈ l, EvB (fun k => impl_Puzzle_with_1 k (s, (rl, w, h, cl), ())) (¬ keepC rl w h cl s = true) := fun s hs =>
    EvB.step (fun k => impl_Puzzle_with_1.eq k s rl w h cl ) (taken_ev rl w h H cl hl hcl s (hall s hs).1 (hall s hs).2).ret
  have kf : ∀ {s : ByteArray}, ¬ keepC rl w h cl s = true → keepC rl w h cl s = false := fun {s} hn => by
    cases hk : keepC rl w h cl s with
    | false => rfl
    | true => exact absurd hk hn
  have step : ∀ (i : Nat) (x : ByteArray), l[i]? = some x → ∀ r, Ev (fun k => (impl_Puzzle_with_1 k (x, (rl, w, h, cl), ())).bind fun r1 => cond r1 (some (.inl (i : Int))) (slices_IndexFunc_2_l k (l, ((rl, w, h, cl), ()), (l.length : Int), w64 ((i : Int) + 1)))) r → Ev (fun k => slices_IndexFunc_2_l k (l, ((rl, w, h, cl), ()), (l.length : Int), (i : Int))) r := fun i x hx r Hr => by
    have hi := (List.getElem?_eq_some_iff.1 hx).1
    exact Ev.step (fun k => slices_IndexFunc_2_l.eq k l rl w h cl  (l.length : Int) (i : Int)) (Ev.yes (lt_nat hi) (Ev.yes (inB_nat hi) (by rw [Int.toNat_natCast, getD_at hx]; exact Hr)))
  have srch := Ev.search (L := fun k i => slices_IndexFunc_2_l k (l, ((rl, w, h, cl), ()), (l.length : Int), i)) (n := l.length) (fun i => ∃ x, l[i]? = some x ∧ ¬ keepC rl w h cl x = true) (fun i => .inl (i : Int)) (.inr ())
    (fun i hi hp r Hr => by
      obtain ⟨x, hx⟩ := nat_list hi
      have hk : keepC rl w h cl x = true := Classical.byContradiction fun hn => hp ⟨x, hx, hn⟩
      exact step i x hx r (Ev.bind ((test x (List.mem_of_getElem? hx)).isF fun q => q hk) (Ev.no rfl (by rw [w64_succ (by omega)]; exact Hr))))
    (fun i hi hp => by
      obtain ⟨x, hx, hn⟩ := hp
      exact step i x hx _ (Ev.bind ((test x (List.mem_of_getElem? hx)).isT hn) (Ev.yes rfl (Ev.now _))))
    (Ev.step (fun k => slices_IndexFunc_2_l.eq k l rl w h cl  (l.length : Int) (l.length : Int)) (Ev.no (not_lt_nat (Nat.lt_irrefl _)) (Ev.now _))) l.length 0 (by omega)
  have goI : ∀ r, Ev (fun k => (slices_IndexFunc_2_l k (l, ((rl, w, h, cl), ()), (l.length : Int), ((0 : Nat) : Int))).bind fun r1 => r1.elim (fun r2 => some r2) (fun r3 => some (-1))) r → Ev (fun k => slices_IndexFunc_2 k (l, ((rl, w, h, cl), ()))) r := fun r Hr => Ev.step (fun k => slices_IndexFunc_2.eq k l rl w h cl ) Hr
  suffices hdel : Ev (fun k => slices_DeleteFunc k (l, ((rl, w, h, cl), ()))) (l.filter (keepC rl w h cl)) by
    refine Ev.step (fun k => impl_Puzzle_with.eq k rl w h cl ) ?_
    rw [e64]
    exact Ev.bind hd (Ev.bind hdel (Ev.now _))
  rcases srch with ⟨h1, h2⟩ | ⟨i, _, hi, ⟨x, hx, hn⟩, h1, h2⟩
  · rw [filter_all fun s hs => Classical.byContradiction fun hn => by
      obtain ⟨i, hi⟩ := List.mem_iff_getElem?.1 hs
      exact h1 i (Nat.zero_le _) (List.getElem?_eq_some_iff.1 hi).1 ⟨s, hi, hn⟩]
    exact Ev.step (fun k => slices_DeleteFunc.eq k l rl w h cl ) (Ev.bind (goI _ (Ev.bind h2 (Ev.now _))) (Ev.yes rfl (Ev.now _)))
  · have F0 : Filt (keepC rl w h cl) l l i (i + 1) := Filt.first hx (kf hn) fun m y hm hy => Classical.byContradiction fun hk => h1 m (Nat.zero_le _) hm ⟨y, hy, hk⟩
    have loop : ∀ (m : Nat) (s : List ByteArray) (i j : Nat), Filt (keepC rl w h cl) l s i j → j + m = l.length → ∃ (s' : List ByteArray) (i' : Nat), Ev (fun k => slices_DeleteFunc_l k (s, ((rl, w, h, cl), ()), (i : Int), (j : Int))) (s', (i' : Int)) ∧ Filt (keepC rl w h cl) l s' i' l.length := by
      intro m
      induction m with
      | zero =>
        intro s i j F hj
        obtain rfl : j = l.length := by omega
        exact ⟨s, i, Ev.step (fun k => slices_DeleteFunc_l.eq k s rl w h cl  (i : Int) (l.length : Int)) (Ev.no (decide_eq_false (by rw [F.len]; omega)) (Ev.now _)), F⟩
      | succ m ih =>
        intro s i j F hj
        obtain ⟨x, hx⟩ := nat_list (l := l) (i := j) (by omega)
        have hsx : s[j]? = some x := F.get.trans hx
        have hle := F.le
        have hlen' := F.len
        have go : ∀ r, Ev (fun k => (impl_Puzzle_with_1 k (x, (rl, w, h, cl), ())).bind fun r1 => cond (!r1) (cond (inB (i : Int) s.length) (slices_DeleteFunc_l k (s.set i x, ((rl, w, h, cl), ()), w64 ((i : Int) + 1), w64 ((j : Int) + 1))) none) (slices_DeleteFunc_l k (s, ((rl, w, h, cl), ()), (i : Int), w64 ((j : Int) + 1)))) r → Ev (fun k => slices_DeleteFunc_l k (s, ((rl, w, h, cl), ()), (i : Int), (j : Int))) r := fun r Hr =>
          Ev.step (fun k => slices_DeleteFunc_l.eq k s rl w h cl  (i : Int) (j : Int)) (Ev.yes (lt_nat (by omega)) (Ev.yes (inB_nat (by omega)) (by rw [Int.toNat_natCast, Int.toNat_natCast, getD_at hsx]; exact Hr)))
        rw [w64_succ (by omega), w64_succ (by omega)] at go
        cases hk : keepC rl w h cl x with
        | true =>
          obtain ⟨s', i', e1, e2⟩ := ih (s.set i x) (i + 1) (j + 1) (F.keep hx hk) (by omega)
          exact ⟨s', i', go _ (Ev.bind ((test x (List.mem_of_getElem? hx)).isF fun q => q hk) (Ev.yes rfl (Ev.yes (inB_nat (by omega)) e1))), e2⟩
        | false =>
          obtain ⟨s', i', e1, e2⟩ := ih s i (j + 1) (F.skip hx hk) (by omega)
          exact ⟨s', i', go _ (Ev.bind ((test x (List.mem_of_getElem? hx)).isT (by rw [hk]; exact nofun)) (Ev.no rfl e1)), e2⟩
    obtain ⟨s', i', e1, e2⟩ := loop (l.length - (i + 1)) l i (i + 1) F0 (by omega)
    have hle := e2.le
    have hlen' := e2.len
    refine Ev.step (fun k => slices_DeleteFunc.eq k l rl w h cl ) (Ev.bind (goI _ (Ev.bind h2 (Ev.now _))) (Ev.no (by rw [beq_eq_false_iff_ne]; omega) ?_))
    rw [w64_succ (by omega)]
    refine Ev.bind e1 ?_
    simp only [Int.toNat_natCast]
    refine Ev.yes (by rw [decide_eq_true (by omega), decide_eq_true (by omega)]; rfl) (Ev.yes ?_ (Ev.now' ?_))
    · rw [decide_eq_true (by omega), decide_eq_true (by simp; omega)]
      rfl
    · rw [← e2.done, List.append_assoc, List.take_append_of_le_length (by simp; omega), List.take_take, Nat.min_self]
end
end Go.Proofs.YthobhonnicadaaaDoorS
