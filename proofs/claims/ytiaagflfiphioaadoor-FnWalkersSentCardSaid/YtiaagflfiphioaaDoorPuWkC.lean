/- Lines that are filled from the middle: walkers by rotors stay balanced. -/
import Derived.Test.YtiaagflfiphioaaDoorMgRo
namespace Go.Proofs.YtiaagflfiphioaaDoorS
open Go
set_option linter.unusedVariables false
set_option linter.unusedSimpArgs false
theorem eqI_iff {x y : Int} : Sh.eqT (.int .i64) x y = true ↔ x = y := beq_iff_eq
abbrev MpB := List (Int × Bool)
abbrev getB (m : MpB) (x : Int) : Bool := mget (K := Int) (α := Bool) (Sh.eqT (.int .i64)) m x false
abbrev putB (m : MpB) (x : Int) (b : Bool) : MpB := mput (K := Int) (α := Bool) (Sh.eqT (.int .i64)) m x b
theorem get_put (y x : Int) (b : Bool) : ∀ m : MpB, getB (putB m x b) y = if y = x then b else getB m y
  | [] => by
    show cond (Sh.eqT (.int .i64) y x) b false = _
    by_cases h : y = x
    · rw [if_pos h, eqI_iff.2 h]; rfl
    · rw [if_neg h, Bool.eq_false_iff.2 fun q => h (eqI_iff.1 q)]; rfl
  | e :: m => by
    have ih := get_put y x b m
    show getB (cond (Sh.eqT (.int .i64) x e.1) ((x, b) :: m) (e :: putB m x b)) y = if y = x then b else cond (Sh.eqT (.int .i64) y e.1) e.2 (getB m y)
    by_cases h1 : x = e.1
    · rw [eqI_iff.2 h1]
      show cond (Sh.eqT (.int .i64) y x) b (getB m y) = _
      by_cases h : y = x
      · rw [if_pos h, eqI_iff.2 h]; rfl
      · rw [if_neg h, Bool.eq_false_iff.2 fun q => h (eqI_iff.1 q), Bool.eq_false_iff.2 fun q => h ((eqI_iff.1 q).trans h1.symm)]; rfl
    · rw [Bool.eq_false_iff.2 fun q => h1 (eqI_iff.1 q)]
      show cond (Sh.eqT (.int .i64) y e.1) e.2 (getB (putB m x b) y) = _
      rw [ih]
      by_cases h : y = x
      · rw [if_pos h, if_pos h, Bool.eq_false_iff.2 fun q => h1 (h.symm.trans (eqI_iff.1 q))]; rfl
      · rw [if_neg h, if_neg h]
/-! ### What is told -/
def upR (R : Nat → Bool) (q : Nat) (b : Bool) : Nat → Bool := fun i => if i = q then b else R i
def cntM (m : Nat) (R : Nat → Bool) : Int := sumI m fun i => if R i = true then 1 else 0
def potM (m : Nat) (R : Nat → Bool) : Int := sumI m fun i => if R i = true then 2 * (i : Int) else 0
def cntF (R : Nat → Bool) : Int := cntM 101 R
def potF (R : Nat → Bool) : Int := potM 101 R
theorem cntM_up (m : Nat) (R : Nat → Bool) (q : Nat) (hq : q < m) (b : Bool) : cntM m (upR R q b) = cntM m R + ((if b = true then 1 else 0) - (if R q = true then 1 else 0)) := by
  unfold cntM
  have e : ∀ i, i < m → (if upR R q b i = true then (1 : Int) else 0) = (if R i = true then 1 else 0) + (if i = q then ((if b = true then 1 else 0) - (if R q = true then 1 else 0)) else 0) := fun i _ => by
    unfold upR
    by_cases h : i = q
    · subst h; rw [if_pos rfl, if_pos rfl]; omega
    · rw [if_neg h, if_neg h]; omega
  rw [sumI_congr _ e, sumI_add, sumI_one, if_pos hq]
theorem potM_up (m : Nat) (R : Nat → Bool) (q : Nat) (hq : q < m) (b : Bool) : potM m (upR R q b) = potM m R + ((if b = true then 2 * (q : Int) else 0) - (if R q = true then 2 * (q : Int) else 0)) := by
  unfold potM
  have e : ∀ i : Nat, i < m → (if upR R q b i = true then 2 * (i : Int) else 0) = (if R i = true then 2 * (i : Int) else 0) + (if i = q then ((if b = true then 2 * (q : Int) else 0) - (if R q = true then 2 * (q : Int) else 0)) else 0) := fun i _ => by
    unfold upR
    by_cases h : i = q
    · subst h; rw [if_pos rfl, if_pos rfl]; omega
    · rw [if_neg h, if_neg h]; omega
  rw [sumI_congr _ e, sumI_add, sumI_one, if_pos hq]
theorem cnt_up (R : Nat → Bool) (q : Nat) (hq : q ≤ 100) (b : Bool) : cntF (upR R q b) = cntF R + ((if b = true then 1 else 0) - (if R q = true then 1 else 0)) := cntM_up 101 R q (by omega) b
theorem pot_up (R : Nat → Bool) (q : Nat) (hq : q ≤ 100) (b : Bool) : potF (upR R q b) = potF R + ((if b = true then 2 * (q : Int) else 0) - (if R q = true then 2 * (q : Int) else 0)) := potM_up 101 R q (by omega) b
theorem cntM_nonneg (R : Nat → Bool) : ∀ m, 0 ≤ cntM m R
  | 0 => by show (0 : Int) ≤ 0; omega
  | m + 1 => by
    have := cntM_nonneg R m
    show 0 ≤ cntM m R + (if R m = true then 1 else 0)
    split <;> omega
theorem cnt_nonneg (R : Nat → Bool) : 0 ≤ cntF R := cntM_nonneg R 101
theorem potM_nonneg (R : Nat → Bool) : ∀ m, 0 ≤ potM m R
  | 0 => by show (0 : Int) ≤ 0; omega
  | m + 1 => by
    have := potM_nonneg R m
    show 0 ≤ potM m R + (if R m = true then 2 * (m : Int) else 0)
    split <;> omega
theorem potF_nonneg (R : Nat → Bool) : 0 ≤ potF R := potM_nonneg R 101
theorem potM_le (R : Nat → Bool) : ∀ m : Nat, m ≤ 101 → potM m R ≤ 200 * (m : Int)
  | 0, _ => by show (0 : Int) ≤ 0; omega
  | m + 1, h => by
    have := potM_le R m (by omega)
    show potM m R + (if R m = true then 2 * (m : Int) else 0) ≤ _
    split <;> omega
theorem pot_le (R : Nat → Bool) : potF R ≤ 20200 := potM_le R 101 (by omega)
theorem cnt_sup (R : Nat → Bool) (L H : Nat) (hLH : L ≤ H + 1) (h : ∀ i, ¬ (L ≤ i ∧ i ≤ H) → R i = false) : cntF R ≤ (H : Int) + 1 - (L : Int) := by
  have key : ∀ m : Nat, (m ≤ L → sumI m (fun i => if R i = true then 1 else 0) ≤ 0) ∧ (L ≤ m → m ≤ H + 1 → sumI m (fun i => if R i = true then 1 else 0) ≤ (m : Int) - (L : Int)) ∧ (H + 1 ≤ m → sumI m (fun i => if R i = true then 1 else 0) ≤ (H : Int) + 1 - (L : Int)) := by
    intro m
    induction m with
    | zero =>
      have h0 : sumI 0 (fun i => if R i = true then (1 : Int) else 0) = 0 := rfl
      rw [h0]
      exact ⟨fun _ => by omega, fun _ _ => by omega, fun _ => by omega⟩
    | succ m ih =>
      obtain ⟨i1, i2, i3⟩ := ih
      have hs : sumI (m + 1) (fun i => if R i = true then (1 : Int) else 0) = sumI m (fun i => if R i = true then 1 else 0) + (if R m = true then 1 else 0) := rfl
      rw [hs]
      have hb : (if R m = true then (1 : Int) else 0) ≤ 1 := by split <;> omega
      have hz : ¬ (L ≤ m ∧ m ≤ H) → (if R m = true then (1 : Int) else 0) = 0 := fun hh => by rw [h m hh]; rfl
      refine ⟨fun h1 => ?_, fun h1 h2 => ?_, fun h1 => ?_⟩
      · have := i1 (by omega); have := hz (by omega); omega
      · by_cases h3 : L ≤ m
        · have := i2 h3 (by omega); omega
        · have := i1 (by omega); have := hz (by omega); omega
      · by_cases h3 : H + 1 ≤ m
        · have := i3 h3; have := hz (by omega); omega
        · by_cases h4 : L ≤ m
          · have := i2 h4 (by omega); omega
          · have := i1 (by omega); have := hz (by omega); omega
  have := key 101
  unfold cntF cntM
  generalize sumI 101 (fun i => if R i = true then (1 : Int) else 0) = z at this ⊢
  by_cases h1 : H + 1 ≤ 101
  · exact this.2.2 h1
  · by_cases h2 : L ≤ 101
    · have := this.2.1 h2 (by omega); omega
    · have := this.1 (by omega); omega
attribute [irreducible] cntF potF
/-! ### A walk -/
def MapIs (m : MpB) (f : Nat → Bool) : Prop := ∀ i : Nat, i ≤ 100 → getB m ((i : Int) - 50) = f i
def RowIs (l : List Bool) (f : Nat → Bool) : Prop := l.length = 101 ∧ ∀ i : Nat, i ≤ 100 → l[i]? = some (f i)
theorem MapIs.up {m : MpB} {f : Nat → Bool} (h : MapIs m f) (q : Nat) (b : Bool) : MapIs (putB m ((q : Int) - 50) b) (upR f q b) := fun i hi => by
  rw [get_put]
  unfold upR
  by_cases e : i = q
  · rw [if_pos (by omega), if_pos e]
  · rw [if_neg (by omega), if_neg e, h i hi]
theorem RowIs.up {l : List Bool} {f : Nat → Bool} (h : RowIs l f) (q : Nat) (b : Bool) : RowIs (l.set q b) (upR f q b) := by
  refine ⟨by rw [List.length_set]; exact h.1, fun i hi => ?_⟩
  unfold upR
  by_cases e : i = q
  · subst e
    rw [if_pos rfl, List.getElem?_set_self (by rw [h.1]; omega)]
  · rw [if_neg e, List.getElem?_set_ne (Ne.symm e), h.2 i hi]
def fullF (L H : Nat) : Nat → Bool := fun i => decide (L ≤ i ∧ i ≤ H)
theorem walkF_ev (L H : Nat) (hL : 5 ≤ L) (hH : H ≤ 95) (full : MpB) (fl : List Bool) (hf : MapIs full (fullF L H)) (hg : RowIs fl (fullF L H)) :
    ∀ (m : Nat) (R : Nat → Bool) (right : MpB) (rl : List Bool) (q s : Nat), MapIs right R → RowIs rl R → L ≤ q + 1 → q ≤ H + 1 → (q : Int) * (q : Int) + potF R + (m : Int) = 40000 → s + m ≤ 100000000 →
    ∃ (R' : Nat → Bool) (right' : MpB) (rl' : List Bool) (q' d : Nat), MapIs right' R' ∧ RowIs rl' R' ∧ (q' + 1 = L ∨ q' = H + 1) ∧ (∀ i, ¬ (L ≤ i ∧ i ≤ H) → R' i = R i) ∧ (q' : Int) + cntF R' = (q : Int) + cntF R ∧ (L ≤ q → q ≤ H → 1 ≤ d) ∧ d ≤ m ∧
      (∀ low high C c : Int, Ev (fun k => impl_fill_l_l k (full, right, low, high, (s : Int), (q : Int) - 50, C, c)) (full, right', low, high, ((s + d : Nat) : Int), (q' : Int) - 50, C, c)) ∧
      (∀ low' high' w : Int, Ev (fun k => spec_roFill_l_l k (w, fl, rl, low', high', (s : Int), (q : Int))) (w, fl, rl', low', high', ((s + d : Nat) : Int), (q' : Int)))
  | 0, R, right, rl, q, s, h1, h2, h3, h4, h5, h6 => by
    have := pot_le R
    have : (q : Int) * (q : Int) ≤ 96 * 96 := Int.mul_le_mul (by omega) (by omega) (by omega) (by omega)
    omega
  | m + 1, R, right, rl, q, s, h1, h2, h3, h4, h5, h6 => by
    have hq : q ≤ 100 := by omega
    have b1 : inB (q : Int) fl.length = true := inB_nat (by rw [hg.1]; omega)
    have b2 : inB (q : Int) rl.length = true := inB_nat (by rw [h2.1]; omega)
    have f1 := hf q hq
    have f2 := hg.2 q hq
    have r1 := h1 q hq
    have r2 := h2.2 q hq
    by_cases hin : L ≤ q ∧ q ≤ H
    · have e1 : fullF L H q = true := decide_eq_true hin
      rw [e1] at f1 f2
      cases hR : R q with
      | true =>
        rw [hR] at r1 r2
        have hc := cnt_up R q hq false
        have hp := pot_up R q hq false
        rw [hR] at hc hp
        simp only [if_true, Bool.false_eq_true, if_false] at hc hp
        have hsq : ((q + 1 : Nat) : Int) * ((q + 1 : Nat) : Int) = (q : Int) * (q : Int) + 2 * (q : Int) + 1 := by
          rw [Int.natCast_add, Int.add_mul, Int.mul_add]; omega
        obtain ⟨R', right', rl', q', d, g1, g2, g3, g4, g5, g6, g7, g8, g9⟩ := walkF_ev L H hL hH full fl hf hg m (upR R q false) (putB right ((q : Int) - 50) false) (rl.set q false) (q + 1) (s + 1) (h1.up q false) (h2.up q false) (by omega) (by omega) (by omega) (by omega)
        refine ⟨R', right', rl', q', d + 1, g1, g2, g3, fun i hi => ?_, by omega, fun _ _ => by omega, by omega, fun low high C c => ?_, fun low' high' w => ?_⟩
        · rw [g4 i hi]; unfold upR; rw [if_neg (show ¬ i = q from fun e => hi (by rw [e]; exact hin))]
        · refine Ev.step (fun k => impl_fill_l_l.eq k full right low high (s : Int) ((q : Int) - 50) C c) (Ev.yes f1 (Ev.bind (a := 1) ?_ ?_))
          · have r1 : mget (K := Int) (α := Bool) (Sh.eqT (.int .i64)) right ((q : Int) - 50) false = true := r1
            rw [r1]
            exact Ev.step (fun k => impl_bit.eq k true) (Ev.yes rfl (Ev.now _))
          · have r1 : mget (K := Int) (α := Bool) (Sh.eqT (.int .i64)) right ((q : Int) - 50) false = true := r1
            rw [r1, show w64 ((q : Int) - 50 + w64 (w64 (2 * 1) - 1)) = ((q + 1 : Nat) : Int) - 50 by rw [show w64 (w64 (2 * 1) - 1) = 1 from rfl, w64_of (by omega) (by omega)]; omega, w64_succ (by omega), show s + (d + 1) = s + 1 + d by omega]
            exact g8 low high C c
        · have f2' : fl.getD (q : Int).toNat default = true := by rw [Int.toNat_natCast, getD_any f2]
          have r2' : rl.getD (q : Int).toNat default = true := by rw [Int.toNat_natCast, getD_any r2]
          refine Ev.step (fun k => spec_roFill_l_l.eq k w fl rl low' high' (s : Int) (q : Int)) (Ev.yes b1 (Ev.yes f2' (Ev.yes b2 (Ev.yes r2' (Ev.yes b2 (Ev.yes b2 ?_))))))
          rw [r2', Int.toNat_natCast, w64_succ (by omega), w64_succ (by omega), show s + (d + 1) = s + 1 + d by omega]
          exact g9 low' high' w
      | false =>
        rw [hR] at r1 r2
        have hc := cnt_up R q hq true
        have hp := pot_up R q hq true
        rw [hR] at hc hp
        simp only [if_true, Bool.false_eq_true, if_false] at hc hp
        obtain ⟨p, rfl⟩ : ∃ p, q = p + 1 := ⟨q - 1, by omega⟩
        have hsq : ((p + 1 : Nat) : Int) * ((p + 1 : Nat) : Int) = (p : Int) * (p : Int) + 2 * (p : Int) + 1 := by
          rw [Int.natCast_add, Int.add_mul, Int.mul_add]; omega
        obtain ⟨R', right', rl', q', d, g1, g2, g3, g4, g5, g6, g7, g8, g9⟩ := walkF_ev L H hL hH full fl hf hg m (upR R (p + 1) true) (putB right (((p + 1 : Nat) : Int) - 50) true) (rl.set (p + 1) true) p (s + 1) (h1.up (p + 1) true) (h2.up (p + 1) true) (by omega) (by omega) (by omega) (by omega)
        refine ⟨R', right', rl', q', d + 1, g1, g2, g3, fun i hi => ?_, by omega, fun _ _ => by omega, by omega, fun low high C c => ?_, fun low' high' w => ?_⟩
        · rw [g4 i hi]; unfold upR; rw [if_neg (show ¬ i = p + 1 from fun e => hi (by rw [e]; exact hin))]
        · refine Ev.step (fun k => impl_fill_l_l.eq k full right low high (s : Int) (((p + 1 : Nat) : Int) - 50) C c) (Ev.yes f1 (Ev.bind (a := 0) ?_ ?_))
          · have r1 : mget (K := Int) (α := Bool) (Sh.eqT (.int .i64)) right (((p + 1 : Nat) : Int) - 50) false = false := r1
            rw [r1]
            exact Ev.step (fun k => impl_bit.eq k false) (Ev.no rfl (Ev.now _))
          · have r1 : mget (K := Int) (α := Bool) (Sh.eqT (.int .i64)) right (((p + 1 : Nat) : Int) - 50) false = false := r1
            rw [r1, show w64 (((p + 1 : Nat) : Int) - 50 + w64 (w64 (2 * 0) - 1)) = (p : Int) - 50 by rw [show w64 (w64 (2 * 0) - 1) = -1 from rfl, w64_of (by omega) (by omega)]; omega, w64_succ (by omega), show s + (d + 1) = s + 1 + d by omega]
            exact g8 low high C c
        · have f2' : fl.getD ((p + 1 : Nat) : Int).toNat default = true := by rw [Int.toNat_natCast, getD_any f2]
          have r2' : rl.getD ((p + 1 : Nat) : Int).toNat default = false := by rw [Int.toNat_natCast, getD_any r2]
          refine Ev.step (fun k => spec_roFill_l_l.eq k w fl rl low' high' (s : Int) ((p + 1 : Nat) : Int)) (Ev.yes b1 (Ev.yes f2' (Ev.yes b2 (Ev.no r2' (Ev.yes b2 (Ev.yes b2 ?_))))))
          rw [r2', Int.toNat_natCast, w64_succ (by omega), show w64 (((p + 1 : Nat) : Int) + -1) = (p : Int) by rw [w64_of (by omega) (by omega)]; omega, show s + (d + 1) = s + 1 + d by omega]
          exact g9 low' high' w
    · have e1 : fullF L H q = false := decide_eq_false hin
      rw [e1] at f1 f2
      have f2' : fl.getD (q : Int).toNat default = false := by rw [Int.toNat_natCast, getD_any f2]
      refine ⟨R, right, rl, q, 0, h1, h2, by omega, fun _ _ => rfl, rfl, fun _ _ => by omega, by omega, fun low high C c => ?_, fun low' high' w => ?_⟩
      · exact Ev.step (fun k => impl_fill_l_l.eq k full right low high (s : Int) ((q : Int) - 50) C c) (Ev.no f1 (Ev.now _))
      · exact Ev.step (fun k => spec_roFill_l_l.eq k w fl rl low' high' (s : Int) (q : Int)) (Ev.yes b1 (Ev.no f2' (Ev.now _)))
/-! ### Many walkers -/
def PhaseF (c L H : Nat) (R : Nat → Bool) : Prop := ∃ t, (c = 2 * t + 1 ∧ L + t = 50 ∧ H = 50 + t ∧ cntF R = 0) ∨ (1 ≤ t ∧ c = 2 * t ∧ L + t = 50 ∧ H + 1 = 50 + t ∧ cntF R = (t : Int))
def row0 : List Bool := List.replicate 101 false
def ReachF (c s L H : Nat) : Prop := ∃ (R : Nat → Bool) (full right : MpB) (fl rl : List Bool), MapIs full (fullF L H) ∧ RowIs fl (fullF L H) ∧ MapIs right R ∧ RowIs rl R ∧ (∀ i, ¬ (L ≤ i ∧ i ≤ H) → R i = false) ∧ PhaseF c L H R ∧ s ≤ 40000 * c ∧
  (∀ C : Nat, c ≤ C → C ≤ 40 → ∀ res, Ev (fun k => impl_fill_l k (full, right, (L : Int) - 50, (H : Int) - 50, (s : Int), (C : Int), (c : Int))) res → Ev (fun k => impl_fill_l k ([], [], 0, 0, 0, (C : Int), 0)) res) ∧
  (∀ C : Nat, c ≤ C → C ≤ 40 → ∀ res, Ev (fun k => spec_roFill_l k (((C - c : Nat) : Int), fl, rl, (L : Int), (H : Int), (s : Int))) res → Ev (fun k => spec_roFill_l k ((C : Int), row0, row0, 50, 50, 0)) res)
theorem full_up {L H q : Nat} (h : q + 1 = L ∨ q = H + 1) (hLH : L ≤ H + 1) : upR (fullF L H) q true = fullF (if q + 1 = L then q else L) (if q + 1 = L then H else q) := by
  funext i
  unfold upR fullF
  by_cases e : q + 1 = L
  · rw [if_pos e, if_pos e]
    by_cases hi : i = q
    · rw [if_pos hi]; exact (decide_eq_true (by omega)).symm
    · rw [if_neg hi]; exact decide_eq_decide.2 (by omega)
  · rw [if_neg e, if_neg e]
    by_cases hi : i = q
    · rw [if_pos hi]; exact (decide_eq_true (by omega)).symm
    · rw [if_neg hi]; exact decide_eq_decide.2 (by omega)
/-- One more walker. -/
theorem reach_next {c s L H : Nat} (h1 : 1 ≤ c) (hc : c < 40) (h : ReachF c s L H) : ∃ s' L' H', s < s' ∧ ReachF (c + 1) s' L' H' := by
  obtain ⟨R, full, right, fl, rl, a1, a2, a3, a4, a5, a6, a7, a8, a9⟩ := h
  obtain ⟨t, ht⟩ := a6
  have hLH : 5 ≤ L ∧ L ≤ 50 ∧ 50 ≤ H ∧ H ≤ 95 := by omega
  have hp0 : 0 ≤ potF R := potF_nonneg R
  have hp1 := pot_le R
  obtain ⟨m, hm⟩ : ∃ m : Nat, (50 : Int) * 50 + potF R + (m : Int) = 40000 := ⟨(40000 - 2500 - potF R).toNat, by omega⟩
  obtain ⟨R', right', rl', q', d, g1, g2, g3, g4, g5, g6, g7, g8, g9⟩ := walkF_ev L H hLH.1 hLH.2.2.2 full fl a1 a2 m R right rl 50 s a3 a4 (by omega) (by omega) hm (by omega)
  have ph : PhaseF (c + 1) (if q' + 1 = L then q' else L) (if q' + 1 = L then H else q') R' := by
    have n0 := cnt_nonneg R'
    have n1 := cnt_sup R' L H (by omega) fun i hi => by rw [g4 i hi]; exact a5 i hi
    rcases ht with ⟨e1, e2, e3, e4⟩ | ⟨e0, e1, e2, e3, e4⟩
    · rcases g3 with g3 | g3
      · rw [if_pos g3, if_pos g3]
        exact ⟨t + 1, .inr ⟨by omega, by omega, by omega, by omega, by omega⟩⟩
      · omega
    · rcases g3 with g3 | g3
      · omega
      · have hn : ¬ q' + 1 = L := by omega
        rw [if_neg hn, if_neg hn]
        exact ⟨t, .inl ⟨by omega, by omega, by omega, by omega⟩⟩
  have hq : q' ≤ 100 := by omega
  have d1 := g6 (by omega) (by omega)
  have b1 : inB (q' : Int) fl.length = true := inB_nat (by rw [a2.1]; omega)
  have lo : (if (q' : Int) - 50 < (L : Int) - 50 then (q' : Int) - 50 else (L : Int) - 50) = ((if q' + 1 = L then q' else L : Nat) : Int) - 50 := by split <;> split <;> omega
  have hi : (if (q' : Int) - 50 > (H : Int) - 50 then (q' : Int) - 50 else (H : Int) - 50) = ((if q' + 1 = L then H else q' : Nat) : Int) - 50 := by split <;> split <;> omega
  have lo2 : Ev (fun k => spec_l1Least k ((L : Int), (q' : Int))) ((if q' + 1 = L then q' else L : Nat) : Int) := by
    refine Ev.step (fun k => spec_l1Least.eq k (L : Int) (q' : Int)) (Ev.cond (fun h => Ev.now' ?_) fun h => Ev.now' ?_)
    · have := of_decide_eq_true h; rw [if_neg (by omega)]
    · have := of_decide_eq_false h; split <;> omega
  have hi2 : Ev (fun k => spec_l1Most k ((H : Int), (q' : Int))) ((if q' + 1 = L then H else q' : Nat) : Int) := by
    refine Ev.step (fun k => spec_l1Most.eq k (H : Int) (q' : Int)) (Ev.cond (fun h => Ev.now' ?_) fun h => Ev.now' ?_)
    · have := of_decide_eq_true h; rw [if_pos (by omega)]
    · have := of_decide_eq_false h; split <;> omega
  refine ⟨s + d, _, _, by omega, R', putB full ((q' : Int) - 50) true, right', fl.set q' true, rl', full_up g3 (by omega) ▸ a1.up q' true, full_up g3 (by omega) ▸ a2.up q' true, g1, g2, fun i hi => ?_, ph, by omega, fun C h1 h2 res Hr => a8 C (by omega) h2 res ?_, fun C h1 h2 res Hr => a9 C (by omega) h2 res ?_⟩
  · rw [g4 i (fun e => hi (by refine ⟨?_, ?_⟩ <;> split <;> omega))]
    exact a5 i fun e => hi (by refine ⟨?_, ?_⟩ <;> split <;> omega)
  · refine Ev.step (fun k => impl_fill_l.eq k full right ((L : Int) - 50) ((H : Int) - 50) (s : Int) (C : Int) (c : Int)) (Ev.yes (decide_eq_true (by omega)) (Ev.bind (g8 ((L : Int) - 50) ((H : Int) - 50) (C : Int) (c : Int)) ?_))
    simp only [lo, hi]
    rw [w64_succ (by omega)]
    exact Hr
  · refine Ev.step (fun k => spec_roFill_l.eq k ((C - c : Nat) : Int) fl rl (L : Int) (H : Int) (s : Int)) (Ev.yes (decide_eq_true (by omega)) (Ev.bind (g9 (L : Int) (H : Int) ((C - c : Nat) : Int)) (Ev.yes b1 (Ev.bind lo2 (Ev.bind hi2 ?_)))))
    have ew : w64 (((C - c : Nat) : Int) - 1) = ((C - (c + 1) : Nat) : Int) := by rw [w64_of (by omega) (by omega)]; omega
    simp only [ew, Int.toNat_natCast]
    exact Hr
theorem reach_one : ReachF 1 0 50 50 := by
  have f0 : ∀ i : Nat, i ≤ 100 → row0[i]? = some false := fun i hi => by unfold row0; rw [List.getElem?_replicate, if_pos (by omega)]
  have e50 : upR (fun _ => false) 50 true = fullF 50 50 := by
    funext i
    unfold upR fullF
    by_cases h : i = 50
    · rw [if_pos h]; exact (decide_eq_true (by omega)).symm
    · rw [if_neg h]; exact (decide_eq_false (by omega)).symm
  have r0 : RowIs row0 (fun _ => false) := ⟨rfl, f0⟩
  have m0 : MapIs [] (fun _ => false) := fun i _ => rfl
  have c0 : cntF (fun _ => false) = 0 := by
    have h1 := cnt_nonneg (fun _ => false)
    have h2 := cnt_sup (fun _ => false) 1 0 (by omega) fun _ _ => rfl
    omega
  refine ⟨fun _ => false, putB [] ((50 : Nat) - 50 : Int) true, [], row0.set 50 true, row0, e50 ▸ m0.up 50 true, e50 ▸ r0.up 50 true, m0, r0, fun _ _ => rfl, ⟨0, .inl ⟨by omega, by omega, by omega, c0⟩⟩, by omega, fun C h1 h2 res Hr => ?_, fun C h1 h2 res Hr => ?_⟩
  · exact Ev.step (fun k => impl_fill_l.eq k [] [] 0 0 0 (C : Int) 0) (Ev.yes (decide_eq_true (by omega)) (Ev.bind (Ev.step (fun k => impl_fill_l_l.eq k [] [] 0 0 0 0 (C : Int) 0) (Ev.no rfl (Ev.now _))) Hr))
  · have ew : w64 ((C : Int) - 1) = ((C - 1 : Nat) : Int) := by rw [w64_of (by omega) (by omega)]; omega
    have g0 : row0.getD (50 : Int).toNat default = false := rfl
    have b0 : inB 50 row0.length = true := rfl
    refine Ev.step (fun k => spec_roFill_l.eq k (C : Int) row0 row0 50 50 0) (Ev.yes (decide_eq_true (by omega)) (Ev.bind (Ev.step (fun k => spec_roFill_l_l.eq k (C : Int) row0 row0 50 50 0 50) (Ev.yes b0 (Ev.no g0 (Ev.now _)))) (Ev.yes b0 (Ev.bind (a := 50) (Ev.step (fun k => spec_l1Least.eq k 50 50) (Ev.no rfl (Ev.now _))) (Ev.bind (a := 50) (Ev.step (fun k => spec_l1Most.eq k 50 50) (Ev.no rfl (Ev.now _))) ?_)))))
    simp only [ew]
    exact Hr
theorem reach_all : ∀ c : Nat, c < 40 → ∃ s L H, ReachF (c + 1) s L H ∧ (c ≠ 0 → ∃ s' L' H', ReachF c s' L' H' ∧ s' < s)
  | 0, _ => ⟨0, 50, 50, reach_one, fun h => absurd rfl h⟩
  | c + 1, h => by
    obtain ⟨s, L, H, h1, _⟩ := reach_all c (by omega)
    obtain ⟨s', L', H', h2, h3⟩ := reach_next (by omega) h h1
    exact ⟨s', L', H', h3, fun _ => ⟨s, L, H, h1, h2⟩⟩
/-- What is told of so many walkers. -/
theorem fill_ev {c s L H : Nat} (hc : 1 ≤ c ∧ c ≤ 40) (h : ReachF c s L H) : Ev (fun k => impl_fill k (c : Int)) ((L : Int) - 50, (H : Int) - 50, (s : Int)) ∧ Ev (fun k => spec_roFill k (c : Int)) ((L : Int) - 50, (H : Int) - 50, (s : Int)) ∧
    ((H : Int) - (L : Int) + 1 = (c : Int) ∧ (L : Int) + (H : Int) - 100 ≤ 1 ∧ -1 ≤ (L : Int) + (H : Int) - 100 ∧ L ≤ 50 ∧ 50 ≤ H ∧ 10 ≤ L ∧ H ≤ 90) := by
  obtain ⟨R, full, right, fl, rl, a1, a2, a3, a4, a5, ⟨t, a6⟩, a7, a8, a9⟩ := h
  have hb : 10 ≤ L ∧ H ≤ 90 ∧ L ≤ 50 ∧ 50 ≤ H := by omega
  have i := a8 c (by omega) hc.2 _ (Ev.step (fun k => impl_fill_l.eq k full right ((L : Int) - 50) ((H : Int) - 50) (s : Int) (c : Int) (c : Int)) (Ev.no (not_lt_nat (Nat.lt_irrefl _)) (Ev.now _)))
  have j := a9 c (by omega) hc.2 _ (Ev.step (fun k => spec_roFill_l.eq k ((c - c : Nat) : Int) fl rl (L : Int) (H : Int) (s : Int)) (Ev.no (decide_eq_false (by omega)) (Ev.now _)))
  have f1 : fits 101 1 = true := rfl
  refine ⟨Ev.step (fun k => impl_fill.eq k (c : Int)) (Ev.bind i (Ev.now _)), Ev.step (fun k => spec_roFill.eq k (c : Int)) (Ev.yes f1 (Ev.yes f1 (Ev.bind j (Ev.now' ?_)))), by omega, by omega, by omega, by omega, by omega, by omega, by omega⟩
  rw [w64_of (n := (L : Int) - 50) (by omega) (by omega), w64_of (n := (H : Int) - 50) (by omega) (by omega)]
end Go.Proofs.YtiaagflfiphioaaDoorS
