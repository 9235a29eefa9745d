/- Several texts in one: PuPlainF, PuPlainG, PuPlainH, PuPlainI, PuPlainJ, PuPlainK. -/
import Derived.Test.YtplamonjnlgomaaGreatDoorPuPlain2
import Derived.Test.YtplamonjnlgomaaGreatDoorPuAfter
import Derived.Test.YtplamonjnlgomaaGreatDoorPuCur
import Derived.Test.YtplamonjnlgomaaGreatDoorPuRuleDraw
namespace Go.Proofs.YtplamonjnlgomaaGreatDoorS
open Go
set_option linter.unusedVariables false
set_option linter.unusedSimpArgs false

abbrev PlS : Type := List Sp × Int × Int × Int
instance (a b : Sp) : Decidable (Less a b) := by unfold Less; infer_instance
def befS (x y : Int) (s : Sp) : Bool := decide (Less s (x, (y, 0)))
def aftS (x y : Int) (s : Sp) : Bool := decide (Less (x, (y, 0)) s)
def atS (x y : Int) (s : Sp) : Bool := s.1 == x && s.2.1 == y
def colF (x y : Int) (sp : List Sp) : Int := match sp.find? (atS x y) with
  | some s => s.2.2
  | none => 0
def paintF (x y p : Int) (sp : List Sp) : List Sp := sp.filter (befS x y) ++ ((if 0 < p then [(x, (y, p))] else []) ++ sp.filter (aftS x y))
theorem bef_aft {x y : Int} {s : Sp} (h : befS x y s = true) : aftS x y s = false := by
  have := of_decide_eq_true h
  refine decide_eq_false fun h' => ?_
  unfold Less at this h'
  simp only at this h'
  omega
theorem aft_bef {x y : Int} {s : Sp} (h : aftS x y s = true) : befS x y s = false := by
  have := of_decide_eq_true h
  refine decide_eq_false fun h' => ?_
  unfold Less at this h'
  simp only at this h'
  omega
theorem at_iff {x y : Int} {s : Sp} : atS x y s = true ↔ s.1 = x ∧ s.2.1 = y := by unfold atS; rw [Bool.and_eq_true, beq_iff_eq, beq_iff_eq]
theorem at_not {x y : Int} {s : Sp} (h : atS x y s = true) : befS x y s = false ∧ aftS x y s = false := by
  obtain ⟨h1, h2⟩ := at_iff.1 h
  constructor <;> refine decide_eq_false fun h' => ?_ <;> (unfold Less at h'; simp only at h'; omega)
theorem filter_none {α : Type} {p : α → Bool} {l : List α} (h : ∀ x ∈ l, p x = false) : l.filter p = [] := List.filter_eq_nil_iff.2 fun x hx => by rw [h x hx]; exact Bool.false_ne_true
theorem paint_paint (x y p q : Int) (sp : List Sp) : paintF x y q (paintF x y p sp) = paintF x y q sp := by
  have m1 : ∀ s ∈ (if 0 < p then [(x, (y, p))] else ([] : List Sp)), befS x y s = false ∧ aftS x y s = false := fun s hs => by
    split at hs
    · have : s = (x, (y, p)) := by simpa using hs
      subst this
      exact at_not (at_iff.2 ⟨rfl, rfl⟩)
    · cases hs
  have e1 : (paintF x y p sp).filter (befS x y) = sp.filter (befS x y) := by
    unfold paintF
    rw [List.filter_append, List.filter_append, List.filter_filter, filter_none fun s hs => (m1 s hs).1, List.filter_filter, filter_none (p := fun a => befS x y a && aftS x y a) fun s _ => by
      cases h : befS x y s with
      | true => rw [bef_aft h]; rfl
      | false => rfl]
    simp
  have e2 : (paintF x y p sp).filter (aftS x y) = sp.filter (aftS x y) := by
    unfold paintF
    rw [List.filter_append, List.filter_append, List.filter_filter, filter_none fun s hs => (m1 s hs).2, List.filter_filter, filter_none (p := fun a => aftS x y a && befS x y a) fun s _ => by
      cases h : aftS x y s with
      | true => rw [aft_bef h]; rfl
      | false => rfl]
    simp
  show (paintF x y p sp).filter (befS x y) ++ (_ ++ (paintF x y p sp).filter (aftS x y)) = _
  rw [e1, e2]
  rfl
theorem find_none {x y : Int} {l : List Sp} (h : ∀ s ∈ l, atS x y s = false) : l.find? (atS x y) = none := List.find?_eq_none.2 fun s hs => by rw [h s hs]; exact Bool.false_ne_true
theorem col_paint (x y p : Int) (hp : 0 ≤ p) (sp : List Sp) : colF x y (paintF x y p sp) = p := by
  have f1 : (sp.filter (befS x y)).find? (atS x y) = none := find_none fun s hs => by
    cases h : atS x y s with
    | false => rfl
    | true => have := (List.mem_filter.1 hs).2; rw [(at_not h).1] at this; cases this
  have f2 : (sp.filter (aftS x y)).find? (atS x y) = none := find_none fun s hs => by
    cases h : atS x y s with
    | false => rfl
    | true => have := (List.mem_filter.1 hs).2; rw [(at_not h).2] at this; cases this
  unfold colF paintF
  rw [List.find?_append, f1, Option.none_or, List.find?_append, f2]
  by_cases h0 : 0 < p
  · rw [if_pos h0]
    have : atS x y (x, (y, p)) = true := at_iff.2 ⟨rfl, rfl⟩
    rw [List.find?_cons_of_pos this]
    rfl
  · rw [if_neg h0]
    show (0 : Int) = p
    omega
theorem cut_paint {x y : Int} {A B : List Sp} (C : Cut x y A B) (p : Int) : paintF x y p (A ++ B) = paintL x y p A B := by
  have a1 : A.filter (befS x y) = A := List.filter_eq_self.2 fun s hs => decide_eq_true (C.lo s hs)
  have a2 : A.filter (aftS x y) = [] := filter_none fun s hs => bef_aft (decide_eq_true (C.lo s hs))
  have b1 : B.filter (befS x y) = [] := filter_none fun s hs => decide_eq_false (C.hi s hs)
  have r : ∀ s ∈ restB x y B, aftS x y s = true := fun s hs => decide_eq_true (C.rest s hs)
  have b2 : B.filter (aftS x y) = restB x y B := by
    cases B with
    | nil => rfl
    | cons s B =>
      cases hi : isAt x y (s :: B) with
      | true =>
        have hr : restB x y (s :: B) = B := by unfold restB; rw [hi, if_pos rfl]; rfl
        rw [hr] at r ⊢
        have : aftS x y s = false := (at_not hi).2
        rw [List.filter_cons_of_neg (by rw [this]; exact Bool.false_ne_true)]
        exact List.filter_eq_self.2 r
      | false =>
        have hr : restB x y (s :: B) = s :: B := by unfold restB; rw [hi, if_neg Bool.false_ne_true]
        rw [hr] at r ⊢
        exact List.filter_eq_self.2 r
  unfold paintF paintL
  rw [List.filter_append, List.filter_append, a1, a2, b1, b2, List.append_nil, List.nil_append]
theorem cut_col {x y : Int} {A B : List Sp} (C : Cut x y A B) : colF x y (A ++ B) = colB x y B := by
  have f1 : A.find? (atS x y) = none := find_none fun s hs => by
    cases h : atS x y s with
    | false => rfl
    | true =>
      have h1 := (at_not h).1
      rw [show befS x y s = true from decide_eq_true (C.lo s hs)] at h1
      cases h1
  unfold colF
  rw [List.find?_append, f1, Option.none_or]
  cases B with
  | nil => rfl
  | cons s B =>
    cases hi : isAt x y (s :: B) with
    | true =>
      rw [List.find?_cons_of_pos (show atS x y s = true from hi), colB_cons, hi, if_pos rfl]
    | false =>
      rw [List.find?_cons_of_neg (show ¬ atS x y s = true by rw [show atS x y s = false from hi]; exact Bool.false_ne_true), colB_cons, hi, if_neg Bool.false_ne_true]
      have hr : restB x y (s :: B) = s :: B := by unfold restB; rw [hi, if_neg Bool.false_ne_true]
      have r := C.rest
      rw [hr] at r
      rw [find_none fun t ht => by
        cases h : atS x y t with
        | false => rfl
        | true =>
          have h2 := (at_not h).2
          rw [show aftS x y t = true from decide_eq_true (r t (List.mem_cons_of_mem _ ht))] at h2
          cases h2]
theorem paint_same {t x y : Int} {sp : List Sp} (h : SpotsOk t sp) : paintF x y (colF x y sp) sp = sp := by
  obtain ⟨A, B, rfl, C⟩ := cut_ex x y h.2
  rw [cut_col C, cut_paint C]
  unfold paintL
  congr 1
  cases B with
  | nil => rfl
  | cons s B =>
    rw [colB_cons]
    unfold restB
    cases hi : isAt x y (s :: B) with
    | true =>
      have hs := (h.1 s (by simp)).2
      obtain ⟨h1, h2⟩ := at_iff.1 (show atS x y s = true from hi)
      rw [if_pos rfl, if_pos rfl, if_pos (by omega)]
      show (x, (y, s.2.2)) :: B = s :: B
      rw [← h1, ← h2]
    | false =>
      rw [if_neg Bool.false_ne_true, if_neg Bool.false_ne_true, if_neg (by omega)]
      rfl
theorem col_range {t x y : Int} {sp : List Sp} (ht : 1 ≤ t) (h : SpotsOk t sp) : 0 ≤ colF x y sp ∧ colF x y sp ≤ t - 1 := by
  obtain ⟨A, B, rfl, C⟩ := cut_ex x y h.2
  rw [cut_col C]
  exact Cut.range (x := x) (y := y) ht h.1
theorem paint_ok {t x y p : Int} {sp : List Sp} (h : SpotsOk t sp) (hq : Far x ∧ Far y) (hp : 0 ≤ p ∧ p ≤ t - 1) : SpotsOk t (paintF x y p sp) := by
  obtain ⟨A, B, rfl, C⟩ := cut_ex x y h.2
  rw [cut_paint C]
  exact paint_spots C h.1 hq hp
theorem paintF_len {t x y p : Int} {sp : List Sp} (h : SpotsOk t sp) : (paintF x y p sp).length ≤ sp.length + 1 := by
  obtain ⟨A, B, rfl, C⟩ := cut_ex x y h.2
  rw [cut_paint C]
  unfold paintL
  have t1 := restB_len x y B
  have t2 : (if 0 < p then [(x, (y, p))] else ([] : List Sp)).length ≤ 1 := by split <;> simp
  rw [List.length_append, List.length_append, List.length_append]
  omega
/-! ### Steps -/
def OkP (rl : ByteArray) (S : PlS) : Prop := PlainOk rl S.1 S.2.1 S.2.2.1 S.2.2.2
def hereF (S : PlS) : Int := colF S.2.1 S.2.2.1 S.1
def signF (rl : ByteArray) (S : PlS) : UInt8 := rl.data.toList.getD (hereF S).toNat 0
def turnF (wy : Int) (z : UInt8) : Int := (wy + quartersB (z.toNat : Int)) % 4
def stepF (rl : ByteArray) (S : PlS) : PlS :=
  (paintF S.2.1 S.2.2.1 ((hereF S + 1) % (rl.size : Int)) S.1, S.2.1 + dxW (turnF S.2.2.2 (signF rl S)), S.2.2.1 + dyW (turnF S.2.2.2 (signF rl S)), turnF S.2.2.2 (signF rl S))
def wasX (S : PlS) : Int := S.2.1 - dxW S.2.2.2
def wasY (S : PlS) : Int := S.2.2.1 - dyW S.2.2.2
def wasC (rl : ByteArray) (S : PlS) : Int := (colF (wasX S) (wasY S) S.1 - 1) % (rl.size : Int)
def backF (rl : ByteArray) (S : PlS) : PlS :=
  (paintF (wasX S) (wasY S) (wasC rl S) S.1, wasX S, wasY S, (S.2.2.2 - quartersB ((rl.data.toList.getD (wasC rl S).toNat 0).toNat : Int)) % 4)
theorem mod_back {v n : Int} (h : 0 ≤ v ∧ v ≤ n - 1) : ((v + 1) % n - 1) % n = v ∧ ((v - 1) % n + 1) % n = v := by
  constructor
  · by_cases e : v = n - 1
    · rw [show v + 1 = n by omega, Int.emod_self, show (0 : Int) - 1 = (n - 1) + n * (-1) by omega, Int.add_mul_emod_self_left, Int.emod_eq_of_lt (by omega) (by omega)]
      omega
    · rw [Int.emod_eq_of_lt (a := v + 1) (by omega) (by omega), show v + 1 - 1 = v by omega, Int.emod_eq_of_lt (by omega) (by omega)]
  · by_cases e : v = 0
    · subst e
      rw [show (0 : Int) - 1 = (n - 1) + n * (-1) by omega, Int.add_mul_emod_self_left, Int.emod_eq_of_lt (a := n - 1) (by omega) (by omega), show n - 1 + 1 = n by omega, Int.emod_self]
    · rw [Int.emod_eq_of_lt (a := v - 1) (by omega) (by omega), show v - 1 + 1 = v by omega, Int.emod_eq_of_lt (by omega) (by omega)]
theorem back_stepF (rl : ByteArray) (S : PlS) (H : OkP rl S) : backF rl (stepF rl S) = S := by
  obtain ⟨sp, x, y, wy⟩ := S
  obtain ⟨hR, hl, hq, hw, hS⟩ := H
  simp only at hR hl hq hw hS
  have hR1 := hR.1
  have hc := col_range (x := x) (y := y) (show (1 : Int) ≤ (rl.size : Int) by omega) hS
  have n1 := Int.emod_nonneg (colF x y sp + 1) (show (rl.size : Int) ≠ 0 by omega)
  have ex : wasX (stepF rl (sp, x, y, wy)) = x := by
    show x + dxW (turnF wy (signF rl (sp, x, y, wy))) - dxW (turnF wy (signF rl (sp, x, y, wy))) = x
    omega
  have ey : wasY (stepF rl (sp, x, y, wy)) = y := by
    show y + dyW (turnF wy (signF rl (sp, x, y, wy))) - dyW (turnF wy (signF rl (sp, x, y, wy))) = y
    omega
  have es : (stepF rl (sp, x, y, wy)).1 = paintF x y ((colF x y sp + 1) % (rl.size : Int)) sp := rfl
  have ec : wasC rl (stepF rl (sp, x, y, wy)) = colF x y sp := by
    unfold wasC
    rw [ex, ey, es, col_paint x y _ n1, (mod_back hc).1]
  unfold backF
  rw [ex, ey, ec, es, paint_paint, paint_same hS]
  have ez : rl.data.toList.getD (colF x y sp).toNat 0 = signF rl (sp, x, y, wy) := rfl
  rw [ez]
  obtain ⟨q0, q3⟩ := quartersB_range ((signF rl (sp, x, y, wy)).toNat : Int)
  have ew : ((stepF rl (sp, x, y, wy)).2.2.2 - quartersB ((signF rl (sp, x, y, wy)).toNat : Int)) % 4 = wy := by
    show ((wy + quartersB ((signF rl (sp, x, y, wy)).toNat : Int)) % 4 - quartersB ((signF rl (sp, x, y, wy)).toNat : Int)) % 4 = wy
    omega
  rw [ew]
theorem step_backF (rl : ByteArray) (S : PlS) (H : OkP rl S) : stepF rl (backF rl S) = S := by
  obtain ⟨hR, hl, hq, hw, hS⟩ := H
  have hR1 := hR.1
  have hc := col_range (x := wasX S) (y := wasY S) (show (1 : Int) ≤ (rl.size : Int) by omega) hS
  have n0 : 0 ≤ wasC rl S := Int.emod_nonneg _ (show (rl.size : Int) ≠ 0 by omega)
  have eh : hereF (backF rl S) = wasC rl S := col_paint _ _ _ n0 _
  have ez : signF rl (backF rl S) = rl.data.toList.getD (wasC rl S).toNat 0 := by unfold signF; rw [eh]
  obtain ⟨q0, q3⟩ := quartersB_range ((rl.data.toList.getD (wasC rl S).toNat 0).toNat : Int)
  have et : turnF (backF rl S).2.2.2 (signF rl (backF rl S)) = S.2.2.2 := by
    rw [ez]
    show ((S.2.2.2 - quartersB ((rl.data.toList.getD (wasC rl S).toNat 0).toNat : Int)) % 4 + quartersB ((rl.data.toList.getD (wasC rl S).toNat 0).toNat : Int)) % 4 = S.2.2.2
    omega
  unfold stepF
  rw [et, eh]
  have e1 : paintF (backF rl S).2.1 (backF rl S).2.2.1 ((wasC rl S + 1) % (rl.size : Int)) (backF rl S).1 = S.1 := by
    show paintF (wasX S) (wasY S) ((wasC rl S + 1) % (rl.size : Int)) (paintF (wasX S) (wasY S) (wasC rl S) S.1) = S.1
    rw [paint_paint]
    unfold wasC
    rw [(mod_back hc).2, paint_same hS]
  have e2 : (backF rl S).2.1 + dxW S.2.2.2 = S.2.1 := by
    show S.2.1 - dxW S.2.2.2 + dxW S.2.2.2 = S.2.1
    omega
  have e3 : (backF rl S).2.2.1 + dyW S.2.2.2 = S.2.2.1 := by
    show S.2.2.1 - dyW S.2.2.2 + dyW S.2.2.2 = S.2.2.1
    omega
  rw [e1, e2, e3]
/-! ### Many steps -/
open Classical in
noncomputable def runF (rl : ByteArray) : Nat → PlS → Option (List UInt8 × PlS)
  | 0, S => some ([], S)
  | n + 1, S => if OkP rl (stepF rl S) then (runF rl n (stepF rl S)).map fun q => (signF rl S :: q.1, q.2) else none
open Classical in
noncomputable def brunF (rl : ByteArray) : Nat → PlS → Option PlS
  | 0, S => some S
  | n + 1, S => if OkP rl (backF rl S) then brunF rl n (backF rl S) else none
theorem run_step {rl : ByteArray} {n : Nat} {S : PlS} (h : OkP rl (stepF rl S)) : runF rl (n + 1) S = (runF rl n (stepF rl S)).map fun q => (signF rl S :: q.1, q.2) := by
  rw [runF]
  rw [if_pos h]
theorem run_stop {rl : ByteArray} {n : Nat} {S : PlS} (h : ¬ OkP rl (stepF rl S)) : runF rl (n + 1) S = none := by
  rw [runF]
  rw [if_neg h]
theorem brun_step {rl : ByteArray} {n : Nat} {S : PlS} (h : OkP rl (backF rl S)) : brunF rl (n + 1) S = brunF rl n (backF rl S) := by
  rw [brunF]
  rw [if_pos h]
theorem brun_stop {rl : ByteArray} {n : Nat} {S : PlS} (h : ¬ OkP rl (backF rl S)) : brunF rl (n + 1) S = none := by
  rw [brunF]
  rw [if_neg h]
theorem run_inv {rl : ByteArray} {n : Nat} {S : PlS} {l : List UInt8} {T : PlS} (h : runF rl (n + 1) S = some (l, T)) : OkP rl (stepF rl S) ∧ ∃ l', l = signF rl S :: l' ∧ runF rl n (stepF rl S) = some (l', T) := by
  by_cases c : OkP rl (stepF rl S)
  · rw [run_step c] at h
    obtain ⟨⟨l', T'⟩, h1, h2⟩ := Option.map_eq_some_iff.1 h
    simp only [Prod.mk.injEq] at h2
    exact ⟨c, l', h2.1.symm, h2.2 ▸ h1⟩
  · rw [run_stop c] at h
    cases h
theorem run_facts (rl : ByteArray) : ∀ (n : Nat) (S : PlS) (l : List UInt8) (T : PlS), OkP rl S → runF rl n S = some (l, T) → OkP rl T ∧ l.length = n ∧ (-(n : Int) ≤ T.2.1 - S.2.1 ∧ T.2.1 - S.2.1 ≤ n) ∧ (-(n : Int) ≤ T.2.2.1 - S.2.2.1 ∧ T.2.2.1 - S.2.2.1 ≤ n)
  | 0, S, l, T, H, h => by
    have e : (([] : List UInt8), S) = (l, T) := Option.some.inj h
    simp only [Prod.mk.injEq] at e
    obtain ⟨rfl, rfl⟩ := e
    exact ⟨H, rfl, by omega, by omega⟩
  | n + 1, S, l, T, H, h => by
    obtain ⟨c, l', rfl, h'⟩ := run_inv h
    obtain ⟨a, b, d, e⟩ := run_facts rl n _ l' T c h'
    obtain ⟨d1, d2⟩ := dW_range (turnF S.2.2.2 (signF rl S))
    have ex : (stepF rl S).2.1 = S.2.1 + dxW (turnF S.2.2.2 (signF rl S)) := rfl
    have ey : (stepF rl S).2.2.1 = S.2.2.1 + dyW (turnF S.2.2.2 (signF rl S)) := rfl
    rw [ex] at d
    rw [ey] at e
    exact ⟨a, by rw [List.length_cons, b], by omega, by omega⟩
theorem run_add (rl : ByteArray) : ∀ (m n : Nat) (S : PlS), runF rl (m + n) S = (runF rl m S).bind fun q => (runF rl n q.2).map fun r => (q.1 ++ r.1, r.2)
  | 0, n, S => by
    rw [Nat.zero_add]
    show runF rl n S = (runF rl n S).map fun r => ([] ++ r.1, r.2)
    cases runF rl n S <;> rfl
  | m + 1, n, S => by
    rw [show m + 1 + n = m + n + 1 by omega]
    by_cases c : OkP rl (stepF rl S)
    · rw [run_step c, run_step c, run_add rl m n]
      cases runF rl m (stepF rl S) with
      | none => rfl
      | some q =>
        show ((runF rl n q.2).map fun r => (q.1 ++ r.1, r.2)).map _ = (runF rl n q.2).map fun r => ((signF rl S :: q.1) ++ r.1, r.2)
        cases runF rl n q.2 <;> rfl
    · rw [run_stop c, run_stop c]
      rfl
theorem run_snoc {rl : ByteArray} {n : Nat} {S : PlS} {l : List UInt8} {T : PlS} (h : runF rl (n + 1) S = some (l, T)) : ∃ l' T', runF rl n S = some (l', T') ∧ T = stepF rl T' ∧ OkP rl T := by
  rw [run_add rl n 1] at h
  obtain ⟨⟨l', T'⟩, h1, h2⟩ := Option.bind_eq_some_iff.1 h
  obtain ⟨⟨r, U⟩, h3, h4⟩ := Option.map_eq_some_iff.1 h2
  simp only [Prod.mk.injEq] at h4
  obtain ⟨_, rfl⟩ := h4
  obtain ⟨c, r', _, h5⟩ := run_inv h3
  have e : (([] : List UInt8), stepF rl T') = (r', U) := Option.some.inj h5
  simp only [Prod.mk.injEq] at e
  obtain ⟨_, rfl⟩ := e
  exact ⟨l', T', h1, rfl, c⟩
theorem brun_run (rl : ByteArray) : ∀ (n : Nat) (S : PlS) (l : List UInt8) (T : PlS), OkP rl S → runF rl n S = some (l, T) → brunF rl n T = some S
  | 0, S, l, T, H, h => by
    have e : (([] : List UInt8), S) = (l, T) := Option.some.inj h
    simp only [Prod.mk.injEq] at e
    obtain ⟨_, rfl⟩ := e
    rfl
  | n + 1, S, l, T, H, h => by
    obtain ⟨l', T', h1, rfl, c⟩ := run_snoc h
    have h2 := (run_facts rl n S l' T' H h1).1
    have eb := back_stepF rl T' h2
    rw [brun_step (by rw [eb]; exact h2), eb]
    exact brun_run rl n S l' T' H h1
theorem brun_ok (rl : ByteArray) : ∀ (n : Nat) (S T : PlS), OkP rl S → brunF rl n S = some T → OkP rl T
  | 0, S, T, H, h => Option.some.inj h ▸ H
  | n + 1, S, T, H, h => by
    by_cases c : OkP rl (backF rl S)
    · rw [brun_step c] at h
      exact brun_ok rl n _ T c h
    · rw [brun_stop c] at h
      cases h
theorem run_brun (rl : ByteArray) : ∀ (n : Nat) (S T : PlS), OkP rl S → brunF rl n S = some T → ∃ l, runF rl n T = some (l, S)
  | 0, S, T, H, h => ⟨[], by rw [← Option.some.inj h]; rfl⟩
  | n + 1, S, T, H, h => by
    by_cases c : OkP rl (backF rl S)
    · rw [brun_step c] at h
      obtain ⟨l, hl⟩ := run_brun rl n _ T c h
      have es := step_backF rl S H
      refine ⟨l ++ [signF rl (backF rl S)], ?_⟩
      rw [run_add rl n 1, hl]
      show (runF rl 1 (backF rl S)).map _ = _
      rw [run_step (n := 0) (by rw [es]; exact H), es]
      rfl
    · rw [brun_stop c] at h
      cases h

abbrev Pl : Type := ByteArray × List Sp × Int × Int × Int
theorem sign_at {rl : ByteArray} {S : PlS} (H : OkP rl S) : 0 ≤ hereF S ∧ hereF S ≤ (rl.size : Int) - 1 ∧ rl.data.toList[(hereF S).toNat]? = some (signF rl S) := by
  obtain ⟨hR, hl, hq, hw, hS⟩ := H
  have hR1 := hR.1
  have hc := col_range (x := S.2.1) (y := S.2.2.1) (show (1 : Int) ≤ (rl.size : Int) by omega) hS
  have hc : 0 ≤ hereF S ∧ hereF S ≤ (rl.size : Int) - 1 := hc
  refine ⟨hc.1, hc.2, ?_⟩
  obtain ⟨z, hz⟩ := byte_at (cs := rl) (i := (hereF S).toNat) (by omega)
  unfold signF
  rw [hz, List.getD_eq_getElem?_getD, hz]
  rfl
theorem enColourF_ev (rl : ByteArray) {t : Int} {sp : List Sp} (h : SpotsOk t sp) (hl : sp.length ≤ 1048576) (X Y W x y : Int) : Ev (fun k => spec_enColour k ((rl, sp, X, Y, W), x, y)) (colF x y sp) := by
  obtain ⟨A, B, rfl, C⟩ := cut_ex x y h.2
  rw [cut_col C]
  exact enColour_ev rl X Y W C hl
theorem enPaintF_ev {t : Int} {sp : List Sp} (h : SpotsOk t sp) (hl : sp.length ≤ 1048576) (x y p : Int) : Ev (fun k => spec_enPaint k (sp, x, y, p)) (paintF x y p sp) := by
  obtain ⟨A, B, rfl, C⟩ := cut_ex x y h.2
  rw [cut_paint C]
  exact enPaint_ev C hl p
theorem gotF {t : Int} {sp : List Sp} (h : SpotsOk t sp) {g : List (Pt × Int)} (hg : g.Perm (sp.map ent)) (x y : Int) : mget pe g (x, y) 0 = colF x y sp := by
  obtain ⟨A, B, rfl, C⟩ := cut_ex x y h.2
  rw [cut_col C]
  exact mget_col ((keys_of C.srt).perm hg.symm) (C.col.perm hg.symm)
theorem permF {t : Int} {sp : List Sp} (h : SpotsOk t sp) {g : List (Pt × Int)} (hg : g.Perm (sp.map ent)) (x y p : Int) : (paintG x y p g).Perm ((paintF x y p sp).map ent) := by
  obtain ⟨A, B, rfl, C⟩ := cut_ex x y h.2
  rw [cut_paint C]
  exact paint_perm C hg
/-- Is it a plain still: both ways. -/
theorem stillF (rl : ByteArray) (hR : RuleOk rl) {sp : List Sp} (hS : SpotsOk rl.size sp) (hl : sp.length ≤ 1000) {g : List (Pt × Int)} (hg : g.Perm (sp.map ent)) (x y wy : Int) (hw : 0 ≤ wy ∧ wy ≤ 3) : ∃ ok : Bool, (ok = true ↔ OkP rl (sp, x, y, wy)) ∧ Ev (fun k => spec_enGood k (rl, sp, x, y, wy)) ok ∧ Ev (fun k => impl_going_isPlain k (rl, g, x, y, wy)) ok := by
  have near := isNear_ev x y
  have hpl : g.length = sp.length := by have := hg.length_eq; rwa [List.length_map] at this
  have iff1 : PlainOk rl sp x y wy ↔ (Far x ∧ Far y) ∧ sp.length ≤ 300 := ⟨fun h => ⟨h.2.2.1, h.2.1⟩, fun h => ⟨hR, h.2, h.1, hw, hS⟩⟩
  obtain ⟨ok, g1, g2⟩ := enGood_ev rl sp x y wy (by omega)
  refine ⟨ok, g2, g1, Ev.step (fun k => impl_going_isPlain.eq k rl _ _ _ wy) ?_⟩
  by_cases hn : Far x ∧ Far y
  · refine Ev.bind (near.isT hn) (Ev.yes rfl (Ev.now' ?_))
    rw [hpl]
    have e : (ok = true) ↔ ((sp.length : Int) ≤ 300) := by
      rw [g2, iff1]
      exact ⟨fun h => by have := h.2; omega, fun h => ⟨hn, by omega⟩⟩
    cases ok with
    | true => exact decide_eq_true (e.1 rfl)
    | false => exact decide_eq_false fun h => by have := e.2 h; cases this
  · refine Ev.bind (near.isF hn) (Ev.no rfl (Ev.now' ?_))
    cases ok with
    | true => exact absurd (iff1.1 (g2.1 rfl)).1 hn
    | false => rfl
theorem stepF_ev (rl : ByteArray) (S : PlS) (g : List (Pt × Int)) (H : OkP rl S) (hg : g.Perm (S.1.map ent)) : ∃ (g' : List (Pt × Int)) (ok : Bool), (ok = true ↔ OkP rl (stepF rl S)) ∧ g'.Perm ((stepF rl S).1.map ent) ∧
    Ev (fun k => spec_enColour k ((rl, S), S.2.1, S.2.2.1)) (hereF S) ∧ Ev (fun k => spec_enStep k (rl, S)) (if ok then ((rl, stepF rl S), true) else (zeroP, false)) ∧
    Ev (fun k => impl_going_step k (rl, g, S.2)) ((((signF rl S).toNat : Int), ok), (rl, g', (stepF rl S).2)) := by
  obtain ⟨c0, c1, hz⟩ := sign_at H
  obtain ⟨sp, x, y, wy⟩ := S
  obtain ⟨hR, hlen, hq, hw, hS⟩ := id H
  simp only at hR hlen hq hw hS hg
  have h6 := hR.1
  have hcol := enColourF_ev rl hS (by omega) x y wy x y
  have hget := gotF hS hg x y
  have hbt := bt_at hz
  have eh : hereF (sp, x, y, wy) = colF x y sp := rfl
  rw [eh] at c0 c1 hz hbt
  generalize ez : signF rl (sp, x, y, wy) = z at hz hbt
  have hstep : stepF rl (sp, x, y, wy) = (paintF x y ((colF x y sp + 1) % (rl.size : Int)) sp, x + dxW (turnF wy z), y + dyW (turnF wy z), turnF wy z) := by
    unfold stepF
    rw [ez]
    rfl
  rw [hstep]
  have hzlt := z.toNat_lt
  obtain ⟨q0, q3⟩ := quartersB_range (z.toNat : Int)
  have eW : (w64 (wy + quartersB (z.toNat : Int))).tmod 4 = turnF wy z := by unfold turnF; rw [w64_of (by omega) (by omega), Int.tmod_eq_emod_of_nonneg (by omega)]
  have hwz : 0 ≤ turnF wy z ∧ turnF wy z ≤ 3 := by unfold turnF; omega
  generalize turnF wy z = wz at eW hwz
  have eP : (w64 (colF x y sp + 1)).tmod (rl.size : Int) = (colF x y sp + 1) % (rl.size : Int) := by rw [w64_of (by omega) (by omega), Int.tmod_eq_emod_of_nonneg (by omega)]
  have hP : 0 ≤ (colF x y sp + 1) % (rl.size : Int) ∧ (colF x y sp + 1) % (rl.size : Int) ≤ (rl.size : Int) - 1 := by
    have p1 := Int.emod_nonneg (colF x y sp + 1) (show (rl.size : Int) ≠ 0 by omega)
    have p2 := Int.emod_lt_of_pos (colF x y sp + 1) (show (0 : Int) < rl.size by omega)
    omega
  generalize (colF x y sp + 1) % (rl.size : Int) = p at eP hP
  have hne : ((rl.size : Int) != 0) = true := by rw [bne_iff_ne]; omega
  obtain ⟨⟨d1, d2⟩, d3, d4⟩ := dW_range wz
  have hps := paint_ok hS hq hP
  have hpp := permF hS hg x y p
  have hll := paintF_len (x := x) (y := y) (p := p) hS
  obtain ⟨ok, k1, k2, k3⟩ := stillF rl hR hps (by omega) hpp (x + dxW wz) (y + dyW wz) wz hwz
  have hinB : inB (colF x y sp) rl.size = true := inB_of c0 (by omega)
  refine ⟨paintG x y p g, ok, k1, hpp, hcol, ?_, ?_⟩
  · refine Ev.step (fun k => spec_enStep.eq k rl sp x y wy) (Ev.bind hcol (Ev.yes hinB ?_))
    rw [hbt]
    refine Ev.bind (woTurn_ev _) (Ev.yes hne ?_)
    rw [eW, eP]
    refine Ev.bind (enPaintF_ev hS (by omega) x y p) (Ev.bind (enGo_ev rl _ x y wz hq hwz) (Ev.bind k2 ?_))
    cases ok with
    | true => exact Ev.no rfl (Ev.now _)
    | false => exact Ev.yes rfl (Ev.now _)
  · refine Ev.step (fun k => impl_going_step.eq k rl g x y wy) ?_
    unfold Far at hq
    have ex : w64 (x + dxW wz) = x + dxW wz := w64_of (by omega) (by omega)
    have ey : w64 (y + dyW wz) = y + dyW wz := w64_of (by omega) (by omega)
    have hget' : mget (K := (Int × Int)) (α := Int) (Sh.eqT (.pair (.int .i64) (.int .i64))) g (x, y) 0 = colF x y sp := hget
    simp only [hget', hbt]
    refine Ev.yes hinB (Ev.bind (quarters_ev _) (Ev.yes hne ?_))
    rw [eW, eP]
    refine Ev.bind (going_paint_ev rl g x y wz x y p) (Ev.bind (ahead_ev wz hwz) ?_)
    dsimp only
    rw [hbt, ex, ey]
    exact Ev.yes hinB (Ev.bind k3 (Ev.now _))
theorem runsF_ev (rl : ByteArray) (n : Nat) (hn : n ≤ 1000) (T : Pl) : ∀ (m i : Nat) (S : PlS) (g : List (Pt × Int)) (out : List UInt8), i + m = n → out.length = i → OkP rl S → g.Perm (S.1.map ent) →
    (∀ l U, runF rl m S = some (l, U) → ∃ g' : List (Pt × Int), g'.Perm (U.1.map ent) ∧ Ev (fun k => spec_enAfter_l k ((m : Int), (rl, S), T, bs out)) (.inr ((rl, U), T, bs (out ++ l))) ∧ Ev (fun k => impl_going_run_l k ((rl, g, S.2), out.map (fun c => (c.toNat : Int)), (n : Int), (i : Int), ())) (.inr ((out ++ l).map (fun c => (c.toNat : Int)), (rl, g', U.2)))) ∧
    (runF rl m S = none → ∃ G, Ev (fun k => spec_enAfter_l k ((m : Int), (rl, S), T, bs out)) (.inl (zeroP, ByteArray.empty, false)) ∧ Ev (fun k => impl_going_run_l k ((rl, g, S.2), out.map (fun c => (c.toNat : Int)), (n : Int), (i : Int), ())) (.inl (ByteArray.empty, false, G)))
  | 0, i, S, g, out, hi, ho, H, hg => by
    refine ⟨fun l U h => ?_, fun h => by cases h⟩
    have e : (([] : List UInt8), S) = (l, U) := Option.some.inj h
    simp only [Prod.mk.injEq] at e
    obtain ⟨rfl, rfl⟩ := e
    obtain ⟨sp, x, y, wy⟩ := S
    rw [List.append_nil]
    exact ⟨g, hg, Ev.step (fun k => spec_enAfter_l.eq k _ rl sp x y wy T.1 T.2.1 T.2.2.1 T.2.2.2.1 T.2.2.2.2 _) (Ev.no rfl (Ev.now _)), Ev.step (fun k => impl_going_run_l.eq k rl g x y wy _ _ _) (Ev.no (not_lt_nat (by omega)) (Ev.now _))⟩
  | m + 1, i, S, g, out, hi, ho, H, hg => by
    obtain ⟨g1, ok, hok, hg1, hcol, hS, hI⟩ := stepF_ev rl S g H hg
    obtain ⟨c0, c1, hz⟩ := sign_at H
    have h6 := H.1.1
    have hc : (hereF S).toNat < rl.size := by omega
    generalize ez : signF rl S = z at hI hz
    obtain ⟨c, hcc⟩ := Int.eq_ofNat_of_zero_le c0
    rw [hcc] at hcol c0 c1 hz
    rw [Int.toNat_natCast] at hz
    have e1 : w64 ((c : Int) + 1) = ((c + 1 : Nat) : Int) := w64_succ (by omega)
    have hb : (((decide ((0 : Int) ≤ ((c + 1 : Nat) : Int))) && (decide (((c + 1 : Nat) : Int) ≤ (rl.size : Int)))) && ((decide ((0 : Int) ≤ (c : Int))) && (decide ((c : Int) ≤ ((c + 1 : Nat) : Int))))) = true := by
      rw [decide_eq_true (by omega), decide_eq_true (by omega), decide_eq_true (by omega), decide_eq_true (by omega)]; rfl
    have e2 : w64 (((m + 1 : Nat) : Int) - 1) = (m : Int) := by rw [w64_of (by omega) (by omega)]; omega
    have ecut : rl.extract c (c + 1) = bs [z] := by
      apply ba_ext
      obtain ⟨hlt, he⟩ := List.getElem?_eq_some_iff.1 hz
      rw [extract_list, List.drop_take, show c + 1 - c = 1 by omega, List.drop_eq_getElem_cons hlt, he]
      rfl
    have eapp : bs out ++ bs [z] = bs (out ++ [z]) := by
      apply ba_ext
      rw [append_list]
      rfl
    have zb : ∀ l : List UInt8, (bs l).size = l.length := fun l => rfl
    have goS : ∀ r, Ev (fun k => (spec_enStep k (rl, S)).bind fun r3 => cond (!r3.2) (some (.inl (zeroP, ByteArray.empty, false))) (spec_enAfter_l k ((m : Int), r3.1, T, bs (out ++ [z])))) r → Ev (fun k => spec_enAfter_l k (((m + 1 : Nat) : Int), (rl, S), T, bs out)) r := fun r hr => by
      obtain ⟨sp, x, y, wy⟩ := S
      refine Ev.step (fun k => spec_enAfter_l.eq k _ rl sp x y wy T.1 T.2.1 T.2.2.1 T.2.2.2.1 T.2.2.2.2 _) (Ev.yes (decide_eq_true (by omega)) (Ev.bind hcol (Ev.bind hcol ?_)))
      rw [e1, e2]
      refine Ev.yes hb ?_
      rw [Int.toNat_natCast, Int.toNat_natCast, ecut]
      refine Ev.yes (fitS_of (by rw [zb, zb]; simp only [List.length_cons, List.length_nil]; omega)) ?_
      rw [eapp]
      exact hr
    have emap : out.map (fun c => (c.toNat : Int)) ++ [(z.toNat : Int)] = (out ++ [z]).map (fun c => (c.toNat : Int)) := by rw [List.map_append]; rfl
    have goI : ∀ r, Ev (fun k => cond (!ok) (some (.inl (ByteArray.empty, false, (rl, g1, (stepF rl S).2)))) (impl_going_run_l k ((rl, g1, (stepF rl S).2), (out ++ [z]).map (fun c => (c.toNat : Int)), (n : Int), ((i + 1 : Nat) : Int), ()))) r → Ev (fun k => impl_going_run_l k ((rl, g, S.2), out.map (fun c => (c.toNat : Int)), (n : Int), (i : Int), ())) r := fun r hr => by
      obtain ⟨sp, x, y, wy⟩ := S
      have hf : fits ((out.map (fun c => (c.toNat : Int))).length + 1) 1 = true := fits_of (by rw [List.length_map]; omega)
      refine Ev.step (fun k => impl_going_run_l.eq k rl g x y wy _ _ _) (Ev.yes (lt_nat (by omega)) (Ev.bind hI ?_))
      rw [w64_succ (by omega)]
      dsimp only
      rw [emap]
      cases ok with
      | true => exact Ev.no rfl (Ev.yes hf hr)
      | false => exact Ev.yes rfl hr
    cases ok with
    | false =>
      have hno : ¬ OkP rl (stepF rl S) := fun h => by have := hok.2 h; cases this
      refine ⟨fun l U h => (by rw [run_stop hno] at h; cases h), fun _ => ⟨_, goS _ (Ev.bind hS (Ev.yes rfl (Ev.now _))), goI _ (Ev.yes rfl (Ev.now _))⟩⟩
    | true =>
      have hyes := hok.1 rfl
      obtain ⟨r1, r2⟩ := runsF_ev rl n hn T m (i + 1) (stepF rl S) g1 (out ++ [z]) (by omega) (by simp; omega) hyes hg1
      refine ⟨fun l U h => ?_, fun h => ?_⟩
      · obtain ⟨_, l', rfl, h'⟩ := run_inv h
        obtain ⟨g', p1, p2, p3⟩ := r1 l' U h'
        rw [List.append_assoc] at p2 p3
        rw [ez]
        exact ⟨g', p1, goS _ (Ev.bind hS (Ev.no rfl p2)), goI _ (Ev.no rfl p3)⟩
      · rw [run_step hyes, Option.map_eq_none_iff] at h
        obtain ⟨G, p2, p3⟩ := r2 h
        exact ⟨G, goS _ (Ev.bind hS (Ev.no rfl p2)), goI _ (Ev.no rfl p3)⟩
theorem runF_ev (rl : ByteArray) (n : Nat) (hn : n ≤ 1000) (S : PlS) (g : List (Pt × Int)) (H : OkP rl S) (hg : g.Perm (S.1.map ent)) :
    (∀ l U, runF rl n S = some (l, U) → ∃ g' : List (Pt × Int), g'.Perm (U.1.map ent) ∧ Ev (fun k => spec_enAfter k ((rl, S), (n : Int))) ((rl, U), bs l, true) ∧ Ev (fun k => impl_going_run k ((rl, g, S.2), (n : Int))) ((bs l, true), (rl, g', U.2))) ∧
    (runF rl n S = none → ∃ G, Ev (fun k => spec_enAfter k ((rl, S), (n : Int))) (zeroP, ByteArray.empty, false) ∧ Ev (fun k => impl_going_run k ((rl, g, S.2), (n : Int))) ((ByteArray.empty, false), G)) := by
  have e0 : bs [] = ByteArray.empty := rfl
  obtain ⟨r1, r2⟩ := runsF_ev rl n hn zeroP n 0 S g [] (by omega) rfl H hg
  rw [e0] at r1 r2
  refine ⟨fun l U h => ?_, fun h => ?_⟩
  · obtain ⟨g', p1, p2, p3⟩ := r1 l U h
    rw [List.nil_append] at p2 p3
    obtain ⟨sp, x, y, wy⟩ := S
    exact ⟨g', p1, Ev.step (fun k => spec_enAfter.eq k rl sp x y wy n) (Ev.bind p2 (Ev.now _)), Ev.step (fun k => impl_going_run.eq k rl g x y wy n) (Ev.bind p3 (Ev.now' (by dsimp only; rw [ofBytes_of]; rfl)))⟩
  · obtain ⟨G, p2, p3⟩ := r2 h
    obtain ⟨sp, x, y, wy⟩ := S
    exact ⟨G, Ev.step (fun k => spec_enAfter.eq k rl sp x y wy n) (Ev.bind p2 (Ev.now _)), Ev.step (fun k => impl_going_run.eq k rl g x y wy n) (Ev.bind p3 (Ev.now _))⟩

def HwF (rl : ByteArray) (S : PlS) (n p : Int) (v : Bool × Bool) : Prop := v.2 = true → OkP rl S ∧ (0 ≤ n ∧ n ≤ 1000) ∧ (1 ≤ p ∧ 3 * p ≤ 1000 - n) ∧ ∃ l0 A l1 B, runF rl n.toNat S = some (l0, A) ∧ runF rl p.toNat A = some (l1, B) ∧
  (v.1 = true → ∃ l2 C l3 D, runF rl p.toNat B = some (l2, C) ∧ runF rl p.toNat C = some (l3, D) ∧ (C.2.1 - B.2.1 = B.2.1 - A.2.1 ∧ C.2.2.1 - B.2.2.1 = B.2.2.1 - A.2.2.1) ∧ (D.2.1 - C.2.1 = B.2.1 - A.2.1 ∧ D.2.2.1 - C.2.2.1 = B.2.2.1 - A.2.2.1) ∧ ¬ (B.2.1 - A.2.1 = 0 ∧ B.2.2.1 - A.2.2.1 = 0))
theorem run2_ev (rl : ByteArray) (n : Nat) (hn : n ≤ 1000) (sp : List Sp) (x y wy : Int) (g : List (Pt × Int)) (H : PlainOk rl sp x y wy) (hg : g.Perm (sp.map ent)) :
    (∃ (sp' : List Sp) (x' y' wy' : Int) (g' : List (Pt × Int)) (sg : ByteArray), PlainOk rl sp' x' y' wy' ∧ g'.Perm (sp'.map ent) ∧
      Ev (fun k => spec_enAfter k ((rl, sp, x, y, wy), (n : Int))) ((rl, sp', x', y', wy'), sg, true) ∧ Ev (fun k => impl_going_run k ((rl, g, x, y, wy), (n : Int))) ((sg, true), (rl, g', x', y', wy')) ∧ ∃ l, runF rl n (sp, x, y, wy) = some (l, (sp', x', y', wy')) ∧ sg = bs l) ∨
    (∃ G, Ev (fun k => spec_enAfter k ((rl, sp, x, y, wy), (n : Int))) (zeroP, ByteArray.empty, false) ∧ Ev (fun k => impl_going_run k ((rl, g, x, y, wy), (n : Int))) ((ByteArray.empty, false), G)) := by
  obtain ⟨r1, r2⟩ := runF_ev rl n hn (sp, x, y, wy) g H hg
  cases h : runF rl n (sp, x, y, wy) with
  | none =>
    obtain ⟨G, p1, p2⟩ := r2 h
    exact .inr ⟨G, p1, p2⟩
  | some q =>
    obtain ⟨l, sp', x', y', wy'⟩ := q
    obtain ⟨g', p1, p2, p3⟩ := r1 l (sp', x', y', wy') h
    exact .inl ⟨sp', x', y', wy', g', bs l, (run_facts rl n (sp, x, y, wy) l _ H h).1, p1, p2, p3, l, rfl, rfl⟩
def updB (is : Bool) (sg first : ByteArray) (a dx b dy : Int) : Bool := is && (strEq sg first && (a == dx && b == dy))
theorem tree_ev {R : Type} (f : Nat → Bool → Option R) (is : Bool) (sg first : ByteArray) (a dx b dy : Int) (r : R) (H : Ev (fun k => f k (updB is sg first a dx b dy)) r) : Ev (fun k => cond is (cond (strEq sg first) (cond (a == dx) (f k (b == dy)) (f k false)) (f k false)) (f k false)) r := by
  unfold updB at H
  revert H
  cases is
  · exact fun H => H
  · cases strEq sg first
    · exact fun H => H
    · cases (a == dx)
      · exact fun H => H
      · exact fun H => H
theorem bad (p : Int) (G : ByteArray × List (Pt × Int) × Int × Int × Int) (tu : ByteArray) (dx dy : Int) (is : Bool) (t : Int) (ht : t < 2) : Ev (fun k => impl_IsHighway_l k (p, G, tu, dx, dy, false, is, t)) (.inl (false, false)) :=
  Ev.step (fun k => impl_IsHighway_l.eq k p G.1 G.2.1 G.2.2.1 G.2.2.2.1 G.2.2.2.2 tu dx dy false is t) (Ev.yes (decide_eq_true ht) (Ev.yes rfl (Ev.now _)))
theorem bad2 (p : Int) (G : ByteArray × List (Pt × Int) × Int × Int × Int) (tu : ByteArray) (dx dy : Int) (ok is : Bool) : Ev (fun k => impl_IsHighway_l k (p, G, tu, dx, dy, ok, is, 2)) (.inr (ok, is)) :=
  Ev.step (fun k => impl_IsHighway_l.eq k p G.1 G.2.1 G.2.2.1 G.2.2.2.1 G.2.2.2.2 tu dx dy ok is 2) (Ev.no rfl (Ev.now _))
theorem highway_ev (rl : ByteArray) (sp : List Sp) (x y wy n p : Int) (hrl : rl.size ≤ 9223372036854775807) (hsp : sp.length ≤ 1048576) : ∃ v : Bool × Bool, Ev (fun k => spec_IsHighway k ((rl, sp, x, y, wy), n, p)) v ∧ Ev (fun k => impl_IsHighway k ((rl, sp, x, y, wy), n, p)) v ∧ HwF rl (sp, x, y, wy) n p v := by
  have no : Ev (fun k => spec_IsHighway k ((rl, sp, x, y, wy), n, p)) (false, false) ∧ Ev (fun k => impl_IsHighway k ((rl, sp, x, y, wy), n, p)) (false, false) → ∃ v : Bool × Bool, Ev (fun k => spec_IsHighway k ((rl, sp, x, y, wy), n, p)) v ∧ Ev (fun k => impl_IsHighway k ((rl, sp, x, y, wy), n, p)) v ∧ HwF rl (sp, x, y, wy) n p v := fun q => ⟨(false, false), q.1, q.2, fun h => by cases h⟩
  have a1 := isRun_ev rl sp x y wy n hsp hrl
  have a2 := enSteps_ev rl sp x y wy n hsp
  by_cases H : PlainOk rl sp x y wy ∧ (0 ≤ n ∧ n ≤ 1000)
  rotate_left
  · exact no ⟨Ev.step (fun k => spec_IsHighway.eq k rl sp x y wy n p) (Ev.bind (a2.isF H) (Ev.yes rfl (Ev.now _))), Ev.step (fun k => impl_IsHighway.eq k rl sp x y wy n p) (Ev.bind (a1.isF H) (Ev.yes rfl (Ev.now _)))⟩
  obtain ⟨HP, h0, h1⟩ := id H
  have ew : (w64 ((w64 (1000 - n)).tdiv 3)) ≤ 333 := by
    rw [w64_of (n := 1000 - n) (by omega) (by omega), Int.tdiv_eq_ediv_of_nonneg (by omega), w64_of (by omega) (by omega)]
    omega
  have j1 := l1In_ev p 1 (w64 ((w64 (1000 - n)).tdiv 3))
  have j2 := within_ev p 1 (w64 ((w64 (1000 - n)).tdiv 3))
  by_cases hp : 1 ≤ p ∧ p ≤ w64 ((w64 (1000 - n)).tdiv 3)
  rotate_left
  · exact no ⟨Ev.step (fun k => spec_IsHighway.eq k rl sp x y wy n p) (Ev.bind (a2.isT H) (Ev.no rfl (Ev.bind (j1.isF hp) (Ev.yes rfl (Ev.now _))))), Ev.step (fun k => impl_IsHighway.eq k rl sp x y wy n p) (Ev.bind (a1.isT H) (Ev.no rfl (Ev.bind (j2.isF hp) (Ev.yes rfl (Ev.now _)))))⟩
  have i1 := j1.isT hp
  have i2 := j2.isT hp
  obtain ⟨N, rfl⟩ := Int.eq_ofNat_of_zero_le h0
  obtain ⟨P, rfl⟩ := Int.eq_ofNat_of_zero_le (show 0 ≤ p by omega)
  have hg := going_ev rl x y wy sp hsp (keys_of HP.2.2.2.2.2)
  rcases run2_ev rl N (by omega) sp x y wy _ HP (List.Perm.refl _) with ⟨sp0, x0, y0, wy0, g0, sg0, HP0, hg0, q1, q2, l0, rr0, es0⟩ | ⟨G, q1, q2⟩
  rotate_left
  · exact no ⟨Ev.step (fun k => spec_IsHighway.eq k rl sp x y wy N P) (Ev.bind (a2.isT H) (Ev.no rfl (Ev.bind i1 (Ev.no rfl (Ev.bind q1 (Ev.yes rfl (Ev.now _))))))), Ev.step (fun k => impl_IsHighway.eq k rl sp x y wy N P) (Ev.bind (a1.isT H) (Ev.no rfl (Ev.bind i2 (Ev.no rfl (Ev.bind hg (Ev.bind q2 (Ev.yes rfl (Ev.now _))))))))⟩
  have goS : ∀ r, Ev (fun k => (spec_IsHighway_l k ((P : Int), (rl, sp0, x0, y0, wy0), true, ByteArray.empty, 0, 0, 0)).bind fun r4 => r4.elim (fun r5 => some r5) (fun r6 => cond r6.1 (cond (r6.2.1 != 0) (some (true, true)) (some ((r6.2.2 != 0), true))) (some (false, true)))) r → Ev (fun k => spec_IsHighway k ((rl, sp, x, y, wy), (N : Int), (P : Int))) r := fun r hr => Ev.step (fun k => spec_IsHighway.eq k rl sp x y wy N P) (Ev.bind (a2.isT H) (Ev.no rfl (Ev.bind i1 (Ev.no rfl (Ev.bind q1 (Ev.no rfl hr))))))
  have dr : ∀ (g : List (Pt × Int)) (x y wy : Int) (sg : ByteArray) (ok : Bool) (G : ByteArray × List (Pt × Int) × Int × Int × Int), Ev (fun k => impl_going_run k ((rl, g, x, y, wy), (P : Int))) ((sg, ok), G) → Ev (fun k => impl_going_drift k ((rl, g, x, y, wy), (P : Int))) ((sg, w64 (G.2.2.1 - x), w64 (G.2.2.2.1 - y), ok), G) := fun g x y wy sg ok G h => Ev.step (fun k => impl_going_drift.eq k rl g x y wy P) (Ev.bind h (Ev.now _))
  have goI : ∀ (sg : ByteArray) (dx dy : Int) (ok : Bool) (G : ByteArray × List (Pt × Int) × Int × Int × Int) (r : Bool × Bool), Ev (fun k => impl_going_drift k ((rl, g0, x0, y0, wy0), (P : Int))) ((sg, dx, dy, ok), G) →
      Ev (fun k => (impl_IsHighway_l k ((P : Int), G, sg, dx, dy, ok, ((dx != 0) || (dy != 0)), 0)).bind fun r9 => r9.elim (fun r10 => some r10) (fun r11 => cond r11.1 (some (r11.2, r11.1)) (some (false, r11.1)))) r → Ev (fun k => impl_IsHighway k ((rl, sp, x, y, wy), (N : Int), (P : Int))) r := fun sg dx dy ok G r hd hr => by
    refine Ev.step (fun k => impl_IsHighway.eq k rl sp x y wy N P) (Ev.bind (a1.isT H) (Ev.no rfl (Ev.bind i2 (Ev.no rfl (Ev.bind hg (Ev.bind q2 (Ev.no rfl (Ev.bind hd ?_))))))))
    cases hx : (dx != 0) with
    | true => rw [hx] at hr; exact Ev.yes rfl hr
    | false => rw [hx] at hr; exact Ev.no rfl hr
  -- the first period
  rcases run2_ev rl P (by omega) sp0 x0 y0 wy0 g0 HP0 hg0 with ⟨sp1, x1, y1, wy1, g1, sg1, HP1, hg1, s1, t1, l1, rr1, es1⟩ | ⟨G, s1, t1⟩
  rotate_left
  · exact no ⟨goS _ (Ev.bind (Ev.step (fun k => spec_IsHighway_l.eq k P rl sp0 x0 y0 wy0 true ByteArray.empty 0 0 0) (Ev.yes rfl (Ev.bind s1 (Ev.yes rfl (Ev.now _))))) (Ev.now _)), goI _ _ _ _ _ _ (dr _ _ _ _ _ _ _ t1) (Ev.bind (bad _ _ _ _ _ _ 0 (by omega)) (Ev.now _))⟩
  have goS1 : ∀ r, Ev (fun k => spec_IsHighway_l k ((P : Int), (rl, sp1, x1, y1, wy1), true, sg1, w64 (x1 - x0), w64 (y1 - y0), 1)) r → Ev (fun k => spec_IsHighway_l k ((P : Int), (rl, sp0, x0, y0, wy0), true, ByteArray.empty, 0, 0, 0)) r := fun r hr => by
    refine Ev.step (fun k => spec_IsHighway_l.eq k P rl sp0 x0 y0 wy0 true ByteArray.empty 0 0 0) (Ev.yes rfl (Ev.bind s1 (Ev.no rfl (Ev.yes rfl (Ev.yes rfl ?_)))))
    dsimp only
    rw [strEq_self, beq_self_eq_true, beq_self_eq_true]
    exact Ev.yes rfl (Ev.yes rfl hr)
  have d1 := dr _ _ _ _ _ _ _ t1
  have goI1 : ∀ (b : Bool) (r : Bool × Bool), Ev (fun k => (impl_IsHighway_l k ((P : Int), (rl, g1, x1, y1, wy1), sg1, w64 (x1 - x0), w64 (y1 - y0), true, ((w64 (x1 - x0) != 0) || (w64 (y1 - y0) != 0)), 0)).bind fun r9 => r9.elim (fun r10 => some r10) (fun r11 => cond r11.1 (some (r11.2, r11.1)) (some (false, r11.1)))) r → Ev (fun k => impl_IsHighway k ((rl, sp, x, y, wy), (N : Int), (P : Int))) r := fun b r hr => goI _ _ _ _ _ r d1 hr
  generalize hdx : w64 (x1 - x0) = dx at goS1 goI1
  generalize hdy : w64 (y1 - y0) = dy at goS1 goI1
  have one : ∀ (sp1 : List Sp) (g1 : List (Pt × Int)) (x1 y1 wy1 : Int) (is : Bool) (t : Int), (t = 1 ∨ t = 2) → ∀ r, Ev (fun k => (spec_enAfter k ((rl, sp1, x1, y1, wy1), (P : Int))).bind fun r1 => cond (!r1.2.2) (some (.inl (false, false))) (cond is (cond (strEq r1.2.1 sg1) (cond ((w64 (r1.1.2.2.1 - x1)) == dx) (spec_IsHighway_l k ((P : Int), r1.1, ((w64 (r1.1.2.2.2.1 - y1)) == dy), sg1, dx, dy, t + 1)) (spec_IsHighway_l k ((P : Int), r1.1, false, sg1, dx, dy, t + 1))) (spec_IsHighway_l k ((P : Int), r1.1, false, sg1, dx, dy, t + 1))) (spec_IsHighway_l k ((P : Int), r1.1, false, sg1, dx, dy, t + 1)))) r → Ev (fun k => spec_IsHighway_l k ((P : Int), (rl, sp1, x1, y1, wy1), is, sg1, dx, dy, t)) r := fun sp1 g1 x1 y1 wy1 is t ht r hr => by
    have e : w64 (t + 1) = t + 1 := w64_of (by omega) (by omega)
    refine Ev.step (fun k => spec_IsHighway_l.eq k P rl sp1 x1 y1 wy1 is sg1 dx dy t) (Ev.yes (decide_eq_true (by omega)) ?_)
    rw [e, show (t == 0) = false by rw [beq_eq_false_iff_ne]; omega]
    exact hr
  have oneI : ∀ (g1 : List (Pt × Int)) (x1 y1 wy1 : Int) (is : Bool) (t : Int), (t = 0 ∨ t = 1) → ∀ r, Ev (fun k => (impl_going_drift k ((rl, g1, x1, y1, wy1), (P : Int))).bind fun r1 => cond is (cond (strEq r1.1.1 sg1) (cond (r1.1.2.1 == dx) (impl_IsHighway_l k ((P : Int), r1.2, sg1, dx, dy, r1.1.2.2.2, (r1.1.2.2.1 == dy), t + 1)) (impl_IsHighway_l k ((P : Int), r1.2, sg1, dx, dy, r1.1.2.2.2, false, t + 1))) (impl_IsHighway_l k ((P : Int), r1.2, sg1, dx, dy, r1.1.2.2.2, false, t + 1))) (impl_IsHighway_l k ((P : Int), r1.2, sg1, dx, dy, r1.1.2.2.2, false, t + 1))) r → Ev (fun k => impl_IsHighway_l k ((P : Int), (rl, g1, x1, y1, wy1), sg1, dx, dy, true, is, t)) r := fun g1 x1 y1 wy1 is t ht r hr => by
    have e : w64 (t + 1) = t + 1 := w64_of (by omega) (by omega)
    refine Ev.step (fun k => impl_IsHighway_l.eq k P rl g1 x1 y1 wy1 sg1 dx dy true is t) (Ev.yes (decide_eq_true (by omega)) (Ev.no rfl ?_))
    rw [e]
    exact hr
  -- the second
  rcases run2_ev rl P (by omega) sp1 x1 y1 wy1 g1 HP1 hg1 with ⟨sp2, x2, y2, wy2, g2, sg2, HP2, hg2, s2, t2, l2, rr2, es2⟩ | ⟨G, s2, t2⟩
  rotate_left
  · exact no ⟨goS _ (Ev.bind (goS1 _ (one sp1 g1 x1 y1 wy1 true 1 (.inl rfl) _ (Ev.bind s2 (Ev.yes rfl (Ev.now _))))) (Ev.now _)), goI1 true _ (Ev.bind (oneI g1 x1 y1 wy1 _ 0 (.inl rfl) _ (Ev.bind (dr _ _ _ _ _ _ _ t2) (tree_ev (fun k is => impl_IsHighway_l k ((P : Int), G, sg1, dx, dy, false, is, 0 + 1)) _ _ _ _ _ _ _ _ (bad _ _ _ _ _ _ (0 + 1) (by omega))))) (Ev.now _))⟩
  -- the third
  rcases run2_ev rl P (by omega) sp2 x2 y2 wy2 g2 HP2 hg2 with ⟨sp3, x3, y3, wy3, g3, sg3, HP3, hg3, s3, t3, l3, rr3, es3⟩ | ⟨G, s3, t3⟩
  rotate_left
  · exact no ⟨goS _ (Ev.bind (goS1 _ (one sp1 g1 x1 y1 wy1 true 1 (.inl rfl) _ (Ev.bind s2 (Ev.no rfl (tree_ev (fun k is => spec_IsHighway_l k ((P : Int), (rl, sp2, x2, y2, wy2), is, sg1, dx, dy, 1 + 1)) _ _ _ _ _ _ _ _ (one sp2 g2 x2 y2 wy2 _ (1 + 1) (.inr rfl) _ (Ev.bind s3 (Ev.yes rfl (Ev.now _))))))))) (Ev.now _)),
      goI1 true _ (by
        obtain ⟨b, I3⟩ : ∃ b, Ev (fun k => impl_IsHighway_l k ((P : Int), (rl, g1, x1, y1, wy1), sg1, dx, dy, true, ((dx != 0) || (dy != 0)), 0)) (.inr (false, b)) := ⟨_, oneI g1 x1 y1 wy1 _ 0 (.inl rfl) _ (Ev.bind (dr _ _ _ _ _ _ _ t2) (tree_ev (fun k is => impl_IsHighway_l k ((P : Int), (rl, g2, x2, y2, wy2), sg1, dx, dy, true, is, 0 + 1)) _ _ _ _ _ _ _ _ (oneI g2 x2 y2 wy2 _ (0 + 1) (.inr rfl) _ (Ev.bind (dr _ _ _ _ _ _ _ t3) (tree_ev (fun k is => impl_IsHighway_l k ((P : Int), G, sg1, dx, dy, false, is, 0 + 1 + 1)) _ _ _ _ _ _ _ _ (bad2 _ _ _ _ _ _ _))))))⟩
        exact Ev.bind I3 (show Ev (fun _ => some (false, false)) (false, false) from Ev.now _))⟩
  · obtain ⟨u2, hu2⟩ : ∃ u, u = updB true sg2 sg1 (w64 (x2 - x1)) dx (w64 (y2 - y1)) dy := ⟨_, rfl⟩
    obtain ⟨u3, hu3⟩ : ∃ u, u = updB u2 sg3 sg1 (w64 (x3 - x2)) dx (w64 (y3 - y2)) dy := ⟨_, rfl⟩
    have S : Ev (fun k => spec_IsHighway_l k ((P : Int), (rl, sp0, x0, y0, wy0), true, ByteArray.empty, 0, 0, 0)) (.inr (u3, dx, dy)) := goS1 _ (one sp1 g1 x1 y1 wy1 true 1 (.inl rfl) _ (Ev.bind s2 (Ev.no rfl (tree_ev (fun k is => spec_IsHighway_l k ((P : Int), (rl, sp2, x2, y2, wy2), is, sg1, dx, dy, 1 + 1)) _ _ _ _ _ _ _ _ (by
      rw [← hu2]
      exact one sp2 g2 x2 y2 wy2 _ (1 + 1) (.inr rfl) _ (Ev.bind s3 (Ev.no rfl (tree_ev (fun k is => spec_IsHighway_l k ((P : Int), (rl, sp3, x3, y3, wy3), is, sg1, dx, dy, 1 + 1 + 1)) _ _ _ _ _ _ _ _ (by
        rw [← hu3]
        exact Ev.step (fun k => spec_IsHighway_l.eq k P rl sp3 x3 y3 wy3 u3 sg1 dx dy (1 + 1 + 1)) (Ev.no rfl (Ev.now _)))))))))))
    obtain ⟨b0, hb0⟩ : ∃ b, b = ((dx != 0) || (dy != 0)) := ⟨_, rfl⟩
    obtain ⟨b2, hb2⟩ : ∃ u, u = updB b0 sg2 sg1 (w64 (x2 - x1)) dx (w64 (y2 - y1)) dy := ⟨_, rfl⟩
    obtain ⟨b3, hb3⟩ : ∃ u, u = updB b2 sg3 sg1 (w64 (x3 - x2)) dx (w64 (y3 - y2)) dy := ⟨_, rfl⟩
    have I : Ev (fun k => impl_IsHighway_l k ((P : Int), (rl, g1, x1, y1, wy1), sg1, dx, dy, true, b0, 0)) (.inr (true, b3)) := oneI g1 x1 y1 wy1 _ 0 (.inl rfl) _ (Ev.bind (dr _ _ _ _ _ _ _ t2) (tree_ev (fun k is => impl_IsHighway_l k ((P : Int), (rl, g2, x2, y2, wy2), sg1, dx, dy, true, is, 0 + 1)) _ _ _ _ _ _ _ _ (by
      rw [← hb2]
      exact oneI g2 x2 y2 wy2 _ (0 + 1) (.inr rfl) _ (Ev.bind (dr _ _ _ _ _ _ _ t3) (tree_ev (fun k is => impl_IsHighway_l k ((P : Int), (rl, g3, x3, y3, wy3), sg1, dx, dy, true, is, 0 + 1 + 1)) _ _ _ _ _ _ _ _ (by
        rw [← hb3]
        exact bad2 _ _ _ _ _ _ _))))))
    have e : b3 = (u3 && b0) := by
      rw [hb3, hu3, hb2, hu2]
      unfold updB
      cases b0
      · simp
      · simp
    refine ⟨(b3, true), goS _ (Ev.bind S ?_), goI1 true _ (by rw [← hb0]; exact Ev.bind I (show Ev (fun _ => some (b3, true)) (b3, true) from Ev.now _)), ?_⟩
    · rw [e, hb0]
      show Ev (fun k => cond u3 (cond (dx != 0) (some (true, true)) (some ((dy != 0), true))) (some (false, true))) _
      cases u3
      · exact Ev.now _
      · cases (dx != 0)
        · exact Ev.now _
        · exact Ev.now _
    · have far : ∀ {a b : Int}, Far a → Far b → w64 (a - b) = a - b := fun {a b} ha hb => by
        unfold Far at ha hb
        exact w64_of (by omega) (by omega)
      have f0 := HP0.2.2.1
      have f1 := HP1.2.2.1
      have f2 := HP2.2.2.1
      have f3 := HP3.2.2.1
      rw [far f1.1 f0.1] at hdx
      rw [far f1.2 f0.2] at hdy
      rw [far f2.1 f1.1, far f2.2 f1.2] at hu2
      rw [far f3.1 f2.1, far f3.2 f2.2] at hu3
      have hp3 : 3 * (P : Int) ≤ 1000 - (N : Int) := by
        have := hp.2
        rw [w64_of (n := 1000 - (N : Int)) (by omega) (by omega), Int.tdiv_eq_ediv_of_nonneg (by omega), w64_of (by omega) (by omega)] at this
        omega
      refine fun _ => ⟨HP, ⟨h0, h1⟩, ⟨hp.1, hp3⟩, l0, _, l1, _, rr0, rr1, fun hb => ⟨l2, _, l3, _, rr2, rr3, ?_⟩⟩
      have hb : b3 = true := hb
      rw [e, Bool.and_eq_true] at hb
      obtain ⟨v3, v0⟩ := hb
      rw [hu3] at v3
      unfold updB at v3
      rw [Bool.and_eq_true, Bool.and_eq_true, Bool.and_eq_true, beq_iff_eq, beq_iff_eq] at v3
      obtain ⟨v2, _, v4, v5⟩ := v3
      rw [hu2] at v2
      unfold updB at v2
      rw [Bool.and_eq_true, Bool.and_eq_true, Bool.and_eq_true, beq_iff_eq, beq_iff_eq] at v2
      obtain ⟨_, _, v6, v7⟩ := v2
      rw [hb0, Bool.or_eq_true, bne_iff_ne, bne_iff_ne] at v0
      show (x2 - x1 = x1 - x0 ∧ y2 - y1 = y1 - y0) ∧ (x3 - x2 = x1 - x0 ∧ y3 - y2 = y1 - y0) ∧ ¬ (x1 - x0 = 0 ∧ y1 - y0 = 0)
      omega

def GoesP (rl : ByteArray) (S : PlS) (n : Int) : Prop := OkP rl S ∧ (0 ≤ n ∧ n ≤ 1000) ∧ ∃ q, runF rl n.toNat S = some q
theorem goodPl_ev (rl : ByteArray) (S : PlS) (hsp : S.1.length ≤ 1048576) : EvB (fun k => spec_enGood k (rl, S)) (OkP rl S) := enGood_ev rl S.1 S.2.1 S.2.2.1 S.2.2.2 hsp
section
variable (rl : ByteArray) (S : PlS) (hrl : rl.size ≤ 1048576) (hsp : S.1.length ≤ 1048576)
include hrl hsp
theorem isPl_ev : EvB (fun k => impl_IsPlain k (rl, S)) (OkP rl S) := isPlain_ev rl S.1 S.2.1 S.2.2.1 S.2.2.2 hsp (by omega)
theorem plAfter_ev (n : Int) : (∀ l T, OkP rl S → (0 ≤ n ∧ n ≤ 1000) → runF rl n.toNat S = some (l, T) → Ev (fun k => impl_PlainAfter k ((rl, S), n)) ((rl, T), true) ∧ Ev (fun k => spec_PlainAfter k ((rl, S), n)) ((rl, T), true) ∧ Ev (fun k => impl_TurnsOfPlain k ((rl, S), n)) (bs l, true) ∧ Ev (fun k => spec_TurnsOfPlain k ((rl, S), n)) (bs l, true)) ∧
    (¬ GoesP rl S n → Ev (fun k => impl_PlainAfter k ((rl, S), n)) (zeroP, false) ∧ Ev (fun k => spec_PlainAfter k ((rl, S), n)) (zeroP, false) ∧ Ev (fun k => impl_TurnsOfPlain k ((rl, S), n)) (ByteArray.empty, false) ∧ Ev (fun k => spec_TurnsOfPlain k ((rl, S), n)) (ByteArray.empty, false)) := by
  obtain ⟨sp, x, y, wy⟩ := S
  have a1 := isRun_ev rl sp x y wy n hsp (by omega)
  have a2 := enSteps_ev rl sp x y wy n hsp
  by_cases H : PlainOk rl sp x y wy ∧ (0 ≤ n ∧ n ≤ 1000)
  rotate_left
  · exact ⟨fun l T q1 q2 _ => absurd ⟨q1, q2⟩ H, fun _ => ⟨Ev.step (fun k => impl_PlainAfter.eq k rl sp x y wy n) (Ev.bind (a1.isF H) (Ev.yes rfl (Ev.now _))), Ev.step (fun k => spec_PlainAfter.eq k rl sp x y wy n) (Ev.bind (a2.isF H) (Ev.yes rfl (Ev.now _))),
      Ev.step (fun k => impl_TurnsOfPlain.eq k rl sp x y wy n) (Ev.bind (a1.isF H) (Ev.yes rfl (Ev.now _))), Ev.step (fun k => spec_TurnsOfPlain.eq k rl sp x y wy n) (Ev.bind (a2.isF H) (Ev.yes rfl (Ev.now _)))⟩⟩
  obtain ⟨HP, h0, h1⟩ := id H
  obtain ⟨N, rfl⟩ := Int.eq_ofNat_of_zero_le h0
  have hg := going_ev rl x y wy sp hsp (keys_of HP.2.2.2.2.2)
  have ho : Ev (fun k => spec_enOwn k (rl, sp, x, y, wy)) (rl, sp, x, y, wy) := Ev.step (fun k => spec_enOwn.eq k rl sp x y wy) (Ev.yes (fits_of (by have : sp.length ≤ 1048576 := hsp; omega)) (Ev.now' (by rw [List.nil_append])))
  obtain ⟨r1, r2⟩ := runF_ev rl N (by omega) (sp, x, y, wy) _ HP (List.Perm.refl _)
  constructor
  · intro l T _ _ hr
    have hr : runF rl N (sp, x, y, wy) = some (l, T) := hr
    obtain ⟨g', p1, p2, p3⟩ := r1 l T hr
    have HT := (run_facts rl N (sp, x, y, wy) l T HP hr).1
    obtain ⟨sp', x', y', wy'⟩ := T
    exact ⟨Ev.step (fun k => impl_PlainAfter.eq k rl sp x y wy N) (Ev.bind (a1.isT H) (Ev.no rfl (Ev.bind hg (Ev.bind p3 (Ev.no rfl (Ev.bind (plain_ev rl sp' x' y' wy' g' HT p1) (Ev.now _))))))), Ev.step (fun k => spec_PlainAfter.eq k rl sp x y wy N) (Ev.bind (a2.isT H) (Ev.no rfl (Ev.bind ho (Ev.bind p2 (Ev.now _))))),
      Ev.step (fun k => impl_TurnsOfPlain.eq k rl sp x y wy N) (Ev.bind (a1.isT H) (Ev.no rfl (Ev.bind hg (Ev.bind p3 (Ev.now _))))), Ev.step (fun k => spec_TurnsOfPlain.eq k rl sp x y wy N) (Ev.bind (a2.isT H) (Ev.no rfl (Ev.bind p2 (Ev.now _))))⟩
  · intro hno
    cases hr : runF rl N (sp, x, y, wy) with
    | some q => exact absurd ⟨HP, ⟨h0, h1⟩, q, hr⟩ hno
    | none =>
      obtain ⟨G, p2, p3⟩ := r2 hr
      exact ⟨Ev.step (fun k => impl_PlainAfter.eq k rl sp x y wy N) (Ev.bind (a1.isT H) (Ev.no rfl (Ev.bind hg (Ev.bind p3 (Ev.yes rfl (Ev.now _)))))), Ev.step (fun k => spec_PlainAfter.eq k rl sp x y wy N) (Ev.bind (a2.isT H) (Ev.no rfl (Ev.bind ho (Ev.bind p2 (Ev.now _))))),
        Ev.step (fun k => impl_TurnsOfPlain.eq k rl sp x y wy N) (Ev.bind (a1.isT H) (Ev.no rfl (Ev.bind hg (Ev.bind p3 (Ev.now _))))), Ev.step (fun k => spec_TurnsOfPlain.eq k rl sp x y wy N) (Ev.bind (a2.isT H) (Ev.no rfl (Ev.bind p2 (Ev.now _))))⟩
theorem plStep_ev : (OkP rl S ∧ OkP rl (stepF rl S) → Ev (fun k => impl_StepPlain k (rl, S)) ((rl, stepF rl S), true) ∧ Ev (fun k => spec_StepPlain k (rl, S)) ((rl, stepF rl S), true)) ∧
    (¬ (OkP rl S ∧ OkP rl (stepF rl S)) → Ev (fun k => impl_StepPlain k (rl, S)) (zeroP, false) ∧ Ev (fun k => spec_StepPlain k (rl, S)) (zeroP, false)) := by
  obtain ⟨r1, r2⟩ := plAfter_ev rl S hrl hsp 1
  have a2 := goodPl_ev rl S hsp
  constructor
  · rintro ⟨H, H'⟩
    obtain ⟨q, _⟩ := r1 [signF rl S] (stepF rl S) H (by omega) (run_step (n := 0) H')
    obtain ⟨g', ok, k1, _, _, k2, _⟩ := stepF_ev rl S _ H (List.Perm.refl _)
    obtain rfl := k1.2 H'
    obtain ⟨sp, x, y, wy⟩ := S
    exact ⟨Ev.step (fun k => impl_StepPlain.eq k rl sp x y wy) (Ev.bind q (Ev.now _)), Ev.step (fun k => spec_StepPlain.eq k rl sp x y wy) (Ev.bind (a2.isT H) (Ev.no rfl (Ev.bind k2 (Ev.now _))))⟩
  · intro hno
    have hn : ¬ GoesP rl S 1 := by
      rintro ⟨H, _, q, hq⟩
      by_cases c : OkP rl (stepF rl S)
      · exact hno ⟨H, c⟩
      · have : runF rl (0 + 1) S = some q := hq
        rw [run_stop c] at this
        cases this
    obtain ⟨q, _⟩ := r2 hn
    by_cases H : OkP rl S
    · have c : ¬ OkP rl (stepF rl S) := fun c => hno ⟨H, c⟩
      obtain ⟨g', ok, k1, _, _, k2, _⟩ := stepF_ev rl S _ H (List.Perm.refl _)
      obtain rfl : ok = false := by
        cases ok with
        | false => rfl
        | true => exact absurd (k1.1 rfl) c
      obtain ⟨sp, x, y, wy⟩ := S
      exact ⟨Ev.step (fun k => impl_StepPlain.eq k rl sp x y wy) (Ev.bind q (Ev.now _)), Ev.step (fun k => spec_StepPlain.eq k rl sp x y wy) (Ev.bind (a2.isT H) (Ev.no rfl (Ev.bind k2 (Ev.now _))))⟩
    · obtain ⟨sp, x, y, wy⟩ := S
      exact ⟨Ev.step (fun k => impl_StepPlain.eq k rl sp x y wy) (Ev.bind q (Ev.now _)), Ev.step (fun k => spec_StepPlain.eq k rl sp x y wy) (Ev.bind (a2.isF H) (Ev.yes rfl (Ev.now _)))⟩
theorem plDrift_ev (n p : Int) : (∀ l0 A l1 B, OkP rl S → (0 ≤ n ∧ n ≤ 1000) → (0 ≤ p ∧ p ≤ 1000 - n) → runF rl n.toNat S = some (l0, A) → runF rl p.toNat A = some (l1, B) → Ev (fun k => impl_DriftOf k ((rl, S), n, p)) (B.2.1 - A.2.1, B.2.2.1 - A.2.2.1, true) ∧ Ev (fun k => spec_DriftOf k ((rl, S), n, p)) (B.2.1 - A.2.1, B.2.2.1 - A.2.2.1, true)) ∧
    (¬ (OkP rl S ∧ (0 ≤ n ∧ n ≤ 1000) ∧ (0 ≤ p ∧ p ≤ 1000 - n) ∧ ∃ l0 A q, runF rl n.toNat S = some (l0, A) ∧ runF rl p.toNat A = some q) → Ev (fun k => impl_DriftOf k ((rl, S), n, p)) (0, 0, false) ∧ Ev (fun k => spec_DriftOf k ((rl, S), n, p)) (0, 0, false)) := by
  obtain ⟨sp, x, y, wy⟩ := S
  have a1 := isRun_ev rl sp x y wy n hsp (by omega)
  have a2 := enSteps_ev rl sp x y wy n hsp
  by_cases H : PlainOk rl sp x y wy ∧ (0 ≤ n ∧ n ≤ 1000)
  rotate_left
  · exact ⟨fun l0 A l1 B q1 q2 => absurd ⟨q1, q2⟩ H, fun _ => ⟨Ev.step (fun k => impl_DriftOf.eq k rl sp x y wy n p) (Ev.bind (a1.isF H) (Ev.yes rfl (Ev.now _))), Ev.step (fun k => spec_DriftOf.eq k rl sp x y wy n p) (Ev.bind (a2.isF H) (Ev.yes rfl (Ev.now _)))⟩⟩
  have goS : ∀ r, Ev (fun k => (spec_l1In k (p, 0, (w64 (1000 - n)))).bind fun r2 => cond (!r2) (some (0, 0, false)) ((spec_enAfter k ((rl, sp, x, y, wy), n)).bind fun r3 => cond (!r3.2.2) (some (0, 0, false)) ((spec_enAfter k (r3.1, p)).bind fun r4 => cond (!r4.2.2) (some (0, 0, false)) (some ((w64 (r4.1.2.2.1 - r3.1.2.2.1)), (w64 (r4.1.2.2.2.1 - r3.1.2.2.2.1)), true))))) r → Ev (fun k => spec_DriftOf k ((rl, sp, x, y, wy), n, p)) r := fun r hr => Ev.step (fun k => spec_DriftOf.eq k rl sp x y wy n p) (Ev.bind (a2.isT H) (Ev.no rfl hr))
  have goI : ∀ r, Ev (fun k => (impl_within k (p, 0, (w64 (1000 - n)))).bind fun r2 => cond (!r2) (some (0, 0, false)) ((impl_Plain_going k (rl, sp, x, y, wy)).bind fun r3 => (impl_going_run k (r3, n)).bind fun r4 => cond (!r4.1.2) (some (0, 0, false)) ((impl_going_drift k (r4.2, p)).bind fun r5 => cond (!r5.1.2.2.2) (some (0, 0, false)) (some (r5.1.2.1, r5.1.2.2.1, true))))) r → Ev (fun k => impl_DriftOf k ((rl, sp, x, y, wy), n, p)) r := fun r hr => Ev.step (fun k => impl_DriftOf.eq k rl sp x y wy n p) (Ev.bind (a1.isT H) (Ev.no rfl hr))
  obtain ⟨HP, h0, h1⟩ := id H
  have ew : w64 (1000 - n) = 1000 - n := w64_of (by omega) (by omega)
  rw [ew] at goS goI
  by_cases hp : 0 ≤ p ∧ p ≤ 1000 - n
  rotate_left
  · exact ⟨fun l0 A l1 B _ _ q => absurd q hp, fun _ => ⟨goI _ (Ev.bind ((within_ev _ _ _).isF hp) (Ev.yes rfl (Ev.now _))), goS _ (Ev.bind ((l1In_ev _ _ _).isF hp) (Ev.yes rfl (Ev.now _)))⟩⟩
  have i1 := (l1In_ev p 0 (1000 - n)).isT hp
  have i2 := (within_ev p 0 (1000 - n)).isT hp
  obtain ⟨N, rfl⟩ := Int.eq_ofNat_of_zero_le h0
  obtain ⟨P, rfl⟩ := Int.eq_ofNat_of_zero_le hp.1
  have hg := going_ev rl x y wy sp hsp (keys_of HP.2.2.2.2.2)
  obtain ⟨r1, r2⟩ := runF_ev rl N (by omega) (sp, x, y, wy) _ HP (List.Perm.refl _)
  cases hr : runF rl N (sp, x, y, wy) with
  | none =>
    obtain ⟨G, q1, q2⟩ := r2 hr
    refine ⟨fun l0 A l1 B _ _ _ q => ?_, fun _ => ⟨goI _ (Ev.bind i2 (Ev.no rfl (Ev.bind hg (Ev.bind q2 (Ev.yes rfl (Ev.now _)))))), goS _ (Ev.bind i1 (Ev.no rfl (Ev.bind q1 (Ev.yes rfl (Ev.now _)))))⟩⟩
    have q : runF rl N (sp, x, y, wy) = some (l0, A) := q
    rw [hr] at q
    cases q
  | some q =>
    obtain ⟨l0, A⟩ := q
    obtain ⟨g', p1, q1, q2⟩ := r1 l0 A hr
    have HA := (run_facts rl N (sp, x, y, wy) l0 A HP hr).1
    obtain ⟨t1, t2⟩ := runF_ev rl P (by omega) A g' HA p1
    have FA := HA.2.2.1
    cases hr' : runF rl P A with
    | none =>
      obtain ⟨G, u1, u2⟩ := t2 hr'
      refine ⟨fun l0' A' l1 B _ _ _ q q' => ?_, fun _ => ⟨goI _ (Ev.bind i2 (Ev.no rfl (Ev.bind hg (Ev.bind q2 (Ev.no rfl (Ev.bind (Ev.step (fun k => impl_going_drift.eq k rl g' A.2.1 A.2.2.1 A.2.2.2 P) (Ev.bind u2 (Ev.now _))) (Ev.yes rfl (Ev.now _)))))))), goS _ (Ev.bind i1 (Ev.no rfl (Ev.bind q1 (Ev.no rfl (Ev.bind u1 (Ev.yes rfl (Ev.now _)))))))⟩⟩
      have q : runF rl N (sp, x, y, wy) = some (l0', A') := q
      rw [hr] at q
      have q := Option.some.inj q
      simp only [Prod.mk.injEq] at q
      obtain ⟨_, rfl⟩ := q
      have q' : runF rl P A = some (l1, B) := q'
      rw [hr'] at q'
      cases q'
    | some q' =>
      obtain ⟨l1, B⟩ := q'
      obtain ⟨g2, _, u1, u2⟩ := t1 l1 B hr'
      have HB := (run_facts rl P _ l1 B HA hr').1
      have FB := HB.2.2.1
      unfold Far at FA FB
      have ex : w64 (B.2.1 - A.2.1) = B.2.1 - A.2.1 := w64_of (by omega) (by omega)
      have ey : w64 (B.2.2.1 - A.2.2.1) = B.2.2.1 - A.2.2.1 := w64_of (by omega) (by omega)
      refine ⟨fun l0' A' l1' B' _ _ _ q q' => ?_, fun hno => absurd ⟨HP, ⟨h0, h1⟩, hp, l0, A, (l1, B), hr, hr'⟩ hno⟩
      have q : runF rl N (sp, x, y, wy) = some (l0', A') := q
      rw [hr] at q
      have q := Option.some.inj q
      simp only [Prod.mk.injEq] at q
      obtain ⟨_, rfl⟩ := q
      have q' : runF rl P A = some (l1', B') := q'
      rw [hr'] at q'
      have q' := Option.some.inj q'
      simp only [Prod.mk.injEq] at q'
      obtain ⟨_, rfl⟩ := q'
      rw [← ex, ← ey]
      exact ⟨goI _ (Ev.bind i2 (Ev.no rfl (Ev.bind hg (Ev.bind q2 (Ev.no rfl (Ev.bind (Ev.step (fun k => impl_going_drift.eq k rl g' A.2.1 A.2.2.1 A.2.2.2 P) (Ev.bind u2 (Ev.now _))) (Ev.no rfl (Ev.now _)))))))), goS _ (Ev.bind i1 (Ev.no rfl (Ev.bind q1 (Ev.no rfl (Ev.bind u1 (Ev.no rfl (Ev.now _)))))))⟩
end

theorem l1Mod_any (n m : Int) (hm : 1 ≤ m ∧ m ≤ 1000000) (hn : -1000000000 ≤ n ∧ n ≤ 1000000000) : Ev (fun k => spec_l1Mod k (n, m)) (n % m) := by
  have h1 := Int.tmod_lt_of_pos n (show (0 : Int) < m by omega)
  have h2 : -m < n.tmod m := by
    by_cases h0 : 0 ≤ n
    · have := Int.tmod_nonneg m h0
      omega
    · have e : n.tmod m = -((-n).tmod m) := by rw [Int.neg_tmod, Int.neg_neg]
      have := Int.tmod_lt_of_pos (-n) (show (0 : Int) < m by omega)
      omega
  have e1 : w64 (n.tmod m + m) = n.tmod m + m := w64_of (by omega) (by omega)
  refine Ev.step (fun k => spec_l1Mod.eq k n m) (Ev.yes (by rw [bne_iff_ne]; omega) (Ev.yes (by rw [bne_iff_ne]; omega) (Ev.now' ?_)))
  rw [e1, Int.tmod_eq_emod_of_nonneg (by omega), Int.add_emod_right, Int.tmod_def, Int.sub_mul_emod_self_left]
theorem enGoB_ev (rl : ByteArray) (sp : List Sp) (x y wy : Int) (hq : Far x ∧ Far y) (hw : 0 ≤ wy ∧ wy ≤ 3) : Ev (fun k => spec_enGo_2 k ((rl, sp, x, y, wy), (-1))) ((), (rl, sp, x - dxW wy, y - dyW wy, wy)) := by
  unfold Far at hq
  have : wy = 0 ∨ wy = 1 ∨ wy = 2 ∨ wy = 3 := by omega
  have e1 : w64 (y - (-1)) = y - -1 := w64_of (by omega) (by omega)
  have e2 : w64 (x + (-1)) = x - 1 := by rw [w64_of (by omega) (by omega)]; omega
  have e3 : w64 (y + (-1)) = y - 1 := by rw [w64_of (by omega) (by omega)]; omega
  have e4 : w64 (x - (-1)) = x - -1 := w64_of (by omega) (by omega)
  rcases this with rfl | rfl | rfl | rfl
  · exact Ev.step (fun k => spec_enGo_2.eq k rl sp x y 0 (-1)) (Ev.yes rfl (Ev.now' (by rw [e1]; show _ = ((), (rl, sp, x - 0, y - -1, (0 : Int))); rw [Int.sub_zero])))
  · exact Ev.step (fun k => spec_enGo_2.eq k rl sp x y 1 (-1)) (Ev.no rfl (Ev.yes rfl (Ev.now' (by rw [e2]; show _ = ((), (rl, sp, x - 1, y - 0, (1 : Int))); rw [Int.sub_zero]))))
  · exact Ev.step (fun k => spec_enGo_2.eq k rl sp x y 2 (-1)) (Ev.no rfl (Ev.no rfl (Ev.yes rfl (Ev.now' (by rw [e3]; show _ = ((), (rl, sp, x - 0, y - 1, (2 : Int))); rw [Int.sub_zero])))))
  · exact Ev.step (fun k => spec_enGo_2.eq k rl sp x y 3 (-1)) (Ev.no rfl (Ev.no rfl (Ev.no rfl (Ev.now' (by rw [e4]; show _ = ((), (rl, sp, x - -1, y - 0, (3 : Int))); rw [Int.sub_zero])))))
/-- Painted spots of cells that may lie too far. -/
theorem paint_far {t x y p : Int} {sp : List Sp} (h : SpotsOk t sp) (hp : 0 ≤ p ∧ p ≤ t - 1) : (Far x ∧ Far y → SpotsOk t (paintF x y p sp)) ∧ (¬ (Far x ∧ Far y) → p = 0 → SpotsOk t (paintF x y p sp)) := by
  refine ⟨fun hq => paint_ok h hq hp, fun _ h0 => ?_⟩
  obtain ⟨A, B, rfl, C⟩ := cut_ex x y h.2
  rw [cut_paint C]
  unfold paintL
  rw [if_neg (by omega), List.nil_append]
  have hR : ∀ s ∈ restB x y B, s ∈ B := fun s hs => by
    unfold restB at hs
    split at hs
    · exact List.mem_of_mem_tail hs
    · exact hs
  obtain ⟨s1, s2, s3⟩ := List.pairwise_append.1 C.srt
  refine ⟨fun s hs => ?_, List.pairwise_append.2 ⟨s1, ?_, fun a ha b hb => s3 a ha b (hR b hb)⟩⟩
  · rcases List.mem_append.1 hs with hs | hs
    · exact h.1 s (List.mem_append_left _ hs)
    · exact h.1 s (List.mem_append_right _ (hR s hs))
  · unfold restB
    split
    · exact s2.sublist (List.tail_sublist B)
    · exact s2
theorem backP_ev (rl : ByteArray) (S : PlS) (g : List (Pt × Int)) (H : OkP rl S) (hg : g.Perm (S.1.map ent)) : ∃ (g' : List (Pt × Int)) (ok : Bool), (ok = true ↔ OkP rl (backF rl S)) ∧ g'.Perm ((backF rl S).1.map ent) ∧
    Ev (fun k => spec_enBack k (rl, S)) (if ok then ((rl, backF rl S), true) else (zeroP, false)) ∧
    Ev (fun k => impl_going_back k (rl, g, S.2)) (ok, (rl, g', (backF rl S).2)) := by
  obtain ⟨sp, x, y, wy⟩ := S
  obtain ⟨hR, hlen, hq, hw, hS⟩ := id H
  simp only at hR hlen hq hw hS hg
  have h6 := hR.1
  obtain ⟨⟨d1, d2⟩, d3, d4⟩ := dW_range wy
  have hgo := enGoB_ev rl sp x y wy hq hw
  have hbk : backF rl (sp, x, y, wy) = (paintF (x - dxW wy) (y - dyW wy) (wasC rl (sp, x, y, wy)) sp, x - dxW wy, y - dyW wy, (wy - quartersB ((rl.data.toList.getD (wasC rl (sp, x, y, wy)).toNat 0).toNat : Int)) % 4) := rfl
  have hcw : wasC rl (sp, x, y, wy) = (colF (x - dxW wy) (y - dyW wy) sp - 1) % (rl.size : Int) := rfl
  unfold Far at hq
  have hX : -1001 ≤ x - dxW wy ∧ x - dxW wy ≤ 1001 := by omega
  have hY : -1001 ≤ y - dyW wy ∧ y - dyW wy ≤ 1001 := by omega
  have ex : w64 (x - dxW wy) = x - dxW wy := w64_of (by omega) (by omega)
  have ey : w64 (y - dyW wy) = y - dyW wy := w64_of (by omega) (by omega)
  have hah := ahead_ev wy hw
  rw [hbk]
  generalize hXe : x - dxW wy = X at *
  generalize hYe : y - dyW wy = Y at *
  have hcr := col_range (x := X) (y := Y) (show (1 : Int) ≤ (rl.size : Int) by omega) hS
  have hcol := enColourF_ev rl hS (by omega) X Y wy X Y
  have hget := gotF hS hg X Y
  have hc0 : 0 ≤ (colF X Y sp - 1) % (rl.size : Int) := Int.emod_nonneg _ (by omega)
  have hc1 : (colF X Y sp - 1) % (rl.size : Int) < (rl.size : Int) := Int.emod_lt_of_pos _ (by omega)
  have hmod := l1Mod_any (colF X Y sp - 1) (rl.size : Int) (by omega) (by omega)
  have ec1 : w64 (colF X Y sp - 1) = colF X Y sp - 1 := w64_of (by omega) (by omega)
  have ec2 : (w64 (w64 (colF X Y sp + (rl.size : Int)) - 1)).tmod (rl.size : Int) = (colF X Y sp - 1) % (rl.size : Int) := by
    rw [w64_of (n := colF X Y sp + (rl.size : Int)) (by omega) (by omega), w64_of (by omega) (by omega), Int.tmod_eq_emod_of_nonneg (by omega), show colF X Y sp + (rl.size : Int) - 1 = colF X Y sp - 1 + (rl.size : Int) by omega, Int.add_emod_right]
  rw [hcw]
  generalize (colF X Y sp - 1) % (rl.size : Int) = c at hc0 hc1 hmod ec2
  obtain ⟨z, hz⟩ := byte_at (cs := rl) (i := c.toNat) (by omega)
  have hbt := bt_at hz
  have ezd : rl.data.toList.getD c.toNat 0 = z := by rw [List.getD_eq_getElem?_getD, hz]; rfl
  rw [ezd]
  obtain ⟨q0, q3⟩ := quartersB_range (z.toNat : Int)
  have hinB : inB c rl.size = true := inB_of hc0 hc1
  have hne : ((rl.size : Int) != 0) = true := by rw [bne_iff_ne]; omega
  have hmodw := l1Mod_any (wy - quartersB (z.toNat : Int)) 4 (by omega) (by omega)
  have ew1 : w64 (wy - quartersB (z.toNat : Int)) = wy - quartersB (z.toNat : Int) := w64_of (by omega) (by omega)
  have ew2 : (w64 (w64 (wy + 4) - quartersB (z.toNat : Int))).tmod 4 = (wy - quartersB (z.toNat : Int)) % 4 := by
    rw [w64_of (n := wy + 4) (by omega) (by omega), w64_of (by omega) (by omega), Int.tmod_eq_emod_of_nonneg (by omega)]
    omega
  have hwz : 0 ≤ (wy - quartersB (z.toNat : Int)) % 4 ∧ (wy - quartersB (z.toNat : Int)) % 4 ≤ 3 := by omega
  generalize (wy - quartersB (z.toNat : Int)) % 4 = wz at hmodw ew2 hwz
  have hpp := permF hS hg X Y c
  have hll := paintF_len (x := X) (y := Y) (p := c) hS
  have hP : Ev (fun k => spec_enPaint k (sp, X, Y, c)) (paintF X Y c sp) := enPaintF_ev hS (by omega) X Y c
  have goS : ∀ ok : Bool, Ev (fun k => spec_enGood k (rl, paintF X Y c sp, X, Y, wz)) ok → Ev (fun k => spec_enBack k (rl, sp, x, y, wy)) (if ok then ((rl, paintF X Y c sp, X, Y, wz), true) else (zeroP, false)) := fun ok hk => by
    refine Ev.step (fun k => spec_enBack.eq k rl sp x y wy) (Ev.bind hgo (Ev.bind hcol ?_))
    rw [ec1]
    refine Ev.bind hmod (Ev.bind hP (Ev.yes hinB ?_))
    rw [hbt]
    refine Ev.bind (woTurn_ev _) ?_
    rw [ew1]
    refine Ev.bind hmodw (Ev.bind hk ?_)
    cases ok with
    | true => exact Ev.no rfl (Ev.now _)
    | false => exact Ev.yes rfl (Ev.now _)
  have goI : ∀ ok : Bool, Ev (fun k => impl_going_isPlain k (rl, paintG X Y c g, X, Y, wz)) ok → Ev (fun k => impl_going_back k (rl, g, x, y, wy)) (ok, (rl, paintG X Y c g, X, Y, wz)) := fun ok hk => by
    refine Ev.step (fun k => impl_going_back.eq k rl g x y wy) (Ev.bind hah ?_)
    have hget' : mget (K := (Int × Int)) (α := Int) (Sh.eqT (.pair (.int .i64) (.int .i64))) g (X, Y) 0 = colF X Y sp := hget
    simp only [hXe, hYe, ex, ey, hget', ec2]
    refine Ev.yes hne (Ev.yes hinB ?_)
    rw [hbt]
    refine Ev.bind (quarters_ev _) ?_
    rw [ew2]
    exact Ev.bind (going_paint_ev rl g X Y wz X Y c) (Ev.bind hk (Ev.now _))
  by_cases hf : (Far X ∧ Far Y)
  · obtain ⟨ok, k1, k2, k3⟩ := stillF rl hR (paint_ok hS hf ⟨hc0, by omega⟩) (by omega) hpp X Y wz hwz
    exact ⟨_, ok, k1, hpp, goS ok k2, goI ok k3⟩
  · have hno : ¬ OkP rl (paintF X Y c sp, X, Y, wz) := fun h => hf h.2.2.1
    have k2 := (enGood_ev rl (paintF X Y c sp) X Y wz (by omega)).isF hno
    have k3 : Ev (fun k => impl_going_isPlain k (rl, paintG X Y c g, X, Y, wz)) false := Ev.step (fun k => impl_going_isPlain.eq k rl _ _ _ wz) (Ev.bind ((isNear_ev X Y).isF hf) (Ev.no rfl (Ev.now _)))
    exact ⟨_, false, ⟨nofun, fun h => absurd h hno⟩, hpp, goS false k2, goI false k3⟩
theorem befores_ev (rl : ByteArray) (n : Nat) (hn : n ≤ 1000) : ∀ (m i : Nat) (S : PlS) (g : List (Pt × Int)), i + m = n → OkP rl S → g.Perm (S.1.map ent) →
    (∀ U, brunF rl m S = some U → ∃ g' : List (Pt × Int), g'.Perm (U.1.map ent) ∧ Ev (fun k => spec_PlainBefore_l k ((m : Int), (rl, S), zeroP)) (.inr ((rl, U), zeroP)) ∧ Ev (fun k => impl_PlainBefore_l k (zeroP, (rl, g, S.2), (n : Int), (i : Int))) (.inr (zeroP, (rl, g', U.2)))) ∧
    (brunF rl m S = none → Ev (fun k => spec_PlainBefore_l k ((m : Int), (rl, S), zeroP)) (.inl (zeroP, false)) ∧ Ev (fun k => impl_PlainBefore_l k (zeroP, (rl, g, S.2), (n : Int), (i : Int))) (.inl (zeroP, false)))
  | 0, i, S, g, hi, H, hg => by
    refine ⟨fun U h => ?_, fun h => by cases h⟩
    obtain rfl : S = U := Option.some.inj h
    obtain ⟨sp, x, y, wy⟩ := S
    exact ⟨g, hg, Ev.step (fun k => spec_PlainBefore_l.eq k _ rl sp x y wy ByteArray.empty [] 0 0 0) (Ev.no rfl (Ev.now _)), Ev.step (fun k => impl_PlainBefore_l.eq k ByteArray.empty [] 0 0 0 rl g x y wy _ _) (Ev.no (not_lt_nat (by omega)) (Ev.now _))⟩
  | m + 1, i, S, g, hi, H, hg => by
    obtain ⟨g1, ok, hok, hg1, hS, hI⟩ := backP_ev rl S g H hg
    have e2 : w64 (((m + 1 : Nat) : Int) - 1) = (m : Int) := by rw [w64_of (by omega) (by omega)]; omega
    have goS : ∀ r, Ev (fun k => (spec_enBack k (rl, S)).bind fun r1 => cond (!r1.2) (some (.inl (zeroP, false))) (spec_PlainBefore_l k ((m : Int), r1.1, zeroP))) r → Ev (fun k => spec_PlainBefore_l k (((m + 1 : Nat) : Int), (rl, S), zeroP)) r := fun r hr => by
      obtain ⟨sp, x, y, wy⟩ := S
      refine Ev.step (fun k => spec_PlainBefore_l.eq k _ rl sp x y wy ByteArray.empty [] 0 0 0) (Ev.yes (decide_eq_true (by omega)) ?_)
      rw [e2]
      exact hr
    have goI : ∀ r, Ev (fun k => cond (!ok) (some (.inl (zeroP, false))) (impl_PlainBefore_l k (zeroP, (rl, g1, (backF rl S).2), (n : Int), ((i + 1 : Nat) : Int)))) r → Ev (fun k => impl_PlainBefore_l k (zeroP, (rl, g, S.2), (n : Int), (i : Int))) r := fun r hr => by
      obtain ⟨sp, x, y, wy⟩ := S
      refine Ev.step (fun k => impl_PlainBefore_l.eq k ByteArray.empty [] 0 0 0 rl g x y wy _ _) (Ev.yes (lt_nat (by omega)) (Ev.bind hI ?_))
      rw [w64_succ (by omega)]
      exact hr
    cases ok with
    | false =>
      have hno : ¬ OkP rl (backF rl S) := fun h => by have := hok.2 h; cases this
      exact ⟨fun U h => (by rw [brun_stop hno] at h; cases h), fun _ => ⟨goS _ (Ev.bind hS (Ev.yes rfl (Ev.now _))), goI _ (Ev.yes rfl (Ev.now _))⟩⟩
    | true =>
      have hyes := hok.1 rfl
      obtain ⟨r1, r2⟩ := befores_ev rl n hn m (i + 1) (backF rl S) g1 (by omega) hyes hg1
      rw [brun_step hyes]
      refine ⟨fun U h => ?_, fun h => ?_⟩
      · obtain ⟨g', p1, p2, p3⟩ := r1 U h
        exact ⟨g', p1, goS _ (Ev.bind hS (Ev.no rfl p2)), goI _ (Ev.no rfl p3)⟩
      · obtain ⟨p2, p3⟩ := r2 h
        exact ⟨goS _ (Ev.bind hS (Ev.no rfl p2)), goI _ (Ev.no rfl p3)⟩
section
variable (rl : ByteArray) (S : PlS) (hrl : rl.size ≤ 1048576) (hsp : S.1.length ≤ 1048576)
include hrl hsp
theorem plBefore_ev (n : Int) : (∀ T, OkP rl S → (0 ≤ n ∧ n ≤ 1000) → brunF rl n.toNat S = some T → Ev (fun k => impl_PlainBefore k ((rl, S), n)) ((rl, T), true) ∧ Ev (fun k => spec_PlainBefore k ((rl, S), n)) ((rl, T), true)) ∧
    (¬ (OkP rl S ∧ (0 ≤ n ∧ n ≤ 1000) ∧ ∃ T, brunF rl n.toNat S = some T) → Ev (fun k => impl_PlainBefore k ((rl, S), n)) (zeroP, false) ∧ Ev (fun k => spec_PlainBefore k ((rl, S), n)) (zeroP, false)) := by
  obtain ⟨sp, x, y, wy⟩ := S
  have a1 := isRun_ev rl sp x y wy n hsp (by omega)
  have a2 := enSteps_ev rl sp x y wy n hsp
  by_cases H : PlainOk rl sp x y wy ∧ (0 ≤ n ∧ n ≤ 1000)
  rotate_left
  · exact ⟨fun T q1 q2 _ => absurd ⟨q1, q2⟩ H, fun _ => ⟨Ev.step (fun k => impl_PlainBefore.eq k rl sp x y wy n) (Ev.bind (a1.isF H) (Ev.yes rfl (Ev.now _))), Ev.step (fun k => spec_PlainBefore.eq k rl sp x y wy n) (Ev.bind (a2.isF H) (Ev.yes rfl (Ev.now _)))⟩⟩
  obtain ⟨HP, h0, h1⟩ := id H
  obtain ⟨N, rfl⟩ := Int.eq_ofNat_of_zero_le h0
  have hg := going_ev rl x y wy sp hsp (keys_of HP.2.2.2.2.2)
  have ho : Ev (fun k => spec_enOwn k (rl, sp, x, y, wy)) (rl, sp, x, y, wy) := Ev.step (fun k => spec_enOwn.eq k rl sp x y wy) (Ev.yes (fits_of (by have : sp.length ≤ 1048576 := hsp; omega)) (Ev.now' (by rw [List.nil_append])))
  obtain ⟨r1, r2⟩ := befores_ev rl N (by omega) N 0 (sp, x, y, wy) _ (by omega) HP (List.Perm.refl _)
  constructor
  · intro T _ _ hr
    have hr : brunF rl N (sp, x, y, wy) = some T := hr
    obtain ⟨g', p1, p2, p3⟩ := r1 T hr
    have HT := brun_ok rl N (sp, x, y, wy) T HP hr
    obtain ⟨sp', x', y', wy'⟩ := T
    exact ⟨Ev.step (fun k => impl_PlainBefore.eq k rl sp x y wy N) (Ev.bind (a1.isT H) (Ev.no rfl (Ev.bind hg (Ev.bind p3 (Ev.bind (plain_ev rl sp' x' y' wy' g' HT p1) (Ev.now _)))))), Ev.step (fun k => spec_PlainBefore.eq k rl sp x y wy N) (Ev.bind (a2.isT H) (Ev.no rfl (Ev.bind ho (Ev.bind p2 (Ev.now _)))))⟩
  · intro hno
    cases hr : brunF rl N (sp, x, y, wy) with
    | some q => exact absurd ⟨HP, ⟨h0, h1⟩, q, hr⟩ hno
    | none =>
      obtain ⟨p2, p3⟩ := r2 hr
      exact ⟨Ev.step (fun k => impl_PlainBefore.eq k rl sp x y wy N) (Ev.bind (a1.isT H) (Ev.no rfl (Ev.bind hg (Ev.bind p3 (Ev.now _))))), Ev.step (fun k => spec_PlainBefore.eq k rl sp x y wy N) (Ev.bind (a2.isT H) (Ev.no rfl (Ev.bind ho (Ev.bind p2 (Ev.now _)))))⟩
theorem hereC_ev (H : OkP rl S) : Ev (fun k => impl_ColourOfSpot k ((rl, S), S.2.1, S.2.2.1)) (hereF S, true) := by
  have a1 := (isPl_ev rl S hrl hsp).isT H
  obtain ⟨sp, x, y, wy⟩ := S
  obtain ⟨hR, hlen, hq, hw, hS⟩ := id H
  have hg := going_ev rl x y wy sp hsp (keys_of hS.2)
  have hget : mget (K := (Int × Int)) (α := Int) (Sh.eqT (.pair (.int .i64) (.int .i64))) (sp.map ent) (x, y) 0 = colF x y sp := gotF hS (List.Perm.refl _) x y
  refine Ev.step (fun k => impl_ColourOfSpot.eq k rl sp x y wy x y) (Ev.bind a1 (Ev.no rfl (Ev.bind ((isNear_ev x y).isT hq) (Ev.no rfl (Ev.bind hg (Ev.now' ?_))))))
  dsimp only
  rw [hget]
  rfl
end
theorem dPlain_ev (p : Pl) (hl : p.2.1.length ≤ 1048576) : Ev (fun k => laws_dPlain k (p, p)) true := by
  obtain ⟨rl, sp, x, y, wy⟩ := p
  simp only at hl
  have sS : ∀ s : ByteArray, (!(strEq s s)) = false := fun s => by rw [strEq_self]; rfl
  have loop : ∀ m i : Nat, i + m = sp.length → Ev (fun k => laws_dPlain_l k ((rl, sp, x, y, wy), (rl, sp, x, y, wy), (sp.length : Int), (i : Int))) (.inr ()) := by
    intro m
    induction m with
    | zero =>
      intro i hi
      exact Ev.step (fun k => laws_dPlain_l.eq k rl sp x y wy rl sp x y wy _ _) (Ev.no (not_lt_nat (by omega)) (Ev.now _))
    | succ m ih =>
      intro i hi
      refine Ev.step (fun k => laws_dPlain_l.eq k rl sp x y wy rl sp x y wy _ _) (Ev.yes (lt_nat (by omega)) (Ev.yes (inB_nat (by omega)) (Ev.yes (inB_nat (by omega)) (Ev.no (by simp) ?_))))
      rw [w64_succ (by omega)]
      exact ih (i + 1) (by omega)
  exact Ev.step (fun k => laws_dPlain.eq k rl sp x y wy rl sp x y wy) (Ev.no (sS _) (Ev.no (neq_self _) (Ev.no (neq_self _) (Ev.no (neq_self _) (Ev.no (neq_self _) (Ev.bind (loop sp.length 0 (by omega)) (Ev.now _)))))))

theorem paints_l_ev (rl : ByteArray) (hr : 1 ≤ rl.size ∧ rl.size ≤ 6) (X Y W : Int) : ∀ (m n : Nat) (c : CurT) (sp : List Sp), CurOk n c → n + 6 * m + 200 ≤ 1099511627776 → SpotsOk rl.size sp → sp.length + m ≤ 100 →
    ∃ sp' c', Ev (fun k => spec_l1Cur_plain_l k (c, zeroP, (rl, sp, X, Y, W), (m : Int), ())) (c', zeroP, (rl, sp', X, Y, W), ()) ∧ SpotsOk rl.size sp' ∧ sp'.length ≤ sp.length + m ∧ CurOk (n + 6 * m) c'
  | 0, n, c, sp, H, hn, hS, hl => by
    obtain ⟨code, at_, seed⟩ := c
    exact ⟨sp, _, Ev.step (fun k => spec_l1Cur_plain_l.eq k code at_ seed ByteArray.empty [] 0 0 0 rl sp X Y W _) (Ev.no rfl (Ev.now _)), hS, by omega, H⟩
  | m + 1, n, c, sp, H, hn, hS, hl => by
    obtain ⟨a, c1, e1, a0, a1, H1⟩ := pick_ev n c H (by omega) 5
    obtain ⟨b, c2, e2, b0, b1, H2⟩ := pick_ev _ c1 H1 (by omega) 5
    obtain ⟨p, c3, e3, p0, p1, H3⟩ := pick_ev _ c2 H2 (by omega) (rl.size : Int)
    have a1 := a1 (by omega)
    have b1 := b1 (by omega)
    have p1 := p1 (by omega)
    have ea : w64 (a - 2) = a - 2 := w64_of (by omega) (by omega)
    have eb : w64 (b - 2) = b - 2 := w64_of (by omega) (by omega)
    have hP := enPaintF_ev hS (by omega) (a - 2) (b - 2) p
    have hok := paint_ok hS (x := a - 2) (y := b - 2) (p := p) (by unfold Far; omega) (by omega)
    have hlen := paintF_len (x := a - 2) (y := b - 2) (p := p) hS
    obtain ⟨sp', c', g1, g2, g3, g4⟩ := paints_l_ev rl hr X Y W m (n + 6) c3 (paintF (a - 2) (b - 2) p sp) H3 (by omega) hok (by omega)
    obtain ⟨code, at_, seed⟩ := c
    refine ⟨sp', c', Ev.step (fun k => spec_l1Cur_plain_l.eq k code at_ seed ByteArray.empty [] 0 0 0 rl sp X Y W _) (Ev.yes (decide_eq_true (by omega)) (Ev.bind e1 (Ev.bind e2 (Ev.bind e3 ?_)))), g2, by omega, by rw [show n + 6 * (m + 1) = n + 6 + 6 * m by omega]; exact g4⟩
    rw [ea, eb, show w64 (((m + 1 : Nat) : Int) - 1) = (m : Int) by rw [w64_of (by omega) (by omega)]; omega]
    exact Ev.bind hP g1
theorem spots_l_ev (X Y W : Int) : ∀ (m n : Nat) (c : CurT) (sp : List Sp), CurOk n c → n + 2 * m + 200 ≤ 1099511627776 → 302 ≤ sp.length + m → sp.length ≤ 302 →
    ∃ sp' c', Ev (fun k => spec_l1Cur_plain_l_2 k (c, zeroP, (bs [76, 82], sp, X, Y, W), ())) (zeroP, (bs [76, 82], sp', X, Y, W), c') ∧ sp'.length ≤ 302 ∧ CurOk (n + 2 * m + 2) c'
  | 0, n, c, sp, H, hn, hm, hl => by
    obtain ⟨r, c1, e1, r0, r1, H1⟩ := pick_ev n c H (by omega) 2
    have r1 := r1 (by omega)
    obtain ⟨code, at_, seed⟩ := c
    exact ⟨sp, _, Ev.step (fun k => spec_l1Cur_plain_l_2.eq k code at_ seed ByteArray.empty [] 0 0 0 _ sp X Y W) (Ev.bind e1 (Ev.no (decide_eq_false (by rw [w64_of (by omega) (by omega)]; omega)) (Ev.now _))), hl, H1⟩
  | m + 1, n, c, sp, H, hn, hm, hl => by
    obtain ⟨r, c1, e1, r0, r1, H1⟩ := pick_ev n c H (by omega) 2
    have r1 := r1 (by omega)
    by_cases hc : (sp.length : Int) < 300 + r
    · obtain ⟨sp', c', g1, g2, g3⟩ := spots_l_ev X Y W m (n + 2) c1 (sp ++ [((sp.length : Int), (7, 1))]) H1 (by omega) (by rw [List.length_append, List.length_singleton]; omega) (by rw [List.length_append, List.length_singleton]; omega)
      obtain ⟨code, at_, seed⟩ := c
      exact ⟨sp', c', Ev.step (fun k => spec_l1Cur_plain_l_2.eq k code at_ seed ByteArray.empty [] 0 0 0 _ sp X Y W) (Ev.bind e1 (Ev.yes (decide_eq_true (by rw [w64_of (by omega) (by omega)]; exact hc)) (Ev.yes (fits_of (by omega)) g1))), g2, by rw [show n + 2 * (m + 1) + 2 = n + 2 + 2 * m + 2 by omega]; exact g3⟩
    · obtain ⟨code, at_, seed⟩ := c
      exact ⟨sp, _, Ev.step (fun k => spec_l1Cur_plain_l_2.eq k code at_ seed ByteArray.empty [] 0 0 0 _ sp X Y W) (Ev.bind e1 (Ev.no (decide_eq_false (by rw [w64_of (by omega) (by omega)]; exact hc)) (Ev.now _))), hl, H1.mono (by omega) (by omega)⟩
theorem plainD_ev (n : Nat) (c : CurT) (H : CurOk n c) (hn : n + 4000 ≤ 1099511627776) : ∃ p c', Ev (fun k => spec_l1Cur_plain k c) (p, c') ∧ (p.1.size ≤ 10 ∧ p.2.1.length ≤ 400) ∧ CurOk (n + 2000) c' := by
  obtain ⟨rl, c1, e1, hR, hr4, H1⟩ := sureRule_ev n c H (by omega)
  obtain ⟨a, c2, e2, _, _, H2⟩ := pick_ev _ c1 H1 (by omega) 5
  obtain ⟨b, c3, e3, _, _, H3⟩ := pick_ev _ c2 H2 (by omega) 5
  obtain ⟨w, c4, e4, _, _, H4⟩ := pick_ev _ c3 H3 (by omega) 4
  obtain ⟨r, c5, e5, r0, r1, H5⟩ := pick_ev _ c4 H4 (by omega) 6
  have r1 := r1 (by omega)
  obtain ⟨m, rfl⟩ := Int.eq_ofNat_of_zero_le r0
  obtain ⟨sp, c6, e6, hS, hl, H6⟩ := paints_l_ev rl hR.1 (w64 (a - 2)) (w64 (b - 2)) w m _ c5 [] H5 (by omega) ⟨fun s hs => (by cases hs), List.Pairwise.nil⟩ (by show 0 + m ≤ 100; omega)
  have hl : sp.length ≤ 6 := by simp only [List.length_nil] at hl; omega
  have H6 := H6.mono (m := n + 100) (by omega) (by omega)
  obtain ⟨s, c7, e7, _, _, H7⟩ := pick_ev _ c6 H6 (by omega) 18
  obtain ⟨x0, d0, f0, _, K0⟩ := among_ev _ c7 H7 (by omega) [(-1000), 1000, 1001, 4611686018427387904] (by decide)
  obtain ⟨x1, d1, f1, _, _, K1⟩ := pick_ev _ c7 H7 (by omega) 3
  obtain ⟨x2, d2, f2, _, K2⟩ := among_ev _ d1 K1 (by omega) [(-3), 0, 3, 1001] (by decide)
  obtain ⟨x3, d3, f3, _, K3⟩ := among_ev _ d2 K2 (by omega) [0, 1, 5, 6, (-1)] (by decide)
  obtain ⟨u, d4, f4, hu, K4⟩ := of_ev _ c7 H7 (by omega) [ByteArray.empty, (bs [76, 82, 88]), (bs [76, 82, 76, 82, 76, 82, 76]), (bs [108])] (by decide)
  obtain ⟨x5, d5, f5, _, K5⟩ := among_ev _ c7 H7 (by omega) [(-1), 4] (by decide)
  obtain ⟨sp6, d6, f6, hl6, K6⟩ := spots_l_ev (w64 (a - 2)) (w64 (b - 2)) w 302 _ c7 [] H7 (by omega) (by decide) (by decide)
  obtain ⟨x7, d7, f7, _, K7⟩ := among_ev _ c7 H7 (by omega) [(-990), (-2)] (by decide)
  have hu10 : u.size ≤ 10 := by
    simp only [List.mem_cons, List.not_mem_nil, or_false] at hu
    rcases hu with rfl | rfl | rfl | rfl <;> decide
  have M : ∀ {j : Nat} {d : CurT}, CurOk j d → j ≤ n + 2000 → CurOk (n + 2000) d := fun h hj => h.mono hj (by omega)
  obtain ⟨code, at_, seed⟩ := c
  cases s0 : s == 0 with
  | true => exact ⟨_, _, Ev.step (fun k => spec_l1Cur_plain.eq k code at_ seed) (Ev.bind e1 (Ev.bind e2 (Ev.bind e3 (Ev.bind e4 (Ev.bind e5 (Ev.bind e6 (Ev.bind e7 (Ev.yes s0 (Ev.bind f0 (Ev.now _)))))))))), ⟨by show rl.size ≤ 10; omega, by show sp.length ≤ 400; omega⟩, M K0 (by omega)⟩
  | false =>
  cases s1 : s == 1 with
  | true => exact ⟨_, _, Ev.step (fun k => spec_l1Cur_plain.eq k code at_ seed) (Ev.bind e1 (Ev.bind e2 (Ev.bind e3 (Ev.bind e4 (Ev.bind e5 (Ev.bind e6 (Ev.bind e7 (Ev.no s0 (Ev.yes s1 (Ev.bind f1 (Ev.bind f2 (Ev.bind f3 (Ev.yes (fits_of (by show (sp.length + 1) * 24 < _; omega)) (Ev.now _)))))))))))))), ⟨by show rl.size ≤ 10; omega, by show (sp ++ [(x1, (x2, x3))]).length ≤ 400; rw [List.length_append, List.length_singleton]; omega⟩, M K3 (by omega)⟩
  | false =>
  cases s2 : s == 2 with
  | true => exact ⟨_, _, Ev.step (fun k => spec_l1Cur_plain.eq k code at_ seed) (Ev.bind e1 (Ev.bind e2 (Ev.bind e3 (Ev.bind e4 (Ev.bind e5 (Ev.bind e6 (Ev.bind e7 (Ev.no s0 (Ev.no s1 (Ev.yes s2 (Ev.bind f4 (Ev.now _)))))))))))), ⟨hu10, by show sp.length ≤ 400; omega⟩, M K4 (by omega)⟩
  | false =>
  cases s3 : s == 3 with
  | true => exact ⟨_, _, Ev.step (fun k => spec_l1Cur_plain.eq k code at_ seed) (Ev.bind e1 (Ev.bind e2 (Ev.bind e3 (Ev.bind e4 (Ev.bind e5 (Ev.bind e6 (Ev.bind e7 (Ev.no s0 (Ev.no s1 (Ev.no s2 (Ev.yes s3 (Ev.bind f5 (Ev.now _))))))))))))), ⟨by show rl.size ≤ 10; omega, by show sp.length ≤ 400; omega⟩, M K5 (by omega)⟩
  | false =>
  cases s4 : s == 4 with
  | true => exact ⟨_, _, Ev.step (fun k => spec_l1Cur_plain.eq k code at_ seed) (Ev.bind e1 (Ev.bind e2 (Ev.bind e3 (Ev.bind e4 (Ev.bind e5 (Ev.bind e6 (Ev.bind e7 (Ev.no s0 (Ev.no s1 (Ev.no s2 (Ev.no s3 (Ev.yes s4 (Ev.bind f6 (Ev.now _)))))))))))))), ⟨by show (bs [76, 82]).size ≤ 10; decide, by show sp6.length ≤ 400; omega⟩, M K6 (by omega)⟩
  | false =>
  cases s5 : s == 5 with
  | true => exact ⟨_, _, Ev.step (fun k => spec_l1Cur_plain.eq k code at_ seed) (Ev.bind e1 (Ev.bind e2 (Ev.bind e3 (Ev.bind e4 (Ev.bind e5 (Ev.bind e6 (Ev.bind e7 (Ev.no s0 (Ev.no s1 (Ev.no s2 (Ev.no s3 (Ev.no s4 (Ev.yes s5 (Ev.bind f7 (Ev.now _))))))))))))))), ⟨by show (bs [78]).size ≤ 10; decide, by show ([] : List Sp).length ≤ 400; decide⟩, M K7 (by omega)⟩
  | false => exact ⟨_, _, Ev.step (fun k => spec_l1Cur_plain.eq k code at_ seed) (Ev.bind e1 (Ev.bind e2 (Ev.bind e3 (Ev.bind e4 (Ev.bind e5 (Ev.bind e6 (Ev.bind e7 (Ev.no s0 (Ev.no s1 (Ev.no s2 (Ev.no s3 (Ev.no s4 (Ev.no s5 (Ev.now _)))))))))))))), ⟨by show rl.size ≤ 10; omega, by show sp.length ≤ 400; omega⟩, M H7 (by omega)⟩
theorem goingD_ev (n : Nat) (c : CurT) (H : CurOk n c) (hn : n + 100 ≤ 1099511627776) : ∃ s c', Ev (fun k => spec_l1Cur_going k c) (s, c') ∧ CurOk (n + 10) c' := by
  obtain ⟨b, c1, e1, H1⟩ := one_ev n c H (by omega) 14
  obtain ⟨a, c2, e2, _, H2⟩ := among_ev _ c1 H1 (by omega) [(-1), 0, 1000, 1001, 4611686018427387904] (by decide)
  obtain ⟨r, c3, e3, _, _, H3⟩ := pick_ev _ c1 H1 (by omega) 60
  obtain ⟨code, at_, seed⟩ := c
  cases b with
  | true => exact ⟨_, _, Ev.step (fun k => spec_l1Cur_going.eq k code at_ seed) (Ev.bind e1 (Ev.yes rfl (Ev.bind e2 (Ev.now _)))), H2.mono (by omega) (by omega)⟩
  | false => exact ⟨_, _, Ev.step (fun k => spec_l1Cur_going.eq k code at_ seed) (Ev.bind e1 (Ev.no rfl (Ev.bind e3 (Ev.now _)))), H3.mono (by omega) (by omega)⟩
section
variable (code : List Int) (hc : ∀ x ∈ code, 0 ≤ x ∧ x ≤ 255)
include hc
theorem drawAfterP_ev : ∃ p n, Ev (fun k => spec_DrawPlainAfter k code) (p, n) ∧ p.1.size ≤ 10 ∧ p.2.1.length ≤ 400 := by
  obtain ⟨p, c1, e1, ⟨z1, z2⟩, H1⟩ := plainD_ev 0 (code, 0, 0) (CurOk.start hc) (by omega)
  obtain ⟨n, c2, e2, H2⟩ := goingD_ev _ c1 H1 (by omega)
  exact ⟨p, n, Ev.step (fun k => spec_DrawPlainAfter.eq k code) (Ev.bind e1 (Ev.bind e2 (Ev.now _))), z1, z2⟩
theorem drawStepP_ev : ∃ p, Ev (fun k => spec_DrawStepPlain k code) p ∧ p.1.size ≤ 10 ∧ p.2.1.length ≤ 400 := by
  obtain ⟨p, c1, e1, ⟨z1, z2⟩, H1⟩ := plainD_ev 0 (code, 0, 0) (CurOk.start hc) (by omega)
  exact ⟨p, Ev.step (fun k => spec_DrawStepPlain.eq k code) (Ev.bind (Ev.step (fun k => spec_DrawIsPlain.eq k code) (Ev.bind e1 (Ev.now _))) (Ev.now _)), z1, z2⟩
theorem drawHighP_ev : ∃ p n q, Ev (fun k => spec_DrawIsHighway k code) (p, n, q) ∧ p.1.size ≤ 10 ∧ p.2.1.length ≤ 400 := by
  obtain ⟨p, c1, e1, ⟨z1, z2⟩, H1⟩ := plainD_ev 0 (code, 0, 0) (CurOk.start hc) (by omega)
  obtain ⟨n, c2, e2, H2⟩ := goingD_ev _ c1 H1 (by omega)
  obtain ⟨a, c3, e3, _, _, H3⟩ := pick_ev _ c2 H2 (by omega) 20
  obtain ⟨b, c4, e4, _, _, H4⟩ := pick_ev _ c3 H3 (by omega) 9
  exact ⟨p, n, _, Ev.step (fun k => spec_DrawIsHighway.eq k code) (Ev.bind (Ev.step (fun k => spec_DrawDriftOf.eq k code) (Ev.bind e1 (Ev.bind e2 (Ev.bind e3 (Ev.bind e4 (Ev.now _)))))) (Ev.now _)), z1, z2⟩
end
end Go.Proofs.YtplamonjnlgomaaGreatDoorS
