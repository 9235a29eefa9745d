/- Turtles: programs as lists of parts, and where they lead. -/
import Derived.Test.YtfklcheeoieniaaGreatPuOther
import Derived.Test.YtfklcheeoieniaaGreatPuProg
namespace Go.Proofs.YtfklcheeoieniaaGreatS
open Go
set_option linter.unusedVariables false
set_option linter.unusedSimpArgs false

abbrev Pa : Type := Nat × UInt8
abbrev Tu : Type := Int × Int × Int
def encL : List Pa → List UInt8
  | [] => []
  | p :: P => UInt8.ofNat (48 + p.1) :: p.2 :: encL P
def enc (P : List Pa) : ByteArray := bs (encL P)
def PaOk (p : Pa) : Prop := p.1 ≤ 9 ∧ SignC p.2
def progL : List UInt8 → Prop
  | [] => True
  | [_] => False
  | d :: c :: r => (DigC d ∧ SignC c) ∧ progL r
theorem encL_len : ∀ P : List Pa, (encL P).length = 2 * P.length
  | [] => rfl
  | p :: P => by
    simp only [encL, List.length_cons, encL_len P]
    omega
theorem encL_append : ∀ P Q : List Pa, encL (P ++ Q) = encL P ++ encL Q
  | [], Q => rfl
  | p :: P, Q => by
    simp only [List.cons_append, encL, encL_append P Q]
theorem enc_size (P : List Pa) : (enc P).size = 2 * P.length := encL_len P
theorem enc_append (P Q : List Pa) : enc P ++ enc Q = enc (P ++ Q) := by
  apply ba_ext
  rw [append_list]
  exact (encL_append P Q).symm
theorem progL_enc : ∀ l : List UInt8, progL l → ∃ P : List Pa, l = encL P ∧ ∀ p ∈ P, PaOk p
  | [], _ => ⟨[], rfl, fun p hp => by cases hp⟩
  | [_], h => h.elim
  | d :: c :: r, h => by
    obtain ⟨⟨h1, h2⟩, h3⟩ := h
    obtain ⟨P, rfl, hP⟩ := progL_enc r h3
    refine ⟨(d.toNat - 48, c) :: P, ?_, fun p hp => ?_⟩
    · unfold DigC at h1
      simp only [encL]
      rw [show 48 + (d.toNat - 48) = d.toNat by omega]
      simp
    · rcases List.mem_cons.1 hp with rfl | hp
      · unfold DigC at h1
        exact ⟨by show d.toNat - 48 ≤ 9; omega, h2⟩
      · exact hP p hp
theorem enc_progL : ∀ P : List Pa, (∀ p ∈ P, PaOk p) → progL (encL P)
  | [], _ => trivial
  | p :: P, h => by
    have h1 := h p (by simp)
    refine ⟨⟨?_, h1.2⟩, enc_progL P fun q hq => h q (List.mem_cons_of_mem _ hq)⟩
    have := h1.1
    unfold DigC
    rw [toNat_ofNat8 (by omega)]
    omega
/-- What is asked of each sign of a text, by its place. -/
def atOk (k : Nat) (c : UInt8) : Prop := if k % 2 = 0 then DigC c else SignC c
theorem progL_iff : ∀ l : List UInt8, progL l ↔ l.length % 2 = 0 ∧ ∀ (k : Nat) (c : UInt8), l[k]? = some c → atOk k c
  | [] => ⟨fun _ => ⟨rfl, fun k c h => by simp at h⟩, fun _ => trivial⟩
  | [d] => ⟨fun h => h.elim, fun h => by simp at h⟩
  | d :: c :: r => by
    have ih := progL_iff r
    constructor
    · rintro ⟨⟨h1, h2⟩, h3⟩
      obtain ⟨h4, h5⟩ := ih.1 h3
      refine ⟨by simp only [List.length_cons]; omega, fun k e hk => ?_⟩
      match k, hk with
      | 0, hk =>
        obtain rfl : d = e := by simpa using hk
        exact h1
      | 1, hk =>
        obtain rfl : c = e := by simpa using hk
        exact h2
      | k + 2, hk =>
        have := h5 k e (by simpa using hk)
        unfold atOk at this ⊢
        rwa [show (k + 2) % 2 = k % 2 by omega]
    · rintro ⟨h1, h2⟩
      refine ⟨⟨h2 0 d rfl, h2 1 c rfl⟩, ih.2 ⟨by simp only [List.length_cons] at h1; omega, fun k e hk => ?_⟩⟩
      have := h2 (k + 2) e (by simpa using hk)
      unfold atOk at this ⊢
      rwa [show (k + 2) % 2 = k % 2 by omega] at this
theorem atOk_iff (k : Nat) (c : UInt8) : atOk k c ↔ PartC k c := by
  unfold atOk PartC
  split
  · rename_i h
    exact ⟨fun q => ⟨fun _ => q, fun e => by omega⟩, fun q => q.1 h⟩
  · rename_i h
    exact ⟨fun q => ⟨fun e => absurd e h, fun _ => q⟩, fun q => q.2 (by omega)⟩
theorem enc_prog {P : List Pa} (h1 : 1 ≤ P.length ∧ P.length ≤ 9) (h2 : ∀ p ∈ P, PaOk p) : ProgOk (enc P) := by
  have := (progL_iff _).1 (enc_progL P h2)
  have hz := enc_size P
  exact ⟨by omega, by omega, fun i c hc => (atOk_iff i c).1 (this.2 i c hc)⟩
theorem prog_enc {s : ByteArray} (h : ProgOk s) : ∃ P : List Pa, s = enc P ∧ (1 ≤ P.length ∧ P.length ≤ 9) ∧ ∀ p ∈ P, PaOk p := by
  obtain ⟨h1, h2, h3⟩ := h
  obtain ⟨P, hP, hok⟩ := progL_enc _ ((progL_iff s.data.toList).2 ⟨by rw [← size_list]; exact h1, fun k c hc => (atOk_iff k c).2 (h3 k c hc)⟩)
  have hs : s = enc P := ba_ext hP
  refine ⟨P, hs, ?_, hok⟩
  have := enc_size P
  rw [← hs] at this
  omega
theorem encL_inj : ∀ P Q : List Pa, (∀ p ∈ P, PaOk p) → (∀ p ∈ Q, PaOk p) → encL P = encL Q → P = Q
  | [], [], _, _, _ => rfl
  | [], q :: Q, _, _, h => by simp [encL] at h
  | p :: P, [], _, _, h => by simp [encL] at h
  | p :: P, q :: Q, hP, hQ, h => by
    have hp := (hP p (by simp)).1
    have hq := (hQ q (by simp)).1
    simp only [encL, List.cons.injEq] at h
    obtain ⟨h1, h2, h3⟩ := h
    have h4 := congrArg UInt8.toNat h1
    rw [toNat_ofNat8 (by omega), toNat_ofNat8 (by omega)] at h4
    rw [encL_inj P Q (fun r hr => hP r (List.mem_cons_of_mem _ hr)) (fun r hr => hQ r (List.mem_cons_of_mem _ hr)) h3]
    congr 1
    exact Prod.ext (by omega) h2
/-! ### Where a program leads -/
def partT (t : Tu) (p : Pa) : Tu := (t.1 + (p.1 : Int) * dxW t.2.2, t.2.1 + (p.1 : Int) * dyW t.2.2, (t.2.2 + quartersB (p.2.toNat : Int)) % 4)
def runT (P : List Pa) (t : Tu) : Tu := P.foldl partT t
def repT : Nat → List Pa → Tu → Tu
  | 0, _, t => t
  | n + 1, P, t => repT n P (runT P t)
def othP (P : List Pa) : List Pa := P.map fun p => (p.1, othC p.2)
def mirT (t : Tu) : Tu := (-t.1, t.2.1, (4 - t.2.2) % 4)
theorem part_way (t : Tu) (p : Pa) : 0 ≤ (partT t p).2.2 ∧ (partT t p).2.2 ≤ 3 := by
  show 0 ≤ (t.2.2 + quartersB (p.2.toNat : Int)) % 4 ∧ (t.2.2 + quartersB (p.2.toNat : Int)) % 4 ≤ 3
  omega
theorem mul_dW (d : Int) {w : Int} (h : 0 ≤ w ∧ w ≤ 3) : (w = 0 ∧ d * dxW w = 0 ∧ d * dyW w = -d) ∨ (w = 1 ∧ d * dxW w = d ∧ d * dyW w = 0) ∨ (w = 2 ∧ d * dxW w = 0 ∧ d * dyW w = d) ∨ (w = 3 ∧ d * dxW w = -d ∧ d * dyW w = 0) := by
  have : w = 0 ∨ w = 1 ∨ w = 2 ∨ w = 3 := by omega
  rcases this with rfl | rfl | rfl | rfl
  · exact .inl ⟨rfl, by show d * 0 = 0; omega, by show d * -1 = -d; omega⟩
  · exact .inr (.inl ⟨rfl, by show d * 1 = d; omega, by show d * 0 = 0; omega⟩)
  · exact .inr (.inr (.inl ⟨rfl, by show d * 0 = 0; omega, by show d * 1 = d; omega⟩))
  · exact .inr (.inr (.inr ⟨rfl, by show d * -1 = -d; omega, by show d * 0 = 0; omega⟩))
theorem quarters_oth' {c : UInt8} (h : SignC c) : quartersB ((othC c).toNat : Int) = (4 - quartersB (c.toNat : Int)) % 4 := by
  rcases h with rfl | rfl | rfl | rfl <;> decide
theorem part_mir (t : Tu) (p : Pa) (ht : 0 ≤ t.2.2 ∧ t.2.2 ≤ 3) (hp : PaOk p) : partT (mirT t) (p.1, othC p.2) = mirT (partT t p) := by
  obtain ⟨x, y, w⟩ := t
  obtain ⟨d, c⟩ := p
  simp only at ht
  have hq := quarters_oth' hp.2
  obtain ⟨q0, q3⟩ := quartersB_range (c.toNat : Int)
  have hw : 0 ≤ (4 - w) % 4 ∧ (4 - w) % 4 ≤ 3 := by omega
  have h1 := mul_dW (d : Int) ht
  have h2 := mul_dW (d : Int) hw
  show (-x + (d : Int) * dxW ((4 - w) % 4), y + (d : Int) * dyW ((4 - w) % 4), ((4 - w) % 4 + quartersB ((othC c).toNat : Int)) % 4) = (-(x + (d : Int) * dxW w), y + (d : Int) * dyW w, (4 - (w + quartersB (c.toNat : Int)) % 4) % 4)
  rw [hq]
  have e1 : -x + (d : Int) * dxW ((4 - w) % 4) = -(x + (d : Int) * dxW w) := by omega
  have e2 : y + (d : Int) * dyW ((4 - w) % 4) = y + (d : Int) * dyW w := by omega
  have e3 : ((4 - w) % 4 + (4 - quartersB (c.toNat : Int)) % 4) % 4 = (4 - (w + quartersB (c.toNat : Int)) % 4) % 4 := by omega
  rw [e1, e2, e3]
theorem run_mir : ∀ (P : List Pa) (t : Tu), 0 ≤ t.2.2 ∧ t.2.2 ≤ 3 → (∀ p ∈ P, PaOk p) → runT (othP P) (mirT t) = mirT (runT P t)
  | [], t, _, _ => rfl
  | p :: P, t, ht, hP => by
    show runT (othP P) (partT (mirT t) (p.1, othC p.2)) = mirT (runT P (partT t p))
    rw [part_mir t p ht (hP p (by simp))]
    exact run_mir P _ (part_way t p) fun q hq => hP q (List.mem_cons_of_mem _ hq)
def rotT (w : Int) (x y : Int) : Int × Int := if w = 0 then (x, y) else if w = 1 then (-y, x) else if w = 2 then (-x, -y) else (y, -x)
theorem run_from : ∀ (P : List Pa) (x y w : Int), 0 ≤ w ∧ w ≤ 3 → runT P (x, y, w) = (x + (rotT w (runT P (0, 0, 0)).1 (runT P (0, 0, 0)).2.1).1, y + (rotT w (runT P (0, 0, 0)).1 (runT P (0, 0, 0)).2.1).2, (w + (runT P (0, 0, 0)).2.2) % 4)
  | [], x, y, w, hw => by
    show (x, y, w) = (x + (rotT w 0 0).1, y + (rotT w 0 0).2, (w + 0) % 4)
    have e : (rotT w 0 0).1 = 0 ∧ (rotT w 0 0).2 = 0 := by
      unfold rotT
      split
      · exact ⟨rfl, rfl⟩
      · split
        · exact ⟨rfl, rfl⟩
        · split <;> exact ⟨rfl, rfl⟩
    rw [e.1, e.2, Int.add_zero, Int.add_zero, Int.add_zero, Int.emod_eq_of_lt hw.1 (by omega)]
  | p :: P, x, y, w, hw => by
    obtain ⟨d, c⟩ := p
    obtain ⟨q, hq⟩ : ∃ q, quartersB (c.toNat : Int) = q := ⟨_, rfl⟩
    obtain ⟨q0, q3⟩ := quartersB_range (c.toNat : Int)
    rw [hq] at q0 q3
    have e1 : runT ((d, c) :: P) (x, y, w) = runT P (x + (d : Int) * dxW w, y + (d : Int) * dyW w, (w + q) % 4) := by rw [← hq]; rfl
    have e2 : runT ((d, c) :: P) (0, 0, 0) = runT P (0 + (d : Int) * dxW 0, 0 + (d : Int) * dyW 0, (0 + q) % 4) := by rw [← hq]; rfl
    have hwq : 0 ≤ (w + q) % 4 ∧ (w + q) % 4 ≤ 3 := by omega
    have h0q : 0 ≤ (0 + q) % 4 ∧ (0 + q) % 4 ≤ 3 := by omega
    rw [e1, e2, run_from P _ _ _ hwq, run_from P _ _ _ h0q]
    obtain ⟨X, hX⟩ : ∃ X, (runT P (0, 0, 0)).1 = X := ⟨_, rfl⟩
    obtain ⟨Y, hY⟩ : ∃ Y, (runT P (0, 0, 0)).2.1 = Y := ⟨_, rfl⟩
    obtain ⟨Z, hZ⟩ : ∃ Z, (runT P (0, 0, 0)).2.2 = Z := ⟨_, rfl⟩
    rw [hX, hY, hZ]
    have h1 := mul_dW (d : Int) hw
    have h2 := mul_dW (d : Int) (w := 0) (by omega)
    have cw : w = 0 ∨ w = 1 ∨ w = 2 ∨ w = 3 := by omega
    have cq : q = 0 ∨ q = 1 ∨ q = 2 ∨ q = 3 := by omega
    rcases cw with rfl | rfl | rfl | rfl <;> rcases cq with rfl | rfl | rfl | rfl <;> simp [rotT] at h1 h2 ⊢ <;> omega
theorem run_append (P Q : List Pa) (t : Tu) : runT (P ++ Q) t = runT Q (runT P t) := List.foldl_append
def growP (k : Nat) (P : List Pa) : List Pa := P.map fun p => (p.1 * k, p.2)
def growT (k : Nat) (t : Tu) : Tu := ((k : Int) * t.1, (k : Int) * t.2.1, t.2.2)
theorem part_grow (k : Nat) (t : Tu) (p : Pa) : partT (growT k t) (p.1 * k, p.2) = growT k (partT t p) := by
  obtain ⟨x, y, w⟩ := t
  obtain ⟨d, c⟩ := p
  have e : ∀ a b : Int, (k : Int) * a + ((d * k : Nat) : Int) * b = (k : Int) * (a + (d : Int) * b) := fun a b => by
    rw [Int.mul_add, Int.natCast_mul, Int.mul_comm (d : Int) (k : Int), Int.mul_assoc]
  show ((k : Int) * x + ((d * k : Nat) : Int) * dxW w, (k : Int) * y + ((d * k : Nat) : Int) * dyW w, _) = _
  rw [e, e]
  rfl
theorem run_grow (k : Nat) : ∀ (P : List Pa) (t : Tu), runT (growP k P) (growT k t) = growT k (runT P t)
  | [], t => rfl
  | p :: P, t => by
    show runT (growP k P) (partT (growT k t) (p.1 * k, p.2)) = growT k (runT P (partT t p))
    rw [part_grow]
    exact run_grow k P _
theorem rep_grow (k : Nat) (P : List Pa) : ∀ (n : Nat) (t : Tu), repT n (growP k P) (growT k t) = growT k (repT n P t)
  | 0, t => rfl
  | n + 1, t => by
    show repT n (growP k P) (runT (growP k P) (growT k t)) = growT k (repT n P (runT P t))
    rw [run_grow]
    exact rep_grow k P n _
theorem run_way : ∀ (P : List Pa) (t : Tu), 0 ≤ t.2.2 ∧ t.2.2 ≤ 3 → 0 ≤ (runT P t).2.2 ∧ (runT P t).2.2 ≤ 3
  | [], t, h => h
  | p :: P, t, _ => run_way P _ (part_way t p)
/-! ### Lengths, turns -/
def lenP (P : List Pa) : Nat := (P.map fun p => p.1).sum
theorem lenP_reverse (P : List Pa) : lenP P.reverse = lenP P := by
  unfold lenP
  rw [List.map_reverse]
  exact (List.reverse_perm _).sum_nat
def cntP (c : UInt8) (P : List Pa) : Nat := (P.map fun p => p.2).count c
theorem encL_count (c : UInt8) (hc : SignC c) : ∀ P : List Pa, (∀ p ∈ P, PaOk p) → (encL P).count c = cntP c P
  | [], _ => rfl
  | p :: P, h => by
    have h1 := (h p (by simp)).1
    have ne : UInt8.ofNat (48 + p.1) ≠ c := by
      intro e
      have := congrArg UInt8.toNat e
      rw [toNat_ofNat8 (by omega)] at this
      rcases hc with rfl | rfl | rfl | rfl <;> simp at this <;> omega
    have ih := encL_count c hc P fun q hq => h q (List.mem_cons_of_mem _ hq)
    unfold cntP at ih ⊢
    simp only [encL, List.map_cons]
    rw [List.count_cons_of_ne ne, List.count_cons, List.count_cons, ih]
theorem cntP_oth (P : List Pa) : cntP 76 (othP P) = cntP 82 P ∧ cntP 82 (othP P) = cntP 76 P ∧ cntP 85 (othP P) = cntP 85 P := by
  have key : ∀ (a b : UInt8), (∀ c, othC c = a ↔ c = b) → cntP a (othP P) = cntP b P := fun a b h => by
    unfold cntP othP
    rw [List.map_map]
    show ((P.map fun p => othC p.2).count a) = ((P.map fun p => p.2).count b)
    rw [List.count_eq_countP, List.count_eq_countP, List.countP_map, List.countP_map]
    refine List.countP_congr fun p _ => ?_
    show ((othC p.2) == a) = true ↔ (p.2 == b) = true
    rw [beq_iff_eq, beq_iff_eq]
    exact h p.2
  refine ⟨key 76 82 fun c => ?_, key 82 76 fun c => ?_, key 85 85 fun c => ?_⟩ <;>
  · constructor
    · intro e
      rw [← othC_othC c, e]
      rfl
    · rintro rfl
      rfl
end Go.Proofs.YtfklcheeoieniaaGreatS
