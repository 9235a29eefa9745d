/- Data that come back. -/
import Derived.Test.YtiaagflfiphioaaDoorSimP
namespace Go.Proofs.YtiaagflfiphioaaDoorS
open Go
set_option linter.unusedVariables false
set_option linter.unusedSimpArgs false

def CW (ρx : Rho) : Cell → Cell → Value → Prop
  | .ptr _ _, .ptr id n, v => PtrAt ρx id n v
  | .ptr _ _, _, _ => True
  | _, c, v => CRel ρx c v
def LW (ρx : Rho) : List Cell → List Cell → List Value → Prop
  | [], [], [] => True
  | c0 :: a, c :: b, v :: vs => CW ρx c0 c v ∧ LW ρx a b vs
  | _, _, _ => False
theorem LW.of_rel {ρx : Rho} : ∀ {a b : List Cell} {vs : List Value}, a.length = b.length → LRel ρx b vs → LW ρx a b vs
  | [], [], [], _, _ => trivial
  | [], [], _ :: _, _, h => h.elim
  | _ :: _, _ :: _, [], _, h => h.elim
  | [], _ :: _, _, h, _ => by simp at h
  | _ :: _, [], _, h, _ => by simp at h
  | c0 :: a, c :: b, v :: vs, hl, ⟨h, g⟩ => by
    refine ⟨?_, LW.of_rel (by simpa using hl) g⟩
    cases c0 <;> first
      | exact h
      | (cases c <;> first | exact h | trivial)
theorem LW.of_caps {ρx : Rho} : ∀ {l : List (Nat × Nat)} {b : List Cell} {vs : List Value}, (capCells l).length = b.length → CapsAt ρx (ptrsOf b) vs → LW ρx (capCells l) b vs
  | [], [], [], _, _ => trivial
  | [], [], _ :: _, _, h => h.elim
  | _ :: _, _ :: _, [], _, h => h.elim
  | [], _ :: _, _, h, _ => by simp [capCells] at h
  | _ :: _, [], _, h, _ => by simp [capCells] at h
  | (i, n) :: a, c :: b, v :: vs, hl, ⟨h, g⟩ => by
    refine ⟨?_, LW.of_caps (by simpa [capCells] using hl) g⟩
    cases c <;> first | exact h | trivial
theorem LW.split {ρx : Rho} : ∀ {a1 a2 b1 b2 : List Cell} {vs : List Value}, a1.length = b1.length → LW ρx (a1 ++ a2) (b1 ++ b2) vs → ∃ x y, vs = x ++ y ∧ LW ρx a1 b1 x ∧ LW ρx a2 b2 y ∧ x.length = a1.length
  | [], a2, [], b2, vs, _, h => ⟨[], vs, rfl, trivial, h, rfl⟩
  | [], _, _ :: _, _, _, h, _ => by simp at h
  | _ :: _, _, [], _, _, h, _ => by simp at h
  | _ :: _, _, _ :: _, _, [], _, h => h.elim
  | c0 :: a1, a2, c :: b1, b2, v :: vs, hl, ⟨h, g⟩ => by
    obtain ⟨x, y, e, h1, h2, h3⟩ := LW.split (by simpa using hl) g
    exact ⟨v :: x, y, by rw [e]; rfl, ⟨h, h1⟩, h2, by simp [h3]⟩
def prs (i k : Nat) : Nat → List (Nat × Nat)
  | 0 => [] | q + 1 => (i, k) :: prs (i + 1) (k + 1) q
theorem mem_prs : ∀ (q i k x y : Nat), (x, y) ∈ prs i k q ↔ ∃ r, r < q ∧ x = i + r ∧ y = k + r
  | 0, i, k, x, y => by simp [prs]
  | q + 1, i, k, x, y => by
    simp only [prs, List.mem_cons, mem_prs q]
    constructor
    · rintro (h | ⟨r, h1, h2, h3⟩)
      · cases h; exact ⟨0, by omega, rfl, rfl⟩
      · exact ⟨r + 1, by omega, by omega, by omega⟩
    · rintro ⟨r, h1, h2, h3⟩
      cases r with
      | zero => left; simp only [Nat.add_zero] at h2 h3; rw [h2, h3]
      | succ r => exact .inr ⟨r, by omega, by omega, by omega⟩
def Al (ρx ρ' : Rho) (O : Nat → AObj) : List (Nat × AObj) → List (Nat × Nat) → Prop
  | [], [] => True
  | (i, o) :: u, (j, k) :: p => i = j ∧ NewAt ρx ρ' (O k) o ∧ Al ρx ρ' O u p
  | _, _ => False
theorem Al.append {ρx ρ' : Rho} {O : Nat → AObj} : ∀ {a b : List (Nat × AObj)} {p q : List (Nat × Nat)}, Al ρx ρ' O a p → Al ρx ρ' O b q → Al ρx ρ' O (a ++ b) (p ++ q)
  | [], _, [], _, _, h => h
  | [], _, _ :: _, _, h, _ => h.elim
  | _ :: _, _, [], _, h, _ => h.elim
  | (_, _) :: _, _, (_, _) :: _, _, ⟨e, g, h⟩, k => ⟨e, g, Al.append h k⟩
theorem Al.ups {ρx ρ' : Rho} {O : Nat → AObj} : ∀ {os os' : List AObj} (i k : Nat), NewL ρx ρ' os os' → (∀ q, q < os.length → O (k + q) = os.getD q .dead) → Al ρx ρ' O (ups i os') (prs i k os.length)
  | [], [], _, _, _, _ => trivial
  | [], _ :: _, _, _, h, _ => h.elim
  | _ :: _, [], _, _, h, _ => h.elim
  | o :: os, o' :: os', i, k, ⟨g, h⟩, hO => ⟨rfl, by have := hO 0 (by simp); simp at this; rw [this]; exact g, Al.ups (i + 1) (k + 1) h fun q hq => by
      have := hO (q + 1) (by simpa using hq)
      rw [show k + 1 + q = k + (q + 1) by omega, this]
      simp⟩
theorem setCells_ups (n : Nat) : ∀ (k id : Nat) (l : List Cell), setCells n k id l = ups id (boxOf true n k l)
  | _, _, [] => rfl
  | k, id, c :: cs => by simp only [setCells, boxOf, ups, setCells_ups n (k + 1) (id + 1) cs]
structure BackP (ρ ρx : Rho) (Fx : Nat → AObj) (n n1 m cnt : Nat) (P : List (Nat × Nat)) : Prop where
  rng : ∀ i k, (i, k) ∈ P → m ≤ k ∧ k < m + cnt
  inj : ∀ i j k, (i, k) ∈ P → (j, k) ∈ P → i = j
  grp : ∀ i k, (i, k) ∈ P → ∀ o ki nn c, Fx k = .cell o ki nn c → ki ≤ i ∧ ki ≤ k ∧ ∀ q, q < nn → (i - ki + q, k - ki + q) ∈ P
  key : ∀ i k, (i, k) ∈ P → (n ≤ i ∧ i < n1) ∨ ∃ v, ρ i = some v ∧ ρx k = some v
  new : ∀ i k k', (i, k) ∈ P → (i, k') ∈ P → ρ i = none → k = k'
theorem BackP.nil {ρ ρx : Rho} {Fx : Nat → AObj} {n n1 m cnt : Nat} : BackP ρ ρx Fx n n1 m cnt [] :=
  ⟨fun i k h => by simp at h, fun i j k h => by simp at h, fun i k h => by simp at h, fun i k h => by simp at h, fun i k k' h => by simp at h⟩
theorem BackP.append {ρ ρx : Rho} {Fx : Nat → AObj} {n n1 n2 m c1 c2 : Nat} {P Q : List (Nat × Nat)} (h : BackP ρ ρx Fx n n1 m c1 P) (g : BackP ρ ρx Fx n1 n2 (m + c1) c2 Q) (h1 : n ≤ n1) (h2 : n1 ≤ n2) : BackP ρ ρx Fx n n2 m (c1 + c2) (P ++ Q) := by
  refine ⟨fun i k hm => ?_, fun i j k hi hj => ?_, fun i k hm o ki nn c e => ?_, fun i k hm => ?_, fun i k k' hi hj hn => ?_⟩
  · rcases List.mem_append.1 hm with hm | hm
    · have := h.rng i k hm; omega
    · have := g.rng i k hm; omega
  · rcases List.mem_append.1 hi with hi | hi <;> rcases List.mem_append.1 hj with hj | hj
    · exact h.inj i j k hi hj
    · have := h.rng i k hi; have := g.rng j k hj; omega
    · have := g.rng i k hi; have := h.rng j k hj; omega
    · exact g.inj i j k hi hj
  · rcases List.mem_append.1 hm with hm | hm
    · obtain ⟨a, b, d⟩ := h.grp i k hm o ki nn c e
      exact ⟨a, b, fun q hq => List.mem_append_left _ (d q hq)⟩
    · obtain ⟨a, b, d⟩ := g.grp i k hm o ki nn c e
      exact ⟨a, b, fun q hq => List.mem_append_right _ (d q hq)⟩
  · rcases List.mem_append.1 hm with hm | hm
    · rcases h.key i k hm with h | h
      · exact .inl (by omega)
      · exact .inr h
    · rcases g.key i k hm with h | h
      · exact .inl (by omega)
      · exact .inr h
  · have key1 : ∀ {k}, (i, k) ∈ P → i < n1 := fun hi => by
      rcases h.key i _ hi with h | ⟨v, h, _⟩
      · omega
      · rw [hn] at h; cases h
    have key2 : ∀ {k}, (i, k) ∈ Q → n1 ≤ i := fun hi => by
      rcases g.key i _ hi with h | ⟨v, h, _⟩
      · omega
      · rw [hn] at h; cases h
    rcases List.mem_append.1 hi with hi | hi <;> rcases List.mem_append.1 hj with hj | hj
    · exact h.new i k k' hi hj hn
    · have := key1 hi; have := key2 hj; omega
    · have := key1 hj; have := key2 hi; omega
    · exact g.new i k k' hi hj hn
theorem noref_refB (N : Nat) (t : Ty) : t.noref = true → t.refB N = true := by
  induction t with
  | ref j n => intro h; simp [Ty.noref] at h
  | sref j => intro h; simp [Ty.noref] at h
  | mref j => intro h; simp [Ty.noref] at h
  | box own t ih => exact ih
  | blob own t => exact id
  | clo f t ih => exact ih
  | cons a b iha ihb =>
    intro h
    simp only [Ty.noref, Bool.and_eq_true] at h
    simp only [Ty.refB, Bool.and_eq_true]
    exact ⟨iha h.1, ihb h.2⟩
  | _ => intro _; rfl
theorem capCells_len : ∀ l, (capCells l).length = l.length
  | [] => rfl
  | (_, _) :: r => by simp [capCells, capCells_len r]
theorem unpack_own (t : Ty) : ∀ (d : t.D) (b n : Nat), t.hasRo = false → ∀ q, q < (t.unpack d b n).2.length → ((t.unpack d b n).2.getD q .dead).whole = true := by
  induction t with
  | blob own t =>
    intro d b n h q hq
    simp only [Ty.hasRo, Bool.or_eq_false_iff, Bool.not_eq_false'] at h
    have : q = 0 := by simp [Ty.unpack] at hq; omega
    subst this
    show (own && t.whole) = true
    rw [h.1, h.2]
    rfl
  | slc own s =>
    intro d b n h q hq
    simp only [Ty.hasRo, Bool.not_eq_false'] at h
    subst h
    have : q = 0 := by simp [Ty.unpack] at hq; omega
    subst this
    rfl
  | box own t ih =>
    intro d b n h
    simp only [Ty.hasRo, Bool.or_eq_false_iff, Bool.not_eq_false'] at h
    obtain ⟨rfl, h⟩ := h
    have := ih d b n h
    simp only [Ty.unpack]
    generalize t.unpack d b n = p at this
    obtain ⟨cs, os⟩ := p
    intro q hq
    dsimp only at *
    by_cases hq1 : q < os.length
    · rw [List.getD_eq_getElem?_getD, List.getElem?_append_left hq1, ← List.getD_eq_getElem?_getD]
      exact this q hq1
    · simp only [List.length_append, boxOf_len] at hq
      rw [List.getD_eq_getElem?_getD, List.getElem?_append_right (by omega), ← List.getD_eq_getElem?_getD, boxOf_get true cs.length cs 0 (q - os.length) (cs[q - os.length]'(by omega)) (by simp)]
      rfl
  | clo f t ih =>
    intro d b n h
    have := ih d b n h
    simp only [Ty.unpack]
    generalize t.unpack d b n = p at this
    obtain ⟨cs, os⟩ := p
    exact this
  | cons u v ihu ihv =>
    intro d b n h
    simp only [Ty.hasRo, Bool.or_eq_false_iff] at h
    have h1 := ihu d.1 b n h.1
    simp only [Ty.unpack]
    generalize u.unpack d.1 b n = p at h1
    obtain ⟨cs, os⟩ := p
    have h2 := ihv d.2 b (n + os.length) h.2
    dsimp only
    generalize v.unpack d.2 b (n + os.length) = p2 at h2
    obtain ⟨cs2, os2⟩ := p2
    intro q hq
    dsimp only at *
    by_cases hq1 : q < os.length
    · rw [List.getD_eq_getElem?_getD, List.getElem?_append_left hq1, ← List.getD_eq_getElem?_getD]
      exact h1 q hq1
    · rw [List.length_append] at hq
      rw [List.getD_eq_getElem?_getD, List.getElem?_append_right (by omega), ← List.getD_eq_getElem?_getD]
      exact h2 _ (by omega)
  | _ => intro d b n _ q hq; simp [Ty.unpack] at hq
/-- The pairs of numbers of data that come back. -/
theorem back_sound {ρ ρx : Rho} {Fx : Nat → AObj} (t : Ty) : ∀ {c : List Cell} {d : t.D} {n : Nat} {rest : List Cell} {u : List (Nat × AObj)} {n1 : Nat}, t.back c d n = some (rest, u, n1) → t.noref = true → ∀ m : Nat,
    (∀ q, q < t.cnt → Fx (m + q) = (t.unpack d 0 m).2.getD q .dead) →
    ∃ c1 P, c = c1 ++ rest ∧ c1.length = t.len ∧ n1 = n + t.nest ∧ (∀ vs, LRel ρ c1 vs → LW ρx c1 (t.unpack d 0 m).1 vs → BackP ρ ρx Fx n n1 m t.cnt P) ∧ (∀ ρ' : Rho, (∀ i k, (i, k) ∈ P → ρ' i = ρx k) → Al ρx ρ' Fx u P) ∧ (t.roIn = false → ∀ i k, (i, k) ∈ P → (Fx k).whole = true) := by
  have hplain : ∀ (t : Ty) {c : List Cell} {n : Nat} {rest : List Cell} {u : List (Nat × AObj)} {n1 : Nat} (m : Nat) (L : List Cell), t.len = 1 → t.nest = 0 → (match c with | _ :: cs => some (cs, ([] : List (Nat × AObj)), n) | [] => none) = some (rest, u, n1) →
      ∃ c1 P, c = c1 ++ rest ∧ c1.length = t.len ∧ n1 = n + t.nest ∧ (∀ vs, LRel ρ c1 vs → LW ρx c1 L vs → BackP ρ ρx Fx n n1 m t.cnt P) ∧ (∀ ρ' : Rho, (∀ i k, (i, k) ∈ P → ρ' i = ρx k) → Al ρx ρ' Fx u P) ∧ (t.roIn = false → ∀ i k, (i, k) ∈ P → (Fx k).whole = true) := by
    intro t c n rest u n1 m L h1 h2 h
    cases c with
    | nil => cases h
    | cons c cs => cases h; exact ⟨[c], [], rfl, h1.symm, by rw [h2]; rfl, fun _ _ _ => .nil, fun _ _ => trivial, fun _ i k h => by simp at h⟩
  induction t with
  | unk => intro c d n rest u n1 h _ m _; exact hplain .unk m _ rfl rfl (by cases c <;> exact h)
  | any => intro c d n rest u n1 h _ m _; exact hplain .any m _ rfl rfl (by cases c <;> exact h)
  | int k => intro c d n rest u n1 h _ m _; exact hplain (.int k) m _ rfl rfl (by cases c <;> exact h)
  | bool => intro c d n rest u n1 h _ m _; exact hplain .bool m _ rfl rfl (by cases c <;> exact h)
  | str => intro c d n rest u n1 h _ m _; exact hplain .str m _ rfl rfl (by cases c <;> exact h)
  | ref j k => intro c d n rest u n1 h hr m _; simp [Ty.noref] at hr
  | sref j => intro c d n rest u n1 h hr m _; simp [Ty.noref] at hr
  | mref j => intro c d n rest u n1 h hr m _; simp [Ty.noref] at hr
  | slc own s =>
    intro c d n rest u n1 h _ m hF
    cases c with
    | nil => simp [Ty.back] at h
    | cons c cs =>
      simp only [Ty.back] at h
      split at h <;> cases h
      · rename_i id
        refine ⟨[.slc id], if own then [(id, m)] else [], rfl, rfl, rfl, fun vs hv hw => ?_, fun ρ' hρ => ?_, fun _ i k h => ?_⟩
        · cases own with
          | false => exact .nil
          | true =>
            match vs, hv, hw with
            | [v], hv, hw =>
              have h1 : ρ id = some v := hv.1.1
              have h2 : ρx m = some v := hw.1.1
              have hm : Fx m = .row true s d := by have := hF 0 (by simp [Ty.cnt]); simpa [Ty.unpack] using this
              refine ⟨fun i k h => ?_, fun i j k h g => ?_, fun i k h o ki nn c e => ?_, fun i k h => ?_, fun i k k' h g hn => ?_⟩
              · simp at h; obtain ⟨rfl, rfl⟩ := h; simp [Ty.cnt]
              · simp at h g; omega
              · simp at h; obtain ⟨rfl, rfl⟩ := h; rw [hm] at e; cases e
              · simp at h; obtain ⟨rfl, rfl⟩ := h; exact .inr ⟨v, h1, h2⟩
              · simp at h g; omega
        · cases own with
          | false => trivial
          | true =>
            have hm : Fx m = .row true s d := by have := hF 0 (by simp [Ty.cnt]); simpa [Ty.unpack] using this
            exact ⟨rfl, by rw [hm]; rfl, trivial⟩
        · cases own with
          | false => simp at h
          | true =>
            have hm : Fx m = .row true s d := by have := hF 0 (by simp [Ty.cnt]); simpa [Ty.unpack] using this
            simp at h
            rw [h.2, hm]
            rfl
      · exact ⟨[.nils], [], rfl, rfl, rfl, fun _ _ _ => .nil, fun _ _ => trivial, fun _ i k h => by simp at h⟩
  | blob own s =>
    intro c d n rest u n1 h hnr m hF
    have hfree : s.free = true := hnr
    cases c with
    | nil => simp [Ty.back] at h
    | cons c cs =>
      simp only [Ty.back] at h
      split at h
      rotate_left
      · split at h <;> cases h
        exact ⟨[.nils], [], rfl, rfl, rfl, fun _ _ _ => .nil, fun _ _ => trivial, fun _ i k h => by simp at h⟩
      · cases h
      cases h
      rename_i id
      refine ⟨[.mp id], if own then [(id, m)] else [], rfl, rfl, rfl, fun vs hv hw => ?_, fun ρ' hρ => ?_, fun hro i k h => ?_⟩
      · cases own with
        | false => exact .nil
        | true =>
          match vs, hv, hw with
          | [v], hv, hw =>
            have h1 : ρ id = some v := hv.1.1
            have h2 : ρx m = some v := hw.1.1
            have hm : Fx m = .blob true s d := by have := hF 0 (by simp [Ty.cnt]); simpa [Ty.unpack] using this
            refine ⟨fun i k h => ?_, fun i j k h g => ?_, fun i k h o ki nn c e => ?_, fun i k h => ?_, fun i k k' h g hn => ?_⟩
            · simp at h; obtain ⟨rfl, rfl⟩ := h; simp [Ty.cnt]
            · simp at h g; omega
            · simp at h; obtain ⟨rfl, rfl⟩ := h; rw [hm] at e; cases e
            · simp at h; obtain ⟨rfl, rfl⟩ := h; exact .inr ⟨v, h1, h2⟩
            · simp at h g; omega
      · cases own with
        | false => trivial
        | true =>
          have hm : Fx m = .blob true s d := by have := hF 0 (by simp [Ty.cnt]); simpa [Ty.unpack] using this
          exact ⟨rfl, by rw [hm]; exact ⟨rfl, hfree⟩, trivial⟩
      · cases own with
        | false => simp at h
        | true =>
          have hm : Fx m = .blob true s d := by have := hF 0 (by simp [Ty.cnt]); simpa [Ty.unpack] using this
          simp at h
          rw [h.2, hm]
          show (true && s.whole) = true
          simpa [Ty.roIn] using hro
  | box own t ih =>
    intro c d n rest u n1 h hr m hF
    cases c with
    | nil => simp [Ty.back] at h
    | cons c cs =>
      simp only [Ty.back] at h
      split at h <;> try cases h
      rename_i id M
      cases own with
      | false =>
        simp only [Bool.false_eq_true, if_false] at h
        cases h
        exact ⟨[.ptr id M], [], rfl, rfl, rfl, fun _ _ _ => .nil, fun _ _ => trivial, fun _ i k h => by simp at h⟩
      | true =>
        simp only [if_true] at h
        obtain ⟨l1, l2⟩ := unpack_len t d n n
        obtain ⟨l3, l4⟩ := unpack_len t d 0 m
        have hg := unpack_grp t d 0 m
        have hown := unpack_own t d 0 m
        have hsh := fun (ρ' : Rho) hh => unpack_shift (ρx := ρx) (ρ' := ρ') 0 t d 0 m n n (noref_refB 0 t hr) (fun j v hj => by omega) hh
        simp only [Ty.unpack, Ty.cnt] at hF
        simp only [Ty.unpack]
        revert h l1 l2 l3 l4 hg hown hsh hF
        generalize t.unpack d n n = p
        generalize t.unpack d 0 m = q
        obtain ⟨cs1, os1⟩ := p
        obtain ⟨cs2, os2⟩ := q
        intro hF h l1 l2 l3 l4 hg hown hsh
        dsimp only at *
        split at h <;> cases h
        rename_i hM
        have hM : cs1.length = M := by simpa using hM
        have hcl : cs2.length = M := by omega
        have hin : ∀ q, q < os2.length → Fx (m + q) = os2.getD q .dead := fun q hq => by
          rw [hF q (by omega), List.getD_eq_getElem?_getD, List.getElem?_append_left hq, ← List.getD_eq_getElem?_getD]
        have hbx : ∀ q, q < M → Fx (m + t.cnt + q) = (boxOf true M 0 cs2).getD q .dead := fun q hq => by
          rw [Nat.add_assoc, hF (t.cnt + q) (by omega), List.getD_eq_getElem?_getD, List.getElem?_append_right (by omega), show t.cnt + q - os2.length = q by omega, ← List.getD_eq_getElem?_getD, hcl]
        refine ⟨[.ptr id M], prs n m os2.length ++ prs id (m + t.cnt) M, rfl, rfl, by simp [Ty.nest]; omega, fun vs hv hw => ?_, fun ρ' hρ => ?_, fun ho i k h => ?_⟩
        · match vs, hv, hw with
          | [v], hv, hw =>
            obtain ⟨⟨b, o, e, g⟩, _⟩ := hv
            obtain ⟨⟨b2, o2, e2, g2⟩, _⟩ := hw
            rw [e] at e2
            cases e2
            have hcnt : (Ty.box true t).cnt = os2.length + M := by simp only [Ty.cnt]; omega
            rw [hcnt]
            rw [hcl] at g2
            refine BackP.append (n1 := n + os1.length) (c1 := os2.length) ?_ ?_ (by omega) (Nat.le_refl _)
            · refine ⟨fun i k h => ?_, fun i j k h g => ?_, fun i k h o ki nn c e => ?_, fun i k h => ?_, fun i k k' h g hn => ?_⟩
              · obtain ⟨r, h1, h2, h3⟩ := (mem_prs _ _ _ _ _).1 h; omega
              · obtain ⟨r, h1, h2, h3⟩ := (mem_prs _ _ _ _ _).1 h
                obtain ⟨r', g1, g2, g3⟩ := (mem_prs _ _ _ _ _).1 g
                omega
              · obtain ⟨r, h1, h2, h3⟩ := (mem_prs _ _ _ _ _).1 h
                subst h2 h3
                rw [hin r h1, List.getD_eq_getElem?_getD, List.getElem?_eq_getElem h1] at e
                have := hg r o ki nn c (by rw [List.getElem?_eq_getElem h1]; exact congrArg some e)
                exact ⟨by omega, by omega, fun q hq => (mem_prs _ _ _ _ _).2 ⟨r - ki + q, by omega, by omega, by omega⟩⟩
              · obtain ⟨r, h1, h2, h3⟩ := (mem_prs _ _ _ _ _).1 h; left; omega
              · obtain ⟨r, h1, h2, h3⟩ := (mem_prs _ _ _ _ _).1 h
                obtain ⟨r', g1, g2, g3⟩ := (mem_prs _ _ _ _ _).1 g
                omega
            · rw [l3]
              refine ⟨fun i k h => ?_, fun i j k h g => ?_, fun i k h o' ki nn c e => ?_, fun i k h => ?_, fun i k k' h g hn => ?_⟩
              · obtain ⟨r, h1, h2, h3⟩ := (mem_prs _ _ _ _ _).1 h; omega
              · obtain ⟨r, h1, h2, h3⟩ := (mem_prs _ _ _ _ _).1 h
                obtain ⟨r', g1, g2, g3⟩ := (mem_prs _ _ _ _ _).1 g
                omega
              · obtain ⟨r, h1, h2, h3⟩ := (mem_prs _ _ _ _ _).1 h
                subst h2 h3
                have hlt : r < (boxOf true M 0 cs2).length := by rw [boxOf_len]; omega
                rw [hbx r h1, List.getD_eq_getElem?_getD, List.getElem?_eq_getElem hlt] at e
                obtain ⟨rfl, rfl, rfl, _⟩ := boxOf_cell (q := r) (by rw [List.getElem?_eq_getElem hlt]; exact congrArg some e)
                exact ⟨by omega, by omega, fun q hq => (mem_prs _ _ _ _ _).2 ⟨q, hq, by omega, by omega⟩⟩
              · obtain ⟨r, h1, h2, h3⟩ := (mem_prs _ _ _ _ _).1 h
                subst h2 h3
                refine .inr ⟨_, g r h1, ?_⟩
                have := g2 r h1
                rwa [show m + os2.length + r = m + t.cnt + r by omega] at this
              · obtain ⟨r, h1, h2, h3⟩ := (mem_prs _ _ _ _ _).1 h
                obtain ⟨r', g1, g2, g3⟩ := (mem_prs _ _ _ _ _).1 g
                omega
        · obtain ⟨s1, s2, s3⟩ := hsh ρ' fun k v hk hv => by
            rw [hρ (n + k) (m + k) (List.mem_append_left _ ((mem_prs _ _ _ _ _).2 ⟨k, by omega, rfl, rfl⟩))]
            exact hv
          rw [setCells_ups]
          refine Al.append (Al.ups n m s3 hin) ?_
          have := Al.ups (O := Fx) id (m + t.cnt) (boxOf_new true M 0 s1) (fun q hq => hbx q (by rw [boxOf_len] at hq; omega))
          rw [boxOf_len, hcl] at this
          exact this
        · simp only [Ty.roIn, Bool.true_and] at ho
          rcases List.mem_append.1 h with h | h
          · obtain ⟨r, h1, h2, h3⟩ := (mem_prs _ _ _ _ _).1 h
            subst h3
            rw [hin r h1]
            exact hown ho r h1
          · obtain ⟨r, h1, h2, h3⟩ := (mem_prs _ _ _ _ _).1 h
            have hlt : r < cs2.length := by omega
            rw [h3, hbx r h1, boxOf_get true M cs2 0 r cs2[r] (by simp [hlt])]
            rfl
  | clo f t ih =>
    intro c d n rest u n1 h hr m hF
    cases c with
    | nil => simp [Ty.back] at h
    | cons c cs =>
      simp only [Ty.back] at h
      split at h <;> try cases h
      rename_i f' caps
      split at h <;> cases h
      rename_i h1
      have hF' : ∀ q, q < t.cnt → Fx (m + q) = (t.unpack d 0 m).2.getD q .dead := fun q hq => by
        rw [hF q hq]
        simp only [Ty.unpack]
      obtain ⟨c1, P, e1, e2, e3, e4, e5, e6⟩ := ih h1 hr m hF'
      rw [List.append_nil] at e1
      subst e1
      refine ⟨[.clo f' caps], P, rfl, rfl, e3, fun vs hv hw => ?_, e5, e6⟩
      match vs, hv, hw with
      | [v], hv, hw =>
        obtain ⟨⟨ars, e, g⟩, _⟩ := hv
        have hw1 : CRel ρx (.clo f (ptrsOf (t.unpack d 0 m).1)) v := hw.1
        obtain ⟨ars', e', g'⟩ := hw1
        rw [e] at e'
        cases e'
        exact e4 ars.toList (caps_rel g).1 (LW.of_caps (by rw [e2, (unpack_len t d 0 m).2]) g')
  | nil =>
    intro c d n rest u n1 h _ m _
    have h : some (c, ([] : List (Nat × AObj)), n) = some (rest, u, n1) := by cases c <;> exact h
    cases h
    exact ⟨[], [], rfl, rfl, rfl, fun _ _ _ => .nil, fun _ _ => trivial, fun _ i k h => by simp at h⟩
  | cons a b iha ihb =>
    intro c d n rest u n1 h hr m hF
    have h : (match a.back c d.1 n with
      | some (cs, u, n) => (match b.back cs d.2 n with
        | some (cs, v, n) => some (cs, u ++ v, n)
        | none => none)
      | none => none) = some (rest, u, n1) := by cases c <;> exact h
    simp only [Ty.noref, Bool.and_eq_true] at hr
    cases ha : a.back c d.1 n with
    | none => rw [ha] at h; cases h
    | some x =>
      obtain ⟨cs1, u1, na⟩ := x
      rw [ha] at h
      simp only at h
      cases hb : b.back cs1 d.2 na with
      | none => rw [hb] at h; cases h
      | some y =>
        obtain ⟨cs2, u2, nb⟩ := y
        rw [hb] at h
        cases h
        obtain ⟨l1, l2⟩ := unpack_len a d.1 0 m
        obtain ⟨l3, l4⟩ := unpack_len b d.2 0 (m + a.cnt)
        simp only [Ty.unpack, Ty.cnt, l1] at hF
        obtain ⟨c1, P1, e1, e2, e3, e4, e5, e6⟩ := iha ha hr.1 m (fun q hq => by
          rw [hF q (by omega), List.getD_eq_getElem?_getD, List.getElem?_append_left (by omega), ← List.getD_eq_getElem?_getD])
        obtain ⟨c2, P2, f1, f2, f3, f4, f5, f6⟩ := ihb hb hr.2 (m + a.cnt) (fun q hq => by
          rw [Nat.add_assoc, hF (a.cnt + q) (by omega), List.getD_eq_getElem?_getD, List.getElem?_append_right (by omega), show a.cnt + q - (a.unpack d.1 0 m).2.length = q by omega, ← List.getD_eq_getElem?_getD])
        refine ⟨c1 ++ c2, P1 ++ P2, by rw [e1, f1]; simp, by simp [e2, f2, Ty.len], by simp only [Ty.nest]; omega, fun vs hv hw => ?_, fun ρ' hρ => (e5 ρ' fun i k h => hρ i k (List.mem_append_left _ h)).append (f5 ρ' fun i k h => hρ i k (List.mem_append_right _ h)), fun ho i k h => ?_⟩
        rotate_left
        · simp only [Ty.roIn, Bool.or_eq_false_iff] at ho
          rcases List.mem_append.1 h with h | h
          · exact e6 ho.1 i k h
          · exact f6 ho.2 i k h
        simp only [Ty.unpack, l1] at hw
        obtain ⟨x, y, ev, hx, hy⟩ := LRel.split hv
        obtain ⟨x', y', ev', hx', hy', hl'⟩ := LW.split (by omega) hw
        have hlx := hx.length
        obtain ⟨rfl, rfl⟩ := List.append_inj (ev.symm.trans ev') (by omega)
        exact (e4 x hx hx').append (f4 y hy hy') (by omega) (by omega)
end Go.Proofs.YtiaagflfiphioaaDoorS
