/- Maps. -/
import Derived.Test.YtiaagflfiphioaaDoorSimK
import Derived.MapKept
namespace Go.Proofs.YtiaagflfiphioaaDoorS
open Go
set_option linter.unusedVariables false
set_option linter.unusedSimpArgs false

section
variable {P : Program} {w0 : World} {A : List Nat} {W : WL} {nt : Nat} {sh : Nat → Value} {U : Nat → Prop} {ρ : Rho} {tm : Nat → AVal} {F F0 : Nat → AObj} {a : Act} {w : World} {id cnt : Nat}

/-! ### Elements ars one value -/
theorem LRel.vals {ρ : Rho} : ∀ (s : Sh) (x : s.T) (l : List Value), LRel ρ (s.cells x) l → l = s.vals x
  | .int _, _, [v], h | .bool, _, [v], h | .str, _, [v], h => by
    obtain ⟨h, _⟩ := h
    show [v] = _
    rw [show v = _ from h]
    rfl
  | .int _, _, [], h | .bool, _, [], h | .str, _, [], h => h.elim
  | .int _, _, _ :: _ :: _, h | .bool, _, _ :: _ :: _, h | .str, _, _ :: _ :: _, h => h.2.elim
  | .unit, _, [], _ => rfl
  | .unit, _, _ :: _, h => h.elim
  | .pair p q, x, l, h => by
    obtain ⟨u, v, rfl, h1, h2⟩ := LRel.split h
    rw [LRel.vals p _ u h1, LRel.vals q _ v h2]
    rfl
theorem val_pair (p q : Sh) (x : (Sh.pair p q).T) : (Sh.pair p q).val x = .agg ((Sh.pair p q).vals x).toArray := rfl
theorem Sh.val_of {s : Sh} {x : s.T} {v : Value} (hs : s.isP = false → s.sz = 1) (h : VRel ρ (AVal.of s.isP (s.cells x)) v) : v = s.val x := by
  cases s with
  | int k => exact h
  | bool => exact h
  | str => exact h
  | unit => exact absurd (hs rfl) (by decide)
  | pair p q =>
    obtain ⟨cs, rfl, hl⟩ := h
    rw [val_pair]
    congr 1
    apply Array.ext'
    rw [LRel.vals _ _ _ hl]
theorem Sh.val_rel (s : Sh) (x : s.T) : VRel ρ (AVal.of s.isP (s.cells x)) (s.val x) := by
  cases s with
  | int k => exact rfl
  | bool => exact rfl
  | str => exact rfl
  | unit => exact trivial
  | pair p q => exact ⟨_, rfl, Sh.rel ρ (.pair p q) x⟩
theorem vals_val {s : Sh} {x : s.T} {v : Value} (h : s.vals x = [v]) (hp : s.isP = false) (hs : s.isP = false → s.sz = 1) : v = s.val x := by
  cases s with
  | int k => cases h; rfl
  | bool => cases h; rfl
  | str => cases h; rfl
  | unit => exact absurd (hs rfl) (by decide)
  | pair p q => cases hp
theorem valS_of {s : Sh} {x : Operand} {y : s.T} (S : Sim w0 A W nt sh U ρ tm F a w) (h : valS s (ev tm x) = some y) (hs : s.isP = false → s.sz = 1) : a.eval x = s.val y := by
  have hx := ev_rel S x
  unfold valS at h
  split at h <;> try cases h
  rename_i hc
  simp only [Bool.and_eq_true, beq_iff_eq] at hc
  obtain ⟨hv, hag⟩ := hc
  split at h <;> cases h
  rename_i hof
  cases hev : ev tm x with
  | tup l => rw [hev] at hv; cases hv
  | c c =>
    rw [hev] at hx hof hag
    have hp : s.isP = false := hag.symm
    exact vals_val (of_vals (ρ := ρ) hof (vs := [a.eval x]) ⟨hx, trivial⟩).symm hp hs
  | agg l =>
    rw [hev] at hx hof hag
    have hp : s.isP = true := hag.symm
    obtain ⟨cs, e, hl⟩ := hx
    have := of_vals hof hl
    rw [e]
    cases s with
    | pair p q =>
      rw [val_pair]
      congr 1
      apply Array.ext'
      rw [this]
    | _ => cases hp
/-! ### Keys -/
theorem eqT_eq : ∀ (s : Sh) (x y : s.T), s.eqT x y = true → x = y
  | .int _, x, y, h => by
    have h : @BEq.beq Int _ x y = true := h
    exact eq_of_beq (α := Int) h
  | .bool, x, y, h => by
    have h : @BEq.beq Bool _ x y = true := h
    exact eq_of_beq (α := Bool) h
  | .str, x, y, h => by
    have h : @BEq.beq ByteArray _ x y = true := h
    exact (MapKept.bytes_beq _ _).1 h
  | .unit, _, _, _ => rfl
  | .pair p q, x, y, h => by
    have h : (p.eqT x.1 y.1 && q.eqT x.2 y.2) = true := h
    rw [Bool.and_eq_true] at h
    exact Prod.ext (eqT_eq p _ _ h.1) (eqT_eq q _ _ h.2)
theorem sameBits_vals (n : Nat) : ∀ (s : Sh) (x : s.T), ∀ u ∈ s.vals x, Instr.sameBits n u u = true
  | .int k, x, u, h => by
    have h : u = .int k x := by simpa [Sh.vals] using h
    have e : @BEq.beq Int _ x x = true := beq_self_eq_true (α := Int) x
    subst h; cases n <;> simp only [Instr.sameBits, e, beq_self_eq_true, Bool.and_self]
  | .bool, x, u, h => by
    have h : u = .bool x := by simpa [Sh.vals] using h
    have e : @BEq.beq Bool _ x x = true := beq_self_eq_true (α := Bool) x
    subst h; cases n <;> simp only [Instr.sameBits, e]
  | .str, x, u, h => by
    have h : u = .string x := by simpa [Sh.vals] using h
    have e : @BEq.beq ByteArray _ x x = true := (MapKept.bytes_beq _ _).2 rfl
    subst h; cases n <;> simp only [Instr.sameBits, e]
  | .unit, _, u, h => by simp [Sh.vals] at h
  | .pair p q, x, u, h => by
    rcases List.mem_append.1 h with h | h
    · exact sameBits_vals n p _ u h
    · exact sameBits_vals n q _ u h
theorem zip_self {α : Type} : ∀ (l : List α) (p : α × α), p ∈ l.zip l → p.1 = p.2 ∧ p.1 ∈ l
  | [], p, h => by simp at h
  | x :: l, p, h => by
    simp only [List.zip_cons_cons, List.mem_cons] at h
    rcases h with rfl | h
    · exact ⟨rfl, by simp⟩
    · obtain ⟨h1, h2⟩ := zip_self l p h
      exact ⟨h1, List.mem_cons_of_mem _ h2⟩
theorem sameBits_val (s : Sh) (x : s.T) : Instr.sameBits 10000 (s.val x) (s.val x) = true := by
  cases s with
  | int k => exact sameBits_vals 10000 (.int k) x _ (by simp [Sh.vals, Sh.val])
  | bool => exact sameBits_vals 10000 .bool x _ (by simp [Sh.vals, Sh.val])
  | str => exact sameBits_vals 10000 .str x _ (by simp [Sh.vals, Sh.val])
  | unit => rfl
  | pair p q =>
    rw [val_pair]
    show Instr.sameBits (9999 + 1) _ _ = true
    simp only [Instr.sameBits, beq_self_eq_true, Bool.true_and, List.all_eq_true]
    intro z hz
    obtain ⟨h1, h2⟩ := zip_self _ z hz
    obtain ⟨u, v⟩ := z
    have h1 : u = v := h1
    subst h1
    exact sameBits_vals 9999 (.pair p q) x u (by simpa using h2)
theorem keyVF_eq {f : TypeId → List Cell → List Cell → Option Bool} {g : TypeId → Sh → Bool} (hf : ∀ t s, g t s = true → ∀ x y, f t (s.cells x) (s.cells y) = some (s.eqT x y)) :
    ∀ (fs : List Field) (off : Nat) (s : Sh), keyVF P g fs off s = true → ∀ x y, eqVF P f fs off (s.cells x) (s.cells y) = some (s.eqT x y)
  | [], _, _, h => by simp [keyVF] at h
  | [z], off, s, h => by
    intro x y
    simp only [keyVF] at h
    split at h <;> try cases h
    rename_i m ag hl
    simp only [Bool.and_eq_true, beq_iff_eq] at h
    obtain ⟨⟨⟨rfl, h2⟩, h3⟩, h4⟩ := h
    have c1 := Sh.cells_len s x
    have c2 := Sh.cells_len s y
    have t1 : (s.cells x).take s.sz = s.cells x := List.take_of_length_le (by omega)
    have t2 : (s.cells y).take s.sz = s.cells y := List.take_of_length_le (by omega)
    have d1 : (s.cells x).drop s.sz = [] := List.drop_eq_nil_of_le (by omega)
    have d2 : (s.cells y).drop s.sz = [] := List.drop_eq_nil_of_le (by omega)
    simp [eqVF, hl, h2, h3, c1, c2, t1, t2, d1, d2, hf _ _ h4 x y]
  | z :: z2 :: r, off, .pair p q, h => by
    intro x y
    simp only [keyVF, Bool.and_eq_true] at h
    obtain ⟨h, hr⟩ := h
    split at h <;> try cases h
    rename_i m ag hl
    simp only [Bool.and_eq_true, beq_iff_eq] at h
    obtain ⟨⟨⟨rfl, h2⟩, h3⟩, h4⟩ := h
    have c1 := Sh.cells_len p x.1
    have c2 := Sh.cells_len p y.1
    have ih := keyVF_eq hf (z2 :: r) (off + p.sz) q hr x.2 y.2
    have e1 : (Sh.pair p q).cells x = p.cells x.1 ++ q.cells x.2 := rfl
    have e2 : (Sh.pair p q).cells y = p.cells y.1 ++ q.cells y.2 := rfl
    have t1 : (p.cells x.1 ++ q.cells x.2).take p.sz = p.cells x.1 := by rw [← c1, List.take_left]
    have t2 : (p.cells y.1 ++ q.cells y.2).take p.sz = p.cells y.1 := by rw [← c2, List.take_left]
    have d1 : (p.cells x.1 ++ q.cells x.2).drop p.sz = q.cells x.2 := by rw [← c1, List.drop_left]
    have d2 : (p.cells y.1 ++ q.cells y.2).drop p.sz = q.cells y.2 := by rw [← c2, List.drop_left]
    have k1 : p.sz ≤ (p.cells x.1 ++ q.cells x.2).length := by rw [List.length_append]; omega
    have k2 : p.sz ≤ (p.cells y.1 ++ q.cells y.2).length := by rw [List.length_append]; omega
    rw [e1, e2]
    rw [eqVF]
    simp only [hl, h2, h3, k1, k2, t1, t2, d1, d2, beq_self_eq_true, decide_true, Bool.and_self, if_true, hf _ _ h4 x.1 y.1, ih]
    rfl
  | _ :: _ :: _, _, .int _, h | _ :: _ :: _, _, .bool, h | _ :: _ :: _, _, .str, h | _ :: _ :: _, _, .unit, h => by simp [keyVF] at h
theorem keyV_eq : ∀ (d : Nat) (t : TypeId) (s : Sh), keyV P d t s = true → ∀ x y, eqV P d t (s.cells x) (s.cells y) = some (s.eqT x y)
  | 0, _, _, h => by simp [keyV] at h
  | d + 1, t, s, h => by
    intro x y
    simp only [keyV] at h
    split at h
    · rename_i hu
      cases s <;> simp at h
      simp [eqV, hu, Sh.cells, Sh.eqT]
    · rename_i hu
      cases s <;> simp at h
      simp [eqV, hu, Sh.cells, Sh.eqT]
    · rename_i hu
      cases s <;> simp at h
      simp [eqV, hu, Sh.cells, Sh.eqT]
    · rename_i fs hu
      simp only [Bool.and_eq_true, Bool.not_eq_true'] at h
      have := keyVF_eq (f := eqV P d) (g := keyV P d) (fun t s hk x y => keyV_eq d t s hk x y) fs.toList 0 s h.2 x y
      simp only [eqV, hu, h.1, if_false, Bool.false_eq_true, this]
    · cases h
theorem run_checkFields (D : Nat) (em : Bool) {g : TypeId → Sh → Bool} {cs : Array Value} {l : List Cell} (hl : LRel ρ l cs.toList)
    (hg : ∀ t s n ag, g t s = true → loadB P t = some (n, ag) → ∀ (x : s.T) (v : Value), VRel ρ (AVal.of ag (s.cells x)) v → (Instr.checkKey em D t v).run P w = .ok () w) :
    ∀ (fs : List Field) (off : Nat) (s : Sh) (x : s.T), keyVF P g fs off s = true → off ≤ l.length → l.drop off = s.cells x →
      (forIn fs PUnit.unit (fun f (_ : PUnit) => if f.name ≠ "_" then (do
        let v ← part f.type cs f.offset
        Instr.checkKey em D f.type v
        pure (ForInStep.yield PUnit.unit)) else pure (ForInStep.yield PUnit.unit)) : Sem PUnit).run P w = .ok PUnit.unit w
  | [], _, _, _, h, _, _ => by simp [keyVF] at h
  | [z], off, s, x, h, ho, hd => by
    simp only [keyVF] at h
    split at h <;> try cases h
    rename_i m ag hm
    simp only [Bool.and_eq_true, beq_iff_eq, bne_iff_ne] at h
    obtain ⟨⟨⟨rfl, rfl⟩, h3⟩, h4⟩ := h
    have hlen : s.sz = l.length - z.offset := by rw [← Sh.cells_len s x, ← hd, List.length_drop]
    obtain ⟨v, p1, p2⟩ := run_part hm w cs z.offset hl (by omega)
    have e : (l.drop z.offset).take s.sz = s.cells x := by rw [hd]; exact List.take_of_length_le (by rw [Sh.cells_len]; exact Nat.le_refl _)
    rw [e] at p2
    have p3 := hg _ _ _ _ h4 hm x v p2
    simp only [List.forIn_cons, List.forIn_nil, Sem.run_bind, h3, ne_eq, not_false_eq_true, if_true, Result.andThen_ok, p1, p3, Sem.run_pure]
  | z :: z2 :: r, off, .pair p q, x, h, ho, hd => by
    simp only [keyVF, Bool.and_eq_true] at h
    obtain ⟨h, hr⟩ := h
    split at h <;> try cases h
    rename_i m ag hm
    simp only [Bool.and_eq_true, beq_iff_eq, bne_iff_ne] at h
    obtain ⟨⟨⟨rfl, rfl⟩, h3⟩, h4⟩ := h
    have hd' : l.drop z.offset = p.cells x.1 ++ q.cells x.2 := hd
    have c1 := Sh.cells_len p x.1
    have hlen : p.sz + (q.cells x.2).length = l.length - z.offset := by rw [← c1, ← List.length_append, ← hd', List.length_drop]
    obtain ⟨v, p1, p2⟩ := run_part hm w cs z.offset hl (by omega)
    have e : (l.drop z.offset).take p.sz = p.cells x.1 := by rw [hd', ← c1, List.take_left]
    rw [e] at p2
    have p3 := hg _ _ _ _ h4 hm x.1 v p2
    have ih := run_checkFields D em hl hg (z2 :: r) (z.offset + p.sz) q x.2 hr (by omega) (by rw [← List.drop_drop, hd', ← c1, List.drop_left])
    rw [List.forIn_cons]
    simp only [Sem.run_bind, h3, ne_eq, not_false_eq_true, if_true, Result.andThen_ok, p1, p3, Sem.run_pure]
    exact ih
  | _ :: _ :: _, _, .int _, _, h, _, _ | _ :: _ :: _, _, .bool, _, h, _, _ | _ :: _ :: _, _, .str, _, h, _, _ | _ :: _ :: _, _, .unit, _, h, _, _ => by simp [keyVF] at h
theorem run_checkKeyV (em : Bool) : ∀ (d D : Nat), d ≤ D → ∀ (t : TypeId) (s : Sh) (n : Nat) (ag : Bool), keyV P d t s = true → loadB P t = some (n, ag) → ∀ (x : s.T) (v : Value), VRel ρ (AVal.of ag (s.cells x)) v → (Instr.checkKey em D t v).run P w = .ok () w
  | 0, _, _, _, _, _, _, h, _, _, _, _ => by simp [keyV] at h
  | d + 1, D, hD, t, s, n, ag, h, hl, x, v, hv => by
    obtain ⟨D, rfl⟩ : ∃ m, D = m + 1 := ⟨D - 1, by omega⟩
    obtain ⟨_, ha, _⟩ := loadB_parts hl
    simp only [keyV] at h
    split at h
    · rename_i hu
      have e1 : ag = false := by simp only [isAggB, hu] at ha; exact (Option.some.inj ha).symm
      subst e1
      cases s <;> simp at h
      have hv : v = .bool x := hv
      subst hv
      simp [Instr.checkKey, run_underlying hu]
    · rename_i hu
      have e1 : ag = false := by simp only [isAggB, hu] at ha; exact (Option.some.inj ha).symm
      subst e1
      cases s <;> simp at h
      rename_i k
      have hv : v = .int k x := hv
      subst hv
      simp [Instr.checkKey, run_underlying hu]
    · rename_i hu
      have e1 : ag = false := by simp only [isAggB, hu] at ha; exact (Option.some.inj ha).symm
      subst e1
      cases s <;> simp at h
      have hv : v = .string x := hv
      subst hv
      simp [Instr.checkKey, run_underlying hu]
    · rename_i fs hu
      have e1 : ag = true := by simp only [isAggB, hu] at ha; exact (Option.some.inj ha).symm
      subst e1
      simp only [Bool.and_eq_true, Bool.not_eq_true'] at h
      obtain ⟨cs, rfl, hcs⟩ := hv
      have := run_checkFields (P := P) (w := w) D em (g := keyV P d) hcs (fun t s n ag hk hl x v hv => run_checkKeyV em d D (by omega) t s n ag hk hl x v hv) fs.toList 0 s x h.2 (Nat.zero_le _) (by rw [List.drop_zero])
      simp only [Instr.checkKey, Sem.run_bind, run_underlying hu, Result.andThen_ok]
      rw [← Array.forIn_toList, this]
      rfl
    · cases h
/-! ### Finding -/
def fnd {k v : Sh} : List (k.T × v.T) → k.T → Nat → Option (Nat × Value)
  | [], _, _ => none
  | e :: r, x, i => cond (k.eqT x e.1) (some (i, v.val e.2)) (fnd r x (i + 1))
def Ents (k v : Sh) (es : List MapEntry) (d : List (k.T × v.T)) : Prop := es.map (fun e => (e.key, e.val)) = List.map (fun x : k.T × v.T => (k.val x.1, v.val x.2)) d
theorem run_equalV {kt : TypeId} {k : Sh} (hk : keyV P 20 kt k = true) (hl : loadB P kt = some (k.sz, k.isP)) (x y : k.T) : (Op.equal kt (k.val x) (k.val y)).run P w = .ok (k.eqT x y) w :=
  run_equal (ρ := fun _ => none) 20 10000 (by omega) kt k.sz k.isP hl _ _ _ _ _ (Sh.val_rel k x) (Sh.val_rel k y) (Sh.cells_len k x) (Sh.cells_len k y) (keyV_eq 20 kt k hk x y)
theorem run_findAskingV {kt : TypeId} {k v : Sh} (hk : keyV P 20 kt k = true) (hl : loadB P kt = some (k.sz, k.isP)) (x : k.T) : ∀ (es : List MapEntry) (d : List (k.T × v.T)) (i : Nat), Ents k v es d → (Instr.findAsking kt (k.val x) es i).run P w = .ok (fnd d x i) w
  | [], [], i, _ => by simp [Instr.findAsking, fnd]
  | [], _ :: _, _, h => by simp [Ents] at h
  | _ :: _, [], _, h => by simp [Ents] at h
  | e :: es, z :: d, i, h => by
    have h' : (e.key, e.val) = (k.val z.1, v.val z.2) ∧ Ents k v es d := by unfold Ents at h; rw [List.map_cons, List.map_cons] at h; exact List.cons.inj h
    obtain ⟨h1, h2⟩ := h'
    have e1 : e.key = k.val z.1 := congrArg Prod.fst h1
    have e2 : e.val = v.val z.2 := congrArg Prod.snd h1
    have ih := run_findAskingV hk hl x es d (i + 1) h2
    have hq := run_equalV (P := P) (w := w) hk hl x z.1
    simp only [Instr.findAsking, Sem.run_bind, e1, hq, Result.andThen_ok, fnd]
    cases k.eqT x z.1
    · simpa using ih
    · simp [e2]
theorem findNowV {kt : TypeId} {k v : Sh} {kd : TypeDesc} (hu : P.underlying kt = some kd) (hk : keyV P 20 kt k = true) (x : k.T) : ∀ (es : List MapEntry) (d : List (k.T × v.T)) (i : Nat), Ents k v es d → Instr.findNow kd (k.val x) es i = none ∨ Instr.findNow kd (k.val x) es i = some (fnd d x i)
  | [], [], i, _ => .inr rfl
  | [], _ :: _, _, h => by simp [Ents] at h
  | _ :: _, [], _, h => by simp [Ents] at h
  | e :: es, z :: d, i, h => by
    have h' : (e.key, e.val) = (k.val z.1, v.val z.2) ∧ Ents k v es d := by unfold Ents at h; rw [List.map_cons, List.map_cons] at h; exact List.cons.inj h
    obtain ⟨h1, h2⟩ := h'
    have e1 : e.key = k.val z.1 := congrArg Prod.fst h1
    have e2 : e.val = v.val z.2 := congrArg Prod.snd h1
    have ih := findNowV (v := v) hu hk x es d (i + 1) h2
    have sn : Instr.sameNow kd (k.val x) (k.val z.1) = none ∨ Instr.sameNow kd (k.val x) (k.val z.1) = some (k.eqT x z.1) := by
      rw [show (20 : Nat) = 19 + 1 from rfl] at hk
      simp only [keyV, hu] at hk
      split at hk
      · rename_i hh
        cases hh
        cases k <;> simp at hk
        exact .inr rfl
      · rename_i hh
        cases hh
        cases k <;> simp at hk
        exact .inr (if_pos rfl)
      · rename_i hh
        cases hh
        cases k <;> simp at hk
        exact .inr rfl
      · rename_i hh
        cases hh
        refine .inl ?_
        cases k <;> rfl
      · cases hk
    unfold Instr.findNow
    rw [e1]
    rcases sn with sn | sn
    · left; rw [sn]
    · rw [sn]
      unfold fnd
      cases k.eqT x z.1
      · exact ih
      · right; rw [e2]; rfl
theorem run_findKeyV {kt : TypeId} {k v : Sh} (hk : keyV P 20 kt k = true) (hl : loadB P kt = some (k.sz, k.isP)) (x : k.T) (es : List MapEntry) (d : List (k.T × v.T)) (h : Ents k v es d) : (Instr.findKey kt (k.val x) es).run P w = .ok (fnd d x 0) w := by
  obtain ⟨kd, hu⟩ : ∃ kd, P.underlying kt = some kd := by
    obtain ⟨_, ha, _⟩ := loadB_parts hl
    unfold isAggB at ha
    cases hq : P.underlying kt with
    | none => rw [hq] at ha; cases ha
    | some q => exact ⟨q, rfl⟩
  simp only [Instr.findKey, Sem.run_bind, run_underlying hu, Result.andThen_ok]
  rcases findNowV hu hk x es d 0 h with e | e
  · rw [e]; exact run_findAskingV hk hl x es d 0 h
  · rw [e]; simp
theorem fnd_none {k v : Sh} (x : k.T) : ∀ (d : List (k.T × v.T)) (i : Nat), fnd d x i = none → (∀ z, mget k.eqT d x z = z) ∧ mhas k.eqT d x = false ∧ (∀ y, mput k.eqT d x y = d ++ [(x, y)]) ∧ mdel k.eqT d x = d
  | [], _, _ => ⟨fun _ => rfl, rfl, fun _ => rfl, rfl⟩
  | e :: r, i, h => by
    unfold fnd at h
    cases hq : k.eqT x e.1 with
    | true => rw [hq] at h; cases h
    | false =>
      rw [hq] at h
      obtain ⟨h1, h2, h3, h4⟩ := fnd_none x r (i + 1) h
      exact ⟨fun z => by unfold mget; rw [hq]; exact h1 z, by unfold mhas; rw [hq]; exact h2, fun y => by unfold mput; rw [hq]; show e :: mput k.eqT r x y = _; rw [h3 y]; rfl, by unfold mdel; rw [hq]; show e :: mdel k.eqT r x = _; rw [h4]⟩
theorem fnd_some {k v : Sh} (x : k.T) : ∀ (d : List (k.T × v.T)) (i j : Nat) (u : Value), fnd d x i = some (j, u) → ∃ m, j = i + m ∧ m < d.length ∧ (∃ y, d[m]? = some (x, y) ∧ u = v.val y ∧ ∀ z, mget k.eqT d x z = y) ∧ mhas k.eqT d x = true ∧ (∀ y, mput k.eqT d x y = d.set m (x, y)) ∧ mdel k.eqT d x = d.eraseIdx m
  | [], _, _, _, h => by cases h
  | e :: r, i, j, u, h => by
    unfold fnd at h
    cases hq : k.eqT x e.1 with
    | true =>
      rw [hq] at h
      cases h
      have hx := eqT_eq k _ _ hq
      exact ⟨0, rfl, by simp, ⟨e.2, by rw [hx]; rfl, rfl, fun z => by unfold mget; rw [hq]; rfl⟩, by unfold mhas; rw [hq]; rfl, fun y => by unfold mput; rw [hq]; rfl, by unfold mdel; rw [hq]; rfl⟩
    | false =>
      rw [hq] at h
      obtain ⟨m, h1, h2, ⟨y, h3, h4, h5⟩, h6, h7, h8⟩ := fnd_some x r (i + 1) j u h
      exact ⟨m + 1, by omega, by simp; exact h2, ⟨y, by simpa using h3, h4, fun z => by unfold mget; rw [hq]; exact h5 z⟩, by unfold mhas; rw [hq]; exact h6, fun y => by unfold mput; rw [hq]; show e :: mput k.eqT r x y = _; rw [h7 y]; rfl, by unfold mdel; rw [hq]; show e :: mdel k.eqT r x = _; rw [h8]; rfl⟩
/-! ### Operations -/
structure MapT (P : Program) (t : TypeId) (k v : Sh) (z : List Cell) (kt et : TypeId) : Prop where
  und : P.underlying t = some (.map kt et)
  zero : zeroB P et = some z
  key : keyV P 20 kt k = true
  kl : loadB P kt = some (k.sz, k.isP)
  vl : loadB P et = some (v.sz, v.isP)
  zag : zagB P et = v.isP
theorem mapB_parts {t : TypeId} {k v : Sh} {z : List Cell} (h : mapB P t = some (k, v, z)) : ∃ kt et, MapT P t k v z kt et := by
  unfold mapB at h
  split at h <;> try cases h
  rename_i kt et hu
  split at h <;> try cases h
  rename_i k' v' z' h1 h2 h3
  split at h <;> cases h
  rename_i hc
  simp only [Bool.and_eq_true, beq_iff_eq] at hc
  obtain ⟨⟨⟨c1, c2⟩, c3⟩, c4⟩ := hc
  exact ⟨kt, et, hu, h3, c1, c2, c3, c4⟩
theorem MapT.ks {t : TypeId} {k v : Sh} {z : List Cell} {kt et : TypeId} (h : MapT P t k v z kt et) : k.isP = false → k.sz = 1 := (loadB_parts h.kl).2.2
theorem MapT.vs {t : TypeId} {k v : Sh} {z : List Cell} {kt et : TypeId} (h : MapT P t k v z kt et) : v.isP = false → v.sz = 1 := (loadB_parts h.vl).2.2
theorem MapT.run_zero {t : TypeId} {k v : Sh} {z : List Cell} {kt et : TypeId} (h : MapT P t k v z kt et) {zz : v.T} (hz : v.of z = some (zz, [])) : (zeroValue et).run P w = .ok (v.val zz) w := by
  obtain ⟨i, zv, hi, hzv, hvs⟩ := zeroB_parts h.zero
  rw [Go.Proofs.YtiaagflfiphioaaDoorS.run_zero hi hzv]
  have hc := of_vals (ρ := fun _ => none) hz (ofVals_rel hvs)
  have hag := h.zag
  unfold zagB at hag
  rw [hi] at hag
  simp only [hzv] at hag
  have : zv = v.val zz := by
    cases zv with
    | agg cs =>
      have hp : v.isP = true := hag.symm
      cases v with
      | pair p q =>
        rw [val_pair]
        congr 1
        apply Array.ext'
        rw [← hc]
        rfl
      | _ => cases hp
    | _ => exact vals_val hc.symm hag.symm h.vs
  rw [this]
theorem mapR_eq {k v : Sh} {o : AObj} {d : List (k.T × v.T)} (h : mapR k v o = some d) : ∃ own, o = .blob own (.map k v) d := by
  cases o with
  | blob own t d' =>
    obtain ⟨rfl, hc⟩ := castBlob_eq (show castBlob (.map k v) t d' = some d from h)
    cases hc
    exact ⟨own, rfl⟩
  | _ => cases h
theorem mapW_eq {k v : Sh} {o : AObj} {d : List (k.T × v.T)} (h : mapW k v o = some d) : o = .blob true (.map k v) d := by
  cases o with
  | blob own t d' =>
    cases own with
    | false => cases h
    | true =>
      obtain ⟨rfl, hc⟩ := castBlob_eq (show castBlob (.map k v) t d' = some d from h)
      cases hc
      rfl
  | _ => cases h
theorem born_push {es : Array MapEntry} {clock : Nat} (h : Born (es.toList.map (·.born)) clock) (x y : Value) : Born ((es.push { key := x, val := y, born := clock }).toList.map (·.born)) (clock + 1) := by
  have e : (es.push { key := x, val := y, born := clock }).toList.map (·.born) = es.toList.map (·.born) ++ [clock] := by simp
  rw [e]
  refine ⟨fun b hb => ?_, ?_⟩
  · rcases List.mem_append.1 hb with hb | hb
    · have := h.1 b hb; omega
    · rw [List.mem_singleton.1 hb]; omega
  · rw [List.nodup_append]
    refine ⟨h.2, by simp, fun a ha b hb e => ?_⟩
    rw [List.mem_singleton.1 hb] at e
    have := h.1 a ha
    omega
theorem born_set {es : Array MapEntry} {clock : Nat} (h : Born (es.toList.map (·.born)) clock) (j : Nat) (x y : Value) : Born ((es.modify j fun e => { e with key := x, val := y }).toList.map (·.born)) clock := by
  have e : (es.modify j fun e => { e with key := x, val := y }).toList.map (·.born) = es.toList.map (·.born) := by
    apply List.ext_getElem?
    intro q
    rw [List.getElem?_map, List.getElem?_map, Array.getElem?_toList, Array.getElem?_toList, Array.getElem?_modify]
    split
    · rw [Option.map_map]; rfl
    · rfl
  rw [e]
  exact h
theorem born_erase {es : Array MapEntry} {clock : Nat} (h : Born (es.toList.map (·.born)) clock) (j : Nat) : Born ((es.eraseIdxIfInBounds j).toList.map (·.born)) clock := by
  have hs : ((es.eraseIdxIfInBounds j).toList.map (·.born)).Sublist (es.toList.map (·.born)) := by
    refine List.Sublist.map _ ?_
    rw [Array.toList_eraseIdxIfInBounds]
    exact List.eraseIdx_sublist _ _
  exact ⟨fun b hb => h.1 b (hs.subset hb), h.2.sublist hs⟩
/-- A map in memory. -/
theorem map_of {k v : Sh} {own : Bool} {d : List (k.T × v.T)} {x : Operand} {i : Nat} (S : Sim w0 A W nt sh U ρ tm F a w) (hs : Sub F0 F) (hx : ev tm x = .c (.mp i)) (hF : F0 i = .blob own (.map k v) d) :
    ∃ r es clock, a.eval x = .map (some r) ∧ ρ i = some (.map (some r)) ∧ w.heap[r]? = some (.map es clock) ∧ Ents k v es.toList d ∧ Born (es.toList.map (·.born)) clock := by
  have hF' := hs.blob hF
  have hxr := ev_rel S x
  rw [hx] at hxr
  obtain ⟨hρ, _⟩ := hxr
  have hobj := S.obj i
  rw [hF'] at hobj
  obtain ⟨hd, q1, r, ob, rfl, hh, es, clock, rfl, hob, hbo⟩ := hobj
  rw [hρ] at q1
  have hv : a.eval x = .map (some r) := Option.some.inj q1
  exact ⟨r, es, clock, hv, by rw [hρ, hv], hh, hob, hbo⟩
theorem Ents.size {k v : Sh} {es : List MapEntry} {d : List (k.T × v.T)} (h : Ents k v es d) : es.length = d.length := by
  have := congrArg List.length h
  simpa using this
/-- A whole object is turned in its block. -/
theorem out_turnBlob {i r : Nat} {bt : BT} {d d' : bt.D} {ob o' : Obj} {v : AVal} {y : Value} {run : Result Next} (S : Sim w0 A W nt sh U ρ tm F a w) (hF' : F i = .blob true bt d) (hρ : ρ i = some (bt.hd r)) (hh : w.heap[r]? = some ob) (hob' : bt.obj d' o') (hprim : bt.prim = true) (hfl : bt.flat = true)
    (hbr : ∀ (ρ : Rho) (own : Bool) (d : bt.D) (w : World) (r : Nat) (o : Obj), w.heap[r]? = some o → bt.obj d o → BlobRel ρ own bt d (bt.hd r) w)
    (hrun : run = .ok (.value y) { w with heap := w.heap.setIfInBounds r o' } ∨ (run = .ok .skip { w with heap := w.heap.setIfInBounds r o' } ∧ y = undef)) (hv : VRel ρ v y) : Out w0 A W U ρ F id cnt v [(i, .blob true bt d')] run := by
  have hlt := (Array.getElem?_eq_some_iff.1 hh).1
  have hset : ∀ j, j ≠ r → (w.heap.setIfInBounds r o')[j]? = w.heap[j]? := fun j hj => by
    simp [Array.getElem?_setIfInBounds, Ne.symm hj]
  have hg : w.grownBy { w with heap := w.heap.setIfInBounds r o' } (some r) := ⟨rfl, rfl, rfl, by simp, fun j hj hne => hset j (fun e => hne (by rw [e]))⟩
  have hb : blk (ρ i) = some r := by rw [hρ]; exact bt.blk_hd r
  refine ⟨_, ρ, ⟨_, hrun, hv⟩, ext.refl ρ, fun _ _ => rfl, ?_⟩
  have hown : (F i).own = true := by rw [hF']; simp [AObj.own, hprim]
  refine (S.toHR.turn (row := some r) (fun q => ?_) hg (fun k e => by cases e; exact S.locw i r hown hb) (fun q hlive hq => ?_) (fun q hne => ?_) (fun b e => by cases e; exact ⟨i, hown, by rw [hF']; exact hfl, hb⟩)).weak fun _ h => h.1
  · simp only [upd]
    by_cases hq : i = q
    · subst hq; rw [if_pos rfl, hF']; exact .inr (.inr (.inr ⟨true, bt, _, true, bt, _, rfl, rfl, fun e => e⟩))
    · rw [if_neg hq]; exact MetaOk.refl _
  · simp only [upd] at hlive hq ⊢
    by_cases hqi : i = q
    · subst hqi
      rw [if_pos rfl]
      exact ⟨_, hρ, hbr _ _ _ _ _ _ (by simp [hlt]) hob'⟩
    · rw [if_neg hqi] at hlive ⊢
      rcases hq with ⟨b', e, hbb⟩ | hne
      · cases e
        obtain ⟨ki, kj, n', ci, cj, e1, e2, _⟩ := S.sep i q hqi hown hlive r hb hbb
        rw [hF'] at e1
        cases e1
      · rw [if_neg hqi] at hne
        exact absurd rfl hne
  · simp only [upd] at hne ⊢
    by_cases hqi : i = q
    · rw [if_pos hqi]; exact hfl
    · rw [if_neg hqi] at hne
      exact absurd rfl hne
theorem out_makeMap {o : Oper} {t : TypeId} {rs : Option Operand} (ho : o.op = .makeMap t rs) {v : AVal} {u : List (Nat × AObj)} (S : Sim w0 A W nt sh U ρ tm F a w) (hid : U id) (h : Gives (mapEff P o.op tm F0 id) v u) : Out w0 A W U ρ F id 1 v u ((execOp a.eval o).run P w) := by
  rw [ho] at h
  cases rs with
  | some x => exact h.fail.elim
  | none =>
  simp only [mapEff] at h
  split at h
  rotate_left
  exact h.fail.elim
  rename_i k vs z hm
  obtain ⟨rfl, rfl⟩ := h.val
  have hrun : (execOp a.eval o).run P w = .ok (.value (.map (some w.heap.size))) (w.alloc (.map #[] 0)) := by
    simp [execOp, ho, Instr.makeMap, run_newObj, World.alloc_eq]
  obtain ⟨ρ', h1, h2, h3, h4⟩ := S.toHR.newBlob (w' := w.alloc (.map #[] 0)) id true (.map k vs) ([] : List (k.T × vs.T)) (.map (some w.heap.size)) w.heap.size hid (World.grownBy_alloc w _ _) (.inl S.fr.size) (.inl S.fr.size)
    S.toHR.fresh rfl (fun b' hb => by simp [blk] at hb; omega) (fun _ _ => ⟨_, _, rfl, heap_alloc_new w _, #[], 0, rfl, rfl, (fun b hb => by cases hb), .nil⟩) (.inl ⟨_, .inl rfl⟩)
  exact ⟨_, ρ', ⟨_, .inl hrun, h4⟩, h1, fun i hi => h2 i (by omega), h3.weak fun i hi => ⟨hi.1, by omega⟩⟩
theorem out_lookup {o : Oper} {t : TypeId} {x i : Operand} {ok : Bool} (ho : o.op = .lookup t x i ok) {v : AVal} {u : List (Nat × AObj)} (S : Sim w0 A W nt sh U ρ tm F a w) (hs : Sub F0 F) (h : Gives (mapEff P o.op tm F0 id) v u) : Out w0 A W U ρ F id cnt v u ((execOp a.eval o).run P w) := by
  rw [ho] at h
  simp only [mapEff] at h
  split at h
  rotate_left
  exact h.fail.elim
  rename_i k vs z hm
  split at h
  rotate_left
  exact h.fail.elim
  rename_i j hx
  split at h
  rotate_left
  exact h.fail.elim
  rename_i d key zz hF hkey hz
  obtain ⟨rfl, rfl⟩ := h.val
  obtain ⟨own, hF⟩ := mapR_eq hF
  obtain ⟨kt, et, M⟩ := mapB_parts hm
  obtain ⟨r, es, clock, hv, hρ, hh, he, hbo⟩ := map_of S hs hx hF
  have hk := valS_of S hkey M.ks
  have hch := fun em => run_checkKeyV (P := P) (w := w) (ρ := fun _ => none) em 20 10000 (by omega) kt k _ _ M.key M.kl key _ (Sh.val_rel k key)
  have hfi := run_findKeyV (P := P) (w := w) M.key M.kl key es.toList d he
  have hzr := M.run_zero (w := w) hz
  have hg : (getObj r).run P w = .ok (.map es clock) w := by simp [getObj, Sem.run, hh]
  have hrun : (Instr.lookup t (a.eval x) (a.eval i) ok).run P w = .ok (if ok then .tuple #[vs.val (mget k.eqT d key zz), .bool (mhas k.eqT d key)] else vs.val (mget k.eqT d key zz)) w := by
    rw [hv, hk]
    cases hf : fnd d key 0 with
    | none =>
      obtain ⟨q1, q2, _, _⟩ := fnd_none key d 0 hf
      rw [q1, q2]
      rw [hf] at hfi
      cases ok <;> simp [Instr.lookup, run_underlying M.und, hg, hch, hfi, hzr]
    | some p =>
      obtain ⟨j', u'⟩ := p
      obtain ⟨m, _, _, ⟨y, _, e1, e2⟩, q2, _, _⟩ := fnd_some key d 0 j' u' hf
      rw [e2, q2, ← e1]
      rw [hf] at hfi
      cases ok <;> simp [Instr.lookup, run_underlying M.und, hg, hch, hfi, hzr]
  refine Out.pure S (x := if ok then .tuple #[vs.val (mget k.eqT d key zz), .bool (mhas k.eqT d key)] else vs.val (mget k.eqT d key zz)) (by simp [execOp, ho, hrun]) ?_
  cases ok
  · exact Sh.val_rel vs _
  · refine ⟨_, rfl, ?_, ⟨_, rfl, rfl⟩, trivial⟩
    have hr := Sh.val_rel (ρ := ρ) vs (mget k.eqT d key zz)
    cases hp : vs.isP with
    | true =>
      rw [hp] at hr
      obtain ⟨cs, e, hl⟩ := hr
      exact ⟨cs, e, hl⟩
    | false =>
      rw [hp] at hr
      have hl := Sh.cells_len vs (mget k.eqT d key zz)
      rw [M.vs hp] at hl
      obtain ⟨c, hc⟩ := List.length_eq_one_iff.1 hl
      rw [hc] at hr ⊢
      exact ⟨c, rfl, hr⟩
theorem ents_set {k v : Sh} {es : Array MapEntry} {d : List (k.T × v.T)} (h : Ents k v es.toList d) (m : Nat) (x : k.T) (y : v.T) (hm : m < d.length) : Ents k v (es.modify m fun e => { e with key := k.val x, val := v.val y }).toList (d.set m (x, y)) := by
  unfold Ents at h ⊢
  have hl := Ents.size h
  apply List.ext_getElem?
  intro i
  have hi : (es.toList.map fun e => (e.key, e.val))[i]? = (List.map (fun x : k.T × v.T => (k.val x.1, v.val x.2)) d)[i]? := by rw [h]
  rw [List.getElem?_map, List.getElem?_map] at hi ⊢
  rw [Array.getElem?_toList] at hi ⊢
  rw [Array.getElem?_modify, List.getElem?_set]
  by_cases hmi : m = i
  · subst hmi
    rw [if_pos rfl, if_pos rfl, if_pos hm]
    have : m < es.size := by rw [← Array.length_toList]; omega
    simp [this]
  · rw [if_neg hmi, if_neg hmi]
    exact hi
theorem ents_push {k v : Sh} {es : Array MapEntry} {d : List (k.T × v.T)} (h : Ents k v es.toList d) (x : k.T) (y : v.T) (b : Nat) : Ents k v (es.push { key := k.val x, val := v.val y, born := b }).toList (d ++ [(x, y)]) := by
  unfold Ents at h ⊢
  rw [Array.toList_push, List.map_append, List.map_append, h]
  rfl
theorem ents_erase {k v : Sh} {es : Array MapEntry} {d : List (k.T × v.T)} (h : Ents k v es.toList d) (m : Nat) (hm : m < d.length) : Ents k v (es.eraseIdxIfInBounds m).toList (d.eraseIdx m) := by
  have hl := Ents.size h
  have hlt : m < es.size := by rw [← Array.length_toList]; omega
  unfold Ents at h ⊢
  have : (es.eraseIdxIfInBounds m).toList = es.toList.eraseIdx m := by
    unfold Array.eraseIdxIfInBounds
    rw [dif_pos hlt, Array.toList_eraseIdx]
  rw [this, List.eraseIdx_eq_take_drop_succ, List.eraseIdx_eq_take_drop_succ, List.map_append, List.map_append, List.map_take, List.map_drop, List.map_take, List.map_drop, h]
theorem out_mapUpdate {o : Oper} {t : TypeId} {x i y : Operand} (ho : o.op = .mapUpdate t x i y) {v : AVal} {u : List (Nat × AObj)} (S : Sim w0 A W nt sh U ρ tm F a w) (hs : Sub F0 F) (h : Gives (mapEff P o.op tm F0 id) v u) : Out w0 A W U ρ F id cnt v u ((execOp a.eval o).run P w) := by
  rw [ho] at h
  simp only [mapEff] at h
  split at h
  rotate_left
  exact h.fail.elim
  rename_i k vs z hm
  split at h
  rotate_left
  exact h.fail.elim
  rename_i j hx
  split at h
  rotate_left
  exact h.fail.elim
  rename_i d key val hF hkey hval
  obtain ⟨rfl, rfl⟩ := h.val
  have hF := mapW_eq hF
  obtain ⟨kt, et, M⟩ := mapB_parts hm
  obtain ⟨r, es, clock, hv, hρ, hh, he, hbo⟩ := map_of S hs hx hF
  have hk := valS_of S hkey M.ks
  have hy := valS_of S hval M.vs
  have hch := fun em => run_checkKeyV (P := P) (w := w) (ρ := fun _ => none) em 20 10000 (by omega) kt k _ _ M.key M.kl key _ (Sh.val_rel k key)
  have hfi := run_findKeyV (P := P) (w := w) M.key M.kl key es.toList d he
  have hg : (getObj r).run P w = .ok (.map es clock) w := by simp [getObj, Sem.run, hh]
  have hst : ∀ o', (setObj r o').run P w = .ok () { w with heap := w.heap.setIfInBounds r o' } := fun o' => by simp [setObj, Sem.run, hh]
  cases hf : fnd d key 0 with
  | none =>
    obtain ⟨_, _, q3, _⟩ := fnd_none key d 0 hf
    rw [hf] at hfi
    rw [q3]
    refine out_turnBlob S (hs.blob hF) hρ hh (o' := .map (es.push { key := k.val key, val := vs.val val, born := clock }) (clock + 1)) (y := undef) ⟨_, _, rfl, ents_push he key val clock, born_push hbo _ _⟩ rfl rfl (fun _ _ _ _ _ _ h1 h2 => ⟨_, _, rfl, h1, h2⟩) (.inr ⟨?_, rfl⟩) trivial
    simp [execOp, ho, hv, hk, hy, Instr.mapUpdate, run_underlying M.und, hg, hch, hfi, hst]
  | some p =>
    obtain ⟨j', u'⟩ := p
    obtain ⟨m, e0, hlt, ⟨yy, e3, e1, e2⟩, _, q3, _⟩ := fnd_some key d 0 j' u' hf
    rw [hf] at hfi
    have e0 : j' = m := by omega
    subst e0
    rw [q3]
    have hkk : ((es[j']?).map (·.key)).getD (k.val key) = k.val key := by
      cases hq : es[j']? with
      | none => rfl
      | some e =>
        have hi : (es.toList.map fun e => (e.key, e.val))[j']? = (List.map (fun x : k.T × vs.T => (k.val x.1, vs.val x.2)) d)[j']? := by rw [show es.toList.map (fun e => (e.key, e.val)) = _ from he]
        rw [List.getElem?_map, List.getElem?_map, Array.getElem?_toList, hq, e3] at hi
        have := congrArg Prod.fst (Option.some.inj hi)
        exact this
    have hkt : (Instr.keyThatStays (k.val key) (k.val key)).run P w = .ok (k.val key) w := by simp [Instr.keyThatStays, sameBits_val]
    refine out_turnBlob S (hs.blob hF) hρ hh (o' := .map (es.modify j' fun e => { e with key := k.val key, val := vs.val val }) clock) (y := undef) ⟨_, _, rfl, ents_set he j' key val hlt, born_set hbo j' _ _⟩ rfl rfl (fun _ _ _ _ _ _ h1 h2 => ⟨_, _, rfl, h1, h2⟩) (.inr ⟨?_, rfl⟩) trivial
    simp only [execOp, ho, hv, hk, hy, Instr.mapUpdate, Sem.run_bind, run_underlying M.und, hg, hch, hfi, hst, hkk, hkt, Result.andThen_ok, Sem.run_pure]
theorem out_delete {o : Oper} {c : Call} (ho : o.op = .call c) (hb : c.callee = .builtin .delete) {t : TypeId} (h0 : c.argTypes[0]? = some t) {x y : Operand} (hxx : c.args = #[x, y]) {j : Nat} (hx : ev tm x = .c (.mp j)) {k vs : Sh} {z : List Cell} (hm : mapB P t = some (k, vs, z)) {d : List (k.T × vs.T)} {key : k.T}
    (hF : mapW k vs (F0 j) = some d) (hkey : valS k (ev tm y) = some key) (S : Sim w0 A W nt sh U ρ tm F a w) (hs : Sub F0 F) : Out w0 A W U ρ F id cnt (.tup []) [(j, .blob true (.map k vs) (mdel k.eqT d key))] ((execOp a.eval o).run P w) := by
  have hF := mapW_eq hF
  obtain ⟨kt, et, M⟩ := mapB_parts hm
  obtain ⟨r, es, clock, hv, hρ, hh, he, hbo⟩ := map_of S hs hx hF
  have hk := valS_of S hkey M.ks
  have hch := fun em => run_checkKeyV (P := P) (w := w) (ρ := fun _ => none) em 20 10000 (by omega) kt k _ _ M.key M.kl key _ (Sh.val_rel k key)
  have hfi := run_findKeyV (P := P) (w := w) M.key M.kl key es.toList d he
  have hg : (getObj r).run P w = .ok (.map es clock) w := by simp [getObj, Sem.run, hh]
  have hst : ∀ o', (setObj r o').run P w = .ok () { w with heap := w.heap.setIfInBounds r o' } := fun o' => by simp [setObj, Sem.run, hh]
  have run : ∀ {w' : World}, (Builtin.delete_ c.argTypes o.type #[a.eval x, a.eval y]).run P w = .ok (.tuple #[]) w' → (execOp a.eval o).run P w = .ok (.value (.tuple #[])) w' := fun {w'} e => by
    simp [execOp, ho, resolve, hb, invoke, builtin, hxx, e]
  cases hf : fnd d key 0 with
  | none =>
    obtain ⟨_, _, _, q4⟩ := fnd_none key d 0 hf
    rw [hf] at hfi
    rw [q4]
    refine out_turnBlob S (hs.blob hF) hρ hh (o' := .map es clock) (y := .tuple #[]) ⟨_, _, rfl, he, hbo⟩ rfl rfl (fun _ _ _ _ _ _ h1 h2 => ⟨_, _, rfl, h1, h2⟩) (.inl (run ?_)) ⟨_, rfl, trivial⟩
    rw [hv, hk]
    simp [Builtin.delete_, h0, run_underlying M.und, hg, hch, hfi, hst]
  | some p =>
    obtain ⟨j', u'⟩ := p
    obtain ⟨m, e0, hlt, _, _, _, q4⟩ := fnd_some key d 0 j' u' hf
    rw [hf] at hfi
    have e0 : j' = m := by omega
    subst e0
    rw [q4]
    refine out_turnBlob S (hs.blob hF) hρ hh (o' := .map (es.eraseIdxIfInBounds j') clock) (y := .tuple #[]) ⟨_, _, rfl, ents_erase he j' hlt, born_erase hbo j'⟩ rfl rfl (fun _ _ _ _ _ _ h1 h2 => ⟨_, _, rfl, h1, h2⟩) (.inl (run ?_)) ⟨_, rfl, trivial⟩
    rw [hv, hk]
    simp only [Builtin.delete_, h0, Sem.run_bind, run_underlying M.und, hg, hch, hfi, hst, Result.andThen_ok, Sem.run_pure]
    simp [run_underlying M.und, hg, hch, hfi, hst]
end
end Go.Proofs.YtiaagflfiphioaaDoorS
