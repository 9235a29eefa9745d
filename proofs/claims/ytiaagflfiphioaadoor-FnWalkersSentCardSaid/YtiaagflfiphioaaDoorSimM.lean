/- Packing and unpacking. -/
import Derived.Test.YtiaagflfiphioaaDoorSimL
namespace Go.Proofs.YtiaagflfiphioaaDoorS
open Go
set_option linter.unusedVariables false
set_option linter.unusedSimpArgs false

def rq (ρ : Rho) : Option Nat → Option Value
  | some j => ρ j
  | none => some (.slice none 0 0)
def rhoA (ρ : Rho) (A : Acc) : Rho := fun i => match A[i]? with
  | some (_, q) => rq ρ q
  | none => none
theorem rhoA_ext (ρ : Rho) (A B : Acc) : ext (rhoA ρ A) (rhoA ρ (A ++ B)) := by
  intro i v h
  unfold rhoA at *
  by_cases hi : i < A.length
  · rw [List.getElem?_append_left hi]; exact h
  · rw [List.getElem?_eq_none (by omega)] at h; cases h
theorem rhoA_at (ρ : Rho) (A : Acc) (i : Nat) (o : Bool) (q : Option Nat) (h : A[i]? = some (o, q)) : rhoA ρ A i = rq ρ q := by
  unfold rhoA
  rw [h]
/-- A blob that was packed is the same, or owns less. -/
inductive Like : Bool → (t : BT) → t.D → (t' : BT) → t'.D → Prop
  | same (own : Bool) (t : BT) (d : t.D) : Like own t d t d
  | less (own oo io oo' io' : Bool) (s : Sh) (xss : List (List s.T)) (h : own = true → (oo = true → oo' = true) ∧ (io = true → io' = true)) : Like own (.rows oo io s) xss (.rows oo' io' s) xss
theorem castLook_like {own : Bool} {t t' : BT} {d' : t'.D} {d : t.D} (h : castLook own t t' d' = some d) : Like own t d t' d' := by
  cases t with
  | rows oo io s =>
    cases t' with
    | rows oo' io' s' =>
      have h : (if (!own || ((!oo || oo') && (!io || io'))) = true then castRows s s' d' else none) = some d := h
      split at h
      · rename_i hc
        obtain ⟨rfl, hc2⟩ := castRows_eq h
        cases hc2
        refine .less own oo io oo' io' _ _ fun e => ?_
        subst e
        simp only [Bool.not_true, Bool.false_or, Bool.and_eq_true, Bool.or_eq_true, Bool.not_eq_true'] at hc
        exact ⟨fun e => hc.1.resolve_left (by rw [e]; simp), fun e => hc.2.resolve_left (by rw [e]; simp)⟩
      · cases h
    | iter => cases h
    | map => cases h
    | hole => cases h
    | tail => cases h
    | recs => cases h
  | iter => cases h
  | map => cases h
  | hole => cases h
  | tail => cases h
  | recs => cases h
theorem castW_like {own : Bool} {t t' : BT} {d' : t'.D} {d : t.D} (h : castW own t t' d' = some d) : Like own t d t' d' := by
  unfold castW at h
  split at h
  · rename_i d1 hc
    cases h
    obtain ⟨rfl, hc⟩ := castBlob_eq hc
    cases hc
    exact .same own _ _
  · exact castLook_like h
def OMatch (ρ : Rho) (F : Nat → AObj) (ρ' : Rho) (q : Bool × Option Nat) : AObj → Prop
  | .dead => False
  | .row own s xs => own = q.1 ∧ match q.2 with | some j => (∃ o, F j = .row o s xs ∧ (own = true → o = true)) | none => xs = []
  | .blob own t d => own = q.1 ∧ match q.2 with | some j => t.free = true ∧ ∃ o t' d', F j = .blob o t' d' ∧ (own = true → o = true) ∧ Like own t d t' d' | none => t.nil = some d
  | .cell own k n c => own = q.1 ∧ ∃ j o c', q.2 = some j ∧ F j = .cell o k n c' ∧ (own = true → o = true) ∧ (∀ v, CRel ρ c' v → CRel ρ' c v) ∧ c ≠ .unk
theorem OMatch.mono {ρ : Rho} {F : Nat → AObj} {ρ' ρ2 : Rho} (hx : ext ρ' ρ2) {q : Bool × Option Nat} {o : AObj} (h : OMatch ρ F ρ' q o) : OMatch ρ F ρ2 q o := by
  cases o with
  | dead => exact h
  | row own s xs => exact h
  | blob own t d => exact h
  | cell own k n c =>
    obtain ⟨h1, j, o, c', h2, h3, h4, h5, h6⟩ := h
    exact ⟨h1, j, o, c', h2, h3, h4, fun v hv => (h5 v hv).mono hx, h6⟩
def RelP (ρ ρ' : Rho) : List Cell → List Cell → Prop
  | [], [] => True
  | a :: ars, b :: bs => (∀ v, CRel ρ a v → CRel ρ' b v) ∧ RelP ρ ρ' ars bs
  | _, _ => False
theorem RelP.len {ρ ρ' : Rho} : ∀ {a b : List Cell}, RelP ρ ρ' a b → b.length = a.length
  | [], [], _ => rfl
  | _ :: _, _ :: _, ⟨_, h⟩ => by simp [RelP.len h]
theorem RelP.mono {ρ ρ' ρ2 : Rho} (hx : ext ρ' ρ2) : ∀ {a b : List Cell}, RelP ρ ρ' a b → RelP ρ ρ2 a b
  | [], [], _ => trivial
  | _ :: _, _ :: _, ⟨g, h⟩ => ⟨fun v hv => (g v hv).mono hx, RelP.mono hx h⟩
theorem RelP.append {ρ ρ' : Rho} : ∀ {a b c d : List Cell}, RelP ρ ρ' a b → RelP ρ ρ' c d → RelP ρ ρ' (a ++ c) (b ++ d)
  | [], [], _, _, _, h => h
  | _ :: _, _ :: _, _, _, ⟨g, h⟩, k => ⟨g, RelP.append h k⟩
theorem RelP.rel {ρ ρ' : Rho} : ∀ {a b : List Cell} {vs : List Value}, RelP ρ ρ' a b → LRel ρ a vs → LRel ρ' b vs
  | [], [], [], _, _ => trivial
  | [], [], _ :: _, _, h => h.elim
  | _ :: _, _ :: _, [], _, h => h.elim
  | _ :: _, _ :: _, _ :: _, ⟨g, h⟩, ⟨x, y⟩ => ⟨g _ x, RelP.rel h y⟩
theorem RelP.get {ρ ρ' : Rho} : ∀ {a b : List Cell} (_ : RelP ρ ρ' a b) (i : Nat) (c : Cell), b[i]? = some c → ∃ c0, a[i]? = some c0 ∧ ∀ v, CRel ρ c0 v → CRel ρ' c v
  | [], [], _, _, _, h => by simp at h
  | x :: _, _ :: _, ⟨g, _⟩, 0, c, h => ⟨x, rfl, by simp at h; exact h ▸ g⟩
  | _ :: _, _ :: _, ⟨_, h⟩, i + 1, c, e => RelP.get h i c (by simpa using e)
def Groups (B : Acc) (os : List AObj) : Prop := ∀ q own k n c, os[q]? = some (.cell own k n c) → k ≤ q ∧ k < n ∧ q - k + n ≤ os.length ∧ ∃ j, ∀ m, m < n → B[q - k + m]? = some (own, some (j + m)) ∧ ∃ c', os[q - k + m]? = some (.cell own m n c')
theorem Groups.append {B1 B2 : Acc} {o1 o2 : List AObj} (hl : o1.length = B1.length) (h1 : Groups B1 o1) (h2 : Groups B2 o2) : Groups (B1 ++ B2) (o1 ++ o2) := by
  intro q own k n c h
  by_cases hq : q < o1.length
  · rw [List.getElem?_append_left hq] at h
    obtain ⟨a, b, d, j, e⟩ := h1 q own k n c h
    refine ⟨a, b, by simp; omega, j, fun m hm => ?_⟩
    rw [List.getElem?_append_left (by omega), List.getElem?_append_left (by omega)]
    exact e m hm
  · rw [List.getElem?_append_right (by omega)] at h
    obtain ⟨a, b, d, j, e⟩ := h2 _ own k n c h
    refine ⟨by omega, b, by simp; omega, j, fun m hm => ?_⟩
    rw [List.getElem?_append_right (by omega), List.getElem?_append_right (by omega)]
    have := e m hm
    rw [show q - k + m - B1.length = q - o1.length - k + m by omega, show q - k + m - o1.length = q - o1.length - k + m by omega]
    exact this
structure Packed (ρ : Rho) (F : Nat → AObj) (A B : Acc) (c1 cs : List Cell) (os : List AObj) : Prop where
  len : os.length = B.length
  rel : RelP ρ (rhoA ρ (A ++ B)) c1 cs
  obj : ∀ i q, B[i]? = some q → OMatch ρ F (rhoA ρ (A ++ B)) q (os.getD i .dead)
  grp : Groups B os
theorem Packed.none {ρ : Rho} {F : Nat → AObj} {A : Acc} {c1 cs : List Cell} (h : RelP ρ (rhoA ρ (A ++ [])) c1 cs) : Packed ρ F A [] c1 cs [] :=
  ⟨rfl, h, fun i q h => by simp at h, fun q own k n c h => by simp at h⟩
theorem Packed.cons {ρ : Rho} {F : Nat → AObj} {A B1 B2 : Acc} {c1 c2 d1 d2 : List Cell} {o1 o2 : List AObj} (h1 : Packed ρ F A B1 c1 d1 o1) (h2 : Packed ρ F (A ++ B1) B2 c2 d2 o2) : Packed ρ F A (B1 ++ B2) (c1 ++ c2) (d1 ++ d2) (o1 ++ o2) := by
  have hx : ext (rhoA ρ (A ++ B1)) (rhoA ρ (A ++ (B1 ++ B2))) := by rw [← List.append_assoc]; exact rhoA_ext _ _ _
  refine ⟨by simp [h1.len, h2.len], (h1.rel.mono hx).append (by rw [← List.append_assoc]; exact h2.rel), fun i q h => ?_, h1.grp.append h1.len h2.grp⟩
  have hl := h1.len
  by_cases hi : i < B1.length
  · rw [List.getElem?_append_left hi] at h
    have := (h1.obj i q h).mono hx
    rwa [List.getD_eq_getElem?_getD, List.getElem?_append_left (by omega), ← List.getD_eq_getElem?_getD]
  · rw [List.getElem?_append_right (by omega)] at h
    have := h2.obj _ q h
    rw [List.append_assoc] at this
    rwa [List.getD_eq_getElem?_getD, List.getElem?_append_right (by omega), ← List.getD_eq_getElem?_getD, hl]
theorem boxCells_get {F : Nat → AObj} {own : Bool} {n : Nat} : ∀ (m k id : Nat) (l : List Cell), boxCells F own n m k id = some l → l.length = m ∧ ∀ q c, l[q]? = some c → ∃ o, F (id + q) = .cell o (k + q) n c ∧ (own = true → o = true)
  | 0, k, id, l, h => by
    simp only [boxCells] at h
    cases h
    exact ⟨rfl, fun q c h => by simp at h⟩
  | m + 1, k, id, l, h => by
    simp only [boxCells] at h
    split at h <;> try cases h
    rename_i o k' n' c hF
    split at h <;> try cases h
    rename_i hc
    split at h <;> cases h
    rename_i l' h'
    simp only [Bool.and_eq_true, beq_iff_eq, Bool.or_eq_true, Bool.not_eq_true'] at hc
    obtain ⟨⟨ho, rfl⟩, rfl⟩ := hc
    obtain ⟨hl, hg⟩ := boxCells_get m (k' + 1) (id + 1) l' h'
    refine ⟨by simp [hl], fun q c' hq => ?_⟩
    cases q with
    | zero =>
      simp at hq
      subst hq
      exact ⟨o, hF, fun e => by rcases ho with h | h <;> simp_all⟩
    | succ q =>
      obtain ⟨o', e1, e2⟩ := hg q c' (by simpa using hq)
      exact ⟨o', by rw [show id + (q + 1) = id + 1 + q by omega, e1]; congr 1; omega, e2⟩
theorem idsFrom_get (own : Bool) : ∀ (n id : Nat), (idsFrom own n id).length = n ∧ ∀ q, q < n → (idsFrom own n id)[q]? = some (own, some (id + q))
  | 0, id => ⟨rfl, fun q h => by omega⟩
  | n + 1, id => by
    obtain ⟨h1, h2⟩ := idsFrom_get own n (id + 1)
    refine ⟨by simp [idsFrom, h1], fun q hq => ?_⟩
    cases q with
    | zero => rfl
    | succ q =>
      simp only [idsFrom, List.getElem?_cons_succ]
      rw [h2 q (by omega)]
      simp; omega
theorem caps_rel {ρ : Rho} : ∀ {l : List (Nat × Nat)} {vs : List Value}, CapsAt ρ l vs → LRel ρ (capCells l) vs ∧ ∀ v ∈ vs, ∃ b o, v = .pointer (some ⟨b, o, none⟩)
  | [], [], _ => ⟨trivial, fun v h => by simp at h⟩
  | (i, n) :: l, v :: vs, ⟨h, g⟩ => by
    obtain ⟨a, b⟩ := caps_rel g
    refine ⟨⟨h, a⟩, fun u hu => ?_⟩
    rcases List.mem_cons.1 hu with rfl | hu
    · obtain ⟨b, o, e, _⟩ := h; exact ⟨b, o, e⟩
    · exact b u hu
theorem caps_of {ρ : Rho} : ∀ {cs : List Cell} {vs : List Value}, LRel ρ cs vs → (∀ v ∈ vs, ∃ b o, v = .pointer (some ⟨b, o, none⟩)) → CapsAt ρ (ptrsOf cs) vs
  | [], [], _, _ => trivial
  | c :: cs, v :: vs, ⟨h, g⟩, hp => by
    refine ⟨?_, caps_of g fun u hu => hp u (by simp [hu])⟩
    obtain ⟨b, o, e⟩ := hp v (by simp)
    have triv : PtrAt ρ 0 0 v := ⟨b, o, e, fun k hk => by omega⟩
    cases c <;> first | exact triv | exact h
theorem accAt_get (A : Acc) : ∀ (n id j : Nat), accAt A id n j = true → ∀ k, k < n → ∃ o, A[j + k]? = some (o, some (id + k))
  | 0, _, _, _, k, hk => by omega
  | n + 1, id, j, h, k, hk => by
    simp only [accAt, Bool.and_eq_true] at h
    cases k with
    | zero =>
      have h1 := h.1
      split at h1
      · rename_i o i hA
        simp at h1
        subst h1
        exact ⟨o, hA⟩
      · cases h1
    | succ k =>
      obtain ⟨o, ho⟩ := accAt_get A n (id + 1) (j + 1) h.2 k (by omega)
      exact ⟨o, by rw [show j + (k + 1) = j + 1 + k by omega, ho]; simp; omega⟩
theorem known_append : ∀ {a b : List Cell}, known a = true → known b = true → known (a ++ b) = true
  | [], _, _, h => h
  | c :: a, b, h, g => by
    obtain ⟨h1, h2⟩ := known_cons h
    have := known_append h2 g
    cases c <;> first | exact absurd rfl h1 | exact this
/-- What has been packed reads ars it did. -/
theorem pack_sound {ρ : Rho} {F : Nat → AObj} (t : Ty) : ∀ {cells : List Cell} {A : Acc} {d : t.D} {rest : List Cell} {A' : Acc}, t.pack cells F A = some (d, rest, A') →
    ∃ B c1, A' = A ++ B ∧ cells = c1 ++ rest ∧ Packed ρ F A B c1 (t.unpack d 0 A.length).1 (t.unpack d 0 A.length).2 ∧ (t.kn = true → known (t.unpack d 0 A.length).1 = true) := by
  induction t with
  | unk =>
    intro cells A d rest A' h
    cases cells with
    | nil => simp [Ty.pack] at h
    | cons c cs => simp only [Ty.pack] at h; cases h; exact ⟨[], [c], by simp, rfl, .none ⟨fun v _ => trivial, trivial⟩, fun h => by simp [Ty.kn] at h⟩
  | any =>
    intro cells A d rest A' h
    cases cells with
    | nil => simp [Ty.pack] at h
    | cons c cs =>
      simp only [Ty.pack] at h
      split at h <;> cases h
      rename_i hk
      exact ⟨[], [c], by simp, rfl, .none ⟨fun v hv => CRel.one hv (known_cons hk).1, trivial⟩, fun _ => rfl⟩
  | int k =>
    intro cells A d rest A' h
    cases cells with
    | nil => simp [Ty.pack] at h
    | cons c cs =>
      simp only [Ty.pack] at h
      split at h <;> try cases h
      split at h <;> cases h
      rename_i hk
      subst hk
      exact ⟨[], [_], by simp, rfl, .none ⟨fun v h => h, trivial⟩, fun _ => rfl⟩
  | bool =>
    intro cells A d rest A' h
    cases cells with
    | nil => simp [Ty.pack] at h
    | cons c cs =>
      simp only [Ty.pack] at h
      split at h <;> cases h
      exact ⟨[], [_], by simp, rfl, .none ⟨fun v h => h, trivial⟩, fun _ => rfl⟩
  | str =>
    intro cells A d rest A' h
    cases cells with
    | nil => simp [Ty.pack] at h
    | cons c cs =>
      simp only [Ty.pack] at h
      split at h <;> cases h
      exact ⟨[], [_], by simp, rfl, .none ⟨fun v h => h, trivial⟩, fun _ => rfl⟩
  | slc own s =>
    intro cells A d rest A' h
    cases cells with
    | nil => simp [Ty.pack] at h
    | cons c cs =>
      simp only [Ty.pack] at h
      split at h <;> try cases h
      · rename_i id
        split at h <;> try cases h
        rename_i o s' xs hF
        split at h <;> try cases h
        rename_i ho
        split at h <;> cases h
        rename_i ys hc
        obtain ⟨rfl, hc⟩ := castRow_eq hc
        cases hc
        refine ⟨[(own, some id)], [.slc id], rfl, rfl, ⟨rfl, ⟨fun v hv => ?_, trivial⟩, ?_, ?_⟩, fun _ => rfl⟩
        · exact ⟨by rw [rhoA_at ρ _ _ own (some id) (by simp)]; exact hv.1, hv.2⟩
        · intro i q hi
          cases i with
          | zero =>
            simp at hi
            subst hi
            exact ⟨rfl, o, hF, fun e => by rw [e] at ho; simpa using ho⟩
          | succ i => simp at hi
        · intro q own k n c hq
          cases q <;> simp [Ty.unpack] at hq
      · refine ⟨[(own, none)], [.nils], rfl, rfl, ⟨rfl, ⟨fun v hv => ?_, trivial⟩, ?_, ?_⟩, fun _ => rfl⟩
        · have hv : v = .slice none 0 0 := hv
          subst hv
          exact ⟨rhoA_at ρ _ _ own none (by simp), _, _, _, rfl⟩
        · intro i q hi
          cases i with
          | zero =>
            simp at hi
            subst hi
            exact ⟨rfl, rfl⟩
          | succ i => simp at hi
        · intro q own k n c hq
          cases q <;> simp [Ty.unpack] at hq
  | blob own t =>
    intro cells A d rest A' h
    cases cells with
    | nil => simp [Ty.pack] at h
    | cons c cs =>
      simp only [Ty.pack] at h
      split at h <;> try cases h
      · rename_i id
        split at h <;> try cases h
        rename_i o t' d' hF
        by_cases ho : ((!own || o) && t.free) = true
        rotate_left
        · rw [if_neg ho] at h
          cases h
        rw [if_pos ho] at h
        cases hc : castW own t t' d' with
        | none => rw [hc] at h; cases h
        | some y =>
        rw [hc] at h
        cases h
        have hlike := castW_like hc
        simp only [Bool.and_eq_true] at ho
        refine ⟨[(own, some id)], [.mp id], rfl, rfl, ⟨rfl, ⟨fun v hv => ?_, trivial⟩, ?_, ?_⟩, fun _ => rfl⟩
        · exact ⟨by rw [rhoA_at ρ _ _ own (some id) (by simp)]; exact hv.1, hv.2⟩
        · intro i q hi
          cases i with
          | zero =>
            simp at hi
            subst hi
            exact ⟨rfl, ho.2, o, t', d', hF, fun e => by have := ho.1; rw [e] at this; simpa using this, hlike⟩
          | succ i => simp at hi
        · intro q own k n c hq
          cases q <;> simp [Ty.unpack] at hq
      · cases hn : t.nil with
        | none => rw [hn] at h; cases h
        | some y =>
        rw [hn] at h
        cases h
        refine ⟨[(own, none)], [.nils], rfl, rfl, ⟨rfl, ⟨fun v hv => ?_, trivial⟩, ?_, ?_⟩, fun _ => rfl⟩
        · have hv : v = .slice none 0 0 := hv
          subst hv
          exact ⟨rhoA_at ρ _ _ own none (by simp), .inr ⟨_, _, _, rfl⟩⟩
        · intro i q hi
          cases i with
          | zero =>
            simp at hi
            subst hi
            exact ⟨rfl, hn⟩
          | succ i => simp at hi
        · intro q own k n c hq
          cases q <;> simp [Ty.unpack] at hq
  | box own t ih =>
    intro cells A d rest A' h
    cases cells with
    | nil => simp [Ty.pack] at h
    | cons c cs =>
      simp only [Ty.pack] at h
      split at h <;> try cases h
      rename_i id n
      split at h <;> try cases h
      rename_i l hl
      split at hl
      rotate_left
      cases hl
      rename_i hkn
      split at h <;> cases h
      rename_i A1 h1
      obtain ⟨B, c1, rfl, e, hp, hk⟩ := ih h1
      have e : l = c1 := by simpa using e
      subst e
      obtain ⟨hll, hlg⟩ := boxCells_get n 0 id l hl
      obtain ⟨hil, hig⟩ := idsFrom_get own n id
      have hk := hk hkn
      revert hp hk
      simp only [Ty.unpack]
      rcases t.unpack d 0 A.length with ⟨cs', os⟩
      intro hp hk
      simp only at hp hk ⊢
      have hcl : cs'.length = n := by rw [hp.rel.len, hll]
      rw [hcl]
      have hx : ext (rhoA ρ (A ++ B)) (rhoA ρ (A ++ (B ++ idsFrom own n id))) := by rw [← List.append_assoc]; exact rhoA_ext _ _ _
      have hol := hp.len
      refine ⟨B ++ idsFrom own n id, [.ptr id n], by simp, rfl, ⟨?_, ⟨fun v hv => ?_, trivial⟩, ?_, ?_⟩, fun _ => rfl⟩
      · simp [hp.len, boxOf_len, hcl, hil]
      · obtain ⟨b, o, e, g⟩ := hv
        refine ⟨b, o, e, fun k hk' => ?_⟩
        rw [rhoA_at ρ _ _ own (some (id + k)) (by rw [List.getElem?_append_right (by omega), List.getElem?_append_right (by omega), show A.length + os.length + k - A.length - B.length = k by omega]; exact hig k hk')]
        exact g k hk'
      · intro i q hi
        by_cases hib : i < B.length
        · rw [List.getElem?_append_left hib] at hi
          have := (hp.obj i q hi).mono hx
          rwa [List.getD_eq_getElem?_getD, List.getElem?_append_left (by omega), ← List.getD_eq_getElem?_getD]
        · rw [List.getElem?_append_right (by omega)] at hi
          obtain ⟨m, rfl⟩ : ∃ m, i = B.length + m := ⟨i - B.length, by omega⟩
          rw [Nat.add_sub_cancel_left] at hi
          have hm : m < n := by rw [← hil]; exact (List.getElem?_eq_some_iff.1 hi).1
          rw [hig m hm] at hi
          cases hi
          obtain ⟨c', hc'⟩ : ∃ c', cs'[m]? = some c' := ⟨cs'[m], by simp [hcl, hm]⟩
          obtain ⟨c0, hc0, hcr⟩ := hp.rel.get m c' hc'
          obtain ⟨o, hF, ho⟩ := hlg m c0 hc0
          rw [List.getD_eq_getElem?_getD, List.getElem?_append_right (by omega), show B.length + m - os.length = m by omega, ← List.getD_eq_getElem?_getD, boxOf_get own n cs' 0 m c' hc', Nat.zero_add]
          exact ⟨rfl, id + m, o, c0, rfl, by rw [hF, Nat.zero_add], ho, fun v hv => (hcr v hv).mono hx, known_get hk hc'⟩
      · refine hp.grp.append hp.len ?_
        intro q own' k m c hq
        have hqn : q < n := by have := (List.getElem?_eq_some_iff.1 hq).1; rwa [boxOf_len, hcl] at this
        have hget : ∀ i, i < n → ∃ c', (boxOf own n 0 cs')[i]? = some (.cell own i n c') := fun i hi => by
          obtain ⟨c', hc'⟩ : ∃ c', cs'[i]? = some c' := ⟨cs'[i], by simp [hcl, hi]⟩
          have := boxOf_get own n cs' 0 i c' hc'
          rw [List.getD_eq_getElem?_getD, List.getElem?_eq_getElem (by rw [boxOf_len, hcl]; exact hi), Option.getD_some, Nat.zero_add] at this
          exact ⟨c', by rw [List.getElem?_eq_getElem (by rw [boxOf_len, hcl]; exact hi), this]⟩
        obtain ⟨c2, hc2⟩ := hget q hqn
        rw [hc2] at hq
        cases hq
        refine ⟨Nat.le_refl _, hqn, by rw [boxOf_len, hcl]; omega, id, fun i hi => ?_⟩
        rw [Nat.sub_self, Nat.zero_add]
        exact ⟨hig i hi, hget i hi⟩
  | ref j n =>
    intro cells A d rest A' h
    cases cells with
    | nil => simp [Ty.pack] at h
    | cons c cs =>
      simp only [Ty.pack] at h
      split at h <;> try cases h
      rename_i id n'
      split at h <;> cases h
      rename_i hc
      simp only [Bool.and_eq_true, beq_iff_eq] at hc
      obtain ⟨rfl, hc⟩ := hc
      refine ⟨[], [.ptr id n'], by simp, rfl, .none ⟨fun v hv => ?_, trivial⟩, fun _ => rfl⟩
      obtain ⟨b, o, e, g⟩ := hv
      refine ⟨b, o, e, fun k hk => ?_⟩
      obtain ⟨own, hA⟩ := accAt_get A n' id j hc k hk
      rw [List.append_nil, show 0 + j + k = j + k by omega, rhoA_at ρ A (j + k) own (some (id + k)) hA]
      exact g k hk
  | sref j =>
    intro cells A d rest A' h
    cases cells with
    | nil => simp [Ty.pack] at h
    | cons c cs =>
      simp only [Ty.pack] at h
      split at h <;> try cases h
      rename_i id
      split at h <;> cases h
      rename_i hc
      refine ⟨[], [.slc id], by simp, rfl, .none ⟨fun v hv => ?_, trivial⟩, fun _ => rfl⟩
      obtain ⟨own, hA⟩ := accAt_get A 1 id j hc 0 (by omega)
      refine ⟨?_, hv.2⟩
      rw [List.append_nil, show 0 + j = j + 0 by omega, rhoA_at ρ A (j + 0) own (some (id + 0)) hA]
      exact hv.1
  | mref j =>
    intro cells A d rest A' h
    cases cells with
    | nil => simp [Ty.pack] at h
    | cons c cs =>
      simp only [Ty.pack] at h
      split at h <;> try cases h
      rename_i id
      split at h <;> cases h
      rename_i hc
      refine ⟨[], [.mp id], by simp, rfl, .none ⟨fun v hv => ?_, trivial⟩, fun _ => rfl⟩
      obtain ⟨own, hA⟩ := accAt_get A 1 id j hc 0 (by omega)
      refine ⟨?_, hv.2⟩
      rw [List.append_nil, show 0 + j = j + 0 by omega, rhoA_at ρ A (j + 0) own (some (id + 0)) hA]
      exact hv.1
  | clo f t ih =>
    intro cells A d rest A' h
    cases cells with
    | nil => simp [Ty.pack] at h
    | cons c cs =>
      simp only [Ty.pack] at h
      split at h <;> try cases h
      rename_i f' caps
      split at h <;> try cases h
      rename_i hf
      subst hf
      split at h <;> cases h
      rename_i A1 h1
      obtain ⟨B, c1, rfl, e, hp, _⟩ := ih h1
      have e : capCells caps = c1 := by simpa using e
      subst e
      revert hp
      simp only [Ty.unpack]
      rcases t.unpack d 0 A.length with ⟨cs', os⟩
      intro hp
      refine ⟨B, [.clo f' caps], rfl, rfl, ⟨hp.len, ⟨fun v hv => ?_, trivial⟩, hp.obj, hp.grp⟩, fun _ => rfl⟩
      obtain ⟨ars, e, g⟩ := hv
      obtain ⟨g1, g2⟩ := caps_rel g
      exact ⟨ars, e, caps_of (hp.rel.rel g1) g2⟩
  | nil =>
    intro cells A d rest A' h
    have h : some ((), cells, A) = some (d, rest, A') := by cases cells <;> exact h
    cases h
    exact ⟨[], [], by simp, rfl, .none trivial, fun _ => rfl⟩
  | cons a b iha ihb =>
    intro cells A d rest A' h
    have h : (match a.pack cells F A with
      | some (x, cs, A) => (match b.pack cs F A with
        | some (y, cs, A) => some (((x, y) : a.D × b.D), cs, A)
        | none => none)
      | none => none) = some (d, rest, A') := by cases cells <;> exact h
    cases ha : a.pack cells F A with
    | none => rw [ha] at h; cases h
    | some x =>
      obtain ⟨x, cs1, A1⟩ := x
      rw [ha] at h
      simp only at h
      cases hb : b.pack cs1 F A1 with
      | none => rw [hb] at h; cases h
      | some y =>
        obtain ⟨y, cs2, A2⟩ := y
        rw [hb] at h
        cases h
        obtain ⟨B1, c1, rfl, rfl, hp1, hk1⟩ := iha ha
        obtain ⟨B2, c2, rfl, rfl, hp2, hk2⟩ := ihb hb
        refine ⟨B1 ++ B2, c1 ++ c2, by simp, by simp, ?_⟩
        simp only [Ty.unpack]
        have hl := hp1.len
        rw [List.length_append, ← hl] at hp2 hk2
        refine ⟨hp1.cons hp2, fun hk => ?_⟩
        simp only [Ty.kn, Bool.and_eq_true] at hk
        exact known_append (hk1 hk.1) (hk2 hk.2)
end Go.Proofs.YtiaagflfiphioaaDoorS
