/- What is handed over at a call, and what comes back. -/
import Derived.Test.YtiaagflfiphioaaDoorSimM
namespace Go.Proofs.YtiaagflfiphioaaDoorS
open Go
set_option linter.unusedVariables false
set_option linter.unusedSimpArgs false

def VRelL (ρ : Rho) : List AVal → List Value → Prop
  | [], [] => True
  | a :: ars, v :: vs => VRel ρ a v ∧ VRelL ρ ars vs
  | _, _ => False
def VMap (ρ ρ' : Rho) : List AVal → List AVal → Prop
  | [], [] => True
  | a :: ars, b :: bs => (∀ v, VRel ρ a v → VRel ρ' b v) ∧ VMap ρ ρ' ars bs
  | _, _ => False
theorem VMap.mono {ρ ρ' ρ2 : Rho} (hx : ext ρ' ρ2) : ∀ {a b : List AVal}, VMap ρ ρ' a b → VMap ρ ρ2 a b
  | [], [], _ => trivial
  | _ :: _, _ :: _, ⟨g, h⟩ => ⟨fun v hv => (g v hv).mono hx, VMap.mono hx h⟩
theorem VMap.rel {ρ ρ' : Rho} : ∀ {a b : List AVal} {vs : List Value}, VMap ρ ρ' a b → VRelL ρ a vs → VRelL ρ' b vs
  | [], [], [], _, _ => trivial
  | [], [], _ :: _, _, h => h.elim
  | _ :: _, _ :: _, [], _, h => h.elim
  | _ :: _, _ :: _, _ :: _, ⟨g, h⟩, ⟨x, y⟩ => ⟨g _ x, VMap.rel h y⟩
theorem VRelL.mono {ρ ρ' : Rho} (hx : ext ρ ρ') : ∀ {a : List AVal} {vs : List Value}, VRelL ρ a vs → VRelL ρ' a vs
  | [], [], _ => trivial
  | _ :: _, _ :: _, ⟨g, h⟩ => ⟨g.mono hx, VRelL.mono hx h⟩
theorem VMap.one {ρ ρ' : Rho} {agg : Bool} {v : AVal} {cs : List Cell} (ha : (v.isAgg == agg) = true) (h : RelP ρ ρ' v.cells cs) : ∀ x, VRel ρ v x → VRel ρ' (AVal.of agg cs) x := by
  intro x hx
  have ha : v.isAgg = agg := by simpa using ha
  subst ha
  cases v with
  | c c0 =>
    match cs, h with
    | [c], h => exact h.1 x hx
  | agg l =>
    obtain ⟨xs, e, hl⟩ := hx
    exact ⟨xs, e, h.rel hl⟩
  | tup l =>
    match cs, h with
    | [], _ => exact trivial
structure PackedL (ρ : Rho) (F : Nat → AObj) (A B : Acc) (vs avs : List AVal) (os : List AObj) : Prop where
  len : os.length = B.length
  rel : VMap ρ (rhoA ρ (A ++ B)) vs avs
  obj : ∀ i q, B[i]? = some q → OMatch ρ F (rhoA ρ (A ++ B)) q (os.getD i .dead)
  grp : Groups B os
theorem packL_sound {ρ : Rho} {F : Nat → AObj} : ∀ (l : List Slot) {vs : List AVal} {A : Acc} {d : Dl l} {A' : Acc}, packL l vs F A = some (d, A') →
    ∃ B, A' = A ++ B ∧ PackedL ρ F A B vs (unpackL l d 0 A.length).1 (unpackL l d 0 A.length).2
  | [], [], A, d, A', h => by
    simp only [packL] at h
    cases h
    exact ⟨[], by simp, rfl, trivial, fun i q h => by simp at h, fun q own k n c h => by simp [unpackL] at h⟩
  | [], _ :: _, A, d, A', h => by simp [packL] at h
  | [s], [], A, d, A', h => by simp [packL] at h
  | [s], [v], A, d, A', h => by
    simp only [packL] at h
    split at h <;> try cases h
    rename_i ha
    split at h <;> cases h
    rename_i h1
    obtain ⟨B, c1, rfl, e, hp, _⟩ := pack_sound (ρ := ρ) s.ty h1
    rw [List.append_nil] at e
    subst e
    exact ⟨B, rfl, hp.len, ⟨VMap.one ha hp.rel, trivial⟩, hp.obj, hp.grp⟩
  | [s], _ :: _ :: _, A, d, A', h => by simp [packL] at h
  | s :: t :: r, [], A, d, A', h => by simp [packL] at h
  | s :: t :: r, v :: vs, A, d, A', h => by
    simp only [packL] at h
    split at h <;> try cases h
    rename_i ha
    split at h <;> try cases h
    rename_i d1 A1 h1
    split at h <;> cases h
    rename_i d2 h2
    obtain ⟨B1, c1, rfl, e, hp, _⟩ := pack_sound (ρ := ρ) s.ty h1
    rw [List.append_nil] at e
    subst e
    obtain ⟨B2, rfl, hq⟩ := packL_sound (ρ := ρ) (t :: r) h2
    rw [List.length_append] at hq
    revert hp
    simp only [unpackL]
    generalize s.ty.unpack d1 0 A.length = p
    obtain ⟨cs1, os1⟩ := p
    intro hp
    have hl : os1.length = B1.length := hp.len
    dsimp only
    rw [hl]
    revert hq
    generalize unpackL (t :: r) d2 0 (A.length + B1.length) = p2
    obtain ⟨vs2, os2⟩ := p2
    intro hq
    dsimp only at hp hq ⊢
    have hx : ext (rhoA ρ (A ++ B1)) (rhoA ρ (A ++ (B1 ++ B2))) := by rw [← List.append_assoc]; exact rhoA_ext _ _ _
    refine ⟨B1 ++ B2, by simp, by simp [hl, hq.len], ⟨fun x hv => (VMap.one ha hp.rel x hv).mono hx, by rw [← List.append_assoc]; exact hq.rel⟩, fun i q h => ?_, hp.grp.append hp.len hq.grp⟩
    by_cases hi : i < B1.length
    · rw [List.getElem?_append_left hi] at h
      have := (hp.obj i q h).mono hx
      rwa [List.getD_eq_getElem?_getD, List.getElem?_append_left (by omega), ← List.getD_eq_getElem?_getD]
    · rw [List.getElem?_append_right (by omega)] at h
      have := hq.obj _ q h
      rw [List.append_assoc] at this
      rwa [List.getD_eq_getElem?_getD, List.getElem?_append_right (by omega), ← List.getD_eq_getElem?_getD, hl]
theorem PackedL.append {ρ : Rho} {F : Nat → AObj} {B1 B2 : Acc} {o1 o2 : List AObj} {v1 v2 a1 a2 : List AVal} (h1 : PackedL ρ F [] B1 v1 a1 o1) (h2 : PackedL ρ F B1 B2 v2 a2 o2) :
    (o1 ++ o2).length = (B1 ++ B2).length ∧ (∀ i q, (B1 ++ B2)[i]? = some q → OMatch ρ F (rhoA ρ (B1 ++ B2)) q ((o1 ++ o2).getD i .dead)) ∧ Groups (B1 ++ B2) (o1 ++ o2) := by
  have hl := h1.len
  refine ⟨by simp [hl, h2.len], fun i q h => ?_, h1.grp.append h1.len h2.grp⟩
  by_cases hi : i < B1.length
  · rw [List.getElem?_append_left hi] at h
    have := (h1.obj i q h).mono (rhoA_ext ρ _ B2)
    rwa [List.getD_eq_getElem?_getD, List.getElem?_append_left (by omega), ← List.getD_eq_getElem?_getD]
  · rw [List.getElem?_append_right (by omega)] at h
    have := h2.obj _ q h
    rwa [List.getD_eq_getElem?_getD, List.getElem?_append_right (by omega), ← List.getD_eq_getElem?_getD, hl]
theorem getF_ups (os : List AObj) : ∀ (id j : Nat), getF (ups id os) j = if id ≤ j ∧ j < id + os.length then os.getD (j - id) .dead else .dead := by
  induction os with
  | nil => intro id j; simp only [ups, getF, List.length_nil]; rw [if_neg (by omega)]
  | cons o r ih =>
    intro id j
    simp only [ups, getF]
    by_cases h0 : id = j
    · subst h0
      simp
    · have : (id == j) = false := by simp [h0]
      rw [this]
      simp only [Bool.false_eq_true, if_false]
      rw [ih]
      by_cases h : id + 1 ≤ j ∧ j < id + 1 + r.length
      · rw [if_pos h, if_pos (by simp; omega)]
        obtain ⟨m, hm⟩ : ∃ m, j - id = m + 1 := ⟨j - id - 1, by omega⟩
        rw [hm]
        have : j - (id + 1) = m := by omega
        rw [this]
        rfl
      · rw [if_neg h, if_neg (by simp; omega)]
theorem getF_ups0 (os : List AObj) (j : Nat) : getF (ups 0 os) j = os.getD j .dead := by
  rw [getF_ups]
  by_cases h : j < os.length
  · rw [if_pos (by omega)]; simp
  · rw [if_neg (by omega), List.getD_eq_getElem?_getD, List.getElem?_eq_none (by omega)]; rfl
theorem sepOk_get : ∀ {T : Acc}, sepOk T = true → ∀ {i i' : Nat} {o o' : Bool} {j j' : Nat}, T[i]? = some (o, some j) → T[i']? = some (o', some j') → i ≠ i' → (o = true ∨ o' = true) → j ≠ j'
  | [], _, i, i', o, o', j, j', h, _, _, _ => by simp at h
  | (o0, q0) :: r, hs, i, i', o, o', j, j', h, h', hne, ho => by
    simp only [sepOk, Bool.and_eq_true, List.all_eq_true] at hs
    obtain ⟨h1, h2⟩ := hs
    cases i with
    | zero =>
      cases i' with
      | zero => exact absurd rfl hne
      | succ i' =>
        simp at h h'
        obtain ⟨rfl, rfl⟩ := h
        have := h1 _ (List.mem_of_getElem? h')
        rcases ho with rfl | rfl <;> simp_all
    | succ i =>
      cases i' with
      | zero =>
        simp at h h'
        obtain ⟨rfl, rfl⟩ := h'
        have := h1 _ (List.mem_of_getElem? h)
        rcases ho with rfl | rfl <;> (simp_all; try (intro e; exact this e.symm))
      | succ i' => exact sepOk_get h2 (i := i) (i' := i') (by simpa using h) (by simpa using h') (by omega) ho
theorem CellRel.weak {ρ ρ' : Rho} {o o' : Bool} {k n : Nat} {c c' : Cell} {hd : Value} {w : World} (h : CellRel ρ o k n c hd w) (ho : o' = true → o = true) (hc : ∀ v, CRel ρ c v → CRel ρ' c' v) (hk : c' ≠ .unk) : CellRel ρ' o' k n c' hd w := by
  obtain ⟨b, of, cs, el, fz, v, e, hh, hv, hr, _, hw⟩ := h
  exact ⟨b, of, cs, el, fz, v, e, hh, hv, hc v hr, hk, fun e => hw (ho e)⟩
theorem CellRel.lt {ρ : Rho} {k n : Nat} {c : Cell} {hd : Value} {w : World} (h : CellRel ρ true k n c hd w) : k < n := by
  obtain ⟨b, of, cs, el, fz, v, e, hh, hv, hr, _, hw⟩ := h
  obtain ⟨rfl, rfl, _⟩ := hw rfl
  exact (Array.getElem?_eq_some_iff.1 hv).1
theorem recCells_any {ρ ρ' : Rho} : ∀ (cs : List (Option Sh)) (x : RecT cs) (vs : List Value), LRel ρ (recCells cs x) vs → LRel ρ' (recCells cs x) vs
  | [], _, [], _ => trivial
  | [], _, _ :: _, h => h.elim
  | none :: _, _, [], h => h.elim
  | none :: r, d, _ :: vs, h => ⟨h.1, recCells_any r d vs h.2⟩
  | some s :: r, d, vs, h => by
    obtain ⟨x, y, rfl, h1, h2⟩ := LRel.split (a := s.cells d.1) (b := recCells r d.2) h
    have e := LRel.vals s d.1 x h1
    subst e
    exact LRel.append (Sh.rel ρ' s d.1) (recCells_any r d.2 y h2)
theorem RecRel.any {ρ ρ' : Rho} (cs : List (Option Sh)) : ∀ {xs : List (RecT cs)} {vs : List Value}, RecRel ρ cs xs vs → RecRel ρ' cs xs vs
  | [], _, h => h
  | _ :: _, _, ⟨a, b, c, d⟩ => ⟨recCells_any cs _ _ a, b, c, RecRel.any cs d⟩
theorem BlobRel.weak {ρ ρ' : Rho} {o o' : Bool} {t : BT} {d : t.D} {hd : Value} {w : World} (h : BlobRel ρ o t d hd w) (ho : o' = true → o = true) (hf : t.free = true) : BlobRel ρ' o' t d hd w := by
  have hb : ∀ q : Bool, (o' && q) = true → (o && q) = true := fun q e => by
    rw [Bool.and_eq_true] at e ⊢
    exact ⟨ho e.1, e.2⟩
  cases t with
  | iter => exact h
  | map => exact h
  | rows oo io s =>
    obtain ⟨p, q, r⟩ := h
    exact ⟨p.weak (hb _), q.weak (hb _), fun e => r (ho e)⟩
  | hole => cases hf
  | tail s =>
    obtain ⟨p, q, r⟩ := h
    exact ⟨p, q.weak ho, fun e => r (ho e)⟩
  | recs cs =>
    obtain ⟨a, cap, rfl, hl, hr⟩ := h
    refine ⟨a, cap, rfl, hl, ?_⟩
    cases a with
    | none => exact hr
    | some ad =>
      obtain ⟨hs, vs, el, fz, hh, hc, hw⟩ := hr
      exact ⟨hs, vs, el, fz, hh, RecRel.any cs hc, fun e => hw (ho e)⟩
/-- A nil slice. -/
theorem BlobRel.nil {ρ : Rho} {own : Bool} {t : BT} {d : t.D} {w : World} (h : t.nil = some d) : BlobRel ρ own t d (.slice none 0 0) w := by
  cases t with
  | rows oo io s =>
    cases h
    exact ⟨⟨none, 0, rfl, Nat.le_refl _, rfl, rfl⟩, ⟨fun k xs hx => by simp at hx, fun _ k k' v v' b _ _ _ _ _ hv => by simp [inn] at hv⟩, fun _ b hb => by
      obtain ⟨k, v, hv, _⟩ := hb
      simp [inn] at hv⟩
  | recs cs =>
    cases h
    exact ⟨none, 0, rfl, Nat.le_refl _, rfl, rfl⟩
  | iter => cases h
  | map => cases h
  | hole => cases h
  | tail => cases h
theorem fp_nil {o : AObj} {w : World} {b : Nat} : ¬ fp o (some (.slice none 0 0)) w b := by
  intro h
  cases o with
  | dead => exact h
  | cell => simp [fp, blk] at h
  | row => simp [fp, blk] at h
  | blob =>
    rcases h with h | ⟨hd, e, k, v, hv, _⟩
    · simp [blk] at h
    · cases e
      simp [inn] at hv
/-- A packed object's blocks are the blocks of what it was. -/
theorem OMatch.fp {ρ ρ' : Rho} {F : Nat → AObj} {o : Bool} {j : Nat} {x : AObj} {w : World} {b : Nat} (h : OMatch ρ F ρ' (o, some j) x) (hb : fp x (ρ j) w b) :
    Go.Proofs.YtiaagflfiphioaaDoorS.fp (F j) (ρ j) w b ∧ (fpw x (ρ j) w b → o = true ∧ fpw (F j) (ρ j) w b) := by
  cases x with
  | dead => exact hb.elim
  | row own s xs =>
    obtain ⟨rfl, o', hF, ho⟩ := h
    rw [hF]
    exact ⟨hb, fun e => ⟨e.1, ho e.1, e.2⟩⟩
  | cell own k n c =>
    obtain ⟨rfl, j', o', c', e, hF, ho, _⟩ := h
    cases e
    rw [hF]
    exact ⟨hb, fun e => ⟨e.1, ho e.1, e.2⟩⟩
  | blob own t d =>
    obtain ⟨rfl, _, o', t', d', hF, ho, hk⟩ := h
    rw [hF]
    cases hk with
    | same =>
      refine ⟨hb, fun e => ?_⟩
      rcases e with ⟨e, hk⟩ | ⟨e, hk⟩
      · rw [Bool.and_eq_true] at e
        exact ⟨e.1, .inl ⟨by rw [Bool.and_eq_true]; exact ⟨ho e.1, e.2⟩, hk⟩⟩
      · rw [Bool.and_eq_true] at e
        exact ⟨e.1, .inr ⟨by rw [Bool.and_eq_true]; exact ⟨ho e.1, e.2⟩, hk⟩⟩
    | less oo io oo' io' s xss hl =>
      refine ⟨hb, fun e => ?_⟩
      rcases e with ⟨e, hk⟩ | ⟨e, hk⟩
      · rw [Bool.and_eq_true] at e
        exact ⟨e.1, .inl ⟨by rw [Bool.and_eq_true]; exact ⟨ho e.1, (hl e.1).1 e.2⟩, hk⟩⟩
      · rw [Bool.and_eq_true] at e
        exact ⟨e.1, .inr ⟨by rw [Bool.and_eq_true]; exact ⟨ho e.1, (hl e.1).2 e.2⟩, hk⟩⟩
/-- What has been packed stands by itself. -/
theorem HR.packed {w0 : World} {A : List Nat} {W : WL} {U : Nat → Prop} {ρ : Rho} {F : Nat → AObj} {w : World} (H : HR w0 A W U ρ F w) (T : Acc) (os : List AObj) (hlen : os.length = T.length)
    (hobj : ∀ (i : Nat) (q : Bool × Option Nat), T[i]? = some q → OMatch ρ F (rhoA ρ T) q (os.getD i .dead)) (hg : Groups T os) (hs : sepOk T = true) {w1 : World} {A1 : List Nat} {W1 : WL} (hfr : Fr w1 W1 w)
    (hA : ∀ (i : Nat) (o : Bool) (j b : Nat), T[i]? = some (o, some j) → fp (F j) (ρ j) w b → w1.heap.size ≤ b ∨ b ∈ A1) (hW : ∀ (i j b : Nat), T[i]? = some (true, some j) → fpw (F j) (ρ j) w b → w1.heap.size ≤ b ∨ b ∈ W1) :
    HR w1 A1 W1 (fun i => os.length ≤ i) (rhoA ρ T) (getF (ups 0 os)) w := by
  have hT : ∀ i : Nat, (os.getD i .dead).live = true → ∃ q : Bool × Option Nat, T[i]? = some q := fun i hl => by
    by_cases hi : i < T.length
    · exact ⟨T[i]'hi, List.getElem?_eq_getElem hi⟩
    · rw [List.getD_eq_getElem?_getD, List.getElem?_eq_none (by omega)] at hl
      simp [AObj.live] at hl
  -- a live object and what it was
  have hM : ∀ i b : Nat, fp (os.getD i .dead) (rhoA ρ T i) w b → ∃ o j, T[i]? = some (o, some j) ∧ fp (F j) (ρ j) w b ∧ (fpw (os.getD i .dead) (rhoA ρ T i) w b → o = true ∧ fpw (F j) (ρ j) w b) ∧
      (∀ o' k n c, F j = .cell o' k n c → ∃ c', os.getD i .dead = .cell o k n c') := fun i b hb => by
    obtain ⟨⟨o, q⟩, hq⟩ := hT i (fp_live hb)
    have hr := rhoA_at ρ T i o q hq
    have hm := hobj i _ hq
    cases q with
    | none => rw [hr] at hb; exact absurd hb fp_nil
    | some j =>
      have hr : rhoA ρ T i = ρ j := hr
      rw [hr] at hb ⊢
      obtain ⟨h1, h2⟩ := hm.fp hb
      refine ⟨o, j, hq, h1, h2, fun o' k n c e => ?_⟩
      cases hG : os.getD i .dead with
      | dead => rw [hG] at hm; exact hm.elim
      | row own s xs => rw [hG] at hm; obtain ⟨_, _, hF, _⟩ := hm; rw [hF] at e; cases e
      | blob own t d => rw [hG] at hm; obtain ⟨_, _, _, _, _, hF, _⟩ := hm; rw [hF] at e; cases e
      | cell own k n c =>
        rw [hG] at hm
        obtain ⟨rfl, j', o', c', e', hF, _⟩ := hm
        cases e'
        rw [hF] at e
        cases e
        exact ⟨c, rfl⟩
  refine ⟨hfr, ?_, ?_, ?_, ?_, ?_⟩
  · intro i hi
    unfold rhoA
    rw [List.getElem?_eq_none (by omega)]
  · intro i
    rw [getF_ups0]
    by_cases hi : i < T.length
    · obtain ⟨⟨o, q⟩, hq⟩ : ∃ q : Bool × Option Nat, T[i]? = some q := ⟨T[i]'hi, List.getElem?_eq_getElem hi⟩
      have hr := rhoA_at ρ T i o q hq
      have hm := hobj i _ hq
      cases hG : os.getD i .dead with
      | dead => trivial
      | row own s xs =>
        rw [hG] at hm
        obtain ⟨rfl, hm⟩ := hm
        cases q with
        | none =>
          have hm : xs = [] := hm
          subst hm
          exact ⟨.slice none 0 0, by rw [hr]; rfl, none, 0, rfl, Nat.le_refl _, rfl, rfl⟩
        | some j =>
          obtain ⟨o', hF, ho'⟩ := hm
          have := H.obj j
          rw [hF] at this
          obtain ⟨hd, e, h⟩ := this
          exact ⟨hd, by rw [hr]; exact e, h.weak ho'⟩
      | blob own t d =>
        rw [hG] at hm
        obtain ⟨rfl, hm⟩ := hm
        cases q with
        | none => exact ⟨.slice none 0 0, by rw [hr]; rfl, BlobRel.nil hm⟩
        | some j =>
          obtain ⟨hfree, o', t', d', hF, ho', hk⟩ := hm
          have := H.obj j
          rw [hF] at this
          obtain ⟨hd, e, h⟩ := this
          refine ⟨hd, by rw [hr]; exact e, ?_⟩
          cases hk with
          | same => exact h.weak ho' hfree
          | less oo io oo' io' s xss hl =>
            obtain ⟨p, q, r⟩ := h
            refine ⟨p.weak fun e => ?_, q.weak fun e => ?_, fun e => r (ho' e)⟩
            · rw [Bool.and_eq_true] at e ⊢
              exact ⟨ho' e.1, (hl e.1).1 e.2⟩
            · rw [Bool.and_eq_true] at e ⊢
              exact ⟨ho' e.1, (hl e.1).2 e.2⟩
      | cell own k n c =>
        rw [hG] at hm
        obtain ⟨rfl, j, o', c', rfl, hF, ho', hc, hk⟩ := hm
        have := H.obj j
        rw [hF] at this
        obtain ⟨hd, e, h⟩ := this
        exact ⟨hd, by rw [hr]; exact e, h.weak ho' hc hk⟩
    · rw [List.getD_eq_getElem?_getD, List.getElem?_eq_none (by omega)]
      trivial
  · intro i i' hne b hb hb'
    rw [getF_ups0] at hb hb'
    rw [getF_ups0, getF_ups0]
    obtain ⟨o, j, hq, hf, hw, hc⟩ := hM i b (fpw_fp hb)
    obtain ⟨o', j', hq', hf', _, hc'⟩ := hM i' b hb'
    obtain ⟨ho, hw2⟩ := hw hb
    subst ho
    have hjj : j ≠ j' := sepOk_get hs hq hq' hne (.inl rfl)
    obtain ⟨kj, kj', n, cj, cj', e1, e2, e3, e4⟩ := H.sepf j j' hjj b hw2 hf'
    obtain ⟨c1, g1⟩ := hc _ _ _ _ e1
    obtain ⟨c2, g2⟩ := hc' _ _ _ _ e2
    have hget : ∀ {i : Nat} {o : Bool} {k n : Nat} {c : Cell}, os.getD i .dead = .cell o k n c → os[i]? = some (.cell o k n c) := fun {i o k n c} h => by
      rw [List.getD_eq_getElem?_getD] at h
      cases h2 : os[i]? with
      | none => rw [h2] at h; cases h
      | some x => rw [h2] at h; exact congrArg some h
    obtain ⟨p1, p2, p3, j0, p4⟩ := hg i true kj n c1 (hget g1)
    obtain ⟨r1, r2, _⟩ := hg i' o' kj' n c2 (hget g2)
    have q1 := (p4 kj p2).1
    rw [show i - kj + kj = i by omega, hq] at q1
    have q1 : j = j0 + kj := by cases q1; rfl
    obtain ⟨q2, c3, q3⟩ := p4 kj' r2
    have hii : i - kj + kj' = i' := by
      apply Classical.byContradiction
      intro hne2
      exact sepOk_get hs q2 hq' hne2 (.inl rfl) (by omega)
    rw [hii] at q3
    refine ⟨kj, kj', n, c1, c3, g1, by rw [List.getD_eq_getElem?_getD, q3]; rfl, by omega, e4⟩
  · intro i b hb
    rw [getF_ups0] at hb
    obtain ⟨o, j, hq, hf, _⟩ := hM i b hb
    exact hA i _ j b hq hf
  · intro i b hb
    rw [getF_ups0] at hb
    obtain ⟨o, j, hq, hf, hw, _⟩ := hM i b (fpw_fp hb)
    obtain ⟨ho, hw2⟩ := hw hb
    subst ho
    exact hW i j b hq hw2
end Go.Proofs.YtiaagflfiphioaaDoorS
