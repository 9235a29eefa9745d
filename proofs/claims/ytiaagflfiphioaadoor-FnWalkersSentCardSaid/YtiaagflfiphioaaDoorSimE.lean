/- Operations that make no memory and turn none; reading memory. -/
import Derived.Test.YtiaagflfiphioaaDoorSimD
namespace Go.Proofs.YtiaagflfiphioaaDoorS
open Go
set_option linter.unusedVariables false
set_option linter.unusedSimpArgs false

section
variable {P : Program} {w0 : World} {A : List Nat} {W : WL} {nt : Nat} {sh : Nat → Value} {U : Nat → Prop} {ρ : Rho} {tm : Nat → AVal} {F : Nat → AObj} {a : Act} {w : World}

theorem ev_rel (S : Sim w0 A W nt sh U ρ tm F a w) (x : Operand) : VRel ρ (ev tm x) (a.eval x) := by
  cases x with
  | tmp t =>
    simp only [ev, Act.eval]
    by_cases h : t < shadow
    · have hb : Nat.blt t shadow = true := by simpa [Nat.blt_eq] using h
      rw [hb]
      have := S.tms t
      simp only [valAt, if_pos h] at this
      exact this
    · have hb : Nat.blt t shadow = false := by simp only [Bool.eq_false_iff]; intro hh; exact h (by simpa [Nat.blt_eq] using hh)
      rw [hb]
      trivial
  | const v =>
    simp only [ev, Act.eval]
    cases v with
    | agg cs =>
      dsimp only
      split
      · rename_i l h; exact ⟨cs, rfl, ofVals_rel h⟩
      · trivial
    | _ =>
      dsimp only
      split
      · rename_i l h; exact ofVal_rel h
      · trivial
  | global g => trivial
  | func f => exact ⟨#[], rfl, trivial⟩

/-- What an operation does, by the evaluation. -/
def Out (w0 : World) (A : List Nat) (W : WL) (U : Nat → Prop) (ρ : Rho) (F : Nat → AObj) (id cnt : Nat) (v : AVal) (u : List (Nat × AObj)) (run : Result Next) : Prop :=
  ∃ w' ρ', (∃ x, (run = .ok (.value x) w' ∨ (run = .ok .skip w' ∧ x = undef)) ∧ VRel ρ' v x) ∧ ext ρ ρ' ∧ (∀ i, ¬ (id ≤ i ∧ i < id + cnt) → ρ' i = ρ i) ∧
    HR w0 A W (fun i => U i ∧ ¬ (id ≤ i ∧ i < id + cnt)) ρ' (upd F u) w'
theorem Out.pure (S : Sim w0 A W nt sh U ρ tm F a w) {id cnt : Nat} {v : AVal} {run : Result Next} {x : Value} (h : run = .ok (.value x) w) (hv : VRel ρ v x) : Out w0 A W U ρ F id cnt v [] run :=
  ⟨w, ρ, ⟨x, .inl h, hv⟩, ext.refl ρ, fun _ _ => rfl, S.toHR.weak fun _ h => h.1⟩
/-- What of the objects is seen. -/
def Sub (F0 F : Nat → AObj) : Prop := ∀ i, F0 i = .dead ∨ F0 i = F i
theorem Sub.cell {F0 F : Nat → AObj} (h : Sub F0 F) {i k n : Nat} {o : Bool} {c : Cell} (e : F0 i = .cell o k n c) : F i = .cell o k n c := by
  rcases h i with h | h
  · rw [h] at e; cases e
  · rw [← h, e]
theorem Sub.blob {F0 F : Nat → AObj} (h : Sub F0 F) {i : Nat} {o : Bool} {t : BT} {d : t.D} (e : F0 i = .blob o t d) : F i = .blob o t d := by
  rcases h i with h | h
  · rw [h] at e; cases e
  · rw [← h, e]
theorem Sub.row {F0 F : Nat → AObj} (h : Sub F0 F) {i : Nat} {o : Bool} {s : Sh} {xs : List s.T} (e : F0 i = .row o s xs) : F i = .row o s xs := by
  rcases h i with h | h
  · rw [h] at e; cases e
  · rw [← h, e]

/-! ### Types -/
theorem sizeB_info {t : TypeId} {n : Nat} (h : sizeB P t = some n) : ∃ i, P.info? t = some i ∧ i.size = n := by
  unfold sizeB at h
  split at h <;> cases h
  exact ⟨_, by assumption, rfl⟩
theorem run_sizeOf {t : TypeId} {n : Nat} (h : sizeB P t = some n) (w : World) : (sizeOf t).run P w = .ok n w := by
  obtain ⟨i, hi, rfl⟩ := sizeB_info h
  simp [sizeOf, typeInfo, hi]
theorem run_isAgg {t : TypeId} {b : Bool} (h : isAggB P t = some b) (w : World) : (isAgg t).run P w = .ok b w := by
  unfold isAggB at h
  unfold isAgg underlying
  cases hd : P.underlying t with
  | none => rw [hd] at h; cases h
  | some d =>
    rw [hd] at h
    cases d <;> simp_all
theorem loadB_parts {t : TypeId} {n : Nat} {ag : Bool} (h : loadB P t = some (n, ag)) : sizeB P t = some n ∧ isAggB P t = some ag ∧ (ag = false → n = 1) := by
  unfold loadB at h
  split at h <;> try cases h
  rename_i n' a' h1 h2
  split at h <;> cases h
  rename_i h3
  refine ⟨h1, h2, fun e => ?_⟩
  subst e
  simpa using h3
theorem zeroB_parts {t : TypeId} {z : List Cell} (h : zeroB P t = some z) : ∃ i v, P.info? t = some i ∧ i.zero = some v ∧ ofVals v.cells.toList = some z := by
  unfold zeroB at h
  split at h <;> try cases h
  rename_i i hi
  split at h <;> try cases h
  rename_i v hv
  exact ⟨i, v, hi, hv, h⟩
theorem run_zero {t : TypeId} {i : TypeInfo} {v : Value} (hi : P.info? t = some i) (hz : i.zero = some v) (w : World) : (zeroValue t).run P w = .ok v w := by
  simp [zeroValue, typeInfo, hi, hz]
theorem fieldsB_parts {t : TypeId} {fs : List Field} (h : fieldsB P t = some fs) : ∃ ars, P.underlying t = some (.struct ars) ∧ ars.toList = fs := by
  unfold fieldsB at h
  split at h <;> cases h
  exact ⟨_, by assumption, rfl⟩

/-! ### Reading cells -/
theorem add_lit (b o k : Nat) : (⟨b, o, none⟩ : Addr).add k = ⟨b, o + k, none⟩ := by
  unfold Addr.add
  split <;> simp_all
theorem cell_of {w : World} {b o : Nat} {cs : Array Value} {el : TypeId} {fz : Nat × Nat} (h : w.heap[b]? = some (.cells cs el fz)) : w.cell? ⟨b, o, none⟩ = cs[o]? := by
  simp [World.cell?, h]
theorem run_loadVar {t : TypeId} {n : Nat} {ag : Bool} (h : loadB P t = some (n, ag)) (w : World) (b o : Nat) (vs : List Value) (hl : vs.length = n) (hc : ∀ k v, vs[k]? = some v → w.cell? ⟨b, o + k, none⟩ = some v) :
    ∃ v, (loadVar t ⟨b, o, none⟩).run P w = .ok v w ∧ (if ag then v = .agg vs.toArray else vs = [v]) := by
  obtain ⟨h1, h2, h3⟩ := loadB_parts h
  unfold loadVar
  rw [Sem.run_bind, run_isAgg h2 w, Result.andThen_ok]
  cases ag with
  | true =>
    refine ⟨.agg vs.toArray, ?_, rfl⟩
    have := run_loadCells_list (P := P) w ⟨b, o, none⟩ vs (fun j v hv => by rw [add_lit]; exact hc j v hv)
    rw [hl] at this
    simp [run_sizeOf h1, this]
  | false =>
    have hn := h3 rfl
    subst hn
    match vs, hl with
    | [v], _ =>
      refine ⟨v, ?_, rfl⟩
      have := hc 0 v rfl
      simp only [Nat.add_zero] at this
      simp [this]
theorem VRel.of_load {ag : Bool} {cs : List Cell} {vs : List Value} {v : Value} (h : LRel ρ cs vs) (hv : if ag then v = .agg vs.toArray else vs = [v]) : VRel ρ (AVal.of ag cs) v := by
  cases ag with
  | true => exact ⟨_, hv, by simpa using h⟩
  | false =>
    subst hv
    match cs, h with
    | [c], h => exact h.1
theorem ldCells_rel (H : HR w0 A W U ρ F w) {F0 : Nat → AObj} (hs : Sub F0 F) : ∀ (n id b o : Nat) (cs : List Cell), (∀ k, k < n → ρ (id + k) = some (.pointer (some ⟨b, o + k, none⟩))) → ldCells F0 n id = some cs →
    ∃ vs, vs.length = n ∧ LRel ρ cs vs ∧ known cs = true ∧ ∀ k v, vs[k]? = some v → w.cell? ⟨b, o + k, none⟩ = some v
  | 0, _, _, _, cs, _, h => by
    simp only [ldCells] at h
    cases h
    exact ⟨[], rfl, trivial, rfl, fun k v hv => by simp at hv⟩
  | n + 1, id, b, o, cs, hp, h => by
    simp only [ldCells] at h
    split at h <;> try cases h
    rename_i own k m c hF
    split at h <;> cases h
    rename_i cs1 h1
    have hF' := hs.cell hF
    have ho := H.obj id
    rw [hF'] at ho
    obtain ⟨hd, e, b', o', cs', el, fz, v, rfl, hh, hc, hr, hk, _⟩ := ho
    have hp0 := hp 0 (by omega)
    rw [Nat.add_zero, Nat.add_zero] at hp0
    rw [e] at hp0
    cases hp0
    obtain ⟨vs, hl, hrel, hkn, hcell⟩ := ldCells_rel H hs n (id + 1) b (o + 1) cs1 (fun k hk => by have := hp (k + 1) (by omega); rw [show id + 1 + k = id + (k + 1) by omega, show o + 1 + k = o + (k + 1) by omega]; exact this) h1
    refine ⟨v :: vs, by simp [hl], ⟨hr, hrel⟩, by cases c <;> simp_all [known], ?_⟩
    intro k u hu
    cases k with
    | zero =>
      simp at hu
      subst hu
      rw [Nat.add_zero, cell_of hh]
      exact hc
    | succ k =>
      have := hcell k u (by simpa using hu)
      rw [show o + (k + 1) = o + 1 + k by omega]
      exact this
/-- The cells of a row's element. -/
theorem row_cells (H : HR w0 A W U ρ F w) {i : Nat} {own : Bool} {s : Sh} {xs : List s.T} (hF : F i = .row own s xs) {b o len cap : Nat} (hρ : ρ i = some (.slice (some ⟨b, o, none⟩) len cap)) {j : Nat} (hj : j < len) :
    len = xs.length ∧ ∀ k v, (s.vals (xs.getD j s.dft))[k]? = some v → w.cell? ⟨b, o + (j * s.sz + k), none⟩ = some v := by
  have ho := H.obj i
  rw [hF] at ho
  obtain ⟨hd, e, a, cap', rfl, hle, hr⟩ := ho
  rw [e] at hρ
  cases hρ
  obtain ⟨_, cs, el, fz, hh, hc, _⟩ := hr
  refine ⟨rfl, fun k v hv => ?_⟩
  rw [cell_of hh]
  have hk : k < s.sz := by rw [← Sh.vals_len s (xs.getD j s.dft)]; exact (List.getElem?_eq_some_iff.1 hv).1
  have h1 := flat_get s xs j hj
  rw [← h1, ← hc] at hv
  rw [List.getElem?_take, if_pos hk, List.getElem?_drop, List.getElem?_take, if_pos ?_, List.getElem?_drop] at hv
  · simpa [Array.getElem?_toList] using hv
  · have : j + 1 ≤ xs.length := hj
    have := Nat.mul_le_mul_right s.sz this
    rw [Nat.succ_mul] at this
    simp only at *
    omega
end
end Go.Proofs.YtiaagflfiphioaaDoorS
