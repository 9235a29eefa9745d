/- After a call. -/
import Derived.Test.YtiaagflfiphioaaDoorSimQ
namespace Go.Proofs.YtiaagflfiphioaaDoorS
open Go
set_option linter.unusedVariables false
set_option linter.unusedSimpArgs false

theorem unpackL_len : ∀ (l : List Slot) (d : Dl l) (b n : Nat), (unpackL l d b n).2.length = cntL l
  | [], _, _, _ => rfl
  | [s], d, b, n => by
    have := (unpack_len s.ty d b n).1
    simp only [unpackL, cntL, Nat.add_zero]
    exact this
  | s :: t :: r, d, b, n => by
    have h1 := (unpack_len s.ty d.1 b n).1
    simp only [unpackL]
    generalize s.ty.unpack d.1 b n = p at h1
    obtain ⟨cs, os⟩ := p
    have h2 := unpackL_len (t :: r) d.2 b (n + os.length)
    dsimp only at *
    generalize unpackL (t :: r) d.2 b (n + os.length) = q at h2
    obtain ⟨vs, os2⟩ := q
    dsimp only at *
    rw [List.length_append, h1, h2]
    rfl
theorem unpackL_grp : ∀ (l : List Slot) (d : Dl l) (b n : Nat), Grp (unpackL l d b n).2
  | [], _, _, _ => fun q own k n c h => by simp [unpackL] at h
  | [s], d, b, n => unpack_grp s.ty d b n
  | s :: t :: r, d, b, n => by
    have h1 := unpack_grp s.ty d.1 b n
    simp only [unpackL]
    generalize s.ty.unpack d.1 b n = p at h1
    obtain ⟨cs, os⟩ := p
    have h2 := unpackL_grp (t :: r) d.2 b (n + os.length)
    dsimp only at *
    generalize unpackL (t :: r) d.2 b (n + os.length) = q at h2
    obtain ⟨vs, os2⟩ := q
    exact h1.append h2
theorem unpackL_own : ∀ (l : List Slot) (d : Dl l) (b n : Nat), roL l = false → ∀ q, q < (unpackL l d b n).2.length → ((unpackL l d b n).2.getD q .dead).whole = true
  | [], _, _, _, _, q, hq => by simp [unpackL] at hq
  | [s], d, b, n, h, q, hq => by
    simp only [roL, Bool.or_false] at h
    exact unpack_own s.ty d b n h q hq
  | s :: t :: r, d, b, n, h, q, hq => by
    simp only [roL, Bool.or_eq_false_iff] at h
    have h1 := unpack_own s.ty d.1 b n h.1
    revert hq
    simp only [unpackL]
    generalize s.ty.unpack d.1 b n = p at h1
    obtain ⟨cs, os⟩ := p
    have h2 := unpackL_own (t :: r) d.2 b (n + os.length) (by simp only [roL, Bool.or_eq_false_iff]; exact h.2)
    dsimp only at *
    generalize unpackL (t :: r) d.2 b (n + os.length) = p2 at h2
    obtain ⟨vs, os2⟩ := p2
    intro hq
    dsimp only at *
    by_cases hq1 : q < os.length
    · rw [List.getD_eq_getElem?_getD, List.getElem?_append_left hq1, ← List.getD_eq_getElem?_getD]
      exact h1 q hq1
    · rw [List.length_append] at hq
      rw [List.getD_eq_getElem?_getD, List.getElem?_append_right (by omega), ← List.getD_eq_getElem?_getD]
      exact h2 _ (by omega)
def VM (ρx ρ' : Rho) : List AVal → List AVal → Prop
  | [], [] => True
  | a :: ars, b :: bs => (a.isAgg = b.isAgg ∧ a.isV = true ∧ b.isV = true ∧ LM ρx ρ' a.cells b.cells) ∧ VM ρx ρ' ars bs
  | _, _ => False
theorem AVal.of_map {ρx ρ' : Rho} (agg : Bool) {cs cs' : List Cell} (h : LM ρx ρ' cs cs') : (AVal.of agg cs).isAgg = (AVal.of agg cs').isAgg ∧ (AVal.of agg cs).isV = true ∧ (AVal.of agg cs').isV = true ∧ LM ρx ρ' (AVal.of agg cs).cells (AVal.of agg cs').cells := by
  cases agg with
  | true => exact ⟨rfl, rfl, rfl, h⟩
  | false =>
    match cs, cs', h with
    | [], [], _ => exact ⟨rfl, rfl, rfl, ⟨fun _ h => h, fun h => h⟩, trivial⟩
    | _ :: _, _ :: _, ⟨h, _⟩ => exact ⟨rfl, rfl, rfl, h, trivial⟩
theorem unpackL_shift {ρx ρ' : Rho} (N : Nat) : ∀ (l : List Slot) (d : Dl l) (b n b' n' : Nat), refBL N l = true → (∀ j v, j < N → ρx (b + j) = some v → ρ' (b' + j) = some v) → (∀ k v, k < cntL l → ρx (n + k) = some v → ρ' (n' + k) = some v) →
    VM ρx ρ' (unpackL l d b n).1 (unpackL l d b' n').1 ∧ NewL ρx ρ' (unpackL l d b n).2 (unpackL l d b' n').2
  | [], _, _, _, _, _, _, _, _ => ⟨trivial, trivial⟩
  | [s], d, b, n, b', n', hr, hb, hn => by
    simp only [refBL, Bool.and_true] at hr
    obtain ⟨h1, _, h2⟩ := unpack_shift (ρx := ρx) (ρ' := ρ') N s.ty d b n b' n' hr hb (fun k v hk h => hn k v (by simpa [cntL] using hk) h)
    simp only [unpackL]
    exact ⟨⟨AVal.of_map s.agg h1, trivial⟩, h2⟩
  | s :: t :: r, d, b, n, b', n', hr, hb, hn => by
    simp only [refBL, Bool.and_eq_true] at hr
    obtain ⟨h1, _, h2⟩ := unpack_shift (ρx := ρx) (ρ' := ρ') N s.ty d.1 b n b' n' hr.1 hb (fun k v hk h => hn k v (by simp only [cntL]; omega) h)
    have l1 := (unpack_len s.ty d.1 b n).1
    have l2 := (unpack_len s.ty d.1 b' n').1
    have h3 := unpackL_shift N (t :: r) d.2 b (n + s.ty.cnt) b' (n' + s.ty.cnt) (by simp only [refBL, Bool.and_eq_true]; exact hr.2) hb (fun k v hk h => by
      rw [Nat.add_assoc]
      exact hn (s.ty.cnt + k) v (by simp only [cntL] at hk ⊢; omega) (by rw [Nat.add_assoc] at h; exact h))
    revert h1 h2 h3
    simp only [unpackL, l1, l2]
    intro h1 h2 h3
    exact ⟨⟨AVal.of_map s.agg h1, h3.1⟩, h2.append h3.2⟩
theorem resAVal_map {ρx ρ' : Rho} {a b : List AVal} (h : VM ρx ρ' a b) (x : Value) (hx : VRel ρx (resAVal a) x) : VRel ρ' (resAVal b) x := by
  have one : ∀ {u v : AVal} (x : Value), (u.isAgg = v.isAgg ∧ u.isV = true ∧ v.isV = true ∧ LM ρx ρ' u.cells v.cells) → VRel ρx u x → VRel ρ' v x := by
    rintro u v x ⟨h1, h2, h3, h4⟩ hx
    cases u with
    | c c0 =>
      cases v with
      | c c1 => exact h4.1.1 x hx
      | agg => simp [AVal.isAgg] at h1
      | tup => simp [AVal.isV] at h3
    | agg l =>
      cases v with
      | c c1 => simp [AVal.isAgg] at h1
      | agg l' => obtain ⟨cs, e, g⟩ := hx; exact ⟨cs, e, h4.relP.rel g⟩
      | tup => simp [AVal.isV] at h3
    | tup => simp [AVal.isV] at h2
  have tup : ∀ {a b : List AVal} {vs : List Value}, VM ρx ρ' a b → TRel ρx (tupOf a) vs → TRel ρ' (tupOf b) vs := by
    intro a
    induction a with
    | nil =>
      intro b vs h hx
      match b, h with
      | [], _ =>
        match vs, hx with
        | [], _ => exact trivial
    | cons u a ih =>
      intro b vs h hx
      match b, h with
      | v :: b, ⟨h1, h2⟩ =>
        match vs, hx with
        | y :: vs, ⟨g1, g2⟩ =>
          refine ⟨?_, ih h2 g2⟩
          obtain ⟨e1, _, _, e2⟩ := h1
          rw [← e1]
          cases hu : u.isAgg with
          | true =>
            rw [hu] at g1
            simp only [if_true] at g1 ⊢
            obtain ⟨l, e, g⟩ := g1
            exact ⟨l, e, e2.relP.rel g⟩
          | false =>
            rw [hu] at g1
            simp only [Bool.false_eq_true, if_false] at g1 ⊢
            obtain ⟨c, e, g⟩ := g1
            rw [e] at e2
            match hv : v.cells, e2 with
            | [c'], e2 => exact ⟨c', rfl, e2.1.1 y g⟩
  match a, b, h with
  | [], [], _ =>
    obtain ⟨vs, e, g⟩ := hx
    exact ⟨vs, e, tup (a := []) (b := []) trivial g⟩
  | [u], [v], h => exact one x h.1 hx
  | u :: u2 :: a, v :: v2 :: b, h =>
    obtain ⟨vs, e, g⟩ := hx
    exact ⟨vs, e, tup h g⟩
theorem slot_vals {ρ ρx : Rho} {v : AVal} {agg : Bool} {cs : List Cell} {x : Value} (ha : (v.isAgg == agg) = true) (hl : v.cells.length = cs.length) (h : VRel ρ v x) (g : VRel ρx (AVal.of agg cs) x) : ∃ ys, LRel ρ v.cells ys ∧ LW ρx v.cells cs ys := by
  have ha : v.isAgg = agg := by simpa using ha
  subst ha
  cases v with
  | c c0 =>
    match cs, hl with
    | [c], _ => exact ⟨[x], ⟨h, trivial⟩, LW.of_rel rfl ⟨g, trivial⟩⟩
  | agg l =>
    obtain ⟨xs, rfl, h⟩ := h
    obtain ⟨xs', e, g⟩ := g
    cases e
    exact ⟨xs.toList, h, LW.of_rel hl g⟩
  | tup l =>
    match cs, hl with
    | [], _ => exact ⟨[], trivial, trivial⟩
theorem backL_sound {ρ ρx : Rho} {Fx : Nat → AObj} : ∀ (l : List Slot) {vs : List AVal} {d : Dl l} {n : Nat} {u : List (Nat × AObj)}, backL l vs d n = some u → norefL l = true → ∀ m : Nat,
    (∀ q, q < cntL l → Fx (m + q) = (unpackL l d 0 m).2.getD q .dead) →
    ∃ P, (∀ xs, VRelL ρ vs xs → VRelL ρx (unpackL l d 0 m).1 xs → BackP ρ ρx Fx n (n + nestL l) m (cntL l) P) ∧ (∀ ρ' : Rho, (∀ i k, (i, k) ∈ P → ρ' i = ρx k) → Al ρx ρ' Fx u P) ∧ (roInL l = false → ∀ i k, (i, k) ∈ P → (Fx k).whole = true)
  | [], [], d, n, u, h, _, m, _ => by
    simp only [backL] at h
    cases h
    exact ⟨[], fun _ _ _ => .nil, fun _ _ => trivial, fun _ i k h => by simp at h⟩
  | [], _ :: _, d, n, u, h, _, m, _ => by simp [backL] at h
  | [s], [], d, n, u, h, _, m, _ => by simp [backL] at h
  | [s], [v], d, n, u, h, hr, m, hF => by
    simp only [backL] at h
    split at h <;> try cases h
    rename_i ha
    split at h <;> cases h
    rename_i n1 h1
    simp only [norefL, Bool.and_true] at hr
    obtain ⟨c1, P, e1, e2, e3, e4, e5, e6⟩ := back_sound (ρ := ρ) (ρx := ρx) (Fx := Fx) s.ty h1 hr m (fun q hq => hF q (by simpa [cntL] using hq))
    rw [List.append_nil] at e1
    subst e1
    refine ⟨P, fun xs hx hy => ?_, e5, fun ho => e6 (by simpa [roInL] using ho)⟩
    match xs, hx, hy with
    | [x], hx, hy =>
      obtain ⟨ys, g1, g2⟩ := slot_vals ha (by rw [e2, (unpack_len s.ty d 0 m).2]) hx.1 hy.1
      have := e4 ys g1 g2
      subst e3
      simpa [nestL, cntL] using this
  | [s], _ :: _ :: _, d, n, u, h, _, m, _ => by simp [backL] at h
  | s :: t :: r, [], d, n, u, h, _, m, _ => by simp [backL] at h
  | s :: t :: r, v :: vs, d, n, u, h, hr, m, hF => by
    simp only [backL] at h
    split at h <;> try cases h
    rename_i ha
    split at h <;> try cases h
    rename_i u1 n1 h1
    split at h <;> cases h
    rename_i u2 h2
    simp only [norefL, Bool.and_eq_true] at hr
    have l1 := (unpack_len s.ty d.1 0 m).1
    have l2 := unpackL_len (t :: r) d.2 0 (m + s.ty.cnt)
    simp only [unpackL, l1] at hF
    obtain ⟨c1, P1, e1, e2, e3, e4, e5, e6⟩ := back_sound (ρ := ρ) (ρx := ρx) (Fx := Fx) s.ty h1 hr.1 m (fun q hq => by
      rw [hF q (by simp only [cntL]; omega), List.getD_eq_getElem?_getD, List.getElem?_append_left (by omega), ← List.getD_eq_getElem?_getD])
    rw [List.append_nil] at e1
    subst e1
    obtain ⟨P2, f4, f5, f6⟩ := backL_sound (ρ := ρ) (ρx := ρx) (Fx := Fx) (t :: r) h2 (by simp only [norefL, Bool.and_eq_true]; exact hr.2) (m + s.ty.cnt) (fun q hq => by
      rw [Nat.add_assoc, hF (s.ty.cnt + q) (by simp only [cntL] at hq ⊢; omega), List.getD_eq_getElem?_getD, List.getElem?_append_right (by omega), show s.ty.cnt + q - (s.ty.unpack d.1 0 m).2.length = q by omega, ← List.getD_eq_getElem?_getD])
    refine ⟨P1 ++ P2, fun xs hx hy => ?_, fun ρ' hρ => (e5 ρ' fun i k h => hρ i k (List.mem_append_left _ h)).append (f5 ρ' fun i k h => hρ i k (List.mem_append_right _ h)), fun ho i k h => ?_⟩
    · match xs, hx, hy with
      | x :: xs, hx, hy =>
        simp only [unpackL, l1] at hy
        obtain ⟨ys, g1, g2⟩ := slot_vals ha (by rw [e2, (unpack_len s.ty d.1 0 m).2]) hx.1 hy.1
        have h3 := e4 ys g1 g2
        subst e3
        have h4 := f4 xs hx.2 hy.2
        have h5 : BackP ρ ρx Fx n (n + s.ty.nest + nestL (t :: r)) m (s.ty.cnt + cntL (t :: r)) (P1 ++ P2) := h3.append h4 (by omega) (by omega)
        have e : n + nestL (s :: t :: r) = n + s.ty.nest + nestL (t :: r) := by simp only [nestL]; omega
        rw [e]
        exact h5
    · simp only [roInL, Bool.or_eq_false_iff] at ho
      rcases List.mem_append.1 h with h | h
      · exact e6 ho.1 i k h
      · exact f6 (by simp only [roInL, Bool.or_eq_false_iff]; exact ho.2) i k h
/-! ### What was handed over -/
theorem upd_mem : ∀ (u : List (Nat × AObj)) (G : Nat → AObj) (i : Nat), ((∀ o, (i, o) ∉ u) ∧ upd G u i = G i) ∨ ∃ o, (i, o) ∈ u ∧ upd G u i = o
  | [], G, i => .inl ⟨fun o h => by simp at h, rfl⟩
  | (j, o) :: u, G, i => by
    simp only [upd]
    rcases upd_mem u (fun k => if j = k then o else G k) i with ⟨h1, h2⟩ | ⟨o', h1, h2⟩
    · by_cases hj : j = i
      · subst hj
        exact .inr ⟨o, by simp, by rw [h2]; simp⟩
      · refine .inl ⟨fun o' h => ?_, by rw [h2, if_neg hj]⟩
        rcases List.mem_cons.1 h with h | h
        · cases h; exact hj rfl
        · exact h1 o' h
    · exact .inr ⟨o', List.mem_cons_of_mem _ h1, h2⟩
theorem mem_handed {ro : Bool} {F : Nat → AObj} : ∀ {T : Acc} {i : Nat} {o : AObj}, (i, o) ∈ handed ro F T ↔ ((true, some i) ∈ T ∧ o = .dead) ∨ ((false, some i) ∈ T ∧ ro = true ∧ (F i).raw = true ∧ o = noOwn (F i))
  | [], i, o => by simp [handed]
  | (own, q) :: T, i, o => by
    have ih := mem_handed (ro := ro) (F := F) (T := T) (i := i) (o := o)
    cases q with
    | none =>
      have e : handed ro F ((own, none) :: T) = handed ro F T := by cases own <;> rfl
      rw [e, ih]
      simp
    | some j =>
      have e : handed ro F ((own, some j) :: T) = (if own then [(j, AObj.dead)] else if ro then (match F j with
        | .row true s xs => [(j, AObj.row false s xs)]
        | .cell true k n c => [(j, AObj.cell false k n c)]
        | .blob o t d => if o then [(j, AObj.blob false t d)] else []
        | _ => []) else []) ++ handed ro F T := by cases own <;> rfl
      rw [e, List.mem_append, ih]
      cases own with
      | true =>
        simp only [if_true, Prod.mk.injEq, List.mem_cons, Option.some.injEq, true_and, Bool.false_eq_true, false_and, false_or, List.not_mem_nil, or_false]
        constructor
        · rintro (⟨rfl, rfl⟩ | (⟨h, rfl⟩ | ⟨h, h2⟩))
          · exact .inl ⟨.inl rfl, rfl⟩
          · exact .inl ⟨.inr h, rfl⟩
          · exact .inr ⟨h, h2⟩
        · rintro (⟨h | h, rfl⟩ | ⟨h, h2⟩)
          · exact .inl ⟨h, rfl⟩
          · exact .inr (.inl ⟨h, rfl⟩)
          · exact .inr (.inr ⟨h, h2⟩)
      | false =>
        simp only [Bool.false_eq_true, if_false]
        have key : ((i, o) ∈ (if ro = true then (match F j with
          | .row true s xs => [(j, AObj.row false s xs)]
          | .cell true k n c => [(j, AObj.cell false k n c)]
          | .blob o t d => if o then [(j, AObj.blob false t d)] else []
          | _ => []) else [])) ↔ (i = j ∧ ro = true ∧ (F i).raw = true ∧ o = noOwn (F i)) := by
          cases ro with
          | false => simp
          | true =>
            simp only [if_true, true_and]
            constructor
            · intro h
              split at h
              · rename_i s xs hF
                simp at h
                obtain ⟨rfl, rfl⟩ := h
                exact ⟨rfl, by rw [hF]; rfl, by rw [hF]; rfl⟩
              · rename_i k n c hF
                simp at h
                obtain ⟨rfl, rfl⟩ := h
                exact ⟨rfl, by rw [hF]; rfl, by rw [hF]; rfl⟩
              · rename_i o' t d hF
                cases o' with
                | false => simp at h
                | true =>
                  simp at h
                  obtain ⟨rfl, rfl⟩ := h
                  exact ⟨rfl, by rw [hF]; rfl, by rw [hF]; rfl⟩
              · simp at h
            · rintro ⟨rfl, h2, rfl⟩
              cases hF : F i with
              | dead => rw [hF] at h2; simp [AObj.raw] at h2
              | row own s xs => rw [hF] at h2; simp [AObj.raw] at h2; subst h2; simp [noOwn]
              | blob own t d => rw [hF] at h2; simp [AObj.raw] at h2; subst h2; simp [noOwn]
              | cell own k n c => rw [hF] at h2; simp [AObj.raw] at h2; subst h2; simp [noOwn]
        rw [key]
        simp only [List.mem_cons, Prod.mk.injEq, Option.some.injEq, Bool.true_eq_false, false_and, false_or, true_and]
        constructor
        · rintro (⟨rfl, h⟩ | (h | ⟨h, h2⟩))
          · exact .inr ⟨.inl rfl, h⟩
          · exact .inl h
          · exact .inr ⟨.inr h, h2⟩
        · rintro (h | ⟨h | h, h2⟩)
          · exact .inr (.inl h)
          · exact .inl ⟨h, h2⟩
          · exact .inr (.inr ⟨h, h2⟩)
theorem sepOk_mem {T : Acc} (hs : sepOk T = true) {i : Nat} (h : (true, some i) ∈ T) (g : (false, some i) ∈ T) : False := by
  obtain ⟨a, ha⟩ := List.mem_iff_getElem?.1 h
  obtain ⟨b, hb⟩ := List.mem_iff_getElem?.1 g
  refine sepOk_get hs ha hb (fun e => ?_) (.inl rfl) rfl
  subst e
  rw [ha] at hb
  cases hb
theorem handed_spec {T : Acc} (hs : sepOk T = true) (ro : Bool) (F F0 : Nat → AObj) (hF : ∀ o i, (o, some i) ∈ T → F0 i = F i) (i : Nat) :
    upd F (handed ro F0 T) i = .dead ∨ (¬ (true, some i) ∈ T ∧ (upd F (handed ro F0 T) i = F i ∨ (upd F (handed ro F0 T) i = noOwn (F i) ∧ (∃ o, (o, some i) ∈ T) ∧ ro = true)) ∧ ((upd F (handed ro F0 T) i).raw = true → (∃ o, (o, some i) ∈ T) → ro = false)) := by
  by_cases hop : (true, some i) ∈ T
  · left
    rcases upd_mem (handed ro F0 T) F i with ⟨h, _⟩ | ⟨o, h, e⟩
    · exact absurd (mem_handed.2 (.inl ⟨hop, rfl⟩)) (h .dead)
    · rw [e]
      rcases mem_handed.1 h with ⟨_, h⟩ | ⟨h, _⟩
      · exact h
      · exact (sepOk_mem hs hop h).elim
  · refine .inr ⟨hop, ?_⟩
    rcases upd_mem (handed ro F0 T) F i with ⟨h, e⟩ | ⟨o, h, e⟩
    · rw [e]
      refine ⟨.inl rfl, fun ho hp => ?_⟩
      obtain ⟨o, hp⟩ := hp
      cases o with
      | true => exact absurd hp hop
      | false =>
        cases ro with
        | false => rfl
        | true => exact absurd (mem_handed.2 (.inr ⟨hp, rfl, by rw [hF _ _ hp]; exact ho, rfl⟩)) (h _)
    · rw [e]
      rcases mem_handed.1 h with ⟨h, _⟩ | ⟨h, h2, h3, h4⟩
      · exact absurd h hop
      · rw [h4, hF _ _ h]
        exact ⟨.inr ⟨rfl, ⟨_, h⟩, h2⟩, fun ho _ => by rw [noOwn_raw] at ho; cases ho⟩
/-- The last pair with a key. -/
def lk : Option Nat → List (Nat × Nat) → Nat → Option Nat
  | acc, [], _ => acc
  | acc, (j, k) :: r, i => lk (if j = i then some k else acc) r i
theorem lk_some : ∀ (P : List (Nat × Nat)) (acc : Option Nat) (i k : Nat), lk acc P i = some k → acc = some k ∨ (i, k) ∈ P
  | [], acc, i, k, h => .inl h
  | (j, m) :: r, acc, i, k, h => by
    simp only [lk] at h
    rcases lk_some r _ i k h with h | h
    · by_cases hj : j = i
      · rw [if_pos hj] at h; cases h; exact .inr (by rw [hj]; simp)
      · rw [if_neg hj] at h; exact .inl h
    · exact .inr (List.mem_cons_of_mem _ h)
theorem lk_none : ∀ (P : List (Nat × Nat)) (acc : Option Nat) (i : Nat), lk acc P i = none → acc = none ∧ ∀ k, (i, k) ∉ P
  | [], acc, i, h => ⟨h, fun k h => by simp at h⟩
  | (j, m) :: r, acc, i, h => by
    simp only [lk] at h
    obtain ⟨h1, h2⟩ := lk_none r _ i h
    by_cases hj : j = i
    · rw [if_pos hj] at h1; cases h1
    · rw [if_neg hj] at h1
      refine ⟨h1, fun k hk => ?_⟩
      rcases List.mem_cons.1 hk with hk | hk
      · cases hk; exact hj rfl
      · exact h2 k hk
theorem al_lk {ρx ρ' : Rho} {O F0 : Nat → AObj} (i : Nat) : ∀ (u : List (Nat × AObj)) (P : List (Nat × Nat)) (acc : Option Nat) (G : Nat → AObj), Al ρx ρ' O u P → (match acc with | some k => NewAt ρx ρ' (O k) (G i) | none => G i = F0 i) →
    (match lk acc P i with | some k => NewAt ρx ρ' (O k) (upd G u i) | none => upd G u i = F0 i)
  | [], [], _, _, _, h => h
  | [], _ :: _, _, _, h, _ => h.elim
  | _ :: _, [], _, _, h, _ => h.elim
  | (j, o) :: u, (j', k) :: P, acc, G, ⟨e, h1, h2⟩, h => by
    subst e
    simp only [upd, lk]
    refine al_lk i u P _ _ h2 ?_
    by_cases hj : j = i
    · rw [if_pos hj, if_pos hj]; exact h1
    · rw [if_neg hj, if_neg hj]; exact h
end Go.Proofs.YtiaagflfiphioaaDoorS
