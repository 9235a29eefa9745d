/- Regions whose operations run in any order that the edges allow. -/
import Derived.Test.YtiaagflfiphioaaDoorSimU
namespace Go.Proofs.YtiaagflfiphioaaDoorS
open Go
set_option linter.unusedVariables false
set_option linter.unusedSimpArgs false

structure TE where
  o : Oper
  t : Bool
  v : AVal
  u : List (Nat × AObj)
  id : Nat
  cnt : Nat
  R : List Nat
def tmA : List TE → (Nat → AVal) → (Nat → AVal)
  | [], tm => tm | e :: r, tm => tmA r (setTm tm e.o.dst e.v)
def FA : List TE → (Nat → AObj) → (Nat → AObj)
  | [], F => F | e :: r, F => FA r (upd F e.u)
def tmOf (L : Nat → Bool) : List TE → Nat → (Nat → AVal) → Nat → AVal
  | [], _, tm => tm | e :: r, i, tm => tmOf L r (i + 1) (if L i then setTm tm e.o.dst e.v else tm)
def FOf (L : Nat → Bool) : List TE → Nat → (Nat → AObj) → Nat → AObj
  | [], _, F => F | e :: r, i, F => FOf L r (i + 1) (if L i then upd F e.u else F)
def Apart (rd w r wr : List Nat) : Prop := (∀ k ∈ rd, k ∉ w) ∧ (∀ k ∈ r, k ∉ wr) ∧ (∀ k ∈ w, k ∉ wr)
theorem apartL_iff : ∀ {a b : List Nat}, apartL a b = true → ∀ k ∈ a, k ∉ b
  | [], _, _, k, h => by simp at h
  | x :: a, b, h, k, hk => by
    simp only [apartL, Bool.and_eq_true, Bool.not_eq_true', List.contains_eq_mem, decide_eq_false_iff_not] at h
    rcases List.mem_cons.1 hk with rfl | hk
    · exact h.1
    · exact apartL_iff h.2 k hk
theorem logOk_mem {bef : Nat} {rd wr : List Nat} : ∀ {lg : Log}, logOk bef rd wr lg = true → ∀ i r w, (i, r, w) ∈ lg → bef.testBit i = true ∨ Apart rd w r wr
  | [], _, _, _, _, h => by simp at h
  | (j, r', w') :: lg, h, i, r, w, hm => by
    simp only [logOk, Bool.and_eq_true, Bool.or_eq_true] at h
    rcases List.mem_cons.1 hm with hm | hm
    · cases hm
      rcases h.1 with h | ⟨⟨h1, h2⟩, h3⟩
      · exact .inl h
      · exact .inr ⟨apartL_iff h1, apartL_iff h2, apartL_iff h3⟩
    · exact logOk_mem h.2 i r w hm
theorem setTm_ne {tm : Nat → AVal} {dst : Option Tmp} {v : AVal} {t : Nat} (h : dst ≠ some t) : setTm tm dst v t = tm t := by
  cases dst with
  | none => rfl
  | some d =>
    simp only [setTm]
    rw [if_neg]
    intro e
    exact h (by rw [e])
theorem setTm_eq {tm : Nat → AVal} {v : AVal} {t : Nat} : setTm tm (some t) v t = v := by simp [setTm]
theorem tmOf_congr {L L' : Nat → Bool} (t : Nat) : ∀ (es : List TE) (i : Nat) (tm tm' : Nat → AVal), tm t = tm' t → (∀ (k : Nat) (e : TE), es[k]? = some e → e.o.dst = some t → L (i + k) = L' (i + k)) → tmOf L es i tm t = tmOf L' es i tm' t
  | [], _, _, _, h, _ => h
  | e :: r, i, tm, tm', h, hk => by
    simp only [tmOf]
    refine tmOf_congr t r (i + 1) _ _ ?_ fun k e' h1 h2 => by rw [show i + 1 + k = i + (k + 1) by omega]; exact hk (k + 1) e' (by simpa using h1) h2
    by_cases hd : e.o.dst = some t
    · have := hk 0 e rfl hd
      rw [Nat.add_zero] at this
      rw [this, hd]
      cases L' i <;> simp [setTm_eq, h]
    · cases L i <;> cases L' i <;> simp [setTm_ne hd, h]
theorem tmOf_last {L : Nat → Bool} {t : Nat} : ∀ (es : List TE) (i : Nat) (tm : Nat → AVal) (k : Nat) (e : TE), es[k]? = some e → e.o.dst = some t → L (i + k) = true → (∀ (k' : Nat) (e' : TE), k < k' → es[k']? = some e' → L (i + k') = true → e'.o.dst ≠ some t) → tmOf L es i tm t = e.v
  | [], _, _, k, e, h, _, _, _ => by simp at h
  | x :: r, i, tm, 0, e, h, hd, hL, hk => by
    simp at h
    subst h
    simp only [tmOf]
    rw [Nat.add_zero] at hL
    rw [hL, hd]
    simp only [if_true]
    have : ∀ (es : List TE) (i : Nat) (tm : Nat → AVal), (∀ (k' : Nat) (e' : TE), es[k']? = some e' → L (i + k') = true → e'.o.dst ≠ some t) → tmOf L es i tm t = tm t := by
      intro es
      induction es with
      | nil => intro i tm _; rfl
      | cons e r ih =>
        intro i tm hk
        simp only [tmOf]
        rw [ih (i + 1) _ fun k' e' h1 h2 => hk (k' + 1) e' (by simpa using h1) (by rw [show i + (k' + 1) = i + 1 + k' by omega]; exact h2)]
        cases hl : L i with
        | false => rfl
        | true => simp only [if_true]; exact setTm_ne (hk 0 e rfl hl)
    rw [this r (i + 1) _ fun k' e' h1 h2 => hk (k' + 1) e' (by omega) (by simpa using h1) (by rw [show i + (k' + 1) = i + 1 + k' by omega]; exact h2)]
    exact setTm_eq
  | x :: r, i, tm, k + 1, e, h, hd, hL, hk => by
    simp only [tmOf]
    exact tmOf_last r (i + 1) _ k e (by simpa using h) hd (by rw [show i + 1 + k = i + (k + 1) by omega]; exact hL) fun k' e' h0 h1 h2 => hk (k' + 1) e' (by omega) (by simpa using h1) (by rw [show i + (k' + 1) = i + 1 + k' by omega]; exact h2)
theorem idsUp_map : ∀ u : List (Nat × AObj), idsUp u = u.map (·.1)
  | [] => rfl
  | (_, _) :: r => by simp [idsUp, idsUp_map r]
theorem upd_congr (x : Nat) : ∀ (u : List (Nat × AObj)) (F F' : Nat → AObj), F x = F' x → upd F u x = upd F' u x
  | [], _, _, h => h
  | (i, o) :: r, F, F', h => by
    simp only [upd]
    refine upd_congr x r _ _ ?_
    by_cases hi : i = x <;> simp [hi, h]
theorem upd_in (x : Nat) : ∀ (u : List (Nat × AObj)) (F F' : Nat → AObj), x ∈ idsUp u → upd F u x = upd F' u x
  | [], _, _, h => by simp [idsUp] at h
  | (i, o) :: r, F, F', h => by
    simp only [upd]
    by_cases hi : i = x
    · exact upd_congr x r _ _ (by simp [hi])
    · simp only [idsUp, List.mem_cons] at h
      exact upd_in x r _ _ (h.resolve_left fun e => hi e.symm)
theorem FOf_congr {L L' : Nat → Bool} (x : Nat) : ∀ (es : List TE) (i : Nat) (F F' : Nat → AObj), F x = F' x → (∀ (k : Nat) (e : TE), es[k]? = some e → x ∈ idsUp e.u → L (i + k) = L' (i + k)) → FOf L es i F x = FOf L' es i F' x
  | [], _, _, _, h, _ => h
  | e :: r, i, F, F', h, hk => by
    simp only [FOf]
    refine FOf_congr x r (i + 1) _ _ ?_ fun k e' h1 h2 => by rw [show i + 1 + k = i + (k + 1) by omega]; exact hk (k + 1) e' (by simpa using h1) h2
    by_cases hd : x ∈ idsUp e.u
    · have := hk 0 e rfl hd
      rw [Nat.add_zero] at this
      rw [this]
      cases L' i
      · simpa using h
      · simp only [if_true]; exact upd_congr x _ _ _ h
    · rw [idsUp_map] at hd
      cases L i <;> cases L' i <;> simp [upd_out _ _ _ hd, h]
theorem FOf_last {L : Nat → Bool} {x : Nat} (G : Nat → AObj) : ∀ (es : List TE) (i : Nat) (F : Nat → AObj) (k : Nat) (e : TE), es[k]? = some e → x ∈ idsUp e.u → L (i + k) = true → (∀ (k' : Nat) (e' : TE), k < k' → es[k']? = some e' → L (i + k') = true → x ∉ idsUp e'.u) → FOf L es i F x = upd G e.u x
  | [], _, _, k, e, h, _, _, _ => by simp at h
  | y :: r, i, F, 0, e, h, hd, hL, hk => by
    simp at h
    subst h
    simp only [FOf]
    rw [Nat.add_zero] at hL
    rw [hL]
    simp only [if_true]
    have : ∀ (es : List TE) (i : Nat) (F : Nat → AObj), (∀ (k' : Nat) (e' : TE), es[k']? = some e' → L (i + k') = true → x ∉ idsUp e'.u) → FOf L es i F x = F x := by
      intro es
      induction es with
      | nil => intro i F _; rfl
      | cons e r ih =>
        intro i F hk
        simp only [FOf]
        rw [ih (i + 1) _ fun k' e' h1 h2 => hk (k' + 1) e' (by simpa using h1) (by rw [show i + (k' + 1) = i + 1 + k' by omega]; exact h2)]
        cases hl : L i with
        | false => rfl
        | true => simp only [if_true]; exact upd_out _ _ _ (by rw [← idsUp_map]; exact hk 0 e rfl hl)
    rw [this r (i + 1) _ fun k' e' h1 h2 => hk (k' + 1) e' (by omega) (by simpa using h1) (by rw [show i + (k' + 1) = i + 1 + k' by omega]; exact h2)]
    exact upd_in x _ _ _ hd
  | y :: r, i, F, k + 1, e, h, hd, hL, hk => by
    simp only [FOf]
    exact FOf_last G r (i + 1) _ k e (by simpa using h) hd (by rw [show i + 1 + k = i + (k + 1) by omega]; exact hL) fun k' e' h0 h1 h2 => hk (k' + 1) e' (by omega) (by simpa using h1) (by rw [show i + (k' + 1) = i + 1 + k' by omega]; exact h2)
theorem tmOf_take : ∀ (es : List TE) (i j : Nat) (tm : Nat → AVal), tmOf (fun k => decide (k < i + j)) es i tm = tmA (es.take j) tm
  | [], i, j, tm => by simp [tmOf, tmA]
  | e :: r, i, 0, tm => by
    have : ∀ (es : List TE) (m : Nat) (tm : Nat → AVal), i ≤ m → tmOf (fun k => decide (k < i + 0)) es m tm = tm := by
      intro es
      induction es with
      | nil => intro m tm _; rfl
      | cons e r ih =>
        intro m tm h
        simp only [tmOf]
        rw [ih (m + 1) _ (by omega)]
        simp; omega
    rw [this _ i tm (Nat.le_refl _)]
    rfl
  | e :: r, i, j + 1, tm => by
    simp only [tmOf, List.take_succ_cons, tmA]
    have := tmOf_take r (i + 1) j (setTm tm e.o.dst e.v)
    rw [show i + 1 + j = i + (j + 1) by omega] at this
    rw [← this]
    simp
theorem FOf_take : ∀ (es : List TE) (i j : Nat) (F : Nat → AObj), FOf (fun k => decide (k < i + j)) es i F = FA (es.take j) F
  | [], i, j, F => by simp [FOf, FA]
  | e :: r, i, 0, F => by
    have : ∀ (es : List TE) (m : Nat) (F : Nat → AObj), i ≤ m → FOf (fun k => decide (k < i + 0)) es m F = F := by
      intro es
      induction es with
      | nil => intro m F _; rfl
      | cons e r ih =>
        intro m F h
        simp only [FOf]
        rw [ih (m + 1) _ (by omega)]
        simp; omega
    rw [this _ i F (Nat.le_refl _)]
    rfl
  | e :: r, i, j + 1, F => by
    simp only [FOf, List.take_succ_cons, FA]
    have := FOf_take r (i + 1) j (upd F e.u)
    rw [show i + 1 + j = i + (j + 1) by omega] at this
    rw [← this]
    simp
section
variable {P : Program} {E : Nat → Ent} {call : CallF E} {cal : List (Nat × Nat)} {R : Type}
theorem xops_trace (hE : ∀ e d r, call e d = some r → EntSpec P (E e) d r) (ops : List Oper) {K : St → Option R} {q : R} : ∀ (l : List Oper) (bs : List Nat) (i id : Nat) (lg : Log) (st : St), xops P E call cal true ops l bs i id lg st K = some q →
    ∃ (es : List TE) (st' : St), K st' = some q ∧ st'.n = st.n ∧ St.look st'.tm = tmA es (St.look st.tm) ∧ getF st'.F = FA es (getF st.F) ∧ es.map (·.o) = l ∧
      ∀ (j : Nat) (e : TE), es[j]? = some e → e.id = id + cntOps P E cal (l.take j) ∧ e.cnt = cntOp P E cal e.o ∧ Wants ops e.o (tmA (es.take j) (St.look st.tm)) e.t ∧
        (e.t = true → OpWp P e.o e.v e.u e.id e.cnt (tmA (es.take j) (St.look st.tm)) (restr e.R (FA (es.take j) (getF st.F)))) ∧ (e.t = false → e.v = .tup [] ∧ e.u = []) ∧
        (e.t = true → ∀ i' r w, (i', r, w) ∈ lg → (bs.getD j 0).testBit i' = true ∨ Apart e.R w r (idsUp e.u)) ∧
        (e.t = true → ∀ (i' : Nat) (e' : TE), i' < j → es[i']? = some e' → e'.t = true → (bs.getD j 0).testBit (i + i') = true ∨ Apart e.R (idsUp e'.u) e'.R (idsUp e.u))
  | [], bs, i, id, lg, st, h => by
    rw [xops] at h
    exact ⟨[], st, h, rfl, rfl, rfl, rfl, fun j e h => by simp at h⟩
  | o :: r, bs, i, id, lg, st, h => by
    have hbs0 : bs.headD 0 = bs.getD 0 0 := by cases bs <;> rfl
    have hbs : ∀ j, bs.tail.getD j 0 = bs.getD (j + 1) 0 := fun j => by cases bs <;> simp
    obtain ⟨tm', htm, h⟩ := xops_step hE h
    rcases h with ⟨hw, v, u, hop, hlog, h⟩ | ⟨hw, h⟩
    · simp only [if_true] at h
      obtain ⟨es, st', h1, h2, h3, h4, h5, h6⟩ := xops_trace hE ops r bs.tail (i + 1) _ _ _ h
      rw [look_put, htm] at h3 h6
      rw [getF_setF] at h4 h6
      refine ⟨⟨o, true, v, u, id, cntOp P E cal o, rdsC P cal o.op (St.look st.tm) (getF st.F)⟩ :: es, st', h1, h2, h3, h4, by simp [h5], fun j e he => ?_⟩
      cases j with
      | zero =>
        simp at he
        subst he
        refine ⟨by simp [cntOps], rfl, hw, fun _ => hop, nofun, fun _ i' r w hm => ?_, fun _ i' e' h _ _ => (Nat.not_lt_zero _ h).elim⟩
        rw [← hbs0]
        exact logOk_mem (hlog rfl) i' r w hm
      | succ j =>
        obtain ⟨g1, g2, g3, g4, g5, g6, g7⟩ := h6 j e (by simpa using he)
        refine ⟨by rw [g1]; simp only [List.take_succ_cons, cntOps]; omega, g2, g3, g4, g5, fun ht i' r w hm => by rw [← hbs]; exact g6 ht i' r w (List.mem_cons_of_mem _ hm), fun ht i' e' hi he' ht' => ?_⟩
        rw [← hbs]
        cases i' with
        | zero =>
          simp at he'
          subst he'
          exact g6 ht i _ _ (by simp)
        | succ i' =>
          have := g7 ht i' e' (by omega) (by simpa using he') ht'
          rwa [show i + 1 + i' = i + (i' + 1) by omega] at this
    · obtain ⟨es, st', h1, h2, h3, h4, h5, h6⟩ := xops_trace hE ops r bs.tail (i + 1) _ _ _ h
      rw [look_put, htm] at h3 h6
      refine ⟨⟨o, false, .tup [], [], id, cntOp P E cal o, []⟩ :: es, st', h1, h2, h3, h4, by simp [h5], fun j e he => ?_⟩
      cases j with
      | zero =>
        simp at he
        subst he
        exact ⟨by simp [cntOps], rfl, hw, nofun, fun _ => ⟨rfl, rfl⟩, nofun, nofun⟩
      | succ j =>
        obtain ⟨g1, g2, g3, g4, g5, g6, g7⟩ := h6 j e (by simpa using he)
        refine ⟨by rw [g1]; simp only [List.take_succ_cons, cntOps]; omega, g2, g3, g4, g5, fun ht i' r w hm => by rw [← hbs]; exact g6 ht i' r w hm, fun ht i' e' hi he' ht' => ?_⟩
        rw [← hbs]
        cases i' with
        | zero =>
          simp at he'
          subst he'
          cases ht'
        | succ i' =>
          have := g7 ht i' e' (by omega) (by simpa using he') ht'
          rwa [show i + 1 + i' = i + (i' + 1) by omega] at this
end
end Go.Proofs.YtiaagflfiphioaaDoorS
