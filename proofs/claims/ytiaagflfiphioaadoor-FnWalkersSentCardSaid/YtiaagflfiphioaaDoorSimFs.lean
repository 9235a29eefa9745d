/- Functions of the library that answer a row. -/
import Derived.Test.YtiaagflfiphioaaDoorSimFr
import Derived.Test.YtiaagflfiphioaaDoorSimFd
import Derived.Laws.AppendOwn
namespace Go.Proofs.YtiaagflfiphioaaDoorS
open Go
set_option linter.unusedVariables false
set_option linter.unusedSimpArgs false

/-- A row of the call's own is an owned row. -/
theorem ownsRow_rel {w : World} {base : Nat} {e : TypeId} {s : Sh} {xs : List s.T} {v : Value} (h : w.ownsRow base e s.sz v xs.length (flat s xs)) : RowRel true s xs v w ∧ ∀ b, blk (some v) = some b → base ≤ b := by
  obtain ⟨_, ⟨rfl, h0⟩ | ⟨g, cap, cur, rfl, hb, hh, hn, hm, hs, ht⟩⟩ := h
  · obtain rfl := List.length_eq_zero_iff.1 h0
    exact ⟨⟨none, 0, rfl, Nat.le_refl _, rfl, rfl⟩, fun b hb => by cases hb⟩
  · refine ⟨⟨some ⟨g, 0, none⟩, cap, rfl, hn, rfl, cur, e, (0, 0), hh, by simpa using ht, fun _ => ⟨rfl, hs, fun o ho hc => ?_⟩⟩, fun b hb' => ?_⟩
    · exact absurd hc.2 (Nat.not_lt_zero _)
    · simp [blk] at hb'
      omega
/-- A call of a function with a body that answers a row of its own. -/
theorem fr_row {P : Program} {f : FuncId} {fn : Func} (hf : P.funcs[f]? = some fn) (hnm : (fn.name == "runtime.NumGoroutine") = false) (hb : fn.body.isSome = true) {ins : List Slot} {d : Dl ins} {src : Nat} {s : Sh} {r : List s.T}
    (h : ∀ (ρ : Rho) (args : Array Value) (w : World), VRelL ρ (unpackL ins d 0 0).1 args.toList → (∀ i, ORel ρ w ((unpackL ins d 0 0).2.getD i .dead) (ρ i)) → WG w → Calls P f args w fun e w' => ∃ v, e = .returned v ∧ (RowRel true s r v w' ∧ ∀ b, blk (some v) = some b → w.heap.size ≤ b) ∧ RowKit.Below w.heap.size w w') :
    FnSpec P f ins [] [⟨src, false, .slc true s⟩] d r := by
  intro A W ρ args w hargs H
  unfold CallsF
  have hcf : (callFunc f args).run P w = .ok (.enter f args) w := by
    have hn2 : ¬ fn.name = "runtime.NumGoroutine" := by simpa using hnm
    have hbn : ¬ fn.body = none := by intro e; rw [e] at hb; cases hb
    simp [callFunc, hf, hn2, hbn]
  rw [hcf]
  refine Calls.mono (h ρ args w hargs (fun i => by have := H.obj i; rwa [getF_ups0] at this) H.fr.wg) fun e w' he => ?_
  obtain ⟨v, rfl, ⟨hr, hbl⟩, bel⟩ := he
  have hv : ∃ a n c, v = .slice a n c := by obtain ⟨a, cap, e, _⟩ := hr; exact ⟨a, _, cap, e⟩
  have hF : ∀ i, getF (ups 0 [AObj.row true s r]) i = if i = 0 then .row true s r else .dead := fun i => by
    rw [getF_ups0]
    cases i <;> simp
  refine ⟨v, rfl, fun i => i ≠ 0, fun i => if i = 0 then some v else none, ⟨by simp, hv⟩, trivial, ?_⟩
  show HR w A W (fun i => i ≠ 0) (fun i => if i = 0 then some v else none) (getF (ups 0 [AObj.row true s r])) w'
  refine ⟨⟨bel.os, bel.tape, bel.output, bel.size, fun b hb _ => bel.block b hb, H.fr.ok⟩, fun i hi => by simp [hi], fun i => ?_, fun i j hij b ho hl => ?_, fun i b hb => ?_, fun i b hb => ?_⟩
  · rw [hF]
    by_cases hi : i = 0
    · rw [if_pos hi, if_pos hi]
      exact ⟨v, rfl, hr⟩
    · rw [if_neg hi]
      trivial
  · exfalso
    rw [hF] at ho hl
    by_cases hi : i = 0
    · by_cases hj : j = 0
      · exact hij (hi.trans hj.symm)
      · rw [if_neg hj] at hl; exact hl
    · rw [if_neg hi] at ho; exact fpw_fp ho
  · rw [hF] at hb
    by_cases hi : i = 0
    · subst hi
      exact .inl (hbl b hb)
    · rw [if_neg hi] at hb; exact False.elim hb
  · rw [hF] at hb
    by_cases hi : i = 0
    · subst hi
      exact .inl (hbl b hb.2)
    · rw [if_neg hi] at hb; exact False.elim (show False from fpw_fp hb)
/-- slices.Clone, out of what the kit tells of it. -/
theorem clone_ok {P : Program} {f : FuncId} {fn : Func} (hf : P.funcs[f]? = some fn) (hnm : (fn.name == "runtime.NumGoroutine") = false) (hb : fn.body.isSome = true) (s : Sh) (bs : Nat) (hbs : 0 < bs) (e : TypeId)
    (hc : ∀ (b off n c : Nat) (news : List Value) (w : World), news.length = n * s.sz → n ≤ maxLen → n * bs ≤ 140737488355328 → (∀ j u, news[j]? = some u → w.cell? ⟨b, off + j, none⟩ = some u) → (∀ u ∈ news, u.oneCell' = true) →
      Calls P f #[.slice (some ⟨b, off, none⟩) n c] w fun e' w' => ∃ v', e' = .returned v' ∧ w'.ownsRow w.heap.size e s.sz v' n news ∧ v' ≠ .slice none 0 0 ∧ RowKit.Below w.heap.size w w')
    (hnil : ∀ (n c : Nat) (w : World), Calls P f #[.slice none n c] w fun e w' => e = .returned (.slice none 0 0) ∧ w' = w) :
    EntOk P (.fr f [⟨0, false, .slc false s⟩] [] [⟨0, false, .slc true s⟩] fun d => cloneB (s := s) bs d) := by
  intro (d : List s.T) (r : List s.T) hr
  have hr : cloneB (s := s) bs d = some r := hr
  unfold cloneB at hr
  split at hr <;> cases hr
  rename_i hbig
  refine fr_row hf hnm hb fun ρ args w hargs hobj _ => ?_
  obtain ⟨L⟩ := args
  match L, hargs with
  | [x], ⟨hx, _⟩ =>
    have h0 := hobj 0
    obtain ⟨hx, _⟩ := hx
    obtain ⟨hd, e1, a, cap, rfl, hle, hrow⟩ := h0
    rw [hx] at e1
    obtain rfl := Option.some.inj e1
    cases a with
    | none =>
      obtain ⟨hxs, rfl⟩ := hrow
      have hxs : d = [] := hxs
      subst hxs
      refine (hnil _ _ w).mono fun e w' h => ?_
      obtain ⟨rfl, rfl⟩ := h
      exact ⟨_, rfl, ⟨⟨none, 0, rfl, Nat.le_refl _, rfl, rfl⟩, fun b hb => by cases hb⟩, RowKit.Below.refl _ _⟩
    | some ad =>
      obtain ⟨hsp, cs, el, fz, hh, ht, _⟩ := hrow
      obtain ⟨b, off, sp⟩ := ad
      simp only at hsp hh ht
      subst hsp
      refine (hc b off (List.length (α := s.T) d) cap (flat s d) w (flat_len s d) (by unfold maxLen; have := Nat.le_mul_of_pos_right (List.length (α := s.T) d) hbs; omega) hbig (fun j u hu => ?_) (flat_one s d)).mono fun e w' h => ?_
      · have hlt := (List.getElem?_eq_some_iff.1 hu).1
        rw [← ht, List.getElem?_take] at hu
        split at hu
        · rw [List.getElem?_drop, Array.getElem?_toList] at hu
          rw [cell_of hh]
          exact hu
        · cases hu
      · obtain ⟨v', rfl, h2, _, h3⟩ := h
        exact ⟨v', rfl, ownsRow_rel h2, h3⟩
theorem flat_str (l : List ByteArray) : flat Sh.str l = l.map Value.string := by
  induction l with
  | nil => rfl
  | cons x l ih => exact congrArg (fun r => Value.string x :: r) ih
/-- strings.Join, out of what the kit tells of it. -/
theorem join_ok {P : Program} {f : FuncId} {fn : Func} (hf : P.funcs[f]? = some fn) (hnm : (fn.name == "runtime.NumGoroutine") = false) (hb : fn.body.isSome = true)
    (hc : ∀ (bk o c : Nat) (xs : List ByteArray) (sep : ByteArray) (w : World), (∀ (j : Nat) x, xs[j]? = some x → w.cell? ⟨bk, o + j, none⟩ = some (.string x)) → bk < w.heap.size → xs.length ≤ 140737488355328 → xs.length ≤ c → (Lib.join (xs.map (·.data.toList)) sep.data.toList).length ≤ 140737488355328 →
      Calls P f #[.slice (some ⟨bk, o, none⟩) xs.length c, .string sep] w fun e w' => e = .returned (.string ⟨(Lib.join (xs.map (·.data.toList)) sep.data.toList).toArray⟩) ∧ RowKit.Below w.heap.size w w')
    (hnil : ∀ (a : Option Addr) (c : Nat) (sep : ByteArray) (w : World), Calls P f #[.slice a 0 c, .string sep] w fun e w' => e = .returned (.string ⟨#[]⟩) ∧ w' = w) :
    EntOk P (.fr f [⟨0, false, .slc false .str⟩, ⟨1, false, .str⟩] [] [⟨0, false, .str⟩] fun d => joinS d.1 d.2) := by
  rintro ⟨(l : List ByteArray), (sep : ByteArray)⟩ (r : ByteArray) hr
  have hr : joinS l sep = some r := hr
  unfold joinS at hr
  split at hr <;> cases hr
  rename_i hlen
  intro A W ρ args w hargs H
  unfold CallsF
  have hcf : (callFunc f args).run P w = .ok (.enter f args) w := by
    have hn2 : ¬ fn.name = "runtime.NumGoroutine" := by simpa using hnm
    have hbn : ¬ fn.body = none := by intro e; rw [e] at hb; cases hb
    simp [callFunc, hf, hn2, hbn]
  rw [hcf]
  have key : Calls P f args w fun e w' => e = .returned (.string ⟨(Lib.join (l.map (·.data.toList)) sep.data.toList).toArray⟩) ∧ RowKit.Below w.heap.size w w' := by
    obtain ⟨L⟩ := args
    match L, hargs with
    | [x, y], ⟨hx, hy, _⟩ =>
      have h0 := H.obj 0
      rw [getF_ups0] at h0
      obtain ⟨hx, _⟩ := hx
      have hy : y = .string sep := hy
      subst hy
      obtain ⟨hd, e1, a, cap, rfl, hle, hrow⟩ := h0
      rw [hx] at e1
      obtain rfl := Option.some.inj e1
      cases a with
      | none =>
        obtain ⟨hxs, rfl⟩ := hrow
        have hxs : l = [] := hxs
        subst hxs
        exact (hnil _ _ sep w).mono fun e w' h => ⟨h.1, h.2 ▸ RowKit.Below.refl _ _⟩
      | some ad =>
        obtain ⟨hsp, cs, el, fz, hh, ht, _⟩ := hrow
        obtain ⟨b, off, sp⟩ := ad
        simp only at hsp hh ht
        subst hsp
        refine hc b off cap l sep w (fun j u hu => ?_) (Array.getElem?_eq_some_iff.1 hh).1 hlen.1 hle hlen.2
        rw [cell_of hh]
        have hlt := (List.getElem?_eq_some_iff.1 hu).1
        have hg : (flat Sh.str l)[j]? = some (.string u) := by
          rw [flat_str, List.getElem?_map, hu]
          rfl
        rw [← ht, List.getElem?_take] at hg
        split at hg
        · rw [List.getElem?_drop, Array.getElem?_toList] at hg
          exact hg
        · cases hg
  refine Calls.mono key fun e w' he => ?_
  obtain ⟨rfl, bel⟩ := he
  refine ⟨_, rfl, fun _ => False, fun _ => none, rfl, trivial, ?_⟩
  exact ⟨⟨bel.os, bel.tape, bel.output, bel.size, fun b hb _ => bel.block b hb, H.fr.ok⟩, (fun _ h => h.elim), fun i => trivial, (fun i j _ b hb _ => False.elim (show False from fpw_fp hb)), (fun i b hb => False.elim (show False from hb)), (fun i b hb => False.elim (show False from fpw_fp hb))⟩
end Go.Proofs.YtiaagflfiphioaaDoorS
