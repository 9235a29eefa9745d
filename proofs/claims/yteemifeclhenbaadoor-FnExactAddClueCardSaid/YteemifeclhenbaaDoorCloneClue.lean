import Derived.Test.YteemifeclhenbaaDoorP0
import Derived.Test.YteemifeclhenbaaDoorShelf
import Derived.WalkKit
/- slices.Clone of a row of clues. -/
namespace Go.Proofs.YteemifeclhenbaaDoor.P
open Go.RowKit Go.Proofs.YteemifeclhenbaaDoorW.PrintWords Go.Proofs.YteemifeclhenbaaDoorW.PrintLast Go.Proofs.YteemifeclhenbaaDoorW.PrintMore
set_option linter.unusedVariables false
set_option linter.unusedSimpArgs false
def impl_Clue_86.f (l0 : List S28) : Option (List S28) := if l0.length * 24 ≤ 140737488355328 then some l0 else none
theorem infoC : (Tryd.prog.info? 28).map (fun i => (i.zero, i.size, i.bytes)) = some (some (.agg #[(.int .i64 0), (.int .i64 0), (.int .i64 0)]), 3, 24) := by kernel_rfl
set_option maxHeartbeats 2000000 in
set_option maxRecDepth 100000 in
theorem clone_some (a : Addr) (n c : Nat) (news : List Value) (w : World) (hl : news.length = n * 3) (hn : n ≤ maxLen) (hbig : n * 24 ≤ 140737488355328)
    (hc : ∀ j u, news[j]? = some u → w.cell? (a.add j) = some u) (h1 : ∀ u ∈ news, u.oneCell' = true) :
    Calls Tryd.prog 86 #[.slice (some a) n c] w fun e w' => ∃ v', e = .returned v' ∧ w'.ownsRow w.heap.size 28 3 v' n news ∧ Below w.heap.size w w' := by
  obtain ⟨i0, hi, hzz⟩ := Option.map_eq_some_iff.1 infoC
  simp only [Prod.mk.injEq] at hzz
  obtain ⟨hz0, hz1, hz2⟩ := hzz
  have q22 : ∀ (w : World) (a : Option Addr) (n c n' c' : Nat), (binOp .eql 36 (.slice a n c) (.slice none n' c')).run Tryd.prog w = .ok (.bool a.isNone) w := fun w a n c n' c' => Lib.run_eql_slice_nil w _ _ a n c n' c' Tryd.underlying36
  have u22 : ∀ w, Sem.run Tryd.prog (underlying 36) w = .ok (TypeDesc.slice 28) w := run_underlying Tryd.underlying36
  have A : Aside0 (∀ j u, news[j]? = some u → w.cell? (a.add j) = some u) := ⟨hc⟩
  clear hc
  go_enter Tryd.func86, Tryd.ntmps86
  go_wp2_with (at_builtin; refine wpList_append_own _ rfl _ _ 36 rfl w.heap.size 28 i0 _ 3 24 Tryd.underlying36 hi hz0 hz1 hz2 rfl (by decide) _ _ _ rfl (World.ownsRow_made w #[] 0 (Nat.le_refl _) (Nat.zero_le _) (by simp)) a n c news rfl ?qc1 ?qc2 ?qc3 ?qc4 ?qc5 ?qc6 ?_)
  case qc1 => exact hl
  case qc2 =>
    intro j u hj
    exact Lib.cell?_alloc_some _ (A.out j u hj)
  case qc3 => exact h1
  case qc4 => rw [Nat.zero_add]; exact hn
  case qc5 => rw [Nat.zero_add]; exact hbig
  case qc6 => simp
  intro v' w1 hown hgrow hnil
  go_wp2
  go_ret
  exact ⟨v', rfl, by simpa using hown, ((Below.refl _ w).alloc (Nat.le_refl _) _).grown hgrow (by simp) (by intro k hk; simp [Value.ownBlock] at hk; omega)⟩
/-- The cells of a row of clues. -/
def cellsC (l : List S28) : List Value := l.flatMap fun x => [.int .i64 x.f0, .int .i64 x.f1, .int .i64 x.f2]
theorem cellsC_len (l : List S28) : (cellsC l).length = l.length * 3 := by
  unfold cellsC
  induction l with
  | nil => rfl
  | cons x l ih => rw [List.flatMap_cons, List.length_append, ih, List.length_cons]; simp; omega
theorem cellsC_at (l : List S28) : ∀ (j : Nat) (x : S28), l[j]? = some x → ((cellsC l).drop (j * 3)).take 3 = [.int .i64 x.f0, .int .i64 x.f1, .int .i64 x.f2] := by
  unfold cellsC
  induction l with
  | nil => intro j x h; simp at h
  | cons y l ih =>
    intro j x h
    cases j with
    | zero =>
      obtain rfl : y = x := by simpa using h
      simp
    | succ j =>
      rw [List.flatMap_cons, show (j + 1) * 3 = 3 + j * 3 by omega, ← List.drop_drop]
      exact ih j x (by simpa using h)
theorem cellsC_one (l : List S28) : ∀ u ∈ cellsC l, u.oneCell' = true := by
  intro u hu
  unfold cellsC at hu
  obtain ⟨x, _, hx⟩ := List.mem_flatMap.mp hu
  simp only [List.mem_cons, List.mem_nil_iff, or_false] at hx
  rcases hx with rfl | rfl | rfl <;> rfl
theorem cellsC_get (l : List S28) (j : Nat) (u : Value) (h : (cellsC l)[j]? = some u) : ∃ x, l[j / 3]? = some x ∧ ([.int .i64 x.f0, .int .i64 x.f1, .int .i64 x.f2] : List Value)[j % 3]? = some u := by
  have hlt : j < l.length * 3 := by rw [← cellsC_len]; exact (List.getElem?_eq_some_iff.1 h).1
  have hj : j / 3 < l.length := by omega
  refine ⟨l[j / 3], List.getElem?_eq_getElem hj, ?_⟩
  rw [← cellsC_at l (j / 3) _ (List.getElem?_eq_getElem hj), List.getElem?_take_of_lt (by omega), List.getElem?_drop, show j / 3 * 3 + j % 3 = j by omega]
  exact h
theorem readsC {W : World} {ad : Addr} {l : List S28} (h : Kd.C k28 W (some ad) l.length l) : ∀ j u, (cellsC l)[j]? = some u → W.cell? (ad.add j) = some u := by
  intro j u hu
  obtain ⟨x, hx, hc⟩ := cellsC_get l j u hu
  have hlt := (List.getElem?_eq_some_iff.1 hx).1
  obtain ⟨ad', e, hcell⟩ := h.2.2 (by omega)
  cases e
  obtain ⟨cs, _, hK, hc0⟩ := hcell (j / 3) x hx
  obtain rfl := k28_open hK
  have h3 := hc0 (j % 3) u hc
  rw [show (j / 3) * k28.sz + j % 3 = j from by show (j / 3) * 3 + j % 3 = j; omega] at h3
  exact h3
theorem ownsC {W : World} {base : Nat} {v : Value} {l : List S28} (h : W.ownsRow base 28 3 v l.length (cellsC l)) : Kd.R k28 28 W base (fun _ => True) v l :=
  ⟨fun _ _ => trivial, cellsC l, h, cellsC_len l, fun j x hx => by
    show k28.M _ _ _ _ (((cellsC l).drop (j * 3)).take 3)
    rw [cellsC_at l j x hx]
    exact k28_mkM _ _ _ _⟩
theorem impl_Clue_86.calls (A0 : Option Addr) (c0 : Nat) (l0 : List S28) (r : List S28) (w : World) (hr0 : Kd.C k28 w A0 l0.length l0) (hc0 : l0.length ≤ c0) (h : impl_Clue_86.f l0 = some r) :
    Calls Tryd.prog 86 #[.slice A0 l0.length c0] w fun e w' => ∃ v0_ : Value, e = .returned (v0_) ∧ Kd.R k28 28 w' w.heap.size (fun _ => True) v0_ r ∧ Below w.heap.size w w' := by
  unfold impl_Clue_86.f at h
  split at h
  case isFalse => cases h
  rename_i hb
  obtain rfl := Option.some.inj h
  cases A0 with
  | none =>
    have hn : l0.length = 0 := by
      rcases Nat.eq_zero_or_pos l0.length with h0 | h0
      · exact h0
      · obtain ⟨ad, e, _⟩ := hr0.2.2 h0
        cases e
    obtain rfl := List.length_eq_zero_iff.mp hn
    exact (Tryd.slices_Clone_nil _ c0 w).mono fun e w' ⟨h1, h2⟩ => ⟨_, h1, h2 ▸ Kd.R_nil _ _ _ _ _, h2 ▸ Below.refl _ _⟩
  | some ad =>
    exact (clone_some ad l0.length c0 (cellsC l0) w (cellsC_len l0) (by have := hr0.2.1; unfold maxLen; omega) hb (readsC hr0) (cellsC_one l0)).mono fun e w' ⟨v', h1, h2, h3⟩ => ⟨v', h1, ownsC h2, h3⟩
end Go.Proofs.YteemifeclhenbaaDoor.P
