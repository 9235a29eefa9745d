/- Appends, stores, conversions; every operation. -/
import Derived.Test.YtiaagflfiphioaaDoorSimI
namespace Go.Proofs.YtiaagflfiphioaaDoorS
open Go
set_option linter.unusedVariables false
set_option linter.unusedSimpArgs false

theorem setCell_heap {w : World} {b o : Nat} {cs : Array Value} {el : TypeId} {fz : Nat × Nat} (v : Value) (h : w.heap[b]? = some (.cells cs el fz)) : (w.setCell ⟨b, o, none⟩ v).heap[b]? = some (.cells (cs.setIfInBounds o v) el fz) := by
  simp [World.setCell, Array.getElem?_modify, h]
theorem setCells_heap (b : Nat) : ∀ (vs : List Value) (o : Nat) (w : World) (cs : Array Value) (el : TypeId) (fz : Nat × Nat), w.heap[b]? = some (.cells cs el fz) → o + vs.length ≤ cs.size →
    (w.setCells b o vs).heap[b]? = some (.cells (cs.toList.take o ++ vs ++ cs.toList.drop (o + vs.length)).toArray el fz)
  | [], o, w, cs, el, fz, h, _ => by simp [World.setCells, h]
  | v :: vs, o, w, cs, el, fz, h, hl => by
    simp only [List.length_cons] at hl
    simp only [World.setCells]
    rw [setCells_heap b vs (o + 1) _ _ el fz (setCell_heap v h) (by simp; omega)]
    have hlt : o < cs.toList.length := by simp; omega
    rw [Array.toList_setIfInBounds]
    generalize cs.toList = L at hlt
    have e1 : (L.set o v).take (o + 1) = L.take o ++ [v] := by
      rw [List.take_succ_eq_append_getElem (by simpa using hlt), List.take_set_of_le (Nat.le_refl _)]
      simp
    have e2 : (L.set o v).drop (o + 1 + vs.length) = L.drop (o + (v :: vs).length) := by
      rw [List.drop_set_of_lt (by omega)]
      congr 1
      simp; omega
    rw [e1, e2]
    simp
theorem setCells_grown (b : Nat) : ∀ (vs : List Value) (o : Nat) (w : World), w.grownBy (w.setCells b o vs) (some b)
  | [], o, w => grownBy_self w _
  | v :: vs, o, w => by
    have h := setCells_grown b vs (o + 1) (w.setCell ⟨b, o, none⟩ v)
    refine ⟨h.os, h.tape, h.output, Nat.le_trans (by simp) h.size, fun k hk hne => (h.block k (by simpa using hk) hne).trans ?_⟩
    exact RowKit.Below.heap_setCell w _ v k (fun e => hne (by rw [e]))
theorem frozen_of {w : World} {b o : Nat} {cs : Array Value} {el : TypeId} {fz : Nat × Nat} (h : w.heap[b]? = some (.cells cs el fz)) (hf : ¬ (fz.1 ≤ o ∧ o < fz.2)) : w.frozen? ⟨b, o, none⟩ = false := by
  obtain ⟨lo, hi⟩ := fz
  simp only [World.frozen?, h]
  simpa using hf
theorem run_stores {P : Program} {w : World} {b o : Nat} {cs : Array Value} {el : TypeId} {fz : Nat × Nat} (h : w.heap[b]? = some (.cells cs el fz)) (vs : List Value) (hl : o + vs.length ≤ cs.size) (hf : ∀ j, j < vs.length → ¬ (fz.1 ≤ o + j ∧ o + j < fz.2)) (h1 : ∀ v ∈ vs, v.oneCell' = true) :
    (storeCells ⟨b, o, none⟩ vs).run P w = .ok () (w.setCells b o vs) := by
  have := run_storeCells_cells (P := P) b o vs 0 w (fun j hj => by rw [Nat.add_zero, cell_of h, Array.getElem?_eq_getElem (by omega)]; rfl) (fun j hj => by rw [Nat.add_zero]; exact frozen_of h (hf j hj)) h1
  simpa using this
section
variable {P : Program} {w0 : World} {A : List Nat} {W : WL} {nt : Nat} {sh : Nat → Value} {U : Nat → Prop} {ρ : Rho} {tm : Nat → AVal} {F F0 : Nat → AObj} {a : Act} {w : World} {id : Nat}

/-! ### Stores -/
def stored? (L V : List Value) (p M q : Nat) : Option Value := if q < M then (if q < p then L[q]? else if q < p + V.length then V[q - p]? else L[q]?) else none
theorem list_store1 (L V : List Value) (p M q : Nat) (h : p + V.length ≤ L.length) : ((L.take p ++ V ++ L.drop (p + V.length)).take M)[q]? = stored? L V p M q := by
  unfold stored?
  rw [List.getElem?_take]
  by_cases hM : q < M
  · rw [if_pos hM, if_pos hM]
    by_cases h1 : q < p
    · rw [if_pos h1, List.append_assoc, List.getElem?_append_left (by simp; omega), List.getElem?_take, if_pos h1]
    · rw [if_neg h1]
      by_cases h2 : q < p + V.length
      · rw [if_pos h2, List.append_assoc, List.getElem?_append_right (by simp; omega), List.getElem?_append_left (by simp; omega)]
        congr 1
        simp; omega
      · rw [if_neg h2, List.getElem?_append_right (by simp; omega), List.getElem?_drop]
        congr 1
        simp; omega
  · rw [if_neg hM, if_neg hM]
theorem list_store (L V : List Value) (J sz off M : Nat) (h1 : off + V.length ≤ sz) (h2 : J + sz ≤ M) (h3 : M ≤ L.length) :
    (L.take (J + off) ++ V ++ L.drop (J + off + V.length)).take M =
      (L.take M).take J ++ ((((L.take M).drop J).take sz).take off ++ V ++ (((L.take M).drop J).take sz).drop (off + V.length)) ++ (L.take M).drop (J + sz) := by
  apply List.ext_getElem?
  intro q
  rw [list_store1 L V (J + off) M q (by omega)]
  unfold stored?
  have lX : (L.take M).length = M := by simp; omega
  have lS : (((L.take M).drop J).take sz).length = sz := by simp; omega
  have gX : ∀ i, i < M → (L.take M)[i]? = L[i]? := fun i hi => by rw [List.getElem?_take, if_pos hi]
  generalize hS : ((L.take M).drop J).take sz = S at lS ⊢
  have gS : ∀ i, i < sz → S[i]? = L[J + i]? := fun i hi => by rw [← hS, List.getElem?_take, if_pos hi, List.getElem?_drop, gX _ (by omega)]
  have l1 : ((L.take M).take J).length = J := by rw [List.length_take, lX]; omega
  have l2 : (S.take off ++ V ++ S.drop (off + V.length)).length = sz := by simp [lS]; omega
  by_cases hM : q < M
  · rw [if_pos hM]
    by_cases q1 : q < J
    · rw [if_pos (by omega), List.append_assoc, List.getElem?_append_left (by omega), List.getElem?_take, if_pos q1, gX q hM]
    · by_cases q2 : q < J + sz
      · rw [List.getElem?_append_left (by rw [List.length_append, l1, l2]; omega), List.getElem?_append_right (by omega), l1]
        by_cases q3 : q < J + off
        · rw [if_pos q3, List.append_assoc, List.getElem?_append_left (by rw [List.length_take, lS]; omega), List.getElem?_take, if_pos (by omega), gS _ (by omega)]
          congr 1
          omega
        · rw [if_neg q3]
          by_cases q4 : q < J + off + V.length
          · rw [if_pos q4, List.append_assoc, List.getElem?_append_right (by rw [List.length_take, lS]; omega), List.length_take, lS, List.getElem?_append_left (by omega)]
            congr 1
            omega
          · rw [if_neg q4, List.getElem?_append_right (by rw [List.length_append, List.length_take, lS]; omega), List.getElem?_drop, List.length_append, List.length_take, lS, gS _ (by omega)]
            congr 1
            omega
      · rw [if_neg (by omega), if_neg (by omega), List.getElem?_append_right (by rw [List.length_append, l1, l2]; omega), List.length_append, l1, l2, List.getElem?_drop, gX _ (by omega)]
        congr 1
        omega
  · rw [if_neg hM, List.getElem?_append_right (by rw [List.length_append, l1, l2]; omega), List.getElem?_drop, List.getElem?_take, if_neg (by rw [List.length_append, l1, l2]; omega)]

theorem stCells_parts {F0 : Nat → AObj} (hs : Sub F0 F) : ∀ (cs : List Cell) (i : Nat) (u : List (Nat × AObj)), stCells F0 cs i = some u →
    (∀ k, k < cs.length → ∃ kk n c0, F (i + k) = .cell true kk n c0) ∧
    ∀ G j, upd G u j = if i ≤ j ∧ j < i + cs.length then (match F j with | .cell o kk n _ => .cell o kk n (cs.getD (j - i) .unk) | _ => .dead) else G j
  | [], i, u, h => by
    simp only [stCells] at h
    cases h
    exact ⟨fun k hk => by simp at hk, fun G j => by rw [if_neg (fun h => by simp at h; omega)]; rfl⟩
  | c :: cs, i, u, h => by
    simp only [stCells] at h
    split at h <;> try cases h
    rename_i kk n c0 hF
    split at h <;> cases h
    rename_i r hr
    have hF' := hs.cell hF
    obtain ⟨h1, h2⟩ := stCells_parts hs cs (i + 1) r hr
    refine ⟨fun k hk => ?_, fun G j => ?_⟩
    · cases k with
      | zero => exact ⟨kk, n, c0, hF'⟩
      | succ k =>
        have := h1 k (by simpa using hk)
        rwa [show i + 1 + k = i + (k + 1) by omega] at this
    · simp only [upd]
      rw [h2]
      by_cases hj : i + 1 ≤ j ∧ j < i + 1 + cs.length
      · rw [if_pos hj, if_pos (by simp; omega)]
        obtain ⟨m, hm⟩ : ∃ m, j - i = m + 1 := ⟨j - i - 1, by omega⟩
        rw [hm, show j - (i + 1) = m by omega]
        rfl
      · rw [if_neg hj]
        by_cases h0 : i = j
        · subst h0
          rw [if_pos rfl, if_pos (by simp), hF']
          simp
        · rw [if_neg h0, if_neg (by simp; omega)]
theorem out_store {o : Oper} {t : TypeId} {x y : Operand} {cnt : Nat} (ho : o.op = .store t x y) {v : AVal} {u : List (Nat × AObj)} (S : Sim w0 A W nt sh U ρ tm F a w) (hs : Sub F0 F) (h : Gives (eff P o.op o.type tm F0 id) v u) : Out w0 A W U ρ F id cnt v u ((execOp a.eval o).run P w) := by
  rw [ho] at h
  simp only [eff] at h
  split at h
  rotate_left
  exact h.fail.elim
  rename_i n hn
  split at h
  rotate_left
  exact h.fail.elim
  rename_i hc
  simp only [Bool.and_eq_true, beq_iff_eq] at hc
  obtain ⟨⟨hv, hl⟩, hk⟩ := hc
  have hrel := (ev_rel S y).cells (fun l e => by rw [e] at hv; simp [AVal.isV] at hv) hk
  have hvl : (a.eval y).cells.size = n := by have := hrel.length; simp at this; omega
  have hone := hrel.one hk
  have run : ∀ b off w', (storeCells ⟨b, off, none⟩ (a.eval y).cells.toList).run P w = .ok () w' → a.eval x = .pointer (some ⟨b, off, none⟩) → (execOp a.eval o).run P w = .ok .skip w' := by
    intro b off w' hst hx
    simp [execOp, ho, hx, Instr.storeAt, Instr.sureAddr, storeVar, run_sizeOf hn, hvl, hst]
  split at h
  · rename_i i m hx
    split at h
    rotate_left
    exact h.fail.elim
    rename_i hnm
    have hnm : n ≤ m := of_decide_eq_true hnm
    split at h
    rotate_left
    exact h.fail.elim
    rename_i r hr
    obtain ⟨rfl, rfl⟩ := h.val
    obtain ⟨b, off, hxv, hp⟩ := ptr_of S hx
    obtain ⟨hc1, hc2⟩ := stCells_parts hs _ i r hr
    rw [hl] at hc1 hc2
    rcases Nat.eq_zero_or_pos n with h0 | hpos
    · subst h0
      have he : (a.eval y).cells.toList = [] := List.eq_nil_of_length_eq_zero (by simpa using hvl)
      have hF : upd F r = F := by funext j; rw [hc2, if_neg (by omega)]
      refine ⟨w, ρ, ⟨undef, .inr ⟨run b off w (by rw [he]; rfl) hxv, rfl⟩, trivial⟩, ext.refl ρ, fun _ _ => rfl, ?_⟩
      rw [hF]
      exact S.toHR.weak fun _ h => h.1
    · have cellAt : ∀ k, k < n → ∃ kk nn c0 cs el fz, F (i + k) = .cell true kk nn c0 ∧ kk = off + k ∧ w.heap[b]? = some (.cells cs el fz) ∧ off + k < cs.size ∧ ¬ (fz.1 ≤ off + k ∧ off + k < fz.2) ∧ cs.size = nn := by
        intro k hk
        obtain ⟨kk, nn, c0, e⟩ := hc1 k hk
        have hobj := S.obj (i + k)
        rw [e] at hobj
        obtain ⟨hd, q1, b', o', cs, el, fz, v, rfl, q3, q4, q5, q6, q7⟩ := hobj
        rw [hp k (by omega)] at q1
        cases q1
        obtain ⟨rfl, q8, q9⟩ := q7 rfl
        exact ⟨_, nn, c0, cs, el, fz, e, rfl, q3, (Array.getElem?_eq_some_iff.1 q4).1, q9, q8⟩
      obtain ⟨_, nn, _, cs, el, fz, _, _, hheap, _, _, hcsn⟩ := cellAt 0 hpos
      have hfit : ∀ k, k < n → off + k < cs.size ∧ ¬ (fz.1 ≤ off + k ∧ off + k < fz.2) := fun k hk => by
        obtain ⟨_, _, _, cs', el', fz', _, _, h1, h2, h3, _⟩ := cellAt k hk
        rw [hheap] at h1
        cases h1
        exact ⟨h2, h3⟩
      have hle : off + (a.eval y).cells.toList.length ≤ cs.size := by have := (hfit (n - 1) (by omega)).1; simp [hvl]; omega
      have hst := run_stores (P := P) hheap (a.eval y).cells.toList hle (fun j hj => (hfit j (by simpa [hvl] using hj)).2) hone
      have hh' := setCells_heap b _ off w cs el fz hheap hle
      have hblk : ∀ k, k < n → blk (ρ (i + k)) = some b := fun k hk => by rw [hp k (by omega)]; rfl
      refine ⟨_, ρ, ⟨undef, .inr ⟨run b off _ hst hxv, rfl⟩, trivial⟩, ext.refl ρ, fun _ _ => rfl, ?_⟩
      obtain ⟨kk0, nn0, c00, _, _, _, hF0, _⟩ := cellAt 0 hpos
      refine (S.toHR.turn (row := some b) (fun j => ?_) (setCells_grown b _ off w) (fun k e => by cases e; exact S.locw (i + 0) b (by rw [hF0]; rfl) (hblk 0 hpos)) (fun j hlive hj => ?_) (fun j hne => ?_) (fun k e => by cases e; exact ⟨i + 0, by rw [hF0]; rfl, by rw [hF0]; rfl, hblk 0 hpos⟩)).weak fun _ h => h.1
      · rw [hc2]
        by_cases hj : i ≤ j ∧ j < i + n
        · rw [if_pos hj]
          obtain ⟨k, rfl⟩ : ∃ k, j = i + k := ⟨j - i, by omega⟩
          obtain ⟨kk, nn, c0, e⟩ := hc1 k (by omega)
          rw [e]
          exact .inr (.inl ⟨true, kk, nn, c0, _, rfl, rfl⟩)
        · rw [if_neg hj]; exact MetaOk.refl _
      · rw [hc2] at hlive ⊢
        by_cases hjr : i ≤ j ∧ j < i + n
        · rw [if_pos hjr]
          obtain ⟨k, rfl⟩ : ∃ k, j = i + k := ⟨j - i, by omega⟩
          obtain ⟨kk, nn', c0, cs', el', fz', e, q1, q2, q3, q4, q5⟩ := cellAt k (by omega)
          rw [hheap] at q2
          cases q2
          rw [e, hp k (by omega)]
          simp only
          obtain ⟨c, hcc⟩ : ∃ c, (ev tm y).cells[k]? = some c := ⟨(ev tm y).cells[k]'(by omega), by simp⟩
          obtain ⟨vv, hvv, hcr⟩ := hrel.get k c hcc
          have hgd : (ev tm y).cells.getD (i + k - i) .unk = c := by rw [Nat.add_sub_cancel_left, List.getD_eq_getElem?_getD, hcc]; rfl
          rw [hgd]
          refine ⟨_, rfl, b, off + k, _, el, fz, vv, rfl, hh', ?_, hcr, known_get hk hcc, fun _ => ⟨q1.symm, ?_, q4⟩⟩
          · have hkl : k < (a.eval y).cells.toList.length := (List.getElem?_eq_some_iff.1 hvv).1
            rw [List.getElem?_toArray, List.append_assoc, List.getElem?_append_right (by simp; omega), List.length_take, List.getElem?_append_left (by simp at hkl ⊢; omega)]
            rw [show off + k - min off cs.toList.length = k by simp; omega]
            exact hvv
          · simp only [List.size_toArray, List.length_append, List.length_take, List.length_drop, Array.length_toList]
            simp at hle
            omega
        · rw [if_neg hjr] at hlive ⊢
          rcases hj with ⟨b', e, hbb⟩ | hne
          · cases e
            obtain ⟨ki, kj, n', ci, cj, e1, e2, e3, e4⟩ := S.sep (i + 0) j (by omega) (by rw [hF0]; rfl) hlive b (hblk 0 hpos) hbb
            have hobj := S.obj j
            rw [e2] at hobj ⊢
            obtain ⟨hd, q1, b', o', cs', el', fz', v, rfl, q3, q4, q5, q6, q7⟩ := hobj
            rw [q1] at hbb
            simp [blk] at hbb
            subst hbb
            rw [hheap] at q3
            cases q3
            obtain ⟨q8, q9, q10⟩ := q7 rfl
            subst q8
            have hout : o' < off ∨ off + n ≤ o' := by
              rcases Nat.lt_or_ge o' off with h | h
              · exact .inl h
              · rcases Nat.lt_or_ge o' (off + n) with h2 | h2
                · exfalso
                  obtain ⟨kk, nn', c0, cs2, el2, fz2, e, q11, _⟩ := cellAt (o' - off) (by omega)
                  obtain ⟨ki2, kj2, n2, ci2, cj2, f1, f2, f3, f4⟩ := S.sep (i + (o' - off)) j (by omega) (by rw [e]; rfl) hlive b' (hblk _ (by omega)) (by rw [q1]; rfl)
                  rw [e] at f1
                  cases f1
                  rw [e2] at f2
                  cases f2
                  omega
                · exact .inr h2
            refine ⟨_, q1, b', o', _, el, fz, v, rfl, hh', ?_, q5, q6, fun _ => ⟨rfl, ?_, q10⟩⟩
            · rw [List.getElem?_toArray]
              rw [← Array.getElem?_toList] at q4
              rcases hout with h | h
              · rw [List.append_assoc, List.getElem?_append_left (by simp; omega), List.getElem?_take, if_pos h]; exact q4
              · rw [List.getElem?_append_right (by simp [hvl]; omega), List.getElem?_drop]
                rw [← q4]
                congr 1
                simp [hvl]; omega
            · simp only [List.size_toArray, List.length_append, List.length_take, List.length_drop, Array.length_toList]
              simp at hle
              omega
          · rw [hc2, if_neg hjr] at hne; exact absurd rfl hne
      · rw [hc2] at hne ⊢
        by_cases hjr : i ≤ j ∧ j < i + n
        · rw [if_pos hjr]
          obtain ⟨k, rfl⟩ : ∃ k, j = i + k := ⟨j - i, by omega⟩
          obtain ⟨kk, nn, c0, e⟩ := hc1 k (by omega)
          rw [e]
          rfl
        · rw [if_neg hjr] at hne; exact absurd rfl hne
  · rename_i i j sz off hx
    split at h
    rotate_left
    exact h.fail.elim
    rename_i s xs hF
    split at h
    rotate_left
    exact h.fail.elim
    rename_i hc
    simp only [Bool.and_eq_true, beq_iff_eq, decide_eq_true_eq] at hc
    obtain ⟨rfl, hoff⟩ := hc
    split at h
    rotate_left
    exact h.fail.elim
    rename_i yy hy
    obtain ⟨rfl, rfl⟩ := h.val
    have hxr := ev_rel S x
    rw [hx] at hxr
    obtain ⟨b, o', len, cap, hρ, hj, hxv⟩ := hxr
    have hF' := hs.row hF
    have hobj := S.obj i
    rw [hF'] at hobj
    obtain ⟨hd, q1, p, cap', e, hle, hp⟩ := hobj
    rw [hρ] at q1
    cases q1
    cases e
    obtain ⟨_, cs, el, fz, hheap, hcs, hown⟩ := hp
    obtain ⟨hz0, hcsz, hfz⟩ := hown rfl
    simp only at hz0 hheap
    subst hz0
    have hjm : (j + 1) * s.sz ≤ xs.length * s.sz := Nat.mul_le_mul_right _ hj
    have hcm : xs.length * s.sz ≤ cap * s.sz := Nat.mul_le_mul_right _ hle
    rw [Nat.succ_mul] at hjm
    have hle2 : 0 + (j * s.sz + off) + (a.eval y).cells.toList.length ≤ cs.size := by simp [hvl]; omega
    have hst := run_stores (P := P) hheap (o := 0 + (j * s.sz + off)) (a.eval y).cells.toList hle2 (fun q hq => hfz _ (by omega)) hone
    have hh' := setCells_heap b _ (0 + (j * s.sz + off)) w cs el fz hheap hle2
    have hvals : s.vals yy = (s.vals (xs.getD j s.dft)).take off ++ (a.eval y).cells.toList ++ (s.vals (xs.getD j s.dft)).drop (off + (a.eval y).cells.toList.length) :=
      (of_vals hy (splice_rel (Sh.rel ρ s (xs.getD j s.dft)) hrel off)).symm
    refine ⟨_, ρ, ⟨undef, .inr ⟨run b _ _ hst hxv, rfl⟩, trivial⟩, ext.refl ρ, fun _ _ => rfl, ?_⟩
    refine (S.toHR.turn (row := some b) (fun q => ?_) (setCells_grown b _ _ w) (fun k e => by cases e; exact S.locw i b (by rw [hF']; rfl) (by rw [hρ]; rfl)) (fun q hlive hq => ?_) (fun q hne => ?_) (fun k e => by cases e; exact ⟨i, by rw [hF']; rfl, by rw [hF']; rfl, by rw [hρ]; rfl⟩)).weak fun _ h => h.1
    · simp only [upd]
      by_cases hq : i = q
      · subst hq; rw [if_pos rfl, hF']; exact .inr (.inr (.inl ⟨true, s, xs, true, s, _, rfl, rfl, fun e => e⟩))
      · rw [if_neg hq]; exact MetaOk.refl _
    · simp only [upd] at hlive hq ⊢
      by_cases hqi : i = q
      · subst hqi
        rw [if_pos rfl]
        refine ⟨_, hρ, some ⟨b, 0, none⟩, cap, by rw [List.length_set], by rw [List.length_set]; exact hle, rfl, _, el, fz, hh', ?_, fun _ => ⟨rfl, ?_, ?_⟩⟩
        · simp only [List.drop_zero, List.length_set]
          rw [flat_set s xs j yy hj, ← hcs, hvals]
          have hfg := flat_get s xs j hj
          rw [← hcs] at hfg
          simp only [List.drop_zero] at hcs hfg ⊢
          generalize hL : cs.toList = L at *
          generalize hV : (a.eval y).cells.toList = V at *
          have hVl : V.length = n := by rw [← hV]; simpa using hvl
          have hLl : L.length = cap * s.sz := by rw [← hL]; simpa using hcsz
          rw [← hfg]
          have hmn : (j + 1) * s.sz = j * s.sz + s.sz := Nat.succ_mul _ _
          rw [hmn]
          rw [Nat.zero_add]
          exact list_store L V (j * s.sz) s.sz off (xs.length * s.sz) (by omega) hjm (by omega)
        · simp only [List.size_toArray, List.length_append, List.length_take, List.length_drop, Array.length_toList]
          simp at hle2
          omega
        · intro q hq
          have : q < cs.size := by
            simp only [List.size_toArray, List.length_append, List.length_take, List.length_drop, Array.length_toList] at hq
            simp at hle2
            omega
          exact hfz q this
      · rw [if_neg hqi] at hlive ⊢
        rcases hq with ⟨b', e, hbb⟩ | hne
        · cases e
          obtain ⟨ki, kj, n', ci, cj, e1, e2, _⟩ := S.sep i q hqi (by rw [hF']; rfl) hlive b (by rw [hρ]; rfl) hbb
          rw [hF'] at e1
          cases e1
        · rw [if_neg hqi] at hne; exact absurd rfl hne
    · simp only [upd] at hne ⊢
      by_cases hqi : i = q
      · rw [if_pos hqi]; rfl
      · rw [if_neg hqi] at hne; exact absurd rfl hne
  · exact h.fail.elim
end
end Go.Proofs.YtiaagflfiphioaaDoorS
