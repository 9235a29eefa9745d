/- Rows: literals, made ones, appends; stores. -/
import Derived.Test.YtiaagflfiphioaaDoorSimH
namespace Go.Proofs.YtiaagflfiphioaaDoorS
open Go
set_option linter.unusedVariables false
set_option linter.unusedSimpArgs false

section
variable {P : Program} {w0 : World} {A : List Nat} {W : WL} {nt : Nat} {sh : Nat → Value} {U : Nat → Prop} {ρ : Rho} {tm : Nat → AVal} {F F0 : Nat → AObj} {a : Act} {w : World} {id : Nat}

theorem of_nn {b : Bool} (h : ¬ (!b) = true) : b = true := by cases b <;> simp_all
theorem LRel.of_get {ρ : Rho} : ∀ {l : List Cell} {vs : List Value}, l.length = vs.length → (∀ (i : Nat) (c : Cell) (v : Value), l[i]? = some c → vs[i]? = some v → CRel ρ c v) → LRel ρ l vs
  | [], [], _, _ => trivial
  | [], _ :: _, h, _ => by simp at h
  | _ :: _, [], h, _ => by simp at h
  | c :: l, v :: vs, h, g => ⟨g 0 c v rfl rfl, LRel.of_get (by simpa using h) fun i c v h1 h2 => g (i + 1) c v (by simpa using h1) (by simpa using h2)⟩
theorem repeat_len (z : List Cell) : ∀ n, (repeatCells z n).length = n * z.length
  | 0 => by simp [repeatCells]
  | n + 1 => by simp [repeatCells, repeat_len z n, Nat.succ_mul, Nat.add_comm]
theorem repeat_get (z : List Cell) : ∀ (n i : Nat), i < n * z.length → (repeatCells z n)[i]? = z[i % z.length]?
  | 0, i, h => by simp at h
  | n + 1, i, h => by
    simp only [repeatCells]
    by_cases hi : i < z.length
    · rw [List.getElem?_append_left hi, Nat.mod_eq_of_lt hi]
    · rw [List.getElem?_append_right (by omega), repeat_get z n _ (by rw [Nat.succ_mul] at h; omega)]
      congr 1
      rw [← Nat.mod_eq_sub_mod (by omega)]
theorem made_get (z : Array Value) (n i : Nat) (h : i < n) (hz : 0 < z.size) : ((Array.range n).map (z[· % z.size]!)).toList[i]? = z[i % z.size]? := by
  have hm : i % z.size < z.size := Nat.mod_lt _ hz
  rw [Array.getElem?_toList, Array.getElem?_map, Array.getElem?_range, if_pos h]
  simp [hm]
theorem made_rel {l : List Cell} {zv : Array Value} (h : LRel ρ l zv.toList) (n : Nat) (m : Nat) (hm : l.length = m) (z' : Array Value) (hz : z' = if n * m = 0 then #[] else zv) :
    LRel ρ (repeatCells l n) ((Array.range (n * m)).map (z'[· % z'.size]!)).toList := by
  have hl := h.length
  have hzs : zv.size = m := by simp at hl; omega
  apply LRel.of_get
  · rw [repeat_len, hm]; simp
  · intro i c v h1 h2
    have hi : i < n * m := by
      have := (List.getElem?_eq_some_iff.1 h1).1
      rwa [repeat_len, hm] at this
    have hne : ¬ n * m = 0 := by omega
    have hmp : 0 < m := by rcases Nat.eq_zero_or_pos m with h | h; simp [h] at hi; exact h
    rw [if_neg hne] at hz
    subst hz
    rw [made_get _ _ _ hi (by omega), hzs] at h2
    rw [repeat_get _ _ _ (by rw [hm]; exact hi), hm] at h1
    obtain ⟨v', hv', hr⟩ := h.get _ c h1
    rw [Array.getElem?_toList, h2] at hv'
    cases hv'
    exact hr
theorem ofAll_rel {ρ : Rho} (s : Sh) : ∀ (n : Nat) {cs : List Cell} {vs : List Value} {xs : List s.T}, s.ofAll n cs = some xs → LRel ρ cs vs → vs = flat s xs ∧ xs.length = n
  | 0, [], [], xs, h, _ => by simp [Sh.ofAll] at h; subst h; exact ⟨rfl, rfl⟩
  | 0, [], _ :: _, xs, h, hr => hr.elim
  | 0, _ :: _, _, xs, h, _ => by simp [Sh.ofAll] at h
  | n + 1, cs, vs, xs, h, hr => by
    simp only [Sh.ofAll] at h
    split at h <;> try cases h
    rename_i x cs1 h1
    split at h <;> cases h
    rename_i ys h2
    obtain ⟨r, e, hr'⟩ := Sh.of_rel s h1 hr
    obtain ⟨e2, hl⟩ := ofAll_rel s n h2 hr'
    exact ⟨by rw [e, e2, flat_cons], by simp [hl]⟩
theorem new_row (H : HR w0 A W U ρ F w) (hid : U id) (s : Sh) (xs : List s.T) (cap : Nat) (cs : Array Value) (el : TypeId) (fz : Nat × Nat) (hc : xs.length ≤ cap) (hs : cs.size = cap * s.sz) (hcs : cs.toList.take (xs.length * s.sz) = flat s xs)
    (hf : ∀ o, o < cs.size → ¬ (fz.1 ≤ o ∧ o < fz.2)) :
    ∃ ρ', ext ρ ρ' ∧ (∀ i, ¬ (id ≤ i ∧ i < id + 1) → ρ' i = ρ i) ∧ HR w0 A W (fun i => U i ∧ ¬ (id ≤ i ∧ i < id + 1)) ρ' (upd F [(id, .row true s xs)]) (w.alloc (.cells cs el fz)) ∧ CRel ρ' (.slc id) (.slice (some ⟨w.heap.size, 0, none⟩) xs.length cap) := by
  obtain ⟨ρ', h1, h2, h3, h4⟩ := H.newRow (w' := w.alloc (.cells cs el fz)) id true s xs (.slice (some ⟨w.heap.size, 0, none⟩) xs.length cap) w.heap.size hid (World.grownBy_alloc w _ _) (.inl H.fr.size) (.inl H.fr.size)
    H.fresh (fun b' hb => by simp [blk] at hb; omega) ⟨_, cap, rfl, hc, rfl, cs, el, fz, heap_alloc_new w _, by simpa using hcs, fun _ => ⟨rfl, hs, hf⟩⟩
  exact ⟨ρ', h1, fun i hi => h2 i (by omega), h3.weak fun i hi => ⟨hi.1, by omega⟩, h4⟩
theorem out_buildSlice {o : Oper} {t : TypeId} {len : Nat} {parts : Array (Nat × Operand)} (ho : o.op = .buildSlice t len parts) {v : AVal} {u : List (Nat × AObj)} (S : Sim w0 A W nt sh U ρ tm F a w) (hid : U id) (h : Gives (eff P o.op o.type tm F0 id) v u) : Out w0 A W U ρ F id 1 v u ((execOp a.eval o).run P w) := by
  rw [ho] at h
  simp only [eff] at h
  split at h
  rotate_left
  exact h.fail.elim
  rename_i e hu
  split at h
  rotate_left
  exact h.fail.elim
  rename_i s z hsh hz
  split at h
  exact h.fail.elim
  rename_i hc
  have hc := of_nn hc
  simp only [Bool.and_eq_true, beq_iff_eq, decide_eq_true_eq] at hc
  obtain ⟨⟨hzl, hmax⟩, hsz⟩ := hc
  split at h
  rotate_left
  exact h.fail.elim
  rename_i cs hcs
  split at h
  rotate_left
  exact h.fail.elim
  rename_i xs hxs
  obtain ⟨rfl, rfl⟩ := h.val
  obtain ⟨i, zv, hi, hzv, hvs⟩ := zeroB_parts hz
  let z' : Array Value := if len * s.sz = 0 then #[] else zv.cells
  have hinit := made_rel (ofVals_rel hvs (ρ := ρ)) len s.sz hzl z' rfl
  obtain ⟨cs', h1, h2⟩ := fill_rel S (fun i => some (i * s.sz, s.sz)) (fun j c l => if c.length == s.sz && decide (j * s.sz + s.sz ≤ l.length) then some (splice l (j * s.sz) c) else none)
    (fun j c l l' hst => by
      split at hst <;> cases hst
      rename_i hc
      simp only [Bool.and_eq_true, beq_iff_eq, decide_eq_true_eq] at hc
      exact ⟨j * s.sz, by rw [hc.1], by rw [hc.1]; exact hc.2, rfl⟩)
    (buildR s.sz) (fun l => rfl) (fun j v r l q hq => by
      simp only [buildR] at hq
      split at hq <;> try cases hq
      rename_i hc
      simp only [Bool.and_eq_true, beq_iff_eq, decide_eq_true_eq] at hc
      obtain ⟨⟨⟨hv, hl⟩, hk⟩, hle⟩ := hc
      exact ⟨_, hv, hk, by simp [hl, hle], hq⟩) parts.toList _ cs _ hinit hcs
  obtain ⟨e1, e2⟩ := ofAll_rel s len hxs h2
  have hcl : cs'.size = len * s.sz := by have := congrArg List.length e1; rw [flat_len, e2] at this; simpa using this
  obtain ⟨ρ', g1, g2, g3, g4⟩ := new_row S.toHR hid s xs len cs' e (0, 0) (by omega) hcl (by rw [e2, ← hcl, ← e1]; exact List.take_of_length_le (by simp)) (fun o _ => by omega)
  refine ⟨_, ρ', ⟨_, .inl ?_, g4⟩, g1, g2, g3⟩
  have hnb : ¬ (16777216 < len * s.sz) := by omega
  have h1' : Instr.fill (fun i => some (i * s.sz, s.sz)) ((Array.range (len * s.sz)).map (z'[· % z'.size]!)) (parts.toList.map fun (x : Nat × Operand) => (x.1, a.eval x.2)) = some cs' := h1
  simp only [execOp, ho, Instr.buildSlice, Sem.run_bind, underlying, run_program, hu, Result.andThen_ok, Sem.run_pure, run_sizeOf hsz, Array.toList_map]
  rw [show (2 : Nat) ^ 24 = 16777216 from rfl, if_neg hnb]
  by_cases h0 : len * s.sz = 0
  · have hz1 : z' = #[] := if_pos h0
    rw [hz1] at h1'
    rw [if_pos h0]
    simp only [Sem.run_bind, Result.andThen_ok, Sem.run_pure, h1', newRow, run_newObj, World.alloc_eq, e2]
  · have hz1 : z' = zv.cells := if_neg h0
    rw [hz1] at h1'
    rw [if_neg h0]
    simp only [Sem.run_bind, run_zero hi hzv, Result.andThen_ok, Sem.run_pure, h1', newRow, run_newObj, World.alloc_eq, e2]
theorem of_vals {s : Sh} {z : List Cell} {y : s.T} (h : s.of z = some (y, [])) {vs : List Value} (hr : LRel ρ z vs) : vs = s.vals y := by
  obtain ⟨r, e, hr'⟩ := Sh.of_rel s h hr
  cases r with
  | nil => simpa using e
  | cons => exact hr'.elim
theorem flat_replicate (s : Sh) (y : s.T) : ∀ n, flat s (List.replicate n y) = (List.replicate n (s.vals y)).flatten
  | 0 => rfl
  | n + 1 => by rw [List.replicate_succ, flat_cons, flat_replicate s y n, List.replicate_succ, List.flatten_cons]
theorem out_makeSlice {o : Oper} {t : TypeId} {l c : Operand} (ho : o.op = .makeSlice t l c) {v : AVal} {u : List (Nat × AObj)} (S : Sim w0 A W nt sh U ρ tm F a w) (hid : U id) (h : Gives (eff P o.op o.type tm F0 id) v u) : Out w0 A W U ρ F id 1 v u ((execOp a.eval o).run P w) := by
  rw [ho] at h
  simp only [eff] at h
  split at h
  rotate_left
  exact h.fail.elim
  rename_i e hu
  split at h
  rotate_left
  exact h.fail.elim
  rename_i s z bs k1 n k2 m hsh hz hbs hl hc
  split at h
  rotate_left
  exact h.fail.elim
  rename_i y hy
  split at h
  exact h.fail.elim
  rename_i hq
  have hq := of_nn hq
  simp only [Bool.and_eq_true, beq_iff_eq, decide_eq_true_eq] at hq
  obtain ⟨hsz, hbp⟩ := hq
  obtain ⟨hb, rfl, rfl⟩ := h.chk
  simp only [Bool.and_eq_true, decide_eq_true_eq, fits] at hb
  obtain ⟨⟨h0, hnm⟩, hfit⟩ := hb
  obtain ⟨i, zv, hi, hzv, hvs⟩ := zeroB_parts hz
  obtain ⟨i', hi', hsize⟩ := sizeB_info hsz
  rw [hi] at hi'
  cases hi'
  have hbs' : i.bytes = bs := by unfold bytesOfT at hbs; rw [hi] at hbs; exact Option.some.inj hbs
  have hzc : zv.cells.toList = s.vals y := of_vals (ρ := ρ) hy (ofVals_rel hvs)
  have hzs : zv.cells.size = s.sz := by rw [← Array.length_toList, hzc, Sh.vals_len]
  have hm0 : 0 ≤ m := by omega
  have hmb : m.toNat ≤ m.toNat * bs := Nat.le_mul_of_pos_right _ hbp
  have hbytes : (i.bytes : Int) * m ≤ 281474976710656 := by
    have : (i.bytes : Int) * m = ((m.toNat * bs : Nat) : Int) := by rw [hbs', Int.natCast_mul, Int.toNat_of_nonneg hm0, Int.mul_comm]
    rw [this]
    unfold maxRow at hfit
    omega
  have hrun := run_make (P := P) w t e i zv hu hi hzv k1 k2 n m h0 hnm hbytes (by unfold maxRow at hfit; omega)
  have hrep : (madeCells zv.cells (m.toNat * i.size)).toList = flat s (List.replicate m.toNat y) := by
    rw [hsize]
    apply List.ext_getElem?
    intro j
    by_cases hj : j < m.toNat * s.sz
    · have hp : 0 < s.sz := by rcases Nat.eq_zero_or_pos s.sz with h | h; simp [h] at hj; exact h
      unfold madeCells
      rw [made_get _ _ _ hj (by omega), hzs, ← Array.getElem?_toList, hzc]
      have hd : j / s.sz < m.toNat := (Nat.div_lt_iff_lt_mul hp).2 hj
      have := flat_get s (List.replicate m.toNat y) (j / s.sz) (by simpa using hd)
      have hg : (List.replicate m.toNat y).getD (j / s.sz) s.dft = y := by simp [List.getD, hd]
      rw [hg] at this
      rw [← this, List.getElem?_take, if_pos (Nat.mod_lt _ hp), List.getElem?_drop]
      congr 1
      have := Nat.div_add_mod j s.sz
      rw [Nat.mul_comm] at this
      exact this
    · rw [List.getElem?_eq_none (by simp [madeCells]; omega), List.getElem?_eq_none (by rw [flat_len]; simp; omega)]
  have hcapz : (madeCells zv.cells (m.toNat * i.size)).size = m.toNat * s.sz := by rw [size_madeCells, hsize]
  obtain ⟨ρ', g1, g2, g3, g4⟩ := new_row S.toHR hid s (List.replicate n.toNat y) m.toNat (madeCells zv.cells (m.toNat * i.size)) e (0, 0) (by simp; omega) hcapz
    (by rw [hrep, ← flat_take]; congr 1; simp; omega) (fun o _ => by omega)
  refine ⟨_, ρ', ⟨_, .inl ?_, g4⟩, g1, g2, g3⟩
  simp only [execOp, ho, int_of S hl, int_of S hc, Sem.run_bind, hrun, Result.andThen_ok, Sem.run_pure, List.length_replicate]
end
end Go.Proofs.YtiaagflfiphioaaDoorS
