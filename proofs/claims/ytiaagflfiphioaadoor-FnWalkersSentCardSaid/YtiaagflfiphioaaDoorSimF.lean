/- Each operation without new memory does what the evaluation says. -/
import Derived.Test.YtiaagflfiphioaaDoorSimE
namespace Go.Proofs.YtiaagflfiphioaaDoorS
open Go
set_option linter.unusedVariables false
set_option linter.unusedSimpArgs false

section
variable {P : Program} {w0 : World} {A : List Nat} {W : WL} {nt : Nat} {sh : Nat → Value} {U : Nat → Prop} {ρ : Rho} {tm : Nat → AVal} {F F0 : Nat → AObj} {a : Act} {w : World} {id cnt : Nat}
/-- What the evaluation gives. -/
def Gives (e : Eff) (v : AVal) (u : List (Nat × AObj)) : Prop := e = .val v u ∨ (∃ b, e = .chk b v u ∧ b = true) ∨ ∃ b v1 u1 v2 u2, e = .two b v1 u1 v2 u2 ∧ (b = true ∧ v = v1 ∧ u = u1 ∨ b = false ∧ v = v2 ∧ u = u2)
theorem Gives.fail {v : AVal} {u : List (Nat × AObj)} (h : Gives .fail v u) : False := by rcases h with h | ⟨b, h, _⟩ | ⟨_, _, _, _, _, h, _⟩ <;> cases h
theorem Gives.val {v v' : AVal} {u u' : List (Nat × AObj)} (h : Gives (.val v u) v' u') : v = v' ∧ u = u' := by rcases h with h | ⟨b, h, _⟩ | ⟨_, _, _, _, _, h, _⟩ <;> cases h; exact ⟨rfl, rfl⟩
theorem Gives.chk {b : Bool} {v v' : AVal} {u u' : List (Nat × AObj)} (h : Gives (.chk b v u) v' u') : b = true ∧ v = v' ∧ u = u' := by rcases h with h | ⟨b, h, e⟩ | ⟨_, _, _, _, _, h, _⟩ <;> cases h; exact ⟨e, rfl, rfl⟩
theorem Gives.c {c : Cell} {v' : AVal} {u' : List (Nat × AObj)} (h : Gives (.c c) v' u') : v' = .c c ∧ u' = [] := by obtain ⟨a, b⟩ := Gives.val h; exact ⟨a.symm, b.symm⟩
theorem Gives.ck {b : Bool} {c : Cell} {v' : AVal} {u' : List (Nat × AObj)} (h : Gives (.ck b c) v' u') : b = true ∧ v' = .c c ∧ u' = [] := by obtain ⟨x, a, b⟩ := Gives.chk h; exact ⟨x, a.symm, b.symm⟩

theorem int_of {x : Operand} {k : IntKind} {n : Int} (S : Sim w0 A W nt sh U ρ tm F a w) (h : ev tm x = .c (.int k n)) : a.eval x = .int k n := by
  have := ev_rel S x
  rw [h] at this
  exact this
theorem str_of {x : Operand} {s : ByteArray} (S : Sim w0 A W nt sh U ρ tm F a w) (h : ev tm x = .c (.str s)) : a.eval x = .string s := by
  have := ev_rel S x
  rw [h] at this
  exact this
theorem bool_of {x : Operand} {s : Bool} (S : Sim w0 A W nt sh U ρ tm F a w) (h : ev tm x = .c (.bool s)) : a.eval x = .bool s := by
  have := ev_rel S x
  rw [h] at this
  exact this
theorem slc_of {x : Operand} {i : Nat} (S : Sim w0 A W nt sh U ρ tm F a w) (h : ev tm x = .c (.slc i)) : ρ i = some (a.eval x) ∧ ∃ p n c, a.eval x = .slice p n c := by
  have := ev_rel S x
  rw [h] at this
  exact this
theorem ptr_of {x : Operand} {i n : Nat} (S : Sim w0 A W nt sh U ρ tm F a w) (h : ev tm x = .c (.ptr i n)) : PtrAt ρ i n (a.eval x) := by
  have := ev_rel S x
  rw [h] at this
  exact this
theorem row_of (S : Sim w0 A W nt sh U ρ tm F a w) (hs : Sub F0 F) {x : Operand} {i : Nat} (h : ev tm x = .c (.slc i)) {own : Bool} {s : Sh} {xs : List s.T} (hF : F0 i = .row own s xs) :
    ∃ p c, a.eval x = .slice p xs.length c ∧ RowRel own s xs (.slice p xs.length c) w ∧ ρ i = some (.slice p xs.length c) := by
  obtain ⟨h1, _⟩ := slc_of S h
  have ho := S.obj i
  rw [hs.row hF] at ho
  obtain ⟨hd, e, p, c, rfl, hr⟩ := ho
  rw [h1] at e
  have e := Option.some.inj e
  exact ⟨p, c, e, ⟨p, c, rfl, hr⟩, by rw [h1, e]⟩

theorem out_move {o : Oper} {x : Operand} (ho : o.op = .move x ∨ o.op = .assign x) {v : AVal} {u : List (Nat × AObj)} (S : Sim w0 A W nt sh U ρ tm F a w) (h : Gives (.val (ev tm x) []) v u) : Out w0 A W U ρ F id cnt v u ((execOp a.eval o).run P w) := by
  obtain ⟨rfl, rfl⟩ := h.val
  refine Out.pure S (x := a.eval x) ?_ (ev_rel S x)
  rcases ho with ho | ho <;> simp [execOp, ho]
theorem out_pick {o : Oper} {c x y : Operand} (ho : o.op = .pick c x y) {v : AVal} {u : List (Nat × AObj)} (S : Sim w0 A W nt sh U ρ tm F a w) (h : Gives (eff P o.op o.type tm F0 id) v u) : Out w0 A W U ρ F id cnt v u ((execOp a.eval o).run P w) := by
  rw [ho] at h
  simp only [eff] at h
  split at h
  · rename_i hc
    obtain ⟨rfl, rfl⟩ := h.val
    exact Out.pure S (by simp [execOp, ho, bool_of S hc, asBool]) (ev_rel S x)
  · rename_i hc
    obtain ⟨rfl, rfl⟩ := h.val
    exact Out.pure S (by simp [execOp, ho, bool_of S hc, asBool]) (ev_rel S y)
  · exact h.fail.elim
theorem out_load {o : Oper} {t : TypeId} {x : Operand} (ho : o.op = .load t x) {v : AVal} {u : List (Nat × AObj)} (S : Sim w0 A W nt sh U ρ tm F a w) (hs : Sub F0 F) (h : Gives (eff P o.op o.type tm F0 id) v u) : Out w0 A W U ρ F id cnt v u ((execOp a.eval o).run P w) := by
  rw [ho] at h
  simp only [eff] at h
  split at h
  rotate_left
  exact h.fail.elim
  rename_i n ag hl
  split at h
  · rename_i i m hx
    split at h
    rotate_left
    exact h.fail.elim
    rename_i hnm
    have hnm : n ≤ m := of_decide_eq_true hnm
    split at h
    rotate_left
    exact h.fail.elim
    rename_i cs hcs
    obtain ⟨rfl, rfl⟩ := h.val
    obtain ⟨b, off, hv, hp⟩ := ptr_of S hx
    obtain ⟨vs, hlen, hrel, _, hcell⟩ := ldCells_rel S.toHR hs n i b off cs (fun k hk => hp k (by omega)) hcs
    obtain ⟨v, hr, hvv⟩ := run_loadVar hl w b off vs hlen hcell
    exact Out.pure S (x := v) (by simp [execOp, ho, hv, Instr.loadAt, Instr.sureAddr, hr]) (VRel.of_load hrel hvv)
  · rename_i i j sz off hx
    split at h
    rotate_left
    exact h.fail.elim
    rename_i own s xs hF
    split at h
    rotate_left
    exact h.fail.elim
    rename_i hc
    simp only [Bool.and_eq_true, beq_iff_eq, decide_eq_true_eq] at hc
    obtain ⟨rfl, hoff⟩ := hc
    obtain ⟨rfl, rfl⟩ := h.val
    have hxr := ev_rel S x
    rw [hx] at hxr
    obtain ⟨b, o', len, cap, hρ, hj, hv⟩ := hxr
    obtain ⟨_, hcell⟩ := row_cells S.toHR (hs.row hF) hρ hj
    have hlen : (((s.vals (xs.getD j s.dft)).drop off).take n).length = n := by rw [List.length_take, List.length_drop, Sh.vals_len]; omega
    obtain ⟨v, hr, hvv⟩ := run_loadVar hl w b (o' + (j * s.sz + off)) (((s.vals (xs.getD j s.dft)).drop off).take n) hlen (fun k v hk => by
      have hkn : k < n := by rw [← hlen]; exact (List.getElem?_eq_some_iff.1 hk).1
      rw [List.getElem?_take, if_pos hkn, List.getElem?_drop] at hk
      have := hcell (off + k) v hk
      rw [show o' + (j * s.sz + off) + k = o' + (j * s.sz + (off + k)) by omega]
      exact this)
    exact Out.pure S (x := v) (by simp [execOp, ho, hv, Instr.loadAt, Instr.sureAddr, hr]) (VRel.of_load (((Sh.rel ρ s _).drop off).take n) hvv)
  · exact h.fail.elim
theorem out_nilCheck {o : Oper} {x : Operand} (ho : o.op = .nilCheck x) {v : AVal} {u : List (Nat × AObj)} (S : Sim w0 A W nt sh U ρ tm F a w) (h : Gives (eff P o.op o.type tm F0 id) v u) : Out w0 A W U ρ F id cnt v u ((execOp a.eval o).run P w) := by
  rw [ho] at h
  simp only [eff] at h
  have hxr := ev_rel S x
  split at h
  · rename_i hx
    rw [hx] at hxr
    obtain ⟨rfl, rfl⟩ := h.c
    have hxr' := hxr
    obtain ⟨b, off, hv, _⟩ := hxr'
    exact Out.pure S (x := a.eval x) (by simp [execOp, ho, hv]) hxr
  · rename_i hx
    rw [hx] at hxr
    obtain ⟨rfl, rfl⟩ := h.c
    have hxr' := hxr
    obtain ⟨b, off, _, _, _, _, hv⟩ := hxr'
    exact Out.pure S (x := a.eval x) (by simp [execOp, ho, hv]) hxr
  · exact h.fail.elim
theorem out_unOp {o : Oper} {op : UnOp} {t : TypeId} {x : Operand} (ho : o.op = .unOp op t x) {v : AVal} {u : List (Nat × AObj)} (S : Sim w0 A W nt sh U ρ tm F a w) (h : Gives (eff P o.op o.type tm F0 id) v u) : Out w0 A W U ρ F id cnt v u ((execOp a.eval o).run P w) := by
  rw [ho] at h
  simp only [eff] at h
  split at h
  · rename_i b hx
    obtain ⟨rfl, rfl⟩ := h.c
    exact Out.pure S (x := .bool (!b)) (by simp [execOp, ho, bool_of S hx, Op.unary]) rfl
  · rename_i k n hx
    obtain ⟨rfl, rfl⟩ := h.c
    exact Out.pure S (x := .int k (k.wrap (0 - n))) (by simp [execOp, ho, int_of S hx, Op.unary, Op.intArith]) rfl
  · rename_i k n hx
    obtain ⟨rfl, rfl⟩ := h.c
    exact Out.pure S (x := .int k (xorI k (if k.signed = true then -1 else k.max) n)) (by simp [execOp, ho, int_of S hx, Op.unary, Op.intBits, xorI]) rfl
  · exact h.fail.elim
theorem out_makeFunc {o : Oper} {f : Fn} {fs cs : Array Operand} (ho : o.op = .makeFunc f fs cs) {v : AVal} {u : List (Nat × AObj)} (S : Sim w0 A W nt sh U ρ tm F a w) (h : Gives (eff P o.op o.type tm F0 id) v u) : Out w0 A W U ρ F id cnt v u ((execOp a.eval o).run P w) := by
  rw [ho] at h
  simp only [eff] at h
  split at h
  · rename_i f
    split at h
    rotate_left
    exact h.fail.elim
    rename_i hc
    simp only [Bool.and_eq_true] at hc
    obtain ⟨hfs, hall⟩ := hc
    obtain ⟨rfl, rfl⟩ := h.c
    have hfs : fs = #[] := by simpa [Array.isEmpty_iff] using hfs
    subst hfs
    refine Out.pure S (x := .func (.func f) #[] (cs.map a.eval)) (by simp [execOp, ho, Instr.makeFunc]) ⟨_, rfl, ?_⟩
    rw [Array.toList_map]
    generalize cs.toList = l at hall ⊢
    induction l with
    | nil => trivial
    | cons x r ih =>
      simp only [capL] at hall ⊢
      cases hx : ev tm x <;> simp only [hx] at hall ⊢ <;> try cases hall
      rename_i c
      cases c <;> simp only at hall ⊢ <;> try cases hall
      exact ⟨ptr_of S hx, ih hall⟩
  · exact h.fail.elim
theorem out_fieldAddr {o : Oper} {t : TypeId} {x : Operand} {f : Nat} (ho : o.op = .fieldAddr t x f) {v : AVal} {u : List (Nat × AObj)} (S : Sim w0 A W nt sh U ρ tm F a w) (h : Gives (eff P o.op o.type tm F0 id) v u) : Out w0 A W U ρ F id cnt v u ((execOp a.eval o).run P w) := by
  rw [ho] at h
  simp only [eff] at h
  split at h
  rotate_left
  exact h.fail.elim
  rename_i fs hfs
  obtain ⟨ars, hu, rfl⟩ := fieldsB_parts hfs
  split at h
  rotate_left
  exact h.fail.elim
  rename_i fd hfd
  have hfd : ars[f]? = some fd := by simpa [Array.getElem?_toList] using hfd
  have hxr := ev_rel S x
  have run : ∀ b off, a.eval x = .pointer (some ⟨b, off, none⟩) → nzB P fd.type = true →
      (execOp a.eval o).run P w = .ok (.value (.pointer (some ⟨b, off + fd.offset, none⟩))) w := by
    intro b off hv hm
    unfold nzB at hm
    cases hsz : sizeB P fd.type with
    | none => rw [hsz] at hm; cases hm
    | some m =>
      rw [hsz] at hm
      have hm : m ≠ 0 := by simpa using hm
      simp [execOp, ho, Instr.fieldAt, underlying, hu, hfd, hv, Instr.sureAddr, fieldPlace, run_sizeOf hsz, hm, add_lit]
  split at h
  · rename_i i n hx
    split at h
    rotate_left
    exact h.fail.elim
    rename_i hc
    simp only [Bool.and_eq_true, decide_eq_true_eq] at hc
    obtain ⟨rfl, rfl⟩ := h.c
    rw [hx] at hxr
    obtain ⟨b, off, hv, hp⟩ := hxr
    refine Out.pure S (run b off hv hc.2) ⟨b, off + fd.offset, rfl, fun k hk => ?_⟩
    have := hp (fd.offset + k) (by omega)
    rw [show i + fd.offset + k = i + (fd.offset + k) by omega, show off + fd.offset + k = off + (fd.offset + k) by omega]
    exact this
  · rename_i i j sz off' hx
    split at h
    rotate_left
    exact h.fail.elim
    rename_i hc
    obtain ⟨rfl, rfl⟩ := h.c
    rw [hx] at hxr
    obtain ⟨b, off, len, cap, hρ, hj, hv⟩ := hxr
    refine Out.pure S (run b _ hv hc) ⟨b, off, len, cap, hρ, hj, by congr 3; omega⟩
  · exact h.fail.elim
theorem run_part {t : TypeId} {n : Nat} {ag : Bool} (h : loadB P t = some (n, ag)) (w : World) (cs : Array Value) (off : Nat) {l : List Cell} (hl : LRel ρ l cs.toList) (hn : off + n ≤ l.length) :
    ∃ v, (part t cs off).run P w = .ok v w ∧ VRel ρ (AVal.of ag ((l.drop off).take n)) v := by
  obtain ⟨h1, h2, h3⟩ := loadB_parts h
  have hrel := (hl.drop off).take n
  have hlen := hl.length
  unfold part
  rw [Sem.run_bind, run_isAgg h2 w, Result.andThen_ok]
  cases ag with
  | true =>
    refine ⟨.agg (cs.extract off (off + n)), by simp [run_sizeOf h1], _, rfl, ?_⟩
    rw [Array.toList_extract, List.extract_eq_take_drop, Nat.add_sub_cancel_left]
    exact hrel
  | false =>
    have hn1 := h3 rfl
    subst hn1
    obtain ⟨v, hv⟩ : ∃ v, cs[off]? = some v := ⟨cs[off]'(by simp at hlen; omega), by simp⟩
    refine ⟨v, by simp [hv], ?_⟩
    obtain ⟨c, hc⟩ : ∃ c, l[off]? = some c := ⟨l[off], by simp⟩
    obtain ⟨v', hv', hr⟩ := hl.get off c hc
    rw [Array.getElem?_toList, hv] at hv'
    cases hv'
    have : (l.drop off).take 1 = [c] := by
      rw [List.drop_eq_getElem_cons (by omega)]
      have : l[off] = c := by have := List.getElem?_eq_getElem (l := l) (i := off) (by omega); rw [this] at hc; exact Option.some.inj hc
      simp [this]
    rw [this]
    exact hr
theorem out_field {o : Oper} {t : TypeId} {x : Operand} {f : Nat} (ho : o.op = .field t x f) {v : AVal} {u : List (Nat × AObj)} (S : Sim w0 A W nt sh U ρ tm F a w) (h : Gives (eff P o.op o.type tm F0 id) v u) : Out w0 A W U ρ F id cnt v u ((execOp a.eval o).run P w) := by
  rw [ho] at h
  simp only [eff] at h
  split at h
  rotate_left
  exact h.fail.elim
  rename_i fs cs hfs hx
  obtain ⟨ars, hu, rfl⟩ := fieldsB_parts hfs
  split at h
  rotate_left
  exact h.fail.elim
  rename_i fd hfd
  have hfd : ars[f]? = some fd := by simpa [Array.getElem?_toList] using hfd
  split at h
  rotate_left
  exact h.fail.elim
  rename_i n ag hl
  split at h
  rotate_left
  exact h.fail.elim
  rename_i hn
  obtain ⟨rfl, rfl⟩ := h.val
  have hxr := ev_rel S x
  rw [hx] at hxr
  obtain ⟨vs, hv, hrel⟩ := hxr
  obtain ⟨r, hr, hrr⟩ := run_part hl w vs fd.offset hrel (of_decide_eq_true hn)
  exact Out.pure S (x := r) (by simp [execOp, ho, Instr.field, underlying, hu, hfd, hv, asAgg, hr]) hrr
theorem inB_parts {i : Int} {n : Nat} (h : inB i n = true) : 0 ≤ i ∧ i < (n : Int) ∧ i.toNat < n := by
  simp only [inB, Bool.and_eq_true, decide_eq_true_eq] at h
  omega
theorem out_indexAddr {o : Oper} {t : TypeId} {x i : Operand} (ho : o.op = .indexAddr t x i) {v : AVal} {u : List (Nat × AObj)} (S : Sim w0 A W nt sh U ρ tm F a w) (hs : Sub F0 F) (h : Gives (eff P o.op o.type tm F0 id) v u) : Out w0 A W U ρ F id cnt v u ((execOp a.eval o).run P w) := by
  rw [ho] at h
  simp only [eff] at h
  split at h
  rotate_left
  exact h.fail.elim
  rename_i k j hi
  split at h
  · rename_i e r hu hx
    split at h
    rotate_left
    exact h.fail.elim
    rename_i own s xs n hF hsz
    obtain ⟨hb, rfl, rfl⟩ := h.ck
    obtain ⟨hj0, hj1, hj2⟩ := inB_parts hb
    obtain ⟨p, c, hv, hr, hρ⟩ := row_of S hs hx hF
    obtain ⟨p', c', e', hle, hp⟩ := hr
    cases e'
    cases p with
    | none => obtain ⟨rfl, _⟩ := hp; simp at hj2
    | some ad =>
      obtain ⟨hsp, _⟩ := hp
      obtain ⟨b, off, sp⟩ := ad
      simp only at hsp
      subst hsp
      refine Out.pure S (x := .pointer (some ⟨b, off + j.toNat * n, none⟩)) ?_ ⟨b, off, _, c, hρ, hj2, by simp⟩
      simp [execOp, ho, Instr.indexAt, int_of S hi, asIntOf, underlying, hu, hv, hj0, hj1, run_sizeOf hsz, add_lit]
  · rename_i len e r m hu hx
    split at h
    rotate_left
    exact h.fail.elim
    rename_i n hsz
    split at h
    rotate_left
    exact h.fail.elim
    rename_i hc
    simp only [Bool.and_eq_true, decide_eq_true_eq] at hc
    obtain ⟨⟨hj0, hj1⟩, hm⟩ := hc
    obtain ⟨rfl, rfl⟩ := h.c
    obtain ⟨b, off, hv, hp⟩ := ptr_of S hx
    have hjl : j.toNat + 1 ≤ len := by omega
    have hjm := Nat.mul_le_mul_right n hjl
    rw [Nat.succ_mul] at hjm
    refine Out.pure S (x := .pointer (some ⟨b, off + j.toNat * n, none⟩)) ?_ ⟨b, off + j.toNat * n, rfl, fun q hq => ?_⟩
    · simp [execOp, ho, Instr.indexAt, int_of S hi, asIntOf, underlying, hu, hv, hj0, hj1, run_sizeOf hsz, add_lit, Instr.sureAddr]
    · have := hp (j.toNat * n + q) (by omega)
      rw [show r + j.toNat * n + q = r + (j.toNat * n + q) by omega, show off + j.toNat * n + q = off + (j.toNat * n + q) by omega]
      exact this
  · exact h.fail.elim
theorem out_index {o : Oper} {t : TypeId} {x i : Operand} (ho : o.op = .index t x i) {v : AVal} {u : List (Nat × AObj)} (S : Sim w0 A W nt sh U ρ tm F a w) (h : Gives (eff P o.op o.type tm F0 id) v u) : Out w0 A W U ρ F id cnt v u ((execOp a.eval o).run P w) := by
  rw [ho] at h
  simp only [eff] at h
  split at h
  rotate_left
  exact h.fail.elim
  rename_i s k j hx hi
  split at h
  rotate_left
  exact h.fail.elim
  rename_i hu
  obtain ⟨hb, rfl, rfl⟩ := h.ck
  obtain ⟨hj0, hj1, hj2⟩ := inB_parts hb
  refine Out.pure S (x := .int .u8 (bt s j.toNat)) ?_ rfl
  have hg : s[j.toNat]? = some s[j.toNat] := by simp [hj2]
  have hbt : bt s j.toNat = ((s[j.toNat]).toNat : Int) := by
    unfold bt
    have : s.data.getD j.toNat 0 = s[j.toNat] := by
      rw [Array.getD_eq_getD_getElem?, Array.getElem?_eq_getElem (by exact hj2)]
      rfl
    rw [this]
  simp [execOp, ho, Instr.index, int_of S hi, str_of S hx, asIntOf, underlying, hu, hj0, hg, hbt]
theorem trel_get {ρ : Rho} : ∀ {l : List (Bool × List Cell)} {vs : List Value}, TRel ρ l vs → ∀ (i : Nat) (ag : Bool) (cs : List Cell), l[i]? = some (ag, cs) → ∃ v, vs[i]? = some v ∧ VRel ρ (AVal.of ag cs) v
  | [], [], _, i, _, _, h => by simp at h
  | (b, c) :: r, v :: vs, ⟨p, q⟩, 0, ag, cs, h => by
    simp at h
    obtain ⟨rfl, rfl⟩ := h
    refine ⟨v, rfl, ?_⟩
    cases b
    · obtain ⟨c', rfl, hr⟩ := p; exact hr
    · exact p
  | (b, c) :: r, v :: vs, ⟨p, q⟩, i + 1, ag, cs, h => trel_get q i ag cs (by simpa using h)
theorem out_extract {o : Oper} {x : Operand} {i : Nat} (ho : o.op = .extract x i) {v : AVal} {u : List (Nat × AObj)} (S : Sim w0 A W nt sh U ρ tm F a w) (h : Gives (eff P o.op o.type tm F0 id) v u) : Out w0 A W U ρ F id cnt v u ((execOp a.eval o).run P w) := by
  rw [ho] at h
  simp only [eff] at h
  split at h
  rotate_left
  exact h.fail.elim
  rename_i l hx
  split at h
  rotate_left
  exact h.fail.elim
  rename_i ag cs hl
  obtain ⟨rfl, rfl⟩ := h.val
  have hxr := ev_rel S x
  rw [hx] at hxr
  obtain ⟨vs, hv, hrel⟩ := hxr
  obtain ⟨r, hr, hrr⟩ := trel_get hrel i ag cs hl
  rw [Array.getElem?_toList] at hr
  exact Out.pure S (x := r) (by simp [execOp, ho, hv, Instr.extract, hr]) hrr
end
end Go.Proofs.YtiaagflfiphioaaDoorS
