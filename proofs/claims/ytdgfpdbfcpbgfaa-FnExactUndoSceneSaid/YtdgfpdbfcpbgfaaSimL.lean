/- Conversions, builtins; every operation. -/
import Derived.Test.YtdgfpdbfcpbgfaaSimK
import Derived.Laws.RangeString
namespace Go.Proofs.YtdgfpdbfcpbgfaaS
open Go
set_option linter.unusedVariables false
set_option linter.unusedSimpArgs false

section
variable {P : Program} {w0 : World} {A W : List Nat} {nt : Nat} {sh : Nat → Value} {U : Nat → Prop} {ρ : Rho} {tm : Nat → AVal} {F F0 : Nat → AObj} {a : Act} {w : World} {id cnt : Nat}

theorem bytesRow_take (s : ByteArray) (cap : Nat) : (bytesRow s cap).toList.take ((bytesOf s).length * (Sh.int .u8).sz) = flat (.int .u8) (bytesOf s) := by
  have hl : (Sh.int .u8).sz = 1 := rfl
  rw [flat_bytes, hl, Nat.mul_one, bytesOf_len]
  unfold bytesRow Lib.strCells
  rw [Array.toList_append, List.take_append_of_le_length (by simp), List.take_of_length_le (by simp)]
  simp
theorem bytesRow_size (s : ByteArray) (cap : Nat) (h : s.size ≤ cap) : (bytesRow s cap).size = cap * (Sh.int .u8).sz := by
  have hl : (Sh.int .u8).sz = 1 := rfl
  rw [hl, Nat.mul_one]
  unfold bytesRow
  simp
  omega
theorem foldl_push_ofBytes : ∀ (l : List Int) (r : ByteArray), l.foldl (fun r n => r.push (UInt8.ofNat n.toNat)) r = ⟨r.data ++ (l.map fun n => UInt8.ofNat n.toNat).toArray⟩
  | [], r => by simp
  | b :: l, r => by
    simp only [List.map_cons, List.foldl_cons]
    rw [foldl_push_ofBytes l]
    simp [ByteArray.push]
theorem flat_ints (l : List Int) : flat (.int .u8) l = l.map (Value.int .u8) := by
  induction l with
  | nil => rfl
  | cons b r ih => rw [List.map_cons, ← ih]; rfl
theorem run_bytes_to {w : World} {src dst e : TypeId} (hs : P.underlying src = some (.slice e)) (he : P.underlying e = some (.int .u8)) (hd : P.underlying dst = some .string) {own : Bool} {xs : List Int} {p : Option Addr} {cap : Nat}
    (hr : RowRel own (.int .u8) xs (.slice p xs.length cap) w) : (convert src dst (.slice p xs.length cap)).run P w = .ok (.string (ofBytes xs)) w := by
  have hf := row_first (P := P) hr (w' := w) rfl
  rw [run_convert_bytes_string w src dst e p xs.length cap hs he hd]
  cases p with
  | none =>
    obtain ⟨p', cap', e2, _, hp⟩ := hr
    cases e2
    obtain ⟨rfl, _⟩ := hp
    rfl
  | some ad =>
    have h1 : (loadCells ad xs.length).run P w = .ok (xs.map (Value.int .u8)).toArray w := by
      have hf' : (loadCells ad (xs.length * 1)).run P w = .ok (flat (.int .u8) xs).toArray w := hf
      rw [Nat.mul_one] at hf'
      rw [hf', flat_ints]
    rw [run_bytesToString w ad xs.length cap xs h1, foldl_push_ofBytes]
    simp [ofBytes]
theorem out_convert {o : Oper} {src dst : TypeId} {x : Operand} (ho : o.op = .convert src dst x) {v : AVal} {u : List (Nat × AObj)} (S : Sim w0 A W nt sh U ρ tm F a w) (hs : Sub F0 F) (hid : U id) (h : Gives (eff P o.op o.type tm F0 id) v u) : Out w0 A W U ρ F id 1 v u ((execOp a.eval o).run P w) := by
  have hrun : ∀ {y : Value} {w' : World}, (convert src dst (a.eval x)).run P w = .ok y w' → (execOp a.eval o).run P w = .ok (.value y) w' := fun {y w'} e => by
    simp [execOp, ho, e]
  rw [ho] at h
  simp only [eff] at h
  split at h
  · rename_i k1 k k2 n hsrc hdst hx
    obtain ⟨rfl, rfl⟩ := h.c
    refine Out.pure S (hrun ?_) (rfl : CRel ρ (.int k (k.wrap n)) (.int k (k.wrap n)))
    rw [int_of S hx]
    simp [convert, run_underlying hsrc, run_underlying hdst, Conv.intToInt]
  · rename_i d s hsrc hdst hx
    obtain ⟨rfl, rfl⟩ := h.c
    refine Out.pure S (hrun ?_) (rfl : CRel ρ (.str s) (.string s))
    rw [str_of S hx]
    simp [convert, run_underlying hsrc, run_underlying hdst]
  · rename_i e s hsrc hdst hx
    split at h
    rotate_left
    exact h.fail.elim
    rename_i he
    obtain ⟨rfl, rfl⟩ := h.val
    have hc := run_bytes_of_string w src dst e s hsrc hdst he
    have hg := grownCap_ge w s.size 0 e
    obtain ⟨ρ', g1, g2, g3, g4⟩ := new_row (S.toHR.drew (w.drawn + 1)) hid (.int .u8) (bytesOf s) (grownCap w s.size 0 e) (bytesRow s (grownCap w s.size 0 e)) e ((bytesRow s (grownCap w s.size 0 e)).size, (bytesRow s (grownCap w s.size 0 e)).size + 1)
      (Nat.le_trans (Nat.le_of_eq (bytesOf_len s)) hg) (bytesRow_size s _ hg) (bytesRow_take s _) (fun o ho => by simp only; omega)
    have g4 : CRel ρ' (.slc id) (.slice (some ⟨w.heap.size, 0, none⟩) s.size (grownCap w s.size 0 e)) := by
      have hl := bytesOf_len s
      generalize hgc : grownCap w s.size 0 e = gc at g4 ⊢
      rw [← hl]
      exact g4
    refine ⟨_, ρ', ⟨_, .inl (hrun ?_), g4⟩, g1, g2, g3⟩
    rw [str_of S hx, hc]
    rfl
  · rename_i e i hsrc hdst hx
    split at h
    rotate_left
    exact h.fail.elim
    rename_i own xs he hF
    obtain ⟨rfl, rfl⟩ := h.c
    obtain ⟨p, cap, e1, hr, _⟩ := row_of S hs hx hF
    refine Out.pure S (hrun ?_) (rfl : CRel ρ (.str (ofBytes xs)) (.string (ofBytes xs)))
    rw [e1]
    exact run_bytes_to hsrc he hdst hr
  · exact h.fail.elim
theorem out_len {o : Oper} {c : Call} (ho : o.op = .call c) {b : Builtin} (hb : c.callee = .builtin b) (hna : b ≠ .append) {v : AVal} {u : List (Nat × AObj)} (S : Sim w0 A W nt sh U ρ tm F a w) (hs : Sub F0 F) (h : Gives (eff P o.op o.type tm F0 id) v u) : Out w0 A W U ρ F id cnt v u ((execOp a.eval o).run P w) := by
  rw [ho] at h
  simp only [eff, hb] at h
  unfold effCall at h
  split at h
  · rename_i c1 hargs
    obtain ⟨x, hxx, hx⟩ := args1 hargs
    have hrun : ∀ {y : Value}, (Builtin.len_ c.argTypes o.type #[a.eval x]).run P w = .ok y w → (execOp a.eval o).run P w = .ok (.value y) w := fun {y} e => by
      simp [execOp, ho, resolve, hb, invoke, builtin, hxx, e]
    split at h
    rotate_left
    exact h.fail.elim
    rename_i t h0
    split at h
    · rename_i s ht
      obtain ⟨rfl, rfl⟩ := h.c
      refine Out.pure S (hrun ?_) (rfl : CRel ρ (.int .i64 s.size) (.int .i64 s.size))
      rw [str_of S hx]
      simp [Builtin.len_, h0, run_underlying ht, goInt]
    · rename_i e ht
      obtain ⟨rfl, rfl⟩ := h.c
      refine Out.pure S (hrun ?_) (rfl : CRel ρ (.int .i64 0) (.int .i64 0))
      have hv : a.eval x = .slice none 0 0 := by
        have := ev_rel S x
        rw [hx] at this
        exact this
      rw [hv]
      simp [Builtin.len_, h0, run_underlying ht, goInt]
    · rename_i e i ht
      split at h
      rotate_left
      exact h.fail.elim
      rename_i own s xs hF
      obtain ⟨rfl, rfl⟩ := h.c
      obtain ⟨p, cap, e1, hr, _⟩ := row_of S hs hx hF
      refine Out.pure S (hrun ?_) (rfl : CRel ρ (.int .i64 xs.length) (.int .i64 xs.length))
      rw [e1]
      simp [Builtin.len_, h0, run_underlying ht, goInt]
    · exact h.fail.elim
  · exact absurd rfl hna
  · rename_i k x1 k' y1 hargs
    obtain ⟨x, y, hxx, hx, hy⟩ := args2 hargs
    split at h
    rotate_left
    exact h.fail.elim
    rename_i hk
    subst hk
    obtain ⟨rfl, rfl⟩ := h.c
    refine Out.pure S (x := .int k (if y1 < x1 then y1 else x1)) ?_ rfl
    simp [execOp, ho, resolve, hb, invoke, builtin, hxx, Builtin.min_, Builtin.min2, int_of S hx, int_of S hy]
  · rename_i k x1 k' y1 hargs
    obtain ⟨x, y, hxx, hx, hy⟩ := args2 hargs
    split at h
    rotate_left
    exact h.fail.elim
    rename_i hk
    subst hk
    obtain ⟨rfl, rfl⟩ := h.c
    refine Out.pure S (x := .int k (if y1 > x1 then y1 else x1)) ?_ rfl
    simp [execOp, ho, resolve, hb, invoke, builtin, hxx, Builtin.max_, Builtin.max2, int_of S hx, int_of S hy]
  · exact h.fail.elim
theorem iterOf_eq {o : AObj} {d : ByteArray × Nat} (h : iterOf o = some d) : o = .blob true .iter d := by
  cases o with
  | blob own t d' =>
    cases own with
    | false => cases h
    | true =>
      obtain ⟨rfl, hc⟩ := castBlob_eq (show castBlob .iter t d' = some d from h)
      cases hc
      rfl
  | _ => cases h
theorem run_next_at {w : World} {r : Nat} {s : ByteArray} {pos : Nat} (ty : TypeId) (h : w.heap[r]? = some (.stringIter s pos)) (hp : pos < s.size) :
    (Instr.next (.pointer (some ⟨r, 0, none⟩)) true ty).run P w = .ok (.tuple #[.bool true, .int .i64 pos, .int .i32 (Utf8.decode s pos).1]) { w with heap := w.heap.setIfInBounds r (.stringIter s (pos + (Utf8.decode s pos).2)) } := by
  simp only [Instr.next, getObj, setObj, Sem.run_bind, Sem.run, h, Result.andThen, hp, if_true]
  simp [goInt, Sem.run, h]
theorem run_next_over {w : World} {r : Nat} {s : ByteArray} {pos : Nat} (ty : TypeId) (h : w.heap[r]? = some (.stringIter s pos)) (hp : ¬ pos < s.size) :
    (Instr.next (.pointer (some ⟨r, 0, none⟩)) true ty).run P w = .ok (.tuple #[.bool false]) w := by
  simp [Instr.next, getObj, Sem.run, h, hp]
theorem out_range {o : Oper} {t : TypeId} {x : Operand} (ho : o.op = .range t x) {v : AVal} {u : List (Nat × AObj)} (S : Sim w0 A W nt sh U ρ tm F a w) (hid : U id) (h : Gives (eff P o.op o.type tm F0 id) v u) : Out w0 A W U ρ F id 1 v u ((execOp a.eval o).run P w) := by
  rw [ho] at h
  simp only [eff] at h
  split at h
  rotate_left
  exact h.fail.elim
  rename_i s hu hx
  obtain ⟨rfl, rfl⟩ := h.val
  have hrun : (execOp a.eval o).run P w = .ok (.value (.pointer (some ⟨w.heap.size, 0, none⟩))) (w.alloc (.stringIter s 0)) := by
    have := run_range_string (P := P) w t s hu
    simp [execOp, ho, str_of S hx, this, World.iter]
  obtain ⟨ρ', h1, h2, h3, h4⟩ := S.toHR.newBlob (w' := w.alloc (.stringIter s 0)) id true .iter (s, 0) (.pointer (some ⟨w.heap.size, 0, none⟩)) w.heap.size hid (World.grownBy_alloc w _ _) (.inl S.fr.size) (.inl S.fr.size)
    (fun j hj e => by have := S.toHR.blt hj e; omega) (fun b' hb => by simp [blk] at hb; omega) ⟨_, _, rfl, heap_alloc_new w _, rfl⟩
  exact ⟨_, ρ', ⟨_, .inl hrun, h4⟩, h1, fun i hi => h2 i (by omega), h3.weak fun i hi => ⟨hi.1, by omega⟩⟩
theorem out_next {o : Oper} {x : Operand} {str : Bool} {cnt : Nat} (ho : o.op = .next x str) {v : AVal} {u : List (Nat × AObj)} (S : Sim w0 A W nt sh U ρ tm F a w) (hs : Sub F0 F) (h : Gives (eff P o.op o.type tm F0 id) v u) : Out w0 A W U ρ F id cnt v u ((execOp a.eval o).run P w) := by
  rw [ho] at h
  simp only [eff] at h
  split at h
  rotate_left
  exact h.fail.elim
  rename_i i hx
  split at h
  rotate_left
  exact h.fail.elim
  rename_i d hF
  obtain ⟨s, pos⟩ := d
  have hF' := hs.blob (iterOf_eq hF)
  have hxr := ev_rel S x
  rw [hx] at hxr
  obtain ⟨hρ, _⟩ := hxr
  have hobj := S.obj i
  rw [hF'] at hobj
  obtain ⟨hd, q1, r, ob, rfl, hh, hob⟩ := hobj
  have hob : ob = .stringIter s pos := hob
  subst hob
  rw [hρ] at q1
  have hv : a.eval x = .pointer (some ⟨r, 0, none⟩) := Option.some.inj q1
  rw [hv] at hρ
  have hrun : ∀ {y : Value} {w' : World}, (Instr.next (.pointer (some ⟨r, 0, none⟩)) true o.type).run P w = .ok y w' → (execOp a.eval o).run P w = .ok (.value y) w' := fun {y w'} e => by
    simp [execOp, ho, hv, e]
  have hlt := (Array.getElem?_eq_some_iff.1 hh).1
  rcases h with h | ⟨_, h, _⟩ | ⟨b, v1, u1, v2, u2, h, hb⟩
  · cases h
  · cases h
  · cases h
    rcases hb with ⟨hb, rfl, rfl⟩ | ⟨hb, rfl, rfl⟩
    · have hp : pos < s.size := of_decide_eq_true hb
      have hset : ∀ j, j ≠ r → (w.heap.setIfInBounds r (.stringIter s (pos + (Utf8.decode s pos).2)))[j]? = w.heap[j]? := fun j hj => by
        simp [Array.getElem?_setIfInBounds, Ne.symm hj]
      have hg : w.grownBy { w with heap := w.heap.setIfInBounds r (.stringIter s (pos + (Utf8.decode s pos).2)) } (some r) := ⟨rfl, rfl, rfl, by simp, fun j hj hne => hset j (fun e => hne (by rw [e]))⟩
      refine ⟨_, ρ, ⟨_, .inl (hrun (run_next_at o.type hh hp)), ?_⟩, ext.refl ρ, fun _ _ => rfl, ?_⟩
      · exact ⟨_, rfl, ⟨_, rfl, rfl⟩, ⟨_, rfl, rfl⟩, ⟨_, rfl, rfl⟩, trivial⟩
      · refine (S.toHR.turn (row := some r) (fun q => ?_) hg (fun k e => by cases e; exact S.locw i r (by rw [hF']; rfl) (by rw [hρ]; rfl)) (fun q hlive hq => ?_)).weak fun _ h => h.1
        · simp only [upd]
          by_cases hq : i = q
          · subst hq; rw [if_pos rfl, hF']; exact .inr (.inr (.inr ⟨true, .iter, _, true, .iter, _, rfl, rfl, fun e => e⟩))
          · rw [if_neg hq]; exact MetaOk.refl _
        · simp only [upd] at hlive hq ⊢
          by_cases hqi : i = q
          · subst hqi
            rw [if_pos rfl]
            refine ⟨_, hρ, r, _, rfl, ?_, rfl⟩
            simp [hlt, runeEnd]
          · rw [if_neg hqi] at hlive ⊢
            rcases hq with ⟨b', e, hbb⟩ | hne
            · cases e
              obtain ⟨ki, kj, n', ci, cj, e1, e2, _⟩ := S.sep i q hqi (by rw [hF']; rfl) hlive r (by rw [hρ]; rfl) hbb
              rw [hF'] at e1
              cases e1
            · rw [if_neg hqi] at hne
              exact absurd rfl hne
    · have hp : ¬ pos < s.size := of_decide_eq_false hb
      exact Out.pure S (hrun (run_next_over o.type hh hp)) ⟨_, rfl, ⟨_, rfl, rfl⟩, trivial⟩
/-- Every operation. -/
theorem eff_sound {o : Oper} {v : AVal} {u : List (Nat × AObj)} (S : Sim w0 A W nt sh U ρ tm F a w) (hs : Sub F0 F) (hid : ∀ i, id ≤ i → i < id + cntO P o.op → U i) (h : Gives (eff P o.op o.type tm F0 id) v u) : Out w0 A W U ρ F id (cntO P o.op) v u ((execOp a.eval o).run P w) := by
  cases ho : o.op
  case move x => exact out_move (.inl ho) S (by rw [ho] at h; exact h)
  case assign x => exact out_move (.inr ho) S (by rw [ho] at h; exact h)
  case pick => exact out_pick ho S h
  case alloc => rw [← ho]; exact out_alloc ho S hid h
  case box => rw [← ho]; exact out_box ho S hid h
  case build => exact out_build ho S h
  case buildSlice => exact out_buildSlice ho S (hid _ (Nat.le_refl _) (by rw [ho]; simp [cntO])) h
  case load => exact out_load ho S hs h
  case store => exact out_store ho S hs h
  case nilCheck => exact out_nilCheck ho S h
  case binOp => exact out_binOp ho S h
  case unOp => exact out_unOp ho S h
  case convert => exact out_convert ho S hs (hid _ (Nat.le_refl _) (by rw [ho]; simp [cntO])) h
  case makeFunc => exact out_makeFunc ho S h
  case makeSlice => exact out_makeSlice ho S (hid _ (Nat.le_refl _) (by rw [ho]; simp [cntO])) h
  case slice => exact out_slice ho S hs (hid _ (Nat.le_refl _) (by rw [ho]; simp [cntO])) h
  case fieldAddr => exact out_fieldAddr ho S h
  case field => exact out_field ho S h
  case indexAddr => exact out_indexAddr ho S hs h
  case index => exact out_index ho S h
  case extract => exact out_extract ho S h
  case range => exact out_range ho S (hid _ (Nat.le_refl _) (by rw [ho]; simp [cntO])) h
  case next => exact out_next ho S hs h
  case call c =>
    cases hb : c.callee
    case builtin b =>
      by_cases hna : b = .append
      · subst hna
        have hc : cntO P (.call c) = 1 := by simp [cntO, hb]
        rw [hc]
        exact out_append ho hb S hs (hid _ (Nat.le_refl _) (by rw [ho, hc]; omega)) h
      · exact out_len ho hb hna S hs h
    all_goals (rw [ho] at h; simp only [eff, hb] at h; exact h.fail.elim)
  all_goals (rw [ho] at h; exact (Gives.fail h).elim)
end
end Go.Proofs.YtdgfpdbfcpbgfaaS
