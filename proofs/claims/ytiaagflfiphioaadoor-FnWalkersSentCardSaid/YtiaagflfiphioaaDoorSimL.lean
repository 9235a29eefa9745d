/- Conversions, builtins; every operation. -/
import Derived.Test.YtiaagflfiphioaaDoorSimMp
import Derived.Laws.RangeString
namespace Go.Proofs.YtiaagflfiphioaaDoorS
open Go
set_option linter.unusedVariables false
set_option linter.unusedSimpArgs false

section
variable {P : Program} {w0 : World} {A : List Nat} {W : WL} {nt : Nat} {sh : Nat → Value} {U : Nat → Prop} {ρ : Rho} {tm : Nat → AVal} {F F0 : Nat → AObj} {a : Act} {w : World} {id cnt : Nat}

theorem upd_plain {F : Nat → AObj} {i : Nat} {x : AObj} (hx : x.plain = true) (j : Nat) (hne : upd F [(i, x)] j ≠ F j) : (upd F [(i, x)] j).plain = true := by
  have e : upd F [(i, x)] j = if i = j then x else F j := rfl
  rw [e] at hne ⊢
  by_cases hj : i = j
  · rw [if_pos hj]; exact hx
  · rw [if_neg hj] at hne; exact absurd rfl hne
theorem bytesRow_take (s : ByteArray) (cap : Nat) : (bytesRow s cap).toList.take ((bytesOf s).length * (Sh.int .u8).sz) = flat (.int .u8) (bytesOf s) := by
  have hl : (Sh.int .u8).sz = 1 := rfl
  rw [flat_bytes, hl, Nat.mul_one, bytesOf_len]
  unfold bytesRow Lib.strCells
  rw [Array.toList_append, List.take_append_of_le_length (by simp), List.take_of_length_le (by simp)]
  simp
theorem bytesRow_size (s : ByteArray) (cap : Nat) (h : s.size ≤ cap) : (bytesRow s cap).size = cap * (Sh.int .u8).sz := by
  have hl : (Sh.int .u8).sz = 1 := rfl
  rw [hl, Nat.mul_one]
  unfold bytesRow
  simp
  omega
theorem foldl_push_ofBytes : ∀ (l : List Int) (r : ByteArray), l.foldl (fun r n => r.push (UInt8.ofNat n.toNat)) r = ⟨r.data ++ (l.map fun n => UInt8.ofNat n.toNat).toArray⟩
  | [], r => by simp
  | b :: l, r => by
    simp only [List.map_cons, List.foldl_cons]
    rw [foldl_push_ofBytes l]
    simp [ByteArray.push]
theorem flat_ints (l : List Int) : flat (.int .u8) l = l.map (Value.int .u8) := by
  induction l with
  | nil => rfl
  | cons b r ih => rw [List.map_cons, ← ih]; rfl
theorem run_bytes_to {w : World} {src dst e : TypeId} (hs : P.underlying src = some (.slice e)) (he : P.underlying e = some (.int .u8)) (hd : P.underlying dst = some .string) {own : Bool} {xs : List Int} {p : Option Addr} {cap : Nat}
    (hr : RowRel own (.int .u8) xs (.slice p xs.length cap) w) : (convert src dst (.slice p xs.length cap)).run P w = .ok (.string (ofBytes xs)) w := by
  have hf := row_first (P := P) hr (w' := w) rfl
  rw [run_convert_bytes_string w src dst e p xs.length cap hs he hd]
  cases p with
  | none =>
    obtain ⟨p', cap', e2, _, hp⟩ := hr
    cases e2
    obtain ⟨rfl, _⟩ := hp
    rfl
  | some ad =>
    have h1 : (loadCells ad xs.length).run P w = .ok (xs.map (Value.int .u8)).toArray w := by
      have hf' : (loadCells ad (xs.length * 1)).run P w = .ok (flat (.int .u8) xs).toArray w := hf
      rw [Nat.mul_one] at hf'
      rw [hf', flat_ints]
    rw [run_bytesToString w ad xs.length cap xs h1, foldl_push_ofBytes]
    simp [ofBytes]
theorem out_convert {o : Oper} {src dst : TypeId} {x : Operand} (ho : o.op = .convert src dst x) {v : AVal} {u : List (Nat × AObj)} (S : Sim w0 A W nt sh U ρ tm F a w) (hs : Sub F0 F) (hid : U id) (h : Gives (eff P o.op o.type tm F0 id) v u) : Out w0 A W U ρ F id 1 v u ((execOp a.eval o).run P w) := by
  have hrun : ∀ {y : Value} {w' : World}, (convert src dst (a.eval x)).run P w = .ok y w' → (execOp a.eval o).run P w = .ok (.value y) w' := fun {y w'} e => by
    simp [execOp, ho, e]
  rw [ho] at h
  simp only [eff] at h
  split at h
  · rename_i k1 k k2 n hsrc hdst hx
    obtain ⟨rfl, rfl⟩ := h.c
    refine Out.pure S (hrun ?_) (rfl : CRel ρ (.int k (k.wrap n)) (.int k (k.wrap n)))
    rw [int_of S hx]
    simp [convert, run_underlying hsrc, run_underlying hdst, Conv.intToInt]
  · rename_i d s hsrc hdst hx
    obtain ⟨rfl, rfl⟩ := h.c
    refine Out.pure S (hrun ?_) (rfl : CRel ρ (.str s) (.string s))
    rw [str_of S hx]
    simp [convert, run_underlying hsrc, run_underlying hdst]
  · rename_i e s hsrc hdst hx
    split at h
    rotate_left
    exact h.fail.elim
    rename_i he
    obtain ⟨rfl, rfl⟩ := h.val
    have hc := run_bytes_of_string w src dst e s hsrc hdst he
    have hg := grownCap_ge w s.size 0 e
    obtain ⟨ρ', g1, g2, g3, g4⟩ := new_row (S.toHR.drew (w.drawn + 1)) hid (.int .u8) (bytesOf s) (grownCap w s.size 0 e) (bytesRow s (grownCap w s.size 0 e)) e ((bytesRow s (grownCap w s.size 0 e)).size, (bytesRow s (grownCap w s.size 0 e)).size + 1)
      (Nat.le_trans (Nat.le_of_eq (bytesOf_len s)) hg) (bytesRow_size s _ hg) (bytesRow_take s _) (fun o ho => by simp only; omega)
    have g4 : CRel ρ' (.slc id) (.slice (some ⟨w.heap.size, 0, none⟩) s.size (grownCap w s.size 0 e)) := by
      have hl := bytesOf_len s
      generalize hgc : grownCap w s.size 0 e = gc at g4 ⊢
      rw [← hl]
      exact g4
    refine ⟨_, ρ', ⟨_, .inl (hrun ?_), g4⟩, g1, g2, g3⟩
    rw [str_of S hx, hc]
    rfl
  · rename_i e i hsrc hdst hx
    split at h
    rotate_left
    exact h.fail.elim
    rename_i own xs he hF
    obtain ⟨rfl, rfl⟩ := h.c
    obtain ⟨p, cap, e1, hr, _⟩ := row_of S hs hx hF
    refine Out.pure S (hrun ?_) (rfl : CRel ρ (.str (ofBytes xs)) (.string (ofBytes xs)))
    rw [e1]
    exact run_bytes_to hsrc he hdst hr
  · exact h.fail.elim
theorem out_len {o : Oper} {c : Call} (ho : o.op = .call c) {b : Builtin} (hb : c.callee = .builtin b) (hna : b ≠ .append) {v : AVal} {u : List (Nat × AObj)} (S : Sim w0 A W nt sh U ρ tm F a w) (hs : Sub F0 F) (h : Gives (eff P o.op o.type tm F0 id) v u) : Out w0 A W U ρ F id cnt v u ((execOp a.eval o).run P w) := by
  rw [ho] at h
  simp only [eff, hb] at h
  unfold effCall at h
  split at h
  · rename_i c1 hargs
    obtain ⟨x, hxx, hx⟩ := args1 hargs
    have hrun : ∀ {y : Value}, (Builtin.len_ c.argTypes o.type #[a.eval x]).run P w = .ok y w → (execOp a.eval o).run P w = .ok (.value y) w := fun {y} e => by
      simp [execOp, ho, resolve, hb, invoke, builtin, hxx, e]
    split at h
    rotate_left
    exact h.fail.elim
    rename_i t h0
    split at h
    · rename_i s ht
      obtain ⟨rfl, rfl⟩ := h.c
      refine Out.pure S (hrun ?_) (rfl : CRel ρ (.int .i64 s.size) (.int .i64 s.size))
      rw [str_of S hx]
      simp [Builtin.len_, h0, run_underlying ht, goInt]
    · rename_i e ht
      obtain ⟨rfl, rfl⟩ := h.c
      refine Out.pure S (hrun ?_) (rfl : CRel ρ (.int .i64 0) (.int .i64 0))
      have hv : a.eval x = .slice none 0 0 := by
        have := ev_rel S x
        rw [hx] at this
        exact this
      rw [hv]
      simp [Builtin.len_, h0, run_underlying ht, goInt]
    · rename_i e i ht
      split at h
      rotate_left
      exact h.fail.elim
      rename_i own s xs hF
      obtain ⟨rfl, rfl⟩ := h.c
      obtain ⟨p, cap, e1, hr, _⟩ := row_of S hs hx hF
      refine Out.pure S (hrun ?_) (rfl : CRel ρ (.int .i64 xs.length) (.int .i64 xs.length))
      rw [e1]
      simp [Builtin.len_, h0, run_underlying ht, goInt]
    · rename_i kt et i ht
      split at h
      rotate_left
      exact h.fail.elim
      rename_i k vs z hm
      split at h
      rotate_left
      exact h.fail.elim
      rename_i d hF
      obtain ⟨rfl, rfl⟩ := h.c
      obtain ⟨own, hF⟩ := mapR_eq hF
      obtain ⟨r, es, clock, hv, hρ, hh, he, _⟩ := map_of S hs hx hF
      have hsz : es.size = d.length := by have := Ents.size he; rwa [Array.length_toList] at this
      have hg : (getObj r).run P w = .ok (.map es clock) w := by simp [getObj, Sem.run, hh]
      refine Out.pure S (hrun ?_) (rfl : CRel ρ (.int .i64 d.length) (.int .i64 d.length))
      rw [hv]
      simp [Builtin.len_, h0, run_underlying ht, goInt, hg, hsz]
    · exact h.fail.elim
  · exact absurd rfl hna
  · rename_i i lo n sz hargs
    obtain ⟨x, hxx, hx⟩ := args1 hargs
    split at h
    rotate_left
    exact h.fail.elim
    rename_i t h0
    split at h
    rotate_left
    exact h.fail.elim
    rename_i e ht
    split at h
    rotate_left
    exact h.fail.elim
    rename_i z own s xs hz hF
    split at h
    rotate_left
    exact h.fail.elim
    rename_i hq
    simp only [Bool.and_eq_true, beq_iff_eq] at hq
    obtain ⟨⟨rfl, hs1⟩, rfl⟩ := hq
    split at h
    rotate_left
    exact h.fail.elim
    rename_i y hy
    obtain ⟨rfl, rfl⟩ := h.val
    obtain ⟨ti, zv, hi, hzv, hvs⟩ := zeroB_parts hz
    have hzc : zv.cells.toList = s.vals y := of_vals (ρ := ρ) hy (ofVals_rel hvs)
    have hF' := hs.row hF
    have hobj := S.obj i
    rw [hF'] at hobj
    obtain ⟨hd, q1, p, cap, e', hle, hp⟩ := hobj
    have hxr := ev_rel S x
    rw [hx] at hxr
    obtain ⟨p', len, cap', hρ, hln, hxv⟩ := hxr
    rw [hρ] at q1
    obtain rfl := Option.some.inj q1
    cases e'
    have run : ∀ {w' : World}, (Builtin.clear_ c.argTypes o.type #[a.eval x]).run P w = .ok (.tuple #[]) w' → (execOp a.eval o).run P w = .ok (.value (.tuple #[])) w' := fun {w'} e => by
      simp [execOp, ho, resolve, hb, invoke, builtin, hxx, e]
    have hu : ∀ j, upd F [(i, AObj.row true s (xs.take lo ++ List.replicate n y ++ xs.drop (lo + n)))] j = if i = j then .row true s (xs.take lo ++ List.replicate n y ++ xs.drop (lo + n)) else F j := fun j => rfl
    have same : n = 0 → xs.take lo ++ List.replicate n y ++ xs.drop (lo + n) = xs := fun e => by rw [e]; simp
    have stay : n = 0 → (Builtin.clear_ c.argTypes o.type #[a.eval x]).run P w = .ok (.tuple #[]) w → Out w0 A W U ρ F id cnt (.c .unk) [(i, AObj.row true s (xs.take lo ++ List.replicate n y ++ xs.drop (lo + n)))] ((execOp a.eval o).run P w) := fun e er => by
      refine ⟨w, ρ, ⟨_, .inl (run er), trivial⟩, ext.refl ρ, fun _ _ => rfl, (S.toHR.less (fun j => ?_) (fun j hl hne => ?_) (upd_plain rfl)).weak fun _ h => h.1⟩
      · rw [hu, same e]
        by_cases hj : i = j
        · subst hj; rw [if_pos rfl, hF']; exact MetaOk.refl _
        · rw [if_neg hj]; exact MetaOk.refl _
      · rw [hu, same e] at hne
        by_cases hj : i = j
        · subst hj; rw [if_pos rfl, hF'] at hne; exact absurd rfl hne
        · rw [if_neg hj] at hne; exact absurd rfl hne
    by_cases hn0 : n = 0
    · refine stay hn0 ?_
      rw [hxv, hn0]
      cases p with
      | none => simp [Builtin.clear_, h0, run_underlying ht]
      | some ad => split <;> simp [Builtin.clear_, h0, run_underlying ht]
    · cases p with
      | none =>
        obtain ⟨hxs, _⟩ := hp
        rw [hxs] at hln
        simp at hln
        omega
      | some ad =>
        obtain ⟨hsp, cs, el, fz, hheap, hcs, hown⟩ := hp
        obtain ⟨b, off, sp⟩ := ad
        simp only at hsp hheap hcs
        subst hsp
        obtain ⟨hz0, hcsz, hfz⟩ := hown rfl
        have hz0 : off = 0 := hz0
        subst hz0
        rw [hs1, Nat.mul_one] at hcsz hcs
        have hne : ¬ cap = lo := by omega
        rw [if_neg hne] at hxv
        have hxv : a.eval x = .slice (some ⟨b, lo, none⟩) n (cap - lo) := by
          rw [hxv]
          simp [add_lit]
        have hlen1 : (s.vals y).length = 1 := by rw [Sh.vals_len]; exact hs1
        obtain ⟨u, hu1⟩ := List.length_eq_one_iff.1 hlen1
        have hzc1 : zv.cells = #[u] := by
          apply Array.ext'
          rw [hzc, hu1]
        have hone : ∀ v ∈ List.replicate n u, v.oneCell' = true := fun v hv => by
          rw [List.eq_of_mem_replicate hv]
          exact Sh.one s y u (by rw [hu1]; simp)
        have hle2 : lo + (List.replicate n u).length ≤ cs.size := by rw [List.length_replicate]; omega
        have hst := run_stores (P := P) hheap (o := lo) (List.replicate n u) hle2 (fun q hq => hfz _ (by rw [List.length_replicate] at hq; omega)) hone
        have hh' := setCells_heap b _ lo w cs el fz hheap hle2
        have hzcl : (Builtin.zeroCells zv.cells n).toList = List.replicate n u := by
          rw [hzc1]
          simp [Builtin.zeroCells]
          apply List.ext_getElem
          · simp
          · intro i h1 h2
            simp [Nat.mod_one]
        have er : (Builtin.clear_ c.argTypes o.type #[a.eval x]).run P w = .ok (.tuple #[]) (w.setCells b lo (List.replicate n u)) := by
          rw [hxv]
          obtain ⟨m, rfl⟩ : ∃ m, n = m + 1 := ⟨n - 1, by omega⟩
          simp [Builtin.clear_, h0, run_underlying ht, run_zero hi hzv, hzcl, hst]
        refine ⟨_, ρ, ⟨_, .inl (run er), trivial⟩, ext.refl ρ, fun _ _ => rfl, ?_⟩
        refine (S.toHR.turn (row := some b) (fun q => ?_) (setCells_grown b _ _ w) (fun k e => by cases e; exact S.locw i b (by rw [hF']; rfl) (by rw [hρ]; rfl)) (fun q hlive hq => ?_) (upd_plain rfl) (fun b e => by cases e; exact ⟨i, by rw [hF']; rfl, by rw [hF']; rfl, by rw [hρ]; rfl⟩)).weak fun _ h => h.1
        · rw [hu]
          by_cases hq : i = q
          · subst hq; rw [if_pos rfl, hF']; exact .inr (.inr (.inl ⟨true, s, xs, true, s, _, rfl, rfl, fun e => e⟩))
          · rw [if_neg hq]; exact MetaOk.refl _
        · rw [hu] at hlive hq ⊢
          by_cases hqi : i = q
          · subst hqi
            rw [if_pos rfl]
            have hL : (xs.take lo ++ List.replicate n y ++ xs.drop (lo + n)).length = xs.length := by simp; omega
            refine ⟨_, hρ, some ⟨b, 0, none⟩, cap, by rw [hL], by rw [hL]; exact hle, rfl, _, el, fz, hh', ?_, fun _ => ⟨rfl, ?_, ?_⟩⟩
            · rw [hL, hs1, Nat.mul_one, List.drop_zero]
              have hfr : flat s (List.replicate n y) = List.replicate n u := by
                unfold flat
                rw [List.flatMap_replicate, hu1]
                simp
              rw [flat_append, flat_append, hfr, flat_take, flat_drop, hs1, Nat.mul_one, Nat.mul_one, ← hcs]
              simp only [List.drop_zero]
              have hll : xs.length ≤ cs.toList.length := by have e : cs.toList.length = cs.size := Array.length_toList; omega
              have := list_store cs.toList (List.replicate n u) lo n 0 xs.length (by rw [List.length_replicate]; omega) hln hll
              rw [Nat.add_zero, List.length_replicate] at this
              rw [List.length_replicate, this]
              have e2 : (((cs.toList.take xs.length).drop lo).take n).drop (0 + n) = [] := List.drop_eq_nil_of_le (by rw [List.length_take]; omega)
              rw [e2]
              simp
            · rw [hs1, Nat.mul_one, ← hcsz]
              simp only [List.size_toArray, List.length_append, List.length_take, List.length_drop, List.length_replicate, Array.length_toList]
              rw [List.length_replicate] at hle2
              omega
            · intro q hq
              have : q < cs.size := by
                simp only [List.size_toArray, List.length_append, List.length_take, List.length_drop, List.length_replicate, Array.length_toList] at hq
                rw [List.length_replicate] at hle2
                omega
              exact hfz q this
          · rw [if_neg hqi] at hlive ⊢
            rcases hq with ⟨b', e, hbb⟩ | hne2
            · cases e
              obtain ⟨ki, kj, n', ci, cj, e1, e2, _⟩ := S.sep i q hqi (by rw [hF']; rfl) hlive b (by rw [hρ]; rfl) hbb
              rw [hF'] at e1
              cases e1
            · rw [if_neg hqi] at hne2
              exact absurd rfl hne2
  · rename_i i x1 hargs
    obtain ⟨x, y, hxx, hx, hy⟩ := args2 hargs
    split at h
    rotate_left
    exact h.fail.elim
    rename_i t h0
    split at h
    rotate_left
    exact h.fail.elim
    rename_i k vs z hm
    split at h
    rotate_left
    exact h.fail.elim
    rename_i d key hF hkey
    obtain ⟨rfl, rfl⟩ := h.val
    rw [← hy] at hkey
    exact out_delete ho hb h0 hxx hx hm hF hkey S hs
  · rename_i k x1 k' y1 hargs
    obtain ⟨x, y, hxx, hx, hy⟩ := args2 hargs
    split at h
    rotate_left
    exact h.fail.elim
    rename_i hk
    subst hk
    obtain ⟨rfl, rfl⟩ := h.c
    refine Out.pure S (x := .int k (if y1 < x1 then y1 else x1)) ?_ rfl
    simp [execOp, ho, resolve, hb, invoke, builtin, hxx, Builtin.min_, Builtin.min2, int_of S hx, int_of S hy]
  · rename_i k x1 k' y1 hargs
    obtain ⟨x, y, hxx, hx, hy⟩ := args2 hargs
    split at h
    rotate_left
    exact h.fail.elim
    rename_i hk
    subst hk
    obtain ⟨rfl, rfl⟩ := h.c
    refine Out.pure S (x := .int k (if y1 > x1 then y1 else x1)) ?_ rfl
    simp [execOp, ho, resolve, hb, invoke, builtin, hxx, Builtin.max_, Builtin.max2, int_of S hx, int_of S hy]
  · exact h.fail.elim
/-- Looks at an owned row; its head. -/
theorem effS_sound {m : Nat} {o : Oper} {v : AVal} {u : List (Nat × AObj)} (S : Sim w0 A W nt sh U ρ tm F a w) (hs : Sub F0 F) (hid : ∀ i, id ≤ i → i < id + cntO P o.op → U i) (h : Gives (effS P m o.op tm F0 id) v u) : Out w0 A W U ρ F id (cntO P o.op) v u ((execOp a.eval o).run P w) := by
  unfold effS at h
  split at h
  rotate_left
  exact h.fail.elim
  rename_i t x lo hi ho
  split at h
  rotate_left
  exact h.fail.elim
  rename_i e i hu hx
  split at h
  rotate_left
  exact h.fail.elim
  rename_i own s xs hF
  split at h
  rotate_left
  exact h.fail.elim
  rename_i hc
  simp only [Bool.and_eq_true, beq_iff_eq] at hc
  obtain ⟨rfl, hsz⟩ := hc
  split at h
  rotate_left
  exact h.fail.elim
  rename_i b l r eb
  have hid := hid id (Nat.le_refl _) (by rw [ho]; simp [cntO])
  have hcn : cntO P o.op = 1 := by rw [ho]; simp [cntO]
  rw [hcn]
  obtain ⟨p, c, hv, hrow, hρ⟩ := row_of S hs hx hF
  have hlc : xs.length ≤ c := by obtain ⟨_, _, e', hle, _⟩ := hrow; cases e'; exact hle
  split at h
  · obtain ⟨hb, rfl, rfl⟩ := h.chk
    obtain ⟨hr, hlr, hrl⟩ := run_bounds (P := P) S true xs.length c hlc (fun e => by cases e) lo hi eb hb
    have hrun : (execOp a.eval o).run P w = .ok (.value (sliced p l r c s.sz)) w := by
      simp [execOp, ho, Instr.sliceAt, Instr.slice, underlying, hu, hv, hr, run_sizeOf hsz, sliced]
    exact Out.pure S hrun ⟨p, xs.length, c, hρ, by omega, rfl⟩
  · split at h
    rotate_left
    exact h.fail.elim
    rename_i hl0
    have hl0 : l = 0 := by simpa using hl0
    subst hl0
    obtain ⟨hb, rfl, rfl⟩ := h.chk
    obtain ⟨hr, hlr, hrl⟩ := run_bounds (P := P) S true xs.length c hlc (fun e => by cases e) lo hi eb hb
    have hrun : (execOp a.eval o).run P w = .ok (.value (sliced p 0 r c s.sz)) w := by
      simp [execOp, ho, Instr.sliceAt, Instr.slice, underlying, hu, hv, hr, run_sizeOf hsz, sliced]
    have hF' := hs.row hF
    have hown : (F i).own = true := by rw [hF']; rfl
    have hview : RowRel true s (xs.take r) (sliced p 0 r c s.sz) w ∧ (∀ b, blk (some (sliced p 0 r c s.sz)) = some b → blk (some (.slice p xs.length c)) = some b) := by
      obtain ⟨p', cap', e', hle, hp⟩ := hrow
      cases e'
      have hlen : (xs.take r).length = r := by rw [List.length_take]; omega
      unfold sliced
      constructor
      · refine ⟨_, c, by rw [hlen]; rfl, by rw [hlen]; omega, ?_⟩
        cases p with
        | none =>
          obtain ⟨rfl, rfl⟩ := hp
          simp
        | some ad =>
          obtain ⟨hsp, cs, el, fz, hh, hc, hw⟩ := hp
          obtain ⟨b, off, sp⟩ := ad
          simp only at hsp
          subst hsp
          obtain ⟨hz, hcs, hf⟩ := hw rfl
          have hz : off = 0 := hz
          subst hz
          have key : ∀ ad : Addr, ad = ⟨b, 0, none⟩ → ad.spot = none ∧ ∃ cs el fz, w.heap[ad.block]? = some (.cells cs el fz) ∧ (cs.toList.drop ad.off).take ((xs.take r).length * s.sz) = flat s (xs.take r) ∧ (true = true → ad.off = 0 ∧ cs.size = c * s.sz ∧ ∀ o, o < cs.size → ¬ (fz.1 ≤ o ∧ o < fz.2)) := by
            rintro _ rfl
            refine ⟨rfl, cs, el, fz, hh, ?_, fun _ => ⟨rfl, hcs, hf⟩⟩
            rw [hlen, flat_take, ← hc, List.take_take]
            congr 1
            have : r * s.sz ≤ xs.length * s.sz := Nat.mul_le_mul_right _ hrl
            omega
          by_cases hc0 : c = 0
          · rw [if_pos hc0]
            exact key _ rfl
          · rw [if_neg hc0]
            exact key ((⟨b, 0, none⟩ : Addr).add (0 * s.sz)) (by rw [Nat.zero_mul]; rfl)
      · intro b hb
        cases p with
        | none => split at hb <;> simp [blk] at hb
        | some ad =>
          split at hb
          · exact hb
          · simp only [Option.map_some, blk, Option.some.injEq] at hb ⊢
            unfold Addr.add at hb
            split at hb <;> exact hb
    obtain ⟨hrel, hblk⟩ := hview
    have hD : ∀ j, upd F [(i, AObj.dead)] j = if i = j then .dead else F j := fun j => rfl
    have H1 : HR w0 A W U ρ (upd F [(i, AObj.dead)]) w := S.toHR.less (fun j => by
        rw [hD]
        by_cases hj : i = j
        · rw [if_pos hj]; exact .inl rfl
        · rw [if_neg hj]; exact MetaOk.refl _) (fun j hl hne => by
        rw [hD] at hl hne
        by_cases hj : i = j
        · rw [if_pos hj] at hl; cases hl
        · rw [if_neg hj] at hne; exact absurd rfl hne) (upd_plain rfl)
    cases hbk : blk (some (sliced p 0 r c s.sz)) with
    | none =>
      obtain ⟨ρ', g1, g2, g3, g4⟩ := H1.newRow (w' := w) id true s (xs.take r) (sliced p 0 r c s.sz) w.heap.size hid (grownBy_self w _) (.inl S.fr.size) (.inl S.fr.size) H1.fresh (fun b' hb' => by rw [hbk] at hb'; cases hb') hrel
      refine ⟨w, ρ', ⟨_, .inl hrun, g4⟩, g1, fun j hj => g2 j (by omega), ?_⟩
      exact g3.weak fun j hj => ⟨hj.1, by omega⟩
    | some b =>
      have hbi : blk (ρ i) = some b := by rw [hρ]; exact hblk b hbk
      obtain ⟨ρ', g1, g2, g3, g4⟩ := H1.newRow (w' := w) id true s (xs.take r) (sliced p 0 r c s.sz) b hid (grownBy_self w _) (S.locw i b hown hbi) (S.loc i b (AObj.live_of_own hown) hbi) (fun j hbj => by
          rw [hD] at hbj
          by_cases hj : i = j
          · rw [if_pos hj] at hbj; exact hbj.elim
          · rw [if_neg hj] at hbj
            obtain ⟨ki, kj, n, ci, cj, e1, _⟩ := S.sepf i j hj b (fpw_of hown hbi) hbj
            rw [hF'] at e1
            cases e1) (fun b' hb' => by rw [hbk] at hb'; exact (Option.some.inj hb').symm) hrel
      refine ⟨w, ρ', ⟨_, .inl hrun, g4⟩, g1, fun j hj => g2 j (by omega), ?_⟩
      exact g3.weak fun j hj => ⟨hj.1, by omega⟩
theorem iterOf_eq {o : AObj} {d : ByteArray × Nat} (h : iterOf o = some d) : o = .blob true .iter d := by
  cases o with
  | blob own t d' =>
    cases own with
    | false => cases h
    | true =>
      obtain ⟨rfl, hc⟩ := castBlob_eq (show castBlob .iter t d' = some d from h)
      cases hc
      rfl
  | _ => cases h
theorem run_next_at {w : World} {r : Nat} {s : ByteArray} {pos : Nat} (ty : TypeId) (h : w.heap[r]? = some (.stringIter s pos)) (hp : pos < s.size) :
    (Instr.next (.pointer (some ⟨r, 0, none⟩)) true ty).run P w = .ok (.tuple #[.bool true, .int .i64 pos, .int .i32 (Utf8.decode s pos).1]) { w with heap := w.heap.setIfInBounds r (.stringIter s (pos + (Utf8.decode s pos).2)) } := by
  simp only [Instr.next, getObj, setObj, Sem.run_bind, Sem.run, h, Result.andThen, hp, if_true]
  simp [goInt, Sem.run, h]
theorem run_next_over {w : World} {r : Nat} {s : ByteArray} {pos : Nat} (ty : TypeId) (h : w.heap[r]? = some (.stringIter s pos)) (hp : ¬ pos < s.size) :
    (Instr.next (.pointer (some ⟨r, 0, none⟩)) true ty).run P w = .ok (.tuple #[.bool false]) w := by
  simp [Instr.next, getObj, Sem.run, h, hp]
theorem out_range {o : Oper} {t : TypeId} {x : Operand} (ho : o.op = .range t x) {v : AVal} {u : List (Nat × AObj)} (S : Sim w0 A W nt sh U ρ tm F a w) (hid : U id) (h : Gives (eff P o.op o.type tm F0 id) v u) : Out w0 A W U ρ F id 1 v u ((execOp a.eval o).run P w) := by
  rw [ho] at h
  simp only [eff] at h
  split at h
  rotate_left
  exact h.fail.elim
  rename_i s hu hx
  obtain ⟨rfl, rfl⟩ := h.val
  have hrun : (execOp a.eval o).run P w = .ok (.value (.pointer (some ⟨w.heap.size, 0, none⟩))) (w.alloc (.stringIter s 0)) := by
    have := run_range_string (P := P) w t s hu
    simp [execOp, ho, str_of S hx, this, World.iter]
  obtain ⟨ρ', h1, h2, h3, h4⟩ := S.toHR.newBlob (w' := w.alloc (.stringIter s 0)) id true .iter (s, 0) (.pointer (some ⟨w.heap.size, 0, none⟩)) w.heap.size hid (World.grownBy_alloc w _ _) (.inl S.fr.size) (.inl S.fr.size)
    S.toHR.fresh rfl (fun b' hb => by simp [blk] at hb; omega) (fun _ _ => ⟨_, _, rfl, heap_alloc_new w _, rfl⟩) (.inl ⟨_, .inr rfl⟩)
  exact ⟨_, ρ', ⟨_, .inl hrun, h4⟩, h1, fun i hi => h2 i (by omega), h3.weak fun i hi => ⟨hi.1, by omega⟩⟩
theorem out_next {o : Oper} {x : Operand} {str : Bool} {cnt : Nat} (ho : o.op = .next x str) {v : AVal} {u : List (Nat × AObj)} (S : Sim w0 A W nt sh U ρ tm F a w) (hs : Sub F0 F) (h : Gives (eff P o.op o.type tm F0 id) v u) : Out w0 A W U ρ F id cnt v u ((execOp a.eval o).run P w) := by
  rw [ho] at h
  simp only [eff] at h
  split at h
  rotate_left
  exact h.fail.elim
  rename_i i hx
  split at h
  rotate_left
  exact h.fail.elim
  rename_i d hF
  obtain ⟨s, pos⟩ := d
  have hF' := hs.blob (iterOf_eq hF)
  have hxr := ev_rel S x
  rw [hx] at hxr
  obtain ⟨hρ, _⟩ := hxr
  have hobj := S.obj i
  rw [hF'] at hobj
  obtain ⟨hd, q1, r, ob, rfl, hh, hob⟩ := hobj
  have hob : ob = .stringIter s pos := hob
  subst hob
  rw [hρ] at q1
  have hv : a.eval x = .pointer (some ⟨r, 0, none⟩) := Option.some.inj q1
  rw [hv] at hρ
  have hrun : ∀ {y : Value} {w' : World}, (Instr.next (.pointer (some ⟨r, 0, none⟩)) true o.type).run P w = .ok y w' → (execOp a.eval o).run P w = .ok (.value y) w' := fun {y w'} e => by
    simp [execOp, ho, hv, e]
  have hlt := (Array.getElem?_eq_some_iff.1 hh).1
  rcases h with h | ⟨_, h, _⟩ | ⟨b, v1, u1, v2, u2, h, hb⟩
  · cases h
  · cases h
  · cases h
    rcases hb with ⟨hb, rfl, rfl⟩ | ⟨hb, rfl, rfl⟩
    · have hp : pos < s.size := of_decide_eq_true hb
      have hset : ∀ j, j ≠ r → (w.heap.setIfInBounds r (.stringIter s (pos + (Utf8.decode s pos).2)))[j]? = w.heap[j]? := fun j hj => by
        simp [Array.getElem?_setIfInBounds, Ne.symm hj]
      have hg : w.grownBy { w with heap := w.heap.setIfInBounds r (.stringIter s (pos + (Utf8.decode s pos).2)) } (some r) := ⟨rfl, rfl, rfl, by simp, fun j hj hne => hset j (fun e => hne (by rw [e]))⟩
      refine ⟨_, ρ, ⟨_, .inl (hrun (run_next_at o.type hh hp)), ?_⟩, ext.refl ρ, fun _ _ => rfl, ?_⟩
      · exact ⟨_, rfl, ⟨_, rfl, rfl⟩, ⟨_, rfl, rfl⟩, ⟨_, rfl, rfl⟩, trivial⟩
      · refine (S.toHR.turn (row := some r) (fun q => ?_) hg (fun k e => by cases e; exact S.locw i r (by rw [hF']; rfl) (by rw [hρ]; rfl)) (fun q hlive hq => ?_) (upd_plain rfl) (fun b e => by cases e; exact ⟨i, by rw [hF']; rfl, by rw [hF']; rfl, by rw [hρ]; rfl⟩)).weak fun _ h => h.1
        · simp only [upd]
          by_cases hq : i = q
          · subst hq; rw [if_pos rfl, hF']; exact .inr (.inr (.inr ⟨true, .iter, _, true, .iter, _, rfl, rfl, fun e => e⟩))
          · rw [if_neg hq]; exact MetaOk.refl _
        · simp only [upd] at hlive hq ⊢
          by_cases hqi : i = q
          · subst hqi
            rw [if_pos rfl]
            refine ⟨_, hρ, r, _, rfl, ?_, rfl⟩
            simp [hlt, runeEnd]
          · rw [if_neg hqi] at hlive ⊢
            rcases hq with ⟨b', e, hbb⟩ | hne
            · cases e
              obtain ⟨ki, kj, n', ci, cj, e1, e2, _⟩ := S.sep i q hqi (by rw [hF']; rfl) hlive r (by rw [hρ]; rfl) hbb
              rw [hF'] at e1
              cases e1
            · rw [if_neg hqi] at hne
              exact absurd rfl hne
    · have hp : ¬ pos < s.size := of_decide_eq_false hb
      exact Out.pure S (hrun (run_next_over o.type hh hp)) ⟨_, rfl, ⟨_, rfl, rfl⟩, trivial⟩
/-- Every operation. -/
theorem eff_sound {o : Oper} {v : AVal} {u : List (Nat × AObj)} (S : Sim w0 A W nt sh U ρ tm F a w) (hs : Sub F0 F) (hid : ∀ i, id ≤ i → i < id + cntO P o.op → U i) (h : Gives (eff P o.op o.type tm F0 id) v u) : Out w0 A W U ρ F id (cntO P o.op) v u ((execOp a.eval o).run P w) := by
  cases ho : o.op
  case move x => exact out_move (.inl ho) S (by rw [ho] at h; exact h)
  case assign x => exact out_move (.inr ho) S (by rw [ho] at h; exact h)
  case pick => exact out_pick ho S h
  case alloc => rw [← ho]; exact out_alloc ho S hid h
  case box => rw [← ho]; exact out_box ho S hid h
  case build => exact out_build ho S h
  case buildSlice => exact out_buildSlice ho S (hid _ (Nat.le_refl _) (by rw [ho]; simp [cntO])) h
  case load => exact out_load ho S hs h
  case store => exact out_store ho S hs h
  case nilCheck => exact out_nilCheck ho S h
  case binOp => exact out_binOp ho S h
  case unOp => exact out_unOp ho S h
  case convert => exact out_convert ho S hs (hid _ (Nat.le_refl _) (by rw [ho]; simp [cntO])) h
  case makeFunc => exact out_makeFunc ho S h
  case makeSlice => exact out_makeSlice ho S (hid _ (Nat.le_refl _) (by rw [ho]; simp [cntO])) h
  case slice => exact out_slice ho S hs (hid _ (Nat.le_refl _) (by rw [ho]; simp [cntO])) h
  case fieldAddr => exact out_fieldAddr ho S h
  case field => exact out_field ho S h
  case indexAddr => exact out_indexAddr ho S hs h
  case index => exact out_index ho S h
  case extract => exact out_extract ho S h
  case range => exact out_range ho S (hid _ (Nat.le_refl _) (by rw [ho]; simp [cntO])) h
  case next => exact out_next ho S hs h
  case makeMap => exact out_makeMap ho S (hid _ (Nat.le_refl _) (by rw [ho]; simp [cntO])) (by rw [ho] at h ⊢; exact h)
  case lookup => exact out_lookup ho S hs (by rw [ho] at h ⊢; exact h)
  case mapUpdate => exact out_mapUpdate ho S hs (by rw [ho] at h ⊢; exact h)
  case call c =>
    cases hb : c.callee
    case builtin b =>
      by_cases hna : b = .append
      · subst hna
        have hc : cntO P (.call c) = 1 := by simp [cntO, hb]
        rw [hc]
        exact out_append ho hb S hs (hid _ (Nat.le_refl _) (by rw [ho, hc]; omega)) h
      · exact out_len ho hb hna S hs h
    all_goals (rw [ho] at h; simp only [eff, hb] at h; exact h.fail.elim)
  all_goals (rw [ho] at h; exact (Gives.fail h).elim)
end
end Go.Proofs.YtiaagflfiphioaaDoorS
