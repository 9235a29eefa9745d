/- Conversions, parts of slices and strings, lengths, new variables, literals. -/
import Derived.Test.YtiaagflfiphioaaDoorSimG
import Derived.Laws.Tables
namespace Go.Proofs.YtiaagflfiphioaaDoorS
open Go
set_option linter.unusedVariables false
set_option linter.unusedSimpArgs false

section
variable {P : Program} {w0 : World} {A : List Nat} {W : WL} {nt : Nat} {sh : Nat → Value} {U : Nat → Prop} {ρ : Rho} {tm : Nat → AVal} {F F0 : Nat → AObj} {a : Act} {w : World} {id : Nat}

/-! ### Bounds -/
theorem run_bounds (S : Sim w0 A W nt sh U ρ tm F a w) (isS : Bool) (len cap : Nat) (hlc : len ≤ cap) (hs : isS = false → len = cap) (lo hi : Option Operand) {b : Bool} {l h : Nat} (e : sliceB len (lo.map (ev tm)) (hi.map (ev tm)) = some (b, l, h)) (hb : b = true) :
    (Instr.sliceBounds isS len cap (lo.map a.eval) (hi.map a.eval) none).run P w = .ok (l, h, cap) w ∧ l ≤ h ∧ h ≤ len := by
  subst hb
  cases lo with
  | none =>
    cases hi with
    | none =>
      simp only [Option.map_none, sliceB, Option.some.injEq, Prod.mk.injEq, true_and] at e
      obtain ⟨rfl, rfl⟩ := e
      exact ⟨by simp [Instr.sliceBounds], Nat.zero_le _, Nat.le_refl _⟩
    | some y =>
      simp only [Option.map_none, Option.map_some] at e
      cases hy : ev tm y with
      | c q =>
        cases q <;> simp only [hy, sliceB] at e <;> try cases e
        rename_i k n
        simp only [Option.some.injEq, Prod.mk.injEq, Bool.and_eq_true, decide_eq_true_eq] at e
        obtain ⟨⟨h0, h1⟩, rfl, rfl⟩ := e
        have hcap : n ≤ (cap : Int) := by omega
        refine ⟨?_, Nat.zero_le _, by omega⟩
        simp [Instr.sliceBounds, int_of S hy, Instr.sliceBound, asIntOf, h0, hcap]
      | agg q => simp [hy, sliceB] at e
      | tup q => simp [hy, sliceB] at e
  | some x =>
    cases hi with
    | none =>
      simp only [Option.map_none, Option.map_some] at e
      cases hx : ev tm x with
      | c q =>
        cases q <;> simp only [hx, sliceB] at e <;> try cases e
        rename_i k n
        simp only [Option.some.injEq, Prod.mk.injEq, Bool.and_eq_true, decide_eq_true_eq] at e
        obtain ⟨⟨h0, h1⟩, rfl, rfl⟩ := e
        refine ⟨?_, by omega, Nat.le_refl _⟩
        simp [Instr.sliceBounds, int_of S hx, Instr.sliceBound, asIntOf, h0, h1]
      | agg q => simp [hx, sliceB] at e
      | tup q => simp [hx, sliceB] at e
    | some y =>
      simp only [Option.map_some] at e
      cases hx : ev tm x with
      | c q =>
        cases hy : ev tm y with
        | c q' =>
          cases q <;> cases q' <;> simp only [hx, hy, sliceB] at e <;> try cases e
          rename_i k n k' m
          simp only [Option.some.injEq, Prod.mk.injEq, Bool.and_eq_true, decide_eq_true_eq] at e
          obtain ⟨⟨⟨h0, h1⟩, h2, h3⟩, rfl, rfl⟩ := e
          have hcap : m ≤ (cap : Int) := by omega
          refine ⟨?_, by omega, by omega⟩
          simp [Instr.sliceBounds, int_of S hx, int_of S hy, Instr.sliceBound, asIntOf, h0, h2, hcap, h3, Int.max_eq_left h0]
        | agg q' => simp [hx, hy, sliceB] at e
        | tup q' => simp [hx, hy, sliceB] at e
      | agg q => simp [hx, sliceB] at e
      | tup q => simp [hx, sliceB] at e
/-- An object that is not owned, in a block where none is owned. -/
theorem HR.newRo {w0 : World} {A : List Nat} {W : WL} {U : Nat → Prop} {ρ : Rho} {F : Nat → AObj} {w : World} (h : HR w0 A W U ρ F w) (id : Nat) (s : Sh) (xs : List s.T) (hd : Value)
    (hid : U id) (hn : ∀ j b, blk (some hd) = some b → ¬ fpw (F j) (ρ j) w b) (hl : ∀ b, blk (some hd) = some b → w0.heap.size ≤ b ∨ b ∈ A) (hr : RowRel false s xs hd w) :
    ∃ ρ', ext ρ ρ' ∧ (∀ i, i ≠ id → ρ' i = ρ i) ∧ HR w0 A W (fun i => U i ∧ i ≠ id) ρ' (upd F [(id, .row false s xs)]) w ∧ CRel ρ' (.slc id) hd := by
  have hnone := h.fre id hid
  have hne : ∀ {i v}, ρ i = some v → i ≠ id := fun e e2 => by subst e2; rw [hnone] at e; cases e
  refine ⟨fun i => if i = id then some hd else ρ i, ?_, ?_, ?_, ?_⟩
  · intro i v hv; simp only [if_neg (hne hv)]; exact hv
  · intro i hi; simp only [if_neg hi]
  · have hF : ∀ i, upd F [(id, .row false s xs)] i = if i = id then .row false s xs else F i := fun i => by
      simp only [upd]; by_cases hi : i = id
      · subst hi; simp
      · rw [if_neg hi, if_neg (Ne.symm hi)]
    have hx : ext ρ (fun i => if i = id then some hd else ρ i) := fun i v hv => by simp only [if_neg (hne hv)]; exact hv
    refine ⟨h.fr, ?_, ?_, ?_, ?_, ?_⟩
    · intro i hi; simp only [if_neg hi.2]; exact h.fre i hi.1
    · intro i
      rw [hF]
      by_cases hi : i = id
      · subst hi; simp only [if_true]; exact ⟨hd, rfl, hr⟩
      · simp only [if_neg hi]; exact (h.obj i).kept hx fun _ _ => rfl
    · intro i j hij b hb hb'
      rw [hF] at hb hb'
      by_cases h1 : i = id
      · subst h1; simp [fpw, AObj.own] at hb
      · simp only [if_neg h1] at hb
        by_cases h2 : j = id
        · subst h2
          simp only [if_true] at hb'
          exact absurd hb (hn i b hb')
        · simp only [if_neg h2] at hb'
          obtain ⟨ki, kj, n, ci, cj, e1, e2, e3⟩ := h.sepf i j hij b hb hb'
          exact ⟨ki, kj, n, ci, cj, by rw [hF, if_neg h1, e1], by rw [hF, if_neg h2, e2], e3⟩
    · intro i b hb
      rw [hF] at hb
      by_cases h1 : i = id
      · subst h1; simp only [if_true] at hb; exact hl b hb
      · simp only [if_neg h1] at hb; exact h.locf i b hb
    · intro i b hb
      rw [hF] at hb
      by_cases h1 : i = id
      · subst h1; simp [fpw, AObj.own] at hb
      · simp only [if_neg h1] at hb; exact h.locfw i b hb
  · simp only [CRel, if_true]
    obtain ⟨p, cap, e, _⟩ := hr
    exact ⟨trivial, p, _, cap, e⟩
theorem HR.unown {w0 : World} {A : List Nat} {W : WL} {U : Nat → Prop} {ρ : Rho} {F : Nat → AObj} {w : World} (h : HR w0 A W U ρ F w) {i : Nat} {o : Bool} {s : Sh} {xs : List s.T} (hF : F i = .row o s xs) :
    HR w0 A W U ρ (upd F (if o then [(i, .row false s xs)] else [])) w ∧ (upd F (if o then [(i, .row false s xs)] else [])) i = .row false s xs := by
  cases o with
  | false => exact ⟨h, hF⟩
  | true =>
    have hu : ∀ j, upd F (if true then [(i, .row false s xs)] else []) j = if i = j then .row false s xs else F j := fun j => rfl
    refine ⟨h.less (fun j => ?_) (fun j hl hne => ?_) (fun j hne => ?_), by rw [hu, if_pos rfl]⟩
    · rw [hu]
      by_cases hj : i = j
      · subst hj; rw [if_pos rfl, hF]; exact .inr (.inr (.inl ⟨true, s, xs, false, s, xs, rfl, rfl, fun e => by cases e⟩))
      · rw [if_neg hj]; exact MetaOk.refl _
    · rw [hu] at hne ⊢
      by_cases hj : i = j
      · subst hj
        rw [if_pos rfl]
        have ho := h.obj i
        rw [hF] at ho
        obtain ⟨hd, e, p, cap, e2, hle, hr⟩ := ho
        refine ⟨hd, e, p, cap, e2, hle, ?_⟩
        cases p with
        | none => exact hr
        | some ad =>
          obtain ⟨q1, cs, el, fz, q2, q3, _⟩ := hr
          exact ⟨q1, cs, el, fz, q2, q3, fun e => by cases e⟩
      · rw [if_neg hj] at hne; exact absurd rfl hne
    · rw [hu] at hne ⊢
      by_cases hj : i = j
      · rw [if_pos hj]; rfl
      · rw [if_neg hj] at hne; exact absurd rfl hne
theorem RowRel.view {o : Bool} {s : Sh} {xs : List s.T} {p : Option Addr} {cap : Nat} {w : World} (h : RowRel o s xs (.slice p xs.length cap) w) {l r : Nat} (hl : l ≤ r) (hr : r ≤ xs.length) :
    RowRel false s ((xs.drop l).take (r - l)) (sliced p l r cap s.sz) w ∧ (∀ b, blk (some (sliced p l r cap s.sz)) = some b → blk (some (.slice p xs.length cap)) = some b) := by
  obtain ⟨p', cap', e, hle, hp⟩ := h
  cases e
  have hlen : ((xs.drop l).take (r - l)).length = r - l := by rw [List.length_take, List.length_drop]; omega
  unfold sliced
  constructor
  · refine ⟨_, cap - l, by rw [hlen], by rw [hlen]; omega, ?_⟩
    cases p with
    | none =>
      obtain ⟨rfl, rfl⟩ := hp
      simp
    | some ad =>
      obtain ⟨hsp, cs, el, fz, hh, hc, _⟩ := hp
      obtain ⟨b, off, sp⟩ := ad
      simp only at hsp
      subst hsp
      by_cases hcl : cap = l
      · have : r - l = 0 := by omega
        simp only [hcl, if_true]
        refine ⟨trivial, cs, el, fz, hh, ?_, fun e => by cases e⟩
        rw [this]
        simp [flat]
      · simp only [if_neg hcl, Option.map_some, add_lit]
        refine ⟨trivial, cs, el, fz, hh, ?_, fun e => by cases e⟩
        rw [hlen, flat_take, flat_drop, ← hc, List.drop_take, List.drop_drop, List.take_take]
        congr 1
        rw [← Nat.sub_mul]
        have : (r - l) * s.sz ≤ (xs.length - l) * s.sz := Nat.mul_le_mul_right _ (by omega)
        omega
  · intro b hb
    cases p with
    | none => split at hb <;> simp [blk] at hb
    | some ad =>
      split at hb
      · exact hb
      · simp only [Option.map_some, blk, Option.some.injEq] at hb ⊢
        unfold Addr.add at hb
        split at hb <;> exact hb
theorem out_slice {o : Oper} {t : TypeId} {x : Operand} {lo hi mx : Option Operand} (ho : o.op = .slice t x lo hi mx) {v : AVal} {u : List (Nat × AObj)} (S : Sim w0 A W nt sh U ρ tm F a w) (hs : Sub F0 F) (hid : U id) (h : Gives (eff P o.op o.type tm F0 id) v u) : Out w0 A W U ρ F id 1 v u ((execOp a.eval o).run P w) := by
  rw [ho] at h
  simp only [eff] at h
  split at h
  · exact h.fail.elim
  split at h
  · rename_i s hu hx
    split at h
    rotate_left
    exact h.fail.elim
    rename_i b l r e
    obtain ⟨hb, rfl, rfl⟩ := h.ck
    obtain ⟨hr, _, _⟩ := run_bounds (P := P) S false s.size s.size (Nat.le_refl _) (fun _ => rfl) lo hi e hb
    refine Out.pure S (x := .string (s.extract l r)) ?_ rfl
    simp [execOp, ho, Instr.sliceAt, Instr.slice, underlying, hu, str_of S hx, hr]
  · rename_i e i hu hx
    split at h
    rotate_left
    exact h.fail.elim
    rename_i own s xs hF
    split at h
    rotate_left
    exact h.fail.elim
    rename_i hsz
    have hsz : sizeB P e = some s.sz := by simpa using hsz
    split at h
    rotate_left
    exact h.fail.elim
    rename_i b l r eb
    obtain ⟨hb, rfl, rfl⟩ := h.chk
    obtain ⟨p, c, hv, hrow, hρ⟩ := row_of S hs hx hF
    have hlc : xs.length ≤ c := by obtain ⟨_, _, e', hle, _⟩ := hrow; cases e'; exact hle
    obtain ⟨hr, hlr, hrl⟩ := run_bounds (P := P) S true xs.length c hlc (fun e => by cases e) lo hi eb hb
    have hrun : (execOp a.eval o).run P w = .ok (.value (sliced p l r c s.sz)) w := by
      simp [execOp, ho, Instr.sliceAt, Instr.slice, underlying, hu, hv, hr, run_sizeOf hsz, sliced]
    obtain ⟨hH, hFi⟩ := S.toHR.unown (hs.row hF)
    obtain ⟨hview, hblk⟩ := hrow.view hlr hrl
    obtain ⟨ρ', hx1, hx2, hx3, hx4⟩ := hH.newRo id s _ _ hid (fun j b' hb' hj => by
        have hbi := hblk b' hb'
        by_cases hji : j = i
        · subst hji; rw [hFi] at hj; simp [fpw, AObj.own] at hj
        · obtain ⟨ki, kj, n, ci, cj, e1, e2, _⟩ := hH.sepf j i hji b' hj (fp_of (by rw [hFi]; rfl) (by rw [hρ]; exact hbi))
          rw [hFi] at e2; cases e2)
      (fun b' hb' => hH.loc i b' (by rw [hFi]; rfl) (by rw [hρ]; exact hblk b' hb')) hview
    refine ⟨w, ρ', ⟨_, .inl hrun, hx4⟩, hx1, fun j hj => hx2 j (by omega), ?_⟩
    rw [upd_append]
    exact hx3.weak fun j hj => ⟨hj.1, by omega⟩
  · exact h.fail.elim

/-! ### New variables -/
theorem out_alloc {o : Oper} {t : TypeId} (ho : o.op = .alloc t) {v : AVal} {u : List (Nat × AObj)} (S : Sim w0 A W nt sh U ρ tm F a w) (hid : ∀ i, id ≤ i → i < id + cntO P o.op → U i) (h : Gives (eff P o.op o.type tm F0 id) v u) : Out w0 A W U ρ F id (cntO P o.op) v u ((execOp a.eval o).run P w) := by
  rw [ho] at h hid ⊢
  simp only [eff] at h
  split at h
  rotate_left
  exact h.fail.elim
  rename_i z n hz hn
  split at h
  rotate_left
  exact h.fail.elim
  rename_i hzn
  have hzn : z.length = n := by simpa using hzn
  obtain ⟨rfl, rfl⟩ := h.val
  obtain ⟨i, zv, hi, hzv, hvs⟩ := zeroB_parts hz
  have hc : cntO P (.alloc t) = z.length := by simp [cntO, hn, hzn]
  rw [hc] at hid ⊢
  obtain ⟨ρ', hx1, hx2, hx3, hx4⟩ := S.toHR.newBox id z zv.cells t (ofVals_rel hvs) (ofVals_known hvs) hid
  refine ⟨_, ρ', ⟨.pointer (some ⟨w.heap.size, 0, none⟩), .inl ?_, hx4⟩, hx1, hx2, hx3⟩
  simp [execOp, ho, Instr.alloc, run_zero hi hzv, newVar, newRow]
theorem out_box {o : Oper} {t : TypeId} {x : Operand} (ho : o.op = .box t x) {v : AVal} {u : List (Nat × AObj)} (S : Sim w0 A W nt sh U ρ tm F a w) (hid : ∀ i, id ≤ i → i < id + cntO P o.op → U i) (h : Gives (eff P o.op o.type tm F0 id) v u) : Out w0 A W U ρ F id (cntO P o.op) v u ((execOp a.eval o).run P w) := by
  rw [ho] at h hid ⊢
  simp only [eff] at h
  split at h
  rotate_left
  exact h.fail.elim
  rename_i n hn
  split at h
  rotate_left
  exact h.fail.elim
  rename_i hc
  simp only [Bool.and_eq_true, beq_iff_eq] at hc
  obtain ⟨⟨hv, hk⟩, hl⟩ := hc
  obtain ⟨rfl, rfl⟩ := h.val
  have hc : cntO P (.box t x) = (ev tm x).cells.length := by simp [cntO, hn, hl]
  rw [hc] at hid ⊢
  have hrel := (ev_rel S x).cells (fun l e => by rw [e] at hv; simp [AVal.isV] at hv) hk
  obtain ⟨ρ', hx1, hx2, hx3, hx4⟩ := S.toHR.newBox id _ _ t hrel hk hid
  refine ⟨_, ρ', ⟨.pointer (some ⟨w.heap.size, 0, none⟩), .inl ?_, hx4⟩, hx1, hx2, hx3⟩
  simp [execOp, ho, Instr.box, newVar, newRow]

/-! ### Literals -/
theorem set_fold : ∀ (vs : List Value) (off k : Nat) (cs : Array Value), off + k + vs.length ≤ cs.size →
    ((vs.zipIdx k).foldl (fun cs (x : Value × Nat) => cs.setIfInBounds (off + x.2) x.1) cs).toList = cs.toList.take (off + k) ++ vs ++ cs.toList.drop (off + k + vs.length)
  | [], off, k, cs, _ => by simp
  | v :: vs, off, k, cs, h => by
    simp only [List.length_cons] at h
    rw [List.zipIdx_cons, List.foldl_cons, set_fold vs off (k + 1) _ (by simp; omega)]
    have hlt : off + k < cs.toList.length := by simp; omega
    rw [Array.toList_setIfInBounds]
    generalize cs.toList = L at hlt
    have e1 : (L.set (off + k) v).take (off + (k + 1)) = L.take (off + k) ++ [v] := by
      rw [← Nat.add_assoc, List.take_succ_eq_append_getElem (by simpa using hlt), List.take_set_of_le (Nat.le_refl _)]
      simp
    have e2 : (L.set (off + k) v).drop (off + (k + 1) + vs.length) = L.drop (off + k + (v :: vs).length) := by
      rw [List.drop_set_of_lt (by omega)]
      congr 1
      simp; omega
    rw [e1, e2]
    simp
theorem splice_rel {ρ : Rho} {l x : List Cell} {cs vs : List Value} (h : LRel ρ l cs) (hx : LRel ρ x vs) (off : Nat) : LRel ρ (splice l off x) (cs.take off ++ vs ++ cs.drop (off + vs.length)) := by
  unfold splice
  rw [hx.length]
  exact ((h.take off).append hx).append (h.drop _)
theorem fill_rel (S : Sim w0 A W nt sh U ρ tm F a w) (place : Nat → Option (Nat × Nat)) (step : Nat → List Cell → List Cell → Option (List Cell))
    (hstep : ∀ i c l l', step i c l = some l' → ∃ off, place i = some (off, c.length) ∧ off + c.length ≤ l.length ∧ l' = splice l off c)
    (go : List (Nat × AVal) → List Cell → Option (List Cell)) (hgo0 : ∀ l, go [] l = some l)
    (hgo : ∀ i v r l q, go ((i, v) :: r) l = some q → ∃ l', v.isV = true ∧ known v.cells = true ∧ step i v.cells l = some l' ∧ go r l' = some q) :
    ∀ (ps : List (Nat × Operand)) (l q : List Cell) (cs : Array Value), LRel ρ l cs.toList → go (ps.map fun (i, x) => (i, ev tm x)) l = some q →
      ∃ cs', Instr.fill place cs (ps.map fun (i, x) => (i, a.eval x)) = some cs' ∧ LRel ρ q cs'.toList
  | [], l, q, cs, hl, h => by
    rw [List.map_nil, hgo0] at h
    cases h
    exact ⟨cs, rfl, hl⟩
  | (i, x) :: ps, l, q, cs, hl, h => by
    obtain ⟨l', hv, hk, hst, hr⟩ := hgo i (ev tm x) _ l q h
    obtain ⟨off, hp, hle, rfl⟩ := hstep _ _ _ _ hst
    have hx := (ev_rel S x).cells (fun l e => by rw [e] at hv; simp [AVal.isV] at hv) hk
    have hxl := hx.length
    have hll := hl.length
    have hcs := set_fold (a.eval x).cells.toList off 0 cs (by simp at hxl hll ⊢; omega)
    have hnew : LRel ρ (splice l off (ev tm x).cells) (((a.eval x).cells.zipIdx.foldl (fun cs (x : Value × Nat) => cs.setIfInBounds (off + x.2) x.1) cs)).toList := by
      rw [← Array.foldl_toList, Array.toList_zipIdx, hcs]
      simpa using splice_rel hl hx off
    obtain ⟨cs', h1, h2⟩ := fill_rel S place step hstep go hgo0 hgo ps _ q _ hnew hr
    refine ⟨cs', ?_, h2⟩
    simp only [List.map_cons, Instr.fill, hp]
    have hsz : (a.eval x).cells.size = (ev tm x).cells.length := by simpa using hxl.symm
    have hcz : cs.size = l.length := by simpa using hll.symm
    rw [if_neg]
    · exact h1
    · simp [hsz, hcz]; omega
theorem out_build {o : Oper} {t : TypeId} {parts : Array (Nat × Operand)} {cnt : Nat} (ho : o.op = .build t parts) {v : AVal} {u : List (Nat × AObj)} (S : Sim w0 A W nt sh U ρ tm F a w) (h : Gives (eff P o.op o.type tm F0 id) v u) : Out w0 A W U ρ F id cnt v u ((execOp a.eval o).run P w) := by
  rw [ho] at h
  simp only [eff] at h
  split at h
  rotate_left
  · rename_i z hz hfs
    split at h
    rotate_left
    exact h.fail.elim
    rename_i m e hu
    split at h
    rotate_left
    exact h.fail.elim
    rename_i n hn
    split at h
    rotate_left
    exact h.fail.elim
    rename_i cs hcs
    obtain ⟨rfl, rfl⟩ := h.val
    obtain ⟨i, zv, hi, hzv, hvs⟩ := zeroB_parts hz
    obtain ⟨ei, hei, hsz⟩ := sizeB_info hn
    obtain ⟨cs', h1, h2⟩ := fill_rel S (fun i => some (i * n, n)) (fun j c l => if c.length == n && decide (j * n + n ≤ l.length) then some (splice l (j * n) c) else none)
      (fun j c l l' hst => by
        split at hst <;> cases hst
        rename_i hc
        simp only [Bool.and_eq_true, beq_iff_eq, decide_eq_true_eq] at hc
        exact ⟨j * n, by rw [hc.1], by rw [hc.1]; exact hc.2, rfl⟩)
      (buildR n) (fun l => rfl) (fun j v r l q hq => by
        simp only [buildR] at hq
        split at hq <;> try cases hq
        rename_i hc
        simp only [Bool.and_eq_true, beq_iff_eq, decide_eq_true_eq] at hc
        obtain ⟨⟨⟨hv, hl⟩, hk⟩, hle⟩ := hc
        exact ⟨_, hv, hk, by simp [hl, hle], hq⟩) parts.toList z cs zv.cells (ofVals_rel hvs) hcs
    have hb : P.built t (parts.map fun (i, x) => (i, a.eval x)).toList = some cs' := by
      unfold Program.built
      rw [hi, hu]
      simp only [hzv, hei, hsz]
      rw [Array.toList_map]
      exact h1
    have hr := run_build (P := P) w t (parts.map fun (i, x) => (i, a.eval x)) cs' hb
    exact Out.pure S (x := .agg cs') (by simp only [execOp, ho, Sem.run_bind, hr, Result.andThen_ok, Sem.run_pure]) ⟨cs', rfl, h2⟩
  · exact h.fail.elim
  rename_i z fs hz hfs
  split at h
  exact h.fail.elim
  rename_i hall
  split at h
  rotate_left
  exact h.fail.elim
  rename_i cs hcs
  obtain ⟨rfl, rfl⟩ := h.val
  obtain ⟨i, zv, hi, hzv, hvs⟩ := zeroB_parts hz
  obtain ⟨ars, hu, rfl⟩ := fieldsB_parts hfs
  have hall : ∀ f ∈ ars.toList, (sizeB P f.type).isSome = true := by
    cases hq : ars.toList.all (fun f => (sizeB P f.type).isSome) with
    | true => exact List.all_eq_true.1 hq
    | false => rw [hq] at hall; exact absurd rfl hall
  obtain ⟨places, hpl, hget⟩ : ∃ places, ars.toList.mapM (fun (f : Field) => (P.info? f.type).map fun i => (f.offset, i.size)) = some places ∧
      ∀ (j : Nat) (f : Field) (n : Nat), ars.toList[j]? = some f → sizeB P f.type = some n → places[j]? = some (f.offset, n) := by
    generalize ars.toList = l at hall
    induction l with
    | nil => exact ⟨[], rfl, fun j f n h => by simp at h⟩
    | cons f r ih =>
      obtain ⟨places, h1, h2⟩ := ih (fun g hg => hall g (List.mem_cons_of_mem _ hg))
      obtain ⟨n, hn⟩ := Option.isSome_iff_exists.1 (hall f (by simp))
      obtain ⟨fi, hfi, rfl⟩ := sizeB_info hn
      refine ⟨(f.offset, fi.size) :: places, by simp [List.mapM_cons, hfi, h1], ?_⟩
      intro j g n hj hgn
      cases j with
      | zero =>
        simp at hj
        subst hj
        rw [hn] at hgn
        cases hgn
        rfl
      | succ j => exact h2 j g n (by simpa using hj) hgn
  obtain ⟨cs', h1, h2⟩ := fill_rel S (places.toArray[·]?) (fun j c l => match ars.toList[j]? with | some f => (match sizeB P f.type with | some n => if c.length == n && decide (f.offset + n ≤ l.length) then some (splice l f.offset c) else none | none => none) | none => none)
    (fun j c l l' hst => by
      split at hst <;> try cases hst
      rename_i f hf
      split at hst <;> try cases hst
      rename_i n hn
      split at hst <;> cases hst
      rename_i hc
      simp only [Bool.and_eq_true, beq_iff_eq, decide_eq_true_eq] at hc
      obtain ⟨rfl, hle⟩ := hc
      exact ⟨f.offset, by simpa using hget j f _ hf hn, hle, rfl⟩)
    (buildB P ars.toList) (fun l => rfl) (fun j v r l q hq => by
      simp only [buildB] at hq
      split at hq <;> try cases hq
      rename_i f hf
      split at hq <;> try cases hq
      rename_i n hn
      split at hq <;> try cases hq
      rename_i hc
      simp only [Bool.and_eq_true, beq_iff_eq, decide_eq_true_eq] at hc
      obtain ⟨⟨⟨hv, hl⟩, hk⟩, hle⟩ := hc
      exact ⟨splice l f.offset v.cells, hv, hk, by simp [hf, hn, hl, hle], hq⟩) parts.toList z cs zv.cells (ofVals_rel hvs) hcs
  have hb : P.built t (parts.map fun (i, x) => (i, a.eval x)).toList = some cs' := by
    unfold Program.built
    rw [hi, hu]
    simp only [hzv, hpl]
    rw [Array.toList_map]
    exact h1
  have hr := run_build (P := P) w t (parts.map fun (i, x) => (i, a.eval x)) cs' hb
  exact Out.pure S (x := .agg cs') (by simp only [execOp, ho, Sem.run_bind, hr, Result.andThen_ok, Sem.run_pure]) ⟨cs', rfl, h2⟩
end
end Go.Proofs.YtiaagflfiphioaaDoorS
