/- A law's arguments ars data; the row out of the evaluation. -/
import Derived.Test.YtiaagflfiphioaaDoorSimY
import Derived.WalkKit
import Derived.ProofKit
import Derived.ChangeOld
import Derived.Deep.Slices
namespace Go.Proofs.YtiaagflfiphioaaDoorS
open Go Go.WideShapes Go.ChangeShapes
set_option linter.unusedVariables false
set_option linter.unusedSimpArgs false

def Sh.good : (s : Sh) → s.T → Prop
  | .int k, n => (Lit.int k n).wf = true | .bool, _ => True | .str, s => s.size ≤ maxLen | .unit, _ => True | .pair a b, x => a.good x.1 ∧ b.good x.2
def Ty.good : (t : Ty) → t.D → Prop
  | .int k, n => (Lit.int k n).wf = true
  | .str, s => s.size ≤ maxLen
  | .slc _ s, xs => List.length (α := s.T) xs ≤ maxLen ∧ ∀ x : s.T, List.Mem x xs → s.good x
  | .cons a b, d => a.good d.1 ∧ b.good d.2
  | .box _ t, d => t.good d
  | .clo _ t, d => t.good d
  | _, _ => True
def goodL : (l : List Slot) → Dl l → Prop
  | [], _ => True
  | [s], d => s.ty.good d
  | s :: t :: r, d => s.ty.good d.1 ∧ goodL (t :: r) d.2
def opL (P : Program) (f : TypeId → Option Sh) : List Field → Nat → Option (Sh × Nat)
  | [], off => some (.unit, off)
  | [x], off => match f x.type with
    | some s => if x.offset == off && P.cellsOf x.type == s.sz then some (s, off + s.sz) else none
    | none => none
  | x :: y :: r, off => match f x.type with
    | some s => if x.offset == off && P.cellsOf x.type == s.sz then (match opL P f (y :: r) (off + s.sz) with
      | some (s', n) => some (.pair s s', n)
      | none => none) else none
    | none => none
def opB (P : Program) : Nat → TypeId → Option Sh
  | 0, _ => none
  | d + 1, t => match P.underlying t with
    | some .bool => some .bool | some (.int k) => some (.int k) | some .string => some .str
    | some (.struct fs) => (match opL P (opB P d) fs.toList 0 with
      | some (s, n) => if P.cellsOf t == n then some s else none
      | none => none)
    | _ => none
def OpS (P : Program) (t : TypeId) (s : Sh) : Prop := ∀ (H : Type) (enc : TypeId × Value → H) (w : World) (fuel : Nat) (cs : List Value) (y : DataW H × List MemPlace),
  DataW.trod enc P w 0 (fun _ => true) true fuel t cs = some y → ∃ x : s.T, cs = s.vals x ∧ s.good x
theorem opL_sound {P : Program} {f : TypeId → Option Sh} (hf : ∀ t s, f t = some s → OpS P t s) : ∀ (fs : List Field) (off : Nat) (s : Sh) (n : Nat), opL P f fs off = some (s, n) → n = off + s.sz ∧ ∀ (H : Type) (enc : TypeId × Value → H) (w : World) (m : Nat) (cs : List Value),
    (∀ f, f ∈ fs → ∃ y, DataW.trod enc P w 0 (fun _ => true) true m f.type ((cs.drop f.offset).take (P.cellsOf f.type)) = some y) → ∃ x : s.T, (cs.drop off).take s.sz = s.vals x ∧ s.good x
  | [], off, s, n, h => by
    simp only [opL] at h
    cases h
    exact ⟨rfl, fun H enc w m cs _ => ⟨(), by simp [Sh.sz, Sh.vals], trivial⟩⟩
  | [x], off, s, n, h => by
    simp only [opL] at h
    split at h <;> try cases h
    rename_i s' hs
    split at h <;> cases h
    rename_i hc
    simp only [Bool.and_eq_true, beq_iff_eq] at hc
    refine ⟨rfl, fun H enc w m cs hh => ?_⟩
    obtain ⟨y, hy⟩ := hh x (by simp)
    rw [hc.1, hc.2] at hy
    exact hf _ _ hs H enc w m _ y hy
  | x :: y :: r, off, s, n, h => by
    simp only [opL] at h
    split at h <;> try cases h
    rename_i s1 hs
    split at h <;> try cases h
    rename_i hc
    split at h <;> cases h
    rename_i s2 h2
    simp only [Bool.and_eq_true, beq_iff_eq] at hc
    obtain ⟨e, ih⟩ := opL_sound hf (y :: r) (off + s1.sz) s2 n h2
    refine ⟨by rw [e]; simp only [Sh.sz]; omega, fun H enc w m cs hh => ?_⟩
    obtain ⟨y1, hy⟩ := hh x (by simp)
    rw [hc.1, hc.2] at hy
    obtain ⟨a, ha, ga⟩ := hf _ _ hs H enc w m _ y1 hy
    obtain ⟨b, hb, gb⟩ := ih H enc w m cs (fun f hf' => hh f (List.mem_cons_of_mem _ hf'))
    refine ⟨(a, b), ?_, ga, gb⟩
    simp only [Sh.sz, Sh.vals]
    rw [List.take_add, ha, List.drop_drop, hb]
theorem opB_sound {P : Program} : ∀ (d : Nat) (t : TypeId) (s : Sh), opB P d t = some s → OpS P t s
  | 0, t, s, h => by cases h
  | d + 1, t, s, h => by
    intro H enc w fuel cs y hy
    simp only [opB] at h
    split at h
    · rename_i ht
      cases h
      obtain ⟨b, rfl, _⟩ := DataW.trod_bool ht hy
      exact ⟨b, rfl, trivial⟩
    · rename_i k ht
      cases h
      obtain ⟨n, rfl, _, hw⟩ := DataW.trod_int ht hy
      exact ⟨n, rfl, hw⟩
    · rename_i ht
      cases h
      obtain ⟨b, rfl, _, hs⟩ := DataW.trod_string ht hy
      exact ⟨b, rfl, hs⟩
    · rename_i fs ht
      split at h <;> try cases h
      rename_i s' n hl
      split at h <;> cases h
      rename_i hc
      have hc : P.cellsOf t = n := by simpa using hc
      obtain ⟨e, ih⟩ := opL_sound (opB_sound d) fs.toList 0 s n hl
      obtain ⟨xs, m, _, _, hcl, hlen, hf⟩ := DataW.trod_struct ht hy
      obtain ⟨x, hx, gx⟩ := ih H enc w m cs (fun f hf' => by
        obtain ⟨i, hi, rfl⟩ := List.getElem_of_mem hf'
        have hi' : i < fs.size := by simpa using hi
        have := hf i fs[i] (by rw [Array.getElem?_eq_getElem hi'])
        rw [List.getElem?_eq_getElem (by omega)] at this
        exact ⟨_, by simpa using this⟩)
      refine ⟨x, ?_, gx⟩
      rw [List.drop_zero, List.take_of_length_le (by omega)] at hx
      exact hx
    · cases h
/-! ### Leaves -/
def consL : List Ty → Ty
  | [] => .nil | [t] => t | t :: u :: r => .cons t (consL (u :: r))
def tyF (P : Program) (f : TypeId → Option (List Ty)) (sz : List Ty → Nat) : List Field → Nat → Option (List Ty × Nat)
  | [], off => some ([], off)
  | x :: r, off => match f x.type with
    | some l => if x.offset == off && P.cellsOf x.type == sz l then (match tyF P f sz r (off + sz l) with
      | some (l', n) => some (l ++ l', n)
      | none => none) else none
    | none => none
def tyL (P : Program) : Nat → TypeId → Option (List Ty)
  | 0, _ => none
  | d + 1, t => match P.underlying t with
    | some .bool => some [.bool] | some (.int k) => some [.int k] | some .string => some [.str]
    | some (.slice e) => (match opB P 8 e with | some s => if P.cellsOf e == s.sz then some [.slc false s] else none | none => none)
    | some (.struct fs) => (match tyF P (tyL P d) List.length fs.toList 0 with
      | some (l, n) => if P.cellsOf t == n then some l else none
      | none => none)
    | _ => none
def TyR (W : World) (t : Ty) (d : t.D) (cs hs : List Value) : Prop := hs.length = t.cnt ∧ ∀ (ρ : Rho) (b n : Nat), (∀ (i : Nat) (v : Value), hs[i]? = some v → ρ (n + i) = some v) →
  LRel ρ (t.unpack d b n).1 cs ∧ ∀ (i : Nat) (o : AObj), (t.unpack d b n).2[i]? = some o → ∃ (s : Sh) (xs : List s.T) (hd : Value), o = .row false s xs ∧ hs[i]? = some hd ∧ RowRel false s xs hd W
def OpC (W : World) (l : List Ty) (cs : List Value) : Prop := ∃ (d : (consL l).D) (hs : List Value), TyR W (consL l) d cs hs ∧ (consL l).good d
theorem TyR.cons {W : World} {a b : Ty} {x : a.D} {y : b.D} {c1 c2 h1 h2 : List Value} (p : TyR W a x c1 h1) (q : TyR W b y c2 h2) : TyR W (.cons a b) (x, y) (c1 ++ c2) (h1 ++ h2) := by
  obtain ⟨p1, p2⟩ := p
  obtain ⟨q1, q2⟩ := q
  refine ⟨by simp [Ty.cnt, p1, q1], fun ρ k n hh => ?_⟩
  have hl := (unpack_len a x k n).1
  obtain ⟨r1, r2⟩ := p2 ρ k n (fun i v hv => hh i v (by rw [List.getElem?_append_left (List.getElem?_eq_some_iff.1 hv).1]; exact hv))
  obtain ⟨s1, s2⟩ := q2 ρ k (n + a.cnt) (fun i v hv => by
    rw [Nat.add_assoc]
    exact hh (a.cnt + i) v (by rw [List.getElem?_append_right (by omega), p1, Nat.add_sub_cancel_left]; exact hv))
  simp only [Ty.unpack, hl]
  refine ⟨r1.append s1, fun i o ho => ?_⟩
  by_cases hi : i < a.cnt
  · rw [List.getElem?_append_left (by omega)] at ho
    obtain ⟨s, xs, hd, e, g1, g2⟩ := r2 i o ho
    exact ⟨s, xs, hd, e, by rw [List.getElem?_append_left (by omega)]; exact g1, g2⟩
  · rw [List.getElem?_append_right (by omega)] at ho
    obtain ⟨s, xs, hd, e, g1, g2⟩ := s2 _ o ho
    exact ⟨s, xs, hd, e, by rw [List.getElem?_append_right (by omega), p1, ← hl]; exact g1, g2⟩
theorem OpC.nil_cells {W : World} {cs : List Value} (h : OpC W [] cs) : cs = [] := by
  obtain ⟨d, hs, ⟨_, h2⟩, _⟩ := h
  have := (h2 (fun i => hs[i]?) 0 0 (fun i v hv => by rw [Nat.zero_add]; exact hv)).1
  cases cs with
  | nil => rfl
  | cons => exact this.elim
theorem OpC.cons {W : World} {t : Ty} {cs c2 : List Value} {d : t.D} {hs : List Value} (p : TyR W t d cs hs) (g : t.good d) : ∀ {r : List Ty}, OpC W r c2 → OpC W (t :: r) (cs ++ c2)
  | [], h => by
    rw [h.nil_cells, List.append_nil]
    exact ⟨d, hs, p, g⟩
  | u :: r, ⟨d2, hs2, q, g2⟩ => ⟨(d, d2), hs ++ hs2, p.cons q, g, g2⟩
def PO (W : World) (l : List Ty) (cs : List Value) : Prop := ∀ (r : List Ty) (c2 : List Value), OpC W r c2 → OpC W (l ++ r) (cs ++ c2)
theorem opC_nil (W : World) : OpC W [] [] := ⟨(), [], ⟨rfl, fun ρ b n _ => ⟨trivial, fun i o h => by simp [consL, Ty.unpack] at h⟩⟩, trivial⟩
theorem PO.whole {W : World} {l : List Ty} {cs : List Value} (h : PO W l cs) : OpC W l cs := by
  have := h [] [] (opC_nil W)
  rwa [List.append_nil, List.append_nil] at this
theorem PO.one {W : World} {t : Ty} {cs hs : List Value} {d : t.D} (p : TyR W t d cs hs) (g : t.good d) : PO W [t] cs := fun r c2 h => OpC.cons p g h
theorem PO.append {W : World} {l1 l2 : List Ty} {c1 c2 : List Value} (h : PO W l1 c1) (g : PO W l2 c2) : PO W (l1 ++ l2) (c1 ++ c2) := fun r c h2 => by
  rw [List.append_assoc, List.append_assoc]
  exact h _ _ (g r c h2)
theorem choose_list {α : Type} {R : Nat → α → Prop} (n : Nat) (h : ∀ i, i < n → ∃ x, R i x) : ∃ xs : List α, xs.length = n ∧ ∀ i x, xs[i]? = some x → R i x := by
  induction n with
  | zero => exact ⟨[], rfl, fun i x hx => by simp at hx⟩
  | succ n ih =>
    obtain ⟨xs, hl, hx⟩ := ih (fun i hi => h i (by omega))
    obtain ⟨x, hr⟩ := h n (by omega)
    refine ⟨xs ++ [x], by simp [hl], fun i z hz => ?_⟩
    by_cases hi : i < n
    · rw [List.getElem?_append_left (by omega)] at hz
      exact hx i z hz
    · have hlt := (List.getElem?_eq_some_iff.1 hz).1
      rw [List.length_append, List.length_singleton] at hlt
      have e : i = n := by omega
      subst e
      rw [List.getElem?_append_right (by omega), hl, Nat.sub_self] at hz
      obtain rfl : x = z := by simpa using hz
      exact hr
theorem flat_of (s : Sh) : ∀ (xs : List s.T) (cs : List Value), cs.length = xs.length * s.sz → (∀ (i : Nat) (x : s.T), xs[i]? = some x → ∀ (j : Nat) (u : Value), (s.vals x)[j]? = some u → cs[i * s.sz + j]? = some u) → cs = flat s xs
  | [], cs, h, _ => by simp at h; rw [h]; rfl
  | x :: xs, cs, h, hg => by
    rw [flat_cons]
    have hx := hg 0 x rfl
    simp only [Nat.zero_mul, Nat.zero_add] at hx
    have h1 : cs.take s.sz = s.vals x := by
      apply List.ext_getElem?
      intro j
      rw [List.getElem?_take]
      by_cases hj : j < s.sz
      · rw [if_pos hj]
        have hlt : j < (s.vals x).length := by rw [Sh.vals_len]; exact hj
        have hv : (s.vals x)[j]? = some ((s.vals x)[j]'hlt) := List.getElem?_eq_getElem hlt
        rw [hv]
        exact hx j _ hv
      · rw [if_neg hj, List.getElem?_eq_none (by rw [Sh.vals_len]; omega)]
    have h2 := flat_of s xs (cs.drop s.sz) (by rw [List.length_drop, h, List.length_cons, Nat.succ_mul]; omega) (fun i y hy j u hu => by
      rw [List.getElem?_drop]
      have := hg (i + 1) y (by simpa using hy) j u hu
      rw [Nat.succ_mul] at this
      rw [show s.sz + (i * s.sz + j) = i * s.sz + s.sz + j by omega]
      exact this)
    rw [← h1, ← h2, List.take_append_drop]
def okCell (w : World) (v : Value) : Prop := ∀ a len cap, v = .slice (some a) len cap → a.spot = none ∧ ∃ cs el fz, w.heap[a.block]? = some (.cells cs el fz)
theorem okCell_of {P : Program} {w : World} {r : Reach} {base : Nat} {t : TypeId} {v : Value} (h : Cell.okWide P w r base t v) : okCell w v := by
  intro a len cap e
  subst e
  unfold Cell.okWide at h
  split at h
  all_goals first
    | (rename_i heq; cases heq)
    | skip
  all_goals first
    | (rename_i h1 h2; cases h2)
    | skip
  unfold Cell.ok at h
  split at h
  all_goals first
    | (rename_i h1 h2; cases h2)
    | exact h.elim
    | skip
  obtain ⟨_, hs, row, n, hsh, _⟩ := h.2.2
  refine ⟨hs, ?_⟩
  unfold World.shape? at hsh
  split at hsh
  · rename_i cs el fz hh
    exact ⟨cs, el, fz, hh⟩
  · cases hsh
theorem okCell_all {P : Program} {w : World} {r : Reach} {base : Nat} {t : TypeId} {v : Value} (h : Value.okWide P w r base t v) : ∀ u ∈ v.cells.toList, okCell w u := by
  unfold Value.okWide at h
  have hrow : (∃ cs, v = .agg cs ∧ cs.size = P.cellsOf t ∧ Row.okWide P w r base t cs) → ∀ u ∈ v.cells.toList, okCell w u := by
    rintro ⟨cs, rfl, _, ts, _, _, hr⟩ u hu
    obtain ⟨i, hi⟩ := List.mem_iff_getElem?.1 hu
    obtain ⟨u', _, h'⟩ := hr i u (by rw [← Array.getElem?_toList]; exact hi)
    exact okCell_of h'
  split at h
  · exact hrow h
  · exact hrow h
  · intro u hu
    have hc := okCell_of h
    cases v with
    | agg cs =>
      exfalso
      unfold Cell.okWide at h
      split at h
      all_goals first
        | (rename_i h1 h2; cases h2)
        | skip
      unfold Cell.ok at h
      split at h
      all_goals first
        | (rename_i h1 h2; cases h2)
        | exact h
    | _ =>
      simp only [Value.cells, List.mem_singleton] at hu
      rw [hu]
      exact hc
/-- A slice that reads is a row. -/
theorem open_row {P : Program} {t e : TypeId} {s : Sh} (ht : P.underlying t = some (.slice e)) (he : OpS P e s) (hsz : P.cellsOf e = s.sz) {H : Type} {enc : TypeId × Value → H} {w : World} {fuel : Nat} {cs : List Value} {y : DataW H × List MemPlace}
    (h : DataW.trod enc P w 0 (fun _ => true) true fuel t cs = some y) (hok : ∀ v ∈ cs, okCell w v) : ∃ (v : Value) (xs : List s.T), cs = [v] ∧ RowRel false s xs v w ∧ xs.length ≤ maxLen ∧ ∀ x, x ∈ xs → s.good x := by
  rcases DataW.trod_slice ht h with ⟨rfl, _⟩ | ⟨a, len, cap, elems, rest, n, _, rfl, _, _, hl, hm, hlen, hel, hsh, _⟩
  · exact ⟨_, [], rfl, ⟨none, 0, rfl, Nat.le_refl _, rfl, rfl⟩, by simp, fun x hx => by simp at hx⟩
  · have h1 : ∀ i, i < len → ∃ x : s.T, (∀ j u, (s.vals x)[j]? = some u → w.cell? (a.add (i * s.sz + j)) = some u) ∧ s.good x := by
      intro i hi
      have h2 := hel i hi
      rw [List.getElem?_eq_getElem (by omega : i < elems.length)] at h2
      obtain ⟨c, hc, hy⟩ := Option.bind_eq_some_iff.1 h2
      obtain ⟨x, hK, hG⟩ := he H enc w n c _ hy
      obtain ⟨_, hcl, hcc⟩ := World.cells?_some hc
      refine ⟨x, fun j u hu => ?_, hG⟩
      subst hK
      have hj : j < s.sz := by rw [← Sh.vals_len s x]; exact (List.getElem?_eq_some_iff.1 hu).1
      have h3 := hcc j (by omega)
      rw [hsz, hu] at h3
      rw [← Addr.add_add]
      exact h3
    obtain ⟨xs, hxl, hx⟩ := choose_list len h1
    subst hxl
    obtain ⟨hsp, cells, el, fz, hh⟩ := hok (.slice (some a) xs.length cap) (by simp) a _ _ rfl
    obtain ⟨b, o, sp⟩ := a
    simp only at hsp hh
    subst hsp
    have hget : ∀ (i : Nat) (x : s.T), xs[i]? = some x → ∀ (j : Nat) (u : Value), (s.vals x)[j]? = some u → cells[o + (i * s.sz + j)]? = some u := fun i x hi j u hu => by
      have := (hx i x hi).1 j u hu
      rwa [add_lit, cell_of hh] at this
    have hlen' : xs.length * s.sz = 0 ∨ o + xs.length * s.sz ≤ cells.size := by
      rcases Nat.eq_zero_or_pos (xs.length * s.sz) with h0 | h0
      · exact .inl h0
      · right
        have hp : 0 < xs.length := Nat.pos_of_mul_pos_right h0
        have hq : 0 < s.sz := Nat.pos_of_mul_pos_left h0
        have hlx : xs.length - 1 < xs.length := by omega
        have hlv : s.sz - 1 < (s.vals (xs[xs.length - 1]'hlx)).length := by rw [Sh.vals_len]; omega
        have := hget (xs.length - 1) _ (List.getElem?_eq_getElem hlx) (s.sz - 1) _ (List.getElem?_eq_getElem hlv)
        have := (Array.getElem?_eq_some_iff.1 this).1
        have e : xs.length * s.sz = (xs.length - 1) * s.sz + s.sz := by
          conv => lhs; rw [show xs.length = xs.length - 1 + 1 by omega, Nat.succ_mul]
        omega
    refine ⟨_, xs, rfl, ⟨some ⟨b, o, none⟩, cap, rfl, hl, rfl, cells, el, fz, hh, ?_, fun e => by cases e⟩, by omega, fun x hxm => ?_⟩
    · refine flat_of s xs _ ?_ (fun i x hi j u hu => ?_)
      · have hcs : cells.toList.length = cells.size := by simp
        simp only [List.length_take, List.length_drop, hcs]
        rcases hlen' with h0 | h0
        · rw [h0]; simp
        · omega
      · have hlt : i < xs.length := (List.getElem?_eq_some_iff.1 hi).1
        have hj : j < s.sz := by rw [← Sh.vals_len s x]; exact (List.getElem?_eq_some_iff.1 hu).1
        have hm2 : (i + 1) * s.sz ≤ xs.length * s.sz := Nat.mul_le_mul_right _ hlt
        rw [Nat.succ_mul] at hm2
        rw [List.getElem?_take, if_pos (by omega), List.getElem?_drop, Array.getElem?_toList]
        exact hget i x hi j u hu
    · obtain ⟨i, hi⟩ := List.mem_iff_getElem?.1 hxm
      exact (hx i x hi).2
theorem po_nil (W : World) : PO W [] [] := fun r c h => h
theorem tyF_sound {P : Program} {f : TypeId → Option (List Ty)} (hf : ∀ t l, f t = some l → ∀ (H : Type) (enc : TypeId × Value → H) (w : World) (m : Nat) (cs : List Value) (y : DataW H × List MemPlace), DataW.trod enc P w 0 (fun _ => true) true m t cs = some y → (∀ v ∈ cs, okCell w v) → PO w l cs) :
    ∀ (fs : List Field) (off : Nat) (l : List Ty) (n : Nat), tyF P f List.length fs off = some (l, n) → n = off + l.length ∧ ∀ (H : Type) (enc : TypeId × Value → H) (w : World) (m : Nat) (cs : List Value),
      (∀ f, f ∈ fs → ∃ y, DataW.trod enc P w 0 (fun _ => true) true m f.type ((cs.drop f.offset).take (P.cellsOf f.type)) = some y) → (∀ v ∈ cs, okCell w v) → PO w l ((cs.drop off).take l.length)
  | [], off, l, n, h => by
    simp only [tyF] at h
    cases h
    exact ⟨rfl, fun H enc w m cs _ _ => by simpa using po_nil w⟩
  | x :: r, off, l, n, h => by
    simp only [tyF] at h
    split at h <;> try cases h
    rename_i l1 hl
    split at h <;> try cases h
    rename_i hc
    split at h <;> cases h
    rename_i l2 h2
    simp only [Bool.and_eq_true, beq_iff_eq] at hc
    obtain ⟨e, ih⟩ := tyF_sound hf r (off + l1.length) l2 n h2
    refine ⟨by rw [e, List.length_append]; omega, fun H enc w m cs hh hok => ?_⟩
    obtain ⟨y1, hy⟩ := hh x (by simp)
    rw [hc.1, hc.2] at hy
    have p1 := hf _ _ hl H enc w m _ y1 hy fun v hv => hok v (List.mem_of_mem_drop (List.mem_of_mem_take hv))
    have p2 := ih H enc w m cs (fun f hf' => hh f (List.mem_cons_of_mem _ hf')) hok
    rw [List.length_append, List.take_add, List.drop_drop]
    exact p1.append p2
theorem tyR_plain {W : World} {t : Ty} {d : t.D} {cs : List Value} (hc : t.cnt = 0) (ho : ∀ b n, (t.unpack d b n).2 = []) (hr : ∀ (ρ : Rho) b n, LRel ρ (t.unpack d b n).1 cs) : TyR W t d cs [] :=
  ⟨hc.symm, fun ρ b n _ => ⟨hr ρ b n, fun i o h => by rw [ho] at h; simp at h⟩⟩
theorem tyL_sound {P : Program} : ∀ (d : Nat) (t : TypeId) (l : List Ty), tyL P d t = some l → ∀ (H : Type) (enc : TypeId × Value → H) (w : World) (m : Nat) (cs : List Value) (y : DataW H × List MemPlace), DataW.trod enc P w 0 (fun _ => true) true m t cs = some y → (∀ v ∈ cs, okCell w v) → PO w l cs
  | 0, t, l, h => by cases h
  | d + 1, t, l, h => by
    intro H enc w fuel cs y hy hok
    simp only [tyL] at h
    split at h
    · rename_i ht
      cases h
      obtain ⟨b, rfl, _⟩ := DataW.trod_bool ht hy
      exact PO.one (t := .bool) (d := b) (tyR_plain rfl (fun _ _ => rfl) (fun _ _ _ => ⟨rfl, trivial⟩)) trivial
    · rename_i k ht
      cases h
      obtain ⟨n, rfl, _, hw⟩ := DataW.trod_int ht hy
      exact PO.one (t := .int k) (d := n) (tyR_plain rfl (fun _ _ => rfl) (fun _ _ _ => ⟨rfl, trivial⟩)) hw
    · rename_i ht
      cases h
      obtain ⟨b, rfl, _, hs⟩ := DataW.trod_string ht hy
      exact PO.one (t := .str) (d := b) (tyR_plain rfl (fun _ _ => rfl) (fun _ _ _ => ⟨rfl, trivial⟩)) hs
    · rename_i e ht
      split at h <;> try cases h
      rename_i s hs
      split at h <;> cases h
      rename_i hc
      have hc : P.cellsOf e = s.sz := by simpa using hc
      obtain ⟨v, xs, rfl, hr, hm, hg⟩ := open_row ht (opB_sound 8 e s hs) hc hy hok
      refine PO.one (t := .slc false s) (d := xs) (hs := [v]) ⟨rfl, fun ρ b n hh => ⟨⟨⟨hh 0 v rfl, ?_⟩, trivial⟩, fun i o ho => ?_⟩⟩ ⟨hm, hg⟩
      · obtain ⟨a, cap, e, _⟩ := hr; exact ⟨a, _, cap, e⟩
      · cases i with
        | zero =>
          simp [Ty.unpack] at ho
          exact ⟨s, xs, v, ho.symm, rfl, hr⟩
        | succ i => simp [Ty.unpack] at ho
    · rename_i fs ht
      split at h <;> try cases h
      rename_i l' n hl
      split at h <;> cases h
      rename_i hc
      have hc : P.cellsOf t = n := by simpa using hc
      obtain ⟨e, ih⟩ := tyF_sound (tyL_sound d) fs.toList 0 l n hl
      obtain ⟨xs, m, _, _, hcl, hlen, hf⟩ := DataW.trod_struct ht hy
      have := ih H enc w m cs (fun f hf' => by
        obtain ⟨i, hi, rfl⟩ := List.getElem_of_mem hf'
        have hi' : i < fs.size := by simpa using hi
        have := hf i fs[i] (by rw [Array.getElem?_eq_getElem hi'])
        rw [List.getElem?_eq_getElem (by omega)] at this
        exact ⟨_, by simpa using this⟩) hok
      rw [List.drop_zero, List.take_of_length_le (by omega)] at this
      exact this
    · cases h
def isAggT (P : Program) (t : TypeId) : Bool := match P.underlying t with | some (.struct _) => true | _ => false
def slotsB (P : Program) : Nat → List TypeId → Option (List Slot)
  | _, [] => some []
  | j, t :: ts => match tyL P 8 t with
    | some l => (match slotsB P (j + 1) ts with
      | some r => some (⟨j, isAggT P t, consL l⟩ :: r)
      | none => none)
    | none => none
def OpA (W : World) (l : List Slot) (vs : List Value) : Prop := ∃ (d : Dl l) (hs : List Value), (hs.length = cntL l ∧ ∀ (ρ : Rho) (b n : Nat), (∀ (i : Nat) (v : Value), hs[i]? = some v → ρ (n + i) = some v) →
  VRelL ρ (unpackL l d b n).1 vs ∧ ∀ (i : Nat) (o : AObj), (unpackL l d b n).2[i]? = some o → ∃ (s : Sh) (xs : List s.T) (hd : Value), o = .row false s xs ∧ hs[i]? = some hd ∧ RowRel false s xs hd W) ∧ goodL l d
theorem nonAgg {P : Program} {w : World} {r : Reach} {base : Nat} {t : TypeId} {v : Value} (ha : isAggT P t = false) (hna : ∀ n e, P.underlying t ≠ some (.array n e)) (h : Value.okWide P w r base t v) : v.cells.toList = [v] := by
  unfold Value.okWide at h
  split at h
  · rename_i h1; unfold isAggT at ha; rw [h1] at ha; cases ha
  · rename_i n e h1; exact absurd h1 (hna n e)
  · cases v with
    | agg cs =>
      exfalso
      unfold Cell.okWide at h
      split at h
      all_goals first
        | (rename_i h1 h2; cases h2)
        | skip
      unfold Cell.ok at h
      split at h
      all_goals first
        | (rename_i h1 h2; cases h2)
        | exact h
    | _ => rfl
theorem slot_open {P : Program} {W : World} {r : Reach} {base : Nat} {t : TypeId} {l : List Ty} (hl : tyL P 8 t = some l) {H : Type} {enc : TypeId × Value → H} {v : Value} {dd : DataW H} {p : List MemPlace} (hv : Value.okWide P W r base t v) (h : DataW.Trod enc P W 0 (fun _ => true) true t v dd p) :
    ∃ (d : (consL l).D) (hs : List Value), (hs.length = (consL l).cnt ∧ ∀ (ρ : Rho) (b n : Nat), (∀ (i : Nat) (v : Value), hs[i]? = some v → ρ (n + i) = some v) →
      VRel ρ (AVal.of (isAggT P t) ((consL l).unpack d b n).1) v ∧ ∀ (i : Nat) (o : AObj), ((consL l).unpack d b n).2[i]? = some o → ∃ (s : Sh) (xs : List s.T) (hd : Value), o = .row false s xs ∧ hs[i]? = some hd ∧ RowRel false s xs hd W) ∧ (consL l).good d := by
  obtain ⟨fuel, hf⟩ := h
  obtain ⟨d, hs, ⟨h1, h2⟩, hg⟩ := (tyL_sound 8 t l hl H enc W fuel _ _ hf (okCell_all hv)).whole
  refine ⟨d, hs, ⟨h1, fun ρ b n hh => ?_⟩, hg⟩
  obtain ⟨g1, g2⟩ := h2 ρ b n hh
  refine ⟨?_, g2⟩
  cases ha : isAggT P t with
  | true =>
    have : ∃ fs, P.underlying t = some (.struct fs) := by
      unfold isAggT at ha
      split at ha
      · exact ⟨_, by assumption⟩
      · cases ha
    obtain ⟨fs, ht⟩ := this
    obtain ⟨cs, rfl, _⟩ := okWide_struct ht hv
    exact ⟨cs, rfl, g1⟩
  | false =>
    have hna : ∀ n e, P.underlying t ≠ some (.array n e) := fun n e he => by simp only [tyL, he] at hl; cases hl
    rw [nonAgg ha hna hv] at g1
    generalize ((consL l).unpack d b n).1 = cs at g1
    match cs, g1 with
    | [c], g1 => exact g1.1
theorem args_open {P : Program} {W : World} {base : Nat} {H : Type} {enc : TypeId × Value → H} : ∀ (ts : List TypeId) (j : Nat) (l : List Slot) (vs : List Value) (ds : List (DataW H)) (ps : List MemPlace), slotsB P j ts = some l → DataW.TrodAll enc P W 0 (fun _ => true) true ts vs ds ps →
    (∀ (i : Nat) t v, ts[i]? = some t → vs[i]? = some v → Value.okWide P W .any base t v) → OpA W l vs
  | [], j, l, vs, ds, ps, h, hA, hv => by
    simp only [slotsB] at h
    cases h
    obtain ⟨rfl, rfl, rfl⟩ := trodAll_nil hA
    exact ⟨(), [], ⟨rfl, fun ρ b n _ => ⟨trivial, fun i o h => by simp [unpackL] at h⟩⟩, trivial⟩
  | t :: ts, j, l, vs, ds, ps, h, hA, hv => by
    simp only [slotsB] at h
    split at h <;> try cases h
    rename_i lt hlt
    split at h <;> cases h
    rename_i r hr
    obtain ⟨v, vs', dd, ds', p, q, rfl, rfl, rfl, h1, h2⟩ := trodAll_cons hA
    obtain ⟨d, hs, ⟨g1, g2⟩, gg⟩ := slot_open hlt (hv 0 t v rfl rfl) h1
    obtain ⟨d', hs', ⟨g1', g2'⟩, gg'⟩ := args_open ts (j + 1) r vs' ds' q hr h2 (fun i t v a b => hv (i + 1) t v (by simpa using a) (by simpa using b))
    match r, d', g1', g2', gg' with
    | [], d', g1', g2', gg' =>
      have hvs : vs' = [] := by
        have := (g2' (fun i => hs'[i]?) 0 0 (fun i v h => by rw [Nat.zero_add]; exact h)).1
        cases vs' with
        | nil => rfl
        | cons => exact this.elim
      subst hvs
      refine ⟨d, hs, ⟨by simpa [cntL] using g1, fun ρ b n hh => ?_⟩, gg⟩
      obtain ⟨q1, q2⟩ := g2 ρ b n hh
      exact ⟨⟨q1, trivial⟩, q2⟩
    | s :: r, d', g1', g2', gg' =>
      refine ⟨(d, d'), hs ++ hs', ⟨by rw [List.length_append, g1, g1']; rfl, fun ρ b n hh => ?_⟩, gg, gg'⟩
      have hl := (unpack_len (consL lt) d b n).1
      obtain ⟨q1, q2⟩ := g2 ρ b n (fun i v hi => hh i v (by rw [List.getElem?_append_left (List.getElem?_eq_some_iff.1 hi).1]; exact hi))
      obtain ⟨q1', q2'⟩ := g2' ρ b (n + (consL lt).cnt) (fun i v hi => by
        rw [Nat.add_assoc]
        exact hh ((consL lt).cnt + i) v (by rw [List.getElem?_append_right (by omega), g1, Nat.add_sub_cancel_left]; exact hi))
      simp only [unpackL, hl]
      refine ⟨⟨q1, q1'⟩, fun i o ho => ?_⟩
      by_cases hi : i < (consL lt).cnt
      · rw [List.getElem?_append_left (by omega)] at ho
        obtain ⟨s, xs, hd, e, w1, w2⟩ := q2 i o ho
        exact ⟨s, xs, hd, e, by rw [List.getElem?_append_left (by omega)]; exact w1, w2⟩
      · rw [List.getElem?_append_right (by omega)] at ho
        obtain ⟨s, xs, hd, e, w1, w2⟩ := q2' _ o ho
        exact ⟨s, xs, hd, e, by rw [List.getElem?_append_right (by omega), g1, ← hl]; exact w1, w2⟩
/-- A law whose function answers true on all good data holds at its row. -/
theorem row_calls {P : Program} {f : FuncId} {fn : Func} (hf : P.funcs[f]? = some fn) (hnm : (fn.name == "runtime.NumGoroutine") = false) (hb : fn.body.isSome = true) {ins : List Slot} {src : Nat} {W : World} {args : Array Value} (hO : OpA W ins args.toList)
    (hWI : WI W) (hspec : ∀ d, goodL ins d → FnSpec P f ins [] [⟨src, false, .bool⟩] d true) : Calls P f args W fun e W' => e = .returned (.bool true) ∧ RowKit.Below W.heap.size W W' := by
  obtain ⟨d, hs, ⟨h1, h2⟩, hg⟩ := hO
  obtain ⟨hrel, hobj⟩ := h2 (fun i => hs[i]?) 0 0 (fun i v h => by rw [Nat.zero_add]; exact h)
  have hol : ∀ i o, (unpackL ins d 0 0).2.getD i .dead = o → o.live = true → (unpackL ins d 0 0).2[i]? = some o := fun i o h hl => by
    rw [List.getD_eq_getElem?_getD] at h
    cases hx : (unpackL ins d 0 0).2[i]? with
    | none => rw [hx] at h; subst h; cases hl
    | some x => rw [hx] at h; exact congrArg some h
  have H : HR W (hs.filterMap fun v => blk (some v)) ⟨[], W, hWI⟩ (fun i => (unpackL ins d 0 0).2.length ≤ i) (fun i => hs[i]?) (getF (ups 0 (unpackL ins d 0 0).2)) W := by
    refine ⟨Fr.refl W _ ⟨Nat.le_refl _, fun _ _ => rfl, fun b hb => by cases hb⟩, fun i hi => ?_, fun i => ?_, fun i j _ b ho _ => ?_, fun i b hb => ?_, fun i b ho => ?_⟩
    · rw [unpackL_len, ← h1] at hi
      exact List.getElem?_eq_none hi
    · rw [getF_ups0]
      cases hx : (unpackL ins d 0 0).2[i]? with
      | none => rw [List.getD_eq_getElem?_getD, hx]; trivial
      | some o =>
        obtain ⟨s, xs, hd, rfl, g1, g2⟩ := hobj i o hx
        rw [List.getD_eq_getElem?_getD, hx]
        exact ⟨hd, g1, g2⟩
    · rw [getF_ups0] at ho
      obtain ⟨s, xs, hd, e, _⟩ := hobj i _ (hol i _ rfl (fp_live (fpw_fp ho)))
      rw [e] at ho
      have := fpw_raw ho
      cases this
    · right
      rw [getF_ups0] at hb
      obtain ⟨s, xs, hd, e, _⟩ := hobj i _ (hol i _ rfl (fp_live hb))
      rw [e] at hb
      have hb : blk hs[i]? = some b := hb
      cases hx : hs[i]? with
      | none => rw [hx] at hb; cases hb
      | some v =>
        rw [hx] at hb
        exact List.mem_filterMap.2 ⟨v, List.mem_of_getElem? hx, hb⟩
    · rw [getF_ups0] at ho
      obtain ⟨s, xs, hd, e, _⟩ := hobj i _ (hol i _ rfl (fp_live (fpw_fp ho)))
      rw [e] at ho
      have := fpw_raw ho
      cases this
  have C := hspec d hg _ _ _ args W hrel H
  unfold CallsF at C
  have hcf : (callFunc f args).run P W = .ok (.enter f args) W := by
    have hn2 : ¬ fn.name = "runtime.NumGoroutine" := by simpa using hnm
    have hbn : ¬ fn.body = none := by intro e; rw [e] at hb; cases hb
    simp [callFunc, hf, hn2, hbn]
  rw [hcf] at C
  refine C.mono fun e W' he => ?_
  obtain ⟨v, rfl, Ux, ρx, hv, _, X⟩ := he
  have hv : v = .bool true := hv
  subst hv
  exact ⟨rfl, X.fr.os, X.fr.tape, X.fr.output, X.fr.size, fun b hb => X.fr.block b hb fun h => by cases h⟩
end Go.Proofs.YtiaagflfiphioaaDoorS
