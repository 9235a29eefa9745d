/- slices.SortFunc at a row, out of what the kit tells of it. -/
import Derived.Test.YtblgfbkifhfjpaaGreatDoorSimFs
import Derived.Shelf.SlSortCmp.NoneTotal
import Derived.Laws.BitsLemmas
namespace Go.Proofs.YtblgfbkifhfjpaaGreatDoorS
open Go Go.Sort
set_option linter.unusedVariables false
set_option linter.unusedSimpArgs false

/-- The sorted row, to the element. -/
def sortL {α : Type} [Inhabited α] (cf : α → α → Int) (l : List α) : List α := (pdq (ltOf cf) l.toArray 0 l.length (Lib.bitLen l.length) true true).toList
theorem flat_get? (s : Sh) (xs : List s.T) (t : Nat) (h : t < xs.length * s.sz) : (flat s xs)[t]? = (s.vals (xs.getD (t / s.sz) s.dft))[t % s.sz]? := by
  have h0 : 0 < s.sz := Nat.pos_of_ne_zero fun e => by rw [e] at h; simp at h
  have hi : t / s.sz < xs.length := Nat.div_lt_of_lt_mul (by rwa [Nat.mul_comm] at h)
  rw [← flat_get s xs _ hi, List.getElem?_take, if_pos (Nat.mod_lt _ h0), List.getElem?_drop]
  congr 1
  rw [Nat.mul_comm]
  exact (Nat.div_add_mod t s.sz).symm
theorem flatK_flat (s : Sh) {α : Type} [Inhabited α] (v : α → s.T) (l : List α) : (flatK (fun x => s.vals (v x)) s.sz l.toArray).toList = flat s (l.map v) := by
  apply List.ext_getElem?
  intro t
  by_cases ht : t < l.length * s.sz
  · have h0 : 0 < s.sz := Nat.pos_of_ne_zero fun e => by rw [e] at ht; simp at ht
    have hi : t / s.sz < l.length := Nat.div_lt_of_lt_mul (by rwa [Nat.mul_comm] at ht)
    rw [flat_get? s _ t (by rw [List.length_map]; exact ht)]
    unfold flatK
    simp only [Array.toList_map, List.getElem?_map]
    rw [Array.getElem?_toList, Array.getElem?_eq_getElem (by simpa using ht)]
    simp only [Array.getElem_range, Option.map_some]
    have e1 : l.toArray[t / s.sz]! = l[t / s.sz] := by rw [getElem!_pos l.toArray (t / s.sz) (by simpa using hi)]; rfl
    have e2 : (l.map v).getD (t / s.sz) s.dft = v l[t / s.sz] := by rw [List.getD_eq_getElem?_getD, List.getElem?_map, List.getElem?_eq_getElem hi]; rfl
    rw [e1, e2]
    have hl : t % s.sz < (s.vals (v l[t / s.sz])).length := by rw [Sh.vals_len]; exact Nat.mod_lt _ h0
    rw [getElem!_pos (s.vals (v l[t / s.sz])) (t % s.sz) hl, List.getElem?_eq_getElem hl]
  · rw [List.getElem?_eq_none (by simp; omega), List.getElem?_eq_none (by rw [flat_len]; simp; omega)]
theorem sortL_perm {α : Type} [Inhabited α] {cf : α → α → Int} (hO : SWO (ltOf cf)) (l : List α) : (sortL cf l).Perm l ∧ (sortL cf l).Pairwise (fun x y => ltOf cf y x = false) := by
  have h := pdq_sorts (ltOf cf) hO l.toArray 0 l.length (Lib.bitLen l.length) true true (Nat.zero_le _) (by simp) (Or.inl rfl)
  obtain ⟨⟨h1, _, h3⟩, h4⟩ := h
  have h1 : (pdq (ltOf cf) l.toArray 0 l.length (Lib.bitLen l.length) true true).size = l.length := by simpa using h1
  unfold sortL
  generalize pdq (ltOf cf) l.toArray 0 l.length (Lib.bitLen l.length) true true = d at h1 h3 h4
  constructor
  · have e1 : d.extract 0 l.length = d := by rw [← h1]; simp
    have e2 : l.toArray.extract 0 l.length = l.toArray := by simp
    rw [e1, e2] at h3
    exact h3
  · rw [List.pairwise_iff_getElem]
    intro i j hi hj hij
    have hi' : i < d.size := by simpa using hi
    have hj' : j < d.size := by simpa using hj
    have := h4 i j (Nat.zero_le _) hij (by omega)
    rw [getElem!_pos d i hi', getElem!_pos d j hj'] at this
    simpa using this
/-- slices.SortFunc at elements of a kind (p) under which the order is one. -/
def sortB {s : Sh} (p : s.T → Bool) (x0 : { x : s.T // p x = true }) (cf : s.T → s.T → Int) (l : List s.T) : Option (List s.T) :=
  if h : (∀ x ∈ l, p x = true) ∧ l.length < 4611686018427387904 then some ((@sortL _ ⟨x0⟩ (fun a b : { x : s.T // p x = true } => cf a.1 b.1) (l.attachWith (fun x => p x = true) h.1)).map Subtype.val) else none
theorem sort_calls {P : Program} {f : FuncId} (s : Sh) (p : s.T → Bool) (x0 : { x : s.T // p x = true }) (cf : s.T → s.T → Int) (g : FuncId)
    (hO : @SWO _ (ltOf (fun a b : { x : s.T // p x = true } => cf a.1 b.1)))
    (hc : ∀ (blk off cap : Nat) (d : Array { x : s.T // p x = true }) (w : World), @HoldsK _ ⟨x0⟩ (fun x => s.vals x.1) s.sz w blk off d → blk < w.heap.size → d.size < 4611686018427387904 →
      Calls P f #[.slice (some ⟨blk, off, none⟩) d.size cap, .func (.func g) #[] #[]] w fun e w' => e = .returned (.tuple #[]) ∧ ∃ n os, w' = @sortWorldK _ ⟨x0⟩ (fun x => s.vals x.1) s.sz w blk off n (@pdq _ ⟨x0⟩ (ltOf (fun a b : { x : s.T // p x = true } => cf a.1 b.1)) d 0 d.size (Lib.bitLen d.size) true true) os)
    (hnil : ∀ (a : Option Addr) (cap : Nat) (fv : Value) (w : World), Calls P f #[.slice a 0 cap, fv] w fun e w' => e = .returned (.tuple #[]) ∧ RowKit.Below w.heap.size w w')
    (l : List s.T) (l' : List { x : s.T // p x = true }) (el : l'.map Subtype.val = l) (hsz : l.length < 4611686018427387904) {a : Option Addr} {cap : Nat} {w : World} (hR : RowRel true s l (.slice a l.length cap) w) :
    Calls P f #[.slice a l.length cap, .func (.func g) #[] #[]] w fun e w' => e = .returned (.tuple #[]) ∧ RowRel true s ((@sortL _ ⟨x0⟩ (fun a b : { x : s.T // p x = true } => cf a.1 b.1) l').map Subtype.val) (.slice a l.length cap) w' ∧ w'.os = w.os ∧ w'.tape = w.tape ∧ w'.output = w.output ∧ w.heap.size ≤ w'.heap.size ∧ ∀ b, b < w.heap.size → blk (some (.slice a l.length cap)) ≠ some b → w'.heap[b]? = w.heap[b]? := by
  letI : Inhabited { x : s.T // p x = true } := ⟨x0⟩
  have ell : l'.length = l.length := by rw [← el, List.length_map]
  have hperm := (sortL_perm hO l').1
  have eyl : ((sortL (fun a b : { x : s.T // p x = true } => cf a.1 b.1) l').map Subtype.val).length = l.length := by rw [List.length_map, hperm.length_eq, ell]
  obtain ⟨a', cap', e, hle, hrow⟩ := hR
  cases e
  cases a with
  | none =>
    obtain ⟨hx0, rfl⟩ := hrow
    have hx0 : l = [] := hx0
    subst hx0
    refine (hnil _ _ _ w).mono fun e w' h => ?_
    obtain ⟨rfl, bel⟩ := h
    have e0 : (sortL (fun a b : { x : s.T // p x = true } => cf a.1 b.1) l').map Subtype.val = [] := List.eq_nil_of_length_eq_zero eyl
    rw [e0]
    exact ⟨rfl, ⟨none, 0, rfl, Nat.le_refl _, rfl, rfl⟩, bel.os, bel.tape, bel.output, bel.size, fun b hb _ => bel.block b hb⟩
  | some ad =>
    obtain ⟨hsp, cs, el0, fz, hh, ht, hown⟩ := hrow
    obtain ⟨blk0, off, sp⟩ := ad
    obtain ⟨hoff, hcsz, hfz⟩ := hown rfl
    simp only at hsp hh ht hoff
    subst hsp hoff
    have hblk : blk0 < w.heap.size := (Array.getElem?_eq_some_iff.1 hh).1
    have hfl : ∀ j, j < l.length * s.sz → cs.toList[j]? = (flat s l)[j]? := fun j hj => by
      rw [← ht, List.drop_zero, List.getElem?_take, if_pos hj]
    have hH : HoldsK (fun x : { x : s.T // p x = true } => s.vals x.1) s.sz w blk0 0 l'.toArray := by
      intro j hj
      have hj' : j < l.length * s.sz := by simpa [ell] using hj
      rw [Nat.zero_add]
      have e2 := congrArg (fun r : List Value => r[j]?) (flatK_flat s (fun x : { x : s.T // p x = true } => x.1) l')
      have e2 : (flatK (fun x : { x : s.T // p x = true } => s.vals x.1) s.sz l'.toArray).toList[j]? = (flat s (l'.map Subtype.val))[j]? := e2
      rw [el] at e2
      rw [Array.getElem?_toList, Array.getElem?_eq_getElem hj] at e2
      constructor
      · rw [cell_of hh, ← Array.getElem?_toList, hfl j hj', ← e2, getElem!_pos _ j hj]
        rfl
      · refine frozen_of hh (hfz j ?_)
        rw [hcsz]
        exact Nat.lt_of_lt_of_le hj' (Nat.mul_le_mul_right _ hle)
    have hcall := hc blk0 0 cap l'.toArray w hH hblk (by simpa [ell] using hsz)
    rw [show l'.toArray.size = l.length by simpa using ell] at hcall
    refine hcall.mono fun e w' h => ?_
    obtain ⟨rfl, n, os, rfl⟩ := h
    obtain ⟨d', hd'⟩ : ∃ d', d' = pdq (ltOf (fun a b : { x : s.T // p x = true } => cf a.1 b.1)) l'.toArray 0 l.length (Lib.bitLen l.length) true true := ⟨_, rfl⟩
    have eyd : sortL (fun a b : { x : s.T // p x = true } => cf a.1 b.1) l' = d'.toList := by rw [hd']; unfold sortL; rw [ell]
    rw [← hd', eyd]
    have edl : d'.toList.length = l.length := by rw [← eyd, hperm.length_eq, ell]
    have hheap : ∀ b, b < w.heap.size → (sortWorldK (fun x : { x : s.T // p x = true } => s.vals x.1) s.sz w blk0 0 n d' os).heap[b]? = if b = blk0 then some (.cells (putCells id 0 (flatK (fun x : { x : s.T // p x = true } => s.vals x.1) s.sz d') cs) el0 fz) else w.heap[b]? := fun b hb => by
      unfold sortWorldK putRowK putRow mapBlock grow
      rw [Array.getElem?_append_left (by simpa [Sort.ahead] using hb)]
      simp only [Sort.ahead, Array.getElem?_modify]
      by_cases hbb : blk0 = b
      · subst hbb
        rw [if_pos rfl, if_pos rfl, hh]
        rfl
      · rw [if_neg hbb, if_neg fun e => hbb e.symm]
    refine ⟨rfl, ⟨some ⟨blk0, 0, none⟩, cap, by rw [List.length_map, edl], by rw [List.length_map, edl]; exact hle, rfl, _, el0, fz, by rw [hheap blk0 hblk, if_pos rfl], ?_, fun _ => ⟨rfl, by simpa [putCells] using hcsz, fun o ho => hfz o (by simpa [putCells] using ho)⟩⟩, rfl, rfl, rfl, ?_, fun b hb hne => ?_⟩
    · have e3 := flatK_flat s (fun x : { x : s.T // p x = true } => x.1) d'.toList
      have e3 : (flatK (fun x : { x : s.T // p x = true } => s.vals x.1) s.sz d').toList = flat s (d'.toList.map Subtype.val) := e3
      rw [← e3, List.drop_zero]
      have hds : d'.size = l.length := by simpa using edl
      have hcl : l.length * s.sz ≤ cs.size := by rw [hcsz]; exact Nat.mul_le_mul_right _ hle
      apply List.ext_getElem?
      intro j
      rw [List.getElem?_take, List.length_map, edl]
      by_cases hj : j < l.length * s.sz
      · have hj2 : j < (flatK (fun x : { x : s.T // p x = true } => s.vals x.1) s.sz d').size := by rw [size_flatK, hds]; exact hj
        rw [if_pos hj, Array.getElem?_toList, Array.getElem?_toList, putCells, Array.getElem?_mapIdx, Array.getElem?_eq_getElem (by omega), Option.map_some, if_pos ⟨Nat.zero_le _, by omega⟩, Nat.sub_zero, getElem!_pos _ j hj2, Array.getElem?_eq_getElem hj2]
        rfl
      · rw [if_neg hj, List.getElem?_eq_none (by rw [Array.length_toList, size_flatK, hds]; omega)]
    · unfold sortWorldK putRowK putRow mapBlock grow
      simp [Sort.ahead]
    · rw [hheap b hb, if_neg fun e => hne (by rw [e]; rfl)]
theorem sort_ok {P : Program} {f : FuncId} {fn : Func} (hf : P.funcs[f]? = some fn) (hnm : (fn.name == "runtime.NumGoroutine") = false) (hb : fn.body.isSome = true) (s : Sh) (p : s.T → Bool) (x0 : { x : s.T // p x = true }) (cf : s.T → s.T → Int) (g : FuncId)
    (hO : @SWO _ (ltOf (fun a b : { x : s.T // p x = true } => cf a.1 b.1)))
    (hc : ∀ (blk off cap : Nat) (d : Array { x : s.T // p x = true }) (w : World), @HoldsK _ ⟨x0⟩ (fun x => s.vals x.1) s.sz w blk off d → blk < w.heap.size → d.size < 4611686018427387904 →
      Calls P f #[.slice (some ⟨blk, off, none⟩) d.size cap, .func (.func g) #[] #[]] w fun e w' => e = .returned (.tuple #[]) ∧ ∃ n os, w' = @sortWorldK _ ⟨x0⟩ (fun x => s.vals x.1) s.sz w blk off n (@pdq _ ⟨x0⟩ (ltOf (fun a b : { x : s.T // p x = true } => cf a.1 b.1)) d 0 d.size (Lib.bitLen d.size) true true) os)
    (hnil : ∀ (a : Option Addr) (cap : Nat) (fv : Value) (w : World), Calls P f #[.slice a 0 cap, fv] w fun e w' => e = .returned (.tuple #[]) ∧ RowKit.Below w.heap.size w w') :
    EntOk P (.fr f [⟨0, false, .slc true s⟩, ⟨1, false, .clo g .nil⟩] [0] [] fun d => (sortB p x0 cf d.1).map fun r => ((), r)) := by
  letI : Inhabited { x : s.T // p x = true } := ⟨x0⟩
  rintro ⟨(l : List s.T), u⟩ ⟨u', (ys : List s.T)⟩ hr
  have hr : (sortB p x0 cf l).map (fun r => ((), r)) = some ((), ys) := hr
  obtain ⟨ys', hr2, e⟩ := Option.map_eq_some_iff.1 hr
  obtain rfl : ys' = ys := congrArg Prod.snd e
  clear hr
  unfold sortB at hr2
  by_cases hl : (∀ x ∈ l, p x = true) ∧ l.length < 4611686018427387904
  rotate_left
  · rw [dif_neg hl] at hr2
    cases hr2
  rw [dif_pos hl] at hr2
  obtain rfl := Option.some.inj hr2
  obtain ⟨hl, hsz⟩ := hl
  obtain ⟨l', hl'⟩ : ∃ l' : List { x : s.T // p x = true }, l' = l.attachWith (fun x => p x = true) hl := ⟨_, rfl⟩
  have el : l'.map Subtype.val = l := by rw [hl']; exact List.attachWith_map_subtype_val hl
  have ell : l'.length = l.length := by rw [hl']; simp
  rw [← hl']
  have hperm := (sortL_perm hO l').1
  have eyl : ((sortL (fun a b : { x : s.T // p x = true } => cf a.1 b.1) l').map Subtype.val).length = l.length := by rw [List.length_map, hperm.length_eq, ell]
  intro A W ρ args w hargs H
  unfold CallsF
  have hcf : (callFunc f args).run P w = .ok (.enter f args) w := by
    have hn2 : ¬ fn.name = "runtime.NumGoroutine" := by simpa using hnm
    have hbn : ¬ fn.body = none := by intro e; rw [e] at hb; cases hb
    simp [callFunc, hf, hn2, hbn]
  rw [hcf]
  obtain ⟨L⟩ := args
  match L, hargs with
  | [x, y], ⟨hx, hy, _⟩ =>
    have h0 := H.obj 0
    rw [getF_ups0] at h0
    obtain ⟨hx, hxs⟩ := hx
    obtain ⟨cs0, rfl, hcaps⟩ := hy
    have hcs0 : cs0 = #[] := by
      obtain ⟨cl⟩ := cs0
      cases cl with
      | nil => rfl
      | cons a b => exact hcaps.elim
    subst hcs0
    obtain ⟨hd, e1, a, cap, rfl, hle, hrow⟩ := h0
    rw [hx] at e1
    obtain rfl := Option.some.inj e1
    have hF : ∀ (r : List s.T) (i : Nat), getF (ups 0 [AObj.row true s r]) i = if i = 0 then .row true s r else .dead := fun r i => by
      rw [getF_ups0]
      cases i <;> simp
    have hF1 : getF (ups 0 [AObj.row true s l]) 0 = .row true s l := by rw [hF, if_pos rfl]
    have H0 : (getF (ups 0 (unpackL [⟨0, false, .slc true s⟩, ⟨1, false, .clo g .nil⟩] (l, u) 0 0).2) 0) = .row true s l := hF1
    have locA : ∀ b, blk (ρ 0) = some b → w.heap.size ≤ b ∨ b ∈ A := fun b hb => H.loc 0 b (by rw [H0]; rfl) hb
    have locW : ∀ b, blk (ρ 0) = some b → w.heap.size ≤ b ∨ b ∈ W := fun b hb => H.locw 0 b (by rw [H0]; rfl) hb
    have key := sort_calls s p x0 cf g hO hc hnil l l' el hsz (w := w) ⟨a, cap, rfl, hle, hrow⟩
    refine Calls.mono key fun e w' he => ?_
    obtain ⟨rfl, hrr, h1, h2, h3, h4, h5⟩ := he
    refine ⟨_, rfl, fun i => i ≠ 0, fun i => if i = 0 then some (.slice a l.length cap) else none, ⟨#[], rfl, trivial⟩, ⟨⟨if_pos rfl, hxs⟩, trivial⟩, ?_⟩
    show HR w A W (fun i => i ≠ 0) (fun i => if i = 0 then some (.slice a l.length cap) else none) (getF (ups 0 [AObj.row true s ((sortL (fun a b : { x : s.T // p x = true } => cf a.1 b.1) l').map Subtype.val)])) w'
    refine ⟨⟨h1, h2, h3, h4, fun b hb hn => h5 b hb fun e => ?_, H.fr.ok⟩, fun i hi => by simp [hi], fun i => ?_, fun i j hij ho hl b _ _ => ?_, fun i b hl hb => ?_, fun i b ho hb => ?_⟩
    · rcases locW b (by rw [hx]; exact e) with h | h
      · omega
      · exact hn h
    · rw [hF]
      by_cases hi : i = 0
      · rw [if_pos hi, if_pos hi]
        exact ⟨_, rfl, hrr⟩
      · rw [if_neg hi]
        trivial
    · exfalso
      rw [hF] at ho hl
      by_cases hi : i = 0
      · by_cases hj : j = 0
        · exact hij (hi.trans hj.symm)
        · rw [if_neg hj] at hl; cases hl
      · rw [if_neg hi] at ho; cases ho
    · by_cases hi : i = 0
      · rw [if_pos hi] at hb
        exact locA b (by rw [hx]; exact hb)
      · rw [if_neg hi] at hb; cases hb
    · by_cases hi : i = 0
      · rw [if_pos hi] at hb
        exact locW b (by rw [hx]; exact hb)
      · rw [if_neg hi] at hb; cases hb
/-! ### Spots -/
def nearS (a : Int × (Int × Int)) : Bool := decide ((-1000000 ≤ a.1 ∧ a.1 ≤ 1000000) ∧ (-1000000 ≤ a.2.1 ∧ a.2.1 ≤ 1000000))
def nearS0 : { x : Int × (Int × Int) // nearS x = true } := ⟨(0, (0, 0)), by decide⟩
theorem nearS_lt {a b : Int × (Int × Int)} (ha : nearS a = true) (hb : nearS b = true) : cmpS a b < 0 ↔ a.2.1 < b.2.1 ∨ (a.2.1 = b.2.1 ∧ a.1 < b.1) := by
  have ha := of_decide_eq_true ha
  have hb := of_decide_eq_true hb
  have w : ∀ n : Int, -9223372036854775808 ≤ n → n ≤ 9223372036854775807 → w64 n = n := fun n h h' => by
    unfold w64
    rw [IntKind.wrap_i64]
    omega
  unfold cmpS
  split
  · rw [w _ (by omega) (by omega)]; omega
  · rw [w _ (by omega) (by omega)]; omega
theorem nearS_swo : @SWO _ (ltOf (fun a b : { x : Int × (Int × Int) // nearS x = true } => cmpS a.1 b.1)) := by
  constructor
  · intro x
    refine decide_eq_false fun h => ?_
    have := (nearS_lt x.2 x.2).1 h
    omega
  · intro x y z h1 h2
    have h1 := (nearS_lt x.2 y.2).1 (of_decide_eq_true h1)
    have h2 := (nearS_lt y.2 z.2).1 (of_decide_eq_true h2)
    exact decide_eq_true ((nearS_lt x.2 z.2).2 (by omega))
  · intro x y z h1 h2
    have h1 : ¬ _ := fun h => of_decide_eq_false h1 ((nearS_lt x.2 y.2).2 h)
    have h2 : ¬ _ := fun h => of_decide_eq_false h2 ((nearS_lt y.2 z.2).2 h)
    refine decide_eq_false fun h => ?_
    have := (nearS_lt x.2 z.2).1 h
    omega
/-! ### Plains out of maps -/
abbrev SpS : Sh := .pair (.int .i64) (.pair (.int .i64) (.int .i64))
/-- The plain of a map: its spots sorted; none if two entries have one key. -/
noncomputable def plainB (d : ByteArray × List ((Int × Int) × Int) × Int × Int × Int) : Option (ByteArray × List (Int × Int × Int) × Int × Int × Int) :=
  open Classical in if h : d.2.1.length ≤ 1048576 ∧ ∃ ys : List SpS.T, ∀ xs : List SpS.T, xs.Perm (d.2.1.map fun e => ((e.1.1, e.1.2, e.2) : Int × Int × Int)) → sortB (s := SpS) nearS nearS0 cmpS xs = some ys then some (d.1, h.2.choose, d.2.2) else none
end Go.Proofs.YtblgfbkifhfjpaaGreatDoorS
