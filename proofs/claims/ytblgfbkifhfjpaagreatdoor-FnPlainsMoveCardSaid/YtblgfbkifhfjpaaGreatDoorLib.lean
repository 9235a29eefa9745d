/- The library's functions at this seat (printed by wip/sim/gen.py). -/
import Derived.Test.YtblgfbkifhfjpaaGreatDoorSimSo
import Derived.Test.YtblgfbkifhfjpaaGreatDoorSimFs
import Derived.Test.YtblgfbkifhfjpaaGreatDoorShelf
import Derived.WalkKit
import Derived.Defers
import Derived.RegionCalls
import Derived.Deep.WholeRow
import Derived.Maps.RangeRun
import Derived.Deep.RegionHeld3
import Derived.OwnWalk
import Derived.LoopTactic
import Derived.LoopN
import Derived.Laws.IdiomRangeMap
import Derived.Laws.AppendOwn
import Derived.Laws.Append
import Derived.Handy
import Derived.Deep.LoopGhost
import Derived.Deep.RegionLaw
import Derived.Shelf.Strings.SlTrimAscii
namespace Go.Proofs.YtblgfbkifhfjpaaGreatDoorS
open Go Go.Proofs Go.RowKit Go.Shelf Go.Sort
set_option linter.unusedVariables false
set_option maxRecDepth 100000
theorem strTrim_calls (a b : ByteArray) (r : ByteArray) (w : World) (h : strTrim a b = some r) : Calls Tryz.prog 75 #[.string a, .string b] w fun e w' => e = .returned (.string r) ∧ Below w.heap.size w w' := by
  unfold strTrim at h
  split at h
  · rename_i hc
    obtain ⟨h0, h1, h2⟩ := hc
    obtain rfl := Option.some.inj h
    exact Any.strings_Trim_laid Tryz.lays160 (by kernel_rfl) a b w h0 h1 (ascii_of_all h2)
  · cases h
theorem w64_wrap (n : Int) : w64 n = wrap64 n := by
  unfold w64
  rw [IntKind.wrap_i64]
  unfold wrap64
  rfl
theorem two_alloc (w : World) (o p : Obj) : (w.alloc o).alloc p = grow (w.drewN 0) #[o, p] := by
  have e : (w.heap.push o).push p = w.heap ++ #[o, p] := by
    apply Array.toList_inj.1
    simp
  show ({ w with heap := (w.heap.push o).push p } : World) = { w with heap := w.heap ++ #[o, p] }
  rw [e]
theorem cmp55_calls (a b c x y z : Int) (w : World) : Calls Tryz.prog 55 #[.agg #[.int .i64 a, .int .i64 b, .int .i64 c], .agg #[.int .i64 x, .int .i64 y, .int .i64 z]] w fun e w' => e = .returned (.int .i64 (cmpS (a, (b, c)) (x, (y, z)))) ∧ ∃ q os', w' = grow (w.drewN q) os' := by
  have e1 : (b != y) = true → cmpS (a, (b, c)) (x, (y, z)) = wrap64 (b - y) := fun h => by
    show (if b = y then w64 (a - x) else w64 (b - y)) = _
    rw [if_neg (by simpa using h)]
    exact w64_wrap _
  have e2 : (b != y) = false → cmpS (a, (b, c)) (x, (y, z)) = wrap64 (a - x) := fun h => by
    show (if b = y then w64 (a - x) else w64 (b - y)) = _
    rw [if_pos (by simpa using h)]
    exact w64_wrap _
  go_enter Tryz.func55, Tryz.ntmps55
  go_wp2
  all_goals go_ret
  · rename_i h
    exact ⟨by rw [e1 h]; rfl, 0, _, two_alloc _ _ _⟩
  · rename_i h
    exact ⟨by rw [e2 h]; rfl, 0, _, two_alloc _ _ _⟩
theorem cmp55_lays {blk off size : Nat} {w : World} : @CmpLays { x : Int × (Int × Int) // nearS x = true } ⟨nearS0⟩ Tryz.prog 55 #[] (fun x => (Sh.pair (.int .i64) (.pair (.int .i64) (.int .i64))).vals x.1) 3 (fun a b => cmpS a.1 b.1) blk off size w :=
  fun _ _ _ _ x y => cmp55_calls x.1.1 x.1.2.1 x.1.2.2 y.1.1 y.1.2.1 y.1.2.2 _
theorem sort80_calls (l ys : List (Sh.pair (.int .i64) (.pair (.int .i64) (.int .i64))).T) (h : sortB (s := .pair (.int .i64) (.pair (.int .i64) (.int .i64))) nearS nearS0 cmpS l = some ys) {a : Option Addr} {cap : Nat} {w : World} (hR : RowRel true (.pair (.int .i64) (.pair (.int .i64) (.int .i64))) l (.slice a l.length cap) w) :
    Calls Tryz.prog 80 #[.slice a l.length cap, .func (.func 55) #[] #[]] w fun e w' => e = .returned (.tuple #[]) ∧ RowRel true (.pair (.int .i64) (.pair (.int .i64) (.int .i64))) ys (.slice a l.length cap) w' ∧ w'.os = w.os ∧ w'.tape = w.tape ∧ w'.output = w.output ∧ w.heap.size ≤ w'.heap.size ∧ ∀ b, b < w.heap.size → blk (some (.slice a l.length cap)) ≠ some b → w'.heap[b]? = w.heap[b]? := by
  unfold sortB at h
  split at h
  · rename_i hc
    obtain rfl := Option.some.inj h
    exact sort_calls (.pair (.int .i64) (.pair (.int .i64) (.int .i64))) nearS nearS0 cmpS 55 nearS_swo
      (fun blk off cap d w hH hb hs => @Tryz.slices_SortFunc_eq { x : Int × (Int × Int) // nearS x = true } ⟨nearS0⟩ 3 (fun w => run_isAgg (by kernel_rfl) w) (fun w => run_sizeOf (by kernel_rfl) w) (fun x => (Sh.pair (.int .i64) (.pair (.int .i64) (.int .i64))).vals x.1) (fun x => Sh.vals_len _ _) (fun x => Sh.one _ _) (fun a b => cmpS a.1 b.1) nearS_swo 55 #[] blk off cap d w (fun args w => enters_of Tryz.func55 (by kernel_rfl) rfl args w) cmp55_lays hH hb hs)
      (fun a cap fv w => (Tryz.slices_SortFunc_none (α := Int) a cap fv w).mono fun e w' h => ⟨h.1, h.2 ▸ RowKit.Below.refl _ _⟩)
      l (l.attachWith (fun x => nearS x = true) hc.1) (List.attachWith_map_subtype_val hc.1) hc.2 hR
  · cases h
theorem sort80_ok : EntOk Tryz.prog (.fr 80 [⟨0, false, (.slc true (.pair (.int .i64) (.pair (.int .i64) (.int .i64))))⟩, ⟨1, false, (.clo 55 .nil)⟩] [0] [] fun d => (sortB (s := (.pair (.int .i64) (.pair (.int .i64) (.int .i64)))) nearS nearS0 cmpS d.1).map fun r => ((), r)) :=
  sort_ok Tryz.func80 (by kernel_rfl) rfl (.pair (.int .i64) (.pair (.int .i64) (.int .i64))) nearS nearS0 cmpS 55 nearS_swo
    (fun blk off cap d w hH hb hs => @Tryz.slices_SortFunc_eq { x : Int × (Int × Int) // nearS x = true } ⟨nearS0⟩ 3 (fun w => run_isAgg (by kernel_rfl) w) (fun w => run_sizeOf (by kernel_rfl) w) (fun x => (Sh.pair (.int .i64) (.pair (.int .i64) (.int .i64))).vals x.1) (fun x => Sh.vals_len _ _) (fun x => Sh.one _ _) (fun a b => cmpS a.1 b.1) nearS_swo 55 #[] blk off cap d w (fun args w => enters_of Tryz.func55 (by kernel_rfl) rfl args w) cmp55_lays hH hb hs)
    (fun a cap fv w => (Tryz.slices_SortFunc_none (α := Int) a cap fv w).mono fun e w' h => ⟨h.1, h.2 ▸ RowKit.Below.refl _ _⟩)
theorem RowRel.same {o : Bool} {s : Sh} {xs : List s.T} {hd : Value} {w w' : World} (h : RowRel o s xs hd w) (hb : ∀ bl, blk (some hd) = some bl → w'.heap[bl]? = w.heap[bl]?) : RowRel o s xs hd w' := by
  obtain ⟨p, cap, rfl, hle, hp⟩ := h
  refine ⟨p, cap, rfl, hle, ?_⟩
  cases p with
  | none => exact hp
  | some ad =>
    obtain ⟨h1, cs, el, fz, h2, h3⟩ := hp
    exact ⟨h1, cs, el, fz, (hb ad.block rfl).trans h2, h3⟩
/-- What an append of one element to an own row does. -/
theorem append_one {P : Program} (T E : TypeId) (s : Sh) (hT : P.underlying T = some (.slice E)) (i : TypeInfo) (zv : Value) (hi : P.info? E = some i) (hz : i.zero = some zv) (hsz : i.size = s.sz) (hzs : zv.cells.size = s.sz) (hb : 0 < i.bytes)
    {Wa : World} {xs : List s.T} {p : Option Addr} {cap : Nat} (h : RowRel true s xs (.slice p xs.length cap) Wa) (y : s.T) (R : Nat) (cs0 : Array Value) (el0 : TypeId) (fz0 : Nat × Nat) (hR : Wa.heap[R]? = some (.cells cs0 el0 fz0)) (hcs0 : cs0.toList.take s.sz = s.vals y)
    (hfit : (xs.length + 1) * i.bytes < maxRow) :
    ∃ (sl : Value) (Wp : World), (Builtin.append_ #[T, T] T #[.slice p xs.length cap, .slice (some ⟨R, 0, none⟩) 1 1]).run P Wa = .ok sl Wp ∧ RowRel true s (xs ++ [y]) sl Wp ∧ (Wp.os = Wa.os ∧ Wp.tape = Wa.tape ∧ Wp.output = Wa.output ∧ Wa.heap.size ≤ Wp.heap.size) ∧
      (∀ j, j < Wa.heap.size → blk (some (.slice p xs.length cap)) ≠ some j → Wp.heap[j]? = Wa.heap[j]?) ∧ ∀ bl, blk (some sl) = some bl → blk (some (.slice p xs.length cap)) = some bl ∨ bl = Wa.heap.size := by
  have hsE : sizeB P E = some s.sz := by unfold sizeB; rw [hi]; exact congrArg some hsz
  have h1 : RowRel false s [y] (.slice (some ⟨R, 0, none⟩) [y].length 1) Wa := ⟨some ⟨R, 0, none⟩, 1, rfl, Nat.le_refl _, rfl, cs0, el0, fz0, hR, by
    show (cs0.toList.drop 0).take (1 * s.sz) = s.vals y ++ []
    rw [List.drop_zero, Nat.one_mul, hcs0, List.append_nil], fun e => by cases e⟩
  have hl : (Builtin.lenOf (.slice (some ⟨R, 0, none⟩) 1 1)).run P Wa = .ok 1 Wa := rfl
  have hn := row_first (P := P) (w' := Wa) h1 rfl
  have hn2 := row_first (P := P) (w' := Wa.drew) h1 rfl
  have hold := row_first (P := P) (w' := Wa.drew) h rfl
  have hle : xs.length ≤ cap := by obtain ⟨p', cap', e, hle, _⟩ := h; cases e; exact hle
  by_cases hroom : xs.length + 1 ≤ cap
  · obtain ⟨p', cap', e2, _, hp⟩ := h
    cases e2
    cases p with
    | none => obtain ⟨_, hc⟩ := hp; omega
    | some ad =>
      obtain ⟨b, of, sp⟩ := ad
      obtain ⟨hsp, cs, el, fz, hh, hc, hown⟩ := hp
      obtain ⟨hof, hcs, hfz⟩ := hown rfl
      simp only at hsp hh hc hof
      subst hsp hof
      have hmul : xs.length * s.sz + 1 * s.sz ≤ cap * s.sz := by rw [← Nat.add_mul]; exact Nat.mul_le_mul_right _ hroom
      have hfl : (flat s [y]).length = 1 * s.sz := flat_len s [y]
      have hst := run_stores (P := P) (o := xs.length * s.sz) hh (flat s [y]) (by rw [hfl, hcs]; exact hmul) (fun q hq => hfz _ (by rw [hfl] at hq; omega)) (flat_one s [y])
      have hrun := run_append_room0 (P := P) (w := Wa) #[T, T] T T T E (.slice E) rfl rfl hT hT (.inl ⟨E, rfl⟩) s.sz hsE (some ⟨b, 0, none⟩) xs.length cap 1 (.slice (some ⟨R, 0, none⟩) 1 1) (flat s [y]) hl hn hroom (Wa.setCells b (xs.length * s.sz) (flat s [y])) (by
        simp only [add_lit, Nat.zero_add]; exact hst)
      have g := setCells_grown b (flat s [y]) (xs.length * s.sz) Wa
      refine ⟨_, _, hrun, ⟨some ⟨b, 0, none⟩, cap, by rw [List.length_append]; rfl, by rw [List.length_append]; exact hroom, rfl, _, el, fz, setCells_heap b _ _ Wa cs el fz hh (by rw [hfl, hcs]; exact hmul), ?_, fun _ => ⟨rfl, ?_, ?_⟩⟩, ⟨g.os, g.tape, g.output, g.size⟩, fun j hj hne => g.block j hj fun e => hne e.symm, fun bl hbl => .inl hbl⟩
      · simp only [List.drop_zero, List.length_append] at hc ⊢
        rw [flat_append, ← hc, List.take_append_of_le_length (by simp [flat_len, Nat.add_mul]; omega), List.take_of_length_le (by simp [flat_len, Nat.add_mul]; omega)]
      · rw [put_size _ _ _ (by rw [hfl, hcs]; exact hmul), hcs]
      · intro q hq
        exact hfz q (by rwa [put_size _ _ _ (by rw [hfl, hcs]; exact hmul)] at hq)
  · have hrun := run_append_grow0 (P := P) (w := Wa) #[T, T] T T T E (.slice E) rfl rfl hT hT (.inl ⟨E, rfl⟩) i zv hi hz p xs.length cap 1 (.slice (some ⟨R, 0, none⟩) 1 1) (flat s xs) (flat s [y]) hl (by rw [hsz]; exact hn2) (by rw [hsz]; exact hold) (by omega) hb hfit
    have hge : xs.length + 1 ≤ grownCap Wa (xs.length + 1) cap E := grownCap_ge Wa (xs.length + 1) cap E
    refine ⟨_, _, hrun, ⟨some ⟨Wa.heap.size, 0, none⟩, _, by rw [List.length_append]; rfl, by rw [List.length_append]; exact hge, rfl, _, E, (0, 0), heap_alloc_new Wa.drew _, ?_, fun _ => ⟨rfl, ?_, fun q _ => by omega⟩⟩, ⟨rfl, rfl, rfl, ?_⟩, fun j hj _ => heap_alloc_old Wa.drew _ hj, fun bl hbl => .inr (Option.some.inj hbl).symm⟩
    · rw [Array.toList_append, ← flat_append]
      simp only [List.drop_zero]
      rw [List.take_append_of_le_length (by simp [flat_len]), List.take_of_length_le (by simp [flat_len])]
    · rw [Array.size_append, List.size_toArray, List.length_append, flat_len, flat_len, size_zeroCells, hzs, ← Nat.add_mul, ← Nat.add_mul]
      congr 1
      simp only [List.length_cons, List.length_nil]
      omega
    · show Wa.heap.size ≤ (Wa.heap.push _).size
      rw [Array.size_push]
      omega
theorem next_world {wr w1 : World} {r : Nat} (h1 : w1 = wr ∨ w1 = wr.drew) (o o' : Obj) (hr : wr.heap[r]? = some o') : (Go.ChangeMaps.setBlock w1 r o).heap[r]? = some o ∧ (∀ j, j ≠ r → (Go.ChangeMaps.setBlock w1 r o).heap[j]? = wr.heap[j]?) ∧ (Go.ChangeMaps.setBlock w1 r o).heap.size = wr.heap.size ∧ (Go.ChangeMaps.setBlock w1 r o).os = wr.os ∧ (Go.ChangeMaps.setBlock w1 r o).tape = wr.tape ∧ (Go.ChangeMaps.setBlock w1 r o).output = wr.output := by
  have hlt := (Array.getElem?_eq_some_iff.1 hr).1
  have hh : (Go.ChangeMaps.setBlock w1 r o).heap = wr.heap.setIfInBounds r o := by rcases h1 with rfl | rfl <;> rfl
  rw [hh]
  refine ⟨by rw [Array.getElem?_setIfInBounds]; simp [hlt], fun j hj => by rw [Array.getElem?_setIfInBounds, if_neg (Ne.symm hj)], by rw [Array.size_setIfInBounds], ?_⟩
  rcases h1 with rfl | rfl <;> exact ⟨rfl, rfl, rfl⟩
theorem wpList_append_run {P : Program} {ops : Array Oper} {rest : List Oper} {o : Oper} {a : Act} {Q : Exit → Act → World → Prop} (hgd : o.guard = none) (s x : Operand) (t : TypeId)
    (ho : o.op = .call { callee := .builtin .append, args := #[s, x], argTypes := #[t, t] }) (hty : o.type = t) {sl : Value} {Wa Wp : World} (u v : Value) (hs : a.eval s = u) (hx : a.eval x = v) (hrun : (Builtin.append_ #[t, t] t #[u, v]).run P Wa = .ok sl Wp)
    (h : wpList P ops Q rest (a.put o.dst sl) Wp) : wpList P ops Q (o :: rest) a Wa := by
  refine wpList_plain hgd fun _ hK => ?_
  unfold Oper.wp
  simp [execOp, ho, hty, resolve, invoke, builtin, hs, hx, hrun]
  exact hK _ _ h
def spotOf (e : MapEntry) : Int × Int × Int := match e.key, e.val with
  | .agg ⟨[.int .i64 a, .int .i64 b]⟩, .int .i64 c => (a, b, c)
  | _, _ => (0, 0, 0)
def iterB (w : World) (r : Nat) : Array Nat := match w.heap[r]? with | some (.mapIter _ _ s _) => s | _ => #[]
theorem set5 {w : World} {b : Nat} {u0 u1 u2 u3 u4 : Value} {T : TypeId} (h : w.heap[b]? = some (.cells #[u0, u1, u2, u3, u4] T)) (v0 v1 v2 v3 v4 : Value) (W : World) (hW : W = ((((w.setCell ⟨b, 0, none⟩ v0).setCell ⟨b, 1, none⟩ v1).setCell ⟨b, 2, none⟩ v2).setCell ⟨b, 3, none⟩ v3).setCell ⟨b, 4, none⟩ v4) :
    W.heap[b]? = some (.cells #[v0, v1, v2, v3, v4] T) ∧ (∀ j, j ≠ b → W.heap[j]? = w.heap[j]?) ∧ W.heap.size = w.heap.size ∧ W.os = w.os ∧ W.tape = w.tape ∧ W.output = w.output := by
  subst hW
  have h1 := setCell_heap (o := 0) v0 h
  have h2 := setCell_heap (o := 1) v1 h1
  have h3 := setCell_heap (o := 2) v2 h2
  have h4 := setCell_heap (o := 3) v3 h3
  have h5 := setCell_heap (o := 4) v4 h4
  refine ⟨h5.trans rfl, fun j hj => ?_, ?_, by simp only [World.setCell], by simp only [World.setCell], by simp only [World.setCell]⟩
  · have hs : ∀ (w : World) (o : Nat) (v : Value), (w.setCell ⟨b, o, none⟩ v).heap[j]? = w.heap[j]? := fun w o v => RowKit.Below.heap_setCell w ⟨b, o, none⟩ v j hj
    rw [hs, hs, hs, hs, hs]
  · simp only [World.setCell, Array.size_modify]
theorem cells5 {w : World} {b : Nat} {v0 v1 v2 v3 v4 : Value} {T : TypeId} (h : w.heap[b]? = some (.cells #[v0, v1, v2, v3, v4] T)) :
    (w.cell? ⟨b, 0, none⟩ = some v0 ∧ w.cell? ⟨b, 1, none⟩ = some v1 ∧ w.cell? ⟨b, 2, none⟩ = some v2 ∧ w.cell? ⟨b, 3, none⟩ = some v3 ∧ w.cell? ⟨b, 4, none⟩ = some v4) ∧ ∀ j, w.frozen? ⟨b, j, none⟩ = false := by
  refine ⟨⟨?_, ?_, ?_, ?_, ?_⟩, fun j => frozen_of h (by omega)⟩ <;> (unfold World.cell?; rw [h]; rfl)
theorem all_seen {es : Array MapEntry} {seen : Array Nat} (h : (leftOf es seen).size = 0) : es.toList.filter (fun e => seen.contains e.born) = es.toList := by
  rw [List.filter_eq_self]
  intro x hx
  cases hc : seen.contains x.born with
  | true => rfl
  | false =>
    have : x ∈ leftOf es seen := Array.mem_filter.2 ⟨Array.mem_toList_iff.1 hx, by rw [hc]; rfl⟩
    have := Array.size_pos_of_mem this
    omega
theorem filter_push (seen : Array Nat) (e : MapEntry) (hs : seen.contains e.born = false) : ∀ l : List MapEntry, (l.map (·.born)).Nodup → e ∈ l → (l.filter fun x => (seen.push e.born).contains x.born).Perm ((l.filter fun x => seen.contains x.born) ++ [e])
  | [], _, h => by cases h
  | x :: l, hn, h => by
    rw [List.map_cons, List.nodup_cons] at hn
    by_cases hx : x.born = e.born
    · have hex : x = e := by
        rcases List.mem_cons.1 h with h | h
        · exact h.symm
        · exact absurd (List.mem_map.2 ⟨e, h, hx.symm⟩) hn.1
      subst hex
      have e1 : l.filter (fun y => (seen.push x.born).contains y.born) = l.filter (fun y => seen.contains y.born) := by
        refine List.filter_congr fun y hy => ?_
        have hne : y.born ≠ x.born := fun q => hn.1 (List.mem_map.2 ⟨y, hy, q⟩)
        rw [contains_push]
        simp [hne]
      rw [List.filter_cons, List.filter_cons, e1, hs]
      have : (seen.push x.born).contains x.born = true := by rw [contains_push]; simp
      rw [this]
      simp only [if_true, Bool.false_eq_true, if_false]
      exact (List.perm_append_singleton x _).symm
    · have he : e ∈ l := by
        rcases List.mem_cons.1 h with h | h
        · exact absurd (by rw [h]) hx
        · exact h
      have ih := filter_push seen e hs l hn.2 he
      have e1 : (seen.push e.born).contains x.born = seen.contains x.born := by
        rw [contains_push]
        simp [hx]
      rw [List.filter_cons, List.filter_cons, e1]
      split
      · exact ih.cons x
      · exact ih
structure LInv (w0 : World) (rule : ByteArray) (x y way : Int) (bm : Nat) (es : Array MapEntry) (clock : Nat) (seen : Array Nat) (xs : List SpS.T) (v : Value) (w' : World) : Prop where
  below : Below w0.heap.size w0 w'
  res : w'.heap[w0.heap.size]? = some (.cells #[.string ⟨#[]⟩, .slice none 0 0, .int .i64 0, .int .i64 0, .int .i64 0] 26)
  box : w'.heap[w0.heap.size + 1]? = some (.cells #[.string rule, v, .int .i64 x, .int .i64 y, .int .i64 way] 26)
  it : ∃ c0, clock ≤ c0 ∧ w'.heap[w0.heap.size + 2]? = some (.mapIter (some bm) clock seen c0)
  row : RowRel true SpS xs v w'
  far : ∀ bl, blk (some v) = some bl → w0.heap.size + 3 ≤ bl
  perm : xs.Perm ((es.toList.filter fun e => seen.contains e.born).map spotOf)
theorem two_new (w : World) (A B : Obj) : (((w.alloc A).alloc B).drew).heap.size = w.heap.size + 2 ∧ Below w.heap.size w (((w.alloc A).alloc B).drew) ∧ (((w.alloc A).alloc B).drew).heap[w.heap.size]? = some A ∧ (((w.alloc A).alloc B).drew).heap[w.heap.size + 1]? = some B := by
  have s1 : (w.alloc A).heap.size = w.heap.size + 1 := by show (w.heap.push A).size = _; rw [Array.size_push]
  have s2 : ((w.alloc A).alloc B).heap.size = w.heap.size + 2 := by show ((w.alloc A).heap.push B).size = _; rw [Array.size_push, s1]
  refine ⟨s2, (((Below.refl _ w).alloc (Nat.le_refl _) _).alloc (by omega) _).drew, ?_, ?_⟩
  · have := heap_alloc_old (w.alloc A) B (r := w.heap.size) (by omega)
    exact this.trans (heap_alloc_new w A)
  · have := heap_alloc_new (w.alloc A) B
    rw [s1] at this
    exact this
set_option maxHeartbeats 1000000 in
theorem plain_calls (b o bm : Nat) (cs : Array Value) (T : TypeId) (fz : Nat × Nat) (rule : ByteArray) (x y way : Int) (es : Array MapEntry) (clock : Nat) (w : World)
    (hg : w.heap[b]? = some (.cells cs T fz)) (h0 : cs[o]? = some (.string rule)) (h1 : cs[o + 1]? = some (.map (some bm))) (h2 : cs[o + 2]? = some (.int .i64 x)) (h3 : cs[o + 3]? = some (.int .i64 y)) (h4 : cs[o + 4]? = some (.int .i64 way))
    (hm : w.heap[bm]? = some (.map es clock)) (ys : List SpS.T) (hys : ∀ xs : List SpS.T, xs.Perm (es.toList.map spotOf) → sortB (s := SpS) nearS nearS0 cmpS xs = some ys) (hes : es.size ≤ 1048576) (hold : ∀ e ∈ es.toList, e.born < clock) (hnd : (es.toList.map (·.born)).Nodup) (hk : ∀ e ∈ es.toList, ∃ a b c : Int, e.key = .agg #[.int .i64 a, .int .i64 b] ∧ e.val = .int .i64 c) :
    Calls Tryz.prog 58 #[.pointer (some ⟨b, o, none⟩)] w fun e w' => ∃ sl, e = .returned (.agg #[.string rule, sl, .int .i64 x, .int .i64 y, .int .i64 way]) ∧ RowRel true SpS ys sl w' ∧ (∀ bl, blk (some sl) = some bl → w.heap.size ≤ bl) ∧ Below w.heap.size w w' := by
  have l0 : w.cell? ⟨b, o, none⟩ = some (.string rule) := by simp [World.cell?, hg, h0]
  have l1 : w.cell? ⟨b, o + 1, none⟩ = some (.map (some bm)) := by simp [World.cell?, hg, h1]
  have l2 : w.cell? ⟨b, o + 2, none⟩ = some (.int .i64 x) := by simp [World.cell?, hg, h2]
  have l3 : w.cell? ⟨b, o + 3, none⟩ = some (.int .i64 y) := by simp [World.cell?, hg, h3]
  have l4 : w.cell? ⟨b, o + 4, none⟩ = some (.int .i64 way) := by simp [World.cell?, hg, h4]
  go_enter Tryz.func58, Tryz.ntmps58
  go_wp2_with fail
  go_region_held (fun w' => w'.cell? ⟨b, o, none⟩ = some (.string rule) ∧ w'.cell? ⟨b, o + 2, none⟩ = some (.int .i64 x) ∧ w'.cell? ⟨b, o + 3, none⟩ = some (.int .i64 y) ∧ w'.cell? ⟨b, o + 4, none⟩ = some (.int .i64 way)) (go_keep) (fail)
  rename_i hHeld
  clear hHeld
  obtain ⟨W1, hW1⟩ : ∃ W1, W1 = ((w.alloc (.cells #[.string ⟨#[]⟩, .slice none 0 0, .int .i64 0, .int .i64 0, .int .i64 0] 26)).alloc (.cells #[.string rule, .slice none 0 0, .int .i64 x, .int .i64 y, .int .i64 way] 26)).drew := ⟨_, rfl⟩
  rw [← hW1]
  obtain ⟨hS1, hb1, hA1, hB1⟩ := two_new w (.cells #[.string ⟨#[]⟩, .slice none 0 0, .int .i64 0, .int .i64 0, .int .i64 0] 26) (.cells #[.string rule, .slice none 0 0, .int .i64 x, .int .i64 y, .int .i64 way] 26)
  rw [← hW1] at hS1 hb1 hA1 hB1
  clear hW1
  have hm1 : W1.heap[bm]? = some (.map es clock) := by rw [hb1.block bm (Array.getElem?_eq_some_iff.1 hm).1]; exact hm
  have hg1 : W1.heap[b]? = some (.cells cs T fz) := by rw [hb1.block b (Array.getElem?_eq_some_iff.1 hg).1]; exact hg
  have k1 : W1.cell? ⟨b, o + 1, none⟩ = some (.map (some bm)) := by unfold World.cell?; rw [hg1]; exact h1
  have hrg := run_range_map (P := Tryz.prog) W1 68 75 3 bm es clock Tryz.underlying68 hm1
  go_wp2
  go_loopw [] (fun w' => ∃ seen xs v, LInv w rule x y way bm es clock seen xs v w') (fun w' => (leftOf es (iterB w' (w.heap.size + 2))).size)
  case atStart =>
    have hi1 := heap_alloc_new W1 (.mapIter (some bm) clock #[] clock)
    have ho1 : ∀ j, j < W1.heap.size → (W1.alloc (.mapIter (some bm) clock #[] clock)).heap[j]? = W1.heap[j]? := fun j hj => heap_alloc_old W1 _ hj
    refine ⟨#[], [], .slice none 0 0, hb1.alloc (by omega) _, (ho1 _ (by omega)).trans hA1, (ho1 _ (by omega)).trans hB1, ⟨clock, Nat.le_refl _, by rw [← hS1]; exact hi1⟩, ⟨none, 0, rfl, Nat.le_refl _, rfl, rfl⟩, (fun bl h => by cases h), ?_⟩
    have : (es.toList.filter fun e => (#[] : Array Nat).contains e.born) = [] := by simp
    rw [this]
    exact .refl _
  case round =>
    obtain ⟨seen, xs, v, I⟩ := hrel
    obtain ⟨c0, hc0, hit⟩ := I.it
    have hbm := (I.below.block bm (Array.getElem?_eq_some_iff.1 hm).1).trans hm
    have law := _root_.Go.run_next_at (P := Tryz.prog) _ 0 _ bm clock c0 seen es clock hit hbm hold hc0
    rcases law with ⟨hz, hrun⟩ | ⟨e, he, w1, hw1, hrun⟩
    · have hnx : ∀ ty, (Instr.next (.pointer (some ⟨(w.heap.size + 2), 0, none⟩)) false ty).run Tryz.prog _ = _ := fun _ => hrun
      have hperm : xs.Perm (es.toList.map spotOf) := by
        have := I.perm
        rw [all_seen hz] at this
        exact this
      have hsort := hys xs hperm
      obtain ⟨p, cap, rfl, hle, hrow⟩ := I.row
      have far := I.far
      have kb : wr.cell? ⟨w.heap.size + 1, 1, none⟩ = some (.slice p xs.length cap) := by unfold World.cell?; rw [I.box]; rfl
      have hsz : w.heap.size + 3 ≤ wr.heap.size := (Array.getElem?_eq_some_iff.1 hit).1
      go_wp2_with (go_at_call 80; refine (sort80_calls xs ys hsort I.row).mono ?_; rintro e w2 ⟨rfl, hr2, ho, ht, hu, hs2, hf2⟩; have g1 := cells5 ((hf2 (w.heap.size + 1) (by omega) (fun q => by have := far _ q; omega)).trans I.box); have g2 := cells5 ((hf2 w.heap.size (by omega) (fun q => by have := far _ q; omega)).trans I.res); obtain ⟨⟨c10, c11, c12, c13, c14⟩, _⟩ := g1; obtain ⟨⟨c20, c21, c22, c23, c24⟩, f2⟩ := g2)
      have resw := (hf2 w.heap.size (by omega) (fun q => by have := far _ q; omega)).trans I.res
      obtain ⟨Wf, hWf⟩ : ∃ Wf, Wf = ((((w2.setCell ⟨w.heap.size, 0, none⟩ (.string rule)).setCell ⟨w.heap.size, 1, none⟩ (.slice p xs.length cap)).setCell ⟨w.heap.size, 2, none⟩ (.int .i64 x)).setCell ⟨w.heap.size, 3, none⟩ (.int .i64 y)).setCell ⟨w.heap.size, 4, none⟩ (.int .i64 way) := ⟨_, rfl⟩
      obtain ⟨s1, s2, s3, s4, s5, s6⟩ := set5 resw _ _ _ _ _ Wf hWf
      rw [← hWf]
      clear hWf
      refine bodyPost_ret (results_cell_row (ty := 26) rfl _ _ w.heap.size 26 _ (0, 0) _ rfl s1 Tryz.underlying26 rfl (by kernel_rfl)) rfl ?_
      refine ⟨.slice p xs.length cap, rfl, RowRel.same hr2 fun bl hbl => s2 bl (by have := far bl hbl; omega), fun bl hbl => by have := far bl hbl; omega, s4.trans (ho.trans I.below.os), s5.trans (ht.trans I.below.tape), s6.trans (hu.trans I.below.output), ?_, fun k hk => ?_⟩
      · have := I.below.size
        omega
      · rw [s2 k (by omega), hf2 k (by omega) (fun q => by have := far _ q; omega)]
        exact I.below.block k hk
    · obtain ⟨Wn, hWn⟩ : ∃ Wn, Wn = Go.ChangeMaps.setBlock w1 (w.heap.size + 2) (.mapIter (some bm) clock (seen.push e.born) clock) := ⟨_, rfl⟩
      obtain ⟨a, b', c, hkey, hval⟩ := hk e (mem_left he).1
      rw [← hWn, hkey, hval] at hrun
      obtain ⟨hWi, hWo, hWs, hWos, hWt, hWu⟩ := next_world hw1 (.mapIter (some bm) clock (seen.push e.born) clock) _ hit
      rw [← hWn] at hWi hWo hWs hWos hWt hWu
      clear hWn
      have hsz : w.heap.size + 3 ≤ wr.heap.size := (Array.getElem?_eq_some_iff.1 hit).1
      have hbml := (Array.getElem?_eq_some_iff.1 hm).1
      have hbn : Wn.heap[bm]? = some (.map es clock) := (hWo bm (by omega)).trans hbm
      have hen := _root_.Go.run_entry_at (P := Tryz.prog) Wn (w.heap.size + 2) bm clock seen es clock e hWi hbn (mem_left he).1 hnd
      rw [hkey, hval] at hen
      obtain ⟨p, cap, rfl, hle, hrow⟩ := I.row
      obtain ⟨P1, hP1⟩ : ∃ P1, P1 = Wn.alloc (.cells #[.int .i64 a, .int .i64 b'] 75) := ⟨_, rfl⟩
      obtain ⟨Wa, hWa⟩ : ∃ Wa, Wa = P1.alloc (.cells #[.int .i64 a, .int .i64 b', .int .i64 c] 40) := ⟨_, rfl⟩
      have sP : P1.heap.size = Wn.heap.size + 1 := by rw [hP1]; show (Wn.heap.push _).size = _; rw [Array.size_push]
      have sA : Wa.heap.size = Wn.heap.size + 2 := by rw [hWa]; show (P1.heap.push _).size = _; rw [Array.size_push, sP]
      have oP : ∀ j, j < Wn.heap.size → P1.heap[j]? = Wn.heap[j]? := fun j hj => by rw [hP1]; exact heap_alloc_old Wn _ hj
      have oA : ∀ j, j < Wn.heap.size → Wa.heap[j]? = Wn.heap[j]? := fun j hj => by rw [hWa]; exact (heap_alloc_old P1 _ (by omega)).trans (oP j hj)
      have nA : Wa.heap[Wn.heap.size + 1]? = some (.cells #[.int .i64 a, .int .i64 b', .int .i64 c] 40) := by
        rw [hWa, ← sP]; exact heap_alloc_new P1 _
      have boxn : Wn.heap[w.heap.size + 1]? = some (.cells #[.string rule, .slice p xs.length cap, .int .i64 x, .int .i64 y, .int .i64 way] 26) := (hWo _ (by omega)).trans I.box
      have kb : P1.cell? ⟨w.heap.size + 1, 1, none⟩ = some (.slice p xs.length cap) := by unfold World.cell?; rw [oP (w.heap.size + 1) (by omega), boxn]; rfl
      have far := I.far
      have rowA : RowRel true SpS xs (.slice p xs.length cap) Wa := RowRel.same I.row fun bl hbl => by
        have h1 := far bl hbl
        have h2 : bl < wr.heap.size := by
          cases p with
          | none => cases hbl
          | some ad =>
            obtain ⟨_, cs', el', fz', g, _⟩ := hrow
            cases hbl
            exact (Array.getElem?_eq_some_iff.1 g).1
        rw [oA bl (by omega), hWo bl (by omega)]
      obtain ⟨i0, hi, hz⟩ := Option.map_eq_some_iff.1 (by kernel_rfl : (Tryz.prog.info? 40).map (fun i => (i.zero.map fun z => z.cells.size, i.size, i.bytes)) = some (some 3, 3, 24))
      simp only [Prod.mk.injEq] at hz
      obtain ⟨hz0, hz1, hz2⟩ := hz
      obtain ⟨zv, hzv, hzs⟩ := Option.map_eq_some_iff.1 hz0
      have hxl : xs.length ≤ es.size := by
        have := I.perm.length_eq.trans (List.length_map spotOf)
        exact Nat.le_trans (Nat.le_of_eq this) (Nat.le_trans (List.length_filter_le _ _) (Nat.le_of_eq Array.length_toList))
      obtain ⟨q, hq⟩ : ∃ q : SpS.T, q = ((a, b', c) : Int × Int × Int) := ⟨_, rfl⟩
      obtain ⟨sl, Wp, hap, hrowp, ⟨e1, e2, e3, e4⟩, hfr, hblk⟩ := append_one (P := Tryz.prog) 24 40 SpS Tryz.underlying24 i0 zv hi hzv hz1 hzs (by omega) rowA q (Wn.heap.size + 1) _ _ _ nA (by rw [hq]; rfl) (by rw [hz2]; unfold maxRow; omega)
      have hspot : spotOf e = q := by rw [hq]; unfold spotOf; rw [hkey, hval]
      clear hq
      rw [hWa, hP1, hWs] at hap
      obtain ⟨p2, cap2, rfl, hle2, hrow2⟩ := id hrowp
      rw [hP1] at kb
      have nb : blk (some (.slice p xs.length cap)) ≠ some (w.heap.size + 1) := fun e => by have := far _ e; omega
      have boxp : Wp.heap[w.heap.size + 1]? = some (.cells #[.string rule, .slice p xs.length cap, .int .i64 x, .int .i64 y, .int .i64 way] 26) := by
        rw [hfr (w.heap.size + 1) (by omega) nb, oA (w.heap.size + 1) (by omega)]; exact boxn
      have kp : Wp.cell? ⟨w.heap.size + 1, 1, none⟩ = some (.slice p xs.length cap) := by unfold World.cell?; rw [boxp]; rfl
      have kf : Wp.frozen? ⟨w.heap.size + 1, 1, none⟩ = false := frozen_of boxp (by omega)
      have hnx : ∀ ty, (Instr.next (.pointer (some ⟨(w.heap.size + 2), 0, none⟩)) false ty).run Tryz.prog _ = _ := fun _ => hrun
      go_wp2_with (at_builtin; refine wpList_append_run rfl (.tmp 34) (.tmp 41) 24 rfl rfl (.slice p xs.length cap) (.slice (some ⟨wr.heap.size + 1, 0, none⟩) 1 1) rfl rfl hap ?_)
      have hlq : (xs ++ [q]).length = xs.length + 1 := by rw [List.length_append]; rfl
      have hB : blk (some (.slice p2 (xs ++ [q]).length cap2)) = blk (some (.slice p2 (xs.length + 1) cap2)) := by cases p2 <;> rfl
      have far2 : ∀ bl, blk (some (.slice p2 (xs ++ [q]).length cap2)) = some bl → w.heap.size + 3 ≤ bl := fun bl hbl => by
        rcases hblk bl hbl with h | h
        · exact far bl h
        · omega
      have osA : Wa.os = wr.os ∧ Wa.tape = wr.tape ∧ Wa.output = wr.output := by
        rw [hWa, hP1]
        exact ⟨hWos, hWt, hWu⟩
      have same : ∀ j, j < wr.heap.size → j ≠ w.heap.size + 1 → j ≠ w.heap.size + 2 → blk (some (.slice p xs.length cap)) ≠ some j → ∀ V, (Wp.setCell ⟨w.heap.size + 1, 1, none⟩ V).heap[j]? = wr.heap[j]? := fun j h1 h2 h3 h4 V =>
        (RowKit.Below.heap_setCell Wp ⟨w.heap.size + 1, 1, none⟩ V j h2).trans ((hfr j (by omega) h4).trans ((oA j (by omega)).trans (hWo j h3)))
      have hF2 : ∀ V, (Wp.setCell ⟨w.heap.size + 1, 1, none⟩ V).heap[w.heap.size + 2]? = some (.mapIter (some bm) clock (seen.push e.born) clock) := fun V =>
        (RowKit.Below.heap_setCell Wp ⟨w.heap.size + 1, 1, none⟩ V _ (by show w.heap.size + 2 ≠ w.heap.size + 1; omega)).trans ((hfr (w.heap.size + 2) (by omega) (fun q' => by have := far _ q'; omega)).trans ((oA (w.heap.size + 2) (by omega)).trans hWi))
      refine ⟨⟨seen.push e.born, xs ++ [q], .slice p2 (xs.length + 1) cap2, ?_, ?_, ?_, ⟨clock, Nat.le_refl _, hF2 _⟩, ?_, ?_, ?_⟩, ?_⟩
      · refine ⟨e1.trans (osA.1.trans I.below.os), e2.trans (osA.2.1.trans I.below.tape), e3.trans (osA.2.2.trans I.below.output), ?_, fun k hk => ?_⟩
        · have : (Wp.setCell ⟨w.heap.size + 1, 1, none⟩ (.slice p2 (xs.length + 1) cap2)).heap.size = Wp.heap.size := by simp [World.setCell]
          rw [this]
          omega
        · rw [same k (by omega) (by omega) (by omega) (fun q' => by have := far _ q'; omega)]
          exact I.below.block k hk
      · rw [same _ (by omega) (by omega) (by omega) (fun q' => by have := far _ q'; omega)]
        exact I.res
      · exact setCell_heap _ boxp
      · rw [← hlq]
        exact RowRel.same hrowp fun bl hbl => RowKit.Below.heap_setCell Wp ⟨w.heap.size + 1, 1, none⟩ _ bl (by have := far2 bl hbl; show bl ≠ w.heap.size + 1; omega)
      · rw [← hB]
        exact far2
      · have hf := filter_push seen e (mem_left he).2 es.toList hnd (mem_left he).1
        refine List.Perm.trans ?_ (hf.map spotOf).symm
        rw [List.map_append, List.map_cons, List.map_nil, hspot]
        exact I.perm.append_right _
      · have i1 : iterB (Wp.setCell ⟨w.heap.size + 1, 1, none⟩ (.slice p2 (xs.length + 1) cap2)) (w.heap.size + 2) = seen.push e.born := by unfold iterB; rw [hF2]
        have i2 : iterB wr (w.heap.size + 2) = seen := by unfold iterB; rw [hit]
        rw [i1, i2]
        exact left_shrinks es seen e he
abbrev GoT : Ty := .cons .str (.cons (.blob false (.map (.pair (.int .i64) (.int .i64)) (.int .i64))) (.cons (.int .i64) (.cons (.int .i64) (.int .i64))))
abbrev PlT : Ty := .cons .str (.cons (.slc true SpS) (.cons (.int .i64) (.cons (.int .i64) (.int .i64))))
theorem fr_plain {P : Program} {f : FuncId} {fn : Func} (hf : P.funcs[f]? = some fn) (hnm : (fn.name == "runtime.NumGoroutine") = false) (hb : fn.body.isSome = true) {ins : List Slot} {d : Dl ins} {src : Nat} {rl : ByteArray} {r : List SpS.T} {x y wy : Int}
    (h : ∀ (ρ : Rho) (args : Array Value) (w : World), VRelL ρ (unpackL ins d 0 0).1 args.toList → (∀ i, ORel ρ w ((unpackL ins d 0 0).2.getD i .dead) (ρ i)) → Calls P f args w fun e w' => ∃ sl, e = .returned (.agg #[.string rl, sl, .int .i64 x, .int .i64 y, .int .i64 wy]) ∧ RowRel true SpS r sl w' ∧ (∀ b, blk (some sl) = some b → w.heap.size ≤ b) ∧ RowKit.Below w.heap.size w w') :
    FnSpec P f ins [] [⟨src, true, PlT⟩] d (rl, r, x, y, wy) := by
  intro A W ρ args w hargs H
  unfold CallsF
  have hcf : (callFunc f args).run P w = .ok (.enter f args) w := by
    have hn2 : ¬ fn.name = "runtime.NumGoroutine" := by simpa using hnm
    have hbn : ¬ fn.body = none := by intro e; rw [e] at hb; cases hb
    simp [callFunc, hf, hn2, hbn]
  rw [hcf]
  refine Calls.mono (h ρ args w hargs (fun i => by have := H.obj i; rwa [getF_ups0] at this)) fun e w' he => ?_
  obtain ⟨v, rfl, hr, hbl, bel⟩ := he
  have hv : ∃ a n c, v = .slice a n c := by obtain ⟨a, cap, e, _⟩ := hr; exact ⟨a, _, cap, e⟩
  have hF : ∀ i, getF (ups 0 [AObj.row true SpS r]) i = if i = 0 then .row true SpS r else .dead := fun i => by
    rw [getF_ups0]
    cases i <;> simp
  refine ⟨_, rfl, fun i => i ≠ 0, fun i => if i = 0 then some v else none, ⟨_, rfl, rfl, ⟨by simp, hv⟩, rfl, rfl, rfl, trivial⟩, trivial, ?_⟩
  show HR w A W (fun i => i ≠ 0) (fun i => if i = 0 then some v else none) (getF (ups 0 [AObj.row true SpS r])) w'
  refine ⟨⟨bel.os, bel.tape, bel.output, bel.size, fun b hb _ => bel.block b hb, H.fr.ok⟩, fun i hi => by simp [hi], fun i => ?_, fun i j hij ho hl b _ _ => ?_, fun i b hl hb => ?_, fun i b ho hb => ?_⟩
  · rw [hF]
    by_cases hi : i = 0
    · rw [if_pos hi, if_pos hi]
      exact ⟨v, rfl, hr⟩
    · rw [if_neg hi]
      trivial
  · exfalso
    rw [hF] at ho hl
    by_cases hi : i = 0
    · by_cases hj : j = 0
      · exact hij (hi.trans hj.symm)
      · rw [if_neg hj] at hl; cases hl
    · rw [if_neg hi] at ho; cases ho
  · by_cases hi : i = 0
    · rw [if_pos hi] at hb
      exact .inl (hbl b hb)
    · rw [if_neg hi] at hb; cases hb
  · by_cases hi : i = 0
    · rw [if_pos hi] at hb
      exact .inl (hbl b hb)
    · rw [if_neg hi] at hb; cases hb
theorem spots_of (es : Array MapEntry) (m : List ((Int × Int) × Int)) (h : es.toList.map (fun e => (e.key, e.val)) = m.map fun z => (Value.agg #[.int .i64 z.1.1, .int .i64 z.1.2], Value.int .i64 z.2)) :
    es.toList.map spotOf = (m.map fun e => ((e.1.1, e.1.2, e.2) : Int × Int × Int)) ∧ es.size = m.length ∧ ∀ e ∈ es.toList, ∃ a b c : Int, e.key = .agg #[.int .i64 a, .int .i64 b] ∧ e.val = .int .i64 c := by
  refine ⟨?_, ?_, fun e he => ?_⟩
  · have e1 : es.toList.map spotOf = (es.toList.map fun e => (e.key, e.val)).map fun p => spotOf ⟨p.1, p.2, 0⟩ := by rw [List.map_map]; rfl
    rw [e1, h, List.map_map]
    rfl
  · have := congrArg List.length h
    rw [List.length_map, List.length_map, Array.length_toList] at this
    exact this
  · have hm : (e.key, e.val) ∈ es.toList.map (fun e => (e.key, e.val)) := List.mem_map.2 ⟨e, he, rfl⟩
    rw [h] at hm
    obtain ⟨z, _, hz⟩ := List.mem_map.1 hm
    have h1 := congrArg Prod.fst hz
    have h2 := congrArg Prod.snd hz
    exact ⟨z.1.1, z.1.2, z.2, h1.symm, h2.symm⟩
theorem plain_ok : EntOk Tryz.prog (.fr 58 [⟨0, false, .box false GoT⟩] [] [⟨0, true, PlT⟩] fun d => plainB d) := by
  rintro ⟨rl, (m : List ((Int × Int) × Int)), x, y, wy⟩ ⟨rl', r, x', y', wy'⟩ hr
  have hr : plainB (rl, m, x, y, wy) = some (rl', r, x', y', wy') := hr
  unfold plainB at hr
  split at hr
  rotate_left
  · cases hr
  rename_i hc
  have hys := hc.2.choose_spec
  cases hr
  refine fr_plain Tryz.func58 (by kernel_rfl) rfl fun ρ args w hargs hobj => ?_
  obtain ⟨L⟩ := args
  match L, hargs with
  | [v], ⟨hv, _⟩ =>
    have o0 : ORel ρ w (.blob false (.map (.pair (.int .i64) (.int .i64)) (.int .i64)) m) (ρ 0) := hobj 0
    have o1 : ORel ρ w (.cell false 0 5 (.str rl)) (ρ (1 + 0)) := hobj 1
    have o2 : ORel ρ w (.cell false 1 5 (.mp 0)) (ρ (1 + 1)) := hobj 2
    have o3 : ORel ρ w (.cell false 2 5 (.int .i64 x)) (ρ (1 + 2)) := hobj 3
    have o4 : ORel ρ w (.cell false 3 5 (.int .i64 y)) (ρ (1 + 3)) := hobj 4
    have o5 : ORel ρ w (.cell false 4 5 (.int .i64 wy)) (ρ (1 + 4)) := hobj 5
    have hv : PtrAt ρ 1 5 v := hv
    obtain ⟨b, o, rfl, hp⟩ := hv
    have cellAt : ∀ (k j : Nat) (c : Cell), j < 5 → ORel ρ w (.cell false k 5 c) (ρ (1 + j)) → ∃ cs el fz v', w.heap[b]? = some (.cells cs el fz) ∧ cs[o + j]? = some v' ∧ CRel ρ c v' := fun k j c hj h => by
      obtain ⟨hd, e1, b', o', cs, el, fz, v', rfl, hh, hcs, hcr, _, _⟩ := h
      rw [hp j hj] at e1
      cases e1
      exact ⟨cs, el, fz, v', hh, hcs, hcr⟩
    obtain ⟨cs, el, fz, v1, hh, c1, r1⟩ := cellAt _ 0 _ (by omega) o1
    obtain ⟨cs2, el2, fz2, v2, hh2, c2, r2⟩ := cellAt _ 1 _ (by omega) o2
    obtain ⟨cs3, el3, fz3, v3, hh3, c3, r3⟩ := cellAt _ 2 _ (by omega) o3
    obtain ⟨cs4, el4, fz4, v4, hh4, c4, r4⟩ := cellAt _ 3 _ (by omega) o4
    obtain ⟨cs5, el5, fz5, v5, hh5, c5, r5⟩ := cellAt _ 4 _ (by omega) o5
    rw [hh] at hh2 hh3 hh4 hh5
    cases hh2
    cases hh3
    cases hh4
    cases hh5
    have r1 : v1 = .string rl := r1
    have r3 : v3 = .int .i64 x := r3
    have r4 : v4 = .int .i64 y := r4
    have r5 : v5 = .int .i64 wy := r5
    subst r1 r3 r4 r5
    obtain ⟨r2, _⟩ := r2
    obtain ⟨hd, e0, r, ob, rfl, hh0, es, clock, rfl, hents, hborn⟩ := o0
    rw [e0] at r2
    have r2 : v2 = .map (some r) := (Option.some.inj r2).symm
    subst r2
    obtain ⟨hsp, hlen, hk⟩ := spots_of es m hents
    exact plain_calls b o r cs el fz rl x y wy es clock w hh c1 c2 c3 c4 c5 hh0 _ (fun xs hx => hys xs (hx.trans (List.Perm.of_eq hsp))) (by rw [hlen]; exact hc.1) (fun e he => hborn.1 _ (List.mem_map.2 ⟨e, he, rfl⟩)) hborn.2 hk
set_option linter.unusedVariables false
theorem rp_disable (w : World) : (callFunc 168 #[]).run Tryz.prog w = .ok (.value (.tuple #[])) w := run_call_mark0 Tryz.func168 (by kernel_rfl) (by kernel_rfl) (by kernel_rfl) .disable (by kernel_rfl) w
theorem rp_enable (w : World) : (callFunc 170 #[]).run Tryz.prog w = .ok (.value (.tuple #[])) w := run_call_mark0 Tryz.func170 (by kernel_rfl) (by kernel_rfl) (by kernel_rfl) .enable (by kernel_rfl) w
theorem rp_acquire (a : Addr) (w : World) : (callFunc 171 #[.pointer (some a)]).run Tryz.prog w = .ok (.value (.tuple #[])) w := run_call_marked Tryz.func171 (by kernel_rfl) (by kernel_rfl) (by kernel_rfl) .acquire (by kernel_rfl) a w
theorem rp_releaseMerge (a : Addr) (w : World) : (callFunc 173 #[.pointer (some a)]).run Tryz.prog w = .ok (.value (.tuple #[])) w := run_call_marked Tryz.func173 (by kernel_rfl) (by kernel_rfl) (by kernel_rfl) .releaseMerge (by kernel_rfl) a w
theorem rp_store (a : Addr) (x : Value) (u : FrameMode) (w : World) (hc : w.cell? a = some x) (hz : w.frozen? a = false) :
    CallsD Tryz.prog 153 #[.pointer (some a), .bool true] u w fun e u' w' => u' = u ∧ (e = .returned (.tuple #[]) ∧ w' = w.drew.setCell a (.int .u32 1)) := by
  have hc' : w.drew.cell? a = some x := by go_simp
  have hz' : w.drew.frozen? a = false := by go_simp
  have hst := run_call_store (P := Tryz.prog) Tryz.func163 (by kernel_rfl) (by kernel_rfl) (by kernel_rfl) (by kernel_rfl) (k := .u32) (y := 1) hc' hz'
  go_enter_d Tryz.func153, Tryz.ntmps153
  go_wp2
  go_region_calls
  all_goals (go_end0; exact ⟨rfl, rfl⟩)
theorem rp_unlock (a : Addr) (u : FrameMode) (w : World) (hc : w.cell? a = some (.int .i32 1)) (hz : w.frozen? a = false) :
    CallsD Tryz.prog 152 #[.pointer (some a)] u w fun e u' w' => u' = u ∧ (e = .returned (.tuple #[]) ∧ w' = w.setCell a (.int .i32 0)) := by
  have hd := rp_disable
  have he := rp_enable
  have hr := rp_releaseMerge
  have hadd := run_call_add (P := Tryz.prog) Tryz.func174 (by kernel_rfl) (by kernel_rfl) (by kernel_rfl) .i32 (by kernel_rfl) (y := -1) (s := 0) hc hz (by simp [go_sem]; rfl)
  have hcv := run_convert_to_unsafe (P := Tryz.prog) (src := 221) (dst := 174) Tryz.underlying221 Tryz.underlying174 (by kernel_rfl) hc
  go_enter_d Tryz.func152, Tryz.ntmps152
  go_wp2
  go_end0
  go_wp2
  all_goals (go_end0; exact ⟨rfl, rfl⟩)
theorem rp_lock (a : Addr) (w : World) (hc : w.cell? a = some (.int .i32 0)) (hz : w.frozen? a = false) :
    Calls Tryz.prog 151 #[.pointer (some a)] w fun e w' => e = .returned (.tuple #[]) ∧ w' = w.setCell a (.int .i32 1) := by
  have hd := rp_disable
  have he := rp_enable
  have ha := rp_acquire
  have hcas := run_call_cas_hit (P := Tryz.prog) Tryz.func169 (by kernel_rfl) (by kernel_rfl) (by kernel_rfl) .i32 (by kernel_rfl) (y := 1) hc hz
  have hc' : (w.setCell a (.int .i32 1)).cell? a = some (.int .i32 1) := World.cell?_setCell_same w a _ hc
  have hcv := run_convert_to_unsafe (P := Tryz.prog) (src := 221) (dst := 174) Tryz.underlying221 Tryz.underlying174 (by kernel_rfl) hc'
  go_enter Tryz.func151, Tryz.ntmps151
  go_wp2
  first | go_end0 | (simp only [Exit.inBlock, Exit.then]; refine bodyPost_ret (results_none rfl _ _ _) rfl ?_) | refine bodyPost_ret (results_none rfl _ _ _) rfl ?_
  go_wp2
  all_goals (go_end0; exact ⟨rfl, rfl⟩)
set_option maxHeartbeats 1600000 in
theorem rp_slow (b : Nat) (fb : Value) (w : World) (h0 : w.cell? ⟨b, 0, none⟩ = some (.int .u32 0)) (h1 : w.cell? ⟨b, 1, none⟩ = some (.int .i32 0)) (f0 : w.frozen? ⟨b, 0, none⟩ = false) (f1 : w.frozen? ⟨b, 1, none⟩ = false)
    (Q : World → Prop) (hB : Calls Tryz.prog 110 #[.pointer (some ⟨b, 0, none⟩)] (w.setCell ⟨b, 1, none⟩ (.int .i32 1)) fun e w' => e = .returned (.tuple #[]) ∧ Q w')
    (hQ : ∀ w', Q w' → w'.cell? ⟨b, 0, none⟩ = some (.int .u32 0) ∧ w'.cell? ⟨b, 1, none⟩ = some (.int .i32 1) ∧ w'.frozen? ⟨b, 0, none⟩ = false ∧ w'.frozen? ⟨b, 1, none⟩ = false) :
    Calls Tryz.prog 137 #[.pointer (some ⟨b, 0, none⟩), .func (.func 110) #[.pointer (some ⟨b, 0, none⟩)] #[]] w fun e w' => e = .returned (.tuple #[]) ∧ ∃ w1, Q w1 ∧ w' = (w1.drew.setCell ⟨b, 0, none⟩ (.int .u32 1)).setCell ⟨b, 1, none⟩ (.int .i32 0) := by
  have hl := run_call_load (P := Tryz.prog) Tryz.func150 (by kernel_rfl) (by kernel_rfl) (by kernel_rfl) .u32 (by kernel_rfl) (w := w.setCell ⟨b, 1, none⟩ (.int .i32 1)) (a := ⟨b, 0, none⟩) (x := 0) ((World.cell?_setCell_other _ ⟨b, 1, none⟩ ⟨b, 0, none⟩ _ (by simp)).trans h0)
  have hnot : ∀ (x : Bool) (w : World), (Op.unary .not (.bool x)).run Tryz.prog w = .ok (.bool (!x)) w := fun _ _ => rfl
  go_enter_defers Tryz.func137, Tryz.ntmps137
  go_wp2_with (first
    | (go_at_call 151; refine (rp_lock ⟨b, 1, none⟩ _ (by go_simp) (by go_simp)).mono ?_; rintro e w' ⟨rfl, rfl⟩)
    | (go_at_call 136; go_in)
    | (go_at_call 110; refine hB.mono ?_; rintro e w1 ⟨rfl, hq⟩))
  -- THE DOOR: two deferred calls, the last laid first
  refine leaves_cons (f := 153) (args := #[.pointer (some ⟨b, 0, none⟩), .bool true]) (by simp) (by simp [go_sem]) ?_
  obtain ⟨q0, q1, q2, q3⟩ := hQ _ hq
  refine (rp_store ⟨b, 0, none⟩ (.int .u32 0) .returning _ q0 q2).mono ?_
  rintro e u' w'' ⟨rfl, rfl, rfl⟩
  refine leaves_cons (f := 152) (args := #[.pointer (some ⟨b, 1, none⟩)]) (by simp [settle]) (by simp [go_sem]) ?_
  refine (rp_unlock ⟨b, 1, none⟩ _ _ ?_ (by simp [q3])).mono ?_
  · refine (World.cell?_setCell_other _ ⟨b, 0, none⟩ ⟨b, 1, none⟩ _ (by simp)).trans ?_
    rw [World.cell?_drew]
    exact q1
  rintro e u' w'' ⟨rfl, rfl, rfl⟩
  simp [Leaves, settle, results, Tryz.results137]
  exact ⟨_, hq, rfl⟩
set_option maxHeartbeats 1600000 in
theorem rp_do (b : Nat) (w : World) (h0 : w.cell? ⟨b, 0, none⟩ = some (.int .u32 0)) (h1 : w.cell? ⟨b, 1, none⟩ = some (.int .i32 0)) (f0 : w.frozen? ⟨b, 0, none⟩ = false) (f1 : w.frozen? ⟨b, 1, none⟩ = false)
    (Q : World → Prop) (hB : Calls Tryz.prog 110 #[.pointer (some ⟨b, 0, none⟩)] (w.setCell ⟨b, 1, none⟩ (.int .i32 1)) fun e w' => e = .returned (.tuple #[]) ∧ Q w')
    (hQ : ∀ w', Q w' → w'.cell? ⟨b, 0, none⟩ = some (.int .u32 0) ∧ w'.cell? ⟨b, 1, none⟩ = some (.int .i32 1) ∧ w'.frozen? ⟨b, 0, none⟩ = false ∧ w'.frozen? ⟨b, 1, none⟩ = false) :
    Calls Tryz.prog 109 #[.pointer (some ⟨b, 0, none⟩), .func (.func 110) #[.pointer (some ⟨b, 0, none⟩)] #[]] w fun e w' => e = .returned (.tuple #[]) ∧ ∃ w1, Q w1 ∧ w' = (w1.drew.setCell ⟨b, 0, none⟩ (.int .u32 1)).setCell ⟨b, 1, none⟩ (.int .i32 0) := by
  have hl := run_call_load (P := Tryz.prog) Tryz.func150 (by kernel_rfl) (by kernel_rfl) (by kernel_rfl) .u32 (by kernel_rfl) h0
  have hnot : ∀ (x : Bool) (w : World), (Op.unary .not (.bool x)).run Tryz.prog w = .ok (.bool (!x)) w := fun _ _ => rfl
  go_enter Tryz.func109, Tryz.ntmps109
  go_wp2_with (first | (go_at_call 137; refine (rp_slow b (.int .i64 0) w h0 h1 f0 f1 Q hB hQ).mono ?_; rintro e w' ⟨rfl, hw⟩) | (go_at_call 136; go_in))
  go_end0
  exact ⟨rfl, hw⟩
theorem rp_set {w : World} {b o : Nat} {cs : Array Value} {T : TypeId} {fz : Nat × Nat} (v : Value) (h : w.heap[b]? = some (.cells cs T fz)) : (w.setCell ⟨b, o, none⟩ v).heap[b]? = some (.cells (cs.setIfInBounds o v) T fz) := by
  simp [World.setCell, Array.getElem?_modify, h]
structure RInv (w : World) (k : Nat) (w' : World) : Prop where
  below : Below w.heap.size w w'
  ex : ∃ cs, w'.heap[w.heap.size]? = some (.cells cs 194) ∧ cs.size = 256 ∧ ∀ j : Nat, j < k → cs[j]? = some (.int .u8 j)
theorem rinv_start (w : World) : RInv w 0 (w.alloc (.cells Tryz.zeroCells194 194)) :=
  ⟨(Below.refl _ w).alloc (Nat.le_refl _) _, _, heap_alloc_last w _, by kernel_rfl, fun j hj => by omega⟩
theorem RInv.cell {w : World} {k : Nat} {w' : World} (I : RInv w k w') (j : Nat) (hj : j < 256) : ∃ x, w'.cell? ⟨w.heap.size, j, none⟩ = some x ∧ w'.frozen? ⟨w.heap.size, j, none⟩ = false := by
  obtain ⟨cs, h1, h2, _⟩ := I.ex
  refine ⟨cs[j]'(by omega), ?_, ?_⟩
  · unfold World.cell?
    rw [h1]
    simp [h2, hj]
  · unfold World.frozen?
    rw [h1]
    simp
theorem RInv.set {w : World} {k : Nat} {w' : World} (I : RInv w k w') (hk : k < 256) : RInv w (k + 1) (w'.setCell ⟨w.heap.size, k, none⟩ (.int .u8 k)) := by
  obtain ⟨cs, h1, h2, h3⟩ := I.ex
  refine ⟨I.below.setCell (p := ⟨w.heap.size, _, none⟩) (Nat.le_refl _) _, _, rp_set _ h1, by simp [h2], fun j hj => ?_⟩
  rw [Array.getElem?_setIfInBounds]
  by_cases h : k = j
  · subst h
    rw [if_pos rfl, if_pos (by omega)]
  · rw [if_neg h]
    exact h3 j (by omega)
structure TInv (w : World) (f : Nat → Nat) (w' : World) : Prop where
  below : Below w.heap.size w w'
  ex : ∃ cs, w'.heap[w.heap.size]? = some (.cells cs 194) ∧ cs.size = 256 ∧ ∀ j : Nat, j < 256 → cs[j]? = some (.int .u8 (f j))
theorem RInv.tab {w w' : World} (I : RInv w 256 w') : TInv w (fun j => j) w' := ⟨I.below, I.ex⟩
theorem TInv.set {w : World} {f : Nat → Nat} {w' : World} (I : TInv w f w') (a b : Nat) (ha : a < 256) : TInv w (swU f a b) (w'.setCell ⟨w.heap.size, a, none⟩ (.int .u8 b)) := by
  obtain ⟨cs, h1, h2, h3⟩ := I.ex
  refine ⟨I.below.setCell (p := ⟨w.heap.size, _, none⟩) (Nat.le_refl _) _, _, rp_set _ h1, by simp [h2], fun j hj => ?_⟩
  rw [Array.getElem?_setIfInBounds]
  unfold swU
  by_cases h : a = j
  · subst h
    rw [if_pos rfl, if_pos (by omega), if_pos rfl]
  · rw [if_neg h, if_neg (fun e => h e.symm)]
    exact h3 j hj
theorem TInv.cell {w : World} {f : Nat → Nat} {w' : World} (I : TInv w f w') (j : Nat) (hj : j < 256) : w'.cell? ⟨w.heap.size, j, none⟩ = some (.int .u8 (f j)) ∧ w'.frozen? ⟨w.heap.size, j, none⟩ = false := by
  obtain ⟨cs, h1, h2, h3⟩ := I.ex
  refine ⟨?_, ?_⟩
  · unfold World.cell?
    rw [h1]
    exact h3 j hj
  · unfold World.frozen?
    rw [h1]
    simp
theorem TInv.old {w : World} {f : Nat → Nat} {w' : World} (I : TInv w f w') {g j : Nat} {v : Value} (h : w.cell? ⟨g, j, none⟩ = some v) (hg : g < w.heap.size) : w'.cell? ⟨g, j, none⟩ = some v := by
  unfold World.cell? at h ⊢
  rw [I.below.block g hg]
  exact h
set_option maxHeartbeats 1600000 in
def Four (w : World) (g : Nat) (x y : UInt8) : Prop := ∃ cs T fz, w.heap[g]? = some (.cells cs T fz) ∧ cs[0]? = some (.string ⟨#[x]⟩) ∧ cs[1]? = some (.string ⟨#[y]⟩) ∧ cs[2]? = some (.string ⟨#[y]⟩) ∧ cs[3]? = some (.string ⟨#[x]⟩)
theorem Four.congr {w w' : World} {g : Nat} {x y : UInt8} (h : Four w g x y) (e : w'.heap[g]? = w.heap[g]?) : Four w' g x y := by
  obtain ⟨cs, T, fz, h1, h2⟩ := h
  exact ⟨cs, T, fz, e.trans h1, h2⟩
theorem rp_build (b g cap : Nat) (x y : UInt8) (T : TypeId) (fz : Nat × Nat) (w : World) (hr : w.cell? ⟨b, 4, none⟩ = some (.slice (some ⟨g, 0, none⟩) 4 cap)) (hg : Four w g x y) :
    Calls Tryz.prog 138 #[.pointer (some ⟨b, 0, none⟩)] w fun e w' => e = .returned (.iface 195 (.pointer (some ⟨w.heap.size, 0, none⟩))) ∧ TInv w (swp x.toNat y.toNat) w' := by
  obtain ⟨cs4, T4, fz4, hg, e0, e1, e2, e3⟩ := hg
  have c0 : w.cell? ⟨g, 0, none⟩ = some (.string ⟨#[x]⟩) := by unfold World.cell?; rw [hg]; exact e0
  have c1 : w.cell? ⟨g, 1, none⟩ = some (.string ⟨#[y]⟩) := by unfold World.cell?; rw [hg]; exact e1
  have c2 : w.cell? ⟨g, 2, none⟩ = some (.string ⟨#[y]⟩) := by unfold World.cell?; rw [hg]; exact e2
  have c3 : w.cell? ⟨g, 3, none⟩ = some (.string ⟨#[x]⟩) := by unfold World.cell?; rw [hg]; exact e3
  go_enter Tryz.func138, Tryz.ntmps138
  go_wp2_with fail
  go_loop [4, 5] (fun a i => a = .bool true ∧ (i = .int .i64 0 ∨ i = .int .i64 2 ∨ i = .int .i64 4)) (fun _ i => 4 - (intOf i).toNat)
  case atStart => exact ⟨rfl, .inl rfl⟩
  case round =>
    obtain ⟨rfl, hi⟩ := hrel
    rcases hi with rfl | rfl | rfl
    · go_wp2_with fail
      exact ⟨⟨rfl, .inr (.inl rfl)⟩, by simp [intOf]⟩
    · go_wp2_with fail
      exact ⟨⟨rfl, .inr (.inr rfl)⟩, by simp [intOf]⟩
    · have hst : (storeCells ⟨w.heap.size, 0, none⟩ Tryz.zeroCells194.toList 0).run Tryz.prog (w.alloc (.cells Tryz.zeroCells194 194)) = .ok () (w.alloc (.cells Tryz.zeroCells194 194)) := run_storeCells_new w 194 _ _ (by kernel_rfl) rfl (by kernel_rfl)
      go_wp2_with fail
      obtain ⟨W1, hW1⟩ : ∃ W1, W1 = w.alloc (.cells Tryz.zeroCells194 194) := ⟨_, rfl⟩
      have I0 : RInv w 0 W1 := by rw [hW1]; exact rinv_start w
      rw [← hW1]
      clear hW1 hst
      go_loopw [61] (fun i w' => ∃ k : Nat, k ≤ 256 ∧ i = .int .i64 k ∧ RInv w k w') (fun i _ => 256 - (intOf i).toNat)
      case atStart => exact ⟨0, by omega, rfl, I0⟩
      case round =>
        obtain ⟨k, hk, rfl, I⟩ := hrel
        by_cases hlt : k < 256
        · obtain ⟨x0, hc0, hz0⟩ := I.cell k hlt
          go_wp2_with fail
          exact ⟨⟨k + 1, by omega, by simp, I.set hlt⟩, by simp [intOf]; omega⟩
        · obtain rfl : k = 256 := by omega
          have I := I.tab
          have hgs := (Array.getElem?_eq_some_iff.1 hg).1
          have hx := x.toNat_lt
          have hy := y.toNat_lt
          have hix : ∀ (z : UInt8) (h : 0 < (⟨#[z]⟩ : ByteArray).size), (⟨#[z]⟩ : ByteArray)[0]'h = z := fun _ _ => rfl
          go_wp2_with fail
          go_loopw [8] (fun i w' => (i = .int .i64 2 ∧ TInv w (fun j => j) w') ∨ (i = .int .i64 0 ∧ TInv w (swU (fun j => j) y.toNat x.toNat) w') ∨ (i = .int .i64 (-2) ∧ TInv w (swp x.toNat y.toNat) w')) (fun i _ => (intOf i + 2).toNat)
          case atStart => exact .inl ⟨rfl, I⟩
          case round =>
            clear I
            rcases hrel with ⟨rfl, I⟩ | ⟨rfl, I⟩ | ⟨rfl, I⟩
            · have d2 := I.old c2 hgs
              have d3 := I.old c3 hgs
              obtain ⟨t1, t2⟩ := I.cell y.toNat hy
              go_wp2_with fail
              exact ⟨.inr (.inl ⟨rfl, I.set _ _ hy⟩), by simp [intOf]⟩
            · have d0 := I.old c0 hgs
              have d1 := I.old c1 hgs
              obtain ⟨t1, t2⟩ := I.cell x.toNat hx
              go_wp2_with fail
              exact ⟨.inr (.inr ⟨rfl, I.set _ _ hx⟩), by simp [intOf]⟩
            · go_wp2_with fail
              go_ret
              exact ⟨rfl, I⟩
theorem TInv.oldz {w : World} {f : Nat → Nat} {w' : World} (I : TInv w f w') {g j : Nat} (h : w.frozen? ⟨g, j, none⟩ = false) (hg : g < w.heap.size) : w'.frozen? ⟨g, j, none⟩ = false := by
  unfold World.frozen? at h ⊢
  rw [I.below.block g hg]
  exact h
theorem rp_once (b g cap : Nat) (x y : UInt8) (T : TypeId) (fz : Nat × Nat) (v3 : Value) (w : World) (hb : b < w.heap.size) (h3 : w.cell? ⟨b, 3, none⟩ = some v3) (f3 : w.frozen? ⟨b, 3, none⟩ = false) (f4 : w.frozen? ⟨b, 4, none⟩ = false) (hr : w.cell? ⟨b, 4, none⟩ = some (.slice (some ⟨g, 0, none⟩) 4 cap)) (hg : Four w g x y) :
    Calls Tryz.prog 110 #[.pointer (some ⟨b, 0, none⟩)] w fun e w' => e = .returned (.tuple #[]) ∧ ∃ W, TInv w (swp x.toNat y.toNat) W ∧ w' = (W.setCell ⟨b, 3, none⟩ (.iface 195 (.pointer (some ⟨w.heap.size, 0, none⟩)))).setCell ⟨b, 4, none⟩ (.slice none 0 0) := by
  have hB := rp_build b g cap x y T fz w hr hg
  go_enter Tryz.func110, Tryz.ntmps110
  go_wp2_with (go_at_call 138; refine hB.mono ?_; rintro e W ⟨rfl, I⟩; have k3 := I.old h3 hb; have k4 := I.old hr hb; have z3 := I.oldz f3 hb; have z4 := I.oldz f4 hb)
  go_end0
  exact ⟨rfl, W, I, rfl⟩
structure RepI (w : World) (f : Nat → Nat) (s : ByteArray) (k : Nat) (v : Value) (w' : World) : Prop where
  below : Below w.heap.size w w'
  buf : (v = .slice none 0 0 ∧ ∀ j c, j < k → s.data.toList[j]? = some c → f c.toNat = c.toNat) ∨
    ∃ (m cap : Nat) (cs : Array Value) (T : TypeId) (fz : Nat × Nat), v = .slice (some ⟨m, 0, none⟩) s.size cap ∧ w.heap.size ≤ m ∧ w'.heap[m]? = some (.cells cs T fz) ∧ s.size ≤ cs.size ∧ s.size ≤ fz.1 ∧ ∀ j c, s.data.toList[j]? = some c → cs[j]? = some (Value.int .u8 (if j < k then (f c.toNat : Int) else c.toNat))
theorem rp_conv (w : World) (s : ByteArray) : ∃ (W2 : World) (cap : Nat) (cs : Array Value) (T : TypeId) (fz : Nat × Nat), (convert 9 22 (.string s)).run Tryz.prog w = .ok (.slice (some ⟨w.heap.size, 0, none⟩) s.size cap) W2 ∧ W2.heap[w.heap.size]? = some (.cells cs T fz) ∧ s.size ≤ cs.size ∧ s.size ≤ fz.1 ∧
    (∀ (j : Nat) (c : UInt8), s.data.toList[j]? = some c → cs[j]? = some (Value.int .u8 c.toNat)) ∧ Below w.heap.size w W2 := by
  have hc := run_bytes_of_string (P := Tryz.prog) w 9 22 5 s Tryz.underlying9 Tryz.underlying22 Tryz.underlying5
  have hg := grownCap_ge w s.size 0 5
  have hz : (bytesRow s (grownCap w s.size 0 5)).size = grownCap w s.size 0 5 := by
    unfold bytesRow
    rw [Array.size_append, Array.size_map, Array.size_replicate]
    have : s.data.size = s.size := rfl
    omega
  refine ⟨_, _, _, _, _, hc, heap_alloc_new w.drew _, by rw [hz]; exact hg, by simp only [hz]; exact hg, fun j c hj => ?_, ((Below.refl _ w).drew).alloc (Nat.le_refl _) _⟩
  have hlt : j < s.data.size := by rw [← Array.length_toList]; exact (List.getElem?_eq_some_iff.1 hj).1
  unfold bytesRow
  rw [Array.getElem?_append_left (by rw [Array.size_map]; exact hlt), Array.getElem?_map, ← Array.getElem?_toList, hj]
  rfl
theorem rp_nil (a : Option Addr) (n c : Nat) (w : World) : (binOp .eql 22 (.slice a n c) (.slice none 0 0)).run Tryz.prog w = .ok (.bool a.isNone) w := by
  cases a <;> simp [binOp] <;> rfl
theorem RepI.skip {w : World} {f : Nat → Nat} {s : ByteArray} {k : Nat} {v : Value} {w' : World} (I : RepI w f s k v w') {c0 : UInt8} (hsk : s.data.toList[k]? = some c0) (he : f c0.toNat = c0.toNat) : RepI w f s (k + 1) v w' := by
  refine ⟨I.below, ?_⟩
  rcases I.buf with ⟨rfl, hb⟩ | ⟨m, cap, cs, T, fz, rfl, h1, h2, h3, h4, h5⟩
  · refine .inl ⟨rfl, fun j c hj hc => ?_⟩
    by_cases e : j = k
    · subst e
      rw [hsk] at hc
      cases hc
      exact he
    · exact hb j c (by omega) hc
  · refine .inr ⟨m, cap, cs, T, fz, rfl, h1, h2, h3, h4, fun j c hc => ?_⟩
    rw [h5 j c hc]
    by_cases e : j = k
    · subst e
      rw [hsk] at hc
      cases hc
      rw [if_neg (Nat.lt_irrefl _), if_pos (Nat.lt_succ_self _), he]
    · by_cases e2 : j < k
      · rw [if_pos e2, if_pos (by omega)]
      · rw [if_neg e2, if_neg (by omega)]
theorem RepI.put {w : World} {f : Nat → Nat} {s : ByteArray} {k : Nat} {w' : World} {v : Value} (I : RepI w f s k v w') (hlt : k < s.size) {c0 : UInt8} (hsk : s.data.toList[k]? = some c0) {m cap : Nat} {cs : Array Value} {T : TypeId} {fz : Nat × Nat} (h1 : w.heap.size ≤ m) (h2 : w'.heap[m]? = some (.cells cs T fz)) (h3 : s.size ≤ cs.size) (h4 : s.size ≤ fz.1)
    (h5 : ∀ (j : Nat) (c : UInt8), s.data.toList[j]? = some c → cs[j]? = some (Value.int .u8 (if j < k then (f c.toNat : Int) else c.toNat))) : RepI w f s (k + 1) (.slice (some ⟨m, 0, none⟩) s.size cap) (w'.setCell ⟨m, k, none⟩ (.int .u8 (f c0.toNat))) := by
  refine ⟨I.below.setCell (p := ⟨m, k, none⟩) h1 _, .inr ⟨m, cap, _, T, fz, rfl, h1, rp_set _ h2, by simpa using h3, h4, fun j c hc => ?_⟩⟩
  rw [Array.getElem?_setIfInBounds]
  by_cases e : k = j
  · subst e
    rw [hsk] at hc
    cases hc
    rw [if_pos rfl, if_pos (by omega), if_pos (Nat.lt_succ_self _)]
  · rw [if_neg e, h5 j c hc]
    by_cases e2 : j < k
    · rw [if_pos e2, if_pos (by omega)]
    · rw [if_neg e2, if_neg (by omega)]
theorem RepI.make {w : World} {f : Nat → Nat} {s : ByteArray} {k : Nat} {w' : World} {v : Value} (I : RepI w f s k v w') (hlt : k < s.size) {c0 : UInt8} (hsk : s.data.toList[k]? = some c0) (hb : ∀ (j : Nat) (c : UInt8), j < k → s.data.toList[j]? = some c → f c.toNat = c.toNat) {W2 : World} {cap : Nat} {cs : Array Value} {T : TypeId} {fz : Nat × Nat} (q1 : W2.heap[w'.heap.size]? = some (.cells cs T fz))
    (q2 : s.size ≤ cs.size) (q3 : s.size ≤ fz.1) (q4 : ∀ (j : Nat) (c : UInt8), s.data.toList[j]? = some c → cs[j]? = some (Value.int .u8 c.toNat)) (q5 : Below w'.heap.size w' W2) : RepI w f s (k + 1) (.slice (some ⟨w'.heap.size, 0, none⟩) s.size cap) (W2.setCell ⟨w'.heap.size, k, none⟩ (.int .u8 (f c0.toNat))) := by
  refine RepI.put (v := .slice (some ⟨w'.heap.size, 0, none⟩) s.size cap) (w' := W2) ⟨I.below.trans (q5.mono I.below.size), .inr ⟨w'.heap.size, cap, cs, T, fz, rfl, I.below.size, q1, q2, q3, ?_⟩⟩ hlt hsk I.below.size q1 q2 q3 ?_ <;>
  · intro j c hc
    rw [q4 j c hc]
    by_cases e2 : j < k
    · rw [if_pos e2, hb j c e2 hc]
    · rw [if_neg e2]
theorem swapS_self {f : Nat → Nat} {s : ByteArray} (h : ∀ (j : Nat) (c : UInt8), j < s.size → s.data.toList[j]? = some c → f c.toNat = c.toNat) : swapS f s = s := by
  have e : (s.data.toList.map fun c => UInt8.ofNat (f c.toNat)) = s.data.toList := by
    conv => rhs; rw [← List.map_id s.data.toList]
    refine List.map_congr_left fun c hc => ?_
    obtain ⟨j, hj⟩ := List.mem_iff_getElem?.1 hc
    have hl := (List.getElem?_eq_some_iff.1 hj).1
    rw [h j c (by rw [Array.length_toList] at hl; exact hl) hj]
    simp
  unfold swapS
  rw [e]
theorem rp_fold : ∀ (l : List Int) (r : ByteArray), l.foldl (fun r n => r.push (UInt8.ofNat n.toNat)) r = ⟨r.data ++ (l.map fun n => UInt8.ofNat n.toNat).toArray⟩
  | [], r => by simp
  | b :: l, r => by
    simp only [List.map_cons, List.foldl_cons]
    rw [rp_fold l]
    simp [ByteArray.push]
theorem rp_back (w : World) (s : ByteArray) (f : Nat → Nat) (m cap : Nat) (cs : Array Value) (T : TypeId) (fz : Nat × Nat) (h : w.heap[m]? = some (.cells cs T fz)) (hz : s.size ≤ cs.size) (hc : ∀ (j : Nat) (c : UInt8), s.data.toList[j]? = some c → cs[j]? = some (Value.int .u8 (if j < s.size then (f c.toNat : Int) else c.toNat))) (hf : ∀ j, j < 256 → f j < 256) :
    (convert 22 9 (.slice (some ⟨m, 0, none⟩) s.size cap)).run Tryz.prog w = .ok (.string (swapS f s)) w := by
  rw [run_convert_bytes_string w 22 9 5 _ _ _ Tryz.underlying22 Tryz.underlying5 Tryz.underlying9]
  have hl : s.data.toList.length = s.size := by rw [Array.length_toList]; rfl
  have hld := run_loadCells_list (P := Tryz.prog) w ⟨m, 0, none⟩ ((s.data.toList.map fun c => ((f c.toNat : Nat) : Int)).map (Value.int .u8)) (fun j v hv => by
    have hadd : (⟨m, 0, none⟩ : Addr).add j = ⟨m, j, none⟩ := by unfold Addr.add; split <;> simp_all
    rw [hadd]
    rw [List.getElem?_map, List.getElem?_map] at hv
    cases hj : s.data.toList[j]? with
    | none => rw [hj] at hv; cases hv
    | some c =>
      rw [hj] at hv
      have hjl := (List.getElem?_eq_some_iff.1 hj).1
      unfold World.cell?
      rw [h]
      have := hc j c hj
      rw [if_pos (by omega)] at this
      exact this.trans hv)
  have hlen : ((s.data.toList.map fun c => ((f c.toNat : Nat) : Int)).map (Value.int .u8)).length = s.size := by simp [hl]
  rw [hlen] at hld
  rw [run_bytesToString w ⟨m, 0, none⟩ s.size cap (s.data.toList.map fun c => ((f c.toNat : Nat) : Int)) hld, rp_fold]
  unfold swapS
  simp
set_option maxHeartbeats 1600000 in
theorem rp_bytes (n : Nat) (f : Nat → Nat) (hf : ∀ j, j < 256 → f j < 256) (cs : Array Value) (fz : Nat × Nat) (w : World) (hn : w.heap[n]? = some (.cells cs 194 fz)) (hsz : cs.size = 256) (hcs : ∀ j : Nat, j < 256 → cs[j]? = some (.int .u8 (f j))) (s : ByteArray) (hs : s.size ≤ 281474976710656) :
    Calls Tryz.prog 212 #[.pointer (some ⟨n, 0, none⟩), .string s] w fun e w' => e = .returned (.string (swapS f s)) ∧ Below w.heap.size w w' := by
  have hnl := (Array.getElem?_eq_some_iff.1 hn).1
  go_enter Tryz.func212, Tryz.ntmps212
  go_wp2_with fail
  go_loopw [5, 6] (fun v i w' => ∃ k : Nat, k ≤ s.size ∧ i = .int .i64 k ∧ RepI w f s k v w') (fun _ i _ => s.size - (intOf i).toNat)
  case atStart => exact ⟨0, Nat.zero_le _, rfl, Below.refl _ _, .inl ⟨rfl, fun j c hj => by omega⟩⟩
  case round =>
    obtain ⟨k, hk, rfl, I⟩ := hrel
    by_cases hlt : k < s.size
    · have h256 : s[k].toNat < 256 := UInt8.toNat_lt _
      have hsk : s.data.toList[k]? = some s[k] := by
        rw [List.getElem?_eq_getElem (by rw [Array.length_toList]; exact hlt)]
        simp [ByteArray.getElem_eq_getElem_data]
      have hld : ∀ W, Below w.heap.size w W → W.cell? ⟨n, s[k].toNat, none⟩ = some (.int .u8 (f s[k].toNat)) := fun W hW => by
        unfold World.cell?
        rw [hW.block n hnl, hn]
        exact hcs _ h256
      have c0 := hld _ I.below
      obtain ⟨W2, cap2, cs2, T2, fz2, hcv, q1, q2, q3, q4, q5⟩ := rp_conv wr s
      have c2 := hld _ (I.below.trans (q5.mono I.below.size))
      have q6 : W2.cell? ⟨wr.heap.size, k, none⟩ = some (.int .u8 s[k].toNat) := by
        unfold World.cell?
        rw [q1]
        exact q4 k _ hsk
      have q7 : W2.frozen? ⟨wr.heap.size, k, none⟩ = false := by
        unfold World.frozen?
        rw [q1]
        simp
        omega
      have hnil := rp_nil
      rcases I.buf with ⟨rfl, hb⟩ | ⟨m, cap, cs', T', fz', rfl, hm, hm', hm1, hm2, hm3⟩
      · go_wp2_with fail
        · exact ⟨⟨k + 1, by omega, by simp, I.make hlt hsk hb q1 q2 q3 q4 q5⟩, by simp [intOf]; omega⟩
        · rename_i he
          exact ⟨⟨k + 1, by omega, by simp, I.skip hsk (by simp at he; omega)⟩, by simp [intOf]; omega⟩
      · have r1 : wr.cell? ⟨m, k, none⟩ = some (.int .u8 s[k].toNat) := by
          unfold World.cell?
          rw [hm']
          have := hm3 k _ hsk
          rw [if_neg (Nat.lt_irrefl _)] at this
          exact this
        have r2 : wr.frozen? ⟨m, k, none⟩ = false := by
          unfold World.frozen?
          rw [hm']
          simp
          omega
        go_wp2_with fail
        · exact ⟨⟨k + 1, by omega, by simp, I.put hlt hsk hm hm' hm1 hm2 hm3⟩, by simp [intOf]; omega⟩
        · rename_i he
          exact ⟨⟨k + 1, by omega, by simp, I.skip hsk (by simp at he; omega)⟩, by simp [intOf]; omega⟩
    · obtain rfl : k = s.size := by omega
      have hnil := rp_nil
      rcases I.buf with ⟨rfl, hb⟩ | ⟨m, cap, cs', T', fz', rfl, hm, hm', hm1, hm2, hm3⟩
      · go_wp2_with fail
        go_ret
        exact ⟨by rw [swapS_self hb]; rfl, I.below⟩
      · have hcv := rp_back wr s f m cap cs' T' fz' hm' hm1 hm3 hf
        go_wp2_with fail
        go_ret
        exact ⟨rfl, I.below⟩
theorem rp_cell {w : World} {b : Nat} {cs : Array Value} {T : TypeId} {fz : Nat × Nat} (h : w.heap[b]? = some (.cells cs T fz)) (j : Nat) : w.cell? ⟨b, j, none⟩ = cs[j]? := by
  unfold World.cell?
  rw [h]
  rfl
theorem swp_lt {a b j : Nat} (ha : a < 256) (hb : b < 256) (hj : j < 256) : swp a b j < 256 := by
  unfold swp swU
  split
  · exact hb
  · split
    · exact ha
    · exact hj
def RQ (w1 : World) (b : Nat) (f : Nat → Nat) (w' : World) : Prop := ∃ W, TInv w1 f W ∧ w' = (W.setCell ⟨b, 3, none⟩ (.iface 195 (.pointer (some ⟨w1.heap.size, 0, none⟩)))).setCell ⟨b, 4, none⟩ (.slice none 0 0)
set_option maxHeartbeats 1600000 in
theorem rp_doR (b g cap : Nat) (x y : UInt8) (T T' : TypeId) (fz : Nat × Nat) (w : World) (hb : w.heap[b]? = some (.cells #[.int .u32 0, .int .i32 0, .int .u32 0, .nilIface, .slice (some ⟨g, 0, none⟩) 4 cap] T')) (hg : Four w g x y) (hbg : b ≠ g) (n0 : Nat) (hn0 : n0 ≤ b) :
    Calls Tryz.prog 109 #[.pointer (some ⟨b, 0, none⟩), .func (.func 110) #[.pointer (some ⟨b, 0, none⟩)] #[]] w fun e w' => e = .returned (.tuple #[]) ∧ w'.cell? ⟨b, 3, none⟩ = some (.iface 195 (.pointer (some ⟨w.heap.size, 0, none⟩))) ∧ (∃ cs, w'.heap[w.heap.size]? = some (.cells cs 194) ∧ cs.size = 256 ∧ ∀ j : Nat, j < 256 → cs[j]? = some (Value.int .u8 (swp x.toNat y.toNat j))) ∧ Below n0 w w' := by
  have hbs := (Array.getElem?_eq_some_iff.1 hb).1
  have k : ∀ j : Nat, w.cell? ⟨b, j, none⟩ = (#[.int .u32 0, .int .i32 0, .int .u32 0, .nilIface, .slice (some ⟨g, 0, none⟩) 4 cap] : Array Value)[j]? := fun j => rp_cell hb j
  have z : ∀ j : Nat, w.frozen? ⟨b, j, none⟩ = false := fun j => by unfold World.frozen?; rw [hb]; simp
  obtain ⟨w1, hw1⟩ : ∃ w1, w1 = w.setCell ⟨b, 1, none⟩ (.int .i32 1) := ⟨_, rfl⟩
  have s1 : w1.heap.size = w.heap.size := by rw [hw1]; simp [World.setCell]
  have k1 : ∀ j : Nat, j ≠ 1 → w1.cell? ⟨b, j, none⟩ = (#[.int .u32 0, .int .i32 0, .int .u32 0, .nilIface, .slice (some ⟨g, 0, none⟩) 4 cap] : Array Value)[j]? := fun j hj => by
    rw [hw1]
    exact (World.cell?_setCell_other _ ⟨b, 1, none⟩ ⟨b, j, none⟩ _ (by first | (simp; done) | (simp; omega))).trans (k j)
  have k11 : w1.cell? ⟨b, 1, none⟩ = some (.int .i32 1) := by rw [hw1]; exact World.cell?_setCell_same _ _ _ (k 1)
  have z1 : ∀ j : Nat, w1.frozen? ⟨b, j, none⟩ = false := fun j => by
    have hh := rp_set (o := 1) (.int .i32 1) hb
    rw [← hw1] at hh
    unfold World.frozen?
    rw [hh]
    simp
  have g1 : w1.heap[g]? = w.heap[g]? := by rw [hw1]; exact RowKit.Below.heap_setCell w ⟨b, 1, none⟩ _ g (fun h => hbg h.symm)
  have g1 := hg.congr g1
  have ho := rp_once b g cap x y T fz .nilIface w1 (by rw [s1]; exact hbs) (k1 3 (by omega)) (z1 3) (z1 4) (k1 4 (by omega)) g1
  have hlt := @swp_lt x.toNat y.toNat
  have hx := x.toNat_lt
  have hy := y.toNat_lt
  have hQc : ∀ w', RQ w1 b (swp x.toNat y.toNat) w' → (∀ j : Nat, j ≠ 3 → j ≠ 4 → w'.cell? ⟨b, j, none⟩ = w1.cell? ⟨b, j, none⟩) ∧ (∀ j : Nat, w'.frozen? ⟨b, j, none⟩ = false) ∧ w'.cell? ⟨b, 3, none⟩ = some (.iface 195 (.pointer (some ⟨w1.heap.size, 0, none⟩))) ∧ (∃ cs, w'.heap[w1.heap.size]? = some (.cells cs 194) ∧ cs.size = 256 ∧ ∀ j : Nat, j < 256 → cs[j]? = some (Value.int .u8 (swp x.toNat y.toNat j))) ∧ Below n0 w1 w' := by
    rintro w' ⟨W, I, rfl⟩
    have hbW : W.heap[b]? = w1.heap[b]? := I.below.block b (by rw [s1]; exact hbs)
    have hb1 : w1.heap[b]? = some (.cells #[.int .u32 0, .int .i32 1, .int .u32 0, .nilIface, .slice (some ⟨g, 0, none⟩) 4 cap] T') := by rw [hw1]; exact rp_set (o := 1) (.int .i32 1) hb
    rw [hb1] at hbW
    have e1 := rp_set (o := 3) (.iface 195 (.pointer (some ⟨w1.heap.size, 0, none⟩))) hbW
    have e2 := rp_set (o := 4) (.slice none 0 0) e1
    obtain ⟨cs, c1, c2, c3⟩ := I.ex
    have nb : w1.heap.size ≠ b := by rw [s1]; omega
    refine ⟨fun j j3 j4 => ?_, fun j => ?_, ?_, ⟨cs, ?_, c2, c3⟩, ((I.below.mono (by rw [s1]; omega)).setCell (p := ⟨b, 3, none⟩) hn0 _).setCell (p := ⟨b, 4, none⟩) hn0 _⟩
    · rw [rp_cell e2, rp_cell hb1, Array.getElem?_setIfInBounds, if_neg (fun h => j4 h.symm), Array.getElem?_setIfInBounds, if_neg (fun h => j3 h.symm)]
    · unfold World.frozen?
      rw [e2]
      simp
    · unfold World.cell?
      rw [e2]
      rfl
    · exact (RowKit.Below.heap_setCell _ ⟨b, 4, none⟩ _ _ nb).trans ((RowKit.Below.heap_setCell _ ⟨b, 3, none⟩ _ _ nb).trans c1)
  have hdo := rp_do b w (k 0) (k 1) (z 0) (z 1) (RQ w1 b (swp x.toNat y.toNat)) (by rw [← hw1]; exact ho) (fun w' h => by
    obtain ⟨q1, q2, _⟩ := hQc w' h
    exact ⟨(q1 0 (by omega) (by omega)).trans (k1 0 (by omega)), (q1 1 (by omega) (by omega)).trans k11, q2 0, q2 1⟩)
  have B1 : Below n0 w w1 := by rw [hw1]; exact (Below.refl _ _).setCell (p := ⟨b, 1, none⟩) hn0 _
  refine hdo.mono ?_
  rintro e w' ⟨rfl, W, hq, rfl⟩
  obtain ⟨q1, q2, q3, ⟨cs, c1, c2, c3⟩, q5⟩ := hQc W hq
  have nb : w1.heap.size ≠ b := by rw [s1]; omega
  rw [← s1]
  refine ⟨rfl, ?_, ⟨cs, ?_, c2, c3⟩, B1.trans ((q5.drew.setCell (p := ⟨b, 0, none⟩) hn0 _).setCell (p := ⟨b, 1, none⟩) hn0 _)⟩
  · exact (World.cell?_setCell_other _ ⟨b, 1, none⟩ ⟨b, 3, none⟩ _ (by simp)).trans ((World.cell?_setCell_other _ ⟨b, 0, none⟩ ⟨b, 3, none⟩ _ (by simp)).trans q3)
  · exact (RowKit.Below.heap_setCell _ ⟨b, 1, none⟩ _ _ nb).trans ((RowKit.Below.heap_setCell _ ⟨b, 0, none⟩ _ _ nb).trans c1)
set_option maxHeartbeats 1600000 in
theorem rp_repl (b g cap : Nat) (x y : UInt8) (T T' : TypeId) (fz : Nat × Nat) (w : World) (hb : w.heap[b]? = some (.cells #[.int .u32 0, .int .i32 0, .int .u32 0, .nilIface, .slice (some ⟨g, 0, none⟩) 4 cap] T')) (hg : Four w g x y) (hbg : b ≠ g) (s : ByteArray) (hs : s.size ≤ 281474976710656) (n0 : Nat) (hn0 : n0 ≤ b) :
    Calls Tryz.prog 84 #[.pointer (some ⟨b, 0, none⟩), .string s] w fun e w' => e = .returned (.string (swapS (swp x.toNat y.toNat) s)) ∧ Below n0 w w' := by
  have hDO := rp_doR b g cap x y T T' fz w hb hg hbg n0 hn0
  have hbs := (Array.getElem?_eq_some_iff.1 hb).1
  have hlt := @swp_lt x.toNat y.toNat
  have hx := x.toNat_lt
  have hy := y.toNat_lt
  clear hb hg
  go_enter Tryz.func84, Tryz.ntmps84
  go_wp2_with (first
    | (go_at_call 109; refine hDO.mono ?_; rintro e w2 ⟨rfl, d1, ⟨cs, c1, c2, c3⟩, d5⟩)
    | (go_at_call 212; refine (rp_bytes w.heap.size (swp x.toNat y.toNat) (fun j hj => hlt hx hy hj) cs (0, 0) w2 c1 c2 c3 s hs).mono ?_; rintro e w3 ⟨rfl, d6⟩))
  go_ret
  exact ⟨rfl, d5.trans (d6.mono (by have := d5.size; omega))⟩
theorem rp_append_run {P : Program} {ops : Array Oper} {rest : List Oper} {o : Oper} {a : Act} {Q : Exit → Act → World → Prop} (hgd : o.guard = none) (s x : Operand) (t : TypeId)
    (ho : o.op = .call { callee := .builtin .append, args := #[s, x], argTypes := #[t, t] }) (hty : o.type = t) {sl : Value} {Wa Wp : World} (u v : Value) (hs : a.eval s = u) (hx : a.eval x = v) (hrun : (Builtin.append_ #[t, t] t #[u, v]).run P Wa = .ok sl Wp)
    (h : wpList P ops Q rest (a.put o.dst sl) Wp) : wpList P ops Q (o :: rest) a Wa := by
  refine wpList_plain hgd fun _ hK => ?_
  unfold Oper.wp
  simp [execOp, ho, hty, resolve, invoke, builtin, hs, hx, hrun]
  exact hK _ _ h
theorem rp_append (g0 : Nat) (x y : UInt8) (w : World) (hg : Four w g0 x y) : ∃ (W2 : World) (cap : Nat), (Builtin.append_ #[73, 73] 73 #[.slice none 0 0, .slice (some ⟨g0, 0, none⟩) 4 4]).run Tryz.prog w = .ok (.slice (some ⟨w.heap.size, 0, none⟩) 4 cap) W2 ∧ Four W2 w.heap.size x y ∧ Below w.heap.size w W2 ∧ W2.heap.size = w.heap.size + 1 := by
  obtain ⟨i0, hi, hz⟩ := Option.map_eq_some_iff.1 (by kernel_rfl : (Tryz.prog.info? 9).map (fun i => (i.zero, i.size, i.bytes)) = some (some (.string ByteArray.empty), 1, 16))
  simp only [Prod.mk.injEq] at hz
  obtain ⟨hz0, hz1, hz2⟩ := hz
  obtain ⟨cs, T, fz, hh, e0, e1, e2, e3⟩ := hg
  have hl4 : (cs.toList.drop 0).take (4 * 1) = [.string ⟨#[x]⟩, .string ⟨#[y]⟩, .string ⟨#[y]⟩, .string ⟨#[x]⟩] := by
    obtain ⟨L⟩ := cs
    rcases L with _ | ⟨a, _ | ⟨b, _ | ⟨c, _ | ⟨d, r⟩⟩⟩⟩ <;> simp at e0 e1 e2 e3
    subst e0 e1 e2 e3
    rfl
  have hR : RowRel false .str [⟨#[x]⟩, ⟨#[y]⟩, ⟨#[y]⟩, ⟨#[x]⟩] (.slice (some ⟨g0, 0, none⟩) 4 4) w := ⟨some ⟨g0, 0, none⟩, 4, rfl, Nat.le_refl _, rfl, cs, T, fz, hh, hl4, fun e => by cases e⟩
  have hN : RowRel false .str [] (.slice none 0 0) w := ⟨none, 0, rfl, Nat.le_refl _, rfl, rfl⟩
  have hr := run_append_grow0 (P := Tryz.prog) (w := w) #[73, 73] 73 73 73 9 (.slice 9) rfl rfl Tryz.underlying73 Tryz.underlying73 (.inl ⟨9, rfl⟩) i0 (.string ByteArray.empty) hi hz0 none 0 0 4 (.slice (some ⟨g0, 0, none⟩) 4 4) (flat .str []) (flat .str [⟨#[x]⟩, ⟨#[y]⟩, ⟨#[y]⟩, ⟨#[x]⟩]) rfl
    (by rw [hz1]; exact row_first (w' := w.drew) hR rfl) (by rw [hz1]; exact row_first (w' := w.drew) hN rfl) (by omega) (by omega) (by rw [hz2]; decide)
  refine ⟨_, _, hr, ⟨_, 9, (0, 0), heap_alloc_new w.drew _, ?_⟩, ((Below.refl _ w).drew).alloc (Nat.le_refl _) _, ?_⟩
  · generalize Builtin.zeroCells _ _ = z
    refine ⟨?_, ?_, ?_, ?_⟩ <;> rw [Array.getElem?_append_left (Nat.le_of_ble_eq_true rfl)] <;> rfl
  · show (w.heap.push _).size = _
    rw [Array.size_push]
set_option maxHeartbeats 1600000 in
theorem rp_new (g0 : Nat) (x y : UInt8) (w : World) (hg : Four w g0 x y) :
    Calls Tryz.prog 83 #[.slice (some ⟨g0, 0, none⟩) 4 4] w fun e w' => ∃ b g cap T', e = .returned (.pointer (some ⟨b, 0, none⟩)) ∧ w'.heap[b]? = some (.cells #[.int .u32 0, .int .i32 0, .int .u32 0, .nilIface, .slice (some ⟨g, 0, none⟩) 4 cap] T') ∧ Four w' g x y ∧ b ≠ g ∧ w.heap.size ≤ b ∧ Below w.heap.size w w' := by
  obtain ⟨W2, cap, hap, hF, hB, hS⟩ := rp_append g0 x y w hg
  go_enter Tryz.func83, Tryz.ntmps83
  go_wp2_with (at_builtin; refine rp_append_run rfl (.const (.slice none 0 0)) (.tmp 8) 73 rfl rfl (.slice none 0 0) (.slice (some ⟨g0, 0, none⟩) 4 4) rfl rfl hap ?_)
  go_ret
  refine ⟨w.heap.size + 1, w.heap.size, cap, 151, rfl, ?_, hF.congr (heap_alloc_old W2 _ (by omega)), by omega, by omega, hB.alloc (by omega) _⟩
  rw [← hS]
  exact heap_alloc_new W2 _
set_option maxHeartbeats 1600000 in
theorem rp_other42 (s : ByteArray) (hs : s.size ≤ 281474976710656) (w : World) : Calls Tryz.prog 42 #[.string s] w fun e w' => e = .returned (.string (swapS (swp (76 : UInt8).toNat (82 : UInt8).toNat) s)) ∧ Below w.heap.size w w' := by
  have h4 : ∀ T, Four (w.alloc (.cells #[.string ⟨#[76]⟩, .string ⟨#[82]⟩, .string ⟨#[82]⟩, .string ⟨#[76]⟩] T)) w.heap.size 76 82 := fun T => ⟨_, _, _, heap_alloc_new w _, rfl, rfl, rfl, rfl⟩
  have hsz : ∀ o, (w.alloc o).heap.size = w.heap.size + 1 := fun o => by show (w.heap.push o).size = _; rw [Array.size_push]
  go_enter Tryz.func42, Tryz.ntmps42
  go_wp2_with (first
    | (go_at_call 83; refine (rp_new w.heap.size 76 82 _ (h4 _)).mono ?_; rintro e w2 ⟨b, g, cap, T', rfl, b1, b2, b3, b4, b5⟩; rw [hsz] at b4)
    | (go_at_call 84; refine (rp_repl b g cap 76 82 0 T' (0, 0) w2 b1 b2 b3 s hs w.heap.size (by omega)).mono ?_; rintro e w3 ⟨rfl, d6⟩))
  go_ret
  exact ⟨rfl, ((((Below.refl _ w).alloc (Nat.le_refl _) _)).trans (b5.mono (by rw [hsz]; omega))).trans d6⟩
theorem other42_calls (s r : ByteArray) (w : World) (h : otherB 76 82 s = some r) : Calls Tryz.prog 42 #[.string s] w fun e w' => e = .returned (.string r) ∧ Below w.heap.size w w' := by
  unfold otherB at h
  split at h <;> cases h
  rename_i hs
  exact rp_other42 s hs w
end Go.Proofs.YtblgfbkifhfjpaaGreatDoorS
