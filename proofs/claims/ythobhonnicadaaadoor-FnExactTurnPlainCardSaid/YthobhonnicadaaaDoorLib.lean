/- The library's functions at this seat (printed by wip/sim/gen.py). -/
import Derived.Test.YthobhonnicadaaaDoorSimSo
import Derived.Test.YthobhonnicadaaaDoorSimDl
import Derived.Test.YthobhonnicadaaaDoorSimFs
import Derived.Test.YthobhonnicadaaaDoorShelf
import Derived.WalkKit
import Derived.Deep.LoopGhost
import Derived.Deep.RegionLaw
import Derived.Shelf.Strings.SlTrimAscii
namespace Go.Proofs.YthobhonnicadaaaDoorS
open Go Go.Proofs Go.RowKit Go.Shelf Go.Sort
set_option linter.unusedVariables false
set_option maxRecDepth 100000
theorem clone52_ok : EntOk Tryd.prog (.fr 52 [⟨0, false, .slc false (.pair (.int .i64) (.pair (.int .i64) (.int .i64)))⟩] [] [⟨0, false, .slc true (.pair (.int .i64) (.pair (.int .i64) (.int .i64)))⟩] fun d => cloneB (s := (.pair (.int .i64) (.pair (.int .i64) (.int .i64)))) 24 d) := by
  obtain ⟨i0, hi, hz⟩ := Option.map_eq_some_iff.1 (by kernel_rfl : (Tryd.prog.info? 73).map (fun i => (i.zero.map fun z => z.cells.size, i.size, i.bytes)) = some (some 3, 3, 24))
  simp only [Prod.mk.injEq] at hz
  obtain ⟨hz0, hz1, hz2⟩ := hz
  obtain ⟨z, hz, hzs⟩ := Option.map_eq_some_iff.1 hz0
  exact clone_ok Tryd.func52 (by kernel_rfl) rfl (.pair (.int .i64) (.pair (.int .i64) (.int .i64))) 24 (by decide) 73 (fun b off n c news w h1 h2 h3 h4 h5 => Tryd.slices_Clone i0 z 3 24 hi hz hz1 hz2 hzs (by decide) Tryd.sizeOf73 b off n c news w h1 h2 h3 h4 h5) (fun n c w => Tryd.slices_Clone_nil n c w)
theorem strCount1_calls (a b : ByteArray) (r : Int) (w : World) (h : strCount1 a b = some r) : Calls Tryd.prog 130 #[.string a, .string b] w fun e w' => e = .returned (.int .i64 r) ∧ Below w.heap.size w w' := by
  unfold strCount1 at h
  split at h <;> cases h
  rename_i c hb
  obtain ⟨⟨L⟩⟩ := b
  have hb : L = [c] := hb
  subst hb
  exact (Tryd.strings_Count_one a c w).mono fun e w' ⟨h1, h2⟩ => ⟨h1, h2 ▸ Below.refl _ _⟩
theorem strTrim_calls (a b : ByteArray) (r : ByteArray) (w : World) (h : strTrim a b = some r) : Calls Tryd.prog 116 #[.string a, .string b] w fun e w' => e = .returned (.string r) ∧ Below w.heap.size w w' := by
  unfold strTrim at h
  split at h
  · rename_i hc
    obtain ⟨h0, h1, h2⟩ := hc
    obtain rfl := Option.some.inj h
    exact Any.strings_Trim_laid Tryd.lays160 (by kernel_rfl) a b w h0 h1 (ascii_of_all h2)
  · cases h
theorem w64_wrap (n : Int) : w64 n = wrap64 n := by
  unfold w64
  rw [IntKind.wrap_i64]
  unfold wrap64
  rfl
theorem two_alloc (w : World) (o p : Obj) : (w.alloc o).alloc p = grow (w.drewN 0) #[o, p] := by
  have e : (w.heap.push o).push p = w.heap ++ #[o, p] := by
    apply Array.toList_inj.1
    simp
  show ({ w with heap := (w.heap.push o).push p } : World) = { w with heap := w.heap ++ #[o, p] }
  rw [e]
theorem cmp96_calls (a b c x y z : Int) (w : World) : Calls Tryd.prog 96 #[.agg #[.int .i64 a, .int .i64 b, .int .i64 c], .agg #[.int .i64 x, .int .i64 y, .int .i64 z]] w fun e w' => e = .returned (.int .i64 (cmpS (a, (b, c)) (x, (y, z)))) ∧ ∃ q os', w' = grow (w.drewN q) os' := by
  have e1 : (b != y) = true → cmpS (a, (b, c)) (x, (y, z)) = wrap64 (b - y) := fun h => by
    show (if b = y then w64 (a - x) else w64 (b - y)) = _
    rw [if_neg (by simpa using h)]
    exact w64_wrap _
  have e2 : (b != y) = false → cmpS (a, (b, c)) (x, (y, z)) = wrap64 (a - x) := fun h => by
    show (if b = y then w64 (a - x) else w64 (b - y)) = _
    rw [if_pos (by simpa using h)]
    exact w64_wrap _
  go_enter Tryd.func96, Tryd.ntmps96
  go_wp2
  all_goals go_ret
  · rename_i h
    exact ⟨by rw [e1 h]; rfl, 0, _, two_alloc _ _ _⟩
  · rename_i h
    exact ⟨by rw [e2 h]; rfl, 0, _, two_alloc _ _ _⟩
theorem cmp96_lays {blk off size : Nat} {w : World} : @CmpLays { x : Int × (Int × Int) // nearS x = true } ⟨nearS0⟩ Tryd.prog 96 #[] (fun x => (Sh.pair (.int .i64) (.pair (.int .i64) (.int .i64))).vals x.1) 3 (fun a b => cmpS a.1 b.1) blk off size w :=
  fun _ _ _ _ x y => cmp96_calls x.1.1 x.1.2.1 x.1.2.2 y.1.1 y.1.2.1 y.1.2.2 _
theorem sort98_ok : EntOk Tryd.prog (.fr 98 [⟨0, false, (.slc true (.pair (.int .i64) (.pair (.int .i64) (.int .i64))))⟩, ⟨1, false, (.clo 96 .nil)⟩] [0] [] fun d => (sortB (s := (.pair (.int .i64) (.pair (.int .i64) (.int .i64)))) nearS nearS0 cmpS d.1).map fun r => ((), r)) :=
  sort_ok Tryd.func98 (by kernel_rfl) rfl (.pair (.int .i64) (.pair (.int .i64) (.int .i64))) nearS nearS0 cmpS 96 nearS_swo
    (fun blk off cap d w hH hb hs => @Tryd.slices_SortFunc_eq { x : Int × (Int × Int) // nearS x = true } ⟨nearS0⟩ 3 (fun w => run_isAgg (by kernel_rfl) w) (fun w => run_sizeOf (by kernel_rfl) w) (fun x => (Sh.pair (.int .i64) (.pair (.int .i64) (.int .i64))).vals x.1) (fun x => Sh.vals_len _ _) (fun x => Sh.one _ _) (fun a b => cmpS a.1 b.1) nearS_swo 96 #[] blk off cap d w (fun args w => enters_of Tryd.func96 (by kernel_rfl) rfl args w) cmp96_lays hH hb hs)
    (fun a cap fv w => (Tryd.slices_SortFunc_none (α := Int) a cap fv w).mono fun e w' h => ⟨h.1, h.2 ▸ RowKit.Below.refl _ _⟩)
set_option maxHeartbeats 4000000 in
theorem del84_calls (blk cap i j : Nat) (l : List (Sh.pair (.int .i64) (.pair (.int .i64) (.int .i64))).T) (cs : Array Value) (el : TypeId) (fz : Nat × Nat) (w : World) (hh : w.heap[blk]? = some (.cells cs el fz)) (ht : cs.toList.take (l.length * 3) = flat (.pair (.int .i64) (.pair (.int .i64) (.int .i64))) l) (hcs : cs.size = cap * 3) (hcap : l.length ≤ cap) (hm : l.length ≤ 1048576) (hfz : ∀ o, o < cs.size → ¬ (fz.1 ≤ o ∧ o < fz.2)) (hij : i < j) (hj : j ≤ l.length) :
    Calls Tryd.prog 84 #[.slice (some ⟨blk, 0, none⟩) l.length cap, .int .i64 i, .int .i64 j] w fun e w' => e = .returned (.slice (some ⟨blk, 0, none⟩) (l.length - (j - i)) cap) ∧ ∃ (q : Nat) (vs : List Value), vs.length = (j - i) * 3 ∧ w' = ((w.drewN q).setCells blk (i * 3) (flat (.pair (.int .i64) (.pair (.int .i64) (.int .i64))) (l.drop j))).setCells blk ((i + (l.length - j)) * 3) vs := by
  obtain ⟨n, hn⟩ : ∃ n, n = l.length := ⟨_, rfl⟩
  rw [← hn] at ht hcap hm hj ⊢
  obtain ⟨news, hnews⟩ : ∃ news, news = flat (.pair (.int .i64) (.pair (.int .i64) (.int .i64))) (l.drop j) := ⟨_, rfl⟩
  have hnl : news.length = (n - j) * 3 := by rw [hnews, flat_len, List.length_drop, ← hn]; rfl
  have hone : ∀ u ∈ news, u.oneCell' = true := by rw [hnews]; exact flat_one _ _
  have hnget : ∀ t u, news[t]? = some u → cs[j * 3 + t]? = some u := fun t u hu => by
    have h1 := (List.getElem?_eq_some_iff.1 hu).1
    have e1 : news = (flat (.pair (.int .i64) (.pair (.int .i64) (.int .i64))) l).drop (j * 3) := by rw [hnews]; exact flat_drop _ _ _
    rw [e1, List.getElem?_drop, ← ht, List.getElem?_take] at hu
    split at hu
    · rwa [Array.getElem?_toList] at hu
    · cases hu
  rw [← hnews]
  have hcell : ∀ (w' : World) (t : Nat), w'.heap[blk]? = some (.cells cs el fz) → t < cap * 3 → (w'.cell? ⟨blk, t, none⟩).isSome = true ∧ w'.frozen? ⟨blk, t, none⟩ = false := fun w' t hw ht' => by
    refine ⟨?_, frozen_of hw (hfz t (by omega))⟩
    rw [cell_of hw, Array.getElem?_eq_getElem (by omega)]
    rfl
  obtain ⟨A, hA, hsrc⟩ : ∃ A : Addr, (if cap = j then some (⟨blk, 0, none⟩ : Addr) else some ⟨blk, j * 3, none⟩) = some A ∧ Hid (∀ t u, news[t]? = some u → w.drew.cell? (A.add t) = some u) := by
    by_cases h : cap = j
    · refine ⟨⟨blk, 0, none⟩, by simp [h], fun t u hu => ?_⟩
      have h1 := (List.getElem?_eq_some_iff.1 hu).1
      omega
    · refine ⟨⟨blk, j * 3, none⟩, by simp [h], fun t u hu => ?_⟩
      rw [Addr.add_lit]
      exact (cell_of (w := w.drew) hh).trans (hnget t u hu)
  have s1 : Hid (news.length = (n - j) * 3) := hnl
  have s2 : Hid (∀ u ∈ news, u.oneCell' = true) := hone
  have s3 : Hid (∀ t, t < news.length → (w.drew.cell? ⟨blk, 0 + i * 3 + t, none⟩).isSome = true ∧ w.drew.frozen? ⟨blk, 0 + i * 3 + t, none⟩ = false) := fun t ht' => by
    rw [hnl] at ht'
    exact hcell w.drew _ hh (by omega)
  obtain ⟨W1, hW1⟩ : ∃ W1, W1 = w.drew.setCells blk (0 + i * 3) news := ⟨_, rfl⟩
  have hW : Hid (W1 = w.drew.setCells blk (0 + i * 3) news) := hW1
  obtain ⟨cs1, hcs1, hcl1⟩ : ∃ cs1, W1.heap[blk]? = some (.cells cs1 el fz) ∧ cs1.size = cs.size := by
    have h1 := setCells_heap blk news (0 + i * 3) w.drew cs el fz hh (by rw [hnl]; omega)
    rw [← hW1] at h1
    refine ⟨_, h1, ?_⟩
    simp only [List.size_toArray, List.length_append, List.length_take, List.length_drop, Array.length_toList, hnl]
    omega
  obtain ⟨i0, hi, hz⟩ := Option.map_eq_some_iff.1 (by kernel_rfl : (Tryd.prog.info? 73).map (fun i => (i.zero, i.size)) = some (some (.agg #[.int .i64 0, .int .i64 0, .int .i64 0]), 3))
  simp only [Prod.mk.injEq] at hz
  obtain ⟨hz0, hz1⟩ := hz
  obtain ⟨vs, hvl, hv1, hclr⟩ := run_clear_cells (P := Tryd.prog) W1 26 73 (.agg #[.int .i64 0, .int .i64 0, .int .i64 0]) Tryd.underlying26 (fun w => run_zero hi hz0 w) (by simp [Value.cells, Value.oneCell']) blk ((i + (n - j)) * 3) (n - (i + (n - j))) (cap - (i + (n - j))) (by omega)
    (fun t ht' => by
      have ht' : t < (n - (i + (n - j))) * 3 := ht'
      rw [cell_of hcs1, Array.getElem?_eq_getElem (by omega)]; rfl) (fun t ht' => by
      have ht' : t < (n - (i + (n - j))) * 3 := ht'
      exact frozen_of hcs1 (hfz _ (by omega)))
  have hvl' : vs.length = (n - (i + (n - j))) * 3 := hvl
  have hic : i ≤ cap := by omega
  have hjc : j ≤ cap := by omega
  have hij' : ¬ i = j := by omega
  clear hn hW1 hnget hcell hnews hone hnl ht hcs hfz hh hv1 hcs1 hcl1 hvl
  have mixed : Tryd.prog.follows .mixedOrders = true := by kernel_rfl
  go_enter Tryd.func84, Tryd.ntmps84
  go_wp2_with fail
  go_region_law_o (refine step_append_room rfl (.tmp 22) (.tmp 25) 26 rfl 73 i0 3 Tryd.underlying26 hi hz1 blk 0 i cap (by simp [Act.eval, Act.put]) A (n - j) (cap - j) news (by simp [Act.eval, Act.put]) s1.out hsrc.out s2.out (by omega) s3.out ?_; rw [← hW.out])
  go_wp2
  go_ret
  refine ⟨by rw [show n - (j - i) = i + (n - j) by omega]; rfl, 1, vs, ?_, ?_⟩
  · rw [hvl']
    congr 1
    omega
  · rw [hW.out, Nat.zero_add]
    rfl
theorem del84_ok : EntOk Tryd.prog (.fr 84 [⟨0, false, .slc true (.pair (.int .i64) (.pair (.int .i64) (.int .i64)))⟩, ⟨1, false, .int .i64⟩, ⟨2, false, .int .i64⟩] [] [⟨0, false, .slc true (.pair (.int .i64) (.pair (.int .i64) (.int .i64)))⟩] fun d => delB (s := (.pair (.int .i64) (.pair (.int .i64) (.int .i64)))) d.1 d.2.1 d.2.2) :=
  del_ok Tryd.func84 (by kernel_rfl) rfl (.pair (.int .i64) (.pair (.int .i64) (.int .i64))) (by decide) fun b cap i j l cs el fz w h1 h2 h3 h4 h5 h6 h7 h8 => del84_calls b cap i j l cs el fz w h1 h2 h3 h4 h5 h6 h7 h8
end Go.Proofs.YthobhonnicadaaaDoorS
