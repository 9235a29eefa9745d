/- The library's functions at this seat (printed by wip/sim/gen.py). -/
import Derived.Test.YtplamonjnlgomaaGreatDoorSimFt
import Derived.Test.YtplamonjnlgomaaGreatDoorSimDl
import Derived.Test.YtplamonjnlgomaaGreatDoorSimFs
import Derived.Test.YtplamonjnlgomaaGreatDoorShelf
import Derived.WalkKit
import Derived.Deep.LoopGhost
import Derived.Deep.RegionLaw
import Derived.Shelf.Strings.SlTrimAscii
namespace Go.Proofs.YtplamonjnlgomaaGreatDoorS
open Go Go.Proofs Go.RowKit Go.Shelf Go.Sort
set_option linter.unusedVariables false
set_option maxRecDepth 100000
theorem clone251_ok : EntOk Tryz.prog (.fr 251 [⟨0, false, .slc false (.pair (.int .i64) (.pair (.int .i64) (.int .i64)))⟩] [] [⟨0, false, .slc true (.pair (.int .i64) (.pair (.int .i64) (.int .i64)))⟩] fun d => cloneB (s := (.pair (.int .i64) (.pair (.int .i64) (.int .i64)))) 24 d) := by
  obtain ⟨i0, hi, hz⟩ := Option.map_eq_some_iff.1 (by kernel_rfl : (Tryz.prog.info? 65).map (fun i => (i.zero.map fun z => z.cells.size, i.size, i.bytes)) = some (some 3, 3, 24))
  simp only [Prod.mk.injEq] at hz
  obtain ⟨hz0, hz1, hz2⟩ := hz
  obtain ⟨z, hz, hzs⟩ := Option.map_eq_some_iff.1 hz0
  exact clone_ok Tryz.func251 (by kernel_rfl) rfl (.pair (.int .i64) (.pair (.int .i64) (.int .i64))) 24 (by decide) 65 (fun b off n c news w h1 h2 h3 h4 h5 => Tryz.slices_Clone i0 z 3 24 hi hz hz1 hz2 hzs (by decide) Tryz.sizeOf65 b off n c news w h1 h2 h3 h4 h5) (fun n c w => Tryz.slices_Clone_nil n c w)
theorem strCount1_calls (a b : ByteArray) (r : Int) (w : World) (h : strCount1 a b = some r) : Calls Tryz.prog 177 #[.string a, .string b] w fun e w' => e = .returned (.int .i64 r) ∧ Below w.heap.size w w' := by
  unfold strCount1 at h
  split at h <;> cases h
  rename_i c hb
  obtain ⟨⟨L⟩⟩ := b
  have hb : L = [c] := hb
  subst hb
  exact (Tryz.strings_Count_one a c w).mono fun e w' ⟨h1, h2⟩ => ⟨h1, h2 ▸ Below.refl _ _⟩
theorem strTrim_calls (a b : ByteArray) (r : ByteArray) (w : World) (h : strTrim a b = some r) : Calls Tryz.prog 237 #[.string a, .string b] w fun e w' => e = .returned (.string r) ∧ Below w.heap.size w w' := by
  unfold strTrim at h
  split at h
  · rename_i hc
    obtain ⟨h0, h1, h2⟩ := hc
    obtain rfl := Option.some.inj h
    exact Any.strings_Trim_laid Tryz.lays160 (by kernel_rfl) a b w h0 h1 (ascii_of_all h2)
  · cases h
theorem itoaAll_calls (a : Int) (w : World) (hw : WG w) (h0 : -9223372036854775808 ≤ a) (h1 : a ≤ 9223372036854775807) : Calls Tryz.prog 252 #[.int .i64 a] w fun e w' => e = .returned (.string ⟨(Lib.itoa a).toArray⟩) ∧ Below w.heap.size w w' := by
  obtain ⟨v, hv, _, hs⟩ := hw
  have ht : Lib.TabIs Tryz.prog w "internal/strconv.uint64pow10" .u64 Lib.pow10Tab := World.var_heap hs hv.pow10
  refine (Tryz.strconv_Itoa a h0 h1 w ht).mono fun e w' h => ?_
  obtain ⟨h1, k, os, rfl⟩ := h
  exact ⟨h1, below_grow w k os⟩
theorem within131_calls (n lo hi : Int) (w : World) : Calls Tryz.prog 131 #[.int .i64 n, .int .i64 lo, .int .i64 hi] w fun e w' => e = .returned (.bool (decide (lo ≤ n ∧ n ≤ hi))) ∧ w' = w := by
  go_enter Tryz.func131, Tryz.ntmps131
  go_wp2
  all_goals go_ret
  · rename_i h
    exact ⟨by simp [h], rfl⟩
  · rename_i h
    exact ⟨by simp [show ¬ lo ≤ n by omega], rfl⟩
theorem num_inj {a b : ByteArray} (h : a.data.toList = b.data.toList) : a = b := by
  obtain ⟨⟨l⟩⟩ := a
  obtain ⟨⟨m⟩⟩ := b
  have h : l = m := h
  rw [h]
theorem wg_below {w w' : World} (hw : WG w) (hb : Below w.heap.size w w') : WG w' := by
  obtain ⟨v, hv, hz, hs⟩ := hw
  exact ⟨v, hv, Nat.le_trans hz hb.size, fun b h => (hb.block b (by omega)).trans (hs b h)⟩
theorem number_ok_calls (s : ByteArray) (m v n : Int) (b : Bool) (w : World) (hA : Calls Tryz.prog 308 #[.string s] w fun e w' => e = .returned (.tuple #[.int .i64 v, .nilIface]) ∧ Below w.heap.size w w')
    (t : ByteArray) (hI : ∀ w1, Below w.heap.size w w1 → Calls Tryz.prog 252 #[.int .i64 v] w1 fun e w' => e = .returned (.string t) ∧ Below w.heap.size w w') (hr : (if t = s ∧ 0 ≤ v ∧ v ≤ m then (v, true) else (0, false)) = (n, b)) :
    Calls Tryz.prog 258 #[.string s, .int .i64 m] w fun e w' => e = .returned (.tuple #[.int .i64 n, .bool b]) ∧ Below w.heap.size w w' := by
  go_enter Tryz.func258, Tryz.ntmps258
  go_wp2_with (first
    | (go_at_call 308; refine hA.mono ?_; rintro e w1 ⟨rfl, hb1⟩)
    | (go_at_call 252; refine (hI _ hb1).mono ?_; rintro e w2 ⟨rfl, hb2⟩)
    | (go_at_call 131; refine (within131_calls _ _ _ _).mono ?_; rintro e w3 ⟨rfl, rfl⟩))
  all_goals go_ret2
  · have h2 : (!decide (0 ≤ v)) = true ∨ (!decide (v ≤ m)) = true := by assumption
    rw [if_neg (by intro h; simp at h2; omega)] at hr
    obtain ⟨rfl, rfl⟩ := Prod.mk.inj hr
    exact ⟨by simp, by assumption⟩
  · have h1 : t.toList = s.toList := by assumption
    have h2 : (!decide (0 ≤ v)) = false ∧ (!decide (v ≤ m)) = false := by assumption
    rw [if_pos ⟨num_inj (by rwa [ByteArray.toList_eq, ByteArray.toList_eq] at h1), by simp at h2; omega, by simp at h2; omega⟩] at hr
    obtain ⟨rfl, rfl⟩ := Prod.mk.inj hr
    exact ⟨by simp, by assumption⟩
  · have h1 : ¬ t.toList = s.toList := by assumption
    rw [if_neg (by intro h; exact h1 (by rw [h.1]))] at hr
    obtain ⟨rfl, rfl⟩ := Prod.mk.inj hr
    exact ⟨by simp, by assumption⟩
theorem number_err_calls (s : ByteArray) (m v : Int) (te : TypeId) (a : Nat → Value) (w : World) (hA : Calls Tryz.prog 308 #[.string s] w fun e w' => ∃ N, e = .returned (.tuple #[.int .i64 v, .iface te (a N)]) ∧ Below w.heap.size w w') :
    Calls Tryz.prog 258 #[.string s, .int .i64 m] w fun e w' => e = .returned (.tuple #[.int .i64 0, .bool false]) ∧ Below w.heap.size w w' := by
  go_enter Tryz.func258, Tryz.ntmps258
  go_wp2_with (first
    | (go_at_call 308; refine hA.mono ?_; rintro e w1 ⟨N, rfl, hb1⟩))
  all_goals go_ret2
  all_goals exact ⟨by simp, by assumption⟩
theorem number_calls (s : ByteArray) (m n : Int) (b : Bool) (w : World) (hw : WG w) (h : numB s m = some (n, b)) : Calls Tryz.prog 258 #[.string s, .int .i64 m] w fun e w' => e = .returned (.tuple #[.int .i64 n, .bool b]) ∧ Below w.heap.size w w' := by
  unfold numB at h
  split at h
  · rename_i hl
    split at h
    · rename_i v hv
      have hbv := Lib.atoiAll_bounds hv
      refine number_ok_calls s m v n b w ?_ ⟨(Lib.itoa v).toArray⟩ ?_ ?_
      · refine (Tryz.strconv_Atoi_ok s (by omega) v hv w).mono fun e w' h => ⟨h.1, ?_⟩
        rcases h.2 with rfl | ⟨t, rfl⟩
        · exact Below.refl _ _
        · exact Lib.bytesWorld_below _ _ _
      · intro w1 hb
        exact (itoaAll_calls v w1 (wg_below hw hb) hbv.1 hbv.2).mono fun e w' h => ⟨h.1, hb.trans (h.2.mono hb.size)⟩
      · refine Eq.trans ?_ (Option.some.inj h)
        have e : ((⟨(Lib.itoa v).toArray⟩ : ByteArray) = s) = (Lib.itoa v = s.data.toList) := by
          apply propext
          refine ⟨fun h => by rw [← h], fun h => ?_⟩
          obtain ⟨⟨l⟩⟩ := s
          have h : Lib.itoa v = l := h
          rw [h]
        simp only [e]
    · rename_i hv
      obtain ⟨rfl, rfl⟩ := Prod.mk.inj (Option.some.inj h)
      obtain ⟨v0, hv0, hsz, hs⟩ := hw
      have hcell : ∀ g ev, v0.cell? ⟨g, 0, none⟩ = some ev → w.cell? ⟨g, 0, none⟩ = some ev := fun g ev h => World.cell_heap hs h
      cases hr : Lib.atoiAll s.data.toList with
      | ok v => exact absurd hr (hv v)
      | «syntax» =>
        obtain ⟨ev, he, hi⟩ := hv0.esyn
        exact number_err_calls s m _ _ (fun N => .pointer (some ⟨N, 0, none⟩)) w ((Tryz.strconv_Atoi_syntax s hl hr ev w (hcell _ _ he) hi).mono fun e w' ⟨N, h, _, _, hb⟩ => ⟨N, h, hb⟩)
      | range =>
        obtain ⟨ev, he, hi⟩ := hv0.erng
        exact number_err_calls s m _ _ (fun N => .pointer (some ⟨N, 0, none⟩)) w ((Tryz.strconv_Atoi_range s hl hr ev w (hcell _ _ he) hi).mono fun e w' ⟨N, h, _, _, hb⟩ => ⟨N, h, hb⟩)
  · cases h
theorem strSplit1_calls (s sep : ByteArray) (w : World) (hw : WG w) (h0 : s.size < 4294967281) (h1 : 1 ≤ sep.size) : Calls Tryz.prog 157 #[.string s, .string sep] w fun e w' => e = .returned (.slice (some ⟨w.heap.size, 0, none⟩) (Lib.countB s sep + 1) (Lib.countB s sep + 1)) ∧ ∃ T, w' = w.alloc (.cells ((Lib.splitB sep 0 (Lib.countB s sep) s).map Value.string).toArray T) := by
  obtain ⟨v, hv, _, hs⟩ := hw
  obtain ⟨m, hm⟩ := hv.maxlen
  exact (Tryz.strings_Split s sep m w h0 (World.cell_heap hs hm) h1).mono fun e w' h => ⟨h.1, _, h.2⟩
set_option maxHeartbeats 4000000 in
theorem del250_calls (blk cap i j : Nat) (l : List (Sh.pair (.int .i64) (.pair (.int .i64) (.int .i64))).T) (cs : Array Value) (el : TypeId) (fz : Nat × Nat) (w : World) (hh : w.heap[blk]? = some (.cells cs el fz)) (ht : cs.toList.take (l.length * 3) = flat (.pair (.int .i64) (.pair (.int .i64) (.int .i64))) l) (hcs : cs.size = cap * 3) (hcap : l.length ≤ cap) (hm : l.length ≤ 1048576) (hfz : ∀ o, o < cs.size → ¬ (fz.1 ≤ o ∧ o < fz.2)) (hij : i < j) (hj : j ≤ l.length) :
    Calls Tryz.prog 250 #[.slice (some ⟨blk, 0, none⟩) l.length cap, .int .i64 i, .int .i64 j] w fun e w' => e = .returned (.slice (some ⟨blk, 0, none⟩) (l.length - (j - i)) cap) ∧ ∃ (q : Nat) (vs : List Value), vs.length = (j - i) * 3 ∧ w' = ((w.drewN q).setCells blk (i * 3) (flat (.pair (.int .i64) (.pair (.int .i64) (.int .i64))) (l.drop j))).setCells blk ((i + (l.length - j)) * 3) vs := by
  obtain ⟨n, hn⟩ : ∃ n, n = l.length := ⟨_, rfl⟩
  rw [← hn] at ht hcap hm hj ⊢
  obtain ⟨news, hnews⟩ : ∃ news, news = flat (.pair (.int .i64) (.pair (.int .i64) (.int .i64))) (l.drop j) := ⟨_, rfl⟩
  have hnl : news.length = (n - j) * 3 := by rw [hnews, flat_len, List.length_drop, ← hn]; rfl
  have hone : ∀ u ∈ news, u.oneCell' = true := by rw [hnews]; exact flat_one _ _
  have hnget : ∀ t u, news[t]? = some u → cs[j * 3 + t]? = some u := fun t u hu => by
    have h1 := (List.getElem?_eq_some_iff.1 hu).1
    have e1 : news = (flat (.pair (.int .i64) (.pair (.int .i64) (.int .i64))) l).drop (j * 3) := by rw [hnews]; exact flat_drop _ _ _
    rw [e1, List.getElem?_drop, ← ht, List.getElem?_take] at hu
    split at hu
    · rwa [Array.getElem?_toList] at hu
    · cases hu
  rw [← hnews]
  have hcell : ∀ (w' : World) (t : Nat), w'.heap[blk]? = some (.cells cs el fz) → t < cap * 3 → (w'.cell? ⟨blk, t, none⟩).isSome = true ∧ w'.frozen? ⟨blk, t, none⟩ = false := fun w' t hw ht' => by
    refine ⟨?_, frozen_of hw (hfz t (by omega))⟩
    rw [cell_of hw, Array.getElem?_eq_getElem (by omega)]
    rfl
  obtain ⟨A, hA, hsrc⟩ : ∃ A : Addr, (if cap = j then some (⟨blk, 0, none⟩ : Addr) else some ⟨blk, j * 3, none⟩) = some A ∧ Hid (∀ t u, news[t]? = some u → w.drew.cell? (A.add t) = some u) := by
    by_cases h : cap = j
    · refine ⟨⟨blk, 0, none⟩, by simp [h], fun t u hu => ?_⟩
      have h1 := (List.getElem?_eq_some_iff.1 hu).1
      omega
    · refine ⟨⟨blk, j * 3, none⟩, by simp [h], fun t u hu => ?_⟩
      rw [Addr.add_lit]
      exact (cell_of (w := w.drew) hh).trans (hnget t u hu)
  have s1 : Hid (news.length = (n - j) * 3) := hnl
  have s2 : Hid (∀ u ∈ news, u.oneCell' = true) := hone
  have s3 : Hid (∀ t, t < news.length → (w.drew.cell? ⟨blk, 0 + i * 3 + t, none⟩).isSome = true ∧ w.drew.frozen? ⟨blk, 0 + i * 3 + t, none⟩ = false) := fun t ht' => by
    rw [hnl] at ht'
    exact hcell w.drew _ hh (by omega)
  obtain ⟨W1, hW1⟩ : ∃ W1, W1 = w.drew.setCells blk (0 + i * 3) news := ⟨_, rfl⟩
  have hW : Hid (W1 = w.drew.setCells blk (0 + i * 3) news) := hW1
  obtain ⟨cs1, hcs1, hcl1⟩ : ∃ cs1, W1.heap[blk]? = some (.cells cs1 el fz) ∧ cs1.size = cs.size := by
    have h1 := setCells_heap blk news (0 + i * 3) w.drew cs el fz hh (by rw [hnl]; omega)
    rw [← hW1] at h1
    refine ⟨_, h1, ?_⟩
    simp only [List.size_toArray, List.length_append, List.length_take, List.length_drop, Array.length_toList, hnl]
    omega
  obtain ⟨i0, hi, hz⟩ := Option.map_eq_some_iff.1 (by kernel_rfl : (Tryz.prog.info? 65).map (fun i => (i.zero, i.size)) = some (some (.agg #[.int .i64 0, .int .i64 0, .int .i64 0]), 3))
  simp only [Prod.mk.injEq] at hz
  obtain ⟨hz0, hz1⟩ := hz
  obtain ⟨vs, hvl, hv1, hclr⟩ := run_clear_cells (P := Tryz.prog) W1 45 65 (.agg #[.int .i64 0, .int .i64 0, .int .i64 0]) Tryz.underlying45 (fun w => run_zero hi hz0 w) (by simp [Value.cells, Value.oneCell']) blk ((i + (n - j)) * 3) (n - (i + (n - j))) (cap - (i + (n - j))) (by omega)
    (fun t ht' => by
      have ht' : t < (n - (i + (n - j))) * 3 := ht'
      rw [cell_of hcs1, Array.getElem?_eq_getElem (by omega)]; rfl) (fun t ht' => by
      have ht' : t < (n - (i + (n - j))) * 3 := ht'
      exact frozen_of hcs1 (hfz _ (by omega)))
  have hvl' : vs.length = (n - (i + (n - j))) * 3 := hvl
  have hic : i ≤ cap := by omega
  have hjc : j ≤ cap := by omega
  have hij' : ¬ i = j := by omega
  clear hn hW1 hnget hcell hnews hone hnl ht hcs hfz hh hv1 hcs1 hcl1 hvl
  have mixed : Tryz.prog.follows .mixedOrders = true := by kernel_rfl
  go_enter Tryz.func250, Tryz.ntmps250
  go_wp2_with fail
  go_region_law_o (refine step_append_room rfl (.tmp 22) (.tmp 25) 45 rfl 65 i0 3 Tryz.underlying45 hi hz1 blk 0 i cap (by simp [Act.eval, Act.put]) A (n - j) (cap - j) news (by simp [Act.eval, Act.put]) s1.out hsrc.out s2.out (by omega) s3.out ?_; rw [← hW.out])
  go_wp2
  go_ret
  refine ⟨by rw [show n - (j - i) = i + (n - j) by omega]; rfl, 1, vs, ?_, ?_⟩
  · rw [hvl']
    congr 1
    omega
  · rw [hW.out, Nat.zero_add]
    rfl
theorem del250_ok : EntOk Tryz.prog (.fr 250 [⟨0, false, .slc true (.pair (.int .i64) (.pair (.int .i64) (.int .i64)))⟩, ⟨1, false, .int .i64⟩, ⟨2, false, .int .i64⟩] [] [⟨0, false, .slc true (.pair (.int .i64) (.pair (.int .i64) (.int .i64)))⟩] fun d => delB (s := (.pair (.int .i64) (.pair (.int .i64) (.int .i64)))) d.1 d.2.1 d.2.2) :=
  del_ok Tryz.func250 (by kernel_rfl) rfl (.pair (.int .i64) (.pair (.int .i64) (.int .i64))) (by decide) fun b cap i j l cs el fz w h1 h2 h3 h4 h5 h6 h7 h8 => del250_calls b cap i j l cs el fz w h1 h2 h3 h4 h5 h6 h7 h8
end Go.Proofs.YtplamonjnlgomaaGreatDoorS
