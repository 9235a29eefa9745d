/- The library's functions at this seat (printed by wip/sim/gen.py). -/
import Derived.Test.YtplamonjnlgomaaGreatDoorSimFt
import Derived.Test.YtplamonjnlgomaaGreatDoorSimRp
import Derived.Test.YtplamonjnlgomaaGreatDoorSimFs
import Derived.Test.YtplamonjnlgomaaGreatDoorShelf
import Derived.WalkKit
namespace Go.Proofs.YtplamonjnlgomaaGreatDoorS
open Go Go.Proofs Go.RowKit
set_option maxRecDepth 100000
theorem strCount1_calls (a b : ByteArray) (r : Int) (w : World) (h : strCount1 a b = some r) : Calls Tryz.prog 177 #[.string a, .string b] w fun e w' => e = .returned (.int .i64 r) ∧ Below w.heap.size w w' := by
  unfold strCount1 at h
  split at h <;> cases h
  rename_i c hb
  obtain ⟨⟨L⟩⟩ := b
  have hb : L = [c] := hb
  subst hb
  exact (Tryz.strings_Count_one a c w).mono fun e w' ⟨h1, h2⟩ => ⟨h1, h2 ▸ Below.refl _ _⟩
theorem strRep_calls (a : ByteArray) (n : Int) (r : ByteArray) (w : World) (h : strRep a n = some r) : Calls Tryz.prog 198 #[.string a, .int .i64 n] w fun e w' => e = .returned (.string r) ∧ Below w.heap.size w w' := by
  unfold strRep at h
  split at h <;> cases h
  rename_i hs
  obtain ⟨⟨h0, h1⟩, h2⟩ := hs
  obtain ⟨c, rfl⟩ := Int.eq_ofNat_of_zero_le h0
  have := Nat.mul_le_mul (show a.size ≤ 100000 by omega) (show c ≤ 100000 by omega)
  exact Tryz.strings_Repeat a c w (by omega) (by omega)
theorem itoaAll_calls (a : Int) (w : World) (hw : WG w) (h0 : -9223372036854775808 ≤ a) (h1 : a ≤ 9223372036854775807) : Calls Tryz.prog 252 #[.int .i64 a] w fun e w' => e = .returned (.string ⟨(Lib.itoa a).toArray⟩) ∧ Below w.heap.size w w' := by
  obtain ⟨v, hv, _, hs⟩ := hw
  have ht : Lib.TabIs Tryz.prog w "internal/strconv.uint64pow10" .u64 Lib.pow10Tab := World.var_heap hs hv.pow10
  refine (Tryz.strconv_Itoa a h0 h1 w ht).mono fun e w' h => ?_
  obtain ⟨h1, k, os, rfl⟩ := h
  exact ⟨h1, below_grow w k os⟩
theorem within131_calls (n lo hi : Int) (w : World) : Calls Tryz.prog 131 #[.int .i64 n, .int .i64 lo, .int .i64 hi] w fun e w' => e = .returned (.bool (decide (lo ≤ n ∧ n ≤ hi))) ∧ w' = w := by
  go_enter Tryz.func131, Tryz.ntmps131
  go_wp2
  all_goals go_ret
  · rename_i h
    exact ⟨by simp [h], rfl⟩
  · rename_i h
    exact ⟨by simp [show ¬ lo ≤ n by omega], rfl⟩
theorem num_inj {a b : ByteArray} (h : a.data.toList = b.data.toList) : a = b := by
  obtain ⟨⟨l⟩⟩ := a
  obtain ⟨⟨m⟩⟩ := b
  have h : l = m := h
  rw [h]
theorem wg_below {w w' : World} (hw : WG w) (hb : Below w.heap.size w w') : WG w' := by
  obtain ⟨v, hv, hz, hs⟩ := hw
  exact ⟨v, hv, Nat.le_trans hz hb.size, fun b h => (hb.block b (by omega)).trans (hs b h)⟩
theorem number_ok_calls (s : ByteArray) (m v n : Int) (b : Bool) (w : World) (hA : Calls Tryz.prog 308 #[.string s] w fun e w' => e = .returned (.tuple #[.int .i64 v, .nilIface]) ∧ Below w.heap.size w w')
    (t : ByteArray) (hI : ∀ w1, Below w.heap.size w w1 → Calls Tryz.prog 252 #[.int .i64 v] w1 fun e w' => e = .returned (.string t) ∧ Below w.heap.size w w') (hr : (if t = s ∧ 0 ≤ v ∧ v ≤ m then (v, true) else (0, false)) = (n, b)) :
    Calls Tryz.prog 258 #[.string s, .int .i64 m] w fun e w' => e = .returned (.tuple #[.int .i64 n, .bool b]) ∧ Below w.heap.size w w' := by
  go_enter Tryz.func258, Tryz.ntmps258
  go_wp2_with (first
    | (go_at_call 308; refine hA.mono ?_; rintro e w1 ⟨rfl, hb1⟩)
    | (go_at_call 252; refine (hI _ hb1).mono ?_; rintro e w2 ⟨rfl, hb2⟩)
    | (go_at_call 131; refine (within131_calls _ _ _ _).mono ?_; rintro e w3 ⟨rfl, rfl⟩))
  all_goals go_ret2
  · have h2 : (!decide (0 ≤ v)) = true ∨ (!decide (v ≤ m)) = true := by assumption
    rw [if_neg (by intro h; simp at h2; omega)] at hr
    obtain ⟨rfl, rfl⟩ := Prod.mk.inj hr
    exact ⟨by simp, by assumption⟩
  · have h1 : t.toList = s.toList := by assumption
    have h2 : (!decide (0 ≤ v)) = false ∧ (!decide (v ≤ m)) = false := by assumption
    rw [if_pos ⟨num_inj (by rwa [ByteArray.toList_eq, ByteArray.toList_eq] at h1), by simp at h2; omega, by simp at h2; omega⟩] at hr
    obtain ⟨rfl, rfl⟩ := Prod.mk.inj hr
    exact ⟨by simp, by assumption⟩
  · have h1 : ¬ t.toList = s.toList := by assumption
    rw [if_neg (by intro h; exact h1 (by rw [h.1]))] at hr
    obtain ⟨rfl, rfl⟩ := Prod.mk.inj hr
    exact ⟨by simp, by assumption⟩
theorem number_err_calls (s : ByteArray) (m v : Int) (te : TypeId) (a : Nat → Value) (w : World) (hA : Calls Tryz.prog 308 #[.string s] w fun e w' => ∃ N, e = .returned (.tuple #[.int .i64 v, .iface te (a N)]) ∧ Below w.heap.size w w') :
    Calls Tryz.prog 258 #[.string s, .int .i64 m] w fun e w' => e = .returned (.tuple #[.int .i64 0, .bool false]) ∧ Below w.heap.size w w' := by
  go_enter Tryz.func258, Tryz.ntmps258
  go_wp2_with (first
    | (go_at_call 308; refine hA.mono ?_; rintro e w1 ⟨N, rfl, hb1⟩))
  all_goals go_ret2
  all_goals exact ⟨by simp, by assumption⟩
theorem number_calls (s : ByteArray) (m n : Int) (b : Bool) (w : World) (hw : WG w) (h : numB s m = some (n, b)) : Calls Tryz.prog 258 #[.string s, .int .i64 m] w fun e w' => e = .returned (.tuple #[.int .i64 n, .bool b]) ∧ Below w.heap.size w w' := by
  unfold numB at h
  split at h
  · rename_i hl
    split at h
    · rename_i v hv
      have hbv := Lib.atoiAll_bounds hv
      refine number_ok_calls s m v n b w ?_ ⟨(Lib.itoa v).toArray⟩ ?_ ?_
      · refine (Tryz.strconv_Atoi_ok s (by omega) v hv w).mono fun e w' h => ⟨h.1, ?_⟩
        rcases h.2 with rfl | ⟨t, rfl⟩
        · exact Below.refl _ _
        · exact Lib.bytesWorld_below _ _ _
      · intro w1 hb
        exact (itoaAll_calls v w1 (wg_below hw hb) hbv.1 hbv.2).mono fun e w' h => ⟨h.1, hb.trans (h.2.mono hb.size)⟩
      · refine Eq.trans ?_ (Option.some.inj h)
        have e : ((⟨(Lib.itoa v).toArray⟩ : ByteArray) = s) = (Lib.itoa v = s.data.toList) := by
          apply propext
          refine ⟨fun h => by rw [← h], fun h => ?_⟩
          obtain ⟨⟨l⟩⟩ := s
          have h : Lib.itoa v = l := h
          rw [h]
        simp only [e]
    · rename_i hv
      obtain ⟨rfl, rfl⟩ := Prod.mk.inj (Option.some.inj h)
      obtain ⟨v0, hv0, hsz, hs⟩ := hw
      have hcell : ∀ g ev, v0.cell? ⟨g, 0, none⟩ = some ev → w.cell? ⟨g, 0, none⟩ = some ev := fun g ev h => World.cell_heap hs h
      cases hr : Lib.atoiAll s.data.toList with
      | ok v => exact absurd hr (hv v)
      | «syntax» =>
        obtain ⟨ev, he, hi⟩ := hv0.esyn
        exact number_err_calls s m _ _ (fun N => .pointer (some ⟨N, 0, none⟩)) w ((Tryz.strconv_Atoi_syntax s hl hr ev w (hcell _ _ he) hi).mono fun e w' ⟨N, h, _, _, hb⟩ => ⟨N, h, hb⟩)
      | range =>
        obtain ⟨ev, he, hi⟩ := hv0.erng
        exact number_err_calls s m _ _ (fun N => .pointer (some ⟨N, 0, none⟩)) w ((Tryz.strconv_Atoi_range s hl hr ev w (hcell _ _ he) hi).mono fun e w' ⟨N, h, _, _, hb⟩ => ⟨N, h, hb⟩)
  · cases h
theorem strSplit1_calls (s sep : ByteArray) (w : World) (hw : WG w) (h0 : s.size < 4294967281) (h1 : 1 ≤ sep.size) : Calls Tryz.prog 157 #[.string s, .string sep] w fun e w' => e = .returned (.slice (some ⟨w.heap.size, 0, none⟩) (Lib.countB s sep + 1) (Lib.countB s sep + 1)) ∧ ∃ T, w' = w.alloc (.cells ((Lib.splitB sep 0 (Lib.countB s sep) s).map Value.string).toArray T) := by
  obtain ⟨v, hv, _, hs⟩ := hw
  obtain ⟨m, hm⟩ := hv.maxlen
  exact (Tryz.strings_Split s sep m w h0 (World.cell_heap hs hm) h1).mono fun e w' h => ⟨h.1, _, h.2⟩
end Go.Proofs.YtplamonjnlgomaaGreatDoorS
