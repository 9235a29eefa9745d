/- The library's functions at this seat (printed by wip/sim/gen.py). -/
import Derived.Test.YtcmebphcoamohaaGreatDoorSimFt
import Derived.Test.YtcmebphcoamohaaGreatDoorSimRp
import Derived.Test.YtcmebphcoamohaaGreatDoorSimFs
import Derived.Test.YtcmebphcoamohaaGreatDoorShelf
import Derived.WalkKit
import Derived.Defers
import Derived.RegionCalls
import Derived.Deep.RegionHeld3
import Derived.OwnWalk
import Derived.LoopTactic
import Derived.LoopN
import Derived.Laws.Append
import Derived.Laws.AppendOwn
import Derived.Handy
import Derived.Deep.WholeRow
import Derived.Shelf.Strings.SlTrimAscii
namespace Go.Proofs.YtcmebphcoamohaaGreatDoorS
open Go Go.Proofs Go.RowKit
set_option maxRecDepth 100000
theorem strCount1_calls (a b : ByteArray) (r : Int) (w : World) (h : strCount1 a b = some r) : Calls Tryz.prog 78 #[.string a, .string b] w fun e w' => e = .returned (.int .i64 r) ∧ Below w.heap.size w w' := by
  unfold strCount1 at h
  split at h <;> cases h
  rename_i c hb
  obtain ⟨⟨L⟩⟩ := b
  have hb : L = [c] := hb
  subst hb
  exact (Tryz.strings_Count_one a c w).mono fun e w' ⟨h1, h2⟩ => ⟨h1, h2 ▸ Below.refl _ _⟩
theorem strTrim_calls (a b : ByteArray) (r : ByteArray) (w : World) (h : strTrim a b = some r) : Calls Tryz.prog 84 #[.string a, .string b] w fun e w' => e = .returned (.string r) ∧ Below w.heap.size w w' := by
  unfold strTrim at h
  split at h
  · rename_i hc
    obtain ⟨h0, h1, h2⟩ := hc
    obtain rfl := Option.some.inj h
    exact Any.strings_Trim_laid Tryz.lays160 (by kernel_rfl) a b w h0 h1 (ascii_of_all h2)
  · cases h
theorem strRep_calls (a : ByteArray) (n : Int) (r : ByteArray) (w : World) (h : strRep a n = some r) : Calls Tryz.prog 80 #[.string a, .int .i64 n] w fun e w' => e = .returned (.string r) ∧ Below w.heap.size w w' := by
  unfold strRep at h
  split at h <;> cases h
  rename_i hs
  obtain ⟨⟨h0, h1⟩, h2⟩ := hs
  obtain ⟨c, rfl⟩ := Int.eq_ofNat_of_zero_le h0
  have := Nat.mul_le_mul (show a.size ≤ 100000 by omega) (show c ≤ 100000 by omega)
  exact Tryz.strings_Repeat a c w (by omega) (by omega)
theorem itoaAll_calls (a : Int) (w : World) (hw : WG w) (h0 : -9223372036854775808 ≤ a) (h1 : a ≤ 9223372036854775807) : Calls Tryz.prog 153 #[.int .i64 a] w fun e w' => e = .returned (.string ⟨(Lib.itoa a).toArray⟩) ∧ Below w.heap.size w w' := by
  obtain ⟨v, hv, _, hs⟩ := hw
  have ht : Lib.TabIs Tryz.prog w "internal/strconv.uint64pow10" .u64 Lib.pow10Tab := World.var_heap hs hv.pow10
  refine (Tryz.strconv_Itoa a h0 h1 w ht).mono fun e w' h => ?_
  obtain ⟨h1, k, os, rfl⟩ := h
  exact ⟨h1, below_grow w k os⟩
theorem within105_calls (n lo hi : Int) (w : World) : Calls Tryz.prog 105 #[.int .i64 n, .int .i64 lo, .int .i64 hi] w fun e w' => e = .returned (.bool (decide (lo ≤ n ∧ n ≤ hi))) ∧ w' = w := by
  go_enter Tryz.func105, Tryz.ntmps105
  go_wp2
  all_goals go_ret
  · rename_i h
    exact ⟨by simp [h], rfl⟩
  · rename_i h
    exact ⟨by simp [show ¬ lo ≤ n by omega], rfl⟩
theorem num_inj {a b : ByteArray} (h : a.data.toList = b.data.toList) : a = b := by
  obtain ⟨⟨l⟩⟩ := a
  obtain ⟨⟨m⟩⟩ := b
  have h : l = m := h
  rw [h]
theorem wg_below {w w' : World} (hw : WG w) (hb : Below w.heap.size w w') : WG w' := by
  obtain ⟨v, hv, hz, hs⟩ := hw
  exact ⟨v, hv, Nat.le_trans hz hb.size, fun b h => (hb.block b (by omega)).trans (hs b h)⟩
theorem number_ok_calls (s : ByteArray) (m v n : Int) (b : Bool) (w : World) (hA : Calls Tryz.prog 210 #[.string s] w fun e w' => e = .returned (.tuple #[.int .i64 v, .nilIface]) ∧ Below w.heap.size w w')
    (t : ByteArray) (hI : ∀ w1, Below w.heap.size w w1 → Calls Tryz.prog 153 #[.int .i64 v] w1 fun e w' => e = .returned (.string t) ∧ Below w.heap.size w w') (hr : (if t = s ∧ 0 ≤ v ∧ v ≤ m then (v, true) else (0, false)) = (n, b)) :
    Calls Tryz.prog 174 #[.string s, .int .i64 m] w fun e w' => e = .returned (.tuple #[.int .i64 n, .bool b]) ∧ Below w.heap.size w w' := by
  go_enter Tryz.func174, Tryz.ntmps174
  go_wp2_with (first
    | (go_at_call 210; refine hA.mono ?_; rintro e w1 ⟨rfl, hb1⟩)
    | (go_at_call 153; refine (hI _ hb1).mono ?_; rintro e w2 ⟨rfl, hb2⟩)
    | (go_at_call 105; refine (within105_calls _ _ _ _).mono ?_; rintro e w3 ⟨rfl, rfl⟩))
  all_goals go_ret2
  · have h2 : (!decide (0 ≤ v)) = true ∨ (!decide (v ≤ m)) = true := by assumption
    rw [if_neg (by intro h; simp at h2; omega)] at hr
    obtain ⟨rfl, rfl⟩ := Prod.mk.inj hr
    exact ⟨by simp, by assumption⟩
  · have h1 : t.toList = s.toList := by assumption
    have h2 : (!decide (0 ≤ v)) = false ∧ (!decide (v ≤ m)) = false := by assumption
    rw [if_pos ⟨num_inj (by rwa [ByteArray.toList_eq, ByteArray.toList_eq] at h1), by simp at h2; omega, by simp at h2; omega⟩] at hr
    obtain ⟨rfl, rfl⟩ := Prod.mk.inj hr
    exact ⟨by simp, by assumption⟩
  · have h1 : ¬ t.toList = s.toList := by assumption
    rw [if_neg (by intro h; exact h1 (by rw [h.1]))] at hr
    obtain ⟨rfl, rfl⟩ := Prod.mk.inj hr
    exact ⟨by simp, by assumption⟩
theorem number_err_calls (s : ByteArray) (m v : Int) (te : TypeId) (a : Nat → Value) (w : World) (hA : Calls Tryz.prog 210 #[.string s] w fun e w' => ∃ N, e = .returned (.tuple #[.int .i64 v, .iface te (a N)]) ∧ Below w.heap.size w w') :
    Calls Tryz.prog 174 #[.string s, .int .i64 m] w fun e w' => e = .returned (.tuple #[.int .i64 0, .bool false]) ∧ Below w.heap.size w w' := by
  go_enter Tryz.func174, Tryz.ntmps174
  go_wp2_with (first
    | (go_at_call 210; refine hA.mono ?_; rintro e w1 ⟨N, rfl, hb1⟩))
  all_goals go_ret2
  all_goals exact ⟨by simp, by assumption⟩
theorem number_calls (s : ByteArray) (m n : Int) (b : Bool) (w : World) (hw : WG w) (h : numB s m = some (n, b)) : Calls Tryz.prog 174 #[.string s, .int .i64 m] w fun e w' => e = .returned (.tuple #[.int .i64 n, .bool b]) ∧ Below w.heap.size w w' := by
  unfold numB at h
  split at h
  · rename_i hl
    split at h
    · rename_i v hv
      have hbv := Lib.atoiAll_bounds hv
      refine number_ok_calls s m v n b w ?_ ⟨(Lib.itoa v).toArray⟩ ?_ ?_
      · refine (Tryz.strconv_Atoi_ok s (by omega) v hv w).mono fun e w' h => ⟨h.1, ?_⟩
        rcases h.2 with rfl | ⟨t, rfl⟩
        · exact Below.refl _ _
        · exact Lib.bytesWorld_below _ _ _
      · intro w1 hb
        exact (itoaAll_calls v w1 (wg_below hw hb) hbv.1 hbv.2).mono fun e w' h => ⟨h.1, hb.trans (h.2.mono hb.size)⟩
      · refine Eq.trans ?_ (Option.some.inj h)
        have e : ((⟨(Lib.itoa v).toArray⟩ : ByteArray) = s) = (Lib.itoa v = s.data.toList) := by
          apply propext
          refine ⟨fun h => by rw [← h], fun h => ?_⟩
          obtain ⟨⟨l⟩⟩ := s
          have h : Lib.itoa v = l := h
          rw [h]
        simp only [e]
    · rename_i hv
      obtain ⟨rfl, rfl⟩ := Prod.mk.inj (Option.some.inj h)
      obtain ⟨v0, hv0, hsz, hs⟩ := hw
      have hcell : ∀ g ev, v0.cell? ⟨g, 0, none⟩ = some ev → w.cell? ⟨g, 0, none⟩ = some ev := fun g ev h => World.cell_heap hs h
      cases hr : Lib.atoiAll s.data.toList with
      | ok v => exact absurd hr (hv v)
      | range =>
        obtain ⟨ev, he, hi⟩ := hv0.erng
        exact number_err_calls s m _ _ (fun N => .pointer (some ⟨N, 0, none⟩)) w ((Tryz.strconv_Atoi_range s hl hr ev w (hcell _ _ he) hi).mono fun e w' ⟨N, h, _, _, hb⟩ => ⟨N, h, hb⟩)
      | _ =>
        obtain ⟨ev, he, hi⟩ := hv0.esyn
        exact number_err_calls s m _ _ (fun N => .pointer (some ⟨N, 0, none⟩)) w ((Tryz.strconv_Atoi_syntax s hl hr ev w (hcell _ _ he) hi).mono fun e w' ⟨N, h, _, _, hb⟩ => ⟨N, h, hb⟩)
  · cases h
theorem strCut_calls (s sep a b : ByteArray) (c : Bool) (w : World) (hw : WG w) (h : strCut s sep = some (a, b, c)) : Calls Tryz.prog 88 #[.string s, .string sep] w fun e w' => e = .returned (.tuple #[.string a, .string b, .bool c]) ∧ Below w.heap.size w w' := by
  unfold strCut at h
  split at h <;> cases h
  rename_i h0
  obtain ⟨v, hv, _, hs⟩ := hw
  obtain ⟨m, hm⟩ := hv.maxlen
  refine (Tryz.strings_Cut s sep m w h0 (World.cell_heap hs hm)).mono fun e w' h => ⟨h.1, ?_⟩
  obtain ⟨n, rfl⟩ := h.2
  exact below_drew w n
theorem strSplit1_calls (s sep : ByteArray) (w : World) (hw : WG w) (h0 : s.size < 4294967281) (h1 : 1 ≤ sep.size) : Calls Tryz.prog 173 #[.string s, .string sep] w fun e w' => e = .returned (.slice (some ⟨w.heap.size, 0, none⟩) (Lib.countB s sep + 1) (Lib.countB s sep + 1)) ∧ ∃ T, w' = w.alloc (.cells ((Lib.splitB sep 0 (Lib.countB s sep) s).map Value.string).toArray T) := by
  obtain ⟨v, hv, _, hs⟩ := hw
  obtain ⟨m, hm⟩ := hv.maxlen
  exact (Tryz.strings_Split s sep m w h0 (World.cell_heap hs hm) h1).mono fun e w' h => ⟨h.1, _, h.2⟩
set_option linter.unusedVariables false
theorem rp_disable (w : World) : (callFunc 282 #[]).run Tryz.prog w = .ok (.value (.tuple #[])) w := run_call_mark0 Tryz.func282 (by kernel_rfl) (by kernel_rfl) (by kernel_rfl) .disable (by kernel_rfl) w
theorem rp_enable (w : World) : (callFunc 284 #[]).run Tryz.prog w = .ok (.value (.tuple #[])) w := run_call_mark0 Tryz.func284 (by kernel_rfl) (by kernel_rfl) (by kernel_rfl) .enable (by kernel_rfl) w
theorem rp_acquire (a : Addr) (w : World) : (callFunc 285 #[.pointer (some a)]).run Tryz.prog w = .ok (.value (.tuple #[])) w := run_call_marked Tryz.func285 (by kernel_rfl) (by kernel_rfl) (by kernel_rfl) .acquire (by kernel_rfl) a w
theorem rp_releaseMerge (a : Addr) (w : World) : (callFunc 287 #[.pointer (some a)]).run Tryz.prog w = .ok (.value (.tuple #[])) w := run_call_marked Tryz.func287 (by kernel_rfl) (by kernel_rfl) (by kernel_rfl) .releaseMerge (by kernel_rfl) a w
theorem rp_store (a : Addr) (x : Value) (u : FrameMode) (w : World) (hc : w.cell? a = some x) (hz : w.frozen? a = false) :
    CallsD Tryz.prog 252 #[.pointer (some a), .bool true] u w fun e u' w' => u' = u ∧ (e = .returned (.tuple #[]) ∧ w' = w.drew.setCell a (.int .u32 1)) := by
  have hc' : w.drew.cell? a = some x := by go_simp
  have hz' : w.drew.frozen? a = false := by go_simp
  have hst := run_call_store (P := Tryz.prog) Tryz.func271 (by kernel_rfl) (by kernel_rfl) (by kernel_rfl) (by kernel_rfl) (k := .u32) (y := 1) hc' hz'
  go_enter_d Tryz.func252, Tryz.ntmps252
  go_wp2
  go_region_calls
  all_goals (go_end0; exact ⟨rfl, rfl⟩)
theorem rp_unlock (a : Addr) (u : FrameMode) (w : World) (hc : w.cell? a = some (.int .i32 1)) (hz : w.frozen? a = false) :
    CallsD Tryz.prog 251 #[.pointer (some a)] u w fun e u' w' => u' = u ∧ (e = .returned (.tuple #[]) ∧ w' = w.setCell a (.int .i32 0)) := by
  have hd := rp_disable
  have he := rp_enable
  have hr := rp_releaseMerge
  have hadd := run_call_add (P := Tryz.prog) Tryz.func288 (by kernel_rfl) (by kernel_rfl) (by kernel_rfl) .i32 (by kernel_rfl) (y := -1) (s := 0) hc hz (by simp [go_sem]; rfl)
  have hcv := run_convert_to_unsafe (P := Tryz.prog) (src := 295) (dst := 229) Tryz.underlying295 Tryz.underlying229 (by kernel_rfl) hc
  go_enter_d Tryz.func251, Tryz.ntmps251
  go_wp2
  go_end0
  go_wp2
  all_goals (go_end0; exact ⟨rfl, rfl⟩)
theorem rp_lock (a : Addr) (w : World) (hc : w.cell? a = some (.int .i32 0)) (hz : w.frozen? a = false) :
    Calls Tryz.prog 250 #[.pointer (some a)] w fun e w' => e = .returned (.tuple #[]) ∧ w' = w.setCell a (.int .i32 1) := by
  have hd := rp_disable
  have he := rp_enable
  have ha := rp_acquire
  have hcas := run_call_cas_hit (P := Tryz.prog) Tryz.func283 (by kernel_rfl) (by kernel_rfl) (by kernel_rfl) .i32 (by kernel_rfl) (y := 1) hc hz
  have hc' : (w.setCell a (.int .i32 1)).cell? a = some (.int .i32 1) := World.cell?_setCell_same w a _ hc
  have hcv := run_convert_to_unsafe (P := Tryz.prog) (src := 295) (dst := 229) Tryz.underlying295 Tryz.underlying229 (by kernel_rfl) hc'
  go_enter Tryz.func250, Tryz.ntmps250
  go_wp2
  first | go_end0 | (simp only [Exit.inBlock, Exit.then]; refine bodyPost_ret (results_none rfl _ _ _) rfl ?_) | refine bodyPost_ret (results_none rfl _ _ _) rfl ?_
  go_wp2
  all_goals (go_end0; exact ⟨rfl, rfl⟩)
set_option maxHeartbeats 1600000 in
theorem rp_slow (b : Nat) (fb : Value) (w : World) (h0 : w.cell? ⟨b, 0, none⟩ = some (.int .u32 0)) (h1 : w.cell? ⟨b, 1, none⟩ = some (.int .i32 0)) (f0 : w.frozen? ⟨b, 0, none⟩ = false) (f1 : w.frozen? ⟨b, 1, none⟩ = false)
    (Q : World → Prop) (hB : Calls Tryz.prog 196 #[.pointer (some ⟨b, 0, none⟩)] (w.setCell ⟨b, 1, none⟩ (.int .i32 1)) fun e w' => e = .returned (.tuple #[]) ∧ Q w')
    (hQ : ∀ w', Q w' → w'.cell? ⟨b, 0, none⟩ = some (.int .u32 0) ∧ w'.cell? ⟨b, 1, none⟩ = some (.int .i32 1) ∧ w'.frozen? ⟨b, 0, none⟩ = false ∧ w'.frozen? ⟨b, 1, none⟩ = false) :
    Calls Tryz.prog 227 #[.pointer (some ⟨b, 0, none⟩), .func (.func 196) #[.pointer (some ⟨b, 0, none⟩)] #[]] w fun e w' => e = .returned (.tuple #[]) ∧ ∃ w1, Q w1 ∧ w' = (w1.drew.setCell ⟨b, 0, none⟩ (.int .u32 1)).setCell ⟨b, 1, none⟩ (.int .i32 0) := by
  have hl := run_call_load (P := Tryz.prog) Tryz.func249 (by kernel_rfl) (by kernel_rfl) (by kernel_rfl) .u32 (by kernel_rfl) (w := w.setCell ⟨b, 1, none⟩ (.int .i32 1)) (a := ⟨b, 0, none⟩) (x := 0) ((World.cell?_setCell_other _ ⟨b, 1, none⟩ ⟨b, 0, none⟩ _ (by simp)).trans h0)
  have hnot : ∀ (x : Bool) (w : World), (Op.unary .not (.bool x)).run Tryz.prog w = .ok (.bool (!x)) w := fun _ _ => rfl
  go_enter_defers Tryz.func227, Tryz.ntmps227
  go_wp2_with (first
    | (go_at_call 250; refine (rp_lock ⟨b, 1, none⟩ _ (by go_simp) (by go_simp)).mono ?_; rintro e w' ⟨rfl, rfl⟩)
    | (go_at_call 226; go_in)
    | (go_at_call 196; refine hB.mono ?_; rintro e w1 ⟨rfl, hq⟩))
  -- THE DOOR: two deferred calls, the last laid first
  refine leaves_cons (f := 252) (args := #[.pointer (some ⟨b, 0, none⟩), .bool true]) (by simp) (by simp [go_sem]) ?_
  obtain ⟨q0, q1, q2, q3⟩ := hQ _ hq
  refine (rp_store ⟨b, 0, none⟩ (.int .u32 0) .returning _ q0 q2).mono ?_
  rintro e u' w'' ⟨rfl, rfl, rfl⟩
  refine leaves_cons (f := 251) (args := #[.pointer (some ⟨b, 1, none⟩)]) (by simp [settle]) (by simp [go_sem]) ?_
  refine (rp_unlock ⟨b, 1, none⟩ _ _ ?_ (by simp [q3])).mono ?_
  · refine (World.cell?_setCell_other _ ⟨b, 0, none⟩ ⟨b, 1, none⟩ _ (by simp)).trans ?_
    rw [World.cell?_drew]
    exact q1
  rintro e u' w'' ⟨rfl, rfl, rfl⟩
  simp [Leaves, settle, results, Tryz.results227]
  exact ⟨_, hq, rfl⟩
set_option maxHeartbeats 1600000 in
theorem rp_do (b : Nat) (w : World) (h0 : w.cell? ⟨b, 0, none⟩ = some (.int .u32 0)) (h1 : w.cell? ⟨b, 1, none⟩ = some (.int .i32 0)) (f0 : w.frozen? ⟨b, 0, none⟩ = false) (f1 : w.frozen? ⟨b, 1, none⟩ = false)
    (Q : World → Prop) (hB : Calls Tryz.prog 196 #[.pointer (some ⟨b, 0, none⟩)] (w.setCell ⟨b, 1, none⟩ (.int .i32 1)) fun e w' => e = .returned (.tuple #[]) ∧ Q w')
    (hQ : ∀ w', Q w' → w'.cell? ⟨b, 0, none⟩ = some (.int .u32 0) ∧ w'.cell? ⟨b, 1, none⟩ = some (.int .i32 1) ∧ w'.frozen? ⟨b, 0, none⟩ = false ∧ w'.frozen? ⟨b, 1, none⟩ = false) :
    Calls Tryz.prog 195 #[.pointer (some ⟨b, 0, none⟩), .func (.func 196) #[.pointer (some ⟨b, 0, none⟩)] #[]] w fun e w' => e = .returned (.tuple #[]) ∧ ∃ w1, Q w1 ∧ w' = (w1.drew.setCell ⟨b, 0, none⟩ (.int .u32 1)).setCell ⟨b, 1, none⟩ (.int .i32 0) := by
  have hl := run_call_load (P := Tryz.prog) Tryz.func249 (by kernel_rfl) (by kernel_rfl) (by kernel_rfl) .u32 (by kernel_rfl) h0
  have hnot : ∀ (x : Bool) (w : World), (Op.unary .not (.bool x)).run Tryz.prog w = .ok (.bool (!x)) w := fun _ _ => rfl
  go_enter Tryz.func195, Tryz.ntmps195
  go_wp2_with (first | (go_at_call 227; refine (rp_slow b (.int .i64 0) w h0 h1 f0 f1 Q hB hQ).mono ?_; rintro e w' ⟨rfl, hw⟩) | (go_at_call 226; go_in))
  go_end0
  exact ⟨rfl, hw⟩
theorem rp_set {w : World} {b o : Nat} {cs : Array Value} {T : TypeId} {fz : Nat × Nat} (v : Value) (h : w.heap[b]? = some (.cells cs T fz)) : (w.setCell ⟨b, o, none⟩ v).heap[b]? = some (.cells (cs.setIfInBounds o v) T fz) := by
  simp [World.setCell, Array.getElem?_modify, h]
structure RInv (w : World) (k : Nat) (w' : World) : Prop where
  below : Below w.heap.size w w'
  ex : ∃ cs, w'.heap[w.heap.size]? = some (.cells cs 251) ∧ cs.size = 256 ∧ ∀ j : Nat, j < k → cs[j]? = some (.int .u8 j)
theorem rinv_start (w : World) : RInv w 0 (w.alloc (.cells Tryz.zeroCells251 251)) :=
  ⟨(Below.refl _ w).alloc (Nat.le_refl _) _, _, heap_alloc_last w _, by kernel_rfl, fun j hj => by omega⟩
theorem RInv.cell {w : World} {k : Nat} {w' : World} (I : RInv w k w') (j : Nat) (hj : j < 256) : ∃ x, w'.cell? ⟨w.heap.size, j, none⟩ = some x ∧ w'.frozen? ⟨w.heap.size, j, none⟩ = false := by
  obtain ⟨cs, h1, h2, _⟩ := I.ex
  refine ⟨cs[j]'(by omega), ?_, ?_⟩
  · unfold World.cell?
    rw [h1]
    simp [h2, hj]
  · unfold World.frozen?
    rw [h1]
    simp
theorem RInv.set {w : World} {k : Nat} {w' : World} (I : RInv w k w') (hk : k < 256) : RInv w (k + 1) (w'.setCell ⟨w.heap.size, k, none⟩ (.int .u8 k)) := by
  obtain ⟨cs, h1, h2, h3⟩ := I.ex
  refine ⟨I.below.setCell (p := ⟨w.heap.size, _, none⟩) (Nat.le_refl _) _, _, rp_set _ h1, by simp [h2], fun j hj => ?_⟩
  rw [Array.getElem?_setIfInBounds]
  by_cases h : k = j
  · subst h
    rw [if_pos rfl, if_pos (by omega)]
  · rw [if_neg h]
    exact h3 j (by omega)
structure TInv (w : World) (f : Nat → Nat) (w' : World) : Prop where
  below : Below w.heap.size w w'
  ex : ∃ cs, w'.heap[w.heap.size]? = some (.cells cs 251) ∧ cs.size = 256 ∧ ∀ j : Nat, j < 256 → cs[j]? = some (.int .u8 (f j))
theorem RInv.tab {w w' : World} (I : RInv w 256 w') : TInv w (fun j => j) w' := ⟨I.below, I.ex⟩
theorem TInv.set {w : World} {f : Nat → Nat} {w' : World} (I : TInv w f w') (a b : Nat) (ha : a < 256) : TInv w (swU f a b) (w'.setCell ⟨w.heap.size, a, none⟩ (.int .u8 b)) := by
  obtain ⟨cs, h1, h2, h3⟩ := I.ex
  refine ⟨I.below.setCell (p := ⟨w.heap.size, _, none⟩) (Nat.le_refl _) _, _, rp_set _ h1, by simp [h2], fun j hj => ?_⟩
  rw [Array.getElem?_setIfInBounds]
  unfold swU
  by_cases h : a = j
  · subst h
    rw [if_pos rfl, if_pos (by omega), if_pos rfl]
  · rw [if_neg h, if_neg (fun e => h e.symm)]
    exact h3 j hj
theorem TInv.cell {w : World} {f : Nat → Nat} {w' : World} (I : TInv w f w') (j : Nat) (hj : j < 256) : w'.cell? ⟨w.heap.size, j, none⟩ = some (.int .u8 (f j)) ∧ w'.frozen? ⟨w.heap.size, j, none⟩ = false := by
  obtain ⟨cs, h1, h2, h3⟩ := I.ex
  refine ⟨?_, ?_⟩
  · unfold World.cell?
    rw [h1]
    exact h3 j hj
  · unfold World.frozen?
    rw [h1]
    simp
theorem TInv.old {w : World} {f : Nat → Nat} {w' : World} (I : TInv w f w') {g j : Nat} {v : Value} (h : w.cell? ⟨g, j, none⟩ = some v) (hg : g < w.heap.size) : w'.cell? ⟨g, j, none⟩ = some v := by
  unfold World.cell? at h ⊢
  rw [I.below.block g hg]
  exact h
set_option maxHeartbeats 1600000 in
def Four (w : World) (g : Nat) (x y : UInt8) : Prop := ∃ cs T fz, w.heap[g]? = some (.cells cs T fz) ∧ cs[0]? = some (.string ⟨#[x]⟩) ∧ cs[1]? = some (.string ⟨#[y]⟩) ∧ cs[2]? = some (.string ⟨#[y]⟩) ∧ cs[3]? = some (.string ⟨#[x]⟩)
theorem Four.congr {w w' : World} {g : Nat} {x y : UInt8} (h : Four w g x y) (e : w'.heap[g]? = w.heap[g]?) : Four w' g x y := by
  obtain ⟨cs, T, fz, h1, h2⟩ := h
  exact ⟨cs, T, fz, e.trans h1, h2⟩
theorem rp_build (b g cap : Nat) (x y : UInt8) (T : TypeId) (fz : Nat × Nat) (w : World) (hr : w.cell? ⟨b, 4, none⟩ = some (.slice (some ⟨g, 0, none⟩) 4 cap)) (hg : Four w g x y) :
    Calls Tryz.prog 228 #[.pointer (some ⟨b, 0, none⟩)] w fun e w' => e = .returned (.iface 252 (.pointer (some ⟨w.heap.size, 0, none⟩))) ∧ TInv w (swp x.toNat y.toNat) w' := by
  obtain ⟨cs4, T4, fz4, hg, e0, e1, e2, e3⟩ := hg
  have c0 : w.cell? ⟨g, 0, none⟩ = some (.string ⟨#[x]⟩) := by unfold World.cell?; rw [hg]; exact e0
  have c1 : w.cell? ⟨g, 1, none⟩ = some (.string ⟨#[y]⟩) := by unfold World.cell?; rw [hg]; exact e1
  have c2 : w.cell? ⟨g, 2, none⟩ = some (.string ⟨#[y]⟩) := by unfold World.cell?; rw [hg]; exact e2
  have c3 : w.cell? ⟨g, 3, none⟩ = some (.string ⟨#[x]⟩) := by unfold World.cell?; rw [hg]; exact e3
  go_enter Tryz.func228, Tryz.ntmps228
  go_wp2_with fail
  go_loop [4, 5] (fun a i => a = .bool true ∧ (i = .int .i64 0 ∨ i = .int .i64 2 ∨ i = .int .i64 4)) (fun _ i => 4 - (intOf i).toNat)
  case atStart => exact ⟨rfl, .inl rfl⟩
  case round =>
    obtain ⟨rfl, hi⟩ := hrel
    rcases hi with rfl | rfl | rfl
    · go_wp2_with fail
      exact ⟨⟨rfl, .inr (.inl rfl)⟩, by simp [intOf]⟩
    · go_wp2_with fail
      exact ⟨⟨rfl, .inr (.inr rfl)⟩, by simp [intOf]⟩
    · have hst : (storeCells ⟨w.heap.size, 0, none⟩ Tryz.zeroCells251.toList 0).run Tryz.prog (w.alloc (.cells Tryz.zeroCells251 251)) = .ok () (w.alloc (.cells Tryz.zeroCells251 251)) := run_storeCells_new w 251 _ _ (by kernel_rfl) rfl (by kernel_rfl)
      go_wp2_with fail
      obtain ⟨W1, hW1⟩ : ∃ W1, W1 = w.alloc (.cells Tryz.zeroCells251 251) := ⟨_, rfl⟩
      have I0 : RInv w 0 W1 := by rw [hW1]; exact rinv_start w
      rw [← hW1]
      clear hW1 hst
      go_loopw [61] (fun i w' => ∃ k : Nat, k ≤ 256 ∧ i = .int .i64 k ∧ RInv w k w') (fun i _ => 256 - (intOf i).toNat)
      case atStart => exact ⟨0, by omega, rfl, I0⟩
      case round =>
        obtain ⟨k, hk, rfl, I⟩ := hrel
        by_cases hlt : k < 256
        · obtain ⟨x0, hc0, hz0⟩ := I.cell k hlt
          go_wp2_with fail
          exact ⟨⟨k + 1, by omega, by simp, I.set hlt⟩, by simp [intOf]; omega⟩
        · obtain rfl : k = 256 := by omega
          have I := I.tab
          have hgs := (Array.getElem?_eq_some_iff.1 hg).1
          have hx := x.toNat_lt
          have hy := y.toNat_lt
          have hix : ∀ (z : UInt8) (h : 0 < (⟨#[z]⟩ : ByteArray).size), (⟨#[z]⟩ : ByteArray)[0]'h = z := fun _ _ => rfl
          go_wp2_with fail
          go_loopw [8] (fun i w' => (i = .int .i64 2 ∧ TInv w (fun j => j) w') ∨ (i = .int .i64 0 ∧ TInv w (swU (fun j => j) y.toNat x.toNat) w') ∨ (i = .int .i64 (-2) ∧ TInv w (swp x.toNat y.toNat) w')) (fun i _ => (intOf i + 2).toNat)
          case atStart => exact .inl ⟨rfl, I⟩
          case round =>
            clear I
            rcases hrel with ⟨rfl, I⟩ | ⟨rfl, I⟩ | ⟨rfl, I⟩
            · have d2 := I.old c2 hgs
              have d3 := I.old c3 hgs
              obtain ⟨t1, t2⟩ := I.cell y.toNat hy
              go_wp2_with fail
              exact ⟨.inr (.inl ⟨rfl, I.set _ _ hy⟩), by simp [intOf]⟩
            · have d0 := I.old c0 hgs
              have d1 := I.old c1 hgs
              obtain ⟨t1, t2⟩ := I.cell x.toNat hx
              go_wp2_with fail
              exact ⟨.inr (.inr ⟨rfl, I.set _ _ hx⟩), by simp [intOf]⟩
            · go_wp2_with fail
              go_ret
              exact ⟨rfl, I⟩
theorem TInv.oldz {w : World} {f : Nat → Nat} {w' : World} (I : TInv w f w') {g j : Nat} (h : w.frozen? ⟨g, j, none⟩ = false) (hg : g < w.heap.size) : w'.frozen? ⟨g, j, none⟩ = false := by
  unfold World.frozen? at h ⊢
  rw [I.below.block g hg]
  exact h
theorem rp_once (b g cap : Nat) (x y : UInt8) (T : TypeId) (fz : Nat × Nat) (v3 : Value) (w : World) (hb : b < w.heap.size) (h3 : w.cell? ⟨b, 3, none⟩ = some v3) (f3 : w.frozen? ⟨b, 3, none⟩ = false) (f4 : w.frozen? ⟨b, 4, none⟩ = false) (hr : w.cell? ⟨b, 4, none⟩ = some (.slice (some ⟨g, 0, none⟩) 4 cap)) (hg : Four w g x y) :
    Calls Tryz.prog 196 #[.pointer (some ⟨b, 0, none⟩)] w fun e w' => e = .returned (.tuple #[]) ∧ ∃ W, TInv w (swp x.toNat y.toNat) W ∧ w' = (W.setCell ⟨b, 3, none⟩ (.iface 252 (.pointer (some ⟨w.heap.size, 0, none⟩)))).setCell ⟨b, 4, none⟩ (.slice none 0 0) := by
  have hB := rp_build b g cap x y T fz w hr hg
  go_enter Tryz.func196, Tryz.ntmps196
  go_wp2_with (go_at_call 228; refine hB.mono ?_; rintro e W ⟨rfl, I⟩; have k3 := I.old h3 hb; have k4 := I.old hr hb; have z3 := I.oldz f3 hb; have z4 := I.oldz f4 hb)
  go_end0
  exact ⟨rfl, W, I, rfl⟩
structure RepI (w : World) (f : Nat → Nat) (s : ByteArray) (k : Nat) (v : Value) (w' : World) : Prop where
  below : Below w.heap.size w w'
  buf : (v = .slice none 0 0 ∧ ∀ j c, j < k → s.data.toList[j]? = some c → f c.toNat = c.toNat) ∨
    ∃ (m cap : Nat) (cs : Array Value) (T : TypeId) (fz : Nat × Nat), v = .slice (some ⟨m, 0, none⟩) s.size cap ∧ w.heap.size ≤ m ∧ w'.heap[m]? = some (.cells cs T fz) ∧ s.size ≤ cs.size ∧ s.size ≤ fz.1 ∧ ∀ j c, s.data.toList[j]? = some c → cs[j]? = some (Value.int .u8 (if j < k then (f c.toNat : Int) else c.toNat))
theorem rp_conv (w : World) (s : ByteArray) : ∃ (W2 : World) (cap : Nat) (cs : Array Value) (T : TypeId) (fz : Nat × Nat), (convert 9 22 (.string s)).run Tryz.prog w = .ok (.slice (some ⟨w.heap.size, 0, none⟩) s.size cap) W2 ∧ W2.heap[w.heap.size]? = some (.cells cs T fz) ∧ s.size ≤ cs.size ∧ s.size ≤ fz.1 ∧
    (∀ (j : Nat) (c : UInt8), s.data.toList[j]? = some c → cs[j]? = some (Value.int .u8 c.toNat)) ∧ Below w.heap.size w W2 := by
  have hc := run_bytes_of_string (P := Tryz.prog) w 9 22 5 s Tryz.underlying9 Tryz.underlying22 Tryz.underlying5
  have hg := grownCap_ge w s.size 0 5
  have hz : (bytesRow s (grownCap w s.size 0 5)).size = grownCap w s.size 0 5 := by
    unfold bytesRow
    rw [Array.size_append, Array.size_map, Array.size_replicate]
    have : s.data.size = s.size := rfl
    omega
  refine ⟨_, _, _, _, _, hc, heap_alloc_new w.drew _, by rw [hz]; exact hg, by simp only [hz]; exact hg, fun j c hj => ?_, ((Below.refl _ w).drew).alloc (Nat.le_refl _) _⟩
  have hlt : j < s.data.size := by rw [← Array.length_toList]; exact (List.getElem?_eq_some_iff.1 hj).1
  unfold bytesRow
  rw [Array.getElem?_append_left (by rw [Array.size_map]; exact hlt), Array.getElem?_map, ← Array.getElem?_toList, hj]
  rfl
theorem rp_nil (a : Option Addr) (n c : Nat) (w : World) : (binOp .eql 22 (.slice a n c) (.slice none 0 0)).run Tryz.prog w = .ok (.bool a.isNone) w := by
  cases a <;> simp [binOp] <;> rfl
theorem RepI.skip {w : World} {f : Nat → Nat} {s : ByteArray} {k : Nat} {v : Value} {w' : World} (I : RepI w f s k v w') {c0 : UInt8} (hsk : s.data.toList[k]? = some c0) (he : f c0.toNat = c0.toNat) : RepI w f s (k + 1) v w' := by
  refine ⟨I.below, ?_⟩
  rcases I.buf with ⟨rfl, hb⟩ | ⟨m, cap, cs, T, fz, rfl, h1, h2, h3, h4, h5⟩
  · refine .inl ⟨rfl, fun j c hj hc => ?_⟩
    by_cases e : j = k
    · subst e
      rw [hsk] at hc
      cases hc
      exact he
    · exact hb j c (by omega) hc
  · refine .inr ⟨m, cap, cs, T, fz, rfl, h1, h2, h3, h4, fun j c hc => ?_⟩
    rw [h5 j c hc]
    by_cases e : j = k
    · subst e
      rw [hsk] at hc
      cases hc
      rw [if_neg (Nat.lt_irrefl _), if_pos (Nat.lt_succ_self _), he]
    · by_cases e2 : j < k
      · rw [if_pos e2, if_pos (by omega)]
      · rw [if_neg e2, if_neg (by omega)]
theorem RepI.put {w : World} {f : Nat → Nat} {s : ByteArray} {k : Nat} {w' : World} {v : Value} (I : RepI w f s k v w') (hlt : k < s.size) {c0 : UInt8} (hsk : s.data.toList[k]? = some c0) {m cap : Nat} {cs : Array Value} {T : TypeId} {fz : Nat × Nat} (h1 : w.heap.size ≤ m) (h2 : w'.heap[m]? = some (.cells cs T fz)) (h3 : s.size ≤ cs.size) (h4 : s.size ≤ fz.1)
    (h5 : ∀ (j : Nat) (c : UInt8), s.data.toList[j]? = some c → cs[j]? = some (Value.int .u8 (if j < k then (f c.toNat : Int) else c.toNat))) : RepI w f s (k + 1) (.slice (some ⟨m, 0, none⟩) s.size cap) (w'.setCell ⟨m, k, none⟩ (.int .u8 (f c0.toNat))) := by
  refine ⟨I.below.setCell (p := ⟨m, k, none⟩) h1 _, .inr ⟨m, cap, _, T, fz, rfl, h1, rp_set _ h2, by simpa using h3, h4, fun j c hc => ?_⟩⟩
  rw [Array.getElem?_setIfInBounds]
  by_cases e : k = j
  · subst e
    rw [hsk] at hc
    cases hc
    rw [if_pos rfl, if_pos (by omega), if_pos (Nat.lt_succ_self _)]
  · rw [if_neg e, h5 j c hc]
    by_cases e2 : j < k
    · rw [if_pos e2, if_pos (by omega)]
    · rw [if_neg e2, if_neg (by omega)]
theorem RepI.make {w : World} {f : Nat → Nat} {s : ByteArray} {k : Nat} {w' : World} {v : Value} (I : RepI w f s k v w') (hlt : k < s.size) {c0 : UInt8} (hsk : s.data.toList[k]? = some c0) (hb : ∀ (j : Nat) (c : UInt8), j < k → s.data.toList[j]? = some c → f c.toNat = c.toNat) {W2 : World} {cap : Nat} {cs : Array Value} {T : TypeId} {fz : Nat × Nat} (q1 : W2.heap[w'.heap.size]? = some (.cells cs T fz))
    (q2 : s.size ≤ cs.size) (q3 : s.size ≤ fz.1) (q4 : ∀ (j : Nat) (c : UInt8), s.data.toList[j]? = some c → cs[j]? = some (Value.int .u8 c.toNat)) (q5 : Below w'.heap.size w' W2) : RepI w f s (k + 1) (.slice (some ⟨w'.heap.size, 0, none⟩) s.size cap) (W2.setCell ⟨w'.heap.size, k, none⟩ (.int .u8 (f c0.toNat))) := by
  refine RepI.put (v := .slice (some ⟨w'.heap.size, 0, none⟩) s.size cap) (w' := W2) ⟨I.below.trans (q5.mono I.below.size), .inr ⟨w'.heap.size, cap, cs, T, fz, rfl, I.below.size, q1, q2, q3, ?_⟩⟩ hlt hsk I.below.size q1 q2 q3 ?_ <;>
  · intro j c hc
    rw [q4 j c hc]
    by_cases e2 : j < k
    · rw [if_pos e2, hb j c e2 hc]
    · rw [if_neg e2]
theorem swapS_self {f : Nat → Nat} {s : ByteArray} (h : ∀ (j : Nat) (c : UInt8), j < s.size → s.data.toList[j]? = some c → f c.toNat = c.toNat) : swapS f s = s := by
  have e : (s.data.toList.map fun c => UInt8.ofNat (f c.toNat)) = s.data.toList := by
    conv => rhs; rw [← List.map_id s.data.toList]
    refine List.map_congr_left fun c hc => ?_
    obtain ⟨j, hj⟩ := List.mem_iff_getElem?.1 hc
    have hl := (List.getElem?_eq_some_iff.1 hj).1
    rw [h j c (by rw [Array.length_toList] at hl; exact hl) hj]
    simp
  unfold swapS
  rw [e]
theorem rp_fold : ∀ (l : List Int) (r : ByteArray), l.foldl (fun r n => r.push (UInt8.ofNat n.toNat)) r = ⟨r.data ++ (l.map fun n => UInt8.ofNat n.toNat).toArray⟩
  | [], r => by simp
  | b :: l, r => by
    simp only [List.map_cons, List.foldl_cons]
    rw [rp_fold l]
    simp [ByteArray.push]
theorem rp_back (w : World) (s : ByteArray) (f : Nat → Nat) (m cap : Nat) (cs : Array Value) (T : TypeId) (fz : Nat × Nat) (h : w.heap[m]? = some (.cells cs T fz)) (hz : s.size ≤ cs.size) (hc : ∀ (j : Nat) (c : UInt8), s.data.toList[j]? = some c → cs[j]? = some (Value.int .u8 (if j < s.size then (f c.toNat : Int) else c.toNat))) (hf : ∀ j, j < 256 → f j < 256) :
    (convert 22 9 (.slice (some ⟨m, 0, none⟩) s.size cap)).run Tryz.prog w = .ok (.string (swapS f s)) w := by
  rw [run_convert_bytes_string w 22 9 5 _ _ _ Tryz.underlying22 Tryz.underlying5 Tryz.underlying9]
  have hl : s.data.toList.length = s.size := by rw [Array.length_toList]; rfl
  have hld := run_loadCells_list (P := Tryz.prog) w ⟨m, 0, none⟩ ((s.data.toList.map fun c => ((f c.toNat : Nat) : Int)).map (Value.int .u8)) (fun j v hv => by
    have hadd : (⟨m, 0, none⟩ : Addr).add j = ⟨m, j, none⟩ := by unfold Addr.add; split <;> simp_all
    rw [hadd]
    rw [List.getElem?_map, List.getElem?_map] at hv
    cases hj : s.data.toList[j]? with
    | none => rw [hj] at hv; cases hv
    | some c =>
      rw [hj] at hv
      have hjl := (List.getElem?_eq_some_iff.1 hj).1
      unfold World.cell?
      rw [h]
      have := hc j c hj
      rw [if_pos (by omega)] at this
      exact this.trans hv)
  have hlen : ((s.data.toList.map fun c => ((f c.toNat : Nat) : Int)).map (Value.int .u8)).length = s.size := by simp [hl]
  rw [hlen] at hld
  rw [run_bytesToString w ⟨m, 0, none⟩ s.size cap (s.data.toList.map fun c => ((f c.toNat : Nat) : Int)) hld, rp_fold]
  unfold swapS
  simp
set_option maxHeartbeats 1600000 in
theorem rp_bytes (n : Nat) (f : Nat → Nat) (hf : ∀ j, j < 256 → f j < 256) (cs : Array Value) (fz : Nat × Nat) (w : World) (hn : w.heap[n]? = some (.cells cs 251 fz)) (hsz : cs.size = 256) (hcs : ∀ j : Nat, j < 256 → cs[j]? = some (.int .u8 (f j))) (s : ByteArray) (hs : s.size ≤ 281474976710656) :
    Calls Tryz.prog 327 #[.pointer (some ⟨n, 0, none⟩), .string s] w fun e w' => e = .returned (.string (swapS f s)) ∧ Below w.heap.size w w' := by
  have hnl := (Array.getElem?_eq_some_iff.1 hn).1
  go_enter Tryz.func327, Tryz.ntmps327
  go_wp2_with fail
  go_loopw [5, 6] (fun v i w' => ∃ k : Nat, k ≤ s.size ∧ i = .int .i64 k ∧ RepI w f s k v w') (fun _ i _ => s.size - (intOf i).toNat)
  case atStart => exact ⟨0, Nat.zero_le _, rfl, Below.refl _ _, .inl ⟨rfl, fun j c hj => by omega⟩⟩
  case round =>
    obtain ⟨k, hk, rfl, I⟩ := hrel
    by_cases hlt : k < s.size
    · have h256 : s[k].toNat < 256 := UInt8.toNat_lt _
      have hsk : s.data.toList[k]? = some s[k] := by
        rw [List.getElem?_eq_getElem (by rw [Array.length_toList]; exact hlt)]
        simp [ByteArray.getElem_eq_getElem_data]
      have hld : ∀ W, Below w.heap.size w W → W.cell? ⟨n, s[k].toNat, none⟩ = some (.int .u8 (f s[k].toNat)) := fun W hW => by
        unfold World.cell?
        rw [hW.block n hnl, hn]
        exact hcs _ h256
      have c0 := hld _ I.below
      obtain ⟨W2, cap2, cs2, T2, fz2, hcv, q1, q2, q3, q4, q5⟩ := rp_conv wr s
      have c2 := hld _ (I.below.trans (q5.mono I.below.size))
      have q6 : W2.cell? ⟨wr.heap.size, k, none⟩ = some (.int .u8 s[k].toNat) := by
        unfold World.cell?
        rw [q1]
        exact q4 k _ hsk
      have q7 : W2.frozen? ⟨wr.heap.size, k, none⟩ = false := by
        unfold World.frozen?
        rw [q1]
        simp
        omega
      have hnil := rp_nil
      rcases I.buf with ⟨rfl, hb⟩ | ⟨m, cap, cs', T', fz', rfl, hm, hm', hm1, hm2, hm3⟩
      · go_wp2_with fail
        · exact ⟨⟨k + 1, by omega, by simp, I.make hlt hsk hb q1 q2 q3 q4 q5⟩, by simp [intOf]; omega⟩
        · rename_i he
          exact ⟨⟨k + 1, by omega, by simp, I.skip hsk (by simp at he; omega)⟩, by simp [intOf]; omega⟩
      · have r1 : wr.cell? ⟨m, k, none⟩ = some (.int .u8 s[k].toNat) := by
          unfold World.cell?
          rw [hm']
          have := hm3 k _ hsk
          rw [if_neg (Nat.lt_irrefl _)] at this
          exact this
        have r2 : wr.frozen? ⟨m, k, none⟩ = false := by
          unfold World.frozen?
          rw [hm']
          simp
          omega
        go_wp2_with fail
        · exact ⟨⟨k + 1, by omega, by simp, I.put hlt hsk hm hm' hm1 hm2 hm3⟩, by simp [intOf]; omega⟩
        · rename_i he
          exact ⟨⟨k + 1, by omega, by simp, I.skip hsk (by simp at he; omega)⟩, by simp [intOf]; omega⟩
    · obtain rfl : k = s.size := by omega
      have hnil := rp_nil
      rcases I.buf with ⟨rfl, hb⟩ | ⟨m, cap, cs', T', fz', rfl, hm, hm', hm1, hm2, hm3⟩
      · go_wp2_with fail
        go_ret
        exact ⟨by rw [swapS_self hb]; rfl, I.below⟩
      · have hcv := rp_back wr s f m cap cs' T' fz' hm' hm1 hm3 hf
        go_wp2_with fail
        go_ret
        exact ⟨rfl, I.below⟩
theorem rp_cell {w : World} {b : Nat} {cs : Array Value} {T : TypeId} {fz : Nat × Nat} (h : w.heap[b]? = some (.cells cs T fz)) (j : Nat) : w.cell? ⟨b, j, none⟩ = cs[j]? := by
  unfold World.cell?
  rw [h]
  rfl
theorem swp_lt {a b j : Nat} (ha : a < 256) (hb : b < 256) (hj : j < 256) : swp a b j < 256 := by
  unfold swp swU
  split
  · exact hb
  · split
    · exact ha
    · exact hj
def RQ (w1 : World) (b : Nat) (f : Nat → Nat) (w' : World) : Prop := ∃ W, TInv w1 f W ∧ w' = (W.setCell ⟨b, 3, none⟩ (.iface 252 (.pointer (some ⟨w1.heap.size, 0, none⟩)))).setCell ⟨b, 4, none⟩ (.slice none 0 0)
set_option maxHeartbeats 1600000 in
theorem rp_doR (b g cap : Nat) (x y : UInt8) (T T' : TypeId) (fz : Nat × Nat) (w : World) (hb : w.heap[b]? = some (.cells #[.int .u32 0, .int .i32 0, .int .u32 0, .nilIface, .slice (some ⟨g, 0, none⟩) 4 cap] T')) (hg : Four w g x y) (hbg : b ≠ g) (n0 : Nat) (hn0 : n0 ≤ b) :
    Calls Tryz.prog 195 #[.pointer (some ⟨b, 0, none⟩), .func (.func 196) #[.pointer (some ⟨b, 0, none⟩)] #[]] w fun e w' => e = .returned (.tuple #[]) ∧ w'.cell? ⟨b, 3, none⟩ = some (.iface 252 (.pointer (some ⟨w.heap.size, 0, none⟩))) ∧ (∃ cs, w'.heap[w.heap.size]? = some (.cells cs 251) ∧ cs.size = 256 ∧ ∀ j : Nat, j < 256 → cs[j]? = some (Value.int .u8 (swp x.toNat y.toNat j))) ∧ Below n0 w w' := by
  have hbs := (Array.getElem?_eq_some_iff.1 hb).1
  have k : ∀ j : Nat, w.cell? ⟨b, j, none⟩ = (#[.int .u32 0, .int .i32 0, .int .u32 0, .nilIface, .slice (some ⟨g, 0, none⟩) 4 cap] : Array Value)[j]? := fun j => rp_cell hb j
  have z : ∀ j : Nat, w.frozen? ⟨b, j, none⟩ = false := fun j => by unfold World.frozen?; rw [hb]; simp
  obtain ⟨w1, hw1⟩ : ∃ w1, w1 = w.setCell ⟨b, 1, none⟩ (.int .i32 1) := ⟨_, rfl⟩
  have s1 : w1.heap.size = w.heap.size := by rw [hw1]; simp [World.setCell]
  have k1 : ∀ j : Nat, j ≠ 1 → w1.cell? ⟨b, j, none⟩ = (#[.int .u32 0, .int .i32 0, .int .u32 0, .nilIface, .slice (some ⟨g, 0, none⟩) 4 cap] : Array Value)[j]? := fun j hj => by
    rw [hw1]
    exact (World.cell?_setCell_other _ ⟨b, 1, none⟩ ⟨b, j, none⟩ _ (by first | (simp; done) | (simp; omega))).trans (k j)
  have k11 : w1.cell? ⟨b, 1, none⟩ = some (.int .i32 1) := by rw [hw1]; exact World.cell?_setCell_same _ _ _ (k 1)
  have z1 : ∀ j : Nat, w1.frozen? ⟨b, j, none⟩ = false := fun j => by
    have hh := rp_set (o := 1) (.int .i32 1) hb
    rw [← hw1] at hh
    unfold World.frozen?
    rw [hh]
    simp
  have g1 : w1.heap[g]? = w.heap[g]? := by rw [hw1]; exact RowKit.Below.heap_setCell w ⟨b, 1, none⟩ _ g (fun h => hbg h.symm)
  have g1 := hg.congr g1
  have ho := rp_once b g cap x y T fz .nilIface w1 (by rw [s1]; exact hbs) (k1 3 (by omega)) (z1 3) (z1 4) (k1 4 (by omega)) g1
  have hlt := @swp_lt x.toNat y.toNat
  have hx := x.toNat_lt
  have hy := y.toNat_lt
  have hQc : ∀ w', RQ w1 b (swp x.toNat y.toNat) w' → (∀ j : Nat, j ≠ 3 → j ≠ 4 → w'.cell? ⟨b, j, none⟩ = w1.cell? ⟨b, j, none⟩) ∧ (∀ j : Nat, w'.frozen? ⟨b, j, none⟩ = false) ∧ w'.cell? ⟨b, 3, none⟩ = some (.iface 252 (.pointer (some ⟨w1.heap.size, 0, none⟩))) ∧ (∃ cs, w'.heap[w1.heap.size]? = some (.cells cs 251) ∧ cs.size = 256 ∧ ∀ j : Nat, j < 256 → cs[j]? = some (Value.int .u8 (swp x.toNat y.toNat j))) ∧ Below n0 w1 w' := by
    rintro w' ⟨W, I, rfl⟩
    have hbW : W.heap[b]? = w1.heap[b]? := I.below.block b (by rw [s1]; exact hbs)
    have hb1 : w1.heap[b]? = some (.cells #[.int .u32 0, .int .i32 1, .int .u32 0, .nilIface, .slice (some ⟨g, 0, none⟩) 4 cap] T') := by rw [hw1]; exact rp_set (o := 1) (.int .i32 1) hb
    rw [hb1] at hbW
    have e1 := rp_set (o := 3) (.iface 252 (.pointer (some ⟨w1.heap.size, 0, none⟩))) hbW
    have e2 := rp_set (o := 4) (.slice none 0 0) e1
    obtain ⟨cs, c1, c2, c3⟩ := I.ex
    have nb : w1.heap.size ≠ b := by rw [s1]; omega
    refine ⟨fun j j3 j4 => ?_, fun j => ?_, ?_, ⟨cs, ?_, c2, c3⟩, ((I.below.mono (by rw [s1]; omega)).setCell (p := ⟨b, 3, none⟩) hn0 _).setCell (p := ⟨b, 4, none⟩) hn0 _⟩
    · rw [rp_cell e2, rp_cell hb1, Array.getElem?_setIfInBounds, if_neg (fun h => j4 h.symm), Array.getElem?_setIfInBounds, if_neg (fun h => j3 h.symm)]
    · unfold World.frozen?
      rw [e2]
      simp
    · unfold World.cell?
      rw [e2]
      rfl
    · exact (RowKit.Below.heap_setCell _ ⟨b, 4, none⟩ _ _ nb).trans ((RowKit.Below.heap_setCell _ ⟨b, 3, none⟩ _ _ nb).trans c1)
  have hdo := rp_do b w (k 0) (k 1) (z 0) (z 1) (RQ w1 b (swp x.toNat y.toNat)) (by rw [← hw1]; exact ho) (fun w' h => by
    obtain ⟨q1, q2, _⟩ := hQc w' h
    exact ⟨(q1 0 (by omega) (by omega)).trans (k1 0 (by omega)), (q1 1 (by omega) (by omega)).trans k11, q2 0, q2 1⟩)
  have B1 : Below n0 w w1 := by rw [hw1]; exact (Below.refl _ _).setCell (p := ⟨b, 1, none⟩) hn0 _
  refine hdo.mono ?_
  rintro e w' ⟨rfl, W, hq, rfl⟩
  obtain ⟨q1, q2, q3, ⟨cs, c1, c2, c3⟩, q5⟩ := hQc W hq
  have nb : w1.heap.size ≠ b := by rw [s1]; omega
  rw [← s1]
  refine ⟨rfl, ?_, ⟨cs, ?_, c2, c3⟩, B1.trans ((q5.drew.setCell (p := ⟨b, 0, none⟩) hn0 _).setCell (p := ⟨b, 1, none⟩) hn0 _)⟩
  · exact (World.cell?_setCell_other _ ⟨b, 1, none⟩ ⟨b, 3, none⟩ _ (by simp)).trans ((World.cell?_setCell_other _ ⟨b, 0, none⟩ ⟨b, 3, none⟩ _ (by simp)).trans q3)
  · exact (RowKit.Below.heap_setCell _ ⟨b, 1, none⟩ _ _ nb).trans ((RowKit.Below.heap_setCell _ ⟨b, 0, none⟩ _ _ nb).trans c1)
set_option maxHeartbeats 1600000 in
theorem rp_repl (b g cap : Nat) (x y : UInt8) (T T' : TypeId) (fz : Nat × Nat) (w : World) (hb : w.heap[b]? = some (.cells #[.int .u32 0, .int .i32 0, .int .u32 0, .nilIface, .slice (some ⟨g, 0, none⟩) 4 cap] T')) (hg : Four w g x y) (hbg : b ≠ g) (s : ByteArray) (hs : s.size ≤ 281474976710656) (n0 : Nat) (hn0 : n0 ≤ b) :
    Calls Tryz.prog 149 #[.pointer (some ⟨b, 0, none⟩), .string s] w fun e w' => e = .returned (.string (swapS (swp x.toNat y.toNat) s)) ∧ Below n0 w w' := by
  have hDO := rp_doR b g cap x y T T' fz w hb hg hbg n0 hn0
  have hbs := (Array.getElem?_eq_some_iff.1 hb).1
  have hlt := @swp_lt x.toNat y.toNat
  have hx := x.toNat_lt
  have hy := y.toNat_lt
  clear hb hg
  go_enter Tryz.func149, Tryz.ntmps149
  go_wp2_with (first
    | (go_at_call 195; refine hDO.mono ?_; rintro e w2 ⟨rfl, d1, ⟨cs, c1, c2, c3⟩, d5⟩)
    | (go_at_call 327; refine (rp_bytes w.heap.size (swp x.toNat y.toNat) (fun j hj => hlt hx hy hj) cs (0, 0) w2 c1 c2 c3 s hs).mono ?_; rintro e w3 ⟨rfl, d6⟩))
  go_ret
  exact ⟨rfl, d5.trans (d6.mono (by have := d5.size; omega))⟩
theorem rp_append_run {P : Program} {ops : Array Oper} {rest : List Oper} {o : Oper} {a : Act} {Q : Exit → Act → World → Prop} (hgd : o.guard = none) (s x : Operand) (t : TypeId)
    (ho : o.op = .call { callee := .builtin .append, args := #[s, x], argTypes := #[t, t] }) (hty : o.type = t) {sl : Value} {Wa Wp : World} (u v : Value) (hs : a.eval s = u) (hx : a.eval x = v) (hrun : (Builtin.append_ #[t, t] t #[u, v]).run P Wa = .ok sl Wp)
    (h : wpList P ops Q rest (a.put o.dst sl) Wp) : wpList P ops Q (o :: rest) a Wa := by
  refine wpList_plain hgd fun _ hK => ?_
  unfold Oper.wp
  simp [execOp, ho, hty, resolve, invoke, builtin, hs, hx, hrun]
  exact hK _ _ h
theorem rp_append (g0 : Nat) (x y : UInt8) (w : World) (hg : Four w g0 x y) : ∃ (W2 : World) (cap : Nat), (Builtin.append_ #[152, 152] 152 #[.slice none 0 0, .slice (some ⟨g0, 0, none⟩) 4 4]).run Tryz.prog w = .ok (.slice (some ⟨w.heap.size, 0, none⟩) 4 cap) W2 ∧ Four W2 w.heap.size x y ∧ Below w.heap.size w W2 ∧ W2.heap.size = w.heap.size + 1 := by
  obtain ⟨i0, hi, hz⟩ := Option.map_eq_some_iff.1 (by kernel_rfl : (Tryz.prog.info? 9).map (fun i => (i.zero, i.size, i.bytes)) = some (some (.string ByteArray.empty), 1, 16))
  simp only [Prod.mk.injEq] at hz
  obtain ⟨hz0, hz1, hz2⟩ := hz
  obtain ⟨cs, T, fz, hh, e0, e1, e2, e3⟩ := hg
  have hl4 : (cs.toList.drop 0).take (4 * 1) = [.string ⟨#[x]⟩, .string ⟨#[y]⟩, .string ⟨#[y]⟩, .string ⟨#[x]⟩] := by
    obtain ⟨L⟩ := cs
    rcases L with _ | ⟨a, _ | ⟨b, _ | ⟨c, _ | ⟨d, r⟩⟩⟩⟩ <;> simp at e0 e1 e2 e3
    subst e0 e1 e2 e3
    rfl
  have hR : RowRel false .str [⟨#[x]⟩, ⟨#[y]⟩, ⟨#[y]⟩, ⟨#[x]⟩] (.slice (some ⟨g0, 0, none⟩) 4 4) w := ⟨some ⟨g0, 0, none⟩, 4, rfl, Nat.le_refl _, rfl, cs, T, fz, hh, hl4, fun e => by cases e⟩
  have hN : RowRel false .str [] (.slice none 0 0) w := ⟨none, 0, rfl, Nat.le_refl _, rfl, rfl⟩
  have hr := run_append_grow0 (P := Tryz.prog) (w := w) #[152, 152] 152 152 152 9 (.slice 9) rfl rfl Tryz.underlying152 Tryz.underlying152 (.inl ⟨9, rfl⟩) i0 (.string ByteArray.empty) hi hz0 none 0 0 4 (.slice (some ⟨g0, 0, none⟩) 4 4) (flat .str []) (flat .str [⟨#[x]⟩, ⟨#[y]⟩, ⟨#[y]⟩, ⟨#[x]⟩]) rfl
    (by rw [hz1]; exact row_first (w' := w.drew) hR rfl) (by rw [hz1]; exact row_first (w' := w.drew) hN rfl) (by omega) (by omega) (by rw [hz2]; decide)
  refine ⟨_, _, hr, ⟨_, 9, (0, 0), heap_alloc_new w.drew _, ?_⟩, ((Below.refl _ w).drew).alloc (Nat.le_refl _) _, ?_⟩
  · generalize Builtin.zeroCells _ _ = z
    refine ⟨?_, ?_, ?_, ?_⟩ <;> rw [Array.getElem?_append_left (Nat.le_of_ble_eq_true rfl)] <;> rfl
  · show (w.heap.push _).size = _
    rw [Array.size_push]
set_option maxHeartbeats 1600000 in
theorem rp_new (g0 : Nat) (x y : UInt8) (w : World) (hg : Four w g0 x y) :
    Calls Tryz.prog 148 #[.slice (some ⟨g0, 0, none⟩) 4 4] w fun e w' => ∃ b g cap T', e = .returned (.pointer (some ⟨b, 0, none⟩)) ∧ w'.heap[b]? = some (.cells #[.int .u32 0, .int .i32 0, .int .u32 0, .nilIface, .slice (some ⟨g, 0, none⟩) 4 cap] T') ∧ Four w' g x y ∧ b ≠ g ∧ w.heap.size ≤ b ∧ Below w.heap.size w w' := by
  obtain ⟨W2, cap, hap, hF, hB, hS⟩ := rp_append g0 x y w hg
  go_enter Tryz.func148, Tryz.ntmps148
  go_wp2_with (at_builtin; refine rp_append_run rfl (.const (.slice none 0 0)) (.tmp 8) 152 rfl rfl (.slice none 0 0) (.slice (some ⟨g0, 0, none⟩) 4 4) rfl rfl hap ?_)
  go_ret
  refine ⟨w.heap.size + 1, w.heap.size, cap, 205, rfl, ?_, hF.congr (heap_alloc_old W2 _ (by omega)), by omega, by omega, hB.alloc (by omega) _⟩
  rw [← hS]
  exact heap_alloc_new W2 _
set_option maxHeartbeats 1600000 in
theorem rp_other74 (s : ByteArray) (hs : s.size ≤ 281474976710656) (w : World) : Calls Tryz.prog 74 #[.string s] w fun e w' => e = .returned (.string (swapS (swp (90 : UInt8).toNat (83 : UInt8).toNat) s)) ∧ Below w.heap.size w w' := by
  have h4 : ∀ T, Four (w.alloc (.cells #[.string ⟨#[90]⟩, .string ⟨#[83]⟩, .string ⟨#[83]⟩, .string ⟨#[90]⟩] T)) w.heap.size 90 83 := fun T => ⟨_, _, _, heap_alloc_new w _, rfl, rfl, rfl, rfl⟩
  have hsz : ∀ o, (w.alloc o).heap.size = w.heap.size + 1 := fun o => by show (w.heap.push o).size = _; rw [Array.size_push]
  go_enter Tryz.func74, Tryz.ntmps74
  go_wp2_with (first
    | (go_at_call 148; refine (rp_new w.heap.size 90 83 _ (h4 _)).mono ?_; rintro e w2 ⟨b, g, cap, T', rfl, b1, b2, b3, b4, b5⟩; rw [hsz] at b4)
    | (go_at_call 149; refine (rp_repl b g cap 90 83 0 T' (0, 0) w2 b1 b2 b3 s hs w.heap.size (by omega)).mono ?_; rintro e w3 ⟨rfl, d6⟩))
  go_ret
  exact ⟨rfl, ((((Below.refl _ w).alloc (Nat.le_refl _) _)).trans (b5.mono (by rw [hsz]; omega))).trans d6⟩
theorem other74_calls (s r : ByteArray) (w : World) (h : otherB 90 83 s = some r) : Calls Tryz.prog 74 #[.string s] w fun e w' => e = .returned (.string r) ∧ Below w.heap.size w w' := by
  unfold otherB at h
  split at h <;> cases h
  rename_i hs
  exact rp_other74 s hs w
end Go.Proofs.YtcmebphcoamohaaGreatDoorS
