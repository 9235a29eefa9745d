/- Several texts in one: PuLoA, PuLoB, PuLoC, PuLoD. -/
import Derived.Test.YtplamonjnlgomaaGreatDoorPuColours
import Derived.Test.YtplamonjnlgomaaGreatDoorPuWorldDraw
namespace Go.Proofs.YtplamonjnlgomaaGreatDoorS
open Go
set_option linter.unusedVariables false
set_option linter.unusedSimpArgs false

/-! ### Lists told by numbers -/
theorem rg_len {α : Type} (N : Nat) (g : Nat → α) : ((List.range N).map g).length = N := by rw [List.length_map, List.length_range]
theorem rg_at {α : Type} {N i : Nat} (g : Nat → α) (hi : i < N) : ((List.range N).map g)[i]? = some (g i) := by
  rw [List.getElem?_map, List.getElem?_range hi]
  rfl
theorem rg_get {α : Type} [Inhabited α] {N i : Nat} (g : Nat → α) (hi : i < N) : ((List.range N).map g).getD i default = g i := getD_at (rg_at g hi)
theorem rg_set {α : Type} {N : Nat} (g : Nat → α) (i : Nat) (v : α) : ((List.range N).map g).set i v = (List.range N).map fun j => if j = i then v else g j := by
  apply List.ext_getElem?
  intro j
  by_cases hj : j < N
  · rw [List.getElem?_set, rg_at _ hj, rg_at _ hj]
    by_cases e : i = j
    · rw [if_pos e, if_pos (by rw [rg_len]; omega), if_pos e.symm]
    · rw [if_neg e, if_neg fun q => e q.symm]
  · rw [List.getElem?_eq_none (by rw [List.length_set, rg_len]; omega), List.getElem?_eq_none (by rw [rg_len]; omega)]
theorem rg_const {α : Type} (N : Nat) (v : α) : List.replicate N v = (List.range N).map fun _ => v := by
  rw [List.map_const', List.length_range]
theorem rg_congr {α : Type} {N : Nat} {g f : Nat → α} (h : ∀ i, i < N → g i = f i) : (List.range N).map g = (List.range N).map f := List.map_congr_left fun i hi => h i (List.mem_range.1 hi)
theorem rg_drop {N i : Nat} (hi : i < N) : (List.range N).drop i = i :: (List.range N).drop (i + 1) := by
  rw [List.drop_eq_getElem_cons (by rw [List.length_range]; exact hi), List.getElem_range]
/-! ### Tracks -/
def locO (W : Wo) : Nat := (W.2.2.2.2.2.1 * W.2.1 + W.2.2.2.2.1).toNat
def cellsO (W : Wo) : Nat := W.2.2.2.1.size
def trk : Nat → Wo → List Nat
  | 0, _ => []
  | n + 1, W => locO W :: trk n (stepO W)
def vF (n : Nat) (W : Wo) (i : Nat) : Int := ((trk n W).count i : Int)
theorem trk_len : ∀ (n : Nat) (W : Wo), (trk n W).length = n
  | 0, W => rfl
  | n + 1, W => by
    show (trk n (stepO W)).length + 1 = n + 1
    rw [trk_len n]
theorem trk_snoc : ∀ (n : Nat) (W : Wo), trk (n + 1) W = trk n W ++ [locO (runO n W)]
  | 0, W => rfl
  | n + 1, W => by
    show locO W :: trk (n + 1) (stepO W) = (locO W :: trk n (stepO W)) ++ _
    rw [trk_snoc n (stepO W)]
    rfl
theorem step_sameO (W : Wo) : (stepO W).1 = W.1 ∧ (stepO W).2.1 = W.2.1 ∧ (stepO W).2.2.1 = W.2.2.1 ∧ cellsO (stepO W) = cellsO W := by
  obtain ⟨rl, w, h, cs, x, y, wy⟩ := W
  refine ⟨rfl, rfl, rfl, ?_⟩
  show (putB w cs x y _).size = cs.size
  unfold putB
  rw [setByte_size]
theorem run_sameO : ∀ (n : Nat) (W : Wo), (runO n W).1 = W.1 ∧ (runO n W).2.1 = W.2.1 ∧ (runO n W).2.2.1 = W.2.2.1 ∧ cellsO (runO n W) = cellsO W
  | 0, W => ⟨rfl, rfl, rfl, rfl⟩
  | n + 1, W => by
    obtain ⟨a, b, c, d⟩ := run_sameO n (stepO W)
    obtain ⟨a', b', c', d'⟩ := step_sameO W
    exact ⟨a.trans a', b.trans b', c.trans c', d.trans d'⟩
theorem loc_facts {W : Wo} (H : OkO W) : locO W < cellsO W ∧ cellsO W ≤ 81 ∧ (cellsO W : Int) = W.2.1 * W.2.2.1 ∧ w64 (w64 (W.2.2.2.2.2.1 * W.2.1) + W.2.2.2.2.1) = (locO W : Int) := by
  have hz := (okO_size H).2
  obtain ⟨hR, hw, hh, hs, hcs, hx, hy, hwy⟩ := H
  obtain ⟨a1, a2, a3, a4⟩ := at_range hx hy hw hh
  have eA := at64 hx hy hw hh
  unfold locO cellsO
  exact ⟨by omega, hz, hs, by rw [eA]; omega⟩
theorem trk_lt : ∀ (n : Nat) (W : Wo), OkO W → ∀ i ∈ trk n W, i < cellsO W
  | 0, W, H, i, hi => by cases hi
  | n + 1, W, H, i, hi => by
    rcases List.mem_cons.1 hi with rfl | hi
    · exact (loc_facts H).1
    · have := trk_lt n (stepO W) (step_ok W H) i hi
      rwa [(step_sameO W).2.2.2] at this
theorem count_sum : ∀ (l : List Nat) (N : Nat), (∀ i ∈ l, i < N) → (((List.range N).map fun i => ((l.count i : Nat) : Int))).sum = (l.length : Int)
  | [], N, _ => by
    have e : ((List.range N).map fun i => ((([] : List Nat).count i : Nat) : Int)) = List.replicate N 0 := by rw [rg_const]; exact rg_congr fun i _ => by simp
    rw [e, sum_zero]
    rfl
  | a :: l, N, h => by
    have ha : a < N := h a (by simp)
    have ih := count_sum l N fun i hi => h i (List.mem_cons_of_mem _ hi)
    have e : ((List.range N).map fun i => (((a :: l).count i : Nat) : Int)) = (((List.range N).map fun i => ((l.count i : Nat) : Int)).set a (((l.count a : Nat) : Int) + 1)) := by
      rw [rg_set]
      refine rg_congr fun i _ => ?_
      rw [List.count_cons]
      by_cases e : i = a
      · subst e
        simp
      · rw [if_neg e]
        have : (a == i) = false := beq_eq_false_iff_ne.2 fun q => e q.symm
        rw [this]
        simp
    rw [e, sum_set _ _ _ _ (rg_at (fun i => ((l.count i : Nat) : Int)) ha), ih, List.length_cons]
    omega
theorem vF_range (n : Nat) (W : Wo) (i : Nat) : 0 ≤ vF n W i ∧ vF n W i ≤ n := by
  have := List.count_le_length (a := i) (l := trk n W)
  rw [trk_len] at this
  unfold vF
  omega
/-! ### Colours by visits -/
def colI (W : Wo) (i : Nat) : Int := bt W.2.2.2.1 i - 48
theorem col_rangeI {W : Wo} (H : OkO W) {i : Nat} (hi : i < cellsO W) : 0 ≤ colI W i ∧ colI W i ≤ (W.1.size : Int) - 1 := by
  obtain ⟨c, hc⟩ := byte_at (cs := W.2.2.2.1) hi
  obtain ⟨c48, cti⟩ := H.2.2.2.2.1 c (List.mem_of_getElem? hc)
  unfold colI
  rw [bt_at hc]
  omega
theorem col_stepI : ∀ {W : Wo}, OkO W → ∀ i, i < cellsO W → colI (stepO W) i = if i = locO W then (colI W i + 1) % (W.1.size : Int) else colI W i
  | (rl, w, h, cs, x, y, wy), H, i, hi => by
    obtain ⟨hR, hw, hh, hs, hcs, hx, hy, hwy⟩ : WorldOk rl w h cs x y wy := H
    have hr6 := hR.1
    obtain ⟨a1, a2, a3, a4⟩ := at_range hx hy hw hh
    have hp := mod_range (colB w cs x y + 1) (k := (rl.size : Int)) (by omega)
    show bt (putB w cs x y ((colB w cs x y + 1) % (rl.size : Int))) i - 48 = if i = (y * w + x).toNat then (bt cs i - 48 + 1) % (rl.size : Int) else bt cs i - 48
    unfold putB
    rw [bt_set _ (by omega)]
    by_cases e : i = (y * w + x).toNat
    · rw [if_pos e, if_pos e, toNat_ofNat8 (by omega), e]
      show ((48 + (colB w cs x y + 1) % (rl.size : Int)).toNat : Int) - 48 = (colB w cs x y + 1) % (rl.size : Int)
      omega
    · rw [if_neg e, if_neg e]
theorem col_runI : ∀ (n : Nat) (W : Wo), OkO W → ∀ i, i < cellsO W → colI (runO n W) i = (colI W i + vF n W i) % (W.1.size : Int)
  | 0, W, H, i, hi => by
    have := col_rangeI H hi
    show colI W i = (colI W i + ((([] : List Nat).count i : Nat) : Int)) % (W.1.size : Int)
    rw [List.count_nil, Int.emod_eq_of_lt (by omega) (by omega)]
    omega
  | n + 1, W, H, i, hi => by
    have ih := col_runI n (stepO W) (step_ok W H) i (by rw [(step_sameO W).2.2.2]; exact hi)
    have hv : vF (n + 1) W i = vF n (stepO W) i + if locO W == i then 1 else 0 := by
      show (((locO W :: trk n (stepO W)).count i : Nat) : Int) = _
      rw [List.count_cons]
      unfold vF
      split <;> simp
    show colI (runO n (stepO W)) i = _
    rw [ih, (step_sameO W).1, col_stepI H i hi, hv]
    by_cases e : i = locO W
    · subst e
      rw [if_pos rfl, beq_self_eq_true, if_pos rfl, Int.emod_add_emod]
      exact congrArg (· % (W.1.size : Int)) (by omega)
    · have : (locO W == i) = false := beq_eq_false_iff_ne.2 fun q => e q.symm
      rw [if_neg e, this, if_neg Bool.false_ne_true, Int.add_zero]
theorem home_visits {n : Nat} {W : Wo} (H : OkO W) (h : runO n W = W) {i : Nat} (hi : i < cellsO W) : (vF n W i).tmod (W.1.size : Int) = 0 := by
  have h1 := col_runI n W H i hi
  have h2 := col_rangeI H hi
  have hr := H.1.1
  rw [h] at h1
  have h3 := vF_range n W i
  rw [Int.tmod_eq_emod_of_nonneg h3.1]
  have h4 : colI W i % (W.1.size : Int) = colI W i := Int.emod_eq_of_lt (by omega) (by omega)
  have h5 : (colI W i + vF n W i - colI W i) % (W.1.size : Int) = 0 := by rw [Int.sub_emod, ← h1, h4, Int.sub_self, Int.zero_emod]
  rwa [show colI W i + vF n W i - colI W i = vF n W i by omega] at h5
theorem dsum_run : ∀ (n : Nat) (W : Wo), OkO W → dsum (runO n W).2.2.2.1.data.toList % (W.1.size : Int) = (dsum W.2.2.2.1.data.toList + n) % (W.1.size : Int)
  | 0, W, H => by
    show _ = (dsum W.2.2.2.1.data.toList + ((0 : Nat) : Int)) % _
    rw [Int.natCast_zero, Int.add_zero]
    rfl
  | n + 1, W, H => by
    have ih := dsum_run n (stepO W) (step_ok W H)
    rw [(step_sameO W).1] at ih
    show dsum (runO n (stepO W)).2.2.2.1.data.toList % (W.1.size : Int) = _
    rw [ih, Int.add_emod, dsum_step W H, ← Int.add_emod, Int.add_assoc, Int.emod_add_emod]
    exact congrArg (· % (W.1.size : Int)) (by omega)
theorem home_rule {n : Nat} {W : Wo} (H : OkO W) (h : runO n W = W) : ((n : Int)).tmod (W.1.size : Int) = 0 := by
  have h1 := dsum_run n W H
  rw [h] at h1
  rw [Int.tmod_eq_emod_of_nonneg (by omega)]
  have h5 : (dsum W.2.2.2.1.data.toList + n - dsum W.2.2.2.1.data.toList) % (W.1.size : Int) = 0 := by rw [Int.sub_emod, ← h1, Int.sub_self, Int.zero_emod]
  rwa [show dsum W.2.2.2.1.data.toList + (n : Int) - dsum W.2.2.2.1.data.toList = n by omega] at h5
/-! ### The least number of steps -/
def First (P : Nat → Prop) (lo : Nat) (r : Int × Bool) : Prop := (∃ n : Nat, r = ((n : Int), true) ∧ lo ≤ n ∧ n ≤ 4000 ∧ P n ∧ ∀ j, lo ≤ j → j < n → ¬ P j) ∨ (r = (0, false) ∧ ∀ j, lo ≤ j → j ≤ 4000 → ¬ P j)
theorem First.one {P : Nat → Prop} {lo : Nat} {r s : Int × Bool} (h : First P lo r) (h' : First P lo s) : r = s := by
  rcases h with ⟨n, rfl, a1, a2, a3, a4⟩ | ⟨rfl, a⟩
  · rcases h' with ⟨m, rfl, b1, b2, b3, b4⟩ | ⟨rfl, b⟩
    · have h1 : ¬ m < n := fun q => a4 m b1 q b3
      have h2 : ¬ n < m := fun q => b4 n a1 q a3
      have : n = m := by omega
      rw [this]
    · exact absurd a3 (b n a1 a2)
  · rcases h' with ⟨m, rfl, b1, b2, b3, b4⟩ | ⟨rfl, b⟩
    · exact absurd b3 (a m b1 b2)
    · rfl
theorem First.iff {P Q : Nat → Prop} {lo : Nat} {r : Int × Bool} (e : ∀ n, P n ↔ Q n) (h : First P lo r) : First Q lo r := by
  rcases h with ⟨n, rfl, a1, a2, a3, a4⟩ | ⟨rfl, a⟩
  · exact .inl ⟨n, rfl, a1, a2, (e n).1 a3, fun j h1 h2 q => a4 j h1 h2 ((e j).2 q)⟩
  · exact .inr ⟨rfl, fun j h1 h2 q => a j h1 h2 ((e j).2 q)⟩
open Classical in
theorem First.ex (P : Nat → Prop) (lo : Nat) : ∃ r, First P lo r := by
  have key : ∀ m i : Nat, i + m = 4001 → (∀ j, lo ≤ j → j < i → ¬ P j) → ∃ r, First P lo r := by
    intro m
    induction m with
    | zero => intro i hi h; exact ⟨(0, false), .inr ⟨rfl, fun j h1 h2 => h j h1 (by omega)⟩⟩
    | succ m ih =>
      intro i hi h
      by_cases p : lo ≤ i ∧ P i
      · exact ⟨((i : Int), true), .inl ⟨i, rfl, p.1, by omega, p.2, h⟩⟩
      · exact ih (i + 1) (by omega) fun j h1 h2 q => by
          by_cases e : j = i
          · subst e
            exact p ⟨h1, q⟩
          · exact h j h1 (by omega) q
  exact key 4001 0 (by omega) fun j h1 h2 => by omega
/-! ### Cells that are left -/
def Cov (W : Wo) (n : Nat) : Prop := ∀ i, i < cellsO W → i ∈ trk n W
def unF (N : Nat) (l : List Nat) : Nat := ((List.range N).filter fun j => !(l.contains j)).length
theorem unF_new {N : Nat} {l : List Nat} {a : Nat} (ha : a < N) (hn : a ∉ l) : unF N (l ++ [a]) + 1 = unF N l := by
  unfold unF
  have e : ((List.range N).filter fun j => !((l ++ [a]).contains j)) = (((List.range N).filter fun j => !(l.contains j)).erase a) := by
    rw [List.Nodup.erase_eq_filter (List.Pairwise.filter _ List.nodup_range), List.filter_filter]
    refine List.filter_congr fun j hj => ?_
    rw [List.contains_append]
    cases hl : l.contains j <;> by_cases e : j = a <;> simp [e]
  have hm : a ∈ (List.range N).filter fun j => !(l.contains j) := List.mem_filter.2 ⟨List.mem_range.2 ha, by simp [hn]⟩
  rw [e, List.length_erase_of_mem hm]
  have := List.length_pos_of_mem hm
  omega
theorem unF_old {N : Nat} {l : List Nat} {a : Nat} (hn : a ∈ l) : unF N (l ++ [a]) = unF N l := by
  unfold unF
  congr 1
  refine List.filter_congr fun j hj => ?_
  rw [List.contains_append]
  by_cases e : j = a
  · subst e
    simp [hn]
  · simp [e]
theorem unF_zero {N : Nat} {l : List Nat} : unF N l = 0 ↔ ∀ i, i < N → i ∈ l := by
  unfold unF
  rw [List.length_eq_zero_iff, List.filter_eq_nil_iff]
  constructor
  · intro h i hi
    have := h i (List.mem_range.2 hi)
    simpa using this
  · intro h i hi
    have := h i (List.mem_range.1 hi)
    simp [this]
theorem unF_nil (N : Nat) : unF N [] = N := by
  unfold unF
  rw [List.filter_eq_self.2 fun j _ => by simp, List.length_range]
/-! ### Cells that are kept by a map -/
abbrev ie : Int → Int → Bool := Sh.eqT (.int .i64)
theorem ie_iff {a b : Int} : ie a b = true ↔ a = b := by
  show (a == b) = true ↔ _
  exact beq_iff_eq
theorem mput_keys (x : Int) (v : Bool) : ∀ s : List (Int × Bool), (mput ie s x v).map Prod.fst = if x ∈ s.map Prod.fst then s.map Prod.fst else s.map Prod.fst ++ [x]
  | [] => by simp [mput]
  | e :: s => by
    have ih := mput_keys x v s
    show (cond (ie x e.1) ((x, v) :: s) (e :: mput ie s x v)).map Prod.fst = _
    cases hb : ie x e.1 with
    | true =>
      have he := ie_iff.1 hb
      subst he
      simp
    | false =>
      have hne : x ≠ e.1 := fun q => by rw [ie_iff.2 q] at hb; cases hb
      rw [cond_false, List.map_cons, ih, List.map_cons]
      by_cases hm : x ∈ s.map Prod.fst
      · rw [if_pos hm, if_pos (List.mem_cons_of_mem _ hm)]
      · rw [if_neg hm, if_neg (fun q => (List.mem_cons.1 q).elim hne hm)]
        rfl
/-- The map's keys are the cells of a track, each once. -/
def Seen (l : List Nat) (s : List (Int × Bool)) : Prop := (s.map Prod.fst).Nodup ∧ ∀ z : Int, z ∈ s.map Prod.fst ↔ ∃ i ∈ l, (i : Int) = z
theorem Seen.next {l : List Nat} {s : List (Int × Bool)} (h : Seen l s) (a : Nat) (v : Bool) : Seen (l ++ [a]) (mput ie s (a : Int) v) := by
  obtain ⟨h1, h2⟩ := h
  have key : ∀ z : Int, (∃ i ∈ l ++ [a], (i : Int) = z) ↔ (∃ i ∈ l, (i : Int) = z) ∨ z = (a : Int) := fun z => by
    constructor
    · rintro ⟨i, hi, e⟩
      rcases List.mem_append.1 hi with hi | hi
      · exact .inl ⟨i, hi, e⟩
      · rw [List.mem_singleton.1 hi] at e
        exact .inr e.symm
    · rintro (⟨i, hi, e⟩ | e)
      · exact ⟨i, List.mem_append_left _ hi, e⟩
      · exact ⟨a, List.mem_append_right _ (List.mem_singleton.2 rfl), e.symm⟩
  unfold Seen
  rw [mput_keys]
  by_cases hm : (a : Int) ∈ s.map Prod.fst
  · rw [if_pos hm]
    refine ⟨h1, fun z => ?_⟩
    rw [key, ← h2 z]
    exact ⟨.inl, fun q => q.elim id fun e => e ▸ hm⟩
  · rw [if_neg hm]
    refine ⟨?_, fun z => ?_⟩
    · rw [List.nodup_append]
      exact ⟨h1, List.pairwise_singleton _ _, fun x hx y hy e => hm (by rw [List.mem_singleton.1 hy] at e; exact e ▸ hx)⟩
    · rw [List.mem_append, List.mem_singleton, key, h2 z]
theorem Seen.full {l : List Nat} {s : List (Int × Bool)} (h : Seen l s) {N : Nat} (hl : ∀ i ∈ l, i < N) : s.length = N ↔ ∀ i, i < N → i ∈ l := by
  obtain ⟨h1, h2⟩ := h
  have hk : ∀ z ∈ s.map Prod.fst, ∃ i, i < N ∧ (i : Int) = z := fun z hz => by
    obtain ⟨i, hi, e⟩ := (h2 z).1 hz
    exact ⟨i, hl i hi, e⟩
  have nat : ((s.map Prod.fst).map Int.toNat).Nodup := by
    unfold List.Nodup
    rw [List.pairwise_map]
    refine (List.Pairwise.and_mem.1 h1).imp fun {a b} hab e => ?_
    obtain ⟨ha, hb, hne⟩ := hab
    obtain ⟨i, _, rfl⟩ := hk a ha
    obtain ⟨j, _, rfl⟩ := hk b hb
    simp only [Int.toNat_natCast] at e
    exact hne (by rw [e])
  have lt : ∀ x ∈ (s.map Prod.fst).map Int.toNat, x < N := fun x hx => by
    obtain ⟨z, hz, rfl⟩ := List.mem_map.1 hx
    obtain ⟨i, hi, rfl⟩ := hk z hz
    rw [Int.toNat_natCast]
    exact hi
  have el : ((s.map Prod.fst).map Int.toNat).length = s.length := by rw [List.length_map, List.length_map]
  constructor
  · intro e i hi
    have := pigeon_mem nat lt (by rw [el, e]) hi
    obtain ⟨z, hz, rfl⟩ := List.mem_map.1 this
    obtain ⟨j, hj, rfl⟩ := (h2 z).1 hz
    rw [Int.toNat_natCast]
    exact hj
  · intro h
    have p : ((s.map Prod.fst).map Int.toNat).Perm (List.range N) := by
      rw [List.perm_ext_iff_of_nodup nat List.nodup_range]
      intro x
      constructor
      · intro hx
        exact List.mem_range.2 (lt x hx)
      · intro hx
        have hx := List.mem_range.1 hx
        exact List.mem_map.2 ⟨(x : Int), (h2 _).2 ⟨x, h x hx, rfl⟩, Int.toNat_natCast x⟩
    have := p.length_eq
    rw [el, List.length_range] at this
    exact this
/-! ### The first of the greatest -/
def BestOf (N : Nat) (g : Nat → Int) (b : Nat) : Prop := b < N ∧ (∀ j, j < N → g j ≤ g b) ∧ ∀ j, j < b → g j < g b
theorem BestOf.one {N : Nat} {g : Nat → Int} {a b : Nat} (h : BestOf N g a) (h' : BestOf N g b) : a = b := by
  obtain ⟨h1, h2, h3⟩ := h
  obtain ⟨k1, k2, k3⟩ := h'
  have e1 : ¬ a < b := fun q => by have := k3 a q; have := h2 b k1; omega
  have e2 : ¬ b < a := fun q => by have := h3 b q; have := k2 a h1; omega
  omega
/-! ### Cells never visited -/
def nevF (N : Nat) (g : Nat → Int) : List Int := ((List.range N).filter fun i => g i == 0).map fun n : Nat => (n : Int)
theorem nev_mem {N : Nat} {g : Nat → Int} {i : Nat} (hi : i < N) : (i : Int) ∈ nevF N g ↔ g i = 0 := by
  unfold nevF
  rw [List.mem_map]
  constructor
  · rintro ⟨j, hj, e⟩
    have : j = i := by omega
    subst this
    exact beq_iff_eq.1 (List.mem_filter.1 hj).2
  · intro h
    exact ⟨i, List.mem_filter.2 ⟨List.mem_range.2 hi, beq_iff_eq.2 h⟩, rfl⟩
theorem nev_len (N : Nat) (g : Nat → Int) : (nevF N g).length ≤ N := by
  unfold nevF
  rw [List.length_map]
  have := List.length_filter_le (fun i => g i == 0) (List.range N)
  rwa [List.length_range] at this
theorem nev_pos {N : Nat} {g : Nat → Int} (hg : ∀ i, 0 ≤ g i) : ((List.range N).filter fun i => decide (g i > 0)).length + (nevF N g).length = N := by
  unfold nevF
  rw [List.length_map]
  have key : ∀ l : List Nat, (l.filter fun i => decide (g i > 0)).length + (l.filter fun i => g i == 0).length = l.length := by
    intro l
    induction l with
    | nil => rfl
    | cons a l ih =>
      have := hg a
      by_cases h : g a = 0
      · rw [List.filter_cons_of_neg (by simp; omega), List.filter_cons_of_pos (by simp [h]), List.length_cons, List.length_cons]
        omega
      · rw [List.filter_cons_of_pos (by simp; omega), List.filter_cons_of_neg (by simp [h]), List.length_cons, List.length_cons]
        omega
  have := key (List.range N)
  rwa [List.length_range] at this
theorem nev_nil {n : Nat} {W : Wo} : (nevF (cellsO W) (vF n W)).length = 0 ↔ Cov W n := by
  rw [List.length_eq_zero_iff]
  constructor
  · intro h i hi
    have h0 : ¬ vF n W i = 0 := fun q => by have := (nev_mem hi).2 q; rw [h] at this; cases this
    refine Classical.byContradiction fun hn => h0 ?_
    unfold vF
    rw [List.count_eq_zero.2 hn]
    rfl
  · intro h
    unfold nevF
    rw [List.map_eq_nil_iff, List.filter_eq_nil_iff]
    intro i hi
    have := List.count_pos_iff.2 (h i (List.mem_range.1 hi))
    unfold vF
    rw [beq_iff_eq]
    omega
theorem trk_mono {W : Wo} : ∀ {n m : Nat}, n ≤ m → ∀ i ∈ trk n W, i ∈ trk m W := by
  intro n m h
  induction h with
  | refl => exact fun i hi => hi
  | step h ih =>
    intro i hi
    rw [trk_snoc]
    exact List.mem_append_left _ (ih i hi)
theorem Cov.mono {W : Wo} {n m : Nat} (h : Cov W n) (hm : n ≤ m) : Cov W m := fun i hi => trk_mono hm i (h i hi)

theorem atW_ev : ∀ {W : Wo}, OkO W → Ev (fun k => impl_World_at k W) (locO W : Int)
  | (rl, w, h, cs, x, y, wy), H => Ev.step (fun k => impl_World_at.eq k rl w h cs x y wy) (Ev.now' (loc_facts H).2.2.2)
theorem ba_beq_iff {a b : ByteArray} : (a == b) = true ↔ a = b := by
  constructor
  · intro h
    obtain ⟨d⟩ := a
    obtain ⟨e⟩ := b
    have h : (d == e) = true := h
    rw [beq_iff_eq] at h
    rw [h]
  · rintro rfl
    exact ba_beq a
theorem wo_iff (V A : Wo) : ((V.1 == A.1) && ((V.2.1 == A.2.1) && ((V.2.2.1 == A.2.2.1) && ((V.2.2.2.1 == A.2.2.2.1) && ((V.2.2.2.2.1 == A.2.2.2.2.1) && ((V.2.2.2.2.2.1 == A.2.2.2.2.2.1) && ((V.2.2.2.2.2.2 == A.2.2.2.2.2.2) && true))))))) = true ↔ V = A := by
  obtain ⟨rl, w, h, cs, x, y, wy⟩ := V
  obtain ⟨rl', w', h', cs', x', y', wy'⟩ := A
  simp only [Bool.and_eq_true, ba_beq_iff, beq_iff_eq, and_true, Prod.mk.injEq]
/-! ### Tracks -/
theorem track_l_ev : ∀ (m i n : Nat) (V : Wo) (out : List Int), OkO V → i + m = n → n ≤ 100000 → out.length = i →
    Ev (fun k => impl_track_l k (V, out, (n : Int), (i : Int))) (out ++ (trk m V).map fun i : Nat => (i : Int)) ∧ Ev (fun k => spec_TrackAfter_l k ((m : Int), V, out)) (out ++ (trk m V).map fun i : Nat => (i : Int))
  | 0, i, n, V, out, H, hi, hn, ho => by
    obtain ⟨rl, w, h, cs, x, y, wy⟩ := V
    show Ev _ (out ++ []) ∧ Ev _ (out ++ [])
    rw [List.append_nil]
    exact ⟨Ev.step (fun k => impl_track_l.eq k rl w h cs x y wy out _ _) (Ev.no (not_lt_nat (by omega)) (Ev.now _)), Ev.step (fun k => spec_TrackAfter_l.eq k _ rl w h cs x y wy out) (Ev.no rfl (Ev.now _))⟩
  | m + 1, i, n, V, out, H, hi, hn, ho => by
    obtain ⟨s1, s2, s3⟩ := step_ev V H
    obtain ⟨q1, q2⟩ := track_l_ev m (i + 1) n (stepO V) (out ++ [(locO V : Int)]) s3 (by omega) hn (by rw [List.length_append, List.length_singleton]; omega)
    have ea : out ++ (trk (m + 1) V).map (fun i : Nat => (i : Int)) = out ++ [(locO V : Int)] ++ (trk m (stepO V)).map fun i : Nat => (i : Int) := by
      show out ++ ((locO V : Int) :: (trk m (stepO V)).map fun i : Nat => (i : Int)) = _
      rw [List.append_assoc]
      rfl
    rw [ea]
    have at1 := atW_ev H
    have lf := (loc_facts H).2.2.2
    obtain ⟨rl, w, h, cs, x, y, wy⟩ := V
    refine ⟨Ev.step (fun k => impl_track_l.eq k rl w h cs x y wy out _ _) (Ev.yes (lt_nat (by omega)) (Ev.bind at1 (Ev.yes (fits_of (by omega)) (Ev.bind s1 ?_)))), Ev.step (fun k => spec_TrackAfter_l.eq k _ rl w h cs x y wy out) (Ev.yes (decide_eq_true (by omega)) (Ev.yes (fits_of (by omega)) (Ev.bind s2 ?_)))⟩
    · rw [w64_succ (by omega)]
      exact q1
    · simp only at lf
      rw [lf, show w64 (((m + 1 : Nat) : Int) - 1) = (m : Int) by rw [w64_of (by omega) (by omega)]; omega]
      exact q2
theorem track_ev {W : Wo} (H : OkO W) (n : Nat) (hn : n ≤ 100000) : Ev (fun k => impl_track k (W, (n : Int))) ((trk n W).map fun i : Nat => (i : Int)) := by
  have q := (track_l_ev n 0 n W [] H (by omega) hn rfl).1
  rw [List.nil_append] at q
  obtain ⟨rl, w, h, cs, x, y, wy⟩ := W
  exact Ev.step (fun k => impl_track.eq k rl w h cs x y wy n) (Ev.bind q (Ev.now _))
theorem trackAfter_ev (W : Wo) (hr : W.1.size ≤ 1048576) (hc : W.2.2.2.1.size ≤ 1048576) (n : Int) : (OkO W ∧ (0 ≤ n ∧ n ≤ 200) → Ev (fun k => impl_TrackAfter k (W, n)) ((trk n.toNat W).map fun i : Nat => (i : Int), true) ∧ Ev (fun k => spec_TrackAfter k (W, n)) ((trk n.toNat W).map fun i : Nat => (i : Int), true)) ∧
    (¬ (OkO W ∧ (0 ≤ n ∧ n ≤ 200)) → Ev (fun k => impl_TrackAfter k (W, n)) ([], false) ∧ Ev (fun k => spec_TrackAfter k (W, n)) ([], false)) := by
  have a := isW_ev W hr hc
  have b := woSteps_ev W hr hc n
  have c := within_ev n 0 200
  by_cases H : OkO W
  rotate_left
  · have a := a.isF H
    have b := b.isF fun q => H q.1
    obtain ⟨rl, w, h, cs, x, y, wy⟩ := W
    exact ⟨fun q => absurd q.1 H, fun _ => ⟨Ev.step (fun k => impl_TrackAfter.eq k rl w h cs x y wy n) (Ev.bind a (Ev.yes rfl (Ev.now _))), Ev.step (fun k => spec_TrackAfter.eq k rl w h cs x y wy n) (Ev.bind b (Ev.yes rfl (Ev.now _)))⟩⟩
  have a := a.isT H
  by_cases hn : 0 ≤ n ∧ n ≤ 200
  · have b := b.isT ⟨H, by omega⟩
    have c := c.isT hn
    obtain ⟨N, rfl⟩ := Int.eq_ofNat_of_zero_le hn.1
    have t1 := track_ev H N (by omega)
    have t2 := (track_l_ev N 0 N W [] H (by omega) (by omega) rfl).2
    rw [List.nil_append] at t2
    obtain ⟨rl, w, h, cs, x, y, wy⟩ := W
    refine ⟨fun _ => ⟨Ev.step (fun k => impl_TrackAfter.eq k rl w h cs x y wy N) (Ev.bind a (Ev.no rfl (Ev.bind c (Ev.no rfl (Ev.bind t1 (Ev.now _)))))), Ev.step (fun k => spec_TrackAfter.eq k rl w h cs x y wy N) (Ev.bind b (Ev.no rfl (Ev.no (decide_eq_false (by omega)) (Ev.bind t2 (Ev.now _)))))⟩, fun q => absurd ⟨H, hn⟩ q⟩
  · have c := c.isF hn
    refine ⟨fun q => absurd q.2 hn, fun _ => ?_⟩
    by_cases hb : 0 ≤ n ∧ n ≤ 3000
    · have b := b.isT ⟨H, hb⟩
      obtain ⟨rl, w, h, cs, x, y, wy⟩ := W
      exact ⟨Ev.step (fun k => impl_TrackAfter.eq k rl w h cs x y wy n) (Ev.bind a (Ev.no rfl (Ev.bind c (Ev.yes rfl (Ev.now _))))), Ev.step (fun k => spec_TrackAfter.eq k rl w h cs x y wy n) (Ev.bind b (Ev.no rfl (Ev.yes (decide_eq_true (by omega)) (Ev.now _))))⟩
    · have b := b.isF fun q => hb q.2
      obtain ⟨rl, w, h, cs, x, y, wy⟩ := W
      exact ⟨Ev.step (fun k => impl_TrackAfter.eq k rl w h cs x y wy n) (Ev.bind a (Ev.no rfl (Ev.bind c (Ev.yes rfl (Ev.now _))))), Ev.step (fun k => spec_TrackAfter.eq k rl w h cs x y wy n) (Ev.bind b (Ev.yes rfl (Ev.now _)))⟩
/-! ### Visits -/
theorem visits_l_ev (N : Nat) (l : List Nat) (hl : l.length ≤ 100000) (hN : ∀ i ∈ l, i < N) : ∀ (m j : Nat) (g : Nat → Int), j + m = l.length → (∀ i, 0 ≤ g i ∧ g i ≤ (j : Int)) →
    Ev (fun k => impl_visits_l k ((List.range N).map g, l.map (fun i : Nat => (i : Int)), (l.length : Int), (j : Int))) ((List.range N).map fun i => g i + (((l.drop j).count i : Nat) : Int))
  | 0, j, g, hj, hg => by
    refine Ev.step (fun k => impl_visits_l.eq k _ _ _ _) (Ev.no (not_lt_nat (by omega)) (Ev.now' (rg_congr fun i _ => ?_)))
    rw [List.drop_of_length_le (by omega), List.count_nil]
    omega
  | m + 1, j, g, hj, hg => by
    obtain ⟨a, ha⟩ := nat_list (l := l) (i := j) (by omega)
    obtain ⟨hlt, he⟩ := List.getElem?_eq_some_iff.1 ha
    have haN := hN a (List.mem_of_getElem? ha)
    have g1 : (l.map fun i : Nat => (i : Int)).getD j default = (a : Int) := getD_at (by rw [List.getElem?_map, ha]; rfl)
    have hga := hg a
    have ih := visits_l_ev N l hl hN m (j + 1) (fun i => if i = a then g a + 1 else g i) (by omega) (fun i => by
      have := hg i
      by_cases e : i = a
      · rw [if_pos e]; omega
      · rw [if_neg e]; omega)
    have er : ((List.range N).map fun i => (if i = a then g a + 1 else g i) + (((l.drop (j + 1)).count i : Nat) : Int)) = (List.range N).map fun i => g i + (((l.drop j).count i : Nat) : Int) := rg_congr fun i _ => by
      rw [List.drop_eq_getElem_cons hlt, he, List.count_cons]
      by_cases e : i = a
      · subst e
        rw [if_pos rfl, beq_self_eq_true, if_pos rfl]
        omega
      · have : (a == i) = false := beq_eq_false_iff_ne.2 fun q => e q.symm
        rw [if_neg e, this, if_neg Bool.false_ne_true]
        omega
    rw [er] at ih
    have hin : inB (a : Int) ((List.range N).map g).length = true := inB_nat (by rw [rg_len]; exact haN)
    refine Ev.step (fun k => impl_visits_l.eq k _ _ _ _) (Ev.yes (lt_nat (by omega)) (Ev.yes (inB_nat (by rw [List.length_map]; omega)) ?_))
    rw [Int.toNat_natCast, g1]
    refine Ev.yes hin (Ev.yes hin ?_)
    rw [Int.toNat_natCast, rg_get g haN, rg_set, w64_succ (by omega), w64_of (n := g a + 1) (by omega) (by omega)]
    exact ih
theorem visits_ev {W : Wo} (H : OkO W) (n : Nat) (hn : n ≤ 100000) : Ev (fun k => impl_visits k (W, (n : Int))) ((List.range (cellsO W)).map (vF n W)) := by
  have hz := (okO_size H).2
  have t := track_ev H n hn
  have q := visits_l_ev (cellsO W) (trk n W) (by rw [trk_len]; exact hn) (trk_lt n W H) (trk n W).length 0 (fun _ => 0) (by omega) (fun i => by omega)
  rw [List.drop_zero, ← rg_const] at q
  have e : ((List.range (cellsO W)).map fun i => (0 : Int) + (((trk n W).count i : Nat) : Int)) = (List.range (cellsO W)).map (vF n W) := rg_congr fun i _ => by
    unfold vF
    omega
  rw [e] at q
  have q : Ev (fun k => impl_visits_l k (List.replicate (cellsO W) 0, (trk n W).map (fun i : Nat => (i : Int)), (((trk n W).map (fun i : Nat => (i : Int))).length : Int), 0)) ((List.range (cellsO W)).map (vF n W)) := by
    rw [List.length_map]
    exact q
  obtain ⟨rl, w, h, cs, x, y, wy⟩ := W
  refine Ev.step (fun k => impl_visits.eq k rl w h cs x y wy n) (Ev.yes ?_ ?_)
  · simp only at hz
    rw [decide_eq_true (by omega), decide_eq_true (by omega), fits_of (by omega)]
    rfl
  · rw [Int.toNat_natCast]
    exact Ev.bind t (Ev.bind q (Ev.now _))
theorem loVisits_l_ev (N : Nat) : ∀ (m : Nat) (V : Wo) (B : Nat) (g : Nat → Int), OkO V → cellsO V = N → B + m ≤ 1000000 → (∀ i, 0 ≤ g i ∧ g i ≤ (B : Int)) →
    Ev (fun k => spec_loVisits_l k ((m : Int), V, (List.range N).map g)) ((List.range N).map fun i => g i + vF m V i)
  | 0, V, B, g, H, hN, hB, hg => by
    obtain ⟨rl, w, h, cs, x, y, wy⟩ := V
    refine Ev.step (fun k => spec_loVisits_l.eq k _ rl w h cs x y wy _) (Ev.no rfl (Ev.now' (rg_congr fun i _ => ?_)))
    show g i = g i + ((([] : List Nat).count i : Nat) : Int)
    rw [List.count_nil]
    omega
  | m + 1, V, B, g, H, hN, hB, hg => by
    obtain ⟨s1, s2, s3⟩ := step_ev V H
    obtain ⟨l1, l2, l3, l4⟩ := loc_facts H
    obtain ⟨a, ha⟩ : ∃ a, locO V = a := ⟨_, rfl⟩
    rw [hN] at l1
    have hga := hg (locO V)
    have ih := loVisits_l_ev N m (stepO V) (B + 1) (fun i => if i = locO V then g (locO V) + 1 else g i) s3 (by rw [(step_sameO V).2.2.2]; exact hN) (by omega) (fun i => by
      have := hg i
      by_cases e : i = locO V
      · rw [if_pos e]; omega
      · rw [if_neg e]; omega)
    have er : ((List.range N).map fun i => (if i = locO V then g (locO V) + 1 else g i) + vF m (stepO V) i) = (List.range N).map fun i => g i + vF (m + 1) V i := rg_congr fun i _ => by
      have hv : vF (m + 1) V i = vF m (stepO V) i + if locO V == i then 1 else 0 := by
        show (((locO V :: trk m (stepO V)).count i : Nat) : Int) = _
        rw [List.count_cons]
        unfold vF
        split <;> simp
      rw [hv]
      by_cases e : i = locO V
      · rw [if_pos e, e, beq_self_eq_true, if_pos rfl]
        omega
      · have : (locO V == i) = false := beq_eq_false_iff_ne.2 fun q => e q.symm
        rw [if_neg e, this, if_neg Bool.false_ne_true]
        omega
    rw [er] at ih
    have hin : inB (locO V : Int) ((List.range N).map g).length = true := inB_nat (by rw [rg_len]; exact l1)
    have eg := rg_get g l1
    have es := rg_set (N := N) g (locO V) (g (locO V) + 1)
    have e1 : w64 (((m + 1 : Nat) : Int) - 1) = (m : Int) := by rw [w64_of (by omega) (by omega)]; omega
    have e2 : w64 (g (locO V) + 1) = g (locO V) + 1 := w64_of (by omega) (by omega)
    rw [← es] at ih
    obtain ⟨rl, w, h, cs, x, y, wy⟩ := V
    simp only at l4
    refine Ev.step (fun k => spec_loVisits_l.eq k _ rl w h cs x y wy _) (Ev.yes (decide_eq_true (by omega)) ?_)
    rw [l4]
    refine Ev.yes hin (Ev.yes hin (Ev.bind s2 ?_))
    rw [Int.toNat_natCast, eg, e1, e2]
    exact ih
theorem loVisits_ev {W : Wo} (H : OkO W) (n : Nat) (hn : n ≤ 100000) : Ev (fun k => spec_loVisits k (W, (n : Int))) ((List.range (cellsO W)).map (vF n W)) := by
  obtain ⟨l1, l2, l3, l4⟩ := loc_facts H
  have q := loVisits_l_ev (cellsO W) n W 0 (fun _ => 0) H rfl (by omega) (fun i => by omega)
  rw [← rg_const] at q
  have e : ((List.range (cellsO W)).map fun i => (0 : Int) + vF n W i) = (List.range (cellsO W)).map (vF n W) := rg_congr fun i _ => by omega
  rw [e] at q
  obtain ⟨rl, w, h, cs, x, y, wy⟩ := W
  have e64 : w64 (w * h) = (cellsO (rl, w, h, cs, x, y, wy) : Int) := by
    rw [l3]
    exact w64_of (by show -9223372036854775808 ≤ w * h; have : ((cellsO (rl, w, h, cs, x, y, wy) : Nat) : Int) = w * h := l3; omega) (by show w * h ≤ _; have : ((cellsO (rl, w, h, cs, x, y, wy) : Nat) : Int) = w * h := l3; omega)
  refine Ev.step (fun k => spec_loVisits.eq k rl w h cs x y wy n) ?_
  rw [e64, Int.toNat_natCast]
  refine Ev.yes ?_ (Ev.bind q (Ev.now _))
  rw [decide_eq_true (by omega), decide_eq_true (by omega), fits_of (by omega)]
  rfl
/-! ### Cells never visited -/
theorem unv_l_ev (N : Nat) (hN : N ≤ 1000) (g : Nat → Int) : ∀ (m i : Nat) (out : List Int), i + m = N → out.length ≤ i → Ev (fun k => impl_unvisited_l k (out, (List.range N).map g, (N : Int), (i : Int))) (out ++ (((List.range N).drop i).filter fun i => g i == 0).map fun n : Nat => (n : Int))
  | 0, i, out, hi, ho => by
    refine Ev.step (fun k => impl_unvisited_l.eq k _ _ _ _) (Ev.no (not_lt_nat (by omega)) (Ev.now' ?_))
    rw [List.drop_of_length_le (by rw [List.length_range]; omega)]
    show out = out ++ []
    rw [List.append_nil]
  | m + 1, i, out, hi, ho => by
    have hiN : i < N := by omega
    rw [rg_drop hiN]
    refine Ev.step (fun k => impl_unvisited_l.eq k _ _ _ _) (Ev.yes (lt_nat hiN) (Ev.yes (inB_nat (by rw [rg_len]; exact hiN)) ?_))
    rw [Int.toNat_natCast, rg_get g hiN, w64_succ (by omega)]
    cases h : g i == 0 with
    | true =>
      have ih := unv_l_ev N hN g m (i + 1) (out ++ [(i : Int)]) (by omega) (by rw [List.length_append, List.length_singleton]; omega)
      rw [List.filter_cons_of_pos (p := fun i => g i == 0) h, List.map_cons]
      rw [List.append_assoc] at ih
      exact Ev.yes rfl (Ev.yes (fits_of (by omega)) ih)
    | false =>
      have ih := unv_l_ev N hN g m (i + 1) out (by omega) (by omega)
      rw [List.filter_cons_of_neg (p := fun i => g i == 0) (by rw [h]; exact Bool.false_ne_true)]
      exact Ev.no rfl ih
theorem nev_l_ev (N : Nat) (hN : N ≤ 1000) (g : Nat → Int) : ∀ (m i : Nat) (out : List Int), i + m = N → out.length ≤ i → Ev (fun k => spec_NeverVisited_l k (out, (List.range N).map g, (N : Int), (i : Int))) (out ++ (((List.range N).drop i).filter fun i => g i == 0).map fun n : Nat => (n : Int))
  | 0, i, out, hi, ho => by
    refine Ev.step (fun k => spec_NeverVisited_l.eq k _ _ _ _) (Ev.no (not_lt_nat (by omega)) (Ev.now' ?_))
    rw [List.drop_of_length_le (by rw [List.length_range]; omega)]
    show out = out ++ []
    rw [List.append_nil]
  | m + 1, i, out, hi, ho => by
    have hiN : i < N := by omega
    rw [rg_drop hiN]
    refine Ev.step (fun k => spec_NeverVisited_l.eq k _ _ _ _) (Ev.yes (lt_nat hiN) (Ev.yes (inB_nat (by rw [rg_len]; exact hiN)) ?_))
    rw [Int.toNat_natCast, rg_get g hiN, w64_succ (by omega)]
    cases h : g i == 0 with
    | true =>
      have ih := nev_l_ev N hN g m (i + 1) (out ++ [(i : Int)]) (by omega) (by rw [List.length_append, List.length_singleton]; omega)
      rw [List.filter_cons_of_pos (p := fun i => g i == 0) h, List.map_cons]
      rw [List.append_assoc] at ih
      exact Ev.yes rfl (Ev.yes (fits_of (by omega)) ih)
    | false =>
      have ih := nev_l_ev N hN g m (i + 1) out (by omega) (by omega)
      rw [List.filter_cons_of_neg (p := fun i => g i == 0) (by rw [h]; exact Bool.false_ne_true)]
      exact Ev.no rfl ih
theorem unvisited_ev {W : Wo} (H : OkO W) (n : Nat) (hn : n ≤ 100000) : Ev (fun k => impl_unvisited k (W, (n : Int))) (nevF (cellsO W) (vF n W)) := by
  have hz : cellsO W ≤ 81 := (okO_size H).2
  have v := visits_ev H n hn
  have q := unv_l_ev (cellsO W) (by omega) (vF n W) (cellsO W) 0 [] (by omega) (by simp)
  rw [List.nil_append, List.drop_zero] at q
  have q : Ev (fun k => impl_unvisited_l k ([], (List.range (cellsO W)).map (vF n W), (((List.range (cellsO W)).map (vF n W)).length : Int), 0)) (nevF (cellsO W) (vF n W)) := by
    rw [rg_len]
    exact q
  obtain ⟨rl, w, h, cs, x, y, wy⟩ := W
  exact Ev.step (fun k => impl_unvisited.eq k rl w h cs x y wy n) (Ev.bind v (Ev.bind q (Ev.now _)))
theorem pos_l_ev (N : Nat) (hN : N ≤ 1000) (g : Nat → Int) : ∀ (m i c : Nat), i + m = N → c ≤ i → Ev (fun k => spec_CellsVisited_l k ((c : Int), (List.range N).map g, (N : Int), (i : Int))) (((c + (((List.range N).drop i).filter fun i => decide (g i > 0)).length : Nat)) : Int)
  | 0, i, c, hi, hc => by
    refine Ev.step (fun k => spec_CellsVisited_l.eq k _ _ _ _) (Ev.no (not_lt_nat (by omega)) (Ev.now' ?_))
    rw [List.drop_of_length_le (by rw [List.length_range]; omega)]
    rfl
  | m + 1, i, c, hi, hc => by
    have hiN : i < N := by omega
    rw [rg_drop hiN]
    refine Ev.step (fun k => spec_CellsVisited_l.eq k _ _ _ _) (Ev.yes (lt_nat hiN) (Ev.yes (inB_nat (by rw [rg_len]; exact hiN)) ?_))
    rw [Int.toNat_natCast, rg_get g hiN, w64_succ (i := i) (by omega), w64_succ (i := c) (by omega)]
    by_cases h : g i > 0
    · have ih := pos_l_ev N hN g m (i + 1) (c + 1) (by omega) (by omega)
      rw [List.filter_cons_of_pos (p := fun i => decide (g i > 0)) (decide_eq_true h), List.length_cons]
      rw [show c + 1 + (((List.range N).drop (i + 1)).filter fun i => decide (g i > 0)).length = c + ((((List.range N).drop (i + 1)).filter fun i => decide (g i > 0)).length + 1) by omega] at ih
      exact Ev.yes (decide_eq_true h) ih
    · have ih := pos_l_ev N hN g m (i + 1) c (by omega) (by omega)
      rw [List.filter_cons_of_neg (p := fun i => decide (g i > 0)) (by rw [decide_eq_false h]; exact Bool.false_ne_true)]
      exact Ev.no (decide_eq_false h) ih
theorem visitsAfter_ev (W : Wo) (hr : W.1.size ≤ 1048576) (hc : W.2.2.2.1.size ≤ 1048576) (n : Int) : (OkO W ∧ (0 ≤ n ∧ n ≤ 3000) → Ev (fun k => impl_VisitsAfter k (W, n)) ((List.range (cellsO W)).map (vF n.toNat W), true) ∧ Ev (fun k => spec_VisitsAfter k (W, n)) ((List.range (cellsO W)).map (vF n.toNat W), true) ∧
      Ev (fun k => impl_CellsVisited k (W, n)) ((((List.range (cellsO W)).filter fun i => decide (vF n.toNat W i > 0)).length : Int), true) ∧ Ev (fun k => spec_CellsVisited k (W, n)) ((((List.range (cellsO W)).filter fun i => decide (vF n.toNat W i > 0)).length : Int), true)) ∧
    (¬ (OkO W ∧ (0 ≤ n ∧ n ≤ 3000)) → Ev (fun k => impl_VisitsAfter k (W, n)) ([], false) ∧ Ev (fun k => spec_VisitsAfter k (W, n)) ([], false) ∧ Ev (fun k => impl_CellsVisited k (W, n)) (0, false) ∧ Ev (fun k => spec_CellsVisited k (W, n)) (0, false)) := by
  have a := isGoing_ev W hr hc n
  have b := woSteps_ev W hr hc n
  constructor
  · intro H
    have a := a.isT H
    have b := b.isT H
    obtain ⟨H, hn⟩ := H
    obtain ⟨N, rfl⟩ := Int.eq_ofNat_of_zero_le hn.1
    have v1 := visits_ev H N (by omega)
    have v2 := loVisits_ev H N (by omega)
    have u := unvisited_ev H N (by omega)
    have hz : cellsO W ≤ 81 := (okO_size H).2
    have p := pos_l_ev (cellsO W) (by omega) (vF N W) (cellsO W) 0 0 (by omega) (by omega)
    rw [Nat.zero_add, List.drop_zero] at p
    have p : Ev (fun k => spec_CellsVisited_l k (0, (List.range (cellsO W)).map (vF N W), (((List.range (cellsO W)).map (vF N W)).length : Int), 0)) ((((List.range (cellsO W)).filter fun i => decide (vF N W i > 0)).length : Nat) : Int) := by
      rw [rg_len]
      exact p
    have e := nev_pos (N := cellsO W) (g := vF N W) fun i => (vF_range N W i).1
    have e2 : w64 ((cellsO W : Int) - ((nevF (cellsO W) (vF N W)).length : Int)) = ((((List.range (cellsO W)).filter fun i => decide (vF N W i > 0)).length : Nat) : Int) := by rw [w64_of (by omega) (by omega)]; omega
    obtain ⟨rl, w, h, cs, x, y, wy⟩ := W
    exact ⟨Ev.step (fun k => impl_VisitsAfter.eq k rl w h cs x y wy N) (Ev.bind a (Ev.no rfl (Ev.bind v1 (Ev.now _)))), Ev.step (fun k => spec_VisitsAfter.eq k rl w h cs x y wy N) (Ev.bind b (Ev.no rfl (Ev.bind v2 (Ev.now _)))),
      Ev.step (fun k => impl_CellsVisited.eq k rl w h cs x y wy N) (Ev.bind a (Ev.no rfl (Ev.bind u (Ev.now' (Prod.ext e2 rfl))))), Ev.step (fun k => spec_CellsVisited.eq k rl w h cs x y wy N) (Ev.bind b (Ev.no rfl (Ev.bind v2 (Ev.bind p (Ev.now _)))))⟩
  · intro H
    have a := a.isF H
    have b := b.isF H
    obtain ⟨rl, w, h, cs, x, y, wy⟩ := W
    exact ⟨Ev.step (fun k => impl_VisitsAfter.eq k rl w h cs x y wy n) (Ev.bind a (Ev.yes rfl (Ev.now _))), Ev.step (fun k => spec_VisitsAfter.eq k rl w h cs x y wy n) (Ev.bind b (Ev.yes rfl (Ev.now _))), Ev.step (fun k => impl_CellsVisited.eq k rl w h cs x y wy n) (Ev.bind a (Ev.yes rfl (Ev.now _))), Ev.step (fun k => spec_CellsVisited.eq k rl w h cs x y wy n) (Ev.bind b (Ev.yes rfl (Ev.now _)))⟩
/-! ### The least number of steps -/
theorem atLo_inj {x y x' y' w : Int} (hx : 0 ≤ x ∧ x ≤ w - 1) (hx' : 0 ≤ x' ∧ x' ≤ w - 1) : y * w + x = y' * w + x' ↔ x = x' ∧ y = y' := by
  constructor
  · intro h
    have key : ∀ a b c d : Int, 0 ≤ c → c ≤ w - 1 → 0 ≤ d → d ≤ w - 1 → a * w + c = b * w + d → ¬ a < b := fun a b c d h1 h2 h3 h4 h5 h6 => by
      have := Int.mul_le_mul_of_nonneg_right (show a + 1 ≤ b by omega) (show 0 ≤ w by omega)
      rw [Int.add_mul, Int.one_mul] at this
      omega
    have k1 := key y y' x x' hx.1 hx.2 hx'.1 hx'.2 h
    have k2 := key y' y x' x hx'.1 hx'.2 hx.1 hx.2 h.symm
    obtain rfl : y = y' := by omega
    exact ⟨by omega, rfl⟩
  · rintro ⟨rfl, rfl⟩
    rfl
theorem loc_iff {U W : Wo} (HU : OkO U) (H : OkO W) (hw : U.2.1 = W.2.1) : locO U = locO W ↔ U.2.2.2.2.1 = W.2.2.2.2.1 ∧ U.2.2.2.2.2.1 = W.2.2.2.2.2.1 := by
  obtain ⟨_, a2, a3, _, _, a6, a7, _⟩ := HU
  obtain ⟨_, b2, b3, _, _, b6, b7, _⟩ := H
  obtain ⟨u1, u2, u3, u4⟩ := at_range a6 a7 a2 a3
  obtain ⟨v1, v2, v3, v4⟩ := at_range b6 b7 b2 b3
  unfold locO
  have h1 : W.2.2.2.2.2.1 * W.2.1 + W.2.2.2.2.1 = W.2.2.2.2.2.1 * U.2.1 + W.2.2.2.2.1 := by rw [hw]
  have key : U.2.2.2.2.2.1 * U.2.1 + U.2.2.2.2.1 = W.2.2.2.2.2.1 * U.2.1 + W.2.2.2.2.1 ↔ U.2.2.2.2.1 = W.2.2.2.2.1 ∧ U.2.2.2.2.2.1 = W.2.2.2.2.2.1 := atLo_inj a6 (by rw [hw]; exact b6)
  rw [← key]
  omega
theorem searchP_ev (lo : Nat) (hlo : lo ≤ 1) (A W : Wo) (HA : OkO A) (H : OkO W) : ∃ r, First (fun n => (runO n W) = A) lo r ∧ Ev (fun k => impl_search k (W, (lo : Int), A)) r := by
  have acc : ∀ V : Wo, OkO V → EvB (fun k => impl_PeriodOf_1 k (V, A)) ((V) = A) := fun V HV => by
    obtain ⟨rl, w, h, cs, x, y, wy⟩ := V
    obtain ⟨al, aw, ah, ac1, ax, ay, awy⟩ := A
    exact EvB.step (fun k => impl_PeriodOf_1.eq k rl w h cs x y wy al aw ah ac1 ax ay awy) (EvB.val (wo_iff (rl, w, h, cs, x, y, wy) (al, aw, ah, ac1, ax, ay, awy)))
  have srch := Ev.search (L := fun k i => impl_search_l k ((lo : Int), A, runO i.toNat W, i)) (n := 4001) (fun n => lo ≤ n ∧ ((runO n W) = A)) (fun i => .inl ((i : Int), true)) (.inr ())
    (fun i hi hp r Hr => by
      have HV := run_ok i W H
      have st := (step_ev (runO i W) HV).1
      have Hr : Ev (fun k => impl_search_l k ((lo : Int), A, runO (i + 1) W, ((i + 1 : Nat) : Int))) r := Hr
      rw [run_succ] at Hr
      show Ev (fun k => impl_search_l k ((lo : Int), A, runO i W, (i : Int))) r
      have ac := acc _ HV
      revert st Hr ac hp
      generalize runO i W = V
      intro hp st Hr ac
      obtain ⟨rl, w, h, cs, x, y, wy⟩ := V
      obtain ⟨al, aw, ah, ac1, ax, ay, awy⟩ := A
      refine Ev.step (fun k => impl_search_l.eq k _ al aw ah ac1 ax ay awy rl w h cs x y wy _) (Ev.yes (decide_eq_true (by omega)) ?_)
      rw [w64_succ (by omega)]
      by_cases hl : lo ≤ i
      · exact Ev.yes (decide_eq_true (by omega)) (Ev.bind (ac.isF fun q => hp ⟨hl, q⟩) (Ev.no rfl (Ev.bind st Hr)))
      · exact Ev.no (decide_eq_false (by omega)) (Ev.bind st Hr))
    (fun i hi hp => by
      have HV := run_ok i W H
      show Ev (fun k => impl_search_l k ((lo : Int), A, runO i W, (i : Int))) _
      have ac := acc _ HV
      revert ac hp
      generalize runO i W = V
      intro hp ac
      obtain ⟨rl, w, h, cs, x, y, wy⟩ := V
      obtain ⟨al, aw, ah, ac1, ax, ay, awy⟩ := A
      exact Ev.step (fun k => impl_search_l.eq k _ al aw ah ac1 ax ay awy rl w h cs x y wy _) (Ev.yes (decide_eq_true (by omega)) (Ev.yes (decide_eq_true (by omega)) (Ev.bind (ac.isT hp.2) (Ev.yes rfl (Ev.now _))))))
    (by
      show Ev (fun k => impl_search_l k ((lo : Int), A, runO 4001 W, 4001)) _
      generalize runO 4001 W = V
      obtain ⟨rl, w, h, cs, x, y, wy⟩ := V
      obtain ⟨al, aw, ah, ac1, ax, ay, awy⟩ := A
      exact Ev.step (fun k => impl_search_l.eq k _ al aw ah ac1 ax ay awy rl w h cs x y wy _) (Ev.no rfl (Ev.now _))) 4001 0 rfl
  have isw : Ev (fun k => impl_IsWorld k W) true := (isW_ev W (by have := okO_size H; omega) (by have := okO_size H; omega)).isT H
  rcases srch with ⟨h1, h2⟩ | ⟨j, _, hj, hp, hm, h4⟩
  · refine ⟨(0, false), .inr ⟨rfl, fun j h3 h4 q => h1 j (by omega) (by omega) ⟨h3, q⟩⟩, ?_⟩
    have h2 : Ev (fun k => impl_search_l k ((lo : Int), A, W, 0)) (.inr ()) := h2
    obtain ⟨rl, w, h, cs, x, y, wy⟩ := W
    obtain ⟨al, aw, ah, ac1, ax, ay, awy⟩ := A
    exact Ev.step (fun k => impl_search.eq k rl w h cs x y wy _ al aw ah ac1 ax ay awy) (Ev.bind isw (Ev.no rfl (Ev.bind h2 (Ev.now _))))
  · refine ⟨((j : Int), true), .inl ⟨j, rfl, hp.1, by omega, hp.2, fun i h3 h4 q => hm i (by omega) h4 ⟨h3, q⟩⟩, ?_⟩
    have h4 : Ev (fun k => impl_search_l k ((lo : Int), A, W, 0)) (.inl ((j : Int), true)) := h4
    obtain ⟨rl, w, h, cs, x, y, wy⟩ := W
    obtain ⟨al, aw, ah, ac1, ax, ay, awy⟩ := A
    exact Ev.step (fun k => impl_search.eq k rl w h cs x y wy _ al aw ah ac1 ax ay awy) (Ev.bind isw (Ev.no rfl (Ev.bind h4 (Ev.now _))))
theorem searchB_ev (lo : Nat) (hlo : lo ≤ 1) (A W : Wo) (HA : OkO A) (H : OkO W) : ∃ r, First (fun n => (runO n W) = A) lo r ∧ Ev (fun k => impl_search_4 k (W, (lo : Int), A)) r := by
  have acc : ∀ V : Wo, OkO V → EvB (fun k => impl_StepsBetween_1 k (V, A)) ((V) = A) := fun V HV => by
    obtain ⟨rl, w, h, cs, x, y, wy⟩ := V
    obtain ⟨al, aw, ah, ac1, ax, ay, awy⟩ := A
    exact EvB.step (fun k => impl_StepsBetween_1.eq k rl w h cs x y wy al aw ah ac1 ax ay awy) (EvB.val (wo_iff (rl, w, h, cs, x, y, wy) (al, aw, ah, ac1, ax, ay, awy)))
  have srch := Ev.search (L := fun k i => impl_search_4_l k ((lo : Int), A, runO i.toNat W, i)) (n := 4001) (fun n => lo ≤ n ∧ ((runO n W) = A)) (fun i => .inl ((i : Int), true)) (.inr ())
    (fun i hi hp r Hr => by
      have HV := run_ok i W H
      have st := (step_ev (runO i W) HV).1
      have Hr : Ev (fun k => impl_search_4_l k ((lo : Int), A, runO (i + 1) W, ((i + 1 : Nat) : Int))) r := Hr
      rw [run_succ] at Hr
      show Ev (fun k => impl_search_4_l k ((lo : Int), A, runO i W, (i : Int))) r
      have ac := acc _ HV
      revert st Hr ac hp
      generalize runO i W = V
      intro hp st Hr ac
      obtain ⟨rl, w, h, cs, x, y, wy⟩ := V
      obtain ⟨al, aw, ah, ac1, ax, ay, awy⟩ := A
      refine Ev.step (fun k => impl_search_4_l.eq k _ al aw ah ac1 ax ay awy rl w h cs x y wy _) (Ev.yes (decide_eq_true (by omega)) ?_)
      rw [w64_succ (by omega)]
      by_cases hl : lo ≤ i
      · exact Ev.yes (decide_eq_true (by omega)) (Ev.bind (ac.isF fun q => hp ⟨hl, q⟩) (Ev.no rfl (Ev.bind st Hr)))
      · exact Ev.no (decide_eq_false (by omega)) (Ev.bind st Hr))
    (fun i hi hp => by
      have HV := run_ok i W H
      show Ev (fun k => impl_search_4_l k ((lo : Int), A, runO i W, (i : Int))) _
      have ac := acc _ HV
      revert ac hp
      generalize runO i W = V
      intro hp ac
      obtain ⟨rl, w, h, cs, x, y, wy⟩ := V
      obtain ⟨al, aw, ah, ac1, ax, ay, awy⟩ := A
      exact Ev.step (fun k => impl_search_4_l.eq k _ al aw ah ac1 ax ay awy rl w h cs x y wy _) (Ev.yes (decide_eq_true (by omega)) (Ev.yes (decide_eq_true (by omega)) (Ev.bind (ac.isT hp.2) (Ev.yes rfl (Ev.now _))))))
    (by
      show Ev (fun k => impl_search_4_l k ((lo : Int), A, runO 4001 W, 4001)) _
      generalize runO 4001 W = V
      obtain ⟨rl, w, h, cs, x, y, wy⟩ := V
      obtain ⟨al, aw, ah, ac1, ax, ay, awy⟩ := A
      exact Ev.step (fun k => impl_search_4_l.eq k _ al aw ah ac1 ax ay awy rl w h cs x y wy _) (Ev.no rfl (Ev.now _))) 4001 0 rfl
  have isw : Ev (fun k => impl_IsWorld k W) true := (isW_ev W (by have := okO_size H; omega) (by have := okO_size H; omega)).isT H
  rcases srch with ⟨h1, h2⟩ | ⟨j, _, hj, hp, hm, h4⟩
  · refine ⟨(0, false), .inr ⟨rfl, fun j h3 h4 q => h1 j (by omega) (by omega) ⟨h3, q⟩⟩, ?_⟩
    have h2 : Ev (fun k => impl_search_4_l k ((lo : Int), A, W, 0)) (.inr ()) := h2
    obtain ⟨rl, w, h, cs, x, y, wy⟩ := W
    obtain ⟨al, aw, ah, ac1, ax, ay, awy⟩ := A
    exact Ev.step (fun k => impl_search_4.eq k rl w h cs x y wy _ al aw ah ac1 ax ay awy) (Ev.bind isw (Ev.no rfl (Ev.bind h2 (Ev.now _))))
  · refine ⟨((j : Int), true), .inl ⟨j, rfl, hp.1, by omega, hp.2, fun i h3 h4 q => hm i (by omega) h4 ⟨h3, q⟩⟩, ?_⟩
    have h4 : Ev (fun k => impl_search_4_l k ((lo : Int), A, W, 0)) (.inl ((j : Int), true)) := h4
    obtain ⟨rl, w, h, cs, x, y, wy⟩ := W
    obtain ⟨al, aw, ah, ac1, ax, ay, awy⟩ := A
    exact Ev.step (fun k => impl_search_4.eq k rl w h cs x y wy _ al aw ah ac1 ax ay awy) (Ev.bind isw (Ev.no rfl (Ev.bind h4 (Ev.now _))))
theorem searchR_ev (lo : Nat) (hlo : lo ≤ 1) (A W : Wo) (HA : OkO A) (H : OkO W) : ∃ r, First (fun n => locO (runO n W) = locO A) lo r ∧ Ev (fun k => impl_search_3 k (W, (lo : Int), A)) r := by
  have acc : ∀ V : Wo, OkO V → EvB (fun k => impl_FirstReturn_1 k (V, A)) (locO (V) = locO A) := fun V HV => by
    have a1 := atW_ev HV
    have a2 := atW_ev HA
    obtain ⟨rl, w, h, cs, x, y, wy⟩ := V
    obtain ⟨al, aw, ah, ac1, ax, ay, awy⟩ := A
    exact ⟨_, Ev.step (fun k => impl_FirstReturn_1.eq k rl w h cs x y wy al aw ah ac1 ax ay awy) (Ev.bind a1 (Ev.bind a2 (Ev.now _))), beq_iff_eq.trans ⟨fun q => by omega, fun q => by rw [q]⟩⟩
  have srch := Ev.search (L := fun k i => impl_search_3_l k ((lo : Int), A, runO i.toNat W, i)) (n := 4001) (fun n => lo ≤ n ∧ (locO (runO n W) = locO A)) (fun i => .inl ((i : Int), true)) (.inr ())
    (fun i hi hp r Hr => by
      have HV := run_ok i W H
      have st := (step_ev (runO i W) HV).1
      have Hr : Ev (fun k => impl_search_3_l k ((lo : Int), A, runO (i + 1) W, ((i + 1 : Nat) : Int))) r := Hr
      rw [run_succ] at Hr
      show Ev (fun k => impl_search_3_l k ((lo : Int), A, runO i W, (i : Int))) r
      have ac := acc _ HV
      revert st Hr ac hp
      generalize runO i W = V
      intro hp st Hr ac
      obtain ⟨rl, w, h, cs, x, y, wy⟩ := V
      obtain ⟨al, aw, ah, ac1, ax, ay, awy⟩ := A
      refine Ev.step (fun k => impl_search_3_l.eq k _ al aw ah ac1 ax ay awy rl w h cs x y wy _) (Ev.yes (decide_eq_true (by omega)) ?_)
      rw [w64_succ (by omega)]
      by_cases hl : lo ≤ i
      · exact Ev.yes (decide_eq_true (by omega)) (Ev.bind (ac.isF fun q => hp ⟨hl, q⟩) (Ev.no rfl (Ev.bind st Hr)))
      · exact Ev.no (decide_eq_false (by omega)) (Ev.bind st Hr))
    (fun i hi hp => by
      have HV := run_ok i W H
      show Ev (fun k => impl_search_3_l k ((lo : Int), A, runO i W, (i : Int))) _
      have ac := acc _ HV
      revert ac hp
      generalize runO i W = V
      intro hp ac
      obtain ⟨rl, w, h, cs, x, y, wy⟩ := V
      obtain ⟨al, aw, ah, ac1, ax, ay, awy⟩ := A
      exact Ev.step (fun k => impl_search_3_l.eq k _ al aw ah ac1 ax ay awy rl w h cs x y wy _) (Ev.yes (decide_eq_true (by omega)) (Ev.yes (decide_eq_true (by omega)) (Ev.bind (ac.isT hp.2) (Ev.yes rfl (Ev.now _))))))
    (by
      show Ev (fun k => impl_search_3_l k ((lo : Int), A, runO 4001 W, 4001)) _
      generalize runO 4001 W = V
      obtain ⟨rl, w, h, cs, x, y, wy⟩ := V
      obtain ⟨al, aw, ah, ac1, ax, ay, awy⟩ := A
      exact Ev.step (fun k => impl_search_3_l.eq k _ al aw ah ac1 ax ay awy rl w h cs x y wy _) (Ev.no rfl (Ev.now _))) 4001 0 rfl
  have isw : Ev (fun k => impl_IsWorld k W) true := (isW_ev W (by have := okO_size H; omega) (by have := okO_size H; omega)).isT H
  rcases srch with ⟨h1, h2⟩ | ⟨j, _, hj, hp, hm, h4⟩
  · refine ⟨(0, false), .inr ⟨rfl, fun j h3 h4 q => h1 j (by omega) (by omega) ⟨h3, q⟩⟩, ?_⟩
    have h2 : Ev (fun k => impl_search_3_l k ((lo : Int), A, W, 0)) (.inr ()) := h2
    obtain ⟨rl, w, h, cs, x, y, wy⟩ := W
    obtain ⟨al, aw, ah, ac1, ax, ay, awy⟩ := A
    exact Ev.step (fun k => impl_search_3.eq k rl w h cs x y wy _ al aw ah ac1 ax ay awy) (Ev.bind isw (Ev.no rfl (Ev.bind h2 (Ev.now _))))
  · refine ⟨((j : Int), true), .inl ⟨j, rfl, hp.1, by omega, hp.2, fun i h3 h4 q => hm i (by omega) h4 ⟨h3, q⟩⟩, ?_⟩
    have h4 : Ev (fun k => impl_search_3_l k ((lo : Int), A, W, 0)) (.inl ((j : Int), true)) := h4
    obtain ⟨rl, w, h, cs, x, y, wy⟩ := W
    obtain ⟨al, aw, ah, ac1, ax, ay, awy⟩ := A
    exact Ev.step (fun k => impl_search_3.eq k rl w h cs x y wy _ al aw ah ac1 ax ay awy) (Ev.bind isw (Ev.no rfl (Ev.bind h4 (Ev.now _))))
theorem searchA_ev (lo : Nat) (hlo : lo ≤ 1) (A W : Wo) (HA : OkO A) (H : OkO W) : ∃ r, First (fun n => locO (runO n W) = locO A ∧ (runO n W).2.2.2.2.2.2 = A.2.2.2.2.2.2) lo r ∧ Ev (fun k => impl_search_2 k (W, (lo : Int), A)) r := by
  have acc : ∀ V : Wo, OkO V → EvB (fun k => impl_AntPeriod_1 k (V, A)) (locO (V) = locO A ∧ (V).2.2.2.2.2.2 = A.2.2.2.2.2.2) := fun V HV => by
    have a1 := atW_ev HV
    have a2 := atW_ev HA
    obtain ⟨rl, w, h, cs, x, y, wy⟩ := V
    obtain ⟨al, aw, ah, ac1, ax, ay, awy⟩ := A
    by_cases e : locO (rl, w, h, cs, x, y, wy) = locO (al, aw, ah, ac1, ax, ay, awy)
    · exact ⟨_, Ev.step (fun k => impl_AntPeriod_1.eq k rl w h cs x y wy al aw ah ac1 ax ay awy) (Ev.bind a1 (Ev.bind a2 (Ev.yes (by rw [e]; exact beq_self_eq_true _) (Ev.now _)))), beq_iff_eq.trans ⟨fun q => ⟨e, q⟩, fun q => q.2⟩⟩
    · exact ⟨false, Ev.step (fun k => impl_AntPeriod_1.eq k rl w h cs x y wy al aw ah ac1 ax ay awy) (Ev.bind a1 (Ev.bind a2 (Ev.no (beq_eq_false_iff_ne.2 fun q => e (by omega)) (Ev.now _)))), nofun, fun q => absurd q.1 e⟩
  have srch := Ev.search (L := fun k i => impl_search_2_l k ((lo : Int), A, runO i.toNat W, i)) (n := 4001) (fun n => lo ≤ n ∧ (locO (runO n W) = locO A ∧ (runO n W).2.2.2.2.2.2 = A.2.2.2.2.2.2)) (fun i => .inl ((i : Int), true)) (.inr ())
    (fun i hi hp r Hr => by
      have HV := run_ok i W H
      have st := (step_ev (runO i W) HV).1
      have Hr : Ev (fun k => impl_search_2_l k ((lo : Int), A, runO (i + 1) W, ((i + 1 : Nat) : Int))) r := Hr
      rw [run_succ] at Hr
      show Ev (fun k => impl_search_2_l k ((lo : Int), A, runO i W, (i : Int))) r
      have ac := acc _ HV
      revert st Hr ac hp
      generalize runO i W = V
      intro hp st Hr ac
      obtain ⟨rl, w, h, cs, x, y, wy⟩ := V
      obtain ⟨al, aw, ah, ac1, ax, ay, awy⟩ := A
      refine Ev.step (fun k => impl_search_2_l.eq k _ al aw ah ac1 ax ay awy rl w h cs x y wy _) (Ev.yes (decide_eq_true (by omega)) ?_)
      rw [w64_succ (by omega)]
      by_cases hl : lo ≤ i
      · exact Ev.yes (decide_eq_true (by omega)) (Ev.bind (ac.isF fun q => hp ⟨hl, q⟩) (Ev.no rfl (Ev.bind st Hr)))
      · exact Ev.no (decide_eq_false (by omega)) (Ev.bind st Hr))
    (fun i hi hp => by
      have HV := run_ok i W H
      show Ev (fun k => impl_search_2_l k ((lo : Int), A, runO i W, (i : Int))) _
      have ac := acc _ HV
      revert ac hp
      generalize runO i W = V
      intro hp ac
      obtain ⟨rl, w, h, cs, x, y, wy⟩ := V
      obtain ⟨al, aw, ah, ac1, ax, ay, awy⟩ := A
      exact Ev.step (fun k => impl_search_2_l.eq k _ al aw ah ac1 ax ay awy rl w h cs x y wy _) (Ev.yes (decide_eq_true (by omega)) (Ev.yes (decide_eq_true (by omega)) (Ev.bind (ac.isT hp.2) (Ev.yes rfl (Ev.now _))))))
    (by
      show Ev (fun k => impl_search_2_l k ((lo : Int), A, runO 4001 W, 4001)) _
      generalize runO 4001 W = V
      obtain ⟨rl, w, h, cs, x, y, wy⟩ := V
      obtain ⟨al, aw, ah, ac1, ax, ay, awy⟩ := A
      exact Ev.step (fun k => impl_search_2_l.eq k _ al aw ah ac1 ax ay awy rl w h cs x y wy _) (Ev.no rfl (Ev.now _))) 4001 0 rfl
  have isw : Ev (fun k => impl_IsWorld k W) true := (isW_ev W (by have := okO_size H; omega) (by have := okO_size H; omega)).isT H
  rcases srch with ⟨h1, h2⟩ | ⟨j, _, hj, hp, hm, h4⟩
  · refine ⟨(0, false), .inr ⟨rfl, fun j h3 h4 q => h1 j (by omega) (by omega) ⟨h3, q⟩⟩, ?_⟩
    have h2 : Ev (fun k => impl_search_2_l k ((lo : Int), A, W, 0)) (.inr ()) := h2
    obtain ⟨rl, w, h, cs, x, y, wy⟩ := W
    obtain ⟨al, aw, ah, ac1, ax, ay, awy⟩ := A
    exact Ev.step (fun k => impl_search_2.eq k rl w h cs x y wy _ al aw ah ac1 ax ay awy) (Ev.bind isw (Ev.no rfl (Ev.bind h2 (Ev.now _))))
  · refine ⟨((j : Int), true), .inl ⟨j, rfl, hp.1, by omega, hp.2, fun i h3 h4 q => hm i (by omega) h4 ⟨h3, q⟩⟩, ?_⟩
    have h4 : Ev (fun k => impl_search_2_l k ((lo : Int), A, W, 0)) (.inl ((j : Int), true)) := h4
    obtain ⟨rl, w, h, cs, x, y, wy⟩ := W
    obtain ⟨al, aw, ah, ac1, ax, ay, awy⟩ := A
    exact Ev.step (fun k => impl_search_2.eq k rl w h cs x y wy _ al aw ah ac1 ax ay awy) (Ev.bind isw (Ev.no rfl (Ev.bind h4 (Ev.now _))))
theorem loP_ev (W : Wo) (H : OkO W) : ∃ r, First (fun n => (runO n W) = W) 1 r ∧ Ev (fun k => spec_loPeriod_l k (W, W, 1)) (if r.2 = true then .inl r.1 else .inr ()) := by
  have srch := Ev.search (L := fun k i => spec_loPeriod_l k (W, runO i.toNat W, i + 1)) (n := 4000) (fun n => (runO (n + 1) W) = W) (fun i => .inl ((i : Int) + 1)) (.inr ())
    (fun i hi hp r Hr => by
      have HV := run_ok i W H
      have st := (step_ev (runO i W) HV).2.1
      have Hr : Ev (fun k => spec_loPeriod_l k (W, runO (i + 1) W, ((i + 1 : Nat) : Int) + 1)) r := Hr
      show Ev (fun k => spec_loPeriod_l k (W, runO i W, (i : Int) + 1)) r
      have hsame := run_sameO (i + 1) W
      have hx := (run_ok (i + 1) W H)
      rw [run_succ] at Hr hp hsame hx
      revert st Hr hp hsame hx
      generalize stepO (runO i W) = U
      generalize runO i W = V
      intro hp st Hr hsame hx
      obtain ⟨rl, w, h, cs, x, y, wy⟩ := W
      obtain ⟨vl, vw, vh, vc, vx, vy, vwy⟩ := V
      refine Ev.step (fun k => spec_loPeriod_l.eq k rl w h cs x y wy vl vw vh vc vx vy vwy _) (Ev.yes (decide_eq_true (by omega)) (Ev.bind st ?_))
      rw [w64_of (n := (i : Int) + 1 + 1) (by omega) (by omega), show (i : Int) + 1 + 1 = ((i + 1 : Nat) : Int) + 1 by omega]
      exact Ev.no (Bool.eq_false_iff.2 fun q => hp ((wo_iff U (rl, w, h, cs, x, y, wy)).1 q)) Hr)
    (fun i hi hp => by
      have HV := run_ok i W H
      have st := (step_ev (runO i W) HV).2.1
      show Ev (fun k => spec_loPeriod_l k (W, runO i W, (i : Int) + 1)) _
      have hsame := run_sameO (i + 1) W
      have hx := (run_ok (i + 1) W H)
      rw [run_succ] at hp hsame hx
      revert st hp hsame hx
      generalize stepO (runO i W) = U
      generalize runO i W = V
      intro hp st hsame hx
      obtain ⟨rl, w, h, cs, x, y, wy⟩ := W
      obtain ⟨vl, vw, vh, vc, vx, vy, vwy⟩ := V
      refine Ev.step (fun k => spec_loPeriod_l.eq k rl w h cs x y wy vl vw vh vc vx vy vwy _) (Ev.yes (decide_eq_true (by omega)) (Ev.bind st ?_))
      exact Ev.yes ((wo_iff U (rl, w, h, cs, x, y, wy)).2 hp) (Ev.now _))
    (by
      show Ev (fun k => spec_loPeriod_l k (W, runO 4000 W, 4001)) _
      generalize runO 4000 W = V
      obtain ⟨rl, w, h, cs, x, y, wy⟩ := W
      obtain ⟨vl, vw, vh, vc, vx, vy, vwy⟩ := V
      exact Ev.step (fun k => spec_loPeriod_l.eq k rl w h cs x y wy vl vw vh vc vx vy vwy _) (Ev.no rfl (Ev.now _))) 4000 0 rfl
  rcases srch with ⟨h1, h2⟩ | ⟨j, _, hj, hp, hm, h4⟩
  · exact ⟨(0, false), .inr ⟨rfl, fun j h3 h4 q => by
      obtain ⟨i, rfl⟩ : ∃ i, j = i + 1 := ⟨j - 1, by omega⟩
      exact h1 i (by omega) (by omega) q⟩, h2⟩
  · refine ⟨(((j + 1 : Nat) : Int), true), .inl ⟨j + 1, rfl, by omega, by omega, hp, fun i h3 h4 q => by
      obtain ⟨i, rfl⟩ : ∃ i', i = i' + 1 := ⟨i - 1, by omega⟩
      exact hm i (by omega) (by omega) q⟩, ?_⟩
    exact h4
theorem loR_ev (W : Wo) (H : OkO W) : ∃ r, First (fun n => locO (runO n W) = locO W) 1 r ∧ Ev (fun k => spec_FirstReturn_l k (W, W, 1)) (if r.2 = true then .inl r else .inr ()) := by
  have srch := Ev.search (L := fun k i => spec_FirstReturn_l k (W, runO i.toNat W, i + 1)) (n := 4000) (fun n => locO (runO (n + 1) W) = locO W) (fun i => .inl ((i : Int) + 1, true)) (.inr ())
    (fun i hi hp r Hr => by
      have HV := run_ok i W H
      have st := (step_ev (runO i W) HV).2.1
      have Hr : Ev (fun k => spec_FirstReturn_l k (W, runO (i + 1) W, ((i + 1 : Nat) : Int) + 1)) r := Hr
      show Ev (fun k => spec_FirstReturn_l k (W, runO i W, (i : Int) + 1)) r
      have hsame := run_sameO (i + 1) W
      have hx := (run_ok (i + 1) W H)
      rw [run_succ] at Hr hp hsame hx
      revert st Hr hp hsame hx
      generalize stepO (runO i W) = U
      generalize runO i W = V
      intro hp st Hr hsame hx
      obtain ⟨rl, w, h, cs, x, y, wy⟩ := W
      obtain ⟨vl, vw, vh, vc, vx, vy, vwy⟩ := V
      refine Ev.step (fun k => spec_FirstReturn_l.eq k rl w h cs x y wy vl vw vh vc vx vy vwy _) (Ev.yes (decide_eq_true (by omega)) (Ev.bind st ?_))
      rw [w64_of (n := (i : Int) + 1 + 1) (by omega) (by omega), show (i : Int) + 1 + 1 = ((i + 1 : Nat) : Int) + 1 by omega]
      have hi := loc_iff hx H hsame.2.1
      by_cases e1 : U.2.2.2.2.1 = x
      · exact Ev.yes (beq_iff_eq.2 e1) (Ev.no (beq_eq_false_iff_ne.2 fun e2 => hp (hi.2 ⟨e1, e2⟩)) Hr)
      · exact Ev.no (beq_eq_false_iff_ne.2 e1) Hr)
    (fun i hi hp => by
      have HV := run_ok i W H
      have st := (step_ev (runO i W) HV).2.1
      show Ev (fun k => spec_FirstReturn_l k (W, runO i W, (i : Int) + 1)) _
      have hsame := run_sameO (i + 1) W
      have hx := (run_ok (i + 1) W H)
      rw [run_succ] at hp hsame hx
      revert st hp hsame hx
      generalize stepO (runO i W) = U
      generalize runO i W = V
      intro hp st hsame hx
      obtain ⟨rl, w, h, cs, x, y, wy⟩ := W
      obtain ⟨vl, vw, vh, vc, vx, vy, vwy⟩ := V
      refine Ev.step (fun k => spec_FirstReturn_l.eq k rl w h cs x y wy vl vw vh vc vx vy vwy _) (Ev.yes (decide_eq_true (by omega)) (Ev.bind st ?_))
      obtain ⟨e1, e2⟩ := (loc_iff hx H hsame.2.1).1 hp
      exact Ev.yes (beq_iff_eq.2 e1) (Ev.yes (beq_iff_eq.2 e2) (Ev.now _)))
    (by
      show Ev (fun k => spec_FirstReturn_l k (W, runO 4000 W, 4001)) _
      generalize runO 4000 W = V
      obtain ⟨rl, w, h, cs, x, y, wy⟩ := W
      obtain ⟨vl, vw, vh, vc, vx, vy, vwy⟩ := V
      exact Ev.step (fun k => spec_FirstReturn_l.eq k rl w h cs x y wy vl vw vh vc vx vy vwy _) (Ev.no rfl (Ev.now _))) 4000 0 rfl
  rcases srch with ⟨h1, h2⟩ | ⟨j, _, hj, hp, hm, h4⟩
  · exact ⟨(0, false), .inr ⟨rfl, fun j h3 h4 q => by
      obtain ⟨i, rfl⟩ : ∃ i, j = i + 1 := ⟨j - 1, by omega⟩
      exact h1 i (by omega) (by omega) q⟩, h2⟩
  · refine ⟨(((j + 1 : Nat) : Int), true), .inl ⟨j + 1, rfl, by omega, by omega, hp, fun i h3 h4 q => by
      obtain ⟨i, rfl⟩ : ∃ i', i = i' + 1 := ⟨i - 1, by omega⟩
      exact hm i (by omega) (by omega) q⟩, ?_⟩
    exact h4
theorem loA_ev (W : Wo) (H : OkO W) : ∃ r, First (fun n => locO (runO n W) = locO W ∧ (runO n W).2.2.2.2.2.2 = W.2.2.2.2.2.2) 1 r ∧ Ev (fun k => spec_AntPeriod_l k (W, W, 1)) (if r.2 = true then .inl r else .inr ()) := by
  have srch := Ev.search (L := fun k i => spec_AntPeriod_l k (W, runO i.toNat W, i + 1)) (n := 4000) (fun n => locO (runO (n + 1) W) = locO W ∧ (runO (n + 1) W).2.2.2.2.2.2 = W.2.2.2.2.2.2) (fun i => .inl ((i : Int) + 1, true)) (.inr ())
    (fun i hi hp r Hr => by
      have HV := run_ok i W H
      have st := (step_ev (runO i W) HV).2.1
      have Hr : Ev (fun k => spec_AntPeriod_l k (W, runO (i + 1) W, ((i + 1 : Nat) : Int) + 1)) r := Hr
      show Ev (fun k => spec_AntPeriod_l k (W, runO i W, (i : Int) + 1)) r
      have hsame := run_sameO (i + 1) W
      have hx := (run_ok (i + 1) W H)
      rw [run_succ] at Hr hp hsame hx
      revert st Hr hp hsame hx
      generalize stepO (runO i W) = U
      generalize runO i W = V
      intro hp st Hr hsame hx
      obtain ⟨rl, w, h, cs, x, y, wy⟩ := W
      obtain ⟨vl, vw, vh, vc, vx, vy, vwy⟩ := V
      refine Ev.step (fun k => spec_AntPeriod_l.eq k rl w h cs x y wy vl vw vh vc vx vy vwy _) (Ev.yes (decide_eq_true (by omega)) (Ev.bind st ?_))
      rw [w64_of (n := (i : Int) + 1 + 1) (by omega) (by omega), show (i : Int) + 1 + 1 = ((i + 1 : Nat) : Int) + 1 by omega]
      have hi := loc_iff hx H hsame.2.1
      by_cases e1 : U.2.2.2.2.1 = x
      · by_cases e2 : U.2.2.2.2.2.1 = y
        · exact Ev.yes (beq_iff_eq.2 e1) (Ev.yes (beq_iff_eq.2 e2) (Ev.no (beq_eq_false_iff_ne.2 fun e3 => hp ⟨hi.2 ⟨e1, e2⟩, e3⟩) Hr))
        · exact Ev.yes (beq_iff_eq.2 e1) (Ev.no (beq_eq_false_iff_ne.2 e2) Hr)
      · exact Ev.no (beq_eq_false_iff_ne.2 e1) Hr)
    (fun i hi hp => by
      have HV := run_ok i W H
      have st := (step_ev (runO i W) HV).2.1
      show Ev (fun k => spec_AntPeriod_l k (W, runO i W, (i : Int) + 1)) _
      have hsame := run_sameO (i + 1) W
      have hx := (run_ok (i + 1) W H)
      rw [run_succ] at hp hsame hx
      revert st hp hsame hx
      generalize stepO (runO i W) = U
      generalize runO i W = V
      intro hp st hsame hx
      obtain ⟨rl, w, h, cs, x, y, wy⟩ := W
      obtain ⟨vl, vw, vh, vc, vx, vy, vwy⟩ := V
      refine Ev.step (fun k => spec_AntPeriod_l.eq k rl w h cs x y wy vl vw vh vc vx vy vwy _) (Ev.yes (decide_eq_true (by omega)) (Ev.bind st ?_))
      obtain ⟨e1, e2⟩ := (loc_iff hx H hsame.2.1).1 hp.1
      exact Ev.yes (beq_iff_eq.2 e1) (Ev.yes (beq_iff_eq.2 e2) (Ev.yes (beq_iff_eq.2 hp.2) (Ev.now _))))
    (by
      show Ev (fun k => spec_AntPeriod_l k (W, runO 4000 W, 4001)) _
      generalize runO 4000 W = V
      obtain ⟨rl, w, h, cs, x, y, wy⟩ := W
      obtain ⟨vl, vw, vh, vc, vx, vy, vwy⟩ := V
      exact Ev.step (fun k => spec_AntPeriod_l.eq k rl w h cs x y wy vl vw vh vc vx vy vwy _) (Ev.no rfl (Ev.now _))) 4000 0 rfl
  rcases srch with ⟨h1, h2⟩ | ⟨j, _, hj, hp, hm, h4⟩
  · exact ⟨(0, false), .inr ⟨rfl, fun j h3 h4 q => by
      obtain ⟨i, rfl⟩ : ∃ i, j = i + 1 := ⟨j - 1, by omega⟩
      exact h1 i (by omega) (by omega) q⟩, h2⟩
  · refine ⟨(((j + 1 : Nat) : Int), true), .inl ⟨j + 1, rfl, by omega, by omega, hp, fun i h3 h4 q => by
      obtain ⟨i, rfl⟩ : ∃ i', i = i' + 1 := ⟨i - 1, by omega⟩
      exact hm i (by omega) (by omega) q⟩, ?_⟩
    exact h4
theorem loB_ev (V W : Wo) (H : OkO W) : ∃ r, First (fun n => runO n W = V) 0 r ∧ Ev (fun k => spec_StepsBetween_l k (W, V, 0)) (if r.2 = true then .inl r else .inr ()) := by
  have srch := Ev.search (L := fun k i => spec_StepsBetween_l k (runO i.toNat W, V, i)) (n := 4001) (fun n => runO n W = V) (fun i => .inl ((i : Int), true)) (.inr ())
    (fun i hi hp r Hr => by
      have st := (step_ev (runO i W) (run_ok i W H)).2.1
      have Hr : Ev (fun k => spec_StepsBetween_l k (runO (i + 1) W, V, ((i + 1 : Nat) : Int))) r := Hr
      rw [run_succ] at Hr
      show Ev (fun k => spec_StepsBetween_l k (runO i W, V, (i : Int))) r
      revert st Hr hp
      generalize runO i W = U
      intro hp st Hr
      have hne := fun q => hp ((wo_iff U V).1 q)
      obtain ⟨rl, w, h, cs, x, y, wy⟩ := U
      obtain ⟨vl, vw, vh, vc, vx, vy, vwy⟩ := V
      refine Ev.step (fun k => spec_StepsBetween_l.eq k rl w h cs x y wy vl vw vh vc vx vy vwy _) (Ev.yes (decide_eq_true (by omega)) (Ev.no (Bool.eq_false_iff.2 hne) (Ev.bind st ?_)))
      rw [w64_succ (by omega)]
      exact Hr)
    (fun i hi hp => by
      show Ev (fun k => spec_StepsBetween_l k (runO i W, V, (i : Int))) _
      revert hp
      generalize runO i W = U
      intro hp
      have hq := (wo_iff U V).2 hp
      obtain ⟨rl, w, h, cs, x, y, wy⟩ := U
      obtain ⟨vl, vw, vh, vc, vx, vy, vwy⟩ := V
      exact Ev.step (fun k => spec_StepsBetween_l.eq k rl w h cs x y wy vl vw vh vc vx vy vwy _) (Ev.yes (decide_eq_true (by omega)) (Ev.yes hq (Ev.now _))))
    (by
      show Ev (fun k => spec_StepsBetween_l k (runO 4001 W, V, 4001)) _
      generalize runO 4001 W = U
      obtain ⟨rl, w, h, cs, x, y, wy⟩ := U
      obtain ⟨vl, vw, vh, vc, vx, vy, vwy⟩ := V
      exact Ev.step (fun k => spec_StepsBetween_l.eq k rl w h cs x y wy vl vw vh vc vx vy vwy _) (Ev.no rfl (Ev.now _))) 4001 0 rfl
  rcases srch with ⟨h1, h2⟩ | ⟨j, _, hj, hp, hm, h4⟩
  · exact ⟨(0, false), .inr ⟨rfl, fun j h3 h4 q => h1 j (by omega) (by omega) q⟩, h2⟩
  · exact ⟨((j : Int), true), .inl ⟨j, rfl, by omega, by omega, hp, fun i h3 h4 q => hm i (by omega) h4 q⟩, h4⟩
/-! ### Many steps, the program's way -/
theorem afterI_l_ev : ∀ (m i : Nat) (n : Nat) (W : Wo), OkO W → i + m = n → n ≤ 100000 → Ev (fun k => impl_WorldAfter_l k (W, zeroO, (n : Int), (i : Int))) (runO m W, zeroO)
  | 0, i, n, W, H, hi, hn => by
    obtain ⟨rl, w, h, cs, x, y, wy⟩ := W
    exact Ev.step (fun k => impl_WorldAfter_l.eq k rl w h cs x y wy ByteArray.empty 0 0 ByteArray.empty 0 0 0 (n : Int) (i : Int)) (Ev.no (not_lt_nat (by omega)) (Ev.now _))
  | m + 1, i, n, W, H, hi, hn => by
    obtain ⟨s1, s2, s3⟩ := step_ev W H
    have q1 := afterI_l_ev m (i + 1) n (stepO W) s3 (by omega) hn
    obtain ⟨rl, w, h, cs, x, y, wy⟩ := W
    refine Ev.step (fun k => impl_WorldAfter_l.eq k rl w h cs x y wy ByteArray.empty 0 0 ByteArray.empty 0 0 0 (n : Int) (i : Int)) (Ev.yes (lt_nat (by omega)) (Ev.bind s1 ?_))
    rw [w64_succ (by omega)]
    exact q1
theorem afterI_ev {W : Wo} (H : OkO W) (n : Nat) (hn : n ≤ 3000) : Ev (fun k => impl_WorldAfter k (W, (n : Int))) (runO n W, true) := by
  have a := (isGoing_ev W (by have := okO_size H; omega) (by have := okO_size H; omega) n).isT ⟨H, by omega⟩
  have q := afterI_l_ev n 0 n W H (by omega) (by omega)
  obtain ⟨rl, w, h, cs, x, y, wy⟩ := W
  exact Ev.step (fun k => impl_WorldAfter.eq k rl w h cs x y wy n) (Ev.bind a (Ev.no rfl (Ev.bind q (Ev.now _))))
theorem stepWI_ev {W : Wo} (H : OkO W) : Ev (fun k => impl_StepWorld k W) (stepO W, true) := by
  have q := afterI_ev H 1 (by omega)
  obtain ⟨rl, w, h, cs, x, y, wy⟩ := W
  exact Ev.step (fun k => impl_StepWorld.eq k rl w h cs x y wy) (Ev.bind q (Ev.now _))

/-! ### Periods -/
section
variable (W : Wo) (hr : W.1.size ≤ 1048576) (hc : W.2.2.2.1.size ≤ 1048576)
include hr hc
theorem noL_ev (H : ¬ OkO W) : Ev (fun k => impl_PeriodOf k W) (0, false) ∧ Ev (fun k => spec_PeriodOf k W) (0, false) ∧ Ev (fun k => impl_AntPeriod k W) (0, false) ∧ Ev (fun k => spec_AntPeriod k W) (0, false) ∧ Ev (fun k => impl_FirstReturn k W) (0, false) ∧ Ev (fun k => spec_FirstReturn k W) (0, false) ∧ Ev (fun k => impl_CoverSteps k W) (0, false) ∧ Ev (fun k => spec_CoverSteps k W) (0, false) ∧ Ev (fun k => impl_NeverVisited k W) ([], false) ∧ Ev (fun k => spec_NeverVisited k W) ([], false) := by
  have a := (isW_ev W hr hc).isF H
  have b := (goodW_ev W).isF H
  obtain ⟨rl, w, h, cs, x, y, wy⟩ := W
  have p : Ev (fun k => impl_PeriodOf k (rl, w, h, cs, x, y, wy)) (0, false) := Ev.step (fun k => impl_PeriodOf.eq k rl w h cs x y wy) (Ev.bind (Ev.step (fun k => impl_search.eq k rl w h cs x y wy 1 rl w h cs x y wy) (Ev.bind a (Ev.yes rfl (Ev.now _)))) (Ev.now _))
  exact ⟨p, Ev.step (fun k => spec_PeriodOf.eq k rl w h cs x y wy) (Ev.bind b (Ev.yes rfl (Ev.now _))),
    Ev.step (fun k => impl_AntPeriod.eq k rl w h cs x y wy) (Ev.bind (Ev.step (fun k => impl_search_2.eq k rl w h cs x y wy 1 rl w h cs x y wy) (Ev.bind a (Ev.yes rfl (Ev.now _)))) (Ev.now _)),
    Ev.step (fun k => spec_AntPeriod.eq k rl w h cs x y wy) (Ev.bind b (Ev.yes rfl (Ev.now _))),
    Ev.step (fun k => impl_FirstReturn.eq k rl w h cs x y wy) (Ev.bind (Ev.step (fun k => impl_search_3.eq k rl w h cs x y wy 1 rl w h cs x y wy) (Ev.bind a (Ev.yes rfl (Ev.now _)))) (Ev.now _)),
    Ev.step (fun k => spec_FirstReturn.eq k rl w h cs x y wy) (Ev.bind b (Ev.yes rfl (Ev.now _))),
    Ev.step (fun k => impl_CoverSteps.eq k rl w h cs x y wy) (Ev.bind a (Ev.yes rfl (Ev.now _))),
    Ev.step (fun k => spec_CoverSteps.eq k rl w h cs x y wy) (Ev.bind b (Ev.yes rfl (Ev.now _))),
    Ev.step (fun k => impl_NeverVisited.eq k rl w h cs x y wy) (Ev.bind p (Ev.yes rfl (Ev.now _))),
    Ev.step (fun k => spec_NeverVisited.eq k rl w h cs x y wy) (Ev.bind b (Ev.yes rfl (Ev.now _)))⟩
end
theorem period_ev {W : Wo} (H : OkO W) : ∃ r : Int × Bool, First (fun n => runO n W = W) 1 r ∧ Ev (fun k => impl_PeriodOf k W) r ∧ Ev (fun k => spec_PeriodOf k W) r ∧
    (∀ n : Nat, r = ((n : Int), true) → Ev (fun k => impl_NeverVisited k W) (nevF (cellsO W) (vF n W), true) ∧ Ev (fun k => spec_NeverVisited k W) (nevF (cellsO W) (vF n W), true)) ∧ (r.2 = false → Ev (fun k => impl_NeverVisited k W) ([], false) ∧ Ev (fun k => spec_NeverVisited k W) ([], false)) := by
  obtain ⟨r, f1, e1⟩ := searchP_ev 1 (by omega) W W H H
  obtain ⟨s, f2, e2⟩ := loP_ev W H
  obtain rfl := f1.one f2
  have b := (goodW_ev W).isT H
  have hz : cellsO W ≤ 81 := (okO_size H).2
  have p1 : Ev (fun k => impl_PeriodOf k W) r := by
    obtain ⟨rl, w, h, cs, x, y, wy⟩ := W
    exact Ev.step (fun k => impl_PeriodOf.eq k rl w h cs x y wy) (Ev.bind e1 (Ev.now _))
  rcases f1 with ⟨n, rfl, g1, g2, g3, g4⟩ | ⟨rfl, g⟩
  · have e2 : Ev (fun k => spec_loPeriod_l k (W, W, 1)) (.inl (n : Int)) := e2
    have lo : Ev (fun k => spec_loPeriod k W) (n : Int) := by
      obtain ⟨rl, w, h, cs, x, y, wy⟩ := W
      exact Ev.step (fun k => spec_loPeriod.eq k rl w h cs x y wy) (Ev.bind e2 (Ev.now _))
    have u := unvisited_ev H n (by omega)
    have v := loVisits_ev H n (by omega)
    have q := nev_l_ev (cellsO W) (by omega) (vF n W) (cellsO W) 0 [] (by omega) (by simp)
    rw [List.nil_append, List.drop_zero] at q
    have q : Ev (fun k => spec_NeverVisited_l k ([], (List.range (cellsO W)).map (vF n W), (((List.range (cellsO W)).map (vF n W)).length : Int), 0)) (nevF (cellsO W) (vF n W)) := by
      rw [rg_len]
      exact q
    have n0 : ((n : Int) == 0) = false := beq_eq_false_iff_ne.2 (by omega)
    have np : decide ((n : Int) > 0) = true := decide_eq_true (by omega)
    obtain ⟨rl, w, h, cs, x, y, wy⟩ := W
    refine ⟨_, .inl ⟨n, rfl, g1, g2, g3, g4⟩, p1, Ev.step (fun k => spec_PeriodOf.eq k rl w h cs x y wy) (Ev.bind b (Ev.no rfl (Ev.bind lo (Ev.now' (by rw [np]))))), fun m hm => ?_, fun q => nomatch q⟩
    have hm : (n : Int) = (m : Int) := congrArg Prod.fst hm
    have hm : m = n := by omega
    subst hm
    exact ⟨Ev.step (fun k => impl_NeverVisited.eq k rl w h cs x y wy) (Ev.bind p1 (Ev.no rfl (Ev.bind u (Ev.now _)))), Ev.step (fun k => spec_NeverVisited.eq k rl w h cs x y wy) (Ev.bind b (Ev.no rfl (Ev.bind lo (Ev.no n0 (Ev.bind lo (Ev.bind v (Ev.bind q (Ev.now _))))))))⟩
  · have e2 : Ev (fun k => spec_loPeriod_l k (W, W, 1)) (.inr ()) := e2
    have lo : Ev (fun k => spec_loPeriod k W) 0 := by
      obtain ⟨rl, w, h, cs, x, y, wy⟩ := W
      exact Ev.step (fun k => spec_loPeriod.eq k rl w h cs x y wy) (Ev.bind e2 (Ev.now _))
    obtain ⟨rl, w, h, cs, x, y, wy⟩ := W
    exact ⟨_, .inr ⟨rfl, g⟩, p1, Ev.step (fun k => spec_PeriodOf.eq k rl w h cs x y wy) (Ev.bind b (Ev.no rfl (Ev.bind lo (Ev.now _)))), fun m hm => Bool.noConfusion (congrArg Prod.snd hm), fun _ => ⟨Ev.step (fun k => impl_NeverVisited.eq k rl w h cs x y wy) (Ev.bind p1 (Ev.yes rfl (Ev.now _))), Ev.step (fun k => spec_NeverVisited.eq k rl w h cs x y wy) (Ev.bind b (Ev.no rfl (Ev.bind lo (Ev.yes rfl (Ev.now _)))))⟩⟩
theorem ant_ev {W : Wo} (H : OkO W) : ∃ r : Int × Bool, First (fun n => locO (runO n W) = locO W ∧ (runO n W).2.2.2.2.2.2 = W.2.2.2.2.2.2) 1 r ∧ Ev (fun k => impl_AntPeriod k W) r ∧ Ev (fun k => spec_AntPeriod k W) r := by
  obtain ⟨r, f1, e1⟩ := searchA_ev 1 (by omega) W W H H
  obtain ⟨s, f2, e2⟩ := loA_ev W H
  obtain rfl := f1.one f2
  have b := (goodW_ev W).isT H
  refine ⟨r, f1, ?_, ?_⟩
  · obtain ⟨rl, w, h, cs, x, y, wy⟩ := W
    exact Ev.step (fun k => impl_AntPeriod.eq k rl w h cs x y wy) (Ev.bind e1 (Ev.now _))
  · rcases f1 with ⟨n, rfl, _⟩ | ⟨rfl, _⟩
    · have e2 : Ev (fun k => spec_AntPeriod_l k (W, W, 1)) (.inl ((n : Int), true)) := e2
      obtain ⟨rl, w, h, cs, x, y, wy⟩ := W
      exact Ev.step (fun k => spec_AntPeriod.eq k rl w h cs x y wy) (Ev.bind b (Ev.no rfl (Ev.bind e2 (Ev.now _))))
    · have e2 : Ev (fun k => spec_AntPeriod_l k (W, W, 1)) (.inr ()) := e2
      obtain ⟨rl, w, h, cs, x, y, wy⟩ := W
      exact Ev.step (fun k => spec_AntPeriod.eq k rl w h cs x y wy) (Ev.bind b (Ev.no rfl (Ev.bind e2 (Ev.now _))))
theorem home_ev {W : Wo} (H : OkO W) : ∃ r : Int × Bool, First (fun n => locO (runO n W) = locO W) 1 r ∧ Ev (fun k => impl_FirstReturn k W) r ∧ Ev (fun k => spec_FirstReturn k W) r := by
  obtain ⟨r, f1, e1⟩ := searchR_ev 1 (by omega) W W H H
  obtain ⟨s, f2, e2⟩ := loR_ev W H
  obtain rfl := f1.one f2
  have b := (goodW_ev W).isT H
  refine ⟨r, f1, ?_, ?_⟩
  · obtain ⟨rl, w, h, cs, x, y, wy⟩ := W
    exact Ev.step (fun k => impl_FirstReturn.eq k rl w h cs x y wy) (Ev.bind e1 (Ev.now _))
  · rcases f1 with ⟨n, rfl, _⟩ | ⟨rfl, _⟩
    · have e2 : Ev (fun k => spec_FirstReturn_l k (W, W, 1)) (.inl ((n : Int), true)) := e2
      obtain ⟨rl, w, h, cs, x, y, wy⟩ := W
      exact Ev.step (fun k => spec_FirstReturn.eq k rl w h cs x y wy) (Ev.bind b (Ev.no rfl (Ev.bind e2 (Ev.now _))))
    · have e2 : Ev (fun k => spec_FirstReturn_l k (W, W, 1)) (.inr ()) := e2
      obtain ⟨rl, w, h, cs, x, y, wy⟩ := W
      exact Ev.step (fun k => spec_FirstReturn.eq k rl w h cs x y wy) (Ev.bind b (Ev.no rfl (Ev.bind e2 (Ev.now _))))
theorem betweenI_ev {W V : Wo} (H : OkO W) (HV : OkO V) : ∃ r : Int × Bool, First (fun n => runO n W = V) 0 r ∧ Ev (fun k => impl_StepsBetween k (W, V)) r := by
  obtain ⟨r, f1, e1⟩ := searchB_ev 0 (by omega) V W HV H
  have a := (isW_ev V (by have := okO_size HV; omega) (by have := okO_size HV; omega)).isT HV
  refine ⟨r, f1, ?_⟩
  obtain ⟨rl, w, h, cs, x, y, wy⟩ := W
  obtain ⟨vl, vw, vh, vc, vx, vy, vwy⟩ := V
  exact Ev.step (fun k => impl_StepsBetween.eq k rl w h cs x y wy vl vw vh vc vx vy vwy) (Ev.bind a (Ev.no rfl (Ev.bind e1 (Ev.now _))))
theorem between_ev (W V : Wo) (hr : W.1.size ≤ 1048576) (hc : W.2.2.2.1.size ≤ 1048576) (hr' : V.1.size ≤ 1048576) (hc' : V.2.2.2.1.size ≤ 1048576) :
    (OkO W ∧ OkO V → ∃ r : Int × Bool, First (fun n => runO n W = V) 0 r ∧ Ev (fun k => impl_StepsBetween k (W, V)) r ∧ Ev (fun k => spec_StepsBetween k (W, V)) r) ∧
    (¬ (OkO W ∧ OkO V) → Ev (fun k => impl_StepsBetween k (W, V)) (0, false) ∧ Ev (fun k => spec_StepsBetween k (W, V)) (0, false)) := by
  have a := isW_ev W hr hc
  have b := goodW_ev W
  have c := isW_ev V hr' hc'
  have d := goodW_ev V
  constructor
  · rintro ⟨H, HV⟩
    obtain ⟨r, f1, e1⟩ := betweenI_ev H HV
    obtain ⟨s, f2, e2⟩ := loB_ev V W H
    obtain rfl := f1.one f2
    have b := b.isT H
    have d := d.isT HV
    refine ⟨r, f1, e1, ?_⟩
    rcases f1 with ⟨n, rfl, _⟩ | ⟨rfl, _⟩
    · have e2 : Ev (fun k => spec_StepsBetween_l k (W, V, 0)) (.inl ((n : Int), true)) := e2
      obtain ⟨rl, w, h, cs, x, y, wy⟩ := W
      obtain ⟨vl, vw, vh, vc, vx, vy, vwy⟩ := V
      exact Ev.step (fun k => spec_StepsBetween.eq k rl w h cs x y wy vl vw vh vc vx vy vwy) (Ev.bind b (Ev.no rfl (Ev.bind d (Ev.no rfl (Ev.bind e2 (Ev.now _))))))
    · have e2 : Ev (fun k => spec_StepsBetween_l k (W, V, 0)) (.inr ()) := e2
      obtain ⟨rl, w, h, cs, x, y, wy⟩ := W
      obtain ⟨vl, vw, vh, vc, vx, vy, vwy⟩ := V
      exact Ev.step (fun k => spec_StepsBetween.eq k rl w h cs x y wy vl vw vh vc vx vy vwy) (Ev.bind b (Ev.no rfl (Ev.bind d (Ev.no rfl (Ev.bind e2 (Ev.now _))))))
  · intro hno
    by_cases HV : OkO V
    · have H : ¬ OkO W := fun q => hno ⟨q, HV⟩
      have a := a.isF H
      have b := b.isF H
      have c := c.isT HV
      obtain ⟨rl, w, h, cs, x, y, wy⟩ := W
      obtain ⟨vl, vw, vh, vc, vx, vy, vwy⟩ := V
      exact ⟨Ev.step (fun k => impl_StepsBetween.eq k rl w h cs x y wy vl vw vh vc vx vy vwy) (Ev.bind c (Ev.no rfl (Ev.bind (Ev.step (fun k => impl_search_4.eq k rl w h cs x y wy 0 vl vw vh vc vx vy vwy) (Ev.bind a (Ev.yes rfl (Ev.now _)))) (Ev.now _)))), Ev.step (fun k => spec_StepsBetween.eq k rl w h cs x y wy vl vw vh vc vx vy vwy) (Ev.bind b (Ev.yes rfl (Ev.now _)))⟩
    · have c := c.isF HV
      have d := d.isF HV
      by_cases H : OkO W
      · have b := b.isT H
        obtain ⟨rl, w, h, cs, x, y, wy⟩ := W
        obtain ⟨vl, vw, vh, vc, vx, vy, vwy⟩ := V
        exact ⟨Ev.step (fun k => impl_StepsBetween.eq k rl w h cs x y wy vl vw vh vc vx vy vwy) (Ev.bind c (Ev.yes rfl (Ev.now _))), Ev.step (fun k => spec_StepsBetween.eq k rl w h cs x y wy vl vw vh vc vx vy vwy) (Ev.bind b (Ev.no rfl (Ev.bind d (Ev.yes rfl (Ev.now _)))))⟩
      · have b := b.isF H
        obtain ⟨rl, w, h, cs, x, y, wy⟩ := W
        obtain ⟨vl, vw, vh, vc, vx, vy, vwy⟩ := V
        exact ⟨Ev.step (fun k => impl_StepsBetween.eq k rl w h cs x y wy vl vw vh vc vx vy vwy) (Ev.bind c (Ev.yes rfl (Ev.now _))), Ev.step (fun k => spec_StepsBetween.eq k rl w h cs x y wy vl vw vh vc vx vy vwy) (Ev.bind b (Ev.yes rfl (Ev.now _)))⟩
/-! ### Covers -/
def seenF : Nat → Wo → List (Int × Bool)
  | 0, _ => []
  | n + 1, W => mput ie (seenF n W) (locO (runO n W) : Int) true
theorem seenF_ok : ∀ (n : Nat) (W : Wo), Seen (trk n W) (seenF n W)
  | 0, W => ⟨List.Pairwise.nil, fun z => ⟨fun q => (List.not_mem_nil q).elim, fun ⟨i, hi, _⟩ => (List.not_mem_nil hi).elim⟩⟩
  | n + 1, W => by
    rw [trk_snoc]
    exact (seenF_ok n W).next (locO (runO n W)) true
theorem seenF_full {W : Wo} (H : OkO W) (n : Nat) : (seenF n W).length = cellsO W ↔ Cov W n := (seenF_ok n W).full (trk_lt n W H)
theorem cover_ev {W : Wo} (H : OkO W) : ∃ r : Int × Bool, First (Cov W) 1 r ∧ Ev (fun k => impl_CoverSteps k W) r ∧ Ev (fun k => spec_CoverSteps k W) r := by
  have hz : cellsO W ≤ 81 := (okO_size H).2
  have a := (isW_ev W (by have := okO_size H; omega) (by have := okO_size H; omega)).isT H
  have b := (goodW_ev W).isT H
  have I := Ev.search (L := fun k i => impl_CoverSteps_l k (runO i.toNat W, seenF i.toNat W, i + 1)) (n := 4000) (fun i => Cov W (i + 1)) (fun i => .inl ((i : Int) + 1, true)) (.inr ())
    (fun i hi hp r Hr => by
      have HV := run_ok i W H
      have st := (step_ev (runO i W) HV).1
      have at1 := atW_ev HV
      have hs := (run_sameO i W).2.2.2
      have Hr : Ev (fun k => impl_CoverSteps_l k (runO (i + 1) W, mput ie (seenF i W) (locO (runO i W) : Int) true, ((i + 1 : Nat) : Int) + 1)) r := Hr
      have hf : ¬ (mput ie (seenF i W) (locO (runO i W) : Int) true).length = cellsO W := fun q => hp ((seenF_full H (i + 1)).1 q)
      show Ev (fun k => impl_CoverSteps_l k (runO i W, seenF i W, (i : Int) + 1)) r
      rw [run_succ] at Hr
      rw [← hs] at hf
      generalize seenF i W = S at Hr hf ⊢
      generalize runO i W = V at Hr hf st at1 ⊢
      obtain ⟨rl, w, h, cs, x, y, wy⟩ := V
      refine Ev.step (fun k => impl_CoverSteps_l.eq k rl w h cs x y wy S _) (Ev.yes (decide_eq_true (by omega)) (Ev.bind at1 (Ev.no (beq_eq_false_iff_ne.2 fun q => hf ?_) (Ev.bind st ?_))))
      · have q : (((mput ie S (locO (rl, w, h, cs, x, y, wy) : Int) true).length : Nat) : Int) = ((cellsO (rl, w, h, cs, x, y, wy) : Nat) : Int) := q
        omega
      · rw [w64_of (n := (i : Int) + 1 + 1) (by omega) (by omega), show (i : Int) + 1 + 1 = ((i + 1 : Nat) : Int) + 1 by omega]
        exact Hr)
    (fun i hi hp => by
      have HV := run_ok i W H
      have at1 := atW_ev HV
      have hs := (run_sameO i W).2.2.2
      have hf : (mput ie (seenF i W) (locO (runO i W) : Int) true).length = cellsO W := (seenF_full H (i + 1)).2 hp
      show Ev (fun k => impl_CoverSteps_l k (runO i W, seenF i W, (i : Int) + 1)) _
      rw [← hs] at hf
      generalize seenF i W = S at hf ⊢
      generalize runO i W = V at hf at1 ⊢
      obtain ⟨rl, w, h, cs, x, y, wy⟩ := V
      refine Ev.step (fun k => impl_CoverSteps_l.eq k rl w h cs x y wy S _) (Ev.yes (decide_eq_true (by omega)) (Ev.bind at1 (Ev.yes (beq_iff_eq.2 ?_) (Ev.now _))))
      show (((mput ie S (locO (rl, w, h, cs, x, y, wy) : Int) true).length : Nat) : Int) = ((cellsO (rl, w, h, cs, x, y, wy) : Nat) : Int)
      omega)
    (by
      show Ev (fun k => impl_CoverSteps_l k (runO 4000 W, seenF 4000 W, 4001)) _
      generalize seenF 4000 W = S
      generalize runO 4000 W = V
      obtain ⟨rl, w, h, cs, x, y, wy⟩ := V
      exact Ev.step (fun k => impl_CoverSteps_l.eq k rl w h cs x y wy S _) (Ev.no rfl (Ev.now _))) 4000 0 rfl
  have Sp := Ev.search (L := fun k i => spec_CoverSteps_l k (runO i.toNat W, (List.range (cellsO W)).map (fun j => (trk i.toNat W).contains j), (unF (cellsO W) (trk i.toNat W) : Int), i + 1)) (n := 4000) (fun i => Cov W (i + 1)) (fun i => .inl ((i : Int) + 1, true)) (.inr ())
    (fun i hi hp r Hr => by
      have HV := run_ok i W H
      have st := (step_ev (runO i W) HV).2.1
      obtain ⟨l1, l2, l3, l4⟩ := loc_facts HV
      rw [(run_sameO i W).2.2.2] at l1
      have Hr : Ev (fun k => spec_CoverSteps_l k (runO (i + 1) W, (List.range (cellsO W)).map (fun j => (trk (i + 1) W).contains j), (unF (cellsO W) (trk (i + 1) W) : Int), ((i + 1 : Nat) : Int) + 1)) r := Hr
      have hu : unF (cellsO W) (trk (i + 1) W) ≠ 0 := fun q => hp (unF_zero.1 q)
      rw [trk_snoc] at Hr hu
      show Ev (fun k => spec_CoverSteps_l k (runO i W, (List.range (cellsO W)).map (fun j => (trk i W).contains j), (unF (cellsO W) (trk i W) : Int), (i : Int) + 1)) r
      rw [run_succ] at Hr
      have e9 : w64 ((i : Int) + 1 + 1) = ((i + 1 : Nat) : Int) + 1 := by rw [w64_of (by omega) (by omega)]; omega
      have hub : unF (cellsO W) (trk i W) ≤ cellsO W := by
        unfold unF
        have := List.length_filter_le (fun j => !((trk i W).contains j)) (List.range (cellsO W))
        rwa [List.length_range] at this
      revert Hr hu hub
      generalize trk i W = T
      intro Hr hu hub
      have hin : inB (locO (runO i W) : Int) ((List.range (cellsO W)).map (fun j => T.contains j)).length = true := inB_nat (by rw [rg_len]; exact l1)
      have hg := rg_get (fun j => T.contains j) l1
      have hset := rg_set (N := cellsO W) (fun j => T.contains j) (locO (runO i W)) true
      generalize runO i W = V at *
      obtain ⟨rl, w, h, cs, x, y, wy⟩ := V
      simp only at l4
      refine Ev.step (fun k => spec_CoverSteps_l.eq k rl w h cs x y wy _ _ _) (Ev.yes (decide_eq_true (by omega)) ?_)
      rw [l4]
      refine Ev.yes hin ?_
      rw [Int.toNat_natCast, hg, e9]
      by_cases hm : locO (rl, w, h, cs, x, y, wy) ∈ T
      · have e1 := unF_old (N := cellsO W) hm
        have e2 : ((List.range (cellsO W)).map fun j => (T ++ [locO (rl, w, h, cs, x, y, wy)]).contains j) = (List.range (cellsO W)).map fun j => T.contains j := rg_congr fun j _ => by
          rw [List.contains_append]
          by_cases e : j = locO (rl, w, h, cs, x, y, wy)
          · subst e
            simp [hm]
          · simp [e]
        rw [e1, e2] at Hr
        rw [e1] at hu
        exact Ev.no (by simp [hm]) (Ev.no (beq_eq_false_iff_ne.2 (by omega)) (Ev.bind st Hr))
      · have e1 := unF_new l1 hm
        have e2 : ((List.range (cellsO W)).map fun j => (T ++ [locO (rl, w, h, cs, x, y, wy)]).contains j) = ((List.range (cellsO W)).map fun j => T.contains j).set (locO (rl, w, h, cs, x, y, wy)) true := by
          rw [hset]
          refine rg_congr fun j _ => ?_
          rw [List.contains_append]
          by_cases e : j = locO (rl, w, h, cs, x, y, wy)
          · rw [if_pos e, e]
            simp
          · rw [if_neg e]
            simp [e]
        have e3 : w64 ((unF (cellsO W) T : Int) - 1) = (unF (cellsO W) (T ++ [locO (rl, w, h, cs, x, y, wy)]) : Int) := by rw [w64_of (by omega) (by omega)]; omega
        rw [e2, ← e3] at Hr
        exact Ev.yes (by simp [hm]) (Ev.yes hin (Ev.no (beq_eq_false_iff_ne.2 (by rw [e3]; omega)) (Ev.bind st Hr))))
    (fun i hi hp => by
      have HV := run_ok i W H
      obtain ⟨l1, l2, l3, l4⟩ := loc_facts HV
      rw [(run_sameO i W).2.2.2] at l1
      have hu : unF (cellsO W) (trk (i + 1) W) = 0 := unF_zero.2 hp
      rw [trk_snoc] at hu
      show Ev (fun k => spec_CoverSteps_l k (runO i W, (List.range (cellsO W)).map (fun j => (trk i W).contains j), (unF (cellsO W) (trk i W) : Int), (i : Int) + 1)) _
      have hub : unF (cellsO W) (trk i W) ≤ cellsO W := by
        unfold unF
        have := List.length_filter_le (fun j => !((trk i W).contains j)) (List.range (cellsO W))
        rwa [List.length_range] at this
      revert hu hub
      generalize trk i W = T
      intro hu hub
      have hin : inB (locO (runO i W) : Int) ((List.range (cellsO W)).map (fun j => T.contains j)).length = true := inB_nat (by rw [rg_len]; exact l1)
      have hg := rg_get (fun j => T.contains j) l1
      generalize runO i W = V at *
      obtain ⟨rl, w, h, cs, x, y, wy⟩ := V
      simp only at l4
      refine Ev.step (fun k => spec_CoverSteps_l.eq k rl w h cs x y wy _ _ _) (Ev.yes (decide_eq_true (by omega)) ?_)
      rw [l4]
      refine Ev.yes hin ?_
      rw [Int.toNat_natCast, hg]
      by_cases hm : locO (rl, w, h, cs, x, y, wy) ∈ T
      · have e1 := unF_old (N := cellsO W) hm
        rw [e1] at hu
        exact Ev.no (by simp [hm]) (Ev.yes (beq_iff_eq.2 (by omega)) (Ev.now _))
      · have e1 := unF_new l1 hm
        exact Ev.yes (by simp [hm]) (Ev.yes hin (Ev.yes (beq_iff_eq.2 (by rw [w64_of (by omega) (by omega)]; omega)) (Ev.now _))))
    (by
      show Ev (fun k => spec_CoverSteps_l k (runO 4000 W, _, _, 4001)) _
      generalize runO 4000 W = V
      obtain ⟨rl, w, h, cs, x, y, wy⟩ := V
      exact Ev.step (fun k => spec_CoverSteps_l.eq k rl w h cs x y wy _ _ _) (Ev.no rfl (Ev.now _))) 4000 0 rfl
  have st0 : ((List.range (cellsO W)).map fun j => (([] : List Nat)).contains j) = List.replicate (cellsO W) false := by
    rw [rg_const]
    exact rg_congr fun j _ => by simp
  have l3 := (loc_facts H).2.2.1
  have key : ∀ s : Sum (Int × Bool) Unit, ∀ r : Int × Bool, (s = .inl r ∨ (s = .inr () ∧ r = (0, false))) → Ev (fun k => impl_CoverSteps_l k (W, [], 1)) s → Ev (fun k => spec_CoverSteps_l k (W, List.replicate (cellsO W) false, (cellsO W : Int), 1)) s → Ev (fun k => impl_CoverSteps k W) r ∧ Ev (fun k => spec_CoverSteps k W) r := by
    intro s r hs q1 q2
    obtain ⟨rl, w, h, cs, x, y, wy⟩ := W
    have e64 : w64 (w * h) = (cellsO (rl, w, h, cs, x, y, wy) : Int) := by
      have l3 : ((cellsO (rl, w, h, cs, x, y, wy) : Nat) : Int) = w * h := l3
      rw [w64_of (by omega) (by omega)]
      exact l3.symm
    have fin : ∀ {g : Nat → Option (Sum (Int × Bool) Unit)}, Ev g s → Ev (fun k => (g k).bind fun r2 => r2.elim (fun r3 => some r3) (fun r4 => some (0, false))) r := fun hg => by
      rcases hs with rfl | ⟨rfl, rfl⟩
      · exact Ev.bind hg (Ev.now _)
      · exact Ev.bind hg (Ev.now _)
    constructor
    · exact Ev.step (fun k => impl_CoverSteps.eq k rl w h cs x y wy) (Ev.bind a (Ev.no rfl (fin q1)))
    · refine Ev.step (fun k => spec_CoverSteps.eq k rl w h cs x y wy) (Ev.bind b (Ev.no rfl ?_))
      rw [e64, Int.toNat_natCast, List.length_replicate]
      refine Ev.yes ?_ (fin q2)
      rw [decide_eq_true (by omega), decide_eq_true (by omega), fits_of (by omega)]
      rfl
  have cast2 : ∀ s, Ev (fun k => spec_CoverSteps_l k (runO 0 W, (List.range (cellsO W)).map (fun j => (trk 0 W).contains j), (unF (cellsO W) (trk 0 W) : Int), ((0 : Nat) : Int) + 1)) s → Ev (fun k => spec_CoverSteps_l k (W, List.replicate (cellsO W) false, (cellsO W : Int), 1)) s := fun s hs => by
    have hs : Ev (fun k => spec_CoverSteps_l k (W, (List.range (cellsO W)).map (fun j => (([] : List Nat)).contains j), (unF (cellsO W) [] : Int), 1)) s := hs
    rwa [st0, unF_nil] at hs
  rcases I with ⟨i1, i2⟩ | ⟨i, _, hi, hp, hm, i4⟩
  · rcases Sp with ⟨s1, s2⟩ | ⟨j, _, hj, hq, _, s4⟩
    · exact ⟨(0, false), .inr ⟨rfl, fun j h1 h2 q => by
        obtain ⟨m, rfl⟩ : ∃ m, j = m + 1 := ⟨j - 1, by omega⟩
        exact i1 m (by omega) (by omega) q⟩, key _ _ (.inr ⟨rfl, rfl⟩) i2 (cast2 _ s2)⟩
    · exact absurd hq (i1 j (by omega) hj)
  · rcases Sp with ⟨s1, s2⟩ | ⟨j, _, hj, hq, hm2, s4⟩
    · exact absurd hp (s1 i (by omega) hi)
    · have e1 : ¬ i < j := fun q => hm2 i (by omega) q hp
      have e2 : ¬ j < i := fun q => hm j (by omega) q hq
      have e : j = i := by omega
      subst e
      exact ⟨(((j + 1 : Nat) : Int), true), .inl ⟨j + 1, rfl, by omega, by omega, hp, fun m h1 h2 q => by
        obtain ⟨m, rfl⟩ : ∃ m', m = m' + 1 := ⟨m - 1, by omega⟩
        exact hm m (by omega) (by omega) q⟩, key _ _ (.inl rfl) i4 (cast2 _ s4)⟩
/-! ### The cell visited most -/
theorem best_ex (N : Nat) (g : Nat → Int) : ∀ n : Nat, 0 < n → n ≤ N → ∃ b, b < n ∧ (∀ j, j < n → g j ≤ g b) ∧ ∀ j, j < b → g j < g b
  | 0, h, _ => by omega
  | 1, _, _ => by
    refine ⟨0, by omega, fun j hj => ?_, fun j hj => by omega⟩
    obtain rfl : j = 0 := by omega
    exact Int.le_refl _
  | n + 2, _, h => by
    obtain ⟨b, b1, b2, b3⟩ := best_ex N g (n + 1) (by omega) (by omega)
    by_cases hg : g b < g (n + 1)
    · exact ⟨n + 1, by omega, fun j hj => by
        by_cases e : j = n + 1
        · rw [e]; exact Int.le_refl _
        · have := b2 j (by omega); omega, fun j hj => by have := b2 j hj; omega⟩
    · exact ⟨b, by omega, fun j hj => by
        by_cases e : j = n + 1
        · rw [e]; omega
        · exact b2 j (by omega), b3⟩
theorem most_ev (W : Wo) (hr : W.1.size ≤ 1048576) (hc : W.2.2.2.1.size ≤ 1048576) (n : Int) : (OkO W ∧ (1 ≤ n ∧ n ≤ 3000) → ∃ b, BestOf (cellsO W) (vF n.toNat W) b ∧ Ev (fun k => impl_MostVisited k (W, n)) ((b : Int), true) ∧ Ev (fun k => spec_MostVisited k (W, n)) ((b : Int), true)) ∧
    (¬ (OkO W ∧ (1 ≤ n ∧ n ≤ 3000)) → Ev (fun k => impl_MostVisited k (W, n)) (0, false) ∧ Ev (fun k => spec_MostVisited k (W, n)) (0, false)) := by
  have a := isGoing_ev W hr hc n
  have b := woSteps_ev W hr hc n
  constructor
  · rintro ⟨H, hn⟩
    have a := a.isT ⟨H, by omega⟩
    have b := b.isT ⟨H, by omega⟩
    obtain ⟨m, rfl⟩ := Int.eq_ofNat_of_zero_le (show 0 ≤ n by omega)
    have v1 := visits_ev H m (by omega)
    have v2 := loVisits_ev H m (by omega)
    have hz : cellsO W ≤ 81 := (okO_size H).2
    have h0 := (loc_facts H).1
    obtain ⟨N, hN⟩ : ∃ N, cellsO W = N := ⟨_, rfl⟩
    rw [hN] at v1 v2 hz h0 ⊢
    show ∃ c, BestOf N (vF m W) c ∧ _
    generalize vF m W = g at v1 v2 ⊢
    obtain ⟨c, hB⟩ : ∃ c, BestOf N g c := best_ex N g N (by omega) (Nat.le_refl _)
    obtain ⟨c1, c2, c3⟩ := id hB
    have len : ((List.range N).map g).length = N := rg_len N g
    -- the greatest
    have mx : ∀ (j i : Nat) (M : Int), i + j = N → (∃ t, t < i ∧ g t = M) → (∀ t, t < i → g t ≤ M) → Ev (fun k => slices_Max_l k ((List.range N).map g, M, (i : Int))) (g c) := by
      intro j
      induction j with
      | zero =>
        intro i M hi ⟨t, t1, t2⟩ hM
        have e : M = g c := by
          have := hM c (by omega)
          have := c2 t (by omega)
          omega
        exact Ev.step (fun k => slices_Max_l.eq k _ M _) (Ev.no (by rw [len]; exact not_lt_nat (by omega)) (Ev.now' e))
      | succ j ih =>
        intro i M hi ⟨t, t1, t2⟩ hM
        refine Ev.step (fun k => slices_Max_l.eq k _ M _) (Ev.yes (by rw [len]; exact lt_nat (by omega)) (Ev.yes (inB_nat (by omega)) ?_))
        rw [Int.toNat_natCast, rg_get g (by omega), w64_succ (by omega)]
        by_cases hg : g i > M
        · rw [if_pos hg]
          exact ih (i + 1) (g i) (by omega) ⟨i, by omega, rfl⟩ fun t ht => by
            by_cases e : t = i
            · rw [e]; exact Int.le_refl _
            · have := hM t (by omega); omega
        · rw [if_neg hg]
          exact ih (i + 1) M (by omega) ⟨t, by omega, t2⟩ fun t ht => by
            by_cases e : t = i
            · rw [e]; omega
            · exact hM t (by omega)
    have mx0 : Ev (fun k => slices_Max k ((List.range N).map g)) (g c) := by
      refine Ev.step (fun k => slices_Max.eq k _) (Ev.no (decide_eq_false (by rw [len]; omega)) (Ev.yes (inB_of (by omega) (by rw [len]; omega)) ?_))
      rw [rg_get g (by omega)]
      have h1 : ∀ t, t < 1 → g t ≤ g 0 := fun t ht => by
        obtain rfl : t = 0 := by omega
        exact Int.le_refl _
      exact Ev.bind (mx (N - 1) 1 (g 0) (by omega) ⟨0, by omega, rfl⟩ h1) (Ev.now _)
    -- its first index
    have ix : Ev (fun k => slices_Index k ((List.range N).map g, g c)) (c : Int) := by
      have srch := Ev.search (L := fun k i => slices_Index_l k ((List.range N).map g, g c, (((List.range N).map g).length : Int), i)) (n := N) (fun i => g i = g c) (fun i => .inl (i : Int)) (.inr ())
        (fun i hi hp r Hr => by
          refine Ev.step (fun k => slices_Index_l.eq k _ _ _ _) (Ev.yes (by rw [len]; exact lt_nat hi) (Ev.yes (inB_nat (by omega)) ?_))
          rw [Int.toNat_natCast, rg_get g hi, w64_succ (by omega)]
          exact Ev.no (beq_eq_false_iff_ne.2 fun q => hp q.symm) Hr)
        (fun i hi hp => by
          refine Ev.step (fun k => slices_Index_l.eq k _ _ _ _) (Ev.yes (by rw [len]; exact lt_nat hi) (Ev.yes (inB_nat (by omega)) ?_))
          rw [Int.toNat_natCast, rg_get g hi]
          exact Ev.yes (beq_iff_eq.2 hp.symm) (Ev.now _))
        (Ev.step (fun k => slices_Index_l.eq k _ _ _ _) (Ev.no (by rw [len]; exact not_lt_nat (by omega)) (Ev.now _))) N 0 (by omega)
      rcases srch with ⟨s1, _⟩ | ⟨j, _, hj, hp, hm, s4⟩
      · exact absurd rfl (s1 c (by omega) c1)
      · have e : j = c := by
          have h1 : ¬ c < j := fun q => hm c (by omega) q rfl
          have h2 : ¬ j < c := fun q => by have := c3 j q; omega
          omega
        subst e
        exact Ev.step (fun k => slices_Index.eq k _ _) (Ev.bind s4 (Ev.now _))
    -- the reference's way
    have bs : ∀ (j i t : Nat), i + j = N → t < N → t ≤ i → (∀ s, s < i → g s ≤ g t) → (∀ s, s < t → g s < g t) → Ev (fun k => spec_MostVisited_l k ((t : Int), (List.range N).map g, (), (N : Int), (i : Int))) (c : Int) := by
      intro j
      induction j with
      | zero =>
        intro i t hi ht _ h1 h2
        have e : t = c := BestOf.one ⟨ht, fun s hs => h1 s (by omega), h2⟩ hB
        exact Ev.step (fun k => spec_MostVisited_l.eq k _ _ _ _) (Ev.no (not_lt_nat (by omega)) (Ev.now' (by rw [e])))
      | succ j ih =>
        intro i t hi ht hti h1 h2
        refine Ev.step (fun k => spec_MostVisited_l.eq k _ _ _ _) (Ev.yes (lt_nat (by omega)) (Ev.yes (inB_nat (by omega)) (Ev.yes (inB_nat (by omega)) ?_)))
        rw [Int.toNat_natCast, Int.toNat_natCast, rg_get g (by omega), rg_get g ht, w64_succ (by omega)]
        by_cases hg : g i > g t
        · exact Ev.yes (decide_eq_true hg) (ih (i + 1) i (by omega) (by omega) (by omega) (fun s hs => by
            by_cases e : s = i
            · rw [e]; exact Int.le_refl _
            · have := h1 s (by omega); omega) fun s hs => by have := h1 s hs; omega)
        · exact Ev.no (decide_eq_false hg) (ih (i + 1) t (by omega) ht (by omega) (fun s hs => by
            by_cases e : s = i
            · rw [e]; omega
            · exact h1 s (by omega)) h2)
    have bs0 : Ev (fun k => spec_MostVisited_l k (0, (List.range N).map g, (), (((List.range N).map g).length : Int), 0)) (c : Int) := by
      rw [len]
      exact bs N 0 0 (by omega) (by omega) (by omega) (fun s hs => by omega) (fun s hs => by omega)
    have n0 : ((m : Int) == 0) = false := beq_eq_false_iff_ne.2 (by omega)
    refine ⟨c, hB, ?_⟩
    obtain ⟨rl, w, h, cs, x, y, wy⟩ := W
    exact ⟨Ev.step (fun k => impl_MostVisited.eq k rl w h cs x y wy m) (Ev.bind a (Ev.no rfl (Ev.no n0 (Ev.bind v1 (Ev.bind mx0 (Ev.bind ix (Ev.now _))))))), Ev.step (fun k => spec_MostVisited.eq k rl w h cs x y wy m) (Ev.bind b (Ev.no rfl (Ev.no (decide_eq_false (by omega)) (Ev.bind v2 (Ev.bind bs0 (Ev.now _))))))⟩
  · intro hno
    by_cases hg : OkO W ∧ (0 ≤ n ∧ n ≤ 3000)
    · have a := a.isT hg
      have b := b.isT hg
      have e : n = 0 := by
        have : ¬ (1 ≤ n ∧ n ≤ 3000) := fun q => hno ⟨hg.1, q⟩
        omega
      obtain ⟨rl, w, h, cs, x, y, wy⟩ := W
      exact ⟨Ev.step (fun k => impl_MostVisited.eq k rl w h cs x y wy n) (Ev.bind a (Ev.no rfl (Ev.yes (beq_iff_eq.2 e) (Ev.now _)))), Ev.step (fun k => spec_MostVisited.eq k rl w h cs x y wy n) (Ev.bind b (Ev.no rfl (Ev.yes (decide_eq_true (by omega)) (Ev.now _))))⟩
    · have a := a.isF hg
      have b := b.isF hg
      obtain ⟨rl, w, h, cs, x, y, wy⟩ := W
      exact ⟨Ev.step (fun k => impl_MostVisited.eq k rl w h cs x y wy n) (Ev.bind a (Ev.yes rfl (Ev.now _))), Ev.step (fun k => spec_MostVisited.eq k rl w h cs x y wy n) (Ev.bind b (Ev.yes rfl (Ev.now _)))⟩
/-! ### The law's helpers -/
theorem kHas_ev (a : List Int) (hl : a.length ≤ 1048576) (v : Int) : EvB (fun k => laws_kHas k (a, v)) (v ∈ a) := by
  have srch := Ev.search (L := fun k i => laws_kHas_l k (v, a, (a.length : Int), i)) (n := a.length) (fun i => a[i]? = some v) (fun i => .inl true) (.inr ())
    (fun i hi hp r H => by
      obtain ⟨x, hx⟩ := nat_list (l := a) (i := i) hi
      refine Ev.step (fun k => laws_kHas_l.eq k v a (a.length : Int) (i : Int)) (Ev.yes (lt_nat hi) (Ev.yes (inB_nat hi) ?_))
      rw [Int.toNat_natCast, getD_at hx, w64_succ (by omega)]
      exact Ev.no (beq_eq_false_iff_ne.2 fun e => hp (by rw [hx, e])) H)
    (fun i hi hp => by
      refine Ev.step (fun k => laws_kHas_l.eq k v a (a.length : Int) (i : Int)) (Ev.yes (lt_nat hi) (Ev.yes (inB_nat hi) ?_))
      rw [Int.toNat_natCast, getD_at hp]
      exact Ev.yes (beq_iff_eq.2 rfl) (Ev.now _))
    (Ev.step (fun k => laws_kHas_l.eq k v a (a.length : Int) (a.length : Int)) (Ev.no (not_lt_nat (Nat.lt_irrefl _)) (Ev.now _))) a.length 0 (by omega)
  rcases srch with ⟨h1, h2⟩ | ⟨j, _, hj, h3, _, h4⟩
  · refine ⟨false, Ev.step (fun k => laws_kHas.eq k a v) (Ev.bind h2 (Ev.now _)), nofun, fun q => ?_⟩
    obtain ⟨i, hi⟩ := List.mem_iff_getElem?.1 q
    exact absurd hi (h1 i (by omega) (List.getElem?_eq_some_iff.1 hi).1)
  · exact ⟨true, Ev.step (fun k => laws_kHas.eq k a v) (Ev.bind h4 (Ev.now _)), fun _ => List.mem_of_getElem? h3, fun _ => rfl⟩

theorem countI_l_ev (rl : ByteArray) (w h : Int) (cs : ByteArray) (x y wy : Int) (hr : rl.size ≤ 6) (hz : cs.size ≤ 81) (hcs : CellsOk (rl.size : Int) cs) : ∀ (m i : Nat) (out : List Int), i + m = cs.size → out.length = rl.size → (∀ z ∈ out, 0 ≤ z ∧ z ≤ (i : Int)) →
    ∃ R : List Int, R.length = rl.size ∧ (∀ z ∈ R, 0 ≤ z ∧ z ≤ (cs.size : Int)) ∧ R.sum = out.sum + (m : Int) ∧ wsum 0 R = wsum 0 out + dsum (cs.data.toList.drop i) ∧ Ev (fun k => impl_CountColours_l k (out, bytesOf cs, (cs.size : Int), (i : Int))) R
  | 0, i, out, hi, ho, hb => by
    refine ⟨out, ho, fun z hz' => by have := hb z hz'; omega, by omega, ?_, Ev.step (fun k => impl_CountColours_l.eq k out (bytesOf cs) (cs.size : Int) (i : Int)) (Ev.no (not_lt_nat (by omega)) (Ev.now _))⟩
    rw [List.drop_eq_nil_of_le (by rw [← size_list]; omega)]
    show _ = _ + (0 : Int)
    omega
  | m + 1, i, out, hi, ho, hb => by
    obtain ⟨c, hc⟩ := byte_at (cs := cs) (i := i) (by omega)
    obtain ⟨c48, cti⟩ := hcs c (List.mem_of_getElem? hc)
    have hclt := c.toNat_lt
    have hbl : (bytesOf cs).length = cs.size := by unfold bytesOf; rw [List.length_map, ← size_list]
    have hbg : (bytesOf cs).getD i default = (c.toNat : Int) := getD_at (by unfold bytesOf; rw [List.getElem?_map, hc]; rfl)
    have e8 : w8 ((c.toNat : Int) - 48) = (c.toNat : Int) - 48 := w8_of (by omega) (by omega)
    obtain ⟨v, hv⟩ := nat_list (l := out) (i := ((c.toNat : Int) - 48).toNat) (by omega)
    have hvb := hb v (List.mem_of_getElem? hv)
    have ev : w64 (out.getD ((c.toNat : Int) - 48).toNat default + 1) = v + 1 := by rw [getD_at hv, w64_of (by omega) (by omega)]
    have hin : inB ((c.toNat : Int) - 48) out.length = true := inB_of (by omega) (by omega)
    obtain ⟨R, r1, r2, r3, r4, r5⟩ := countI_l_ev rl w h cs x y wy hr hz hcs m (i + 1) (out.set ((c.toNat : Int) - 48).toNat (v + 1)) (by omega) (by rw [List.length_set]; exact ho) (fun z hz' => by
      rcases List.mem_or_eq_of_mem_set hz' with h | h
      · have := hb z h
        omega
      · omega)
    refine ⟨R, r1, r2, ?_, ?_, ?_⟩
    · rw [r3, sum_set out _ v (v + 1) hv]
      omega
    · rw [r4, wsum_set out 0 _ v (v + 1) hv]
      obtain ⟨hlt, he⟩ := List.getElem?_eq_some_iff.1 hc
      have : dsum (cs.data.toList.drop i) = ((c.toNat : Int) - 48) + dsum (cs.data.toList.drop (i + 1)) := by
        rw [List.drop_eq_getElem_cons hlt, he]
        unfold dsum
        rw [List.map_cons, List.sum_cons]
      rw [this, show v + 1 - v = 1 by omega, Int.mul_one]
      omega
    · refine Ev.step (fun k => impl_CountColours_l.eq k out (bytesOf cs) (cs.size : Int) (i : Int)) (Ev.yes (lt_nat (by omega)) (Ev.yes (inB_nat (by omega)) ?_))
      rw [Int.toNat_natCast, hbg, e8, ev, w64_succ (by omega)]
      exact Ev.yes hin (Ev.yes hin r5)
theorem countI_ev : ∀ W : Wo, OkO W → ∃ R : List Int, R.length = W.1.size ∧ (∀ z ∈ R, 0 ≤ z ∧ z ≤ 81) ∧ R.sum = W.2.1 * W.2.2.1 ∧ wsum 0 R = dsum W.2.2.2.1.data.toList ∧ Ev (fun k => impl_CountColours k W) (R, true)
  | (rl, w, h, cs, x, y, wy), H => by
    obtain ⟨z1, z2⟩ := okO_size H
    have a := (isW_ev (rl, w, h, cs, x, y, wy) (by simp only at z1 ⊢; omega) (by simp only at z2 ⊢; omega)).isT H
    obtain ⟨hR, hw, hh, hs, hcs, hx, hy, hwy⟩ : WorldOk rl w h cs x y wy := H
    simp only at z1 z2
    obtain ⟨R, r1, r2, r3, r4, r5⟩ := countI_l_ev rl w h cs x y wy z1 z2 hcs cs.size 0 (List.replicate rl.size 0) (by omega) (by simp) (fun z hz => by rw [List.eq_of_mem_replicate hz]; omega)
    have hbl : (bytesOf cs).length = cs.size := by unfold bytesOf; rw [List.length_map, ← size_list]
    have hg : (((decide ((0 : Int) ≤ (rl.size : Int))) && (decide ((rl.size : Int) ≤ (rl.size : Int)))) && (fits (rl.size : Int).toNat 8)) = true := by
      rw [decide_eq_true (by omega), decide_eq_true (by omega), fits_of (by omega)]
      rfl
    refine ⟨R, r1, fun z hz => by have := r2 z hz; omega, ?_, ?_, ?_⟩
    · show R.sum = w * h
      rw [r3, sum_zero]
      omega
    · rw [r4, wsum_zero, List.drop_zero, Int.zero_add]
    · refine Ev.step (fun k => impl_CountColours.eq k rl w h cs x y wy) (Ev.bind a (Ev.no rfl (Ev.yes hg ?_)))
      rw [Int.toNat_natCast, hbl]
      exact Ev.bind r5 (Ev.now _)
theorem colourSumI_l_ev (R : List Int) (hl : R.length ≤ 6) (hb : ∀ z ∈ R, 0 ≤ z ∧ z ≤ 81) : ∀ (m i : Nat) (s : Int), i + m = R.length → 0 ≤ s ∧ s ≤ 1000 * (i : Int) → Ev (fun k => impl_ColourSum_l k (R, s, (), (R.length : Int), (i : Int))) (R, s + wsum (i : Int) (R.drop i))
  | 0, i, s, hi, hs => by
    rw [List.drop_eq_nil_of_le (by omega)]
    show Ev _ (R, s + 0)
    rw [Int.add_zero]
    exact Ev.step (fun k => impl_ColourSum_l.eq k R s _ (i : Int)) (Ev.no (not_lt_nat (by omega)) (Ev.now _))
  | m + 1, i, s, hi, hs => by
    obtain ⟨z, hz⟩ := nat_list (l := R) (i := i) (by omega)
    have hzb := hb z (List.mem_of_getElem? hz)
    have hmul : 0 ≤ (i : Int) * z ∧ (i : Int) * z ≤ 1000 := by
      have h1 := Int.mul_nonneg (show 0 ≤ (i : Int) by omega) hzb.1
      have h2 := Int.mul_le_mul (show (i : Int) ≤ 6 by omega) hzb.2 hzb.1 (by omega)
      omega
    have e1 : w64 ((i : Int) * z) = (i : Int) * z := w64_of (by omega) (by omega)
    have e2 : w64 (s + (i : Int) * z) = s + (i : Int) * z := w64_of (by omega) (by omega)
    have ih := colourSumI_l_ev R hl hb m (i + 1) (s + (i : Int) * z) (by omega) (by omega)
    obtain ⟨hlt, he⟩ := List.getElem?_eq_some_iff.1 hz
    refine Ev.step (fun k => impl_ColourSum_l.eq k R s _ (i : Int)) (Ev.yes (lt_nat (by omega)) (Ev.yes (inB_nat (by omega)) ?_))
    rw [Int.toNat_natCast, getD_at hz, e1, e2, w64_succ (by omega), List.drop_eq_getElem_cons hlt, he]
    show Ev _ (R, s + ((i : Int) * z + wsum ((i : Int) + 1) (R.drop (i + 1))))
    rw [← Int.add_assoc]
    exact ih
theorem dsum_nonneg : ∀ l : List UInt8, (∀ c ∈ l, 48 ≤ c.toNat) → 0 ≤ dsum l
  | [], _ => Int.le_refl _
  | c :: l, h => by
    have h1 := dsum_nonneg l fun d hd => h d (List.mem_cons_of_mem _ hd)
    have h2 := h c (by simp)
    unfold dsum at h1 ⊢
    rw [List.map_cons, List.sum_cons]
    omega
theorem colourSumI_ev (W : Wo) (H : OkO W) : Ev (fun k => impl_ColourSum k W) (dsum W.2.2.2.1.data.toList % (W.1.size : Int), true) := by
  obtain ⟨R, r1, r2, r3, r4, r5⟩ := countI_ev W H
  obtain ⟨z1, z2⟩ := okO_size H
  have hR := H.1.1
  have hn := dsum_nonneg W.2.2.2.1.data.toList fun c hc => (H.2.2.2.2.1 c hc).1
  have q := colourSumI_l_ev R (by omega) r2 R.length 0 0 (by omega) (by omega)
  rw [List.drop_zero, Int.zero_add] at q
  have q : Ev (fun k => impl_ColourSum_l k (R, 0, (), (R.length : Int), 0)) (R, wsum 0 R) := q
  have hne : ((R.length : Int) != 0) = true := by rw [bne_iff_ne]; omega
  have e : (wsum 0 R).tmod (R.length : Int) = dsum W.2.2.2.1.data.toList % (W.1.size : Int) := by rw [r4, r1, Int.tmod_eq_emod_of_nonneg hn]
  obtain ⟨rl, w, h, cs, x, y, wy⟩ := W
  exact Ev.step (fun k => impl_ColourSum.eq k rl w h cs x y wy) (Ev.bind r5 (Ev.no rfl (Ev.bind q (Ev.yes hne (Ev.now' (by rw [e]))))))
/-! ### The draws -/
theorem small_ev (n : Nat) (c : CurT) (H : CurOk n c) (hn : n + 3000 ≤ 1099511627776) : ∃ W c', Ev (fun k => spec_l1Cur_small k c) (W, c') ∧ (W.1.size ≤ 1000 ∧ W.2.2.2.1.size ≤ 1000) ∧ CurOk (n + 500) c' := by
  obtain ⟨b, c1, e1, H1⟩ := one_ev n c H (by omega) 8
  obtain ⟨code, at_, seed⟩ := c
  cases b with
  | true =>
    obtain ⟨W, c2, e2, hz, H2⟩ := world_ev _ c1 H1 (by omega)
    exact ⟨W, c2, Ev.step (fun k => spec_l1Cur_small.eq k code at_ seed) (Ev.bind e1 (Ev.yes rfl (Ev.bind e2 (Ev.now _)))), hz, H2.mono (by omega) (by omega)⟩
  | false =>
    obtain ⟨W, c2, e2, hW, _, H2⟩ := sureWorld_ev _ c1 H1 (by omega) 3 (by omega)
    have := okO_size hW
    exact ⟨W, c2, Ev.step (fun k => spec_l1Cur_small.eq k code at_ seed) (Ev.bind e1 (Ev.no rfl (Ev.bind e2 (Ev.now _)))), by omega, H2.mono (by omega) (by omega)⟩
theorem goOn_ev (W : Wo) : ∀ (m : Nat) (V : Wo), OkO V → m ≤ 1000 → Ev (fun k => spec_DrawStepsBetween_l k (zeroO, zeroO, W, V, (m : Int))) (zeroO, zeroO, W, runO m V)
  | 0, V, H, hm => by
    obtain ⟨rl, w, h, cs, x, y, wy⟩ := W
    obtain ⟨vl, vw, vh, vc, vx, vy, vwy⟩ := V
    exact Ev.step (fun k => spec_DrawStepsBetween_l.eq k ByteArray.empty 0 0 ByteArray.empty 0 0 0 ByteArray.empty 0 0 ByteArray.empty 0 0 0 rl w h cs x y wy vl vw vh vc vx vy vwy _) (Ev.no rfl (Ev.now _))
  | m + 1, V, H, hm => by
    obtain ⟨s1, s2, s3⟩ := step_ev V H
    have ih := goOn_ev W m (stepO V) s3 (by omega)
    obtain ⟨rl, w, h, cs, x, y, wy⟩ := W
    obtain ⟨vl, vw, vh, vc, vx, vy, vwy⟩ := V
    refine Ev.step (fun k => spec_DrawStepsBetween_l.eq k ByteArray.empty 0 0 ByteArray.empty 0 0 0 ByteArray.empty 0 0 ByteArray.empty 0 0 0 rl w h cs x y wy vl vw vh vc vx vy vwy _) (Ev.yes (decide_eq_true (by omega)) (Ev.bind s2 ?_))
    rw [show w64 (((m + 1 : Nat) : Int) - 1) = (m : Int) by rw [w64_of (by omega) (by omega)]; omega]
    exact ih
section
variable (code : List Int) (hc : ∀ x ∈ code, 0 ≤ x ∧ x ≤ 255)
include hc
theorem drawPeriod_ev : ∃ W, Ev (fun k => spec_DrawPeriodOf k code) W ∧ W.1.size ≤ 1000 ∧ W.2.2.2.1.size ≤ 1000 := by
  obtain ⟨W, c1, e1, hz, H1⟩ := small_ev 0 (code, 0, 0) (CurOk.start hc) (by omega)
  exact ⟨W, Ev.step (fun k => spec_DrawPeriodOf.eq k code) (Ev.bind e1 (Ev.now _)), hz⟩
theorem drawVisits_ev : ∃ W n, Ev (fun k => spec_DrawVisitsAfter k code) (W, n) ∧ W.1.size ≤ 1000 ∧ W.2.2.2.1.size ≤ 1000 := by
  obtain ⟨W, c1, e1, hz, H1⟩ := world_ev 0 (code, 0, 0) (CurOk.start hc) (by omega)
  obtain ⟨n, c2, e2, H2⟩ := steps_ev _ c1 H1 (by omega)
  exact ⟨W, n, Ev.step (fun k => spec_DrawVisitsAfter.eq k code) (Ev.bind (Ev.step (fun k => spec_DrawWorldAfter.eq k code) (Ev.bind e1 (Ev.bind e2 (Ev.now _)))) (Ev.now _)), hz⟩
theorem drawTrack_ev : ∃ W n, Ev (fun k => spec_DrawTrackAfter k code) (W, n) ∧ W.1.size ≤ 1000 ∧ W.2.2.2.1.size ≤ 1000 := by
  obtain ⟨W, c1, e1, hz, H1⟩ := world_ev 0 (code, 0, 0) (CurOk.start hc) (by omega)
  obtain ⟨n, c2, e2, _, H2⟩ := among_ev _ c1 H1 (by omega) [0, 1, 5, 20, 200, 201, (-1)] (by decide)
  exact ⟨W, n, Ev.step (fun k => spec_DrawTrackAfter.eq k code) (Ev.bind e1 (Ev.bind e2 (Ev.now _))), hz⟩
theorem drawBetween_ev : ∃ W V, Ev (fun k => spec_DrawStepsBetween k code) (W, V) ∧ (W.1.size ≤ 1000 ∧ W.2.2.2.1.size ≤ 1000) ∧ (V.1.size ≤ 1000 ∧ V.2.2.2.1.size ≤ 1000) := by
  obtain ⟨W, c1, e1, hz, H1⟩ := small_ev 0 (code, 0, 0) (CurOk.start hc) (by omega)
  have g := goodW_ev W
  by_cases H : OkO W
  · have g := g.isT H
    obtain ⟨b, c2, e2, H2⟩ := one_ev _ c1 H1 (by omega) 4
    cases b with
    | true =>
      obtain ⟨V, c3, e3, hv, H3⟩ := small_ev _ c2 H2 (by omega)
      exact ⟨W, V, Ev.step (fun k => spec_DrawStepsBetween.eq k code) (Ev.bind e1 (Ev.bind g (Ev.yes rfl (Ev.bind e2 (Ev.no rfl (Ev.bind e3 (Ev.now _))))))), hz, hv⟩
    | false =>
      obtain ⟨p, c3, e3, p0, p1, H3⟩ := pick_ev _ c2 H2 (by omega) 40
      have p1 := p1 (by omega)
      obtain ⟨m, rfl⟩ := Int.eq_ofNat_of_zero_le p0
      have q := goOn_ev W m W H (by omega)
      have hv := okO_size (run_ok m W H)
      exact ⟨W, runO m W, Ev.step (fun k => spec_DrawStepsBetween.eq k code) (Ev.bind e1 (Ev.bind g (Ev.yes rfl (Ev.bind e2 (Ev.yes rfl (Ev.bind e3 (Ev.bind q (Ev.now _)))))))), hz, by omega⟩
  · have g := g.isF H
    obtain ⟨V, c2, e2, hv, H2⟩ := small_ev _ c1 H1 (by omega)
    exact ⟨W, V, Ev.step (fun k => spec_DrawStepsBetween.eq k code) (Ev.bind e1 (Ev.bind g (Ev.no rfl (Ev.bind e2 (Ev.now _))))), hz, hv⟩
end
end Go.Proofs.YtplamonjnlgomaaGreatDoorS
