/- slices.Delete at a row of its own. -/
import Derived.Test.YtplamonjnlgomaaGreatDoorSimFs
import Derived.Deep.RegionLaw
import Derived.Deep.Draws
namespace Go.Proofs.YtplamonjnlgomaaGreatDoorS
open Go
set_option linter.unusedVariables false
set_option linter.unusedSimpArgs false

/-- slices.Delete, some elements. -/
def delB {s : Sh} (l : List s.T) (i j : Int) : Option (List s.T) := if 0 ≤ i ∧ i < j ∧ j ≤ l.length ∧ l.length ≤ 1048576 then some (l.take i.toNat ++ l.drop j.toNat) else none
theorem run_clear_cells {P : Program} (w : World) (t e : TypeId) (z : Value) (ht : P.underlying t = some (.slice e)) (hv : ∀ w, (zeroValue e).run P w = .ok z w) (h1 : ∀ v ∈ z.cells.toList, v.oneCell' = true) (b o n c : Nat) (hn : 0 < n)
    (hc : ∀ j, j < n * z.cells.size → (w.cell? ⟨b, o + j, none⟩).isSome = true) (hf : ∀ j, j < n * z.cells.size → w.frozen? ⟨b, o + j, none⟩ = false) :
    ∃ vs : List Value, vs.length = n * z.cells.size ∧ (∀ v ∈ vs, v.oneCell' = true) ∧ ∀ ty, (Builtin.clear_ #[t] ty #[.slice (some ⟨b, o, none⟩) n c]).run P w = .ok (.tuple #[]) (w.setCells b o vs) := by
  obtain ⟨vs, hvs⟩ : ∃ vs, vs = (Builtin.zeroCells z.cells n).toList := ⟨_, rfl⟩
  have hl : vs.length = n * z.cells.size := by rw [hvs]; simp [Builtin.zeroCells, Nat.mul_comm]
  have hm : ∀ v ∈ vs, v.oneCell' = true := fun v hv => by
    obtain ⟨i, hi⟩ := List.mem_iff_getElem?.1 hv
    rw [hvs, Array.getElem?_toList] at hi
    have hlt := (Array.getElem?_eq_some_iff.1 hi).1
    have hz0 : 0 < z.cells.size := Nat.pos_of_ne_zero fun e0 => by simp [Builtin.zeroCells, e0] at hlt
    apply h1 v
    unfold Builtin.zeroCells at hi
    simp only [Array.getElem?_ofFn, Array.getElem?_map] at hi
    obtain ⟨k, _, rfl⟩ := Option.map_eq_some_iff.1 hi
    rw [getElem!_pos z.cells (k % z.cells.size) (Nat.mod_lt _ hz0)]
    exact Array.mem_toList_iff.2 (Array.getElem_mem _)
  have hst := run_storeCells_cells (P := P) b o vs 0 w (by rw [hl]; simpa using hc) (by rw [hl]; simpa using hf) hm
  simp only [Nat.add_zero] at hst
  obtain ⟨m, rfl⟩ : ∃ m, n = m + 1 := ⟨n - 1, by omega⟩
  exact ⟨vs, hl, hm, fun ty => by simp [Builtin.clear_, run_underlying ht, hv, ← hvs, hst]⟩
theorem del_ok {P : Program} {f : FuncId} {fn : Func} (hf : P.funcs[f]? = some fn) (hnm : (fn.name == "runtime.NumGoroutine") = false) (hb : fn.body.isSome = true) (s : Sh) (hs0 : 0 < s.sz)
    (hc : ∀ (b cap i j : Nat) (l : List s.T) (cs : Array Value) (el : TypeId) (fz : Nat × Nat) (w : World), w.heap[b]? = some (.cells cs el fz) → cs.toList.take (l.length * s.sz) = flat s l → cs.size = cap * s.sz → l.length ≤ cap → l.length ≤ 1048576 → (∀ o, o < cs.size → ¬ (fz.1 ≤ o ∧ o < fz.2)) → i < j → j ≤ l.length →
      Calls P f #[.slice (some ⟨b, 0, none⟩) l.length cap, .int .i64 i, .int .i64 j] w fun e w' => e = .returned (.slice (some ⟨b, 0, none⟩) (l.length - (j - i)) cap) ∧ ∃ (q : Nat) (vs : List Value), vs.length = (j - i) * s.sz ∧ w' = ((w.drewN q).setCells b (i * s.sz) (flat s (l.drop j))).setCells b ((i + (l.length - j)) * s.sz) vs) :
    EntOk P (.fr f [⟨0, false, .slc true s⟩, ⟨1, false, .int .i64⟩, ⟨2, false, .int .i64⟩] [] [⟨0, false, .slc true s⟩] fun d => delB d.1 d.2.1 d.2.2) := by
  rintro ⟨(l : List s.T), (i : Int), (j : Int)⟩ (r : List s.T) hr
  have hr : delB l i j = some r := hr
  unfold delB at hr
  split at hr <;> cases hr
  rename_i hcond
  obtain ⟨hi0, hij, hjl, hll⟩ := hcond
  obtain ⟨i, rfl⟩ := Int.eq_ofNat_of_zero_le hi0
  obtain ⟨j, rfl⟩ := Int.eq_ofNat_of_zero_le (show (0 : Int) ≤ j by omega)
  have hij : i < j := by omega
  have hjl : j ≤ l.length := by omega
  simp only [Int.toNat_natCast]
  intro A W ρ args w hargs H
  unfold CallsF
  have hcf : (callFunc f args).run P w = .ok (.enter f args) w := by
    have hn2 : ¬ fn.name = "runtime.NumGoroutine" := by simpa using hnm
    have hbn : ¬ fn.body = none := by intro e; rw [e] at hb; cases hb
    simp [callFunc, hf, hn2, hbn]
  rw [hcf]
  obtain ⟨L⟩ := args
  match L, hargs with
  | [x, y, z], ⟨hx, hy, hz, _⟩ =>
    have h0 := H.obj 0
    rw [getF_ups0] at h0
    obtain ⟨hx, hxs⟩ := hx
    have hy : y = .int .i64 (i : Int) := hy
    have hz : z = .int .i64 (j : Int) := hz
    subst hy hz
    obtain ⟨hd, e1, a, cap, rfl, hle, hrow⟩ := h0
    rw [hx] at e1
    obtain rfl := Option.some.inj e1
    have hF : ∀ (r : List s.T) (i : Nat), getF (ups 0 [AObj.row true s r]) i = if i = 0 then .row true s r else .dead := fun r i => by
      rw [getF_ups0]
      cases i <;> simp
    have H0 : (getF (ups 0 (unpackL [⟨0, false, .slc true s⟩, ⟨1, false, .int .i64⟩, ⟨2, false, .int .i64⟩] (l, (i : Int), (j : Int)) 0 0).2) 0) = .row true s l := (hF l 0).trans (if_pos rfl)
    have locA : ∀ b, blk (ρ 0) = some b → w.heap.size ≤ b ∨ b ∈ A := fun b hb => H.loc 0 b (by rw [H0]; rfl) hb
    have locW : ∀ b, blk (ρ 0) = some b → w.heap.size ≤ b ∨ b ∈ W := fun b hb => H.locw 0 b (by rw [H0]; rfl) hb
    cases a with
    | none =>
      obtain ⟨hxs, _⟩ := hrow
      have hxs : l = [] := hxs
      subst hxs
      simp at hjl
      omega
    | some ad =>
      obtain ⟨hsp, cs, el, fz, hh, ht, hown⟩ := hrow
      obtain ⟨b, off, sp⟩ := ad
      obtain ⟨hoff, hcsz, hfz⟩ := hown rfl
      simp only at hsp hh ht hoff
      subst hsp hoff
      rw [List.drop_zero] at ht
      refine Calls.mono (hc b cap i j l cs el fz w hh ht hcsz hle hll hfz hij hjl) fun e w' he => ?_
      obtain ⟨rfl, q, vs, hvl, rfl⟩ := he
      have hfl : (flat s (l.drop j)).length = (l.length - j) * s.sz := by rw [flat_len, List.length_drop]
      have hcl : l.length * s.sz ≤ cs.size := by rw [hcsz]; exact Nat.mul_le_mul_right _ hle
      have m1 : i * s.sz + (l.length - j) * s.sz = (i + (l.length - j)) * s.sz := (Nat.add_mul _ _ _).symm
      have m2 : (i + (l.length - j)) * s.sz + (j - i) * s.sz = l.length * s.sz := by rw [← Nat.add_mul]; congr 1; omega
      have h1 := setCells_heap b (flat s (l.drop j)) (i * s.sz) (w.drewN q) cs el fz hh (by rw [hfl]; omega)
      have e1 : (cs.toList.take (i * s.sz) ++ flat s (l.drop j) ++ cs.toList.drop (i * s.sz + (flat s (l.drop j)).length)).length = cs.size := by
        simp only [List.length_append, List.length_take, List.length_drop, Array.length_toList, hfl]; omega
      have h2 := setCells_heap b vs ((i + (l.length - j)) * s.sz) _ _ el fz h1 (by rw [hvl]; simp only [List.size_toArray]; rw [e1]; omega)
      have hblk : b < w.heap.size := (Array.getElem?_eq_some_iff.1 hh).1
      have g := (setCells_grown b (flat s (l.drop j)) (i * s.sz) (w.drewN q))
      have g2 := (setCells_grown b vs ((i + (l.length - j)) * s.sz) ((w.drewN q).setCells b (i * s.sz) (flat s (l.drop j))))
      have etake : l.take i ++ l.drop j = l.take i ++ l.drop j := rfl
      have hlen : (l.take i ++ l.drop j).length = l.length - (j - i) := by simp only [List.length_append, List.length_take, List.length_drop]; omega
      refine ⟨_, rfl, fun n => n ≠ 0, fun n => if n = 0 then some (.slice (some ⟨b, 0, none⟩) (l.length - (j - i)) cap) else none, ⟨by simp, ⟨_, _, _, rfl⟩⟩, trivial, ?_⟩
      show HR w A W (fun i => i ≠ 0) _ (getF (ups 0 [AObj.row true s (l.take i ++ l.drop j)])) _
      refine ⟨⟨g2.os.trans g.os, g2.tape.trans g.tape, g2.output.trans g.output, Nat.le_trans g.size g2.size, fun k hk hn => ?_, H.fr.ok⟩, fun i hi => by simp [hi], fun k => ?_, fun i' j' hij' ho hl b' _ _ => ?_, fun k b' hl hb' => ?_, fun k b' ho hb' => ?_⟩
      · have hkb : b ≠ k := fun e => by
          subst e
          rcases locW b (by rw [hx]; rfl) with h | h
          · omega
          · exact hn h
        rw [g2.block k (Nat.lt_of_lt_of_le hk g.size) (fun e => hkb (Option.some.inj e).symm), g.block k hk (fun e => hkb (Option.some.inj e).symm)]
        rfl
      · rw [hF]
        by_cases hk : k = 0
        · rw [if_pos hk]
          subst hk
          refine ⟨_, rfl, some ⟨b, 0, none⟩, cap, by rw [hlen], by rw [hlen]; have hle : l.length ≤ cap := hle; omega, rfl, _, el, fz, h2, ?_, fun _ => ⟨rfl, ?_, fun o ho => hfz o ?_⟩⟩
          · rw [hlen, List.drop_zero, flat_append, flat_take, ← ht]
            have m3 : (l.length - (j - i)) * s.sz = (i + (l.length - j)) * s.sz := by congr 1; omega
            have m4 : i * s.sz ≤ l.length * s.sz := Nat.mul_le_mul_right _ (by omega)
            have m5 : i * s.sz ≤ (i + (l.length - j)) * s.sz := Nat.mul_le_mul_right _ (by omega)
            rw [m3, List.take_take, Nat.min_eq_left m4, List.append_assoc _ vs, List.take_append_of_le_length (by simp only [List.length_take, List.size_toArray, List.length_append, hfl, Array.length_toList]; omega), List.take_take, Nat.min_self]
            rw [List.take_append_of_le_length (by simp only [List.length_append, List.length_take, hfl, Array.length_toList]; omega)]
            rw [List.take_of_length_le (by simp only [List.length_append, List.length_take, hfl, Array.length_toList]; omega)]
          · simp only [List.size_toArray, List.length_append, List.length_take, List.length_drop, hfl, hvl, Array.length_toList]
            omega
          · simp only [List.size_toArray, List.length_append, List.length_take, List.length_drop, hfl, hvl, Array.length_toList] at ho
            omega
        · rw [if_neg hk]
          trivial
      · exfalso
        rw [hF] at ho hl
        by_cases hi : i' = 0
        · by_cases hj : j' = 0
          · exact hij' (hi.trans hj.symm)
          · rw [if_neg hj] at hl; cases hl
        · rw [if_neg hi] at ho; cases ho
      · by_cases hi : k = 0
        · rw [if_pos hi] at hb'
          exact locA b' (by rw [hx]; exact hb')
        · rw [if_neg hi] at hb'; cases hb'
      · by_cases hi : k = 0
        · rw [if_pos hi] at hb'
          exact locW b' (by rw [hx]; exact hb')
        · rw [if_neg hi] at hb'; cases hb'
end Go.Proofs.YtplamonjnlgomaaGreatDoorS
