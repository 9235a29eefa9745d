import Derived.Test.YteemifeclhenbaaDoorP0
import Derived.Test.YteemifeclhenbaaDoorShelf
import Derived.Test.YteemifeclhenbaaDoorP1
import Derived.Test.YteemifeclhenbaaDoorP2
import Derived.Test.YteemifeclhenbaaDoorPuBoards
import Derived.Test.YteemifeclhenbaaDoorPuClue
import Derived.Lib.SliceRun
import Derived.Shelf.SlicesQ.IndexFunc
/- impl.IsPuzzle: a closure that captures the puzzle, handed to slices.ContainsFunc. -/
namespace Go.Proofs.YteemifeclhenbaaDoor.P
open Go.RowKit Go.Proofs.YteemifeclhenbaaDoorW.PrintWords Go.Proofs.YteemifeclhenbaaDoorW.PrintLast Go.Proofs.YteemifeclhenbaaDoorW.PrintMore
open Go.Proofs.YteemifeclhenbaaDoor.B Go.Shelf
set_option linter.unusedVariables false
set_option linter.unusedSimpArgs false
def enc28 (x : S28) : List Value := [.int .i64 x.f0, .int .i64 x.f1, .int .i64 x.f2]
instance : Inhabited S28 := ⟨z28⟩
/-- What the closure asks of a clue. -/
def clueOk (r : ByteArray) (w h : Int) (x : S28) : Bool := isRuleB r && (inB (wrap64 (w * h)) 1 9 && clueB r.size (wrap64 (w * h)) x.f0 x.f1 x.f2)
theorem isPuz_pred (r : ByteArray) (w h : Int) (hr : r.size ≤ 9223372036854775807) (B : Nat) (W0 : World) (hB : B < W0.heap.size)
    (h0 : W0.cell? ⟨B, 0, none⟩ = some (.string r)) (h1 : W0.cell? ⟨B, 1, none⟩ = some (.int .i64 w)) (h2 : W0.cell? ⟨B, 2, none⟩ = some (.int .i64 h)) :
    PredBelow Tryd.prog 82 #[.pointer (some ⟨B, 0, none⟩)] (fun x => .agg (enc28 x).toArray) (fun x => !clueOk r w h x) W0 := fun W x hb => by
  obtain ⟨k, hk⟩ := Ev.rounds (implIsClue_ev r (wrap64 (w * h)) x.f0 x.f1 x.f2 hr)
  have c0 : W.cell? ⟨B, 0, none⟩ = some (.string r) := (hb.cell (p := ⟨B, 0, none⟩) hB).trans h0
  have c1 : W.cell? ⟨B, 1, none⟩ = some (.int .i64 w) := (hb.cell (p := ⟨B, 1, none⟩) hB).trans h1
  have c2 : W.cell? ⟨B, 2, none⟩ = some (.int .i64 h) := (hb.cell (p := ⟨B, 2, none⟩) hB).trans h2
  have hBW : B < W.heap.size := Nat.lt_of_lt_of_le hB hb.size
  have hne : B ≠ W.heap.size := by omega
  show Calls Tryd.prog 82 #[.agg #[.int .i64 x.f0, .int .i64 x.f1, .int .i64 x.f2], .pointer (some ⟨B, 0, none⟩)] W _
  have hcon := fun w0 => impl_IsClue.calls k r (wrap64 (w * h)) x.f0 x.f1 x.f2 _ w0 hk
  have hP : (fun x => !clueOk r w h x) x = !(isRuleB r && (inB (wrap64 (w * h)) 1 9 && clueB r.size (wrap64 (w * h)) x.f0 x.f1 x.f2)) := rfl
  rw [hP]
  clear hP hk
  generalize (isRuleB r && (inB (wrap64 (w * h)) 1 9 && clueB r.size (wrap64 (w * h)) x.f0 x.f1 x.f2)) = v at hcon ⊢
  have HC := Lib.hid hcon
  clear hcon h0 h1 h2
  go_enter Tryd.func82, Tryd.ntmps82
  go_wp2_with (go_at_call 24; refine (HC.out _).mono ?_; rintro e w' ⟨rfl, hb'⟩)
  go_ret
  exact ⟨rfl, hb.trans ((((Below.refl _ W).alloc (Nat.le_refl _) _).trans (hb'.mono (by simp))).mono hb.size)⟩
/-- The loops over an empty slice. -/
theorem idxFunc_empty (A : Option Addr) (c : Nat) (v : Value) (w : World) :
    Calls Tryd.prog 107 #[.slice A 0 c, v] w fun e w' => e = .returned (.int .i64 (-1)) ∧ w' = w := by
  go_enter Tryd.func107, Tryd.ntmps107
  go_wp2
  refine wp_loop_rounds 1 ?_
  rw [rounds_succ]
  go_wp2
  go_ret
  exact ⟨rfl, rfl⟩
theorem contFunc_empty (A : Option Addr) (c : Nat) (v : Value) (w : World) :
    Calls Tryd.prog 81 #[.slice A 0 c, v] w fun e w' => e = .returned (.bool false) ∧ w' = w := by
  go_enter Tryd.func81, Tryd.ntmps81
  go_wp2_with (go_at_call 107; refine (idxFunc_empty _ _ _ _).mono ?_; rintro e w' ⟨rfl, rfl⟩)
  go_ret
  exact ⟨rfl, rfl⟩
/-- What the call asks of a row of clues. -/
theorem contFunc_clues (r : ByteArray) (w h : Int) (hr : r.size ≤ 9223372036854775807) (B : Nat) (A : Option Addr) (c : Nat) (l : List S28) (W0 : World) (hB : B < W0.heap.size)
    (h0 : W0.cell? ⟨B, 0, none⟩ = some (.string r)) (h1 : W0.cell? ⟨B, 1, none⟩ = some (.int .i64 w)) (h2 : W0.cell? ⟨B, 2, none⟩ = some (.int .i64 h)) (hl : Kd.C k28 W0 A l.length l) :
    Calls Tryd.prog 81 #[.slice A l.length c, .func (.func 82) #[] #[.pointer (some ⟨B, 0, none⟩)]] W0 fun e w' => e = .returned (.bool (!l.all (clueOk r w h))) ∧ Below W0.heap.size W0 w' := by
  have hall : l.any (fun x => !clueOk r w h x) = !l.all (clueOk r w h) := by
    rw [List.any_eq_not_all_not]; simp
  by_cases hn : l.length = 0
  · rw [List.length_eq_zero_iff.mp hn]
    exact (contFunc_empty A c _ W0).mono fun e w' ⟨h3, h4⟩ => ⟨h3, h4 ▸ Below.refl _ _⟩
  · obtain ⟨_, hbig, hx⟩ := hl
    obtain ⟨ad, rfl, hcell⟩ := hx (by omega)
    have hlt : ad.block < W0.heap.size := by
      obtain ⟨cs, hl0, hK, hc0⟩ := hcell 0 _ (List.getElem?_eq_getElem (by omega : 0 < l.length))
      obtain rfl := k28_open hK
      exact World.block_lt_of_cell? _ _ (hc0 0 _ rfl)
    obtain ⟨b, off, sp⟩ := ad
    have hz : ∀ j, j < l.length → ∀ i v, (enc28 l[j]!)[i]? = some v → W0.cell? (Addr.add ⟨b, off, sp⟩ (j * 3 + i)) = some v := by
      intro j hj i v hv
      obtain ⟨cs, hl0, hK, hc0⟩ := hcell j _ (List.getElem?_eq_getElem hj)
      obtain rfl := k28_open hK
      refine hc0 i v ?_
      rw [getElem!_pos l j hj] at hv
      exact hv
    obtain rfl : sp = none := by
      have h3 := hz 0 (by omega) 0 _ rfl
      cases sp with
      | none => rfl
      | some s =>
        exfalso
        simp only [Addr.add, World.cell?] at h3
        split at h3 <;> simp at h3
    have eg : ∀ args w, (callFunc 82 args).run Tryd.prog w = .ok (.enter 82 args) w := enters_of Tryd.func82 (by kernel_rfl) rfl
    have hcon := Tryd.slices_ContainsFunc 3 Tryd.isAgg28 Tryd.sizeOf28 enc28 (fun _ => rfl) (fun x => !clueOk r w h x) 82 #[.pointer (some ⟨B, 0, none⟩)] eg b off l.length c l W0
      (isPuz_pred r w h hr B W0 hB h0 h1 h2) (Nat.le_refl _) hbig hlt (fun j hj i v hv => by
        have h3 := hz j hj i v hv
        by_cases e : j * 3 + i = 0
        · have e1 : j = 0 := by omega
          have e2 : i = 0 := by omega
          subst e1 e2
          simpa [Addr.add] using h3
        · rw [Addr.add, if_neg e] at h3
          rw [Nat.add_assoc]
          exact h3)
    rw [List.take_length, hall] at hcon
    exact hcon
/-- impl.IsPuzzle in plain words. -/
def impl_IsPuzzle.f (a0_0 : ByteArray) (a0_1 a0_2 : Int) (l0_3 : List S28) : Option Bool :=
  if a0_0.size ≤ 9223372036854775807 then some ((sizeB a0_0 a0_1 a0_2 && decide (boardsN a0_0 a0_1 a0_2 ≤ 300)) && (decide (l0_3.length ≤ 6) && l0_3.all (clueOk a0_0 a0_1 a0_2))) else none
theorem impl_IsPuzzle.calls (a0_0 : ByteArray) (a0_1 a0_2 : Int) (A0_3 : Option Addr) (c0_3 : Nat) (l0_3 : List S28) (r : Bool) (w : World) (hr0_3 : Kd.C k28 w A0_3 l0_3.length l0_3) (hc0_3 : l0_3.length ≤ c0_3) (h : impl_IsPuzzle.f a0_0 a0_1 a0_2 l0_3 = some r) :
    Calls Tryd.prog 28 #[.agg #[.string a0_0, .int .i64 a0_1, .int .i64 a0_2, .slice A0_3 l0_3.length c0_3]] w fun e w' => e = .returned (.bool r) ∧ Below w.heap.size w w' := by
  unfold impl_IsPuzzle.f at h
  split at h
  case isFalse => cases h
  rename_i hr
  obtain rfl := Option.some.inj h
  clear h
  obtain ⟨k, hk⟩ := Ev.rounds (implCount_ev a0_0 a0_1 a0_2 hr)
  have hu := Tryd.underlying38
  cases hv : (sizeB a0_0 a0_1 a0_2 && decide (boardsN a0_0 a0_1 a0_2 ≤ 300)) with
  | false =>
    rw [hv] at hk
    have hcon := fun w0 => impl_CountBoards.calls k a0_0 a0_1 a0_2 0 false w0 hk
    rw [Bool.false_and]
    have HC := Lib.hid hcon
    clear hcon hk hv
    go_enter Tryd.func28, Tryd.ntmps28
    go_wp2_with (go_at_call 21; refine (HC.out _).mono ?_; rintro e w' ⟨rfl, hb'⟩)
    go_ret
    exact ⟨rfl, ((Below.refl _ w).alloc (Nat.le_refl _) _).trans (hb'.mono (by simp))⟩
  | true =>
    rw [hv] at hk
    have hcon := fun w0 => impl_CountBoards.calls k a0_0 a0_1 a0_2 (boardsN a0_0 a0_1 a0_2) true w0 hk
    generalize boardsN a0_0 a0_1 a0_2 = bn at hcon
    rw [Bool.true_and]
    have HC := Lib.hid hcon
    clear hcon hk hv
    by_cases h6 : l0_3.length ≤ 6
    · rw [decide_eq_true h6, Bool.true_and]
      have d6 : decide ((6 : Int) < (l0_3.length : Int)) = false := decide_eq_false (by omega)
      have HR := Lib.hid hr0_3
      clear hr0_3
      have hn : ∀ b : Bool, b = !!b := fun b => by simp
      rw [hn (l0_3.all _)]
      clear hn
      generalize hg : (!l0_3.all (clueOk a0_0 a0_1 a0_2)) = g
      have HG := Lib.hid hg
      clear hg
      go_enter Tryd.func28, Tryd.ntmps28
      go_wp2_with (first | (go_at_call 21; refine (HC.out _).mono ?_; rintro e w' ⟨rfl, hb'⟩; have hcz0 := hb'.cell (p := ⟨w.heap.size, 0, none⟩) (by simp); have hcz1 := hb'.cell (p := ⟨w.heap.size, 1, none⟩) (by simp); have hcz2 := hb'.cell (p := ⟨w.heap.size, 2, none⟩) (by simp); have hcz3 := hb'.cell (p := ⟨w.heap.size, 3, none⟩) (by simp); simp only [World.cell?_alloc_new] at hcz0 hcz1 hcz2 hcz3; have hbw := ((Below.refl _ w).alloc (Nat.le_refl _) (.cells #[.string a0_0, .int .i64 a0_1, .int .i64 a0_2, .slice A0_3 l0_3.length c0_3] 38)).trans (hb'.mono (by simp)); have hbl : w.heap.size < w'.heap.size := by { have := hb'.size; simp at this; omega }) | (go_at_call 81; refine (contFunc_clues a0_0 a0_1 a0_2 hr w.heap.size A0_3 c0_3 l0_3 _ hbl hcz0 hcz1 hcz2 (Kd.C_below HR.out hbw)).mono ?_; rw [HG.out]; rintro e w2 ⟨rfl, hb2⟩))
      go_ret
      exact ⟨rfl, hbw.trans (hb2.mono hbw.size)⟩
    · rw [decide_eq_false h6, Bool.false_and]
      have d6 : decide ((6 : Int) < (l0_3.length : Int)) = true := decide_eq_true (by omega)
      clear hr0_3
      go_enter Tryd.func28, Tryd.ntmps28
      go_wp2_with (go_at_call 21; refine (HC.out _).mono ?_; rintro e w' ⟨rfl, hb'⟩; have hcz3 := hb'.cell (p := ⟨w.heap.size, 3, none⟩) (by simp); simp only [World.cell?_alloc_new] at hcz3)
      go_ret
      exact ⟨rfl, ((Below.refl _ w).alloc (Nat.le_refl _) _).trans (hb'.mono (by simp))⟩
end Go.Proofs.YteemifeclhenbaaDoor.P
