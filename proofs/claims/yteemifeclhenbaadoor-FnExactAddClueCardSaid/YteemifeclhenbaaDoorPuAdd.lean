import Derived.Test.YteemifeclhenbaaDoorPuMark
import Derived.Test.YteemifeclhenbaaDoorP5
import Derived.Test.YteemifeclhenbaaDoorP6
/- A clue added. -/
namespace Go.Proofs.YteemifeclhenbaaDoor.P
open Go.RowKit Go.Proofs.YteemifeclhenbaaDoorW.PrintWords Go.Proofs.YteemifeclhenbaaDoorW.PrintLast Go.Proofs.YteemifeclhenbaaDoorW.PrintMore
open Go.Proofs.YteemifeclhenbaaDoor.B
set_option linter.unusedVariables false
set_option linter.unusedSimpArgs false
/-- A puzzle with one clue more. -/
def addB (r : ByteArray) (w h : Int) (l : List S28) (a b c : Int) : Bool := puzzleB r w h l && (clueB r.size (w * h) a b c && decide (l.length ≠ 6))
def addP (r : ByteArray) (w h : Int) (l : List S28) (a b c : Int) : ByteArray × Int × Int × List S28 × Bool :=
  if addB r w h l a b c then (r, w, h, l ++ [⟨a, b, c⟩], true) else (⟨#[]⟩, 0, 0, [], false)
theorem puzzleB_parts {r : ByteArray} {w h : Int} {l : List S28} (hp : puzzleB r w h l = true) : isRuleB r = true ∧ (1 ≤ w * h ∧ w * h ≤ 9) ∧ l.length ≤ 6 := by
  unfold puzzleB at hp
  obtain ⟨h1, h2⟩ := Bool.and_eq_true_iff.mp hp
  obtain ⟨h3, _⟩ := Bool.and_eq_true_iff.mp h1
  obtain ⟨ha, hb, hc, hd⟩ := sizeB_parts h3
  have := prod_bd hb hc
  exact ⟨ha, ⟨this.1, by omega⟩, of_decide_eq_true (Bool.and_eq_true_iff.mp h2).1⟩
theorem addP_len (r : ByteArray) (w h : Int) (l : List S28) (a b c : Int) : (addP r w h l a b c).2.2.2.1.length ≤ 1048576 := by
  unfold addP
  split
  · rename_i hb
    have := (puzzleB_parts (Bool.and_eq_true_iff.mp hb).1).2.2
    simp; omega
  · exact Nat.zero_le _
theorem specAdd_ev (r : ByteArray) (w h : Int) (l : List S28) (a b c : Int) (hr : r.size ≤ 9223372036854775807) : Ev (fun k => spec_AddClue.f k r w h l a b c) (addP r w h l a b c) := by
  unfold spec_AddClue.f addP addB
  refine Ev.bind (pzGood_ev r w h l hr) ?_
  refine Ev.ite (fun h1 => ?_) (fun h1 => ?_)
  · obtain ⟨ha, hb, hc⟩ := puzzleB_parts h1
    rw [h1, Bool.true_and, w64 (by omega) (by omega)]
    refine Ev.some_bind (pzClue_eq r (w * h) a b c hr (by omega)) ?_
    refine Ev.ite (fun h2 => ?_) (fun h2 => ?_)
    · rw [h2, Bool.true_and]
      refine Ev.ite (fun h3 => ?_) (fun h3 => ?_)
      · rw [decide_eq_false (by omega), if_neg Bool.false_ne_true]
        exact Ev.now _
      · rw [decide_eq_true (by omega), if_pos rfl]
        simp only [Option.bind_some, List.nil_append, List.length_nil, List.length_cons]
        rw [if_pos (by omega), if_pos (by omega)]
        unfold spec_pzWith.f
        exact Ev.now _
    · rw [Bool.eq_false_iff.mpr h2, Bool.false_and, if_neg Bool.false_ne_true]
      exact Ev.now _
  · rw [Bool.eq_false_iff.mpr h1, Bool.false_and, if_neg Bool.false_ne_true]
    exact Ev.now _
theorem implAdd_ev (r : ByteArray) (w h : Int) (l : List S28) (a b c : Int) (hr : r.size ≤ 9223372036854775807) : Ev (fun k => impl_AddClue.f k r w h l a b c) (addP r w h l a b c) := by
  unfold impl_AddClue.f addP addB
  refine Ev.some_bind (implIsPuzzle_eq r w h l hr) ?_
  refine Ev.ite (fun h1 => ?_) (fun h1 => ?_)
  · obtain ⟨ha, hb, hc⟩ := puzzleB_parts h1
    rw [h1, Bool.true_and, w64 (by omega) (by omega)]
    refine Ev.bind (implIsClue_ev r (w * h) a b c hr) ?_
    rw [ha, Bool.true_and, show inB (w * h) 1 9 = true from decide_eq_true hb, Bool.true_and]
    refine Ev.ite (fun h2 => ?_) (fun h2 => ?_)
    · rw [h2, Bool.true_and]
      by_cases h3 : l.length = 6
      · rw [decide_eq_false (by omega), if_neg Bool.false_ne_true]
        refine Ev.step (f := fun _ => some _) (fun k => ?_) (Ev.now _)
        simp only [impl_AddClue.j0]
        rw [if_pos (by rw [h3]; rfl)]
      · rw [decide_eq_true (by omega), if_pos rfl]
        refine Ev.step (f := fun _ => some _) (fun k => ?_) (Ev.now _)
        simp only [impl_AddClue.j0]
        rw [if_neg (by simp; omega)]
        unfold impl_Clue_86.f impl_Puzzle_changed.f
        rw [if_pos (by omega)]
        simp only [Option.bind_some, List.length_cons, List.length_nil]
        rw [if_pos (by omega)]
    · rw [Bool.eq_false_iff.mpr h2, Bool.false_and, if_neg Bool.false_ne_true]
      refine Ev.step (f := fun _ => some _) (fun k => ?_) (Ev.now _)
      simp only [impl_AddClue.j0, if_true]
  · rw [Bool.eq_false_iff.mpr h1, Bool.false_and, if_neg Bool.false_ne_true]
    refine Ev.step (f := fun _ => some _) (fun k => ?_) (Ev.now _)
    simp only [impl_AddClue.j0, if_true]
end Go.Proofs.YteemifeclhenbaaDoor.P
