/- Puzzles: clues without one. -/
import Derived.Test.YthobhonnicadaaaDoorPuPuz3
namespace Go.Proofs.YthobhonnicadaaaDoorS
open Go
set_option linter.unusedVariables false
set_option linter.unusedSimpArgs false
def woC (cl : List Cl) (k : Nat) : List Cl := cl.take k ++ cl.drop (k + 1)
theorem woC_len {cl : List Cl} {k : Nat} (h : k < cl.length) : (woC cl k).length + 1 = cl.length := by
  unfold woC
  rw [List.length_append, List.length_take, List.length_drop]
  omega
theorem woC_mem {cl : List Cl} {k : Nat} {c : Cl} (h : c ∈ woC cl k) : c ∈ cl := by
  rcases List.mem_append.1 h with h | h
  · exact List.mem_of_mem_take h
  · exact List.mem_of_mem_drop h
theorem pzWithout_ev (cl : List Cl) (hl : cl.length ≤ 1000) (i : Nat) (hi : i < cl.length) : Ev (fun k => spec_pzWithout k (cl, (i : Int))) (woC cl i) := by
  have e1 : w64 ((i : Int) + 1) = ((i + 1 : Nat) : Int) := w64_succ (by omega)
  refine Ev.step (fun k => spec_pzWithout.eq k cl (i : Int)) ?_
  rw [e1]
  simp only [Int.toNat_natCast, List.nil_append]
  have t1 : (cl.take i).length ≤ 1000 := by rw [List.length_take]; omega
  have t2 : ((cl.drop (i + 1)).take (cl.length - (i + 1))) = cl.drop (i + 1) := List.take_of_length_le (by rw [List.length_drop]; omega)
  rw [t2]
  have t3 : (cl.drop (i + 1)).length ≤ 1000 := by rw [List.length_drop]; omega
  exact Ev.yes (by rw [decide_eq_true (by omega), decide_eq_true (by omega)]; rfl) (Ev.yes (fits_of (by omega)) (Ev.yes (by rw [decide_eq_true (by omega), decide_eq_true (by omega)]; rfl) (Ev.yes (fits_of (by omega)) (Ev.now _))))
theorem dropped_ev (cl : List Cl) (hl : cl.length ≤ 1000) (i : Nat) (hi : i < cl.length) : Ev (fun k => impl_dropped k (cl, (i : Int))) (woC cl i) := by
  have e1 : w64 ((i : Int) + 1) = ((i + 1 : Nat) : Int) := w64_succ (by omega)
  have hc : Ev (fun k => slices_Clone k cl) cl := Ev.step (fun k => (slices_Clone.eq k cl).trans (cloneB_some (s := .pair (.int .i64) (.pair (.int .i64) (.int .i64))) 24 cl (by show List.length (α := Cl) cl * 24 ≤ _; omega))) (Ev.now _)
  have hd : Ev (fun k => slices_Delete k (cl, (i : Int), ((i + 1 : Nat) : Int))) (woC cl i) := by
    refine Ev.step (fun k => (slices_Delete.eq k (cl, (i : Int), ((i + 1 : Nat) : Int))).trans (?_ : _ = some (woC cl i))) (Ev.now _)
    show delB (s := .pair (.int .i64) (.pair (.int .i64) (.int .i64))) cl (i : Int) ((i + 1 : Nat) : Int) = _
    unfold delB
    rw [if_pos ⟨by omega, by omega, by show ((i + 1 : Nat) : Int) ≤ ((List.length (α := Cl) cl : Nat) : Int); omega, by show List.length (α := Cl) cl ≤ _; omega⟩]
    simp only [Int.toNat_natCast]
    rfl
  refine Ev.step (fun k => impl_dropped.eq k cl (i : Int)) ?_
  rw [e1]
  exact Ev.bind hc (Ev.bind hd (Ev.now _))
end Go.Proofs.YthobhonnicadaaaDoorS
