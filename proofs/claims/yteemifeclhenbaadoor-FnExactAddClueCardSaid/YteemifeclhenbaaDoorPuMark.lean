import Derived.Test.YteemifeclhenbaaDoorPuPuzzle
import Derived.Test.YteemifeclhenbaaDoorP6
import Derived.Test.YteemifeclhenbaaDoorP7
/- Rows of clues written over, and read again. -/
namespace Go.Proofs.YteemifeclhenbaaDoor.P
open Go.RowKit Go.Proofs.YteemifeclhenbaaDoorW.PrintWords Go.Proofs.YteemifeclhenbaaDoorW.PrintLast Go.Proofs.YteemifeclhenbaaDoorW.PrintMore
open Go.Proofs.YteemifeclhenbaaDoor.B
set_option linter.unusedVariables false
set_option linter.unusedSimpArgs false
/-- The row that the marking leaves. -/
def mk3 (n : Nat) : List S28 := (List.range n).map fun (i : Nat) => ⟨1 + 3 * (i : Int), 2 + 3 * (i : Int), 3 + 3 * (i : Int)⟩
theorem mk3_len (n : Nat) : (mk3 n).length = n := by simp [mk3]
theorem mk3_succ (n : Nat) : mk3 (n + 1) = mk3 n ++ [⟨1 + 3 * (n : Int), 2 + 3 * (n : Int), 3 + 3 * (n : Int)⟩] := by
  simp [mk3, List.range_succ]
theorem rd_set (L : List S28) (i : Nat) (h : i < L.length) (x : S28) : rd_T28 (L.set i x) (i : Int) = x := by
  rw [rdI _ i (by simpa using h)]
  simp
theorem markClueS_loop (l : List S28) (hl : l.length ≤ 1048576) (d : Nat) : ∀ i : Nat, l.length - i = d → i ≤ l.length →
    Ev (fun k => laws_markClueS.l0 k (mk3 i ++ l.drop i) (1 + 3 * (i : Int)) (i : Int)) (1 + 3 * (l.length : Int), mk3 l.length) := by
  induction d with
  | zero =>
    intro i hd hi
    have e : i = l.length := by omega
    subst e
    refine Ev.step (f := fun _ => some (1 + 3 * (l.length : Int), mk3 l.length)) (fun k => ?_) (Ev.now _)
    simp only [laws_markClueS.l0]
    rw [if_neg (by simp [mk3_len])]
    simp
  | succ d ih =>
    intro i hd hi
    have hlt : i < l.length := by omega
    have hL : (mk3 i ++ l.drop i).length = l.length := by simp [mk3_len]; omega
    refine Ev.step (f := fun k => laws_markClueS.l0 k (mk3 (i + 1) ++ l.drop (i + 1)) (1 + 3 * ((i + 1 : Nat) : Int)) ((i + 1 : Nat) : Int)) (fun k => ?_) (ih (i + 1) (by omega) (by omega))
    simp only [laws_markClueS.l0, Option.bind_some]
    rw [if_pos (by omega), if_pos (by omega), Int.toNat_natCast, rd_set _ i (by omega), rd_set _ i (by simp only [List.length_set]; omega)]
    simp only [List.set_set]
    have e : (mk3 i ++ l.drop i).set i ⟨1 + 3 * (i : Int), 2 + 3 * (i : Int), 3 + 3 * (i : Int)⟩ = mk3 (i + 1) ++ l.drop (i + 1) := by
      rw [List.drop_eq_getElem_cons hlt, mk3_succ, List.append_assoc, List.singleton_append]
      have := List.set_append_right (s := mk3 i) (t := l[i] :: l.drop (i + 1)) i (⟨1 + 3 * (i : Int), 2 + 3 * (i : Int), 3 + 3 * (i : Int)⟩ : S28) (by rw [mk3_len]; exact Nat.le_refl _)
      rw [this, mk3_len, Nat.sub_self]
      rfl
    have e1 : wrap64 (1 + 3 * (i : Int) + 1) = 2 + 3 * (i : Int) := by rw [w64 (by omega) (by omega)]; omega
    have e2 : wrap64 (2 + 3 * (i : Int) + 1) = 3 + 3 * (i : Int) := by rw [w64 (by omega) (by omega)]; omega
    have e3 : wrap64 (3 + 3 * (i : Int) + 1) = 1 + 3 * ((i + 1 : Nat) : Int) := by rw [w64 (by omega) (by omega)]; omega
    rw [e1, e2, e3, e, w64 (by omega) (by omega)]
    rfl
theorem markPuzzle_ev (r : ByteArray) (w h : Int) (l : List S28) (hl : l.length ≤ 1048576) : Ev (fun k => laws_markPuzzle.f k r w h l 1) (1 + 3 * (l.length : Int), mk3 l.length) := by
  unfold laws_markPuzzle.f laws_markClueS.f
  exact Ev.bind (by simpa [mk3] using markClueS_loop l hl l.length 0 (by omega) (by omega)) (Ev.now _)
theorem heldClueS_loop (n : Nat) (hl : n ≤ 1048576) (d : Nat) : ∀ i : Nat, n - i = d → i ≤ n →
    Ev (fun k => laws_heldClueS.l0 k (mk3 n) (1 + 3 * (i : Int)) (i : Int)) (1 + 3 * (n : Int)) := by
  induction d with
  | zero =>
    intro i hd hi
    have e : i = n := by omega
    subst e
    refine Ev.step (f := fun _ => some (1 + 3 * (i : Int))) (fun k => ?_) (Ev.now _)
    simp only [laws_heldClueS.l0]
    rw [if_neg (by simp [mk3_len])]
  | succ d ih =>
    intro i hd hi
    have hlt : i < n := by omega
    refine Ev.step (f := fun k => laws_heldClueS.l0 k (mk3 n) (1 + 3 * ((i + 1 : Nat) : Int)) ((i + 1 : Nat) : Int)) (fun k => ?_) (ih (i + 1) (by omega) (by omega))
    simp only [laws_heldClueS.l0]
    have e1 : wrap64 (1 + 3 * (i : Int) + 1) = 2 + 3 * (i : Int) := by rw [w64 (by omega) (by omega)]; omega
    have e2 : wrap64 (2 + 3 * (i : Int) + 1) = 3 + 3 * (i : Int) := by rw [w64 (by omega) (by omega)]; omega
    have e3 : wrap64 (3 + 3 * (i : Int) + 1) = 1 + 3 * ((i + 1 : Nat) : Int) := by rw [w64 (by omega) (by omega)]; omega
    have hr : rd_T28 (mk3 n) (i : Int) = ⟨1 + 3 * (i : Int), 2 + 3 * (i : Int), 3 + 3 * (i : Int)⟩ := by
      rw [rdI _ i (by rw [mk3_len]; exact hlt)]
      simp [mk3]
    rw [mk3_len, if_pos (by omega), if_pos (by omega), hr, if_pos rfl, if_pos e1.symm, e1, if_pos e2.symm, e2, e3, w64 (by omega) (by omega)]
    rfl
theorem heldPuzzle_ev (r : ByteArray) (w h : Int) (n : Nat) (hl : n ≤ 1048576) : Ev (fun k => laws_heldPuzzle.f k r w h (mk3 n) 1) (1 + 3 * (n : Int)) := by
  unfold laws_heldPuzzle.f laws_heldClueS.f
  refine Ev.bind (by simpa using heldClueS_loop n hl n 0 (by omega) (by omega)) ?_
  rw [if_neg (by omega)]
  exact Ev.now _
end Go.Proofs.YteemifeclhenbaaDoor.P
