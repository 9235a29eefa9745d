/- Puzzles in the laws: copies, marks. -/
import Derived.Test.YtaookbfcncfkbaaGreatDoorPuWo
namespace Go.Proofs.YtaookbfcncfkbaaGreatDoorS
open Go
set_option linter.unusedVariables false
set_option linter.unusedSimpArgs false

/-! ### The laws' helpers -/
theorem eqPuzzle_ev (rl : ByteArray) (w h : Int) (a : List Cl) (hl : a.length ≤ 1048576) : Ev (fun k => laws_eqPuzzle k ((rl, w, h, a), (rl, w, h, a))) true := by
  have loop : ∀ (m i : Nat), i + m = a.length → Ev (fun k => laws_eqClueS_l k (a, a, (i : Int))) (.inr ()) := by
    intro m
    induction m with
    | zero => intro i h; exact Ev.step (fun k => laws_eqClueS_l.eq k a a i) (Ev.no (not_lt_nat (by omega)) (Ev.now _))
    | succ m ih =>
      intro i h
      refine Ev.step (fun k => laws_eqClueS_l.eq k a a i) (Ev.yes (lt_nat (by omega)) (Ev.yes (inB_nat (by omega)) (Ev.yes (inB_nat (by omega)) ?_)))
      generalize a.getD (i : Int).toNat default = x
      refine Ev.bind (a := true) (Ev.step (fun k => laws_eqClue.eq k x.1 x.2.1 x.2.2 x.1 x.2.1 x.2.2) (Ev.no (neq_self _) (Ev.no (neq_self _) (Ev.no (neq_self _) (Ev.now _))))) (Ev.no rfl ?_)
      rw [w64_succ (by omega)]
      exact ih (i + 1) (by omega)
  exact Ev.step (fun k => laws_eqPuzzle.eq k rl w h a rl w h a) (Ev.no (by rw [strEq_self]; rfl) (Ev.no (neq_self _) (Ev.no (neq_self _) (Ev.bind (Ev.step (fun k => laws_eqClueS.eq k a a) (Ev.no (neq_self _) (Ev.bind (loop a.length 0 (by omega)) (Ev.now _)))) (Ev.no rfl (Ev.now _))))))
theorem markPuzzle_ev (rl : ByteArray) (w h : Int) (a : List Cl) (hl : a.length ≤ 1048576) : ∃ M, Ev (fun k => laws_markPuzzle k ((rl, w, h, a), 1)) (1 + 3 * (a.length : Int), M) := by
  have loop : ∀ (m i : Nat) (b : List Cl) (n : Int), i + m = b.length → b.length ≤ 1048576 → 0 ≤ n → n + 3 * m ≤ 1099511627776 → ∃ M, Ev (fun k => laws_markClueS_l k (b, n, (i : Int), ())) (n + 3 * m, M) := by
    intro m
    induction m with
    | zero => intro i b n h hl h0 h1; exact ⟨b, Ev.step (fun k => laws_markClueS_l.eq k b n i) (Ev.no (not_lt_nat (by omega)) (Ev.now' (by simp)))⟩
    | succ m ih =>
      intro i b n h hl h0 h1
      have e1 : w64 (n + 1) = n + 1 := w64_of (by omega) (by omega)
      have e2 : w64 (n + 1 + 1) = n + 2 := by rw [w64_of (by omega) (by omega)]; omega
      have e3 : w64 (n + 2 + 1) = n + 3 := by rw [w64_of (by omega) (by omega)]; omega
      have hi : i < b.length := by omega
      have g1 : ∀ y : Cl, (b.set i y).getD i default = y := fun y => getD_at (by rw [List.getElem?_set_self hi])
      obtain ⟨M, hM⟩ := ih (i + 1) (b.set i (n, n + 1, n + 2)) (n + 3) (by rw [List.length_set]; omega) (by rw [List.length_set]; exact hl) (by omega) (by omega)
      refine ⟨M, Ev.step (fun k => laws_markClueS_l.eq k b n i) (Ev.yes (lt_nat (by omega)) (Ev.yes (inB_nat (by omega)) ?_))⟩
      simp only [Int.toNat_natCast, List.set_set, g1, e1, e2, e3]
      refine Ev.yes (inB_nat (by rw [List.length_set]; omega)) (Ev.yes (inB_nat (by rw [List.length_set]; omega)) ?_)
      rw [w64_succ (by omega), show n + 3 * ((m + 1 : Nat) : Int) = n + 3 + 3 * (m : Int) by omega]
      exact hM
  obtain ⟨M, hM⟩ := loop a.length 0 a 1 (by omega) hl (by omega) (by omega)
  exact ⟨_, Ev.step (fun k => laws_markPuzzle.eq k rl w h a 1) (Ev.bind (Ev.step (fun k => laws_markClueS.eq k a 1) (Ev.bind hM (Ev.now _))) (Ev.now _))⟩
theorem markHeld_ev (rl : ByteArray) (w h : Int) (a : List Cl) (hl : a.length ≤ 1048576) : ∃ M, Ev (fun k => laws_markPuzzle k ((rl, w, h, a), 1)) (1 + 3 * (a.length : Int), (rl, w, h, M)) ∧ Ev (fun k => laws_heldPuzzle k ((rl, w, h, M), 1)) (1 + 3 * (a.length : Int)) := by
  have loop : ∀ (m i : Nat) (b : List Cl), i + m = b.length → b.length ≤ 1048576 → ∃ M, Ev (fun k => laws_markClueS_l k (b, 1 + 3 * (i : Int), (i : Int), ())) (1 + 3 * (b.length : Int), M) ∧ M.length = b.length ∧ (∀ j, j < i → M[j]? = b[j]?) ∧ ∀ j : Nat, i ≤ j → j < b.length → M[j]? = some (1 + 3 * (j : Int), 2 + 3 * (j : Int), 3 + 3 * (j : Int)) := by
    intro m
    induction m with
    | zero => intro i b h hl; exact ⟨b, Ev.step (fun k => laws_markClueS_l.eq k b _ i) (Ev.no (not_lt_nat (by omega)) (Ev.now' (by rw [show i = b.length by omega]))), rfl, fun _ _ => rfl, fun j h1 h2 => by omega⟩
    | succ m ih =>
      intro i b h hl
      have e1 : w64 (1 + 3 * (i : Int) + 1) = 2 + 3 * (i : Int) := by rw [w64_of (by omega) (by omega)]; omega
      have e2 : w64 (2 + 3 * (i : Int) + 1) = 3 + 3 * (i : Int) := by rw [w64_of (by omega) (by omega)]; omega
      have e3 : w64 (3 + 3 * (i : Int) + 1) = 1 + 3 * ((i + 1 : Nat) : Int) := by rw [w64_of (by omega) (by omega)]; omega
      have hi : i < b.length := by omega
      have g1 : ∀ y : Cl, (b.set i y).getD i default = y := fun y => getD_at (by rw [List.getElem?_set_self hi])
      obtain ⟨M, hM, hL, h1, h2⟩ := ih (i + 1) (b.set i (1 + 3 * (i : Int), 2 + 3 * (i : Int), 3 + 3 * (i : Int))) (by rw [List.length_set]; omega) (by rw [List.length_set]; exact hl)
      rw [List.length_set] at hM hL h2
      refine ⟨M, Ev.step (fun k => laws_markClueS_l.eq k b _ i) (Ev.yes (lt_nat (by omega)) (Ev.yes (inB_nat (by omega)) ?_)), hL, fun j hj => ?_, fun j hj1 hj2 => ?_⟩
      · simp only [Int.toNat_natCast, List.set_set, g1, e1, e2, e3]
        refine Ev.yes (inB_nat (by rw [List.length_set]; omega)) (Ev.yes (inB_nat (by rw [List.length_set]; omega)) ?_)
        rw [w64_succ (by omega)]
        exact hM
      · rw [h1 j (by omega), List.getElem?_set, if_neg (by omega)]
      · by_cases e : j = i
        · subst e
          rw [h1 j (by omega), List.getElem?_set, if_pos rfl, if_pos hi]
        · exact h2 j (by omega) hj2
  obtain ⟨M, hM, hL, _, h2⟩ := loop a.length 0 a (by omega) hl
  have held : ∀ (m i : Nat), i + m = M.length → Ev (fun k => laws_heldClueS_l k (M, 1 + 3 * (i : Int), (i : Int))) (.inr (1 + 3 * (M.length : Int))) := by
    intro m
    induction m with
    | zero => intro i h; exact Ev.step (fun k => laws_heldClueS_l.eq k M _ i) (Ev.no (not_lt_nat (by omega)) (Ev.now' (by rw [show i = M.length by omega])))
    | succ m ih =>
      intro i h
      have hx := h2 i (Nat.zero_le _) (by omega)
      have e1 : w64 (1 + 3 * (i : Int) + 1) = 2 + 3 * (i : Int) := by rw [w64_of (by omega) (by omega)]; omega
      have e2 : w64 (2 + 3 * (i : Int) + 1) = 3 + 3 * (i : Int) := by rw [w64_of (by omega) (by omega)]; omega
      have e3 : w64 (3 + 3 * (i : Int) + 1) = 1 + 3 * ((i + 1 : Nat) : Int) := by rw [w64_of (by omega) (by omega)]; omega
      refine Ev.step (fun k => laws_heldClueS_l.eq k M _ i) (Ev.yes (lt_nat (by omega)) (Ev.yes (inB_nat (by omega)) ?_))
      rw [Int.toNat_natCast, getD_at hx, e1, e2, e3, w64_succ (by omega)]
      exact Ev.no (neq_self _) (Ev.yes (inB_nat (by omega)) (Ev.no (neq_self _) (Ev.yes (inB_nat (by omega)) (Ev.no (neq_self _) (ih (i + 1) (by omega))))))
  have h0 := held M.length 0 (by omega)
  rw [hL] at h0
  have n0 : decide (1 + 3 * (a.length : Int) < 0) = false := decide_eq_false (by omega)
  exact ⟨M, Ev.step (fun k => laws_markPuzzle.eq k rl w h a 1) (Ev.bind (Ev.step (fun k => laws_markClueS.eq k a 1) (Ev.bind hM (Ev.now _))) (Ev.now _)),
    Ev.step (fun k => laws_heldPuzzle.eq k rl w h M 1) (Ev.bind (Ev.step (fun k => laws_heldClueS.eq k M 1) (Ev.bind h0 (Ev.now _))) (Ev.no n0 (Ev.now _)))⟩
end Go.Proofs.YtaookbfcncfkbaaGreatDoorS
