/- Puzzles in the laws: copies, marks. -/
import Derived.Test.YtaookbfcncfkbaaDoorPuWo
namespace Go.Proofs.YtaookbfcncfkbaaDoorS
open Go
set_option linter.unusedVariables false
set_option linter.unusedSimpArgs false

/-! ### The laws' helpers -/
theorem szPuzzle_ev (rl : ByteArray) (w h : Int) (cl : List Cl) (h1 : rl.size ≤ 9223372036854775807) (h2 : cl.length ≤ 9223372036854775807) : ∃ r, Ev (fun k => laws_szPuzzle k ((rl, w, h, cl), 1048576)) r ∧ (r < 0 ∨ cl.length ≤ 1048576) := by
  have e1 := w64_of (n := 1048576 - (rl.size : Int)) (by omega) (by omega)
  by_cases c1 : (1048576 : Int) - (rl.size : Int) < 0
  · exact ⟨-1, Ev.step (fun k => laws_szPuzzle.eq k rl w h cl 1048576) (Ev.yes (decide_eq_true (by rw [e1]; exact c1)) (Ev.now _)), .inl (by omega)⟩
  · have e2 := w64_of (n := 1048576 - (rl.size : Int) - (cl.length : Int)) (by omega) (by omega)
    have go : ∀ v r, Ev (fun k => laws_szClueS k (cl, 1048576 - (rl.size : Int))) v → Ev (fun k => cond (decide (v < 0)) (some (-1)) (some v)) r → Ev (fun k => laws_szPuzzle k ((rl, w, h, cl), 1048576)) r := fun v r hv Hr => by
      refine Ev.step (fun k => laws_szPuzzle.eq k rl w h cl 1048576) (Ev.no (decide_eq_false (by rw [e1]; exact c1)) ?_)
      rw [e1]
      exact Ev.bind hv Hr
    by_cases c2 : (1048576 : Int) - (rl.size : Int) - (cl.length : Int) < 0
    · exact ⟨-1, go (-1) _ (Ev.step (fun k => laws_szClueS.eq k cl _) (Ev.yes (decide_eq_true (by rw [e2]; exact c2)) (Ev.now _))) (Ev.yes rfl (Ev.now _)), .inl (by omega)⟩
    · exact ⟨_, go _ _ (Ev.step (fun k => laws_szClueS.eq k cl _) (Ev.no (decide_eq_false (by rw [e2]; exact c2)) (Ev.now' e2))) (Ev.no (decide_eq_false c2) (Ev.now _)), .inr (by omega)⟩
theorem toClueS_l_ev (a : List Cl) (hl : a.length ≤ 1048576) : ∀ (m i : Nat) (out : List Cl), i + m = a.length → out.length = a.length → (∀ j, j < i → out[j]? = a[j]?) → Ev (fun k => laws_toClueS_l k (a, out, (i : Int))) a
  | 0, i, out, h, ho, he => Ev.step (fun k => laws_toClueS_l.eq k a out i) (Ev.no (not_lt_nat (by omega)) (Ev.now' (List.ext_getElem? fun j => by
      by_cases hj : j < i
      · exact he j hj
      · rw [List.getElem?_eq_none (by omega), List.getElem?_eq_none (by omega)])))
  | m + 1, i, out, h, ho, he => by
    obtain ⟨x, hx⟩ := nat_list (l := a) (i := i) (by omega)
    refine Ev.step (fun k => laws_toClueS_l.eq k a out i) (Ev.yes (lt_nat (by omega)) (Ev.yes (inB_nat (by omega)) ?_))
    rw [Int.toNat_natCast, getD_at hx]
    refine Ev.bind (a := x) (Ev.step (fun k => laws_toClue.eq k x.1 x.2.1 x.2.2) (Ev.now _)) (Ev.yes (inB_nat (by omega)) ?_)
    rw [w64_succ (by omega)]
    refine toClueS_l_ev a hl m (i + 1) _ (by omega) (by rw [List.length_set]; exact ho) fun j hj => ?_
    rw [List.getElem?_set]
    split
    · rename_i e
      subst e
      rw [if_pos (by omega), hx]
    · exact he j (by omega)
theorem toPuzzle_ev (rl : ByteArray) (w h : Int) (a : List Cl) (hl : a.length ≤ 1048576) : Ev (fun k => laws_toPuzzle k (rl, w, h, a)) (rl, w, h, a) := by
  refine Ev.step (fun k => laws_toPuzzle.eq k rl w h a) (Ev.bind (a := a) (Ev.step (fun k => laws_toClueS.eq k a) (Ev.yes ?_ (Ev.bind (toClueS_l_ev a hl a.length 0 _ (by omega) ?_ fun j hj => by omega) (Ev.now _)))) (Ev.now _))
  · rw [fits_of (by rw [Int.toNat_natCast]; omega)]
    simp
  · rw [List.length_replicate, Int.toNat_natCast]
theorem eqPuzzle_ev (rl : ByteArray) (w h : Int) (a : List Cl) (hl : a.length ≤ 1048576) : Ev (fun k => laws_eqPuzzle k ((rl, w, h, a), (rl, w, h, a))) true := by
  have loop : ∀ (m i : Nat), i + m = a.length → Ev (fun k => laws_eqClueS_l k (a, a, (i : Int))) (.inr ()) := by
    intro m
    induction m with
    | zero => intro i h; exact Ev.step (fun k => laws_eqClueS_l.eq k a a i) (Ev.no (not_lt_nat (by omega)) (Ev.now _))
    | succ m ih =>
      intro i h
      refine Ev.step (fun k => laws_eqClueS_l.eq k a a i) (Ev.yes (lt_nat (by omega)) (Ev.yes (inB_nat (by omega)) (Ev.yes (inB_nat (by omega)) ?_)))
      generalize a.getD (i : Int).toNat default = x
      refine Ev.bind (a := true) (Ev.step (fun k => laws_eqClue.eq k x.1 x.2.1 x.2.2 x.1 x.2.1 x.2.2) (Ev.no (neq_self _) (Ev.no (neq_self _) (Ev.no (neq_self _) (Ev.now _))))) (Ev.no rfl ?_)
      rw [w64_succ (by omega)]
      exact ih (i + 1) (by omega)
  exact Ev.step (fun k => laws_eqPuzzle.eq k rl w h a rl w h a) (Ev.no (by rw [strEq_self]; rfl) (Ev.no (neq_self _) (Ev.no (neq_self _) (Ev.bind (Ev.step (fun k => laws_eqClueS.eq k a a) (Ev.no (neq_self _) (Ev.bind (loop a.length 0 (by omega)) (Ev.now _)))) (Ev.no rfl (Ev.now _))))))
end Go.Proofs.YtaookbfcncfkbaaDoorS
