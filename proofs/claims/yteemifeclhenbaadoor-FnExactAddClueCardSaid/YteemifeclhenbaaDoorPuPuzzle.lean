import Derived.Test.YteemifeclhenbaaDoorIsPuz
import Derived.Test.YteemifeclhenbaaDoorP3
import Derived.Test.YteemifeclhenbaaDoorP3
import Derived.Test.YteemifeclhenbaaDoorP4
import Derived.Test.YteemifeclhenbaaDoorP2
/- Puzzles: the program's and the reference's answer alike; puzzles copied and compared. -/
namespace Go.Proofs.YteemifeclhenbaaDoor.P
open Go.RowKit Go.Proofs.YteemifeclhenbaaDoorW.PrintWords Go.Proofs.YteemifeclhenbaaDoorW.PrintLast Go.Proofs.YteemifeclhenbaaDoorW.PrintMore
open Go.Proofs.YteemifeclhenbaaDoor.B
set_option linter.unusedVariables false
set_option linter.unusedSimpArgs false
def toC (x : S26) : S28 := ⟨x.f0, x.f1, x.f2⟩
theorem rdL (l : List S26) (i : Nat) (h : i < l.length) : rd_T26 l (i : Int) = l[i] := by
  unfold rd_T26
  rw [Int.toNat_natCast, List.getD_eq_getElem?_getD, List.getElem?_eq_getElem h]
  rfl
theorem rdI (l : List S28) (i : Nat) (h : i < l.length) : rd_T28 l (i : Int) = l[i] := by
  unfold rd_T28
  rw [Int.toNat_natCast, List.getD_eq_getElem?_getD, List.getElem?_eq_getElem h]
  rfl
theorem set_snoc {α : Type} (a : List α) (z y : α) (n : Nat) : (a ++ List.replicate (n + 1) z).set a.length y = (a ++ [y]) ++ List.replicate n z := by
  rw [List.replicate_succ, List.set_append_right _ _ (Nat.le_refl _), Nat.sub_self]
  simp
theorem toClueS_loop (l : List S26) (hl : l.length ≤ 1048576) (d : Nat) : ∀ i : Nat, l.length - i = d → i ≤ l.length →
    Ev (fun k => laws_toClueS.l0 k l ((l.take i).map toC ++ List.replicate (l.length - i) z28) (i : Int)) (l.map toC) := by
  induction d with
  | zero =>
    intro i hd hi
    have e : i = l.length := by omega
    subst e
    refine Ev.step (f := fun _ => some (l.map toC)) (fun k => ?_) (Ev.now _)
    simp only [laws_toClueS.l0]
    rw [if_neg (by omega)]
    simp
  | succ d ih =>
    intro i hd hi
    have hlt : i < l.length := by omega
    refine Ev.step (f := fun k => laws_toClueS.l0 k l ((l.take (i + 1)).map toC ++ List.replicate (l.length - (i + 1)) z28) ((i + 1 : Nat) : Int)) (fun k => ?_) (ih (i + 1) (by omega) (by omega))
    simp only [laws_toClueS.l0]
    have hlen : ((l.take i).map toC).length = i := by simp; omega
    rw [if_pos (by omega), if_pos (by omega), rdL l i hlt]
    unfold laws_toClue.f
    rw [Option.bind_some, if_pos (by simp; omega), w64 (by omega) (by omega)]
    have e1 : l.length - i = (l.length - (i + 1)) + 1 := by omega
    have e2 := set_snoc ((l.take i).map toC) z28 (toC l[i]) (l.length - (i + 1))
    rw [hlen] at e2
    rw [e1, Int.toNat_natCast]
    show laws_toClueS.l0 k l ((_ : List S28).set i (toC l[i])) _ = _
    rw [e2, List.take_succ_eq_append_getElem hlt, List.map_append]
    rfl
theorem toClueS_ev (l : List S26) (hl : l.length ≤ 1048576) : Ev (fun k => laws_toClueS.f k l) (l.map toC) := by
  unfold laws_toClueS.f
  have h := toClueS_loop l hl l.length 0 (by omega) (by omega)
  have e : (if 0 ≤ (l.length : Int) then (if ((l.length : Int) : Int).toNat ≤ 11728124029610 then (1 : Nat) else 0) else 0) = 1 := by rw [if_pos (by omega), if_pos (by omega)]
  refine Ev.ite (fun _ => ?_) (fun hn => absurd (by omega) hn)
  refine Ev.ite (fun _ => ?_) (fun hn => absurd (by omega) hn)
  simpa using h
theorem toPuzzle_ev (r : ByteArray) (w h : Int) (l : List S26) (hl : l.length ≤ 1048576) : Ev (fun k => laws_toPuzzle.f k r w h l) (r, w, h, l.map toC) := by
  unfold laws_toPuzzle.f
  exact Ev.bind (toClueS_ev l hl) (Ev.now _)
theorem szPuzzle_some (r : ByteArray) (w h : Int) (l : List S26) (hr : r.size ≤ 9223372036854775807) (hl : l.length ≤ 9223372036854775807) :
    ∃ t, laws_szPuzzle.f r w h l 1048576 = some t ∧ (¬ t < 0 → r.size ≤ 1048576 ∧ l.length ≤ 1048576) := by
  unfold laws_szPuzzle.f laws_szClueS.f
  rw [w64 (show -9223372036854775808 ≤ (1048576 : Int) - (r.size : Int) by omega) (by omega)]
  split
  · exact ⟨_, rfl, fun h => absurd (by decide) h⟩
  · rename_i h1
    rw [w64 (show -9223372036854775808 ≤ (1048576 : Int) - (r.size : Int) - (l.length : Int) by omega) (by omega)]
    split
    · exact ⟨_, rfl, fun h => absurd (by decide) h⟩
    · rename_i h2
      rw [Option.bind_some, if_neg h2]
      exact ⟨_, rfl, fun h => by omega⟩
theorem eqClue_self (a b c : Int) : laws_eqClue.f a b c a b c = some true := by simp [laws_eqClue.f]
theorem eqClueS_loop (l : List S28) (hl : l.length ≤ 1048576) (d : Nat) : ∀ i : Nat, l.length - i = d → i ≤ l.length → Ev (fun k => laws_eqClueS.l0 k l l (i : Int)) true := by
  induction d with
  | zero =>
    intro i hd hi
    refine Ev.step (f := fun _ => some true) (fun k => ?_) (Ev.now _)
    simp only [laws_eqClueS.l0]
    rw [if_neg (by omega)]
  | succ d ih =>
    intro i hd hi
    refine Ev.step (f := fun k => laws_eqClueS.l0 k l l ((i + 1 : Nat) : Int)) (fun k => ?_) (ih (i + 1) (by omega) (by omega))
    simp only [laws_eqClueS.l0, eqClue_self, Option.bind_some, if_true]
    rw [if_pos (by omega), if_pos (by omega), if_pos (by omega), w64 (by omega) (by omega)]
    rfl
theorem eqPuzzle_self (r : ByteArray) (w h : Int) (l : List S28) (hl : l.length ≤ 1048576) : Ev (fun k => laws_eqPuzzle.f k r w h l r w h l) true := by
  unfold laws_eqPuzzle.f laws_eqClueS.f
  simp only [if_true]
  refine Ev.bind (eqClueS_loop l hl l.length 0 (by omega) (by omega)) ?_
  simp only [if_true]
  exact Ev.now _
/-- What a puzzle is. -/
def puzzleB (r : ByteArray) (w h : Int) (l : List S28) : Bool :=
  (sizeB r w h && decide (boardsN r w h ≤ 300)) && (decide (l.length ≤ 6) && l.all fun x => clueB r.size (w * h) x.f0 x.f1 x.f2)
theorem pzGood_loop (r : ByteArray) (w h : Int) (l : List S28) (hr : r.size ≤ 9223372036854775807) (hw : 1 ≤ w * h ∧ w * h ≤ 81) (hl : l.length ≤ 6) (d : Nat) : ∀ i : Nat, l.length - i = d → i ≤ l.length →
    Ev (fun k => spec_pzGood.l0 k l (l.length : Int) (i : Int) r w h l) ((l.drop i).all fun x => clueB r.size (w * h) x.f0 x.f1 x.f2) := by
  induction d with
  | zero =>
    intro i hd hi
    rw [List.drop_of_length_le (by omega)]
    refine Ev.step (f := fun _ => some true) (fun k => ?_) (Ev.now _)
    simp only [spec_pzGood.l0]
    rw [if_neg (by omega)]
  | succ d ih =>
    intro i hd hi
    have hlt : i < l.length := by omega
    rw [List.drop_eq_getElem_cons hlt, List.all_cons]
    refine Ev.step (f := fun k => if clueB r.size (w * h) l[i].f0 l[i].f1 l[i].f2 = true then spec_pzGood.l0 k l (l.length : Int) ((i + 1 : Nat) : Int) r w h l else some false) (fun k => ?_) ?_
    · simp only [spec_pzGood.l0]
      rw [if_pos (by omega), if_pos (by omega), if_pos (by omega), rdI l i hlt, w64 (by omega) (by omega), pzClue_eq r (w * h) _ _ _ hr (by omega), Option.bind_some, w64 (by omega) (by omega)]
      rfl
    · refine Ev.ite (fun hc => ?_) (fun hc => ?_)
      · rw [hc, Bool.true_and]
        exact ih (i + 1) (by omega) (by omega)
      · rw [Bool.eq_false_iff.mpr hc, Bool.false_and]
        exact Ev.now false
theorem pzGood_ev (r : ByteArray) (w h : Int) (l : List S28) (hr : r.size ≤ 9223372036854775807) : Ev (fun k => spec_pzGood.f k r w h l) (puzzleB r w h l) := by
  unfold spec_pzGood.f puzzleB
  refine Ev.bind (pzSize_ev r w h hr) ?_
  refine Ev.ite (fun h1 => ?_) (fun h1 => ?_)
  · rw [h1, Bool.true_and]
    obtain ⟨h2, _⟩ := Bool.and_eq_true_iff.mp h1
    obtain ⟨ha, hb, hc, hd⟩ := sizeB_parts h2
    have hp := prod_bd hb hc
    by_cases h6 : l.length ≤ 6
    · rw [decide_eq_true h6, Bool.true_and]
      refine Ev.step (f := fun k => spec_pzGood.l0 k l (l.length : Int) 0 r w h l) (fun k => ?_) ?_
      · simp only [spec_pzGood.j0]
        rw [if_neg (by rw [decide_eq_false (by omega)]; decide)]
      · have := pzGood_loop r w h l hr hp h6 l.length 0 (by omega) (by omega)
        rw [List.drop_zero] at this
        exact this
    · rw [decide_eq_false h6, Bool.false_and]
      refine Ev.step (f := fun _ => some false) (fun k => ?_) (Ev.now _)
      simp only [spec_pzGood.j0]
      rw [if_pos (by rw [decide_eq_true (by omega)])]
  · rw [Bool.eq_false_iff.mpr h1, Bool.false_and]
    refine Ev.step (f := fun _ => some false) (fun k => ?_) (Ev.now _)
    simp only [spec_pzGood.j0, if_true]
theorem implIsPuzzle_eq (r : ByteArray) (w h : Int) (l : List S28) (hr : r.size ≤ 9223372036854775807) : impl_IsPuzzle.f r w h l = some (puzzleB r w h l) := by
  unfold impl_IsPuzzle.f puzzleB
  rw [if_pos hr]
  congr 1
  cases hv : (sizeB r w h && decide (boardsN r w h ≤ 300)) with
  | false => rfl
  | true =>
    obtain ⟨h2, _⟩ := Bool.and_eq_true_iff.mp hv
    obtain ⟨ha, hb, hc, hd⟩ := sizeB_parts h2
    have hp := prod_bd hb hc
    have e : clueOk r w h = fun x => clueB r.size (w * h) x.f0 x.f1 x.f2 := by
      funext x
      unfold clueOk
      rw [w64 (by omega) (by omega), ha, Bool.true_and, show inB (w * h) 1 9 = true from decide_eq_true (by omega), Bool.true_and]
    rw [e]
end Go.Proofs.YteemifeclhenbaaDoor.P
