/- Steps that lead back; bytes laid twice; remainders. -/
import Derived.Test.YtplamonjnlgomaaGreatDoorPuWorldOk
import Derived.Test.YtplamonjnlgomaaGreatDoorSimZ
namespace Go.Proofs.YtplamonjnlgomaaGreatDoorS
open Go
set_option linter.unusedVariables false
set_option linter.unusedSimpArgs false

theorem go1_inv {n m M : Int} (hn : 0 ≤ n ∧ n ≤ M - 1) (hm : 0 ≤ m ∧ m ≤ M - 1) : (go1 n M (-1) = m ↔ n = go1 m M 1) ∧ (go1 n M 1 = m ↔ n = go1 m M (-1)) := by
  unfold go1
  constructor <;> split <;> first | omega | (split <;> first | omega | (split <;> first | omega | (split <;> omega)))
theorem back_go {n M d : Int} (h : 0 ≤ n ∧ n ≤ M - 1) (hd : d = 1 ∨ d = -1 ∨ d = 0) : go1 (go1 n M d) M (-d) = n := by
  have g1 := go1_in (d := 1) h (by omega)
  have g2 := go1_in (d := -1) h (by omega)
  rcases hd with rfl | rfl | rfl
  · exact ((go1_inv g1 h).1).2 rfl
  · exact ((go1_inv g2 h).2).2 rfl
  · rw [Int.neg_zero, go1_zero h, go1_zero h]
theorem dW_cases (wy : Int) : (dxW wy = 1 ∨ dxW wy = -1 ∨ dxW wy = 0) ∧ (dyW wy = 1 ∨ dyW wy = -1 ∨ dyW wy = 0) := by
  unfold dxW dyW
  constructor <;> split <;> first | omega | (split <;> omega)
theorem bt_set {s : ByteArray} {k : Nat} (j : Nat) (hk : k < s.size) (c : UInt8) : bt (setByte s k c) j = if j = k then (c.toNat : Int) else bt s j := by
  unfold bt setByte
  show ((((s.data.toList.set k c).toArray).getD j 0).toNat : Int) = _
  rw [Array.getD_eq_getD_getElem?, Array.getD_eq_getD_getElem?, List.getElem?_toArray, List.getElem?_set, ← Array.getElem?_toList]
  rw [size_list] at hk
  by_cases h : j = k
  · subst h
    have hk' : j < s.size := by rw [size_list]; exact hk
    simp [hk, hk']
  · rw [if_neg (fun e => h e.symm), if_neg h]
theorem set_twice {s : ByteArray} {k : Nat} {c d : UInt8} (h : s.data.toList[k]? = some d) : setByte (setByte s k c) k d = s := by
  apply ba_ext
  unfold setByte
  show ((s.data.toList.set k c).set k d) = s.data.toList
  rw [List.set_set]
  obtain ⟨h1, h2⟩ := List.getElem?_eq_some_iff.1 h
  rw [← h2, List.set_getElem_self]
theorem of_digit {c : UInt8} (h : 48 ≤ c.toNat) : UInt8.ofNat ((48 : Int) + ((c.toNat : Int) - 48)).toNat = c := by
  rw [show ((48 : Int) + ((c.toNat : Int) - 48)).toNat = c.toNat by omega]
  simp
theorem ba_beq (s : ByteArray) : (s == s) = true := by
  obtain ⟨d⟩ := s
  show (d == d) = true
  simp
theorem same7 (W : Wo) : (!((W.1 == W.1) && ((W.2.1 == W.2.1) && ((W.2.2.1 == W.2.2.1) && ((W.2.2.2.1 == W.2.2.2.1) && ((W.2.2.2.2.1 == W.2.2.2.2.1) && ((W.2.2.2.2.2.1 == W.2.2.2.2.2.1) && ((W.2.2.2.2.2.2 == W.2.2.2.2.2.2) && true)))))))) = false := by simp [ba_beq]
theorem sameB (b : Bool) : (!(b == b)) = false := by cases b <;> rfl
theorem sameS (s : ByteArray) : (!(strEq s s)) = false := by rw [strEq_self]; rfl
theorem good8 {x : Int} (h : (Sh.int IntKind.u8).good x) : 0 ≤ x ∧ x ≤ 255 := by
  have h : (Lit.int .u8 x).wf = true := h
  simp [Lit.wf, IntKind.min, IntKind.max, IntKind.bits, IntKind.signed] at h
  omega
theorem l1Mod_gen (n m : Int) (hm : 1 ≤ m ∧ m ≤ 1000000) (hn : -1000000000 ≤ n ∧ n ≤ 1000000000) : Ev (fun k => spec_l1Mod k (n, m)) (n % m) := by
  have h1 := Int.tmod_lt_of_pos n (show (0 : Int) < m by omega)
  have h2 : -m < n.tmod m := by
    by_cases h0 : 0 ≤ n
    · have := Int.tmod_nonneg m h0
      omega
    · have e : n.tmod m = -((-n).tmod m) := by rw [Int.neg_tmod, Int.neg_neg]
      have := Int.tmod_lt_of_pos (-n) (show (0 : Int) < m by omega)
      omega
  have e1 : w64 (n.tmod m + m) = n.tmod m + m := w64_of (by omega) (by omega)
  refine Ev.step (fun k => spec_l1Mod.eq k n m) (Ev.yes (by rw [bne_iff_ne]; omega) (Ev.yes (by rw [bne_iff_ne]; omega) (Ev.now' ?_)))
  rw [e1, Int.tmod_eq_emod_of_nonneg (by omega), Int.add_emod_right, Int.tmod_def, Int.sub_mul_emod_self_left]
theorem kSame_ev (a : List Int) (hl : a.length ≤ 1048576) : Ev (fun k => laws_kSame k (a, a)) true := by
  have h : ∀ (m i : Nat), i + m = a.length → Ev (fun k => laws_kSame_l k (a, a, (a.length : Int), (i : Int))) (.inr ()) := by
    intro m
    induction m with
    | zero => intro i h; exact Ev.step (fun k => laws_kSame_l.eq k a a (a.length : Int) i) (Ev.no (not_lt_nat (by omega)) (Ev.now _))
    | succ m ih =>
      intro i h
      refine Ev.step (fun k => laws_kSame_l.eq k a a (a.length : Int) i) (Ev.yes (lt_nat (by omega)) (Ev.yes (inB_nat (by omega)) (Ev.yes (inB_nat (by omega)) (Ev.no (neq_self _) ?_))))
      rw [w64_succ (by omega)]
      exact ih (i + 1) (by omega)
  exact Ev.step (fun k => laws_kSame.eq k a a) (Ev.no (neq_self _) (Ev.bind (h a.length 0 (by omega)) (Ev.now _)))
theorem kSum_ev (a : List Int) (hl : a.length ≤ 1048576) (hb : ∀ x ∈ a, 0 ≤ x ∧ x ≤ 1048576) : Ev (fun k => laws_kSum k a) a.sum := by
  have h : ∀ (m i : Nat) (s : Int), i + m = a.length → 0 ≤ s ∧ s ≤ 1048576 * (i : Int) → Ev (fun k => laws_kSum_l k (s, a, (a.length : Int), (i : Int))) (s + (a.drop i).sum) := by
    intro m
    induction m with
    | zero =>
      intro i s h hs
      rw [List.drop_eq_nil_of_le (by omega), List.sum_nil, Int.add_zero]
      exact Ev.step (fun k => laws_kSum_l.eq k s a (a.length : Int) i) (Ev.no (not_lt_nat (by omega)) (Ev.now _))
    | succ m ih =>
      intro i s h hs
      obtain ⟨x, hx⟩ := nat_list (l := a) (i := i) (by omega)
      have hxb := hb x (List.mem_of_getElem? hx)
      have e1 : w64 (s + x) = s + x := w64_of (by omega) (by omega)
      refine Ev.step (fun k => laws_kSum_l.eq k s a (a.length : Int) i) (Ev.yes (lt_nat (by omega)) (Ev.yes (inB_nat (by omega)) ?_))
      obtain ⟨hlt, he⟩ := List.getElem?_eq_some_iff.1 hx
      rw [Int.toNat_natCast, getD_at hx, e1, w64_succ (by omega), List.drop_eq_getElem_cons hlt, List.sum_cons, he, ← Int.add_assoc]
      exact ih (i + 1) (s + x) (by omega) (by omega)
  have := h a.length 0 0 (by omega) (by omega)
  rw [Int.zero_add] at this
  exact Ev.step (fun k => laws_kSum.eq k a) (Ev.bind this (Ev.now _))
end Go.Proofs.YtplamonjnlgomaaGreatDoorS
