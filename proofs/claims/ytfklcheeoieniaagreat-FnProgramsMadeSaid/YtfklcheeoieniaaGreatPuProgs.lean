/- Programs: what the functions on them compute. -/
import Derived.Test.YtfklcheeoieniaaGreatPuTurtle
import Derived.Laws.RangeString
namespace Go.Proofs.YtfklcheeoieniaaGreatS
open Go
set_option linter.unusedVariables false
set_option linter.unusedSimpArgs false

def dat (P : List Pa) : List (Int × Int) := P.map fun p => ((p.1 : Int), (p.2.toNat : Int))
theorem encL_get : ∀ (P : List Pa) (j : Nat) (p : Pa), P[j]? = some p → (encL P)[2 * j]? = some (UInt8.ofNat (48 + p.1)) ∧ (encL P)[2 * j + 1]? = some p.2
  | [], j, p, h => by simp at h
  | q :: P, 0, p, h => by
    obtain rfl : q = p := by simpa using h
    exact ⟨rfl, rfl⟩
  | q :: P, j + 1, p, h => by
    have := encL_get P j p (by simpa using h)
    rw [show 2 * (j + 1) = 2 * j + 1 + 1 by omega]
    exact this
section
variable (P : List Pa) (hl : P.length ≤ 1000) (hP : ∀ p ∈ P, PaOk p)
include hl hP
theorem parts_l_ev : ∀ (m j : Nat), j + m = P.length → Ev (fun k => impl_parts_l k (enc P, dat (P.take j), ((2 * j : Nat) : Int))) (dat P)
  | 0, j, h => by
    have hz := enc_size P
    exact Ev.step (fun k => impl_parts_l.eq k (enc P) _ _) (Ev.no (decide_eq_false (by omega)) (Ev.now' (by rw [List.take_of_length_le (by omega)])))
  | m + 1, j, h => by
    have hz := enc_size P
    obtain ⟨p, hp⟩ := nat_list (l := P) (i := j) (by omega)
    have hpo := (hP p (List.mem_of_getElem? hp)).1
    obtain ⟨g1, g2⟩ := encL_get P j p hp
    have g1 : (enc P).data.toList[2 * j]? = some (UInt8.ofNat (48 + p.1)) := g1
    have g2 : (enc P).data.toList[2 * j + 1]? = some p.2 := g2
    have e1 : w64 (((2 * j : Nat) : Int) + 1) = ((2 * j + 1 : Nat) : Int) := by rw [w64_of (by omega) (by omega)]; omega
    have e2 : w64 (((2 * j : Nat) : Int) + 2) = ((2 * (j + 1) : Nat) : Int) := by rw [w64_of (by omega) (by omega)]; omega
    have e3 : w64 (w8 (((UInt8.ofNat (48 + p.1)).toNat : Int) - 48)) = (p.1 : Int) := by rw [toNat_ofNat8 (by omega), w8_of (by omega) (by omega), w64_of (by omega) (by omega)]; omega
    have ih := parts_l_ev m (j + 1) (by omega)
    refine Ev.step (fun k => impl_parts_l.eq k (enc P) _ _) (Ev.yes (decide_eq_true (by omega)) (Ev.yes (inB_nat (by omega)) ?_))
    rw [e1, e2, Int.toNat_natCast, Int.toNat_natCast, bt_at g1, bt_at g2, e3]
    refine Ev.yes (inB_nat (by omega)) (Ev.yes (fits_of (by unfold dat; rw [List.length_map, List.length_take]; omega)) ?_)
    have ed : dat (P.take j) ++ [((p.1 : Int), (p.2.toNat : Int))] = dat (P.take (j + 1)) := by
      unfold dat
      rw [List.take_add_one, hp, List.map_append]
      rfl
    rw [ed]
    exact ih
theorem parts_ev : Ev (fun k => impl_parts k (enc P)) (dat P) := Ev.step (fun k => impl_parts.eq k (enc P)) (Ev.bind (parts_l_ev P hl hP P.length 0 (by omega)) (Ev.now _))
theorem text_l_ev : ∀ (m j : Nat), j + m = P.length → Ev (fun k => impl_text_l k ((encL (P.take j)).map (fun c => (c.toNat : Int)), dat P, (P.length : Int), (j : Int))) ((encL P).map (fun c => (c.toNat : Int)))
  | 0, j, h => Ev.step (fun k => impl_text_l.eq k _ (dat P) _ _) (Ev.no (not_lt_nat (by omega)) (Ev.now' (by rw [List.take_of_length_le (by omega)])))
  | m + 1, j, h => by
    obtain ⟨p, hp⟩ := nat_list (l := P) (i := j) (by omega)
    have hpo := (hP p (List.mem_of_getElem? hp)).1
    have hd : (dat P).getD j default = ((p.1 : Int), (p.2.toNat : Int)) := getD_at (by unfold dat; rw [List.getElem?_map, hp]; rfl)
    have hdl : (dat P).length = P.length := by unfold dat; rw [List.length_map]
    have e1 : w8 (w64 (48 + (p.1 : Int))) = ((UInt8.ofNat (48 + p.1)).toNat : Int) := by rw [w64_of (by omega) (by omega), w8_of (by omega) (by omega), toNat_ofNat8 (by omega)]; omega
    have ih := text_l_ev m (j + 1) (by omega)
    have hlen : ((encL (P.take j)).map (fun c => (c.toNat : Int))).length = 2 * j := by rw [List.length_map, encL_len, List.length_take]; omega
    refine Ev.step (fun k => impl_text_l.eq k _ (dat P) _ _) (Ev.yes (lt_nat (by omega)) (Ev.yes (inB_nat (by omega)) ?_))
    rw [Int.toNat_natCast, hd, e1, w64_succ (by omega)]
    refine Ev.yes (fits_of (by omega)) ?_
    have ed : (encL (P.take j)).map (fun c => (c.toNat : Int)) ++ [((UInt8.ofNat (48 + p.1)).toNat : Int), (p.2.toNat : Int)] = (encL (P.take (j + 1))).map (fun c => (c.toNat : Int)) := by
      rw [List.take_add_one, hp, Option.toList_some, encL_append, List.map_append]
      rfl
    rw [ed]
    exact ih
theorem text_ev : Ev (fun k => impl_text k (dat P)) (enc P) := by
  have hdl : (dat P).length = P.length := by unfold dat; rw [List.length_map]
  refine Ev.step (fun k => impl_text.eq k (dat P)) ?_
  rw [hdl]
  exact Ev.bind (text_l_ev P hl hP P.length 0 (by omega)) (Ev.now' (by rw [ofBytes_of]; rfl))
end
theorem oth_enc (P : List Pa) (hP : ∀ p ∈ P, PaOk p) : oth (enc P) = enc (othP P) := by
  apply ba_ext
  rw [oth_list]
  show (encL P).map othC = encL (othP P)
  have key : ∀ Q : List Pa, (∀ p ∈ Q, PaOk p) → (encL Q).map othC = encL (othP Q) := by
    intro Q
    induction Q with
    | nil => intro _; rfl
    | cons p Q ih =>
      intro h
      have h1 := (h p (by simp)).1
      have hd : othC (UInt8.ofNat (48 + p.1)) = UInt8.ofNat (48 + p.1) := by
        unfold othC
        rw [if_neg, if_neg]
        · intro e
          have := congrArg UInt8.toNat e
          rw [toNat_ofNat8 (by omega)] at this
          simp at this
          omega
        · intro e
          have := congrArg UInt8.toNat e
          rw [toNat_ofNat8 (by omega)] at this
          simp at this
          omega
      have := ih fun q hq => h q (List.mem_cons_of_mem _ hq)
      show othC (UInt8.ofNat (48 + p.1)) :: othC p.2 :: (encL Q).map othC = UInt8.ofNat (48 + p.1) :: othC p.2 :: encL (othP Q)
      rw [hd, this]
  exact key P hP
theorem othP_ok (P : List Pa) (hP : ∀ p ∈ P, PaOk p) : ∀ p ∈ othP P, PaOk p := fun p hp => by
  unfold othP at hp
  obtain ⟨q, hq, rfl⟩ := List.mem_map.1 hp
  exact ⟨(hP q hq).1, signC_oth (hP q hq).2⟩
theorem othP_len (P : List Pa) : (othP P).length = P.length := by unfold othP; rw [List.length_map]
theorem othP_othP (P : List Pa) : othP (othP P) = P := by
  unfold othP
  rw [List.map_map]
  conv => rhs; rw [← List.map_id P]
  refine List.map_congr_left fun p _ => ?_
  show (p.1, othC (othC p.2)) = p
  rw [othC_othC]
theorem rev_ok' {P : List Pa} (h : ∀ p ∈ P, PaOk p) : ∀ p ∈ P.reverse, PaOk p := fun p hp => h p (List.mem_reverse.1 hp)
def backP (P : List Pa) : List Pa := (othP P).reverse
theorem backP_backP (P : List Pa) : backP (backP P) = P := by
  have : othP (othP P).reverse = (othP (othP P)).reverse := by unfold othP; rw [List.map_reverse]
  unfold backP
  rw [this, List.reverse_reverse, othP_othP]
theorem lenP_back (P : List Pa) : lenP (backP P) = lenP P := by
  unfold backP
  rw [lenP_reverse]
  unfold lenP othP
  rw [List.map_map]
  rfl
theorem rev2_l_ev : ∀ (n : Nat) (A M B : List (Int × Int)), M.length = n → A.length + n + B.length ≤ 1000 → Ev (fun k => slices_Reverse_l k (A ++ M ++ B, (A.length : Int), (A.length : Int) + (n : Int) - 1, ())) (A ++ M.reverse ++ B)
  | 0, A, M, B, hM, hl => by
    obtain rfl := List.length_eq_zero_iff.1 hM
    exact Ev.step (fun k => slices_Reverse_l.eq k _ _ _) (Ev.no (decide_eq_false (by omega)) (Ev.now _))
  | 1, A, M, B, hM, hl => by
    match M, hM with
    | [z], _ => exact Ev.step (fun k => slices_Reverse_l.eq k _ _ _) (Ev.no (decide_eq_false (by omega)) (Ev.now _))
  | n + 2, A, M, B, hM, hl => by
    match M, hM with
    | z :: T, hM =>
      have hT : T ≠ [] := by intro e; rw [e] at hM; simp at hM
      obtain ⟨M', y, rfl⟩ : ∃ M' y, T = M' ++ [y] := ⟨T.dropLast, T.getLast hT, (List.dropLast_concat_getLast hT).symm⟩
      have hM' : M'.length = n := by simp at hM; omega
      have ih := rev2_l_ev n (A ++ [y]) M' (z :: B) hM' (by simp; omega)
      have e0 : A ++ (z :: (M' ++ [y])) ++ B = A ++ (z :: (M' ++ (y :: B))) := by simp
      have gi : (A ++ (z :: (M' ++ (y :: B)))).getD A.length default = z := getD_at (by simp)
      have gj : (A ++ (z :: (M' ++ (y :: B)))).getD (A.length + n + 1) default = y := getD_at (by
        rw [List.getElem?_append_right (by omega), show A.length + n + 1 - A.length = n + 1 by omega, List.getElem?_cons_succ, List.getElem?_append_right (by omega), hM', Nat.sub_self]
        rfl)
      have s1 : ((A ++ (z :: (M' ++ (y :: B)))).set A.length y).set (A.length + n + 1) z = (A ++ [y]) ++ M' ++ (z :: B) := by
        rw [List.set_append_right _ _ (Nat.le_refl _), Nat.sub_self, List.set_cons_zero, List.set_append_right _ _ (by omega), show A.length + n + 1 - A.length = n + 1 by omega, List.set_cons_succ, List.set_append_right _ _ (by omega), hM', Nat.sub_self, List.set_cons_zero]
        simp
      have hlen : (A ++ (z :: (M' ++ (y :: B)))).length = A.length + n + 2 + B.length := by simp; omega
      have j1 : ((A.length : Int) + ((n + 2 : Nat) : Int) - 1) = ((A.length + n + 1 : Nat) : Int) := by omega
      have er : (z :: (M' ++ [y])).reverse = y :: M'.reverse ++ [z] := by simp
      rw [e0, j1, er]
      refine Ev.step (fun k => slices_Reverse_l.eq k _ _ _) (Ev.yes (decide_eq_true (by omega)) (Ev.yes (inB_nat (by rw [hlen]; omega)) (Ev.yes (inB_nat (by rw [hlen]; omega)) (Ev.yes (inB_nat (by rw [hlen]; omega)) (Ev.yes (inB_nat (by rw [List.length_set, hlen]; omega)) ?_)))))
      rw [Int.toNat_natCast, Int.toNat_natCast, gi, gj, s1, w64_succ (by omega), show w64 (((A.length + n + 1 : Nat) : Int) - 1) = ((A ++ [y]).length : Int) + (n : Int) - 1 by rw [w64_of (by omega) (by omega)]; simp; omega, show A.length + 1 = (A ++ [y]).length by simp]
      have e2 : A ++ (y :: M'.reverse ++ [z]) ++ B = (A ++ [y]) ++ M'.reverse ++ (z :: B) := by simp
      rw [e2]
      exact ih
theorem reverse2_ev (l : List (Int × Int)) (hl : l.length ≤ 1000) : Ev (fun k => slices_Reverse k l) ((), l.reverse) := by
  have q := rev2_l_ev l.length [] l [] rfl (by simp; omega)
  rw [List.nil_append, List.append_nil, List.nil_append, List.append_nil] at q
  have e : w64 ((l.length : Int) - 1) = (([] : List (Int × Int)).length : Int) + (l.length : Int) - 1 := by rw [w64_of (by omega) (by omega)]; simp
  refine Ev.step (fun k => slices_Reverse.eq k l) ?_
  rw [e]
  exact Ev.bind q (Ev.now _)
/-! ### Told backwards, mirrored -/
theorem cut2 {s : ByteArray} {i : Nat} {c : UInt8} (h : s.data.toList[i]? = some c) : s.extract i (i + 1) = bs [c] := cut_one h
section
variable (P : List Pa) (h9 : 1 ≤ P.length ∧ P.length ≤ 9) (hP : ∀ p ∈ P, PaOk p)
include h9 hP
theorem isP_ev : Ev (fun k => impl_IsProgram k (enc P)) true := (isProgram_ev _ (by have := enc_size P; omega)).isT (enc_prog h9 hP)
theorem goodP_ev : Ev (fun k => spec_tuGood k (enc P)) true := (tuGood_ev _ (by have := enc_size P; omega)).isT (enc_prog h9 hP)
theorem otherI_ev : Ev (fun k => impl_OtherProgram k (enc P)) (enc (othP P), true) := by
  have := enc_size P
  have ho := other_ev (enc P) (by omega)
  rw [oth_enc P hP] at ho
  exact Ev.step (fun k => impl_OtherProgram.eq k (enc P)) (Ev.bind (isP_ev P h9 hP) (Ev.no rfl (Ev.bind ho (Ev.now _))))
theorem otherS_ev : Ev (fun k => spec_OtherProgram k (enc P)) (enc (othP P), true) := by
  have := enc_size P
  have ho := woOther_ev (enc P) (by omega)
  rw [oth_enc P hP] at ho
  exact Ev.step (fun k => spec_OtherProgram.eq k (enc P)) (Ev.bind (goodP_ev P h9 hP) (Ev.no rfl (Ev.bind ho (Ev.now _))))
theorem backI_ev : Ev (fun k => impl_BackProgram k (enc P)) (enc (backP P), true) := by
  have hz := enc_size P
  have ho := other_ev (enc P) (by omega)
  rw [oth_enc P hP] at ho
  have hoP := othP_ok P hP
  have hol := othP_len P
  have hp := parts_ev (othP P) (by omega) hoP
  have hr := reverse2_ev (dat (othP P)) (by unfold dat; rw [List.length_map]; omega)
  have e : (dat (othP P)).reverse = dat (backP P) := by unfold dat backP; rw [List.map_reverse]
  rw [e] at hr
  have ht := text_ev (backP P) (by unfold backP; rw [List.length_reverse]; omega) (rev_ok' hoP)
  exact Ev.step (fun k => impl_BackProgram.eq k (enc P)) (Ev.bind (isP_ev P h9 hP) (Ev.no rfl (Ev.bind ho (Ev.bind hp (Ev.bind hr (Ev.bind ht (Ev.now _)))))))
theorem backS_l_ev : ∀ (j : Nat), j ≤ P.length → Ev (fun k => spec_BackProgram_l k (enc P, enc (backP (P.drop j)), 2 * (j : Int) - 2)) (enc (backP P))
  | 0, h => Ev.step (fun k => spec_BackProgram_l.eq k (enc P) _ _) (Ev.no (decide_eq_false (by omega)) (Ev.now' (by rw [List.drop_zero])))
  | j + 1, h => by
    have hz := enc_size P
    obtain ⟨p, hp⟩ := nat_list (l := P) (i := j) (by omega)
    have hpo := hP p (List.mem_of_getElem? hp)
    obtain ⟨g1, g2⟩ := encL_get P j p hp
    have g1 : (enc P).data.toList[2 * j]? = some (UInt8.ofNat (48 + p.1)) := g1
    have g2 : (enc P).data.toList[2 * j + 1]? = some p.2 := g2
    have e0 : 2 * ((j + 1 : Nat) : Int) - 2 = ((2 * j : Nat) : Int) := by omega
    have e1 : w64 (((2 * j : Nat) : Int) + 1) = ((2 * j + 1 : Nat) : Int) := by rw [w64_of (by omega) (by omega)]; omega
    have e2 : w64 (((2 * j : Nat) : Int) + 2) = ((2 * j + 1 + 1 : Nat) : Int) := by rw [w64_of (by omega) (by omega)]; omega
    have e3 : w64 (((2 * j : Nat) : Int) - 2) = 2 * (j : Int) - 2 := by rw [w64_of (by omega) (by omega)]; omega
    have ho := woOther_ev (bs [p.2]) (by show 1 ≤ _; omega)
    have eo : oth (bs [p.2]) = bs [othC p.2] := ba_ext (by rw [oth_list]; rfl)
    rw [eo] at ho
    have hdrop : P.drop j = p :: P.drop (j + 1) := by
      obtain ⟨hlt, he⟩ := List.getElem?_eq_some_iff.1 hp
      rw [List.drop_eq_getElem_cons hlt, he]
    have eapp : enc (backP (P.drop (j + 1))) ++ (bs [UInt8.ofNat (48 + p.1)] ++ bs [othC p.2]) = enc (backP (P.drop j)) := by
      apply ba_ext
      rw [append_list, append_list, hdrop]
      unfold backP othP
      rw [List.map_cons, List.reverse_cons]
      show encL _ ++ ([UInt8.ofNat (48 + p.1)] ++ [othC p.2]) = encL _
      rw [encL_append]
      rfl
    have zb : (enc (backP (P.drop (j + 1)))).size ≤ 18 := by
      rw [enc_size]
      unfold backP
      rw [List.length_reverse, othP_len, List.length_drop]
      omega
    rw [e0]
    refine Ev.step (fun k => spec_BackProgram_l.eq k (enc P) _ _) (Ev.yes (decide_eq_true (by omega)) ?_)
    rw [e1, e2, e3, Int.toNat_natCast, Int.toNat_natCast, Int.toNat_natCast, cut2 g1, cut2 g2]
    refine Ev.yes (by rw [decide_eq_true (by omega), decide_eq_true (by omega), decide_eq_true (by omega), decide_eq_true (by omega)]; rfl) (Ev.yes (by rw [decide_eq_true (by omega), decide_eq_true (by omega), decide_eq_true (by omega), decide_eq_true (by omega)]; rfl) (Ev.bind ho (Ev.yes (fitS_of (by show 1 + 1 < _; omega)) (Ev.yes (fitS_of ?_) ?_))))
    · show _ + 2 < _
      omega
    · rw [eapp]
      exact backS_l_ev j (by omega)
theorem backS_ev : Ev (fun k => spec_BackProgram k (enc P)) (enc (backP P), true) := by
  have hz := enc_size P
  have q := backS_l_ev P h9 hP P.length (Nat.le_refl _)
  rw [List.drop_length] at q
  have e : w64 (((enc P).size : Int) - 2) = 2 * (P.length : Int) - 2 := by rw [w64_of (by omega) (by omega), hz]; omega
  refine Ev.step (fun k => spec_BackProgram.eq k (enc P)) (Ev.bind (goodP_ev P h9 hP) (Ev.no rfl ?_))
  rw [e]
  exact Ev.bind q (Ev.now _)
theorem quarters_of_ev : Ev (fun k => impl_QuartersOf k (enc P)) ((cntP 82 P : Int) - (cntP 76 P : Int) + 2 * (cntP 85 P : Int), true) := by
  have hz := enc_size P
  have cb : ∀ c : UInt8, SignC c → cntP c P ≤ 9 := fun c _ => by
    unfold cntP
    have := List.count_le_length (a := c) (l := P.map fun p => p.2)
    rw [List.length_map] at this
    omega
  have hc : ∀ c : UInt8, SignC c → Ev (fun k => strings_Count k (enc P, bs [c])) (cntP c P : Int) := fun c hc => by
    have e : strCount1 (enc P) (bs [c]) = some ((cntP c P : Nat) : Int) := by
      show some (((enc P).data.toList.count c : Nat) : Int) = _
      rw [show (enc P).data.toList = encL P from rfl, encL_count c hc P hP]
    exact Ev.step (fun k => (strings_Count.eq k (enc P, bs [c])).trans e) (Ev.now _)
  have b1 := cb 82 (.inr (.inl rfl))
  have b2 := cb 76 (.inl rfl)
  have b3 := cb 85 (.inr (.inr (.inr rfl)))
  refine Ev.step (fun k => impl_QuartersOf.eq k (enc P)) (Ev.bind (isP_ev P h9 hP) (Ev.no rfl (Ev.bind (hc 82 (.inr (.inl rfl))) (Ev.bind (hc 76 (.inl rfl)) (Ev.bind (hc 85 (.inr (.inr (.inr rfl)))) (Ev.now' ?_))))))
  rw [w64_of (n := (cntP 82 P : Int) - (cntP 76 P : Int)) (by omega) (by omega), w64_of (n := 2 * (cntP 85 P : Int)) (by omega) (by omega), w64_of (by omega) (by omega)]
/-! ### Walks -/
theorem length_l_ev (r : Int) : ∀ (m j : Nat), j + m = P.length → Ev (fun k => impl_length_l k (r, (lenP (P.take j) : Int), dat P, (P.length : Int), (j : Int))) (r, (lenP P : Int))
  | 0, j, h => Ev.step (fun k => impl_length_l.eq k r _ (dat P) _ _) (Ev.no (not_lt_nat (by omega)) (Ev.now' (by rw [List.take_of_length_le (by omega)])))
  | m + 1, j, h => by
    obtain ⟨p, hp⟩ := nat_list (l := P) (i := j) (by omega)
    have hpo := (hP p (List.mem_of_getElem? hp)).1
    have hd : (dat P).getD j default = ((p.1 : Int), (p.2.toNat : Int)) := getD_at (by unfold dat; rw [List.getElem?_map, hp]; rfl)
    have hdl : (dat P).length = P.length := by unfold dat; rw [List.length_map]
    have bound : ∀ Q : List Pa, (∀ p ∈ Q, PaOk p) → lenP Q ≤ 9 * Q.length := by
      intro Q
      induction Q with
      | nil => intro _; exact Nat.le_refl _
      | cons q Q ih =>
        intro hq
        have h1 := (hq q (by simp)).1
        have h2 := ih fun x hx => hq x (List.mem_cons_of_mem _ hx)
        unfold lenP at h2 ⊢
        rw [List.map_cons, List.sum_cons, List.length_cons]
        omega
    have hb := bound (P.take j) fun x hx => hP x (List.mem_of_mem_take hx)
    rw [List.length_take] at hb
    have e1 : w64 ((lenP (P.take j) : Int) + (p.1 : Int)) = (lenP (P.take (j + 1)) : Int) := by
      rw [w64_of (by omega) (by omega)]
      unfold lenP
      rw [List.take_add_one, hp, Option.toList_some, List.map_append, List.sum_append_nat]
      simp
    have ih := length_l_ev r m (j + 1) (by omega)
    refine Ev.step (fun k => impl_length_l.eq k r _ (dat P) _ _) (Ev.yes (lt_nat (by omega)) (Ev.yes (inB_nat (by omega)) ?_))
    rw [Int.toNat_natCast, hd, e1, w64_succ (by omega)]
    exact ih
theorem lengthOf_ev : Ev (fun k => impl_LengthOf k (enc P, 1)) ((lenP P : Int), true) := by
  have hdl : (dat P).length = P.length := by unfold dat; rw [List.length_map]
  have bound : ∀ Q : List Pa, (∀ p ∈ Q, PaOk p) → lenP Q ≤ 9 * Q.length := by
    intro Q
    induction Q with
    | nil => intro _; exact Nat.le_refl _
    | cons q Q ih =>
      intro hq
      have h1 := (hq q (by simp)).1
      have h2 := ih fun x hx => hq x (List.mem_cons_of_mem _ hx)
      unfold lenP at h2 ⊢
      rw [List.map_cons, List.sum_cons, List.length_cons]
      omega
  have hb := bound P hP
  have q := length_l_ev P h9 hP 1 P.length 0 (by omega)
  rw [← hdl] at q
  have hr : Ev (fun k => impl_isRepeated k (enc P, 1)) true := Ev.step (fun k => impl_isRepeated.eq k (enc P) 1) (Ev.bind (isP_ev P h9 hP) (Ev.yes rfl (Ev.bind ((within_ev 1 0 100).isT (by omega)) (Ev.now _))))
  refine Ev.step (fun k => impl_LengthOf.eq k (enc P) 1) (Ev.bind hr (Ev.no rfl (Ev.bind (Ev.step (fun k => impl_length.eq k (enc P) 1) (Ev.bind (parts_ev P (by omega) hP) (Ev.bind q (Ev.now _)))) (Ev.now' ?_))))
  show (w64 ((lenP P : Int) * 1), true) = _
  rw [Int.mul_one, w64_of (by omega) (by omega)]
end
def NearT (n : Int) (t : Tu) : Prop := (-n ≤ t.1 ∧ t.1 ≤ n) ∧ (-n ≤ t.2.1 ∧ t.2.1 ≤ n) ∧ (0 ≤ t.2.2 ∧ t.2.2 ≤ 3)
abbrev U3 : Type := Int × Int × Int
theorem steps_ev (s : ByteArray) (t10 : U3) (p : Int × Int) (t15 t16 : Int) (t19 : List (Int × Int)) (t20 t21 : Int) (x y w : Int) (d : Nat) (hd : d ≤ 9) (hx : -1000000 ≤ x ∧ x ≤ 1000000) (hy : -1000000 ≤ y ∧ y ≤ 1000000) : ∀ (m j : Nat), j + m = d →
    Ev (fun k => impl_turtle_walk_l_l_l k (s, (), (), (x + (j : Int) * dxW w, y + (j : Int) * dyW w, w), t10, p, dxW w, dyW w, t15, t16, t19, t20, t21, (d : Int), (j : Int))) (s, (), (), (x + (d : Int) * dxW w, y + (d : Int) * dyW w, w), t10, p, t15, t16, t19, t20, t21)
  | 0, j, h => by
    obtain rfl : j = d := by omega
    exact Ev.step (fun k => impl_turtle_walk_l_l_l.eq k s _ _ w t10.1 t10.2.1 t10.2.2 p.1 p.2 _ _ t15 t16 t19 t20 t21 _ _) (Ev.no (not_lt_nat (by omega)) (Ev.now _))
  | m + 1, j, h => by
    obtain ⟨c1, c2⟩ := dW_range w
    have b1 : -10 ≤ (j : Int) * dxW w ∧ (j : Int) * dxW w ≤ 10 := by
      have : dxW w = 1 ∨ dxW w = -1 ∨ dxW w = 0 := by omega
      rcases this with e | e | e <;> rw [e] <;> omega
    have b2 : -10 ≤ (j : Int) * dyW w ∧ (j : Int) * dyW w ≤ 10 := by
      have : dyW w = 1 ∨ dyW w = -1 ∨ dyW w = 0 := by omega
      rcases this with e | e | e <;> rw [e] <;> omega
    have e1 : w64 (x + (j : Int) * dxW w + dxW w) = x + ((j + 1 : Nat) : Int) * dxW w := by
      rw [w64_of (by omega) (by omega), show ((j + 1 : Nat) : Int) = (j : Int) + 1 by omega, Int.add_mul, Int.one_mul]
      omega
    have e2 : w64 (y + (j : Int) * dyW w + dyW w) = y + ((j + 1 : Nat) : Int) * dyW w := by
      rw [w64_of (by omega) (by omega), show ((j + 1 : Nat) : Int) = (j : Int) + 1 by omega, Int.add_mul, Int.one_mul]
      omega
    have ih := steps_ev s t10 p t15 t16 t19 t20 t21 x y w d hd hx hy m (j + 1) (by omega)
    refine Ev.step (fun k => impl_turtle_walk_l_l_l.eq k s _ _ w t10.1 t10.2.1 t10.2.2 p.1 p.2 _ _ t15 t16 t19 t20 t21 _ _) (Ev.yes (lt_nat (by omega)) (Ev.bind (Ev.step (fun k => impl_nothing.eq k _ _) (Ev.now _)) ?_))
    rw [e1, e2, w64_succ (by omega)]
    exact ih
theorem near_part {n : Int} {t : Tu} (h : NearT n t) {p : Pa} (hp : p.1 ≤ 9) : NearT (n + 9) (partT t p) := by
  obtain ⟨h1, h2, h3⟩ := h
  obtain ⟨x, y, w⟩ := t
  have hm := mul_dW (p.1 : Int) h3
  simp only at h1 h2 h3 hm
  refine ⟨?_, ?_, part_way _ _⟩
  · show -(n + 9) ≤ x + (p.1 : Int) * dxW w ∧ x + (p.1 : Int) * dxW w ≤ n + 9
    omega
  · show -(n + 9) ≤ y + (p.1 : Int) * dyW w ∧ y + (p.1 : Int) * dyW w ≤ n + 9
    omega
theorem walk_parts_ev (s : ByteArray) (t10 : U3) (t15 t16 : Int) (P : List Pa) (hP : ∀ p ∈ P, PaOk p) (hl : P.length ≤ 9) : ∀ (m j : Nat) (t : Tu) (n : Int), j + m = P.length → NearT n t → n + 9 * (m : Int) ≤ 900000 →
    Ev (fun k => impl_turtle_walk_l_l k (s, (), (), t, t10, t15, t16, dat P, (P.length : Int), (j : Int))) (s, (), (), runT (P.drop j) t, t10, t15, t16)
  | 0, j, t, n, h, ht, hn => by
    obtain ⟨x, y, w⟩ := t
    exact Ev.step (fun k => impl_turtle_walk_l_l.eq k s x y w t10.1 t10.2.1 t10.2.2 t15 t16 (dat P) _ _) (Ev.no (not_lt_nat (by omega)) (Ev.now' (by rw [List.drop_eq_nil_of_le (by omega)]; rfl)))
  | m + 1, j, t, n, h, ht, hn => by
    obtain ⟨p, hp⟩ := nat_list (l := P) (i := j) (by omega)
    have hpo := (hP p (List.mem_of_getElem? hp)).1
    have hd : (dat P).getD j default = ((p.1 : Int), (p.2.toNat : Int)) := getD_at (by unfold dat; rw [List.getElem?_map, hp]; rfl)
    have hdl : (dat P).length = P.length := by unfold dat; rw [List.length_map]
    have ih := walk_parts_ev s t10 t15 t16 P hP hl m (j + 1) (partT t p) (n + 9) (by omega) (near_part ht hpo) (by omega)
    have hdrop : P.drop j = p :: P.drop (j + 1) := by
      obtain ⟨hlt, he⟩ := List.getElem?_eq_some_iff.1 hp
      rw [List.drop_eq_getElem_cons hlt, he]
    rw [hdrop]
    obtain ⟨x, y, w⟩ := t
    obtain ⟨h1, h2, h3⟩ := ht
    simp only at h1 h2 h3
    have st := steps_ev s t10 ((p.1 : Int), (p.2.toNat : Int)) t15 t16 (dat P) (P.length : Int) (j : Int) x y w p.1 hpo (by omega) (by omega) p.1 0 (by omega)
    have e0 : x + ((0 : Nat) : Int) * dxW w = x ∧ y + ((0 : Nat) : Int) * dyW w = y := by constructor <;> omega
    rw [e0.1, e0.2] at st
    obtain ⟨q0, q3⟩ := quartersB_range (p.2.toNat : Int)
    have eW : (w64 (w + quartersB (p.2.toNat : Int))).tmod 4 = (w + quartersB (p.2.toNat : Int)) % 4 := by rw [w64_of (by omega) (by omega), Int.tmod_eq_emod_of_nonneg (by omega)]
    refine Ev.step (fun k => impl_turtle_walk_l_l.eq k s x y w t10.1 t10.2.1 t10.2.2 t15 t16 (dat P) _ _) (Ev.yes (lt_nat (by omega)) (Ev.yes (inB_nat (by omega)) (Ev.bind (ahead_ev w h3) ?_)))
    rw [Int.toNat_natCast, hd]
    refine Ev.bind st (Ev.bind (quarters_ev _) (Ev.bind (Ev.step (fun k => impl_nothing.eq k _ _) (Ev.now _)) ?_))
    dsimp only
    rw [eW, w64_succ (by omega)]
    exact ih
theorem near_run {P : List Pa} (hP : ∀ p ∈ P, PaOk p) : ∀ {n : Int} {t : Tu}, NearT n t → NearT (n + 9 * (P.length : Int)) (runT P t) := by
  induction P with
  | nil =>
    intro n t h
    show NearT (n + 9 * ((0 : Nat) : Int)) t
    rw [show n + 9 * ((0 : Nat) : Int) = n by omega]
    exact h
  | cons p P ih =>
    intro n t h
    have := ih (fun q hq => hP q (List.mem_cons_of_mem _ hq)) (near_part h (hP p (by simp)).1)
    rw [show n + 9 + 9 * (P.length : Int) = n + 9 * ((p :: P).length : Int) by simp only [List.length_cons]; omega] at this
    exact this
theorem walk_l_ev (P : List Pa) (hP : ∀ p ∈ P, PaOk p) (hl : P.length ≤ 9) (r : Nat) (hr : r ≤ 100) : ∀ (m j : Nat) (t : Tu) (n : Int), j + m = r → NearT n t → n + 81 * (m : Int) ≤ 800000 →
    Ev (fun k => impl_turtle_walk_l k (enc P, (), (), t, (0, 0, 0), (r : Int), (j : Int))) (repT m P t, (0, 0, 0))
  | 0, j, t, n, h, ht, hn => by
    obtain ⟨x, y, w⟩ := t
    exact Ev.step (fun k => impl_turtle_walk_l.eq k (enc P) x y w 0 0 0 _ _) (Ev.no (not_lt_nat (by omega)) (Ev.now _))
  | m + 1, j, t, n, h, ht, hn => by
    have hdl : (dat P).length = P.length := by unfold dat; rw [List.length_map]
    have hnr := near_run hP ht
    have ih := walk_l_ev P hP hl r hr m (j + 1) (runT P t) (n + 9 * (P.length : Int)) (by omega) hnr (by omega)
    have q := walk_parts_ev (enc P) (0, 0, 0) (r : Int) (j : Int) P hP hl P.length 0 t n (by omega) ht (by omega)
    rw [List.drop_zero] at q
    obtain ⟨x, y, w⟩ := t
    refine Ev.step (fun k => impl_turtle_walk_l.eq k (enc P) x y w 0 0 0 _ _) (Ev.yes (lt_nat (by omega)) (Ev.bind (parts_ev P (by omega) hP) ?_))
    rw [hdl]
    refine Ev.bind q ?_
    dsimp only
    rw [w64_succ (by omega)]
    exact ih
theorem place_ev (P : List Pa) (h9 : 1 ≤ P.length ∧ P.length ≤ 9) (hP : ∀ p ∈ P, PaOk p) (r : Nat) (hr : r ≤ 100) : Ev (fun k => impl_PlaceAfter k (enc P, (r : Int))) ((repT r P (0, 0, 0)).1, (repT r P (0, 0, 0)).2.1, (repT r P (0, 0, 0)).2.2, true) := by
  have q := walk_l_ev P hP h9.2 r hr r 0 (0, 0, 0) 0 (by omega) ⟨by simp only; omega, by simp only; omega, by simp only; omega⟩ (by omega)
  have hrp : Ev (fun k => impl_isRepeated k (enc P, (r : Int))) true := Ev.step (fun k => impl_isRepeated.eq k (enc P) _) (Ev.bind (isP_ev P h9 hP) (Ev.yes rfl (Ev.bind ((within_ev _ 0 100).isT (by omega)) (Ev.now _))))
  exact Ev.step (fun k => impl_PlaceAfter.eq k (enc P) _) (Ev.bind hrp (Ev.no rfl (Ev.bind (Ev.step (fun k => impl_turtle_walk.eq k 0 0 0 (enc P) _) (Ev.bind q (Ev.now _))) (Ev.now _))))
end Go.Proofs.YtfklcheeoieniaaGreatS
