/- Texts read: pieces, numbers. -/
import Derived.Test.YtplamonjnlgomaaGreatDoorPuText
namespace Go.Proofs.YtplamonjnlgomaaGreatDoorS
open Go
set_option linter.unusedVariables false
set_option linter.unusedSimpArgs false
/-! ### Pieces -/
def glue (p : List UInt8) : List (List UInt8) → List (List UInt8)
  | x :: xs => (p ++ x) :: xs
  | [] => [p]
theorem splitL_glue (c : UInt8) (b : UInt8) (r p : List UInt8) : glue p (splitL c (b :: r)) = if b = c then p :: splitL c r else glue (p ++ [b]) (splitL c r) := by
  rw [splitL]
  by_cases h : b = c
  · rw [if_pos h, if_pos h]
    simp [glue]
  · rw [if_neg h, if_neg h]
    cases hs : splitL c r with
    | nil => exact absurd hs (splitL_ne c r)
    | cons x xs => simp [glue]
theorem glue_nil {l : List (List UInt8)} (h : l ≠ []) : glue [] l = l := by
  cases l with
  | nil => exact absurd rfl h
  | cons x xs => rfl
theorem splitL_len (c : UInt8) : ∀ l, (splitL c l).length ≤ l.length + 1
  | [] => by simp [splitL]
  | b :: r => by
    have := splitL_len c r
    rw [splitL]
    split
    · simp; omega
    · split
      · rename_i x xs h
        rw [h] at this
        simp at this ⊢
        omega
      · simp
theorem splitL_join (c : UInt8) : ∀ l, Lib.join (splitL c l) [c] = l
  | [] => by simp [splitL, Lib.join_one]
  | b :: r => by
    have ih := splitL_join c r
    rw [splitL]
    cases hs : splitL c r with
    | nil => exact absurd hs (splitL_ne c r)
    | cons x xs =>
      rw [hs, Lib.join_cons] at ih
      split
      · rename_i h
        rw [Lib.join_cons, h]
        simp only [Lib.joinTail, List.map_cons, List.flatten_cons, List.nil_append]
        have e : [c] ++ x ++ (List.map (fun y => [c] ++ y) xs).flatten = c :: (x ++ Lib.joinTail [c] xs) := by simp [Lib.joinTail]
        rw [e, ih]
      · rw [Lib.join_cons, List.cons_append, ih]
theorem splitS_join (c : UInt8) (s : ByteArray) : joinB (splitS c s) (mkS [c]) = s := by
  apply ba_ext
  show Lib.join ((splitS c s).map (·.data.toList)) [c] = _
  have : (splitS c s).map (·.data.toList) = splitL c s.data.toList := by
    unfold splitS
    rw [List.map_map]
    conv => rhs; rw [← List.map_id (splitL c s.data.toList)]
    rfl
  rw [this]
  exact splitL_join c _
theorem splitS_len (c : UInt8) (s : ByteArray) : (splitS c s).length ≤ s.size + 1 := by
  unfold splitS
  rw [List.length_map, size_list]
  exact splitL_len c _
theorem splitL_piece (c : UInt8) : ∀ l x, x ∈ splitL c l → x.length ≤ l.length
  | [], x, h => by
    rw [splitL, List.mem_singleton] at h
    rw [h]
    exact Nat.le_refl _
  | b :: r, x, h => by
    rw [splitL] at h
    split at h
    · rcases List.mem_cons.1 h with h | h
      · rw [h]; exact Nat.zero_le _
      · have := splitL_piece c r x h
        rw [List.length_cons]; omega
    · split at h
      · rename_i y ys hy
        rcases List.mem_cons.1 h with h | h
        · have := splitL_piece c r y (by rw [hy]; simp)
          rw [h, List.length_cons, List.length_cons]; omega
        · have := splitL_piece c r x (by rw [hy]; exact List.mem_cons_of_mem _ h)
          rw [List.length_cons]; omega
      · rw [List.mem_singleton] at h
        rw [h]
        simp
theorem splitS_piece (c : UInt8) (s x : ByteArray) (h : x ∈ splitS c s) : x.size ≤ s.size := by
  obtain ⟨l, hl, rfl⟩ := List.mem_map.1 h
  rw [size_list, size_list, mkS_list]
  exact splitL_piece c _ l hl
theorem l1Split_ev (s : ByteArray) (c : UInt8) (hs : s.size ≤ 1048576) : Ev (fun k => spec_l1Split k (s, (c.toNat : Int))) (splitS c s) := by
  have hsl := size_list s
  have ext : ∀ f i : Nat, f ≤ i → i ≤ s.size → s.extract f i = mkS ((s.data.toList.take i).drop f) := fun f i h1 h2 => by
    apply ba_ext
    rw [extract_list, mkS_list]
  have loop : ∀ (m i f : Nat) (out : List ByteArray), i + m = s.size → f ≤ i → out.length ≤ i → ∃ (out' : List ByteArray) (f' : Nat), f' ≤ s.size ∧ out'.length ≤ s.size ∧ Ev (fun k => spec_l1Split_l k (s, (c.toNat : Int), out, (f : Int), (i : Int))) (s, out', (f' : Int)) ∧
      out' ++ [mkS (s.data.toList.drop f')] = out ++ (glue ((s.data.toList.take i).drop f) (splitL c (s.data.toList.drop i))).map mkS := by
    intro m
    induction m with
    | zero =>
      intro i f out hi hf ho
      refine ⟨out, f, by omega, by omega, Ev.step (fun k => spec_l1Split_l.eq k s _ out f i) (Ev.no (not_lt_nat (by omega)) (Ev.now _)), ?_⟩
      rw [List.drop_of_length_le (i := i) (by omega), List.take_of_length_le (i := i) (by omega)]
      simp [splitL, glue]
    | succ m ih =>
      intro i f out hi hf ho
      obtain ⟨b, hb⟩ := byte_at (cs := s) (i := i) (by omega)
      obtain ⟨hlt, he⟩ := List.getElem?_eq_some_iff.1 hb
      have hdrop : s.data.toList.drop i = b :: s.data.toList.drop (i + 1) := by rw [List.drop_eq_getElem_cons hlt, he]
      have htake : s.data.toList.take (i + 1) = s.data.toList.take i ++ [b] := by rw [List.take_add_one, hb]; rfl
      rw [hdrop, splitL_glue]
      by_cases hbc : b = c
      · obtain ⟨out', f', h1, h2, h3, h4⟩ := ih (i + 1) (i + 1) (out ++ [s.extract f i]) (by omega) (Nat.le_refl _) (by simp; omega)
        refine ⟨out', f', h1, h2, ?_, ?_⟩
        · refine Ev.step (fun k => spec_l1Split_l.eq k s _ out f i) (Ev.yes (lt_nat (by omega)) (Ev.yes (inB_nat (by omega)) ?_))
          rw [Int.toNat_natCast, bt_at hb, w64_succ (by omega)]
          refine Ev.yes (by rw [hbc]; exact beq_iff_eq.2 rfl) (Ev.yes (by rw [decide_eq_true (by omega), decide_eq_true (by omega), decide_eq_true (by omega), decide_eq_true (by omega)]; rfl) (Ev.yes (fits_of (by omega)) ?_))
          rw [Int.toNat_natCast]
          exact h3
        · rw [h4, if_pos hbc, ext f i hf (by omega)]
          have e0 : (s.data.toList.take (i + 1)).drop (i + 1) = [] := List.drop_of_length_le (by rw [List.length_take]; omega)
          rw [e0, glue_nil (splitL_ne c _)]
          simp
      · obtain ⟨out', f', h1, h2, h3, h4⟩ := ih (i + 1) f out (by omega) (by omega) (by omega)
        refine ⟨out', f', h1, h2, ?_, ?_⟩
        · refine Ev.step (fun k => spec_l1Split_l.eq k s _ out f i) (Ev.yes (lt_nat (by omega)) (Ev.yes (inB_nat (by omega)) ?_))
          rw [Int.toNat_natCast, bt_at hb, w64_succ (by omega)]
          exact Ev.no (beq_eq_false_iff_ne.2 fun e => hbc (UInt8.toNat_inj.1 (by omega))) h3
        · rw [h4, if_neg hbc, htake]
          congr 3
          rw [List.drop_append_of_le_length (by rw [List.length_take]; omega)]
  obtain ⟨out', f', h1, h2, h3, h4⟩ := loop s.size 0 0 [] (by omega) (Nat.le_refl _) (by simp)
  have e4 : out' ++ [mkS (s.data.toList.drop f')] = splitS c s := by
    rw [h4]
    simp only [List.take_zero, List.drop_nil, List.drop_zero, List.nil_append]
    rw [glue_nil (splitL_ne c _)]
    rfl
  refine Ev.step (fun k => spec_l1Split.eq k s _) (Ev.bind h3 (Ev.yes (by dsimp only; rw [decide_eq_true (by omega), decide_eq_true (by omega)]; rfl) (Ev.yes (fits_of (by dsimp only; omega)) (Ev.now' ?_))))
  rw [← e4]
  dsimp only
  rw [Int.toNat_natCast, ext f' s.size h1 (Nat.le_refl _), List.take_of_length_le (by omega)]
/-! ### Numbers -/
theorem valF_lt : ∀ (l : List UInt8) (a : Nat), Digs l → valF a l < (a + 1) * 10 ^ l.length := by
  intro l
  induction l with
  | nil => intro a _; show a < (a + 1) * 1; omega
  | cons c l ih =>
    intro a h
    have hc := h c List.mem_cons_self
    have := ih (stp a c) fun x hx => h x (List.mem_cons_of_mem _ hx)
    rw [valF_cons, List.length_cons, Nat.pow_succ]
    have h2 : stp a c + 1 ≤ (a + 1) * 10 := by rw [stp_eq]; omega
    have h3 := Nat.mul_le_mul_right (10 ^ l.length) h2
    rw [show (a + 1) * (10 ^ l.length * 10) = (a + 1) * 10 * 10 ^ l.length by rw [Nat.mul_comm (10 ^ l.length), Nat.mul_assoc]]
    omega
def IsNum (s : ByteArray) (v : Int) : Prop := (∃ n : Nat, n ≤ 999999 ∧ s = decS n ∧ v = n) ∨ ((∀ n : Nat, n ≤ 999999 → s ≠ decS n) ∧ v = -1)
theorem decS_inj {a b : Nat} (h : decS a = decS b) : a = b := dec_inj (by rw [← decS_list, ← decS_list, h])
theorem l1Read_ev (s : ByteArray) (hs : s.size ≤ 1048576) : ∃ v, Ev (fun k => spec_l1Read k s) v ∧ IsNum s v := by
  have hsl := size_list s
  by_cases h16 : (1 : Int) ≤ (s.size : Int) ∧ (s.size : Int) ≤ 6
  rotate_left
  · refine ⟨-1, Ev.step (fun k => spec_l1Read.eq k s) (Ev.bind ((l1In_ev _ 1 6).isF h16) (Ev.yes rfl (Ev.now _))), .inr ⟨fun n hn e => h16 ?_, rfl⟩⟩
    have := dec_len 5 n (by omega)
    rw [← decS_list, ← e, ← hsl] at this
    omega
  have loop : ∀ (m i : Nat), i + m = s.size → (∀ (j : Nat) (c : UInt8), j < i → s.data.toList[j]? = some c → 48 ≤ c.toNat ∧ c.toNat ≤ 57) → (∃ (j : Nat) (c : UInt8), s.data.toList[j]? = some c ∧ ¬ (48 ≤ c.toNat ∧ c.toNat ≤ 57)) ∧ Ev (fun k => spec_l1Read_l k (s, (valF 0 (s.data.toList.take i) : Int), (i : Int))) (.inl (-1)) ∨
      Digs s.data.toList ∧ Ev (fun k => spec_l1Read_l k (s, (valF 0 (s.data.toList.take i) : Int), (i : Int))) (.inr (valF 0 s.data.toList : Int)) := by
    intro m
    induction m with
    | zero =>
      intro i hi hd
      refine .inr ⟨fun c hc => ?_, Ev.step (fun k => spec_l1Read_l.eq k s _ _) (Ev.no (not_lt_nat (by omega)) (Ev.now' (by rw [List.take_of_length_le (by omega)])))⟩
      obtain ⟨j, hj⟩ := List.mem_iff_getElem?.1 hc
      exact hd j c (by have := (List.getElem?_eq_some_iff.1 hj).1; omega) hj
    | succ m ih =>
      intro i hi hd
      obtain ⟨c, hc⟩ := byte_at (cs := s) (i := i) (by omega)
      have hlt := c.toNat_lt
      have hb := bt_at hc
      have htake : s.data.toList.take (i + 1) = s.data.toList.take i ++ [c] := by rw [List.take_add_one, hc]; rfl
      have hv : valF 0 (s.data.toList.take (i + 1)) = valF 0 (s.data.toList.take i) * 10 + (c.toNat - 48) := by rw [htake, valF_append, valF_one]
      have hvl : valF 0 (s.data.toList.take i) < 1000000 := by
        have := valF_lt (s.data.toList.take i) 0 fun x hx => by
          obtain ⟨j, hj⟩ := List.mem_iff_getElem?.1 hx
          rw [List.getElem?_take] at hj
          split at hj
          · exact hd j x (by omega) hj
          · cases hj
        have h5 : 10 ^ (s.data.toList.take i).length ≤ 10 ^ 6 := Nat.pow_le_pow_right (by omega) (by rw [List.length_take]; omega)
        omega
      have go : ∀ r, Ev (fun k => cond (decide ((c.toNat : Int) < 48)) (some (.inl (-1))) (cond (inB (i : Int) s.size) (cond (decide ((c.toNat : Int) > 57)) (some (.inl (-1))) (cond (inB (i : Int) s.size) (spec_l1Read_l k (s, w64 (w64 (10 * (valF 0 (s.data.toList.take i) : Int)) + w64 (w8 ((c.toNat : Int) - 48))), ((i + 1 : Nat) : Int))) none)) none)) r → Ev (fun k => spec_l1Read_l k (s, (valF 0 (s.data.toList.take i) : Int), (i : Int))) r := fun r hr => by
        refine Ev.step (fun k => spec_l1Read_l.eq k s _ _) (Ev.yes (lt_nat (by omega)) (Ev.yes (inB_nat (by omega)) ?_))
        rw [Int.toNat_natCast, hb, w64_succ (by omega)]
        exact hr
      by_cases c1 : c.toNat < 48
      · exact .inl ⟨⟨i, c, hc, by omega⟩, go _ (Ev.yes (decide_eq_true (by omega)) (Ev.now _))⟩
      by_cases c2 : c.toNat > 57
      · exact .inl ⟨⟨i, c, hc, by omega⟩, go _ (Ev.no (decide_eq_false (by omega)) (Ev.yes (inB_nat (by omega)) (Ev.yes (decide_eq_true (by omega)) (Ev.now _))))⟩
      have e : w64 (w64 (10 * (valF 0 (s.data.toList.take i) : Int)) + w64 (w8 ((c.toNat : Int) - 48))) = (valF 0 (s.data.toList.take (i + 1)) : Int) := by
        rw [hv, w8_of (by omega) (by omega), w64_of (n := (c.toNat : Int) - 48) (by omega) (by omega), w64_of (n := 10 * _) (by omega) (by omega), w64_of (by omega) (by omega)]
        omega
      have hd' : ∀ j x, j < i + 1 → s.data.toList[j]? = some x → 48 ≤ x.toNat ∧ x.toNat ≤ 57 := fun j x hj hx => by
        by_cases hji : j = i
        · subst hji
          rw [hc] at hx
          cases hx
          omega
        · exact hd j x (by omega) hx
      rcases ih (i + 1) (by omega) hd' with ⟨g1, g2⟩ | ⟨g1, g2⟩
      · exact .inl ⟨g1, go _ (Ev.no (decide_eq_false (by omega)) (Ev.yes (inB_nat (by omega)) (Ev.no (decide_eq_false (by omega)) (Ev.yes (inB_nat (by omega)) (by rw [e]; exact g2)))))⟩
      · exact .inr ⟨g1, go _ (Ev.no (decide_eq_false (by omega)) (Ev.yes (inB_nat (by omega)) (Ev.no (decide_eq_false (by omega)) (Ev.yes (inB_nat (by omega)) (by rw [e]; exact g2)))))⟩
  obtain ⟨c0, hc0⟩ := byte_at (cs := s) (i := 0) (by omega)
  have hb0 := bt_at hc0
  have hne : s.data.toList ≠ [] := fun e => by rw [e] at hc0; cases hc0
  have hhead : s.data.toList.head? = some c0 := by rw [List.head?_eq_getElem?]; exact hc0
  -- the two ways of the loop
  have fin : (2 ≤ s.size → c0.toNat ≠ 48) → ∃ v, Ev (fun k => (spec_l1Read_l k (s, 0, 0)).bind fun r2 => r2.elim (fun r3 => some r3) (fun r4 => some r4)) v ∧ IsNum s v := fun hz => by
    rcases loop s.size 0 (by omega) (fun j c hj => by omega) with ⟨⟨j, c, g1, g2⟩, g3⟩ | ⟨g1, g2⟩
    · refine ⟨-1, Ev.bind g3 (Ev.now _), .inr ⟨fun n hn e => g2 ?_, rfl⟩⟩
      have := (dec_canon n).1 c
      rw [← decS_list, ← e] at this
      exact this (List.mem_of_getElem? g1)
    · refine ⟨_, Ev.bind g2 (Ev.now _), .inl ⟨valF 0 s.data.toList, ?_, ?_, rfl⟩⟩
      · have := valF_lt s.data.toList 0 g1
        have h5 : 10 ^ s.data.toList.length ≤ 10 ^ 6 := Nat.pow_le_pow_right (by omega) (by omega)
        omega
      · apply ba_ext
        rw [decS_list]
        refine (val_dec _ s.data.toList rfl hne g1 fun h2 c hc => ?_).symm
        rw [hhead] at hc
        cases hc
        exact hz (by omega)
  refine (?_ : ∃ v, Ev (fun k => cond (bt s 0 == 48) (cond (decide ((s.size : Int) > 1)) (some (-1)) ((spec_l1Read_l k (s, 0, 0)).bind fun r2 => r2.elim (fun r3 => some r3) (fun r4 => some r4))) ((spec_l1Read_l k (s, 0, 0)).bind fun r5 => r5.elim (fun r6 => some r6) (fun r7 => some r7))) v ∧ IsNum s v).imp fun v hv => ⟨Ev.step (fun k => spec_l1Read.eq k s) (Ev.bind ((l1In_ev _ 1 6).isT h16) (Ev.no rfl (Ev.yes (inB_of (by omega) (by omega)) hv.1))), hv.2⟩
  rw [hb0]
  by_cases z : c0.toNat = 48
  · by_cases z1 : s.size > 1
    · refine ⟨-1, Ev.yes (by rw [beq_iff_eq]; omega) (Ev.yes (decide_eq_true (by omega)) (Ev.now _)), .inr ⟨fun n hn e => ?_, rfl⟩⟩
      have d := dec_canon n
      by_cases hn0 : n = 0
      · have : s.data.toList.length = 1 := by rw [e, decS_list, hn0, dec_small (by omega)]; rfl
        omega
      · exact d.2.2 (by omega) c0 (by rw [← decS_list, ← e]; exact hhead) z
    · obtain ⟨v, h1, h2⟩ := fin fun h => by omega
      exact ⟨v, Ev.yes (by rw [beq_iff_eq]; omega) (Ev.no (decide_eq_false (by omega)) h1), h2⟩
  · obtain ⟨v, h1, h2⟩ := fin fun _ => z
    exact ⟨v, Ev.no (by rw [beq_eq_false_iff_ne]; omega) h1, h2⟩
def NumsOk (c : UInt8) (s : ByteArray) (many : Nat) (most : Int) (ns : List Nat) : Prop := ns.length = many ∧ (∀ n ∈ ns, (n : Int) ≤ most) ∧ splitS c s = ns.map decS
theorem numbers_ev (s : ByteArray) (c : UInt8) (many : Nat) (most : Int) (hs : s.size ≤ 1048576) (hm : many ≤ 100) (hmost : most ≤ 999999) : (∃ ns, NumsOk c s many most ns ∧ Ev (fun k => impl_numbers k (s, bs [c], (many : Int), most)) (ns.map fun n : Nat => (n : Int), true)) ∨
    ((∀ ns, ¬ NumsOk c s many most ns) ∧ Ev (fun k => impl_numbers k (s, bs [c], (many : Int), most)) (List.replicate many 0, false)) := by
  have hsp : Ev (fun k => strings_Split k (s, bs [c])) (splitS c s) := Ev.step (fun k => (strings_Split.eq k (s, bs [c])).trans (strSplit_pieces s c (by omega))) (Ev.now _)
  have hlen := splitS_len c s
  have hpc : ∀ x ∈ splitS c s, x.size ≤ s.size := fun x hx => splitS_piece c s x hx
  unfold NumsOk
  generalize splitS c s = L at hsp hlen hpc
  have hrep : (((decide ((0 : Int) ≤ (many : Int))) && (decide ((many : Int) ≤ (many : Int)))) && (fits (many : Int).toNat 8)) = true := by
    rw [decide_eq_true (by omega), decide_eq_true (by omega), fits_of (by omega)]; rfl
  have loop : ∀ (m i : Nat) (ns : List Nat), i + m = L.length → ns.length = i → (∀ n ∈ ns, (n : Int) ≤ most) → L.take i = ns.map decS →
      (∃ ns' : List Nat, (∀ n ∈ ns', (n : Int) ≤ most) ∧ L = ns'.map decS ∧ Ev (fun k => impl_numbers_l k ((many : Int), most, ns.map (fun n : Nat => (n : Int)), L, (L.length : Int), (i : Int))) (.inr ((many : Int), ns'.map fun n : Nat => (n : Int)))) ∨
      ((∃ x ∈ L, ∀ n : Nat, (n : Int) ≤ most → x ≠ decS n) ∧ Ev (fun k => impl_numbers_l k ((many : Int), most, ns.map (fun n : Nat => (n : Int)), L, (L.length : Int), (i : Int))) (.inl (List.replicate many 0, false))) := by
    intro m
    induction m with
    | zero =>
      intro i ns hi hl hn ht
      refine .inl ⟨ns, hn, by rwa [List.take_of_length_le (by omega)] at ht, Ev.step (fun k => impl_numbers_l.eq k _ _ _ L _ _) (Ev.no (not_lt_nat (by omega)) (Ev.now _))⟩
    | succ m ih =>
      intro i ns hi hl hn ht
      obtain ⟨x, hx⟩ := nat_list (l := L) (i := i) (by omega)
      have hxm := List.mem_of_getElem? hx
      have go : ∀ r v b, numB x most = some (v, b) → Ev (fun k => cond (!b) (cond (((decide ((0 : Int) ≤ (many : Int))) && (decide ((many : Int) ≤ (many : Int)))) && (fits (many : Int).toNat 8)) (some (.inl ((List.replicate (many : Int).toNat 0), false))) none) (cond (fits ((ns.map (fun n : Nat => (n : Int))).length + 1) 8) (impl_numbers_l k ((many : Int), most, (ns.map (fun n : Nat => (n : Int)) ++ [v]), L, (L.length : Int), ((i + 1 : Nat) : Int))) none)) r → Ev (fun k => impl_numbers_l k ((many : Int), most, ns.map (fun n : Nat => (n : Int)), L, (L.length : Int), (i : Int))) r := fun r v b hb hr => by
        refine Ev.step (fun k => impl_numbers_l.eq k _ _ _ L _ _) (Ev.yes (lt_nat (by omega)) (Ev.yes (inB_nat (by omega)) ?_))
        rw [Int.toNat_natCast, getD_at hx, w64_succ (by omega)]
        exact Ev.bind (Ev.step (fun k => (impl_number.eq k (x, most)).trans hb) (Ev.now _)) hr
      have hxs := hpc x hxm
      rcases numB_dec x most (by omega) (by omega) with ⟨n, g1, g2, g3⟩ | ⟨g1, g2⟩
      · have hmap : (ns.map (fun n : Nat => (n : Int)) ++ [(n : Int)]) = (ns ++ [n]).map fun n : Nat => (n : Int) := by simp
        have hf : fits ((ns.map (fun n : Nat => (n : Int))).length + 1) 8 = true := fits_of (by rw [List.length_map]; omega)
        have st := fun r hr => go r (n : Int) true g3 (Ev.no rfl (Ev.yes hf hr))
        rw [hmap] at st
        rcases ih (i + 1) (ns ++ [n]) (by omega) (by simp [hl]) (fun q hq => by
          rcases List.mem_append.1 hq with hq | hq
          · exact hn q hq
          · rw [List.mem_singleton.1 hq]; exact g1) (by rw [List.take_add_one, hx, ht, g2]; simp) with ⟨ns', q1, q2, q3⟩ | ⟨q1, q2⟩
        · exact .inl ⟨ns', q1, q2, st _ q3⟩
        · exact .inr ⟨q1, st _ q2⟩
      · exact .inr ⟨⟨x, hxm, g1⟩, go _ 0 false g2 (Ev.yes rfl (Ev.yes hrep (Ev.now _)))⟩
  rcases loop L.length 0 [] (by omega) rfl (by simp) (by simp) with ⟨ns', q1, q2, q3⟩ | ⟨⟨x, q1, q2⟩, q3⟩
  · have hll : (ns'.map fun n : Nat => (n : Int)).length = ns'.length := List.length_map ..
    by_cases hc : ns'.length = many
    · refine .inl ⟨ns', ⟨hc, q1, q2⟩, Ev.step (fun k => impl_numbers.eq k s (bs [c]) many most) (Ev.bind hsp (Ev.bind q3 (Ev.no ?_ (Ev.now _))))⟩
      rw [bne_eq_false_iff_eq, hll]
      omega
    · refine .inr ⟨fun ns h => hc ?_, Ev.step (fun k => impl_numbers.eq k s (bs [c]) many most) (Ev.bind hsp (Ev.bind q3 (Ev.yes ?_ (Ev.yes hrep (Ev.now _)))))⟩
      · have e : ns.length = ns'.length := by
          have := congrArg List.length (h.2.2.symm.trans q2)
          rwa [List.length_map, List.length_map] at this
        rw [← e]
        exact h.1
      · rw [bne_iff_ne, hll]
        omega
  · refine .inr ⟨fun ns h => ?_, Ev.step (fun k => impl_numbers.eq k s (bs [c]) many most) (Ev.bind hsp (Ev.bind q3 (Ev.now _)))⟩
    rw [h.2.2] at q1
    obtain ⟨n, hn, rfl⟩ := List.mem_map.1 q1
    exact q2 n (h.2.1 n hn) rfl
end Go.Proofs.YtplamonjnlgomaaGreatDoorS
