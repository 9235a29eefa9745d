/- strings.FieldsFunc at a comma; joins cut up again. -/
import Derived.Test.YtaookbfcncfkbaaGreatDoorPuParse
import Derived.Lib.RuneCount
import Derived.Laws.RangeString
namespace Go.Proofs.YtaookbfcncfkbaaGreatDoorS
open Go
set_option linter.unusedVariables false
set_option linter.unusedSimpArgs false
/-! ### Joins cut up again -/
theorem splitL_free (c : UInt8) : ∀ x : List UInt8, c ∉ x → splitL c x = [x]
  | [], _ => by simp [splitL]
  | b :: x, h => by
    have hb : b ≠ c := fun e => h (by rw [e]; exact List.mem_cons_self)
    rw [splitL, if_neg hb, splitL_free c x fun hx => h (List.mem_cons_of_mem _ hx)]
theorem splitL_cut (c : UInt8) (r : List UInt8) : ∀ x : List UInt8, c ∉ x → splitL c (x ++ c :: r) = x :: splitL c r
  | [], _ => by simp [splitL]
  | b :: x, h => by
    have hb : b ≠ c := fun e => h (by rw [e]; exact List.mem_cons_self)
    rw [List.cons_append, splitL, if_neg hb, splitL_cut c r x fun hx => h (List.mem_cons_of_mem _ hx)]
theorem splitL_joined (c : UInt8) : ∀ (T : List (List UInt8)), T ≠ [] → (∀ x ∈ T, c ∉ x) → splitL c (Lib.join T [c]) = T
  | [], h, _ => absurd rfl h
  | [x], _, h => by rw [Lib.join_one]; exact splitL_free c x (h x (by simp))
  | x :: y :: r, _, h => by
    have ih := splitL_joined c (y :: r) (by simp) fun z hz => h z (List.mem_cons_of_mem _ hz)
    rw [Lib.join_cons] at ih
    rw [Lib.join_cons]
    have e : x ++ Lib.joinTail [c] (y :: r) = x ++ c :: (y ++ Lib.joinTail [c] r) := by simp [Lib.joinTail]
    rw [e, splitL_cut c _ x (h x (by simp)), ih]
theorem splitS_joined (c : UInt8) (T : List ByteArray) (hT : T ≠ []) (h : ∀ x ∈ T, c ∉ x.data.toList) : splitS c (joinB T (bs [c])) = T := by
  unfold splitS
  have e : (joinB T (bs [c])).data.toList = Lib.join (T.map (·.data.toList)) [c] := rfl
  rw [e, splitL_joined c _ (by simpa using hT) (by intro x hx; obtain ⟨y, hy, rfl⟩ := List.mem_map.1 hx; exact h y hy), List.map_map]
  conv => rhs; rw [← List.map_id T]
  rfl
theorem dec_free (n : Nat) (c : UInt8) (h : ¬ (48 ≤ c.toNat ∧ c.toNat ≤ 57)) : c ∉ (decS n).data.toList := fun hc => h ((dec_canon n).1 c hc)
/-! ### FieldsFunc -/
theorem xor_neg {n : Int} (h0 : 0 ≤ n) (h1 : n ≤ 4294967296) : xorI .i64 (-1) n = -n - 1 := by
  unfold xorI
  have e : BitVec.ofInt IntKind.i64.bits (-1) = BitVec.allOnes IntKind.i64.bits := by decide
  rw [e, BitVec.allOnes_xor, BitVec.toNat_not]
  have e2 : (BitVec.ofInt IntKind.i64.bits n).toNat = n.toNat := by
    rw [BitVec.toNat_ofInt]
    show (n % (2 ^ 64 : Nat)).toNat = n.toNat
    rw [Int.emod_eq_of_lt h0 (by omega)]
  rw [e2]
  have e3 : ((2 ^ IntKind.i64.bits - 1 - n.toNat : Nat) : Int) = 18446744073709551615 - n := by
    show ((2 ^ 64 - 1 - n.toNat : Nat) : Int) = _
    omega
  rw [e3]
  unfold IntKind.wrap
  show (if (true && decide ((18446744073709551615 - n) % 2 ^ 64 ≥ 2 ^ (64 - 1))) = true then (18446744073709551615 - n) % 2 ^ 64 - 2 ^ 64 else _) = _
  rw [if_pos (by simp; omega)]
  omega
def SpOk (s : ByteArray) (sp : List (Int × Int)) : Prop := ∀ p ∈ sp, 0 ≤ p.1 ∧ p.1 ≤ p.2 ∧ p.2 ≤ (s.size : Int)
theorem SpOk.snoc {s : ByteArray} {sp : List (Int × Int)} (h : SpOk s sp) {a b : Int} (hab : 0 ≤ a ∧ a ≤ b ∧ b ≤ (s.size : Int)) : SpOk s (sp ++ [(a, b)]) := fun p hp => by
  rcases List.mem_append.1 hp with hp | hp
  · exact h p hp
  · rw [List.mem_singleton.1 hp]; exact hab
def cutS (s : ByteArray) (p : Int × Int) : ByteArray := s.extract p.1.toNat p.2.toNat
def finS (s : ByteArray) (sp : List (Int × Int)) (st : Int) : List (Int × Int) := if st ≥ 0 then sp ++ [(st, (s.size : Int))] else sp
theorem comma_ev (r : Int) : Ev (fun k => impl_ParsePuzzle_1 k r) (r == 44) := Ev.step (fun k => impl_ParsePuzzle_1.eq k r) (Ev.now _)
theorem rune_pos {s : ByteArray} {i : Nat} (h : i < s.size) : i + 1 ≤ runeEnd s i := by
  have := Lib.decode_width_pos s i h
  unfold runeEnd
  omega
theorem rune_one {s : ByteArray} {i : Nat} {c : UInt8} (h : s.data.toList[i]? = some c) (hc : c.toNat < 128) : runeAt s i = (c.toNat : Int) ∧ runeEnd s i = i + 1 := by
  obtain ⟨hlt, he⟩ := List.getElem?_eq_some_iff.1 h
  have hi : i < s.size := by rw [size_list]; exact hlt
  have hg : s[i]'hi = c := by
    rw [← he]
    simp [ByteArray.getElem_eq_getElem_data]
  unfold runeEnd runeAt
  rw [decode_ascii s i hi (by rw [hg]; exact hc), hg]
  exact ⟨rfl, rfl⟩
theorem fieldsG (s : ByteArray) (hs : s.size ≤ 1048576) : ∀ (m i : Nat) (sp : List (Int × Int)) (st : Int), s.size ≤ i + m → SpOk s sp → sp.length ≤ i → sp.length ≤ s.size → (-4294967296 ≤ st ∧ st ≤ (s.size : Int)) → st ≤ (i : Int) →
    ∃ (sp' : List (Int × Int)) (st' : Int), Ev (fun k => strings_FieldsFunc_l k (s, (), sp, st, (s, i))) (s, sp', st') ∧ SpOk s sp' ∧ sp'.length ≤ s.size ∧ (-4294967296 ≤ st' ∧ st' ≤ (s.size : Int)) := by
  intro m
  induction m with
  | zero =>
    intro i sp st hm h1 h2 h3 h4 h5
    exact ⟨sp, st, Ev.step (fun k => strings_FieldsFunc_l.eq k s sp st s i) (Ev.no (decide_eq_false (by omega)) (Ev.now _)), h1, h3, h4⟩
  | succ m ih =>
    intro i sp st hm h1 h2 h3 h4 h5
    by_cases hi : i < s.size
    rotate_left
    · exact ⟨sp, st, Ev.step (fun k => strings_FieldsFunc_l.eq k s sp st s i) (Ev.no (decide_eq_false (by omega)) (Ev.now _)), h1, h3, h4⟩
    have hr := rune_pos hi
    have st0 := fun r h => (Ev.step (fun k => strings_FieldsFunc_l.eq k s sp st s i) (Ev.yes (decide_eq_true hi) (Ev.bind (comma_ev (runeAt s i)) h)) : Ev (fun k => strings_FieldsFunc_l k (s, (), sp, st, (s, i))) r)
    by_cases hc : (runeAt s i == 44) = true
    · by_cases hst : st ≥ 0
      · have e := xor_neg hst (by omega)
        obtain ⟨sp', st', g, g2⟩ := ih (runeEnd s i) (sp ++ [(st, (i : Int))]) (-st - 1) (by omega) (h1.snoc ⟨hst, h5, by omega⟩) (by simp; omega) (by simp; omega) (by omega) (by omega)
        rw [← e] at g
        exact ⟨sp', st', st0 _ (Ev.yes hc (Ev.yes (decide_eq_true hst) (Ev.yes (fits_of (by omega)) g))), g2⟩
      · obtain ⟨sp', st', g, g2⟩ := ih (runeEnd s i) sp st (by omega) h1 (by omega) h3 h4 (by omega)
        exact ⟨sp', st', st0 _ (Ev.yes hc (Ev.no (decide_eq_false hst) g)), g2⟩
    · have hc : (runeAt s i == 44) = false := by simpa using hc
      by_cases hst : st < 0
      · obtain ⟨sp', st', g, g2⟩ := ih (runeEnd s i) sp (i : Int) (by omega) h1 (by omega) h3 (by omega) (by omega)
        exact ⟨sp', st', st0 _ (Ev.no hc (Ev.yes (decide_eq_true hst) g)), g2⟩
      · obtain ⟨sp', st', g, g2⟩ := ih (runeEnd s i) sp st (by omega) h1 (by omega) h3 h4 (by omega)
        exact ⟨sp', st', st0 _ (Ev.no hc (Ev.no (decide_eq_false hst) g)), g2⟩
theorem fields_l2 (s : ByteArray) (sp : List (Int × Int)) (hok : SpOk s sp) (hlen : sp.length ≤ 1048577) : ∀ (m i : Nat), i + m = sp.length → Ev (fun k => strings_FieldsFunc_l_2 k (s, (sp.take i).map (cutS s) ++ List.replicate m ByteArray.empty, sp, (sp.length : Int), (i : Int))) (sp.map (cutS s)) := by
  intro m
  induction m with
  | zero =>
    intro i hi
    exact Ev.step (fun k => strings_FieldsFunc_l_2.eq k s _ sp _ _) (Ev.no (not_lt_nat (by omega)) (Ev.now' (by rw [List.take_of_length_le (by omega)]; simp)))
  | succ m ih =>
    intro i hi
    obtain ⟨p, hp⟩ := nat_list (l := sp) (i := i) (by omega)
    obtain ⟨a1, a2, a3⟩ := hok p (List.mem_of_getElem? hp)
    have ih' := ih (i + 1) (by omega)
    have hl : ((sp.take i).map (cutS s)).length = i := by rw [List.length_map, List.length_take]; omega
    have e : ((sp.take i).map (cutS s) ++ List.replicate (m + 1) ByteArray.empty).set i (cutS s p) = (sp.take (i + 1)).map (cutS s) ++ List.replicate m ByteArray.empty := by
      rw [List.set_append_right _ _ (by omega), hl, Nat.sub_self, List.take_add_one, hp, List.replicate_succ]
      simp
    refine Ev.step (fun k => strings_FieldsFunc_l_2.eq k s _ sp _ _) (Ev.yes (lt_nat (by omega)) (Ev.yes (inB_nat (by omega)) ?_))
    rw [Int.toNat_natCast, getD_at hp, w64_succ (by omega)]
    refine Ev.yes (by rw [decide_eq_true (by omega), decide_eq_true (by omega), decide_eq_true (by omega), decide_eq_true (by omega)]; rfl) (Ev.yes (inB_nat (by rw [List.length_append, hl, List.length_replicate]; omega)) ?_)
    rw [← e] at ih'
    exact ih'
theorem fields_of (s : ByteArray) (hs : s.size ≤ 1048576) (sp : List (Int × Int)) (st : Int) (h : Ev (fun k => strings_FieldsFunc_l k (s, (), [], -1, (s, 0))) (s, sp, st)) (hok : SpOk s sp) (hlen : sp.length ≤ s.size) (hst : st ≤ (s.size : Int)) : Ev (fun k => strings_FieldsFunc k (s, ())) ((finS s sp st).map (cutS s)) := by
  refine Ev.step (fun k => strings_FieldsFunc.eq k s) (Ev.yes (fits_of (by omega)) (Ev.bind h ?_))
  have go : ∀ q : List (Int × Int), SpOk s q → q.length ≤ 1048577 → ∀ (f : Nat → Option (List ByteArray)), (∀ k, f k = cond (((decide ((0 : Int) ≤ (q.length : Int))) && (decide ((q.length : Int) ≤ (q.length : Int)))) && (fits (q.length : Int).toNat 16)) ((strings_FieldsFunc_l_2 k (s, (List.replicate (q.length : Int).toNat ByteArray.empty), q, (q.length : Int), 0)).bind fun r2 => some r2) none) → Ev f (q.map (cutS s)) := fun q hq hl f hf => by
    have e : f = fun k => _ := funext hf
    rw [e]
    have l2 := fields_l2 s q hq hl q.length 0 (by omega)
    rw [List.take_zero, List.map_nil, List.nil_append] at l2
    refine Ev.yes (by rw [decide_eq_true (by omega), decide_eq_true (by omega), fits_of (by omega)]; rfl) ?_
    rw [Int.toNat_natCast]
    exact Ev.bind l2 (Ev.now _)
  unfold finS
  by_cases hs0 : st ≥ 0
  · rw [if_pos hs0]
    exact Ev.yes (decide_eq_true hs0) (Ev.yes (fits_of (by dsimp only; omega)) (go _ (hok.snoc ⟨hs0, hst, by omega⟩) (by simp; omega) _ fun k => rfl))
  · rw [if_neg hs0]
    exact Ev.no (decide_eq_false hs0) (go _ hok (by omega) _ fun k => rfl)
theorem fields_any (s : ByteArray) (hs : s.size ≤ 1048576) : ∃ l : List ByteArray, Ev (fun k => strings_FieldsFunc k (s, ())) l ∧ l.length ≤ s.size + 1 ∧ ∀ x ∈ l, x.size ≤ s.size := by
  obtain ⟨sp, st, h1, h2, h3, h4⟩ := fieldsG s hs s.size 0 [] (-1) (by omega) (fun p hp => by cases hp) (by simp) (by simp) (by omega) (by omega)
  refine ⟨_, fields_of s hs sp st h1 h2 h3 h4.2, ?_, fun x hx => ?_⟩
  · unfold finS
    split <;> simp <;> omega
  · obtain ⟨p, _, rfl⟩ := List.mem_map.1 hx
    unfold cutS
    rw [size_list, extract_list, List.length_drop, List.length_take, size_list]
    omega
def GoodP (x : ByteArray) : Prop := 1 ≤ x.size ∧ ∀ c ∈ x.data.toList, c.toNat < 128 ∧ c.toNat ≠ 44
theorem fields_stay (s : ByteArray) (sp : List (Int × Int)) (st : Int) (hst : 0 ≤ st) (e : Nat) (r : ByteArray × List (Int × Int) × Int) (hr : Ev (fun k => strings_FieldsFunc_l k (s, (), sp, st, (s, e))) r) : ∀ (m j : Nat), j + m = e → (∀ q, j ≤ q → q < e → ∃ c : UInt8, s.data.toList[q]? = some c ∧ c.toNat < 128 ∧ c.toNat ≠ 44) → Ev (fun k => strings_FieldsFunc_l k (s, (), sp, st, (s, j))) r := by
  intro m
  induction m with
  | zero =>
    intro j hj _
    have : j = e := by omega
    rw [this]
    exact hr
  | succ m ih =>
    intro j hj hb
    obtain ⟨c, hc, h1, h2⟩ := hb j (Nat.le_refl _) (by omega)
    have hlt : j < s.size := by rw [size_list]; exact (List.getElem?_eq_some_iff.1 hc).1
    obtain ⟨r1, r2⟩ := rune_one hc h1
    have ih' := ih (j + 1) (by omega) fun q h3 h4 => hb q (by omega) h4
    rw [← r2] at ih'
    refine Ev.step (fun k => strings_FieldsFunc_l.eq k s sp st s j) (Ev.yes (decide_eq_true hlt) (Ev.bind (comma_ev _) (Ev.no ?_ (Ev.no (decide_eq_false (by omega)) ih'))))
    rw [r1, beq_eq_false_iff_ne]
    omega
theorem fieldsE (s : ByteArray) (hs : s.size ≤ 1048576) : ∀ (T : List ByteArray), (∀ x ∈ T, GoodP x) → ∀ (i : Nat) (sp : List (Int × Int)) (st : Int), st < 0 → SpOk s sp → i ≤ s.size → sp.length ≤ i → s.data.toList.drop i = Lib.join (T.map (·.data.toList)) [44] →
    ∃ (sp' : List (Int × Int)) (st' : Int), Ev (fun k => strings_FieldsFunc_l k (s, (), sp, st, (s, i))) (s, sp', st') ∧ SpOk s sp' ∧ sp'.length ≤ s.size ∧ st' ≤ (s.size : Int) ∧ (finS s sp' st').map (cutS s) = sp.map (cutS s) ++ T := by
  intro T
  have hsl := size_list s
  -- one piece x from i on: the loop comes to its end with start i
  have piece : ∀ (x : ByteArray) (t : List UInt8) (i : Nat) (sp : List (Int × Int)) (st : Int) (r : ByteArray × List (Int × Int) × Int), GoodP x → st < 0 → s.data.toList.drop i = x.data.toList ++ t → Ev (fun k => strings_FieldsFunc_l k (s, (), sp, (i : Int), (s, i + x.size))) r → Ev (fun k => strings_FieldsFunc_l k (s, (), sp, st, (s, i))) r ∧ i + x.size ≤ s.size ∧ cutS s ((i : Int), ((i + x.size : Nat) : Int)) = x := by
    intro x t i sp st r hx hst hd hr
    have hxl := size_list x
    have hlen := congrArg List.length hd
    rw [List.length_drop, List.length_append] at hlen
    have hx1 := hx.1
    have byte : ∀ q, i ≤ q → q < i + x.size → ∃ c : UInt8, s.data.toList[q]? = some c ∧ c.toNat < 128 ∧ c.toNat ≠ 44 := fun q h1 h2 => by
      have hq : q - i < x.data.toList.length := by omega
      refine ⟨x.data.toList[q - i], ?_, hx.2 _ (List.getElem_mem hq)⟩
      have := congrArg (fun l => l[q - i]?) hd
      simp only [List.getElem?_drop] at this
      rw [show i + (q - i) = q by omega, List.getElem?_append_left hq, List.getElem?_eq_getElem hq] at this
      exact this
    obtain ⟨c, hc, h1, h2⟩ := byte i (Nat.le_refl _) (by omega)
    obtain ⟨r1, r2⟩ := rune_one hc h1
    have hi : i < s.size := by omega
    have go := fields_stay s sp (i : Int) (by omega) (i + x.size) r hr (x.size - 1) (i + 1) (by omega) fun q h3 h4 => byte q (by omega) h4
    rw [← r2] at go
    refine ⟨Ev.step (fun k => strings_FieldsFunc_l.eq k s sp st s i) (Ev.yes (decide_eq_true hi) (Ev.bind (comma_ev _) (Ev.no ?_ (Ev.yes (decide_eq_true hst) go)))), by omega, ?_⟩
    · rw [r1, beq_eq_false_iff_ne]
      omega
    · apply ba_ext
      unfold cutS
      rw [extract_list]
      dsimp only
      rw [Int.toNat_natCast, Int.toNat_natCast, List.drop_take, hd, show i + x.size - i = x.size by omega, hxl, List.take_left]
  induction T with
  | nil =>
    intro _ i sp st hst hok hi hl hd
    have hn : s.data.toList.length ≤ i := by
      have := congrArg List.length hd
      rw [List.length_drop] at this
      simp [Lib.join] at this
      omega
    refine ⟨sp, st, Ev.step (fun k => strings_FieldsFunc_l.eq k s sp st s i) (Ev.no (decide_eq_false (by omega)) (Ev.now _)), hok, by omega, by omega, ?_⟩
    unfold finS
    rw [if_neg (by omega), List.append_nil]
  | cons x T ih =>
    intro hT i sp st hst hok hi hl hd
    have hx := hT x List.mem_cons_self
    cases T with
    | nil =>
      have hd' : s.data.toList.drop i = x.data.toList ++ [] := by rw [hd, List.map_cons, List.map_nil, Lib.join_one, List.append_nil]
      have hlen := congrArg List.length hd'
      rw [List.length_drop, List.length_append, List.length_nil] at hlen
      have hxl := size_list x
      have e : i + x.size = s.size := by omega
      obtain ⟨g1, g2, g3⟩ := piece x [] i sp st (s, sp, (i : Int)) hx hst hd' (by rw [e]; exact Ev.step (fun k => strings_FieldsFunc_l.eq k s sp _ s _) (Ev.no (decide_eq_false (by omega)) (Ev.now _)))
      refine ⟨sp, (i : Int), g1, hok, by omega, by omega, ?_⟩
      unfold finS
      rw [if_pos (by omega), List.map_append, List.map_cons, List.map_nil, ← g3, e]
    | cons y r =>
      have hd' : s.data.toList.drop i = x.data.toList ++ 44 :: Lib.join ((y :: r).map (·.data.toList)) [44] := by
        rw [hd]
        simp only [List.map_cons, Lib.join_cons]
        simp [Lib.joinTail]
      have hxl := size_list x
      have hx1 := hx.1
      have hdrop : s.data.toList.drop (i + x.size) = 44 :: Lib.join ((y :: r).map (·.data.toList)) [44] := by
        rw [← List.drop_drop, hd', hxl, List.drop_left]
      have hcm : s.data.toList[i + x.size]? = some 44 := by
        have := congrArg (fun l => l[0]?) hdrop
        simpa [List.getElem?_drop] using this
      have hlt : i + x.size < s.size := by rw [hsl]; exact (List.getElem?_eq_some_iff.1 hcm).1
      obtain ⟨r1, r2⟩ := rune_one hcm (by decide)
      have hdrop2 : s.data.toList.drop (i + x.size + 1) = Lib.join ((y :: r).map (·.data.toList)) [44] := by
        rw [← List.drop_drop, hdrop]
        rfl
      obtain ⟨sp', st', g1, g2, g3, g4, g5⟩ := ih (fun z hz => hT z (List.mem_cons_of_mem _ hz)) (i + x.size + 1) (sp ++ [((i : Int), ((i + x.size : Nat) : Int))]) (-(i : Int) - 1) (by omega) (hok.snoc (by omega)) (by omega) (by simp; omega) hdrop2
      rw [← xor_neg (by omega) (by omega), ← r2] at g1
      have here : Ev (fun k => strings_FieldsFunc_l k (s, (), sp, (i : Int), (s, i + x.size))) (s, sp', st') :=
        Ev.step (fun k => strings_FieldsFunc_l.eq k s sp (i : Int) s (i + x.size)) (Ev.yes (decide_eq_true hlt) (Ev.bind (comma_ev _) (Ev.yes (by rw [r1]; rfl) (Ev.yes (decide_eq_true (by omega)) (Ev.yes (fits_of (by omega)) g1)))))
      obtain ⟨q1, q2, q3⟩ := piece x _ i sp st _ hx hst hd' here
      refine ⟨sp', st', q1, g2, g3, g4, ?_⟩
      rw [g5, List.map_append, List.map_cons, List.map_nil, q3, List.append_assoc]
      rfl
theorem fields_exact (s : ByteArray) (hs : s.size ≤ 1048576) (T : List ByteArray) (hT : ∀ x ∈ T, GoodP x) (hj : s = joinB T (bs [44])) : Ev (fun k => strings_FieldsFunc k (s, ())) T := by
  obtain ⟨sp, st, h1, h2, h3, h4, h5⟩ := fieldsE s hs T hT 0 [] (-1) (by omega) (fun p hp => by cases hp) (by omega) (by simp) (by rw [List.drop_zero, hj]; rfl)
  have := fields_of s hs sp st h1 h2 h3 h4
  rw [h5] at this
  exact this
end Go.Proofs.YtaookbfcncfkbaaGreatDoorS
