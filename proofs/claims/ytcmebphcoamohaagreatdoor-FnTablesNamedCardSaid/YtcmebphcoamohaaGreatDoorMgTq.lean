/- Several texts in one: PuTaP, PuTaQ. -/
import Derived.Test.YtcmebphcoamohaaGreatDoorMgTa
namespace Go.Proofs.YtcmebphcoamohaaGreatDoorS
open Go
set_option linter.unusedVariables false
set_option linter.unusedSimpArgs false
theorem index_hit1 (c : UInt8) (r : List UInt8) : ∀ x : List UInt8, c ∉ x → Lib.index (x ++ c :: r) [c] = (x.length : Int)
  | [], _ => by
    show Lib.index (c :: r) [c] = 0
    unfold Lib.index
    simp
  | b :: x, h => by
    simp only [List.mem_cons, not_or] at h
    have ih := index_hit1 c r x h.2
    show Lib.index (b :: (x ++ c :: r)) [c] = _
    unfold Lib.index
    have h1 : ([c].isPrefixOf (b :: (x ++ c :: r))) = false := by
      show (c == b && _) = false
      rw [beq_eq_false_iff_ne.2 h.1]
      rfl
    rw [h1, ih]
    simp
    try omega
theorem index_miss1 (c : UInt8) : ∀ x : List UInt8, c ∉ x → Lib.index x [c] = -1
  | [], _ => by unfold Lib.index; rfl
  | b :: x, h => by
    simp only [List.mem_cons, not_or] at h
    have ih := index_miss1 c x h.2
    unfold Lib.index
    have h1 : ([c].isPrefixOf (b :: x)) = false := by
      show (c == b && _) = false
      rw [beq_eq_false_iff_ne.2 h.1]
      rfl
    rw [h1, ih]
    rfl
theorem first_one {c : UInt8} : ∀ {x x' r r' : List UInt8}, c ∉ x → c ∉ x' → x ++ c :: r = x' ++ c :: r' → x = x' ∧ r = r'
  | [], [], r, r', _, _, e => ⟨rfl, by simpa using e⟩
  | [], b :: x', r, r', _, h', e => by
    simp at e
    exact absurd (by rw [e.1]; exact List.mem_cons_self) h'
  | b :: x, [], r, r', h, _, e => by
    simp at e
    exact absurd (by rw [e.1]; exact List.mem_cons_self) h
  | b :: x, b' :: x', r, r', h, h', e => by
    simp only [List.cons_append, List.cons.injEq] at e
    simp only [List.mem_cons, not_or] at h h'
    obtain ⟨e1, e2⟩ := first_one h.2 h'.2 e.2
    exact ⟨by rw [e.1, e1], e2⟩
theorem piece_ex {c : UInt8} : ∀ (l : List UInt8), c ∈ l → ∃ x r, l = x ++ c :: r ∧ c ∉ x
  | [], h => by cases h
  | b :: l, h => by
    by_cases hb : b = c
    · exact ⟨[], l, by rw [hb]; rfl, by simp⟩
    · obtain ⟨x, r, h1, h2⟩ := piece_ex l ((List.mem_cons.1 h).resolve_left fun e => hb e.symm)
      exact ⟨b :: x, r, by rw [h1]; rfl, by simp [h2]; exact fun e => hb e.symm⟩
theorem cut_ev (s : ByteArray) (hs : s.size ≤ 1048576) : ((58 : UInt8) ∉ s.data.toList ∧ Ev (fun k => strings_Cut k (s, bs [58])) (s, ByteArray.empty, false)) ∨
    ∃ x r : ByteArray, s.data.toList = x.data.toList ++ 58 :: r.data.toList ∧ (58 : UInt8) ∉ x.data.toList ∧ Ev (fun k => strings_Cut k (s, bs [58])) (x, r, true) := by
  have hl : (bs [58]).data.toList = [58] := rfl
  by_cases hm : (58 : UInt8) ∈ s.data.toList
  · obtain ⟨x, r, e1, e2⟩ := piece_ex _ hm
    refine .inr ⟨mkS x, mkS r, e1, e2, Ev.step (fun k => (strings_Cut.eq k (s, bs [58])).trans (show strCut s (bs [58]) = some (mkS x, mkS r, true) from ?_)) (Ev.now _)⟩
    unfold strCut
    rw [if_pos (by omega)]
    unfold Lib.cut
    rw [hl, e1, index_hit1 58 r x e2, if_pos (by omega), Int.toNat_natCast, List.take_left, ← List.drop_drop, List.drop_left]
    rfl
  · refine .inl ⟨hm, Ev.step (fun k => (strings_Cut.eq k (s, bs [58])).trans (show strCut s (bs [58]) = some (s, ByteArray.empty, false) from ?_)) (Ev.now _)⟩
    unfold strCut
    rw [if_pos (by omega)]
    unfold Lib.cut
    rw [hl, index_miss1 58 _ hm, if_neg (by omega)]
    rfl
theorem two {α : Type} {l : List α} (h : l.length = 2) : ∃ a b, l = [a, b] := by
  match l, h with
  | [a, b], _ => exact ⟨a, b, rfl⟩
theorem isNumZ_of {s : ByteArray} {v : Int} (h : IsNum s v) (h0 : 0 ≤ v) : ∃ n : Nat, v = n ∧ s = decS n := by
  rcases h with ⟨n, _, h1, h2⟩ | ⟨_, h⟩
  · exact ⟨n, h2, h1⟩
  · omega
theorem isNumZ_dec {n : Nat} {v : Int} (hn : n ≤ 999999) (h : IsNum (decS n) v) : v = n := by
  rcases h with ⟨m, _, h1, h2⟩ | ⟨h, _⟩
  · rw [h2, decS_inj h1]
  · exact absurd rfl (h n hn)
theorem lenZ_ne {n m : Nat} (h : n ≠ m) : ((n : Int) != (m : Int)) = true := by rw [bne_iff_ne]; omega
/-! ### Texts -/
def rowL (r : Rw) : List UInt8 := Lib.decDigits r.1.toNat ++ r.2.1.data.toList ++ Lib.decDigits r.2.2.toNat
def bodyL (rs : List Rw) : List UInt8 := rs.flatMap rowL
def bodyB (rs : List Rw) : ByteArray := mkS (bodyL rs)
def rowB (r : Rw) : ByteArray := decS r.1.toNat ++ r.2.1 ++ decS r.2.2.toNat
theorem rowB_list (r : Rw) : (rowB r).data.toList = rowL r := by unfold rowB rowL; rw [append_list, append_list, decS_list, decS_list]
theorem bodyB_list (rs : List Rw) : (bodyB rs).data.toList = bodyL rs := rfl
theorem bodyL_cons (r : Rw) (rs : List Rw) : bodyL (r :: rs) = rowL r ++ bodyL rs := List.flatMap_cons
theorem bodyB_snoc (rs : List Rw) (r : Rw) : bodyB (rs ++ [r]) = bodyB rs ++ rowB r := by
  apply ba_ext
  rw [append_list, rowB_list, bodyB_list, bodyB_list]
  unfold bodyL
  rw [List.flatMap_append]
  simp
def headT (a b : Nat) : ByteArray := joinB [decS a, decS b] (bs [47])
theorem headT_eq (a b : Nat) : headT a b = decS a ++ bs [47] ++ decS b := by
  unfold headT
  have := joinB_snoc [decS a] (decS b) (bs [47]) (by simp)
  rw [joinB_one] at this
  exact this
theorem headT_split (a b : Nat) : splitS 47 (headT a b) = [decS a, decS b] := splitS_joined 47 _ (by simp) fun z hz hc => by
  simp only [List.mem_cons, List.not_mem_nil, or_false] at hz
  rcases hz with rfl | rfl <;> exact dec_free _ _ (by decide) hc
theorem headT_free (a b : Nat) : (58 : UInt8) ∉ (headT a b).data.toList := fun hc => by
  rw [headT_eq, append_list, append_list] at hc
  rcases List.mem_append.1 hc with hc | hc
  · rcases List.mem_append.1 hc with hc | hc
    · exact dec_free _ _ (by decide) hc
    · simp [bs] at hc
  · exact dec_free _ _ (by decide) hc
def textT (a b : Nat) (rs : List Rw) : ByteArray := headT a b ++ bs [58] ++ bodyB rs
theorem textT_list (a b : Nat) (rs : List Rw) : (textT a b rs).data.toList = (headT a b).data.toList ++ 58 :: bodyL rs := by
  unfold textT
  rw [append_list, append_list, bodyB_list, List.append_assoc]
  rfl
theorem one_decT {n : Nat} (h : n < 10) : (decS n).size = 1 := by
  rw [size_list, decS_list, dec_small h]
  rfl
/-- A row of small numbers is told by three bytes. -/
theorem rowL_three {st ti : Nat} (hst : st ≤ 4) (hti : ti ≤ 4) {r : Rw} (h : RowOk st ti r) : ∃ (p n : Nat) (c : UInt8), r = ((p : Int), mkS [c], (n : Int)) ∧ p < 10 ∧ n < 10 ∧ SignC c ∧ rowL r = [UInt8.ofNat (48 + p), c, UInt8.ofNat (48 + n)] := by
  obtain ⟨p, t, n⟩ := r
  obtain ⟨⟨a1, a2⟩, ⟨c, hc, hs⟩, ⟨a4, a5⟩⟩ := h
  simp only at a1 a2 hc a4 a5
  obtain ⟨p, rfl⟩ := Int.eq_ofNat_of_zero_le a1
  obtain ⟨n, rfl⟩ := Int.eq_ofNat_of_zero_le a4
  have hp : p < 10 := by omega
  have hn : n < 10 := by omega
  refine ⟨p, n, c, ?_, hp, hn, hs, ?_⟩
  · rw [show t = mkS [c] from ba_ext hc]
  · show Lib.decDigits p ++ t.data.toList ++ Lib.decDigits n = _
    rw [dec_small hp, dec_small hn, hc]
    rfl
/-- Rows out of bytes. -/
def rowsG (f : UInt8 → Int) : List UInt8 → List Rw
  | a :: b :: c :: l => (f a, mkS [b], f c) :: rowsG f l
  | _ => []
structure DigF (f : UInt8 → Int) : Prop where
  to : ∀ n : Nat, n < 10 → f (UInt8.ofNat (48 + n)) = n
  back : ∀ c : UInt8, 0 ≤ f c → f c ≤ 9 → c = UInt8.ofNat (48 + (f c).toNat)
theorem rowsG_body {f : UInt8 → Int} (hf : DigF f) {st ti : Nat} (hst : st ≤ 4) (hti : ti ≤ 4) : ∀ rs : List Rw, (∀ r ∈ rs, RowOk st ti r) → rowsG f (bodyL rs) = rs ∧ (bodyL rs).length = 3 * rs.length ∧ (58 : UInt8) ∉ bodyL rs
  | [], _ => ⟨rfl, rfl, by simp [bodyL]⟩
  | r :: rs, h => by
    obtain ⟨p, n, c, rfl, hp, hn, hs, e⟩ := rowL_three hst hti (h r List.mem_cons_self)
    obtain ⟨i1, i2, i3⟩ := rowsG_body hf hst hti rs fun r hr => h r (List.mem_cons_of_mem _ hr)
    rw [bodyL_cons, e]
    refine ⟨?_, ?_, fun hc => ?_⟩
    · show (f (UInt8.ofNat (48 + p)), mkS [c], f (UInt8.ofNat (48 + n))) :: rowsG f (bodyL rs) = _
      rw [hf.to p hp, hf.to n hn, i1]
    · rw [List.length_append, i2]
      simp only [List.length_cons, List.length_nil]
      omega
    · rcases List.mem_append.1 hc with hc | hc
      · simp only [List.mem_cons, List.not_mem_nil, or_false] at hc
        have d : ∀ m : Nat, m < 10 → (58 : UInt8) ≠ UInt8.ofNat (48 + m) := fun m hm e => by
          have := congrArg UInt8.toNat e
          rw [toNat_ofNat8 (by omega)] at this
          have h58 : (58 : UInt8).toNat = 58 := rfl
          omega
        rcases hc with hc | hc | hc
        · exact d p hp hc
        · subst hc
          rcases hs with h | h | h | h <;> cases h
        · exact d n hn hc
      · exact i3 hc
theorem body_rowsG {f : UInt8 → Int} (hf : DigF f) {st ti : Nat} (hst : st ≤ 4) (hti : ti ≤ 4) : ∀ (m : Nat) (l : List UInt8), l.length = 3 * m → (∀ r ∈ rowsG f l, RowOk st ti r) → bodyL (rowsG f l) = l
  | 0, l, h, _ => by
    have : l = [] := List.length_eq_zero_iff.1 h
    subst this
    rfl
  | m + 1, l, h, hr => by
    match l, h with
    | a :: b :: c :: l, h =>
      have ih := body_rowsG hf hst hti m l (by simp only [List.length_cons] at h; omega) fun r hr' => hr r (List.mem_cons_of_mem _ hr')
      obtain ⟨p, n, c', e1, hp, hn, hs, e⟩ := rowL_three hst hti (hr (f a, mkS [b], f c) List.mem_cons_self)
      simp only [Prod.mk.injEq] at e1
      obtain ⟨q1, q2, q3⟩ := e1
      have q4 : b = c' := by
        have := congrArg (fun s : ByteArray => s.data.toList) q2
        simpa [mkS_list] using this
      show bodyL ((f a, mkS [b], f c) :: rowsG f l) = _
      have ba := hf.back a (by omega) (by omega)
      have bc := hf.back c (by omega) (by omega)
      rw [q1, Int.toNat_natCast] at ba
      rw [q3, Int.toNat_natCast] at bc
      rw [bodyL_cons, ih, e, ← ba, ← bc, q4]
      rfl
def fI (c : UInt8) : Int := (c.toNat : Int) - 48
def fS (c : UInt8) : Int := if 48 ≤ c.toNat ∧ c.toNat ≤ 57 then (c.toNat : Int) - 48 else -1
theorem byte_back {c : UInt8} {v : Nat} (h : c.toNat = 48 + v) : c = UInt8.ofNat (48 + v) := by rw [← h]; exact (UInt8.ofNat_toNat).symm
theorem digI : DigF fI := ⟨fun n hn => by unfold fI; rw [toNat_ofNat8 (by omega)]; omega, fun c h1 h2 => byte_back (by unfold fI at *; omega)⟩
theorem digS : DigF fS := ⟨fun n hn => by unfold fS; rw [toNat_ofNat8 (by omega), if_pos (by omega)]; omega, fun c h1 h2 => by
  unfold fS at h1
  split at h1
  · rename_i h
    refine byte_back ?_
    unfold fS
    rw [if_pos h]
    omega
  · omega⟩
theorem textT_ok {a b : Nat} {rs : List Rw} (h : TabOk a b rs) : rs.length ≤ 16 ∧ (bodyL rs).length = 3 * rs.length ∧ (58 : UInt8) ∉ bodyL rs ∧ a < 10 ∧ b < 10 ∧ rowsG fI (bodyL rs) = rs ∧ rowsG fS (bodyL rs) = rs ∧ (textT a b rs).size ≤ 60 := by
  obtain ⟨hl, b1, b2, b3, b4, h16⟩ := len_nat h
  obtain ⟨i1, i2, i3⟩ := rowsG_body digI b2 b4 rs h.2.2.2
  obtain ⟨j1, _⟩ := rowsG_body digS b2 b4 rs h.2.2.2
  refine ⟨by omega, i2, i3, by omega, by omega, i1, j1, ?_⟩
  have z1 : (bs [47]).size = 1 := rfl
  have z2 : (bs [58]).size = 1 := rfl
  have z3 : (bodyB rs).size = 3 * rs.length := by rw [size_list, bodyB_list, i2]
  unfold textT
  rw [headT_eq]
  simp only [ByteArray.size_append]
  rw [one_decT (by omega), one_decT (by omega)]
  omega
theorem textT_inj {a b a' b' : Nat} {rs rs' : List Rw} (h : TabOk a b rs) (h' : TabOk a' b' rs') (e : textT a b rs = textT a' b' rs') : a = a' ∧ b = b' ∧ rs = rs' := by
  have e1 := congrArg (fun s : ByteArray => s.data.toList) e
  simp only [textT_list] at e1
  obtain ⟨e2, e3⟩ := first_one (headT_free a b) (headT_free a' b') e1
  have e4 := headT_split a b
  rw [ba_ext e2, headT_split] at e4
  simp only [List.cons.injEq, and_true] at e4
  have o := textT_ok h
  have o' := textT_ok h'
  have e5 := o.2.2.2.2.2.1
  rw [e3, o'.2.2.2.2.2.1] at e5
  exact ⟨(decS_inj e4.1).symm, (decS_inj e4.2).symm, e5.symm⟩
/-! ### Telling -/
theorem fitL {x y : ByteArray} (hx : x.size ≤ 100000) (hy : y.size ≤ 100000) : fitS x y = true := fitS_of (by omega)
section
variable {st ti : Nat} {rs : List Rw} (hT : TabOk st ti rs)
include hT
theorem rowB_ok {r : Rw} (h : r ∈ rs) : (rowB r).size = 3 ∧ (decS r.1.toNat).size = 1 ∧ r.2.1.size = 1 ∧ (decS r.2.2.toNat).size = 1 ∧ (0 ≤ r.1 ∧ r.1 < 10) ∧ (0 ≤ r.2.2 ∧ r.2.2 < 10) := by
  obtain ⟨hl, b1, b2, b3, b4, h16⟩ := len_nat hT
  obtain ⟨p, n, c, rfl, hp, hn, hs, e⟩ := rowL_three b2 b4 (hT.2.2.2 r h)
  refine ⟨by rw [size_list, rowB_list, e]; rfl, one_decT hp, rfl, one_decT hn, ⟨by show (0 : Int) ≤ (p : Int); omega, by show (p : Int) < 10; omega⟩, ⟨by show (0 : Int) ≤ (n : Int); omega, by show (n : Int) < 10; omega⟩⟩
theorem take_size (i : Nat) : (bodyB (rs.take i)).size ≤ 48 := by
  obtain ⟨hl, b1, b2, b3, b4, h16⟩ := len_nat hT
  have := (rowsG_body digI b2 b4 (rs.take i) fun r hr => hT.2.2.2 r (List.mem_of_mem_take hr)).2.1
  rw [size_list, bodyB_list, this, List.length_take]
  omega
theorem tell_s (pre : ByteArray) (hp : pre.size ≤ 100) : ∀ (m i : Nat), i + m = rs.length → Ev (fun k => spec_taText_l k (pre ++ bodyB (rs.take i), rs, (rs.length : Int), (i : Int))) (pre ++ bodyB rs)
  | 0, i, hm => Ev.step (fun k => spec_taText_l.eq k _ rs (rs.length : Int) i) (Ev.no (not_lt_nat (by omega)) (Ev.now' (by rw [List.take_of_length_le (by omega)])))
  | m + 1, i, hm => by
    obtain ⟨hl, b1, b2, b3, b4, h16⟩ := len_nat hT
    obtain ⟨x, hx⟩ := nat_list (l := rs) (i := i) (by omega)
    obtain ⟨z, z1, z2, z3, ⟨a1, a2⟩, ⟨a3, a4⟩⟩ := rowB_ok hT (List.mem_of_getElem? hx)
    have zt := take_size hT i
    have n1 := l1Num_dec x.1.toNat (by omega)
    have n2 := l1Num_dec x.2.2.toNat (by omega)
    rw [Int.toNat_of_nonneg a1] at n1
    rw [Int.toNat_of_nonneg a3] at n2
    refine Ev.step (fun k => spec_taText_l.eq k _ rs (rs.length : Int) i) (Ev.yes (lt_nat (by omega)) (Ev.yes (inB_nat (by omega)) ?_))
    rw [Int.toNat_natCast, getD_at hx]
    refine Ev.bind n1 (Ev.yes (fitL (by omega) (by omega)) (Ev.bind n2 (Ev.yes (fitL (by rw [ByteArray.size_append]; omega) (by omega)) (Ev.yes (fitL (by rw [ByteArray.size_append]; omega) (by simp only [ByteArray.size_append]; omega)) ?_))))
    have e : pre ++ bodyB (rs.take i) ++ (decS x.1.toNat ++ x.2.1 ++ decS x.2.2.toNat) = pre ++ bodyB (rs.take (i + 1)) := by
      rw [List.take_add_one, hx, Option.toList_some, bodyB_snoc, ByteArray.append_assoc]
      rfl
    rw [e, w64_succ (by omega)]
    exact tell_s pre hp m (i + 1) (by omega)
theorem tell_i (pre : ByteArray) (hp : pre.size ≤ 100) : ∀ (m i : Nat), i + m = rs.length → Ev (fun k => impl_TableText_l k (pre ++ bodyB (rs.take i), rs, (rs.length : Int), (i : Int))) (pre ++ bodyB rs)
  | 0, i, hm => Ev.step (fun k => impl_TableText_l.eq k _ rs (rs.length : Int) i) (Ev.no (not_lt_nat (by omega)) (Ev.now' (by rw [List.take_of_length_le (by omega)])))
  | m + 1, i, hm => by
    obtain ⟨hl, b1, b2, b3, b4, h16⟩ := len_nat hT
    obtain ⟨x, hx⟩ := nat_list (l := rs) (i := i) (by omega)
    obtain ⟨z, z1, z2, z3, ⟨a1, a2⟩, ⟨a3, a4⟩⟩ := rowB_ok hT (List.mem_of_getElem? hx)
    have zt := take_size hT i
    have t1 := listText_ev x.2.1 [x.1, x.2.2] (by simp) (by omega) (by intro n hn; simp at hn; omega)
    have e1 : joinB ([x.1, x.2.2].map fun n => decS n.toNat) x.2.1 = rowB x := by
      have := joinB_snoc [decS x.1.toNat] (decS x.2.2.toNat) x.2.1 (by simp)
      rw [joinB_one] at this
      exact this
    rw [e1] at t1
    refine Ev.step (fun k => impl_TableText_l.eq k _ rs (rs.length : Int) i) (Ev.yes (lt_nat (by omega)) (Ev.yes (inB_nat (by omega)) ?_))
    rw [Int.toNat_natCast, getD_at hx]
    refine Ev.bind t1 (Ev.yes (fitL (by rw [ByteArray.size_append]; omega) (by omega)) ?_)
    have e : pre ++ bodyB (rs.take i) ++ rowB x = pre ++ bodyB (rs.take (i + 1)) := by
      rw [List.take_add_one, hx, Option.toList_some, bodyB_snoc, ByteArray.append_assoc]
    rw [e, w64_succ (by omega)]
    exact tell_i pre hp m (i + 1) (by omega)
theorem pre_size : (headT st ti ++ bs [58]).size ≤ 100 ∧ (headT st ti).size ≤ 99 := by
  obtain ⟨hl, b1, b2, b3, b4, h16⟩ := len_nat hT
  have z1 : (bs [47]).size = 1 := rfl
  have z2 : (bs [58]).size = 1 := rfl
  rw [headT_eq]
  simp only [ByteArray.size_append]
  rw [one_decT (by omega), one_decT (by omega)]
  omega
theorem text_s : Ev (fun k => spec_taText k ((st : Int), (ti : Int), rs)) (textT st ti rs) := by
  obtain ⟨hl, b1, b2, b3, b4, h16⟩ := len_nat hT
  have e := tell_s hT (headT st ti ++ bs [58]) (pre_size hT).1 rs.length 0 (by omega)
  have e0 : headT st ti ++ bs [58] ++ bodyB (rs.take 0) = headT st ti ++ bs [58] := ba_ext (by rw [append_list _ (bodyB _)]; exact List.append_nil _)
  rw [e0] at e
  have z1 : (bs [47]).size = 1 := rfl
  have z2 : (bs [58]).size = 1 := rfl
  have za := one_decT (n := st) (by omega)
  have zb := one_decT (n := ti) (by omega)
  refine Ev.step (fun k => spec_taText.eq k st ti rs) (Ev.bind (l1Num_dec st (by omega)) (Ev.yes (fitL (by omega) (by omega)) (Ev.bind (l1Num_dec ti (by omega)) (Ev.yes (fitL (by rw [ByteArray.size_append]; omega) (by omega)) (Ev.yes (fitL (by simp only [ByteArray.size_append]; omega) (by omega)) ?_)))))
  rw [headT_eq] at e
  exact Ev.bind e (Ev.now' (by unfold textT; rw [headT_eq]))
theorem text_i : Ev (fun k => impl_TableText k ((st : Int), (ti : Int), rs)) (textT st ti rs, true) := by
  obtain ⟨hl, b1, b2, b3, b4, h16⟩ := len_nat hT
  have e := tell_i hT (headT st ti ++ bs [58]) (pre_size hT).1 rs.length 0 (by omega)
  have e0 : headT st ti ++ bs [58] ++ bodyB (rs.take 0) = headT st ti ++ bs [58] := ba_ext (by rw [append_list _ (bodyB _)]; exact List.append_nil _)
  rw [e0] at e
  have t1 := listText_ev (bs [47]) [(st : Int), (ti : Int)] (by simp) (by decide) (by intro n hn; simp at hn; omega)
  have t1 : Ev (fun k => impl_listText k (bs [47], [(st : Int), (ti : Int)])) (headT st ti) := t1
  have ph := (pre_size hT).2
  have z2 : (bs [58]).size = 1 := rfl
  exact Ev.step (fun k => impl_TableText.eq k st ti rs) (Ev.bind ((isTable_ev st ti rs (by omega)).isT hT) (Ev.no rfl (Ev.bind t1 (Ev.yes (fitL (by omega) (by omega)) (Ev.bind e (Ev.now _))))))
end
def AnsT (s : ByteArray) (r : TaT × Bool) : Prop := (∃ (a b : Nat) (rs : List Rw), TabOk a b rs ∧ s = textT a b rs ∧ r = (((a : Int), (b : Int), rs), true)) ∨ ((∀ (a b : Nat) (rs : List Rw), TabOk a b rs → s ≠ textT a b rs) ∧ r = (zeroTa, false))
theorem AnsT.one {s : ByteArray} {r r' : TaT × Bool} (h : AnsT s r) (h' : AnsT s r') : r = r' := by
  rcases h with ⟨a, b, rs, h, rfl, rfl⟩ | ⟨h, rfl⟩
  · rcases h' with ⟨a', b', rs', h', e, rfl⟩ | ⟨h', rfl⟩
    · obtain ⟨rfl, rfl, rfl⟩ := textT_inj h h' e
      rfl
    · exact absurd rfl (h' a b rs h)
  · rcases h' with ⟨a', b', rs', h', e, rfl⟩ | ⟨h', rfl⟩
    · exact absurd e (h a' b' rs' h')
    · rfl
theorem mod3 (n : Nat) : ((((n : Nat) : Int).tmod 3) != 0) = false ↔ n % 3 = 0 := by
  rw [bne_eq_false_iff_eq, Int.tmod_eq_emod_of_nonneg (by omega)]
  omega
theorem loop_i (x r : ByteArray) (a b : Int) (hr : r.size ≤ 1048576) : ∀ (m k : Nat) (rows : List Rw), k + 3 * m = r.size → rows.length ≤ k → Ev (fun q => impl_ParseTable_l q (zeroTa, r, (a, b, rows), (k : Int))) (zeroTa, (a, b, rows ++ rowsG fI (r.data.toList.drop k)))
  | 0, k, rows, hm, hl => Ev.step (fun q => impl_ParseTable_l.eq q 0 0 [] r a b rows k) (Ev.no (not_lt_nat (by omega)) (Ev.now' (by rw [List.drop_of_length_le (by rw [← size_list]; omega)]; show _ = (_, _, _, rows ++ []); rw [List.append_nil])))
  | m + 1, k, rows, hm, hl => by
    have hz := size_list r
    have g : ∀ i, i < r.size → ∃ c, r.data.toList[i]? = some c := fun i hi => byte_at hi
    obtain ⟨c0, h0⟩ := g k (by omega)
    obtain ⟨c1, h1⟩ := g (k + 1) (by omega)
    obtain ⟨c2, h2⟩ := g (k + 2) (by omega)
    have w1 : w64 ((k : Int) + 1) = ((k + 1 : Nat) : Int) := w64_succ (by omega)
    have w2 : w64 ((k : Int) + 2) = ((k + 2 : Nat) : Int) := by rw [w64_of (by omega) (by omega)]; omega
    have w3 : w64 ((k : Int) + 3) = ((k + 3 : Nat) : Int) := by rw [w64_of (by omega) (by omega)]; omega
    have hx : r.extract (k + 1) (k + 2) = mkS [c1] := cut_one h1
    have hd : r.data.toList.drop k = c0 :: c1 :: c2 :: r.data.toList.drop (k + 3) := by
      rw [List.drop_eq_getElem_cons (by omega), List.drop_eq_getElem_cons (i := k + 1) (by omega), List.drop_eq_getElem_cons (i := k + 2) (by omega)]
      have e0 := (List.getElem?_eq_some_iff.1 h0).2
      have e1 := (List.getElem?_eq_some_iff.1 h1).2
      have e2 := (List.getElem?_eq_some_iff.1 h2).2
      rw [e0, e1, e2]
    have ih := loop_i x r a b hr m (k + 3) (rows ++ [(fI c0, mkS [c1], fI c2)]) (by omega) (by rw [List.length_append]; simp only [List.length_cons, List.length_nil]; omega)
    refine Ev.step (fun q => impl_ParseTable_l.eq q 0 0 [] r a b rows k) (Ev.yes (lt_nat (by omega)) (Ev.yes (inB_nat (by omega)) (Ev.yes ?_ (Ev.yes ?_ (Ev.yes (fits_of (by omega)) ?_)))))
    · rw [w1, w2, le_two (by omega) (by omega), le_two (by omega) (by omega)]; rfl
    · rw [w2]; exact inB_nat (by omega)
    · rw [w1, w2, w3]
      simp only [Int.toNat_natCast, bt_at h0, bt_at h2, hx, num_of]
      rw [hd]
      have e : rows ++ [(fI c0, mkS [c1], fI c2)] ++ rowsG fI (r.data.toList.drop (k + 3)) = rows ++ rowsG fI (c0 :: c1 :: c2 :: r.data.toList.drop (k + 3)) := by
        rw [List.append_assoc]
        rfl
      rw [← e]
      exact ih
theorem impl_ev (s : ByteArray) (hs : s.size ≤ 1048576) : ∃ r, Ev (fun k => impl_ParseTable k s) r ∧ AnsT s r := by
  have go : ∀ (x r : ByteArray), x.size ≤ 1048576 → r.size ≤ 1048576 → Ev (fun k => strings_Cut k (s, bs [58])) (x, r, true) → ∃ v, Ev (fun k => impl_ParseTable k s) v ∧
      ((∃ (a b : Nat) (rs : List Rw), splitS 47 x = [decS a, decS b] ∧ TabOk a b rs ∧ bodyL rs = r.data.toList ∧ v = (((a : Int), (b : Int), rs), true)) ∨ ((∀ (a b : Nat) (rs : List Rw), x = headT a b → TabOk a b rs → bodyL rs ≠ r.data.toList) ∧ v = (zeroTa, false))) := fun x r hx hr hc => by
    rcases numbers_ev x 47 2 4 hx (by omega) (by omega) with ⟨l, g1, g2⟩ | ⟨g1, g2⟩
    · obtain ⟨a, b, rfl⟩ := two g1.1
      by_cases h3 : r.size % 3 = 0
      · have hL := loop_i x r a b hr (r.size / 3) 0 [] (by omega) (Nat.le_refl _)
        have hL : Ev (fun q => impl_ParseTable_l q (zeroTa, r, ((a : Int), (b : Int), []), 0)) (zeroTa, ((a : Int), (b : Int), rowsG fI r.data.toList)) := hL
        have hlen : ∀ (m : Nat) (l : List UInt8), l.length ≤ m → (rowsG fI l).length ≤ l.length := by
          intro m
          induction m with
          | zero => intro l hl; have : l = [] := List.length_eq_zero_iff.1 (by omega); subst this; exact Nat.le_refl _
          | succ m ih =>
            intro l hl
            match l with
            | [] => exact Nat.le_refl _
            | [_] => exact Nat.zero_le _
            | [_, _] => exact Nat.zero_le _
            | p :: q :: t :: l =>
              have := ih l (by simp only [List.length_cons] at hl; omega)
              show (rowsG fI l).length + 1 ≤ _
              simp only [List.length_cons]
              omega
        have hz := size_list r
        have W := isTable_ev (a : Int) (b : Int) (rowsG fI r.data.toList) (by have := hlen _ r.data.toList (Nat.le_refl _); omega)
        by_cases H : TabOk (a : Int) (b : Int) (rowsG fI r.data.toList)
        · obtain ⟨hl, b1, b2, b3, b4, h16⟩ := len_nat H
          exact ⟨_, Ev.step (fun k => impl_ParseTable.eq k s) (Ev.bind hc (Ev.bind g2 (Ev.no rfl (Ev.no rfl (Ev.no ((mod3 _).2 h3) (Ev.yes rfl (Ev.yes rfl (Ev.bind hL (Ev.bind (W.isT H) (Ev.no rfl (Ev.now _)))))))))))
            , .inl ⟨a, b, _, g1.2.2, H, body_rowsG digI b2 b4 (r.size / 3) _ (by omega) H.2.2.2, rfl⟩⟩
        · refine ⟨(zeroTa, false), Ev.step (fun k => impl_ParseTable.eq k s) (Ev.bind hc (Ev.bind g2 (Ev.no rfl (Ev.no rfl (Ev.no ((mod3 _).2 h3) (Ev.yes rfl (Ev.yes rfl (Ev.bind hL (Ev.bind (W.isF H) (Ev.yes rfl (Ev.now _))))))))))) , .inr ⟨fun a' b' rs h hT hb => ?_, rfl⟩⟩
          have e := g1.2.2.symm.trans (h ▸ headT_split a' b')
          simp only [List.map_cons, List.map_nil, List.cons.injEq, and_true] at e
          rw [decS_inj e.1, decS_inj e.2, ← hb, (textT_ok hT).2.2.2.2.2.1] at H
          exact H hT
      · refine ⟨(zeroTa, false), Ev.step (fun k => impl_ParseTable.eq k s) (Ev.bind hc (Ev.bind g2 (Ev.no rfl (Ev.no rfl (Ev.yes ?_ (Ev.now _)))))), .inr ⟨fun a' b' rs _ hT hb => h3 ?_, rfl⟩⟩
        · cases hq : (((((r.size : Nat) : Int)).tmod 3) != 0) with
          | true => rfl
          | false => exact absurd ((mod3 _).1 hq) h3
        · have := (textT_ok hT).2.1
          rw [size_list, ← hb, this]
          omega
    · refine ⟨(zeroTa, false), Ev.step (fun k => impl_ParseTable.eq k s) (Ev.bind hc (Ev.bind g2 (Ev.yes rfl (Ev.now _)))), .inr ⟨fun a b rs h hT _ => ?_, rfl⟩⟩
      obtain ⟨hl, b1, b2, b3, b4, h16⟩ := len_nat hT
      refine g1 [a, b] ⟨rfl, fun n hn => ?_, by rw [h]; exact headT_split a b⟩
      simp only [List.mem_cons, List.not_mem_nil, or_false] at hn
      omega
  rcases cut_ev s hs with ⟨hm, hc⟩ | ⟨x, r, e1, e2, hc⟩
  · have no : ∀ (a b : Nat) (rs : List Rw), TabOk a b rs → s ≠ textT a b rs := fun a b rs h e => hm (by rw [e, textT_list]; simp)
    rcases numbers_ev s 47 2 4 hs (by omega) (by omega) with ⟨l, g1, g2⟩ | ⟨g1, g2⟩
    · exact ⟨(zeroTa, false), Ev.step (fun k => impl_ParseTable.eq k s) (Ev.bind hc (Ev.bind g2 (Ev.no rfl (Ev.yes rfl (Ev.now _))))), .inr ⟨no, rfl⟩⟩
    · exact ⟨(zeroTa, false), Ev.step (fun k => impl_ParseTable.eq k s) (Ev.bind hc (Ev.bind g2 (Ev.yes rfl (Ev.now _)))), .inr ⟨no, rfl⟩⟩
  · have hsz : s.size = x.size + 1 + r.size := by
      have := congrArg List.length e1
      rw [List.length_append, List.length_cons, ← size_list, ← size_list, ← size_list] at this
      omega
    obtain ⟨v, v1, v2⟩ := go x r (by omega) (by omega) hc
    refine ⟨v, v1, ?_⟩
    rcases v2 with ⟨a, b, rs, g1, g2, g3, rfl⟩ | ⟨g1, rfl⟩
    · refine .inl ⟨a, b, rs, g2, ?_, rfl⟩
      have hx : x = headT a b := by
        have := splitS_join 47 x
        rw [g1] at this
        exact this.symm
      apply ba_ext
      rw [textT_list, e1, hx, g3]
    · refine .inr ⟨fun a b rs h e => ?_, rfl⟩
      have e3 := congrArg (fun s : ByteArray => s.data.toList) e
      simp only [textT_list, e1] at e3
      obtain ⟨e4, e5⟩ := first_one e2 (headT_free a b) e3
      exact g1 a b rs (ba_ext e4) h e5.symm
theorem read_one (c : UInt8) : Ev (fun k => spec_l1Read k (mkS [c])) (fS c) := by
  obtain ⟨v, e, h⟩ := l1Read_ev (mkS [c]) (by show 1 ≤ _; omega)
  have hv : v = fS c := by
    unfold fS
    by_cases hc : 48 ≤ c.toNat ∧ c.toNat ≤ 57
    · have hd : mkS [c] = decS (c.toNat - 48) := by
        apply ba_ext
        rw [mkS_list, decS_list, dec_small (by omega)]
        congr 1
        exact byte_back (by omega)
      rw [if_pos hc]
      rw [hd] at h
      rw [isNumZ_dec (by omega) h]
      omega
    · rw [if_neg hc]
      rcases h with ⟨n, _, hn, _⟩ | ⟨_, h⟩
      · refine absurd ((dec_canon n).1 c ?_) hc
        rw [← decS_list, ← hn, mkS_list]
        simp
      · exact h
  rw [← hv]
  exact e
theorem loop_s (s : ByteArray) (a b : Int) : ∀ (m : Nat) (r : ByteArray) (rows : List Rw), r.size = 3 * m → rows.length + m ≤ 1048576 → Ev (fun q => spec_taParse_l q (s, zeroTa, (a, b, rows), r)) (s, zeroTa, (a, b, rows ++ rowsG fS r.data.toList))
  | 0, r, rows, hm, hl => Ev.step (fun q => spec_taParse_l.eq q s 0 0 [] a b rows r) (Ev.no (decide_eq_false (by omega)) (Ev.now' (by
      have : r.data.toList = [] := List.length_eq_zero_iff.1 (by rw [← size_list]; omega)
      rw [this]
      show _ = (_, _, _, _, rows ++ [])
      rw [List.append_nil])))
  | m + 1, r, rows, hm, hl => by
    have hz := size_list r
    obtain ⟨c0, h0⟩ := byte_at (cs := r) (i := 0) (by omega)
    obtain ⟨c1, h1⟩ := byte_at (cs := r) (i := 1) (by omega)
    obtain ⟨c2, h2⟩ := byte_at (cs := r) (i := 2) (by omega)
    have x0 : r.extract 0 1 = mkS [c0] := cut_one h0
    have x1 : r.extract 1 2 = mkS [c1] := cut_one h1
    have x2 : r.extract 2 3 = mkS [c2] := cut_one h2
    have hd : r.data.toList = c0 :: c1 :: c2 :: r.data.toList.drop 3 := by
      have e0 := (List.getElem?_eq_some_iff.1 h0).2
      have e1 := (List.getElem?_eq_some_iff.1 h1).2
      have e2 := (List.getElem?_eq_some_iff.1 h2).2
      have d : r.data.toList.drop 0 = c0 :: c1 :: c2 :: r.data.toList.drop 3 := by
        rw [List.drop_eq_getElem_cons (by omega), List.drop_eq_getElem_cons (i := 0 + 1) (by omega), List.drop_eq_getElem_cons (i := 0 + 1 + 1) (by omega)]
        rw [e0, e1, e2]
      exact d
    have hx : (r.extract 3 r.size).data.toList = r.data.toList.drop 3 := by
      rw [extract_list, List.take_of_length_le (by omega)]
    have hxs : (r.extract 3 r.size).size = 3 * m := by rw [size_list, hx, List.length_drop]; omega
    have ih := loop_s s a b m (r.extract 3 r.size) (rows ++ [(fS c0, mkS [c1], fS c2)]) hxs (by rw [List.length_append]; simp only [List.length_cons, List.length_nil]; omega)
    refine Ev.step (fun q => spec_taParse_l.eq q s 0 0 [] a b rows r) (Ev.yes (decide_eq_true (by omega)) (Ev.yes (decide_eq_true (by omega)) ?_))
    rw [x0, x1, x2]
    refine Ev.bind (read_one c0) (Ev.yes (by rw [decide_eq_true (by omega)]; rfl) (Ev.yes (by rw [decide_eq_true (by omega)]; rfl) (Ev.bind (read_one c2) (Ev.yes (fits_of (by omega)) (Ev.yes (decide_eq_true (by omega)) ?_)))))
    rw [hx] at ih
    have e : rows ++ [(fS c0, mkS [c1], fS c2)] ++ rowsG fS (r.data.toList.drop 3) = rows ++ rowsG fS r.data.toList := by
      rw [List.append_assoc]
      conv => rhs; rw [hd]
      rfl
    rw [← e]
    exact ih
theorem spec_ev (s : ByteArray) (hs : s.size ≤ 1048576) : ∃ r, Ev (fun k => spec_ParseTable k s) r ∧ AnsT s r := by
  have out : ∀ (w : TaT) (b : Bool), Ev (fun k => spec_taParse k s) (w, b) → Ev (fun k => spec_ParseTable k s) (cond b (w, true) (zeroTa, false)) := fun w b h => by
    refine Ev.step (fun k => spec_ParseTable.eq k s) (Ev.bind h ?_)
    cases b
    · exact Ev.yes rfl (Ev.now _)
    · exact Ev.no rfl (Ev.now _)
  have bad : ∀ w : TaT, (∀ (a b : Nat) (rs : List Rw), TabOk a b rs → s ≠ textT a b rs) → Ev (fun k => spec_taParse k s) (w, false) → ∃ r, Ev (fun k => spec_ParseTable k s) r ∧ AnsT s r := fun w h1 h2 => ⟨_, out w false h2, .inr ⟨h1, rfl⟩⟩
  have hsp := l1Split_ev s 58 hs
  by_cases hbig : (s.size : Int) > 60
  · refine bad zeroTa (fun a b rs h e => ?_) (Ev.step (fun k => spec_taParse.eq k s) (Ev.bind hsp (Ev.yes (decide_eq_true hbig) (Ev.now _))))
    have := (textT_ok h).2.2.2.2.2.2.2
    rw [← e] at this
    omega
  have cut58 : ∀ (a b : Nat) (rs : List Rw), TabOk a b rs → s = textT a b rs → splitS 58 s = [headT a b, bodyB rs] := fun a b rs h e => by
    unfold splitS
    rw [e, textT_list, splitL_cut 58 _ _ (headT_free a b), splitL_free 58 _ (textT_ok h).2.2.1]
    rfl
  have st0 : ∀ r, Ev (fun k => cond (((splitS 58 s).length : Int) != 2) (some (zeroTa, false)) _) r → Ev (fun k => spec_taParse k s) r := fun r h => Ev.step (fun k => spec_taParse.eq k s) (Ev.bind hsp (Ev.no (decide_eq_false hbig) h))
  by_cases h4 : (splitS 58 s).length = 2
  rotate_left
  · refine bad zeroTa (fun a b rs h e => h4 ?_) (st0 _ (Ev.yes (lenZ_ne h4) (Ev.now _)))
    rw [cut58 a b rs h e]
    rfl
  have hpc := splitS_piece 58 s
  obtain ⟨p, r, e⟩ := two h4
  rw [e] at st0 hpc
  have hp := hpc p (by simp)
  have hr := hpc r (by simp)
  have fall : ∀ (a b : Nat) (rs : List Rw), TabOk a b rs → s = textT a b rs → p = headT a b ∧ r = bodyB rs := fun a b rs h e2 => by
    have e3 := cut58 a b rs h e2
    rw [e] at e3
    simp only [List.cons.injEq, and_true] at e3
    exact e3
  have g1 : ([p, r] : List ByteArray).getD 1 default = r := rfl
  have g0 : ([p, r] : List ByteArray).getD 0 default = p := rfl
  by_cases h3 : r.size % 3 = 0
  rotate_left
  · refine bad zeroTa (fun a b rs h e => h3 ?_) (st0 _ (Ev.no rfl (Ev.yes rfl (Ev.yes ?_ (Ev.now _)))))
    · rw [(fall a b rs h e).2, size_list, bodyB_list, (textT_ok h).2.1]
      omega
    · rw [g1]
      cases hq : (((((r.size : Nat) : Int)).tmod 3) != 0) with
      | true => rfl
      | false => exact absurd ((mod3 _).1 hq) h3
  have s1 := l1Split_ev p 47 (by omega)
  have c1 := splitS_piece 47 p
  have st1 : ∀ v, Ev (fun k => cond (((splitS 47 p).length : Int) != 2) (some (zeroTa, false)) _) v → Ev (fun k => spec_taParse k s) v := fun v h => st0 v (Ev.no rfl (Ev.yes rfl (Ev.no ((mod3 _).2 h3) (Ev.yes rfl (Ev.bind s1 h)))))
  by_cases h2 : (splitS 47 p).length = 2
  rotate_left
  · refine bad zeroTa (fun a b rs h e2 => h2 ?_) (st1 _ (Ev.yes (lenZ_ne h2) (Ev.now _)))
    rw [(fall a b rs h e2).1, headT_split]
    rfl
  obtain ⟨u1, u2, e2⟩ := two h2
  rw [e2] at st1 c1
  obtain ⟨v1, r1, i1⟩ := l1Read_ev u1 (by have := c1 u1 (by simp); omega)
  obtain ⟨v2, r2, i2⟩ := l1Read_ev u2 (by have := c1 u2 (by simp); omega)
  have hL := loop_s s v1 v2 (r.size / 3) r [] (by omega) (by simp only [List.length_nil]; omega)
  have hL : Ev (fun q => spec_taParse_l q (s, zeroTa, (v1, v2, []), r)) (s, zeroTa, (v1, v2, rowsG fS r.data.toList)) := hL
  have st2 : ∀ v, Ev (fun k => (spec_taGood k (v1, v2, rowsG fS r.data.toList)).bind fun r5 => cond r5 ((spec_taText k (v1, v2, rowsG fS r.data.toList)).bind fun r6 => some ((v1, v2, rowsG fS r.data.toList), strEq r6 s)) (some ((v1, v2, rowsG fS r.data.toList), false))) v → Ev (fun k => spec_taParse k s) v := fun v h =>
    st1 v (Ev.no rfl (Ev.yes rfl (Ev.bind r1 (Ev.yes rfl (Ev.bind r2 (Ev.yes rfl (Ev.bind hL h)))))))
  have hlen : ∀ (m : Nat) (l : List UInt8), l.length ≤ m → (rowsG fS l).length ≤ l.length := by
    intro m
    induction m with
    | zero => intro l hl; have : l = [] := List.length_eq_zero_iff.1 (by omega); subst this; exact Nat.le_refl _
    | succ m ih =>
      intro l hl
      match l with
      | [] => exact Nat.le_refl _
      | [_] => exact Nat.zero_le _
      | [_, _] => exact Nat.zero_le _
      | p :: q :: t :: l =>
        have := ih l (by simp only [List.length_cons] at hl; omega)
        show (rowsG fS l).length + 1 ≤ _
        simp only [List.length_cons]
        omega
  have hzr := size_list r
  have G := taGood_ev v1 v2 (rowsG fS r.data.toList) (by have := hlen _ r.data.toList (Nat.le_refl _); omega)
  by_cases H : TabOk v1 v2 (rowsG fS r.data.toList)
  · have hw := H.1
    have hh := H.2.1
    obtain ⟨a, rfl, ja⟩ := isNumZ_of i1 (by omega)
    obtain ⟨b, rfl, jb⟩ := isNumZ_of i2 (by omega)
    have hp2 : p = headT a b := by
      have := splitS_join 47 p
      rw [e2, ja, jb] at this
      exact this.symm
    obtain ⟨hl, b1, b2, b3, b4, h16⟩ := len_nat H
    have hbody := body_rowsG digS b2 b4 (r.size / 3) _ (by omega) H.2.2.2
    have hst : s = textT a b (rowsG fS r.data.toList) := by
      have j := splitS_join 58 s
      rw [e] at j
      rw [← j]
      apply ba_ext
      rw [textT_list, hbody, hp2]
      simp only [joinB, mkS_list, List.map_cons, List.map_nil, Lib.join_cons, Lib.joinTail]
      simp
    have T := text_s H
    rw [← hst] at T
    exact ⟨_, out _ true (st2 _ (Ev.bind (G.isT H) (Ev.yes rfl (Ev.bind T (Ev.now' (by rw [strEq_self])))))), .inl ⟨a, b, _, H, hst, rfl⟩⟩
  · refine bad _ (fun a b rs h e3 => H ?_) (st2 _ (Ev.bind (G.isF H) (Ev.no rfl (Ev.now _))))
    obtain ⟨k1, k2⟩ := fall a b rs h e3
    rw [k1, headT_split] at e2
    simp only [List.cons.injEq, and_true] at e2
    obtain ⟨rfl, rfl⟩ := e2
    have o := textT_ok h
    rw [isNumZ_dec (by omega) i1, isNumZ_dec (by omega) i2, k2, bodyB_list, o.2.2.2.2.2.2.1]
    exact h
/-! ### Both -/
theorem text_both (t : TaT) (ht : t.2.2.length ≤ 1048576) : ∃ r : ByteArray × Bool, Ev (fun k => impl_TableText k t) r ∧ Ev (fun k => spec_TableText k t) r ∧ ((TabOk t.1 t.2.1 t.2.2 ∧ r.2 = true ∧ Ev (fun k => impl_ParseTable k r.1) (t, true)) ∨ (¬ TabOk t.1 t.2.1 t.2.2 ∧ r.2 = false)) := by
  obtain ⟨st, ti, rs⟩ := t
  have ht : rs.length ≤ 1048576 := ht
  have A := isTable_ev st ti rs ht
  have B := taGood_ev st ti rs ht
  by_cases hT : TabOk st ti rs
  · have hst := hT.1
    have hti := hT.2.1
    obtain ⟨st, rfl⟩ := Int.eq_ofNat_of_zero_le (show 0 ≤ st by omega)
    obtain ⟨ti, rfl⟩ := Int.eq_ofNat_of_zero_le (show 0 ≤ ti by omega)
    have o := textT_ok hT
    obtain ⟨r, e, A'⟩ := impl_ev (textT st ti rs) (by omega)
    have er : r = (((st : Int), (ti : Int), rs), true) := A'.one (.inl ⟨st, ti, rs, hT, rfl, rfl⟩)
    exact ⟨_, text_i hT, Ev.step (fun k => spec_TableText.eq k st ti rs) (Ev.bind (B.isT hT) (Ev.no rfl (Ev.bind (text_s hT) (Ev.now _)))), .inl ⟨hT, rfl, er ▸ e⟩⟩
  · exact ⟨(ByteArray.empty, false), Ev.step (fun k => impl_TableText.eq k st ti rs) (Ev.bind (A.isF hT) (Ev.yes rfl (Ev.now _))), Ev.step (fun k => spec_TableText.eq k st ti rs) (Ev.bind (B.isF hT) (Ev.yes rfl (Ev.now _))), .inr ⟨hT, rfl⟩⟩
theorem parse_both (s : ByteArray) (hs : s.size ≤ 1048576) : ∃ r : TaT × Bool, Ev (fun k => impl_ParseTable k s) r ∧ Ev (fun k => spec_ParseTable k s) r ∧ r.1.2.2.length ≤ 1048576 ∧ (r.2 = true → Ev (fun k => impl_TableText k r.1) (s, true)) := by
  obtain ⟨r, e, A⟩ := impl_ev s hs
  obtain ⟨r', e', A'⟩ := spec_ev s hs
  obtain rfl := A.one A'
  refine ⟨r, e, e', ?_, fun hr => ?_⟩
  · rcases A with ⟨a, b, rs, h, rfl, rfl⟩ | ⟨_, rfl⟩
    · have := (textT_ok h).1
      show rs.length ≤ _
      omega
    · exact Nat.zero_le _
  · rcases A with ⟨a, b, rs, h, rfl, rfl⟩ | ⟨_, rfl⟩
    · exact text_i h
    · exact Bool.noConfusion hr
theorem drawParse_ev (code : List Int) (hc : ∀ x ∈ code, 0 ≤ x ∧ x ≤ 255) : ∃ s, Ev (fun k => spec_DrawParseTable k code) s ∧ s.size ≤ 2000 := by
  obtain ⟨⟨st, ti, rs⟩, c1, e1, hT, H1⟩ := sureTable_ev 0 (code, 0, 0) (CurOk.start hc) (by omega)
  have hT : TabOk st ti rs := hT
  have hst := hT.1
  have hti := hT.2.1
  obtain ⟨st, rfl⟩ := Int.eq_ofNat_of_zero_le (show 0 ≤ st by omega)
  obtain ⟨ti, rfl⟩ := Int.eq_ofNat_of_zero_le (show 0 ≤ ti by omega)
  have et := text_s hT
  have zt := (textT_ok hT).2.2.2.2.2.2.2
  obtain ⟨o, c2, e2, H2⟩ := one_ev _ c1 H1 (by omega) 3
  have h9 : (bs [48, 49, 50, 51, 76, 82, 78, 85, 47, 58]).size = 10 := rfl
  obtain ⟨u, c3, e3, zu, _⟩ := spoilt_ev _ c2 (textT st ti rs) (bs [48, 49, 50, 51, 76, 82, 78, 85, 47, 58]) H2 (by omega) (by omega) (by rw [h9]; omega)
  cases o with
  | true => exact ⟨u, Ev.step (fun k => spec_DrawParseTable.eq k code) (Ev.bind e1 (Ev.bind et (Ev.bind e2 (Ev.yes rfl (Ev.bind e3 (Ev.now _)))))), by omega⟩
  | false => exact ⟨textT st ti rs, Ev.step (fun k => spec_DrawParseTable.eq k code) (Ev.bind e1 (Ev.bind et (Ev.bind e2 (Ev.no rfl (Ev.now _))))), by omega⟩
end Go.Proofs.YtcmebphcoamohaaGreatDoorS
