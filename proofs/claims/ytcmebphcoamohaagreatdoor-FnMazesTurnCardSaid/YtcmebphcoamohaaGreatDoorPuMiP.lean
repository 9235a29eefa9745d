/- Mirrors: texts of mazes, told and read. -/
import Derived.Test.YtcmebphcoamohaaGreatDoorMgMa
import Derived.Test.YtcmebphcoamohaaGreatDoorMgTx
namespace Go.Proofs.YtcmebphcoamohaaGreatDoorS.MzP
open Go Go.Proofs Go.Proofs.YtcmebphcoamohaaGreatDoorS
set_option linter.unusedVariables false
set_option linter.unusedSimpArgs false
def mark (t : Bool) : ByteArray := if t then bs [33] else ByteArray.empty
def textZ (a b : Nat) (cs : ByteArray) (t : Bool) : ByteArray := decS a ++ bs [120] ++ decS b ++ bs [58] ++ cs ++ mark t
def headZ (a b : Nat) : ByteArray := joinB [decS a, decS b] (bs [120])
theorem headZ_eq (a b : Nat) : headZ a b = decS a ++ bs [120] ++ decS b := by
  apply ba_ext
  unfold headZ
  simp only [joinB, mkS_list, append_list, List.map_cons, List.map_nil, Lib.join_cons, Lib.joinTail, decS_list]
  simp [bs]
theorem headZ_split (a b : Nat) : splitS 120 (headZ a b) = [decS a, decS b] := splitS_joined 120 _ (by simp) fun z hz hc => by
  have f120 : ∀ n : Nat, (120 : UInt8) ∉ (decS n).data.toList := fun n => dec_free n 120 (by decide)
  simp only [List.mem_cons, List.not_mem_nil, or_false] at hz
  rcases hz with rfl | rfl <;> exact f120 _ hc
theorem headZ_free (a b : Nat) : (58 : UInt8) ∉ (headZ a b).data.toList := fun hc => by
  have f58 : ∀ n : Nat, (58 : UInt8) ∉ (decS n).data.toList := fun n => dec_free n 58 (by decide)
  rw [headZ_eq, append_list, append_list] at hc
  rcases List.mem_append.1 hc with hc | hc
  · rcases List.mem_append.1 hc with hc | hc
    · exact f58 _ hc
    · simp [bs] at hc
  · exact f58 _ hc
theorem textZ_list (a b : Nat) (cs : ByteArray) (t : Bool) : (textZ a b cs t).data.toList = (headZ a b).data.toList ++ 58 :: (cs ++ mark t).data.toList := by
  unfold textZ
  rw [headZ_eq]
  simp only [append_list]
  simp [bs]
theorem one_decZ {n : Nat} (h : n < 10) : (decS n).size = 1 := by
  rw [size_list, decS_list, dec_small h]
  rfl
theorem free_cells {w h : Int} {cs : ByteArray} (hM : MazeOk w h cs) (t : Bool) : (58 : UInt8) ∉ (cs ++ mark t).data.toList := fun hc => by
  rw [append_list] at hc
  rcases List.mem_append.1 hc with hc | hc
  · rcases hM.2.2.2 58 hc with h | h | h <;> exact absurd h (by decide)
  · cases t
    · cases hc
    · simp [mark, bs] at hc
/-! ### The sign at the end -/
def endCut (r : ByteArray) : ByteArray × Bool := if r.data.toList.getLast? = some 33 then (r.extract 0 (r.size - 1), true) else (r, false)
theorem endCut_mark {w h : Int} {cs : ByteArray} (hM : MazeOk w h cs) (t : Bool) : endCut (cs ++ mark t) = (cs, t) := by
  cases t with
  | false =>
    have e : cs ++ mark false = cs := ba_ext (by rw [append_list]; exact List.append_nil _)
    rw [e]
    unfold endCut
    rw [if_neg]
    intro hl
    have := List.mem_of_getLast? hl
    rcases hM.2.2.2 33 this with h | h | h <;> exact absurd h (by decide)
  | true =>
    have e : (cs ++ mark true).data.toList = cs.data.toList ++ [33] := by rw [append_list]; rfl
    unfold endCut
    rw [e, List.getLast?_concat, if_pos rfl]
    refine Prod.ext (ba_ext ?_) rfl
    have hz : (cs ++ mark true).size = cs.size + 1 := by rw [ByteArray.size_append]; rfl
    show ((cs ++ mark true).extract 0 ((cs ++ mark true).size - 1)).data.toList = _
    rw [extract_list, e, hz, Nat.add_sub_cancel, List.drop_zero, size_list, List.take_left]
theorem endCut_back (r : ByteArray) : (endCut r).1 ++ mark (endCut r).2 = r := by
  unfold endCut
  split
  · rename_i hl
    apply ba_ext
    rw [append_list, extract_list, List.drop_zero]
    obtain ⟨l, hl⟩ := List.getLast?_eq_some_iff.1 hl
    have hz : r.size - 1 = l.length := by rw [size_list, hl, List.length_append]; simp
    rw [hz, hl, List.take_left]
    rfl
  · apply ba_ext
    rw [append_list]
    exact List.append_nil _
theorem endCut_size (r : ByteArray) : (endCut r).1.size ≤ r.size := by
  unfold endCut
  split
  · rw [ByteArray.size_extract]; omega
  · exact Nat.le_refl _
theorem endCut_bt (r : ByteArray) : (0 < r.size ∧ bt r (r.size - 1) = 33 ∧ endCut r = (r.extract 0 (r.size - 1), true)) ∨ ((r.size = 0 ∨ bt r (r.size - 1) ≠ 33) ∧ endCut r = (r, false)) := by
  unfold endCut
  rw [List.getLast?_eq_getElem?, ← size_list]
  rcases Nat.eq_zero_or_pos r.size with h0 | h0
  · right
    refine ⟨.inl h0, if_neg ?_⟩
    rw [List.getElem?_eq_none (by rw [← size_list]; omega)]
    exact nofun
  · obtain ⟨c, hc⟩ := byte_at (cs := r) (i := r.size - 1) (by omega)
    rw [hc, bt_at hc]
    by_cases h1 : c = 33
    · subst h1
      exact .inl ⟨h0, rfl, if_pos rfl⟩
    · refine .inr ⟨.inr fun e => h1 ?_, if_neg fun e => h1 (Option.some.inj e)⟩
      have : c.toNat = (33 : UInt8).toNat := by
        show c.toNat = 33
        omega
      exact UInt8.toNat_inj.1 this
theorem suffix_ev (r : ByteArray) (hr : r.size ≤ 1099511627776) : Ev (fun k => strings_CutSuffix k (r, bs [33])) (endCut r) := by
  have z1 : (bs [33]).size = 1 := rfl
  refine Ev.step (fun k => strings_CutSuffix.eq k r (bs [33])) (Ev.bind (a := endCut r) ?_ (Ev.now _))
  by_cases h0 : r.size = 0
  · have e : endCut r = (r, false) := by
      rcases endCut_bt r with ⟨h1, _⟩ | ⟨_, h1⟩
      · omega
      · exact h1
    rw [e]
    exact Ev.step (fun k => stringslite_CutSuffix.eq k r (bs [33])) (Ev.bind (Ev.step (fun k => stringslite_HasSuffix.eq k r (bs [33])) (Ev.no (decide_eq_false (by rw [z1]; omega)) (Ev.now _))) (Ev.yes rfl (Ev.now _)))
  · have e1 : w64 ((r.size : Int) - ((bs [33]).size : Int)) = ((r.size - 1 : Nat) : Int) := by rw [z1, w64_of (by omega) (by omega)]; omega
    have d1 : ((decide ((0 : Int) ≤ ((r.size - 1 : Nat) : Int))) && (decide (((r.size - 1 : Nat) : Int) ≤ (r.size : Int)))) = true := by rw [decide_eq_true (by omega), decide_eq_true (by omega)]; rfl
    obtain ⟨c, hc⟩ := byte_at (cs := r) (i := r.size - 1) (by omega)
    have hx : (r.extract (r.size - 1) r.size).data.toList = [c] := by
      rw [extract_list]
      obtain ⟨hlt, he⟩ := List.getElem?_eq_some_iff.1 hc
      rw [List.take_of_length_le (by rw [← size_list]; exact Nat.le_refl _), List.drop_eq_getElem_cons hlt, he, List.drop_of_length_le (by rw [← size_list]; omega)]
    have hS : Ev (fun k => stringslite_HasSuffix k (r, bs [33])) (decide (c = 33)) := by
      refine Ev.step (fun k => stringslite_HasSuffix.eq k r (bs [33])) (Ev.yes (decide_eq_true (by rw [z1]; omega)) ?_)
      rw [e1]
      refine Ev.yes d1 (Ev.now' ?_)
      rw [Int.toNat_natCast]
      by_cases h1 : c = 33
      · rw [decide_eq_true h1, strEq_iff]
        apply ba_ext
        rw [hx, h1]
        rfl
      · rw [decide_eq_false h1, Bool.eq_false_iff]
        intro e
        have := strEq_iff.1 e
        rw [this] at hx
        simp [bs] at hx
        exact h1 hx.symm
    have hb := bt_at hc
    refine Ev.step (fun k => stringslite_CutSuffix.eq k r (bs [33])) (Ev.bind hS ?_)
    by_cases h1 : c = 33
    · subst h1
      rw [decide_eq_true rfl, e1]
      refine Ev.no rfl (Ev.yes d1 (Ev.now' ?_))
      rcases endCut_bt r with ⟨_, _, h2⟩ | ⟨h2, _⟩
      · rw [h2, Int.toNat_natCast]
      · rcases h2 with h2 | h2
        · omega
        · exact absurd (by rw [hb]; rfl) h2
    · rw [decide_eq_false h1]
      refine Ev.yes rfl (Ev.now' ?_)
      rcases endCut_bt r with ⟨_, h2, _⟩ | ⟨_, h2⟩
      · rw [hb] at h2
        exact absurd (UInt8.toNat_inj.1 (show c.toNat = (33 : UInt8).toNat by show c.toNat = 33; omega)) h1
      · exact h2.symm
/-! ### The first piece -/
theorem index_hit1 (c : UInt8) (r : List UInt8) : ∀ x : List UInt8, c ∉ x → Lib.index (x ++ c :: r) [c] = (x.length : Int)
  | [], _ => by
    show Lib.index (c :: r) [c] = 0
    unfold Lib.index
    simp
  | b :: x, h => by
    simp only [List.mem_cons, not_or] at h
    have ih := index_hit1 c r x h.2
    show Lib.index (b :: (x ++ c :: r)) [c] = _
    unfold Lib.index
    have h1 : ([c].isPrefixOf (b :: (x ++ c :: r))) = false := by
      show (c == b && _) = false
      rw [beq_eq_false_iff_ne.2 h.1]
      rfl
    rw [h1, ih]
    simp
    try omega
theorem index_miss1 (c : UInt8) : ∀ x : List UInt8, c ∉ x → Lib.index x [c] = -1
  | [], _ => by unfold Lib.index; rfl
  | b :: x, h => by
    simp only [List.mem_cons, not_or] at h
    have ih := index_miss1 c x h.2
    unfold Lib.index
    have h1 : ([c].isPrefixOf (b :: x)) = false := by
      show (c == b && _) = false
      rw [beq_eq_false_iff_ne.2 h.1]
      rfl
    rw [h1, ih]
    rfl
theorem first_one {c : UInt8} : ∀ {x x' r r' : List UInt8}, c ∉ x → c ∉ x' → x ++ c :: r = x' ++ c :: r' → x = x' ∧ r = r'
  | [], [], r, r', _, _, e => ⟨rfl, by simpa using e⟩
  | [], b :: x', r, r', _, h', e => by
    simp at e
    exact absurd (by rw [e.1]; exact List.mem_cons_self) h'
  | b :: x, [], r, r', h, _, e => by
    simp at e
    exact absurd (by rw [e.1]; exact List.mem_cons_self) h
  | b :: x, b' :: x', r, r', h, h', e => by
    simp only [List.cons_append, List.cons.injEq] at e
    simp only [List.mem_cons, not_or] at h h'
    obtain ⟨e1, e2⟩ := first_one h.2 h'.2 e.2
    exact ⟨by rw [e.1, e1], e2⟩
theorem piece_ex {c : UInt8} : ∀ (l : List UInt8), c ∈ l → ∃ x r, l = x ++ c :: r ∧ c ∉ x
  | [], h => by cases h
  | b :: l, h => by
    by_cases hb : b = c
    · exact ⟨[], l, by rw [hb]; rfl, by simp⟩
    · obtain ⟨x, r, h1, h2⟩ := piece_ex l ((List.mem_cons.1 h).resolve_left fun e => hb e.symm)
      exact ⟨b :: x, r, by rw [h1]; rfl, by simp [h2]; exact fun e => hb e.symm⟩
theorem cut_ev (s : ByteArray) (hs : s.size ≤ 1048576) : ((58 : UInt8) ∉ s.data.toList ∧ Ev (fun k => strings_Cut k (s, bs [58])) (s, ByteArray.empty, false)) ∨
    ∃ x r : ByteArray, s.data.toList = x.data.toList ++ 58 :: r.data.toList ∧ (58 : UInt8) ∉ x.data.toList ∧ Ev (fun k => strings_Cut k (s, bs [58])) (x, r, true) := by
  have hl : (bs [58]).data.toList = [58] := rfl
  by_cases hm : (58 : UInt8) ∈ s.data.toList
  · obtain ⟨x, r, e1, e2⟩ := piece_ex _ hm
    refine .inr ⟨mkS x, mkS r, e1, e2, Ev.step (fun k => (strings_Cut.eq k (s, bs [58])).trans (show strCut s (bs [58]) = some (mkS x, mkS r, true) from ?_)) (Ev.now _)⟩
    unfold strCut
    rw [if_pos (by omega)]
    unfold Lib.cut
    rw [hl, e1, index_hit1 58 r x e2, if_pos (by omega), Int.toNat_natCast, List.take_left, ← List.drop_drop, List.drop_left]
    rfl
  · refine .inl ⟨hm, Ev.step (fun k => (strings_Cut.eq k (s, bs [58])).trans (show strCut s (bs [58]) = some (s, ByteArray.empty, false) from ?_)) (Ev.now _)⟩
    unfold strCut
    rw [if_pos (by omega)]
    unfold Lib.cut
    rw [hl, index_miss1 58 _ hm, if_neg (by omega)]
    rfl
/-! ### Reading -/
def Ans (s : ByteArray) (r : MzT × Bool) : Prop := (∃ (a b : Nat) (cs : ByteArray) (t : Bool), MazeOk a b cs ∧ s = textZ a b cs t ∧ r = (((a : Int), (b : Int), cs, t), true)) ∨ ((∀ (a b : Nat) (cs : ByteArray) (t : Bool), MazeOk a b cs → s ≠ textZ a b cs t) ∧ r = (zeroMz, false))
theorem textZ_inj {a b a' b' : Nat} {cs cs' : ByteArray} {t t' : Bool} (h : MazeOk a b cs) (h' : MazeOk a' b' cs') (e : textZ a b cs t = textZ a' b' cs' t') : a = a' ∧ b = b' ∧ cs = cs' ∧ t = t' := by
  have e1 := congrArg (fun s : ByteArray => s.data.toList) e
  simp only [textZ_list] at e1
  obtain ⟨e2, e3⟩ := first_one (headZ_free a b) (headZ_free a' b') e1
  have e4 := headZ_split a b
  rw [ba_ext e2, headZ_split] at e4
  simp only [List.cons.injEq, and_true] at e4
  have e5 := endCut_mark h t
  rw [ba_ext e3, endCut_mark h' t'] at e5
  exact ⟨(decS_inj e4.1).symm, (decS_inj e4.2).symm, (congrArg Prod.fst e5).symm, (congrArg Prod.snd e5).symm⟩
theorem Ans.one {s : ByteArray} {r r' : MzT × Bool} (h : Ans s r) (h' : Ans s r') : r = r' := by
  rcases h with ⟨a, b, cs, t, h, rfl, rfl⟩ | ⟨h, rfl⟩
  · rcases h' with ⟨a', b', cs', t', h', e, rfl⟩ | ⟨h', rfl⟩
    · obtain ⟨rfl, rfl, rfl, rfl⟩ := textZ_inj h h' e
      rfl
    · exact absurd rfl (h' a b cs t h)
  · rcases h' with ⟨a', b', cs', t', h', e, rfl⟩ | ⟨h', rfl⟩
    · exact absurd e (h a' b' cs' t' h')
    · rfl
theorem two {α : Type} {l : List α} (h : l.length = 2) : ∃ a b, l = [a, b] := by
  match l, h with
  | [a, b], _ => exact ⟨a, b, rfl⟩
theorem impl_ev (s : ByteArray) (hs : s.size ≤ 1048576) : ∃ r, Ev (fun k => impl_ParseMaze k s) r ∧ Ans s r := by
  -- behind the pieces
  have go : ∀ (x r : ByteArray) (fnd : Bool), x.size ≤ 1048576 → r.size ≤ 1048576 → Ev (fun k => strings_Cut k (s, bs [58])) (x, r, fnd) → ∃ v, Ev (fun k => impl_ParseMaze k s) v ∧
      ((∃ a b : Nat, NumsOk 120 x 2 9 [a, b] ∧ MazeOk a b (endCut r).1 ∧ v = (((a : Int), (b : Int), (endCut r).1, (endCut r).2), true)) ∨ ((∀ a b : Nat, NumsOk 120 x 2 9 [a, b] → ¬ MazeOk a b (endCut r).1) ∧ v = (zeroMz, false))) := fun x r fnd hx hr hc => by
    have hsf := suffix_ev r (by omega)
    have hez := endCut_size r
    rcases hE : endCut r with ⟨cs, t⟩
    rw [hE] at hsf hez
    simp only at hez
    rcases numbers_ev x 120 2 9 hx (by omega) (by omega) with ⟨l, g1, g2⟩ | ⟨g1, g2⟩
    · obtain ⟨a, b, rfl⟩ := two g1.1
      have W := isMaze_ev (a : Int) (b : Int) cs t (by omega)
      by_cases H : MazeOk a b cs
      · exact ⟨_, Ev.step (fun k => impl_ParseMaze.eq k s) (Ev.bind hc (Ev.bind hsf (Ev.bind g2 (Ev.yes rfl (Ev.yes rfl (Ev.no rfl (Ev.bind (W.isT H) (Ev.no rfl (Ev.now _))))))))), .inl ⟨a, b, g1, H, rfl⟩⟩
      · refine ⟨(zeroMz, false), Ev.step (fun k => impl_ParseMaze.eq k s) (Ev.bind hc (Ev.bind hsf (Ev.bind g2 (Ev.yes rfl (Ev.yes rfl (Ev.no rfl (Ev.bind (W.isF H) (Ev.yes rfl (Ev.now _))))))))), .inr ⟨fun a' b' h => ?_, rfl⟩⟩
        have e := g1.2.2.symm.trans h.2.2
        simp only [List.map_cons, List.map_nil, List.cons.injEq, and_true] at e
        rw [← decS_inj e.1, ← decS_inj e.2]
        exact H
    · exact ⟨(zeroMz, false), Ev.step (fun k => impl_ParseMaze.eq k s) (Ev.bind hc (Ev.bind hsf (Ev.bind g2 (Ev.yes rfl (Ev.yes rfl (Ev.yes rfl (Ev.now _))))))), .inr ⟨fun a b h => absurd h (g1 [a, b]), rfl⟩⟩
  have nums : ∀ {a b : Nat} {cs : ByteArray}, MazeOk a b cs → NumsOk 120 (headZ a b) 2 9 [a, b] := fun {a b cs} h => ⟨rfl, fun n hn => by
    have h1 := h.1
    have h2 := h.2.1
    simp only [List.mem_cons, List.not_mem_nil, or_false] at hn
    omega, headZ_split a b⟩
  rcases cut_ev s hs with ⟨hm, hc⟩ | ⟨x, r, e1, e2, hc⟩
  · obtain ⟨v, v1, v2⟩ := go s ByteArray.empty false hs (by show 0 ≤ _; omega) hc
    refine ⟨v, v1, .inr ⟨fun a b cs t h e => hm ?_, ?_⟩⟩
    · rw [e, textZ_list]
      simp
    · rcases v2 with ⟨a, b, g1, g2, _⟩ | ⟨_, h⟩
      · have h1 := g2.2.2.1
        have hmr := mul_range g2.1.1 g2.1.2 g2.2.1.1 g2.2.1.2
        have hz := endCut_size ByteArray.empty
        have h0 : ByteArray.empty.size = 0 := rfl
        omega
      · exact h
  · have hsz : s.size = x.size + 1 + r.size := by
      have := congrArg List.length e1
      rw [List.length_append, List.length_cons, ← size_list, ← size_list, ← size_list] at this
      omega
    obtain ⟨v, v1, v2⟩ := go x r true (by omega) (by omega) hc
    refine ⟨v, v1, ?_⟩
    have uniq : ∀ (a b : Nat) (cs : ByteArray) (t : Bool), MazeOk a b cs → s = textZ a b cs t → x = headZ a b ∧ endCut r = (cs, t) := fun a b cs t h e => by
      have e3 := congrArg (fun s : ByteArray => s.data.toList) e
      simp only [textZ_list, e1] at e3
      obtain ⟨e4, e5⟩ := first_one e2 (headZ_free a b) e3
      exact ⟨ba_ext e4, by rw [ba_ext e5]; exact endCut_mark h t⟩
    rcases v2 with ⟨a, b, g1, g2, rfl⟩ | ⟨g1, rfl⟩
    · refine .inl ⟨a, b, _, _, g2, ?_, rfl⟩
      have hx : x = headZ a b := by
        have := splitS_join 120 x
        rw [g1.2.2] at this
        exact this.symm
      apply ba_ext
      rw [textZ_list, endCut_back, e1, hx]
    · refine .inr ⟨fun a b cs t h e => ?_, rfl⟩
      obtain ⟨h1, h2⟩ := uniq a b cs t h e
      refine g1 a b (by rw [h1]; exact nums h) ?_
      rw [h2]
      exact h
theorem isNumZ_of {s : ByteArray} {v : Int} (h : IsNum s v) (h0 : 0 ≤ v) : ∃ n : Nat, v = n ∧ s = decS n := by
  rcases h with ⟨n, _, h1, h2⟩ | ⟨_, h⟩
  · exact ⟨n, h2, h1⟩
  · omega
theorem isNumZ_dec {n : Nat} {v : Int} (hn : n ≤ 999999) (h : IsNum (decS n) v) : v = n := by
  rcases h with ⟨m, _, h1, h2⟩ | ⟨h, _⟩
  · rw [h2, decS_inj h1]
  · exact absurd rfl (h n hn)
theorem text_ev {a b : Nat} {cs : ByteArray} (h : MazeOk a b cs) (t : Bool) : Ev (fun k => spec_miText k ((a : Int), (b : Int), cs, t)) (textZ a b cs t) := by
  have hz := OkMz.size (m := ((a : Int), (b : Int), cs, t)) h
  simp only at hz
  have hw := h.1
  have hh := h.2.1
  have za := one_decZ (n := a) (by omega)
  have zb := one_decZ (n := b) (by omega)
  have z1 : (bs [120]).size = 1 := rfl
  have z2 : (bs [58]).size = 1 := rfl
  have z3 : (bs [33]).size = 1 := rfl
  have f : ∀ {a b : ByteArray}, a.size ≤ 100000 → b.size ≤ 100000 → fitS a b = true := fun ha hb => fitS_of (by omega)
  refine Ev.step (fun k => spec_miText.eq k a b cs t) (Ev.bind (l1Num_dec a (by omega)) ?_)
  refine Ev.yes (f (by omega) (by omega)) (Ev.bind (l1Num_dec b (by omega)) ?_)
  refine Ev.yes (f (by simp only [ByteArray.size_append]; omega) (by omega)) ?_
  refine Ev.yes (f (by simp only [ByteArray.size_append]; omega) (by omega)) ?_
  refine Ev.yes (f (by simp only [ByteArray.size_append]; omega) (by omega)) ?_
  cases t with
  | true => exact Ev.yes rfl (Ev.yes (f (by simp only [ByteArray.size_append]; omega) (by omega)) (Ev.now _))
  | false =>
    refine Ev.no rfl (Ev.now' ?_)
    apply ba_ext
    unfold textZ
    rw [append_list (_ ++ cs)]
    exact (List.append_nil _).symm
theorem textZ_size {a b : Nat} {cs : ByteArray} (h : MazeOk a b cs) (t : Bool) : (textZ a b cs t).size ≤ 100 := by
  have hz := OkMz.size (m := ((a : Int), (b : Int), cs, t)) h
  simp only at hz
  have hw := h.1
  have hh := h.2.1
  have za := one_decZ (n := a) (by omega)
  have zb := one_decZ (n := b) (by omega)
  have z1 : (bs [120]).size = 1 := rfl
  have z2 : (bs [58]).size = 1 := rfl
  have z3 : (mark t).size ≤ 1 := by cases t <;> decide
  unfold textZ
  simp only [ByteArray.size_append]
  omega
theorem lenZ_ne {n m : Nat} (h : n ≠ m) : ((n : Int) != (m : Int)) = true := by rw [bne_iff_ne]; omega
theorem spec_ev (s : ByteArray) (hs : s.size ≤ 1048576) : ∃ r, Ev (fun k => spec_ParseMaze k s) r ∧ Ans s r := by
  have out : ∀ (w : MzT) (b : Bool), Ev (fun k => spec_miParse k s) (w, b) → Ev (fun k => spec_ParseMaze k s) (cond b (w, true) (zeroMz, false)) := fun w b h => by
    refine Ev.step (fun k => spec_ParseMaze.eq k s) (Ev.bind h ?_)
    cases b
    · exact Ev.yes rfl (Ev.now _)
    · exact Ev.no rfl (Ev.now _)
  have bad : ∀ w : MzT, (∀ (a b : Nat) (cs : ByteArray) (t : Bool), MazeOk a b cs → s ≠ textZ a b cs t) → Ev (fun k => spec_miParse k s) (w, false) → ∃ r, Ev (fun k => spec_ParseMaze k s) r ∧ Ans s r := fun w h1 h2 => ⟨_, out w false h2, .inr ⟨h1, rfl⟩⟩
  have hsp := l1Split_ev s 58 hs
  by_cases hbig : (s.size : Int) > 100
  · refine bad zeroMz (fun a b cs t h e => ?_) (Ev.step (fun k => spec_miParse.eq k s) (Ev.bind hsp (Ev.yes (decide_eq_true hbig) (Ev.now _))))
    have := textZ_size h t
    rw [← e] at this
    omega
  have cut58 : ∀ (a b : Nat) (cs : ByteArray) (t : Bool), MazeOk a b cs → s = textZ a b cs t → splitS 58 s = [headZ a b, cs ++ mark t] := fun a b cs t h e => by
    unfold splitS
    rw [e, textZ_list, splitL_cut 58 _ _ (headZ_free a b), splitL_free 58 _ (free_cells h t)]
    rfl
  have st0 : ∀ r, Ev (fun k => cond (((splitS 58 s).length : Int) != 2) (some (zeroMz, false)) _) r → Ev (fun k => spec_miParse k s) r := fun r h => Ev.step (fun k => spec_miParse.eq k s) (Ev.bind hsp (Ev.no (decide_eq_false hbig) h))
  by_cases h4 : (splitS 58 s).length = 2
  rotate_left
  · refine bad zeroMz (fun a b cs t h e => h4 ?_) (st0 _ (Ev.yes (lenZ_ne h4) (Ev.now _)))
    rw [cut58 a b cs t h e]
    rfl
  have hpc := splitS_piece 58 s
  obtain ⟨p, r, e⟩ := two h4
  rw [e] at st0 hpc
  have hp := hpc p (by simp)
  have hr := hpc r (by simp)
  have fall : ∀ (a b : Nat) (cs : ByteArray) (t : Bool), MazeOk a b cs → s = textZ a b cs t → p = headZ a b ∧ endCut r = (cs, t) := fun a b cs t h e2 => by
    have e3 := cut58 a b cs t h e2
    rw [e] at e3
    simp only [List.cons.injEq, and_true] at e3
    exact ⟨e3.1, by rw [e3.2]; exact endCut_mark h t⟩
  have s1 := l1Split_ev p 120 (by omega)
  have c1 := splitS_piece 120 p
  have st1 : ∀ v, Ev (fun k => cond (((splitS 120 p).length : Int) != 2) (some (zeroMz, false)) _) v → Ev (fun k => spec_miParse k s) v := fun v h => st0 v (Ev.no rfl (Ev.yes rfl (Ev.bind s1 h)))
  by_cases h2 : (splitS 120 p).length = 2
  rotate_left
  · refine bad zeroMz (fun a b cs t h e2 => h2 ?_) (st1 _ (Ev.yes (lenZ_ne h2) (Ev.now _)))
    rw [(fall a b cs t h e2).1, headZ_split]
    rfl
  obtain ⟨u1, u2, e2⟩ := two h2
  rw [e2] at st1 c1
  obtain ⟨v1, r1, i1⟩ := l1Read_ev u1 (by have := c1 u1 (by simp); omega)
  obtain ⟨v2, r2, i2⟩ := l1Read_ev u2 (by have := c1 u2 (by simp); omega)
  have hez := endCut_size r
  rcases hE : endCut r with ⟨cs, t⟩
  rw [hE] at hez
  simp only at hez
  have st2 : ∀ v, Ev (fun k => (spec_miGood k (v1, v2, cs, t)).bind fun r5 => cond r5 ((spec_miText k (v1, v2, cs, t)).bind fun r6 => some ((v1, v2, cs, t), strEq r6 s)) (some ((v1, v2, cs, t), false))) v → Ev (fun k => spec_miParse k s) v := fun v h => by
    refine st1 v (Ev.no rfl (Ev.yes rfl (Ev.bind r1 (Ev.yes rfl (Ev.bind r2 (Ev.yes rfl ?_))))))
    have g1 : ([p, r] : List ByteArray).getD 1 default = r := rfl
    rw [g1]
    rcases endCut_bt r with ⟨a1, a2, a3⟩ | ⟨a1, a3⟩
    · rw [hE] at a3
      cases a3
      have eI : w64 ((r.size : Int) - 1) = ((r.size - 1 : Nat) : Int) := by rw [w64_of (by omega) (by omega)]; omega
      refine Ev.yes (decide_eq_true (by omega)) ?_
      rw [eI, Int.toNat_natCast, a2]
      exact Ev.yes (inB_nat (by omega)) (Ev.yes rfl (Ev.yes (by rw [decide_eq_true (by omega), decide_eq_true (by omega)]; rfl) h))
    · rw [hE] at a3
      cases a3
      rcases a1 with a1 | a1
      · exact Ev.no (decide_eq_false (by omega)) h
      · by_cases h0 : r.size = 0
        · exact Ev.no (decide_eq_false (by omega)) h
        · have eI : w64 ((r.size : Int) - 1) = ((r.size - 1 : Nat) : Int) := by rw [w64_of (by omega) (by omega)]; omega
          refine Ev.yes (decide_eq_true (by omega)) ?_
          rw [eI, Int.toNat_natCast]
          exact Ev.yes (inB_nat (by omega)) (Ev.no (beq_eq_false_iff_ne.2 a1) h)
  have G := miGood_ev v1 v2 cs t (by omega)
  by_cases H : MazeOk v1 v2 cs
  · have hw := H.1
    have hh := H.2.1
    obtain ⟨a, rfl, ja⟩ := isNumZ_of i1 (by omega)
    obtain ⟨b, rfl, jb⟩ := isNumZ_of i2 (by omega)
    have hp2 : p = headZ a b := by
      have := splitS_join 120 p
      rw [e2, ja, jb] at this
      exact this.symm
    have hst : s = textZ a b cs t := by
      have j := splitS_join 58 s
      rw [e] at j
      rw [← j]
      apply ba_ext
      have hb := endCut_back r
      rw [hE] at hb
      rw [textZ_list, ← hb, hp2]
      simp only [joinB, mkS_list, List.map_cons, List.map_nil, Lib.join_cons, Lib.joinTail]
      simp
    have T := text_ev H t
    rw [← hst] at T
    exact ⟨_, out _ true (st2 _ (Ev.bind (G.isT H) (Ev.yes rfl (Ev.bind T (Ev.now' (by rw [strEq_self])))))), .inl ⟨a, b, cs, t, H, hst, rfl⟩⟩
  · refine bad _ (fun a b cs' t' h e3 => H ?_) (st2 _ (Ev.bind (G.isF H) (Ev.no rfl (Ev.now _))))
    obtain ⟨k1, k2⟩ := fall a b cs' t' h e3
    rw [hE] at k2
    cases k2
    rw [k1, headZ_split] at e2
    simp only [List.cons.injEq, and_true] at e2
    obtain ⟨rfl, rfl⟩ := e2
    have hw := h.1
    have hh := h.2.1
    rw [isNumZ_dec (by omega) i1, isNumZ_dec (by omega) i2]
    exact h
/-! ### Telling -/
theorem repeat_ev (t : Bool) : ∃ v, Ev (fun k => impl_bit k t) v ∧ Ev (fun k => strings_Repeat k (bs [33], v)) (mark t) := by
  cases t with
  | true => exact ⟨1, Ev.step (fun k => impl_bit.eq k true) (Ev.yes rfl (Ev.now _)), Ev.step (fun k => (strings_Repeat.eq k (bs [33], 1)).trans (show strRep (bs [33]) 1 = some (mark true) from by unfold strRep; rw [if_pos (by decide)]; rfl)) (Ev.now _)⟩
  | false => exact ⟨0, Ev.step (fun k => impl_bit.eq k false) (Ev.no rfl (Ev.now _)), Ev.step (fun k => (strings_Repeat.eq k (bs [33], 0)).trans (show strRep (bs [33]) 0 = some (mark false) from by unfold strRep; rw [if_pos (by decide)]; rfl)) (Ev.now _)⟩
theorem textI_ev {a b : Nat} {cs : ByteArray} (h : MazeOk a b cs) (t : Bool) : Ev (fun k => impl_MazeText k ((a : Int), (b : Int), cs, t)) (textZ a b cs t, true) ∧ Ev (fun k => spec_MazeText k ((a : Int), (b : Int), cs, t)) (textZ a b cs t, true) := by
  have hz := OkMz.size (m := ((a : Int), (b : Int), cs, t)) h
  simp only at hz
  have hw := h.1
  have hh := h.2.1
  have za := one_decZ (n := a) (by omega)
  have zb := one_decZ (n := b) (by omega)
  have z1 : (bs [120]).size = 1 := rfl
  have z2 : (bs [58]).size = 1 := rfl
  have z3 : (mark t).size ≤ 1 := by cases t <;> decide
  have t1 := listText_ev (bs [120]) [(a : Int), (b : Int)] (by simp) (by decide) (by intro n hn; simp at hn; omega)
  have e1 : ([(a : Int), (b : Int)].map fun n => decS n.toNat) = [decS a, decS b] := rfl
  rw [e1] at t1
  have t1 : Ev (fun k => impl_listText k (bs [120], [(a : Int), (b : Int)])) (headZ a b) := t1
  have zh : (headZ a b).size ≤ 3 := by rw [headZ_eq]; simp only [ByteArray.size_append]; omega
  obtain ⟨v, r1, r2⟩ := repeat_ev t
  have f : ∀ {a b : ByteArray}, a.size ≤ 100000 → b.size ≤ 100000 → fitS a b = true := fun ha hb => fitS_of (by omega)
  have iM := (isMaze_ev (a : Int) (b : Int) cs t (by omega)).isT h
  have sM := (miGood_ev (a : Int) (b : Int) cs t (by omega)).isT h
  refine ⟨Ev.step (fun k => impl_MazeText.eq k a b cs t) (Ev.bind iM (Ev.no rfl (Ev.bind t1 (Ev.yes (f (by omega) (by omega)) (Ev.yes (f (by simp only [ByteArray.size_append]; omega) (by omega)) (Ev.bind r1 (Ev.bind r2 (Ev.yes (f (by simp only [ByteArray.size_append]; omega) (by omega)) (Ev.now' ?_)))))))))
    , Ev.step (fun k => spec_MazeText.eq k a b cs t) (Ev.bind sM (Ev.no rfl (Ev.bind (text_ev h t) (Ev.now _))))⟩
  unfold textZ
  rw [headZ_eq]
theorem text_both (m : MzT) (hc : m.2.2.1.size ≤ 1048576) : ∃ r, Ev (fun k => impl_MazeText k m) r ∧ Ev (fun k => spec_MazeText k m) r ∧ (¬ OkMz m → r = (ByteArray.empty, false)) ∧ (OkMz m → r.2 = true ∧ Ev (fun k => impl_ParseMaze k r.1) (m, true)) := by
  obtain ⟨w, h, cs, t⟩ := m
  by_cases H : OkMz (w, h, cs, t)
  · have hw := H.1
    have hh := H.2.1
    simp only at hw hh
    obtain ⟨a, rfl⟩ := Int.eq_ofNat_of_zero_le (show 0 ≤ w by omega)
    obtain ⟨b, rfl⟩ := Int.eq_ofNat_of_zero_le (show 0 ≤ h by omega)
    have HM : MazeOk a b cs := H
    obtain ⟨t1, t2⟩ := textI_ev HM t
    have hsz := textZ_size HM t
    obtain ⟨r, e, A⟩ := impl_ev (textZ a b cs t) (by omega)
    have er : r = (((a : Int), (b : Int), cs, t), true) := A.one (.inl ⟨a, b, cs, t, HM, rfl, rfl⟩)
    exact ⟨_, t1, t2, fun h => absurd H h, fun _ => ⟨rfl, er ▸ e⟩⟩
  · have iM := (isMaze_ev w h cs t (by simp only at hc; omega)).isF H
    have sM := (miGood_ev w h cs t (by simp only at hc; omega)).isF H
    exact ⟨(ByteArray.empty, false), Ev.step (fun k => impl_MazeText.eq k w h cs t) (Ev.bind iM (Ev.yes rfl (Ev.now _))), Ev.step (fun k => spec_MazeText.eq k w h cs t) (Ev.bind sM (Ev.yes rfl (Ev.now _))), fun _ => rfl, fun h => absurd h H⟩
theorem parse_both (s : ByteArray) (hs : s.size ≤ 1048576) : ∃ r : MzT × Bool, Ev (fun k => impl_ParseMaze k s) r ∧ Ev (fun k => spec_ParseMaze k s) r ∧ (r.2 = true → Ev (fun k => impl_MazeText k r.1) (s, true)) := by
  obtain ⟨r, e, A⟩ := impl_ev s hs
  obtain ⟨r', e', A'⟩ := spec_ev s hs
  obtain rfl := A.one A'
  refine ⟨r, e, e', fun hr => ?_⟩
  rcases A with ⟨a, b, cs, t, h, rfl, rfl⟩ | ⟨_, rfl⟩
  · exact (textI_ev h t).1
  · exact Bool.noConfusion hr
theorem drawParse_ev (code : List Int) (hc : ∀ x ∈ code, 0 ≤ x ∧ x ≤ 255) : ∃ s, Ev (fun k => spec_DrawParseMaze k code) s ∧ s.size ≤ 2000 := by
  obtain ⟨M, c1, e1, HM, H1⟩ := sureMaze_ev 0 (code, 0, 0) (CurOk.start hc) (by omega) 4 (by omega)
  obtain ⟨w, h, cs, t⟩ := M
  have hw := HM.1
  have hh := HM.2.1
  simp only at hw hh
  obtain ⟨a, rfl⟩ := Int.eq_ofNat_of_zero_le (show 0 ≤ w by omega)
  obtain ⟨b, rfl⟩ := Int.eq_ofNat_of_zero_le (show 0 ≤ h by omega)
  have et := text_ev (a := a) (b := b) (cs := cs) HM t
  have zt := textZ_size (a := a) (b := b) (cs := cs) HM t
  obtain ⟨o, c2, e2, H2⟩ := one_ev _ c1 H1 (by omega) 3
  have h9 : (bs [49, 50, 51, 120, 90, 83, 46, 58, 33]).size = 9 := rfl
  obtain ⟨u, c3, e3, zu, _⟩ := spoilt_ev _ c2 (textZ a b cs t) (bs [49, 50, 51, 120, 90, 83, 46, 58, 33]) H2 (by omega) (by omega) (by rw [h9]; omega)
  cases o with
  | true => exact ⟨u, Ev.step (fun k => spec_DrawParseMaze.eq k code) (Ev.bind e1 (Ev.bind et (Ev.bind e2 (Ev.yes rfl (Ev.bind e3 (Ev.now _)))))), by omega⟩
  | false => exact ⟨textZ a b cs t, Ev.step (fun k => spec_DrawParseMaze.eq k code) (Ev.bind e1 (Ev.bind et (Ev.bind e2 (Ev.no rfl (Ev.now _))))), by omega⟩
end Go.Proofs.YtcmebphcoamohaaGreatDoorS.MzP
