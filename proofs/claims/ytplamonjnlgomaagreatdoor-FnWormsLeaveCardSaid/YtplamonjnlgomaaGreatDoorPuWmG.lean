/- Worms: their texts, told and read. -/
import Derived.Test.YtplamonjnlgomaaGreatDoorMgWm
import Derived.Test.YtplamonjnlgomaaGreatDoorPuFields
namespace Go.Proofs.YtplamonjnlgomaaGreatDoorS.WmP
open Go Go.Proofs Go.Proofs.YtplamonjnlgomaaGreatDoorS
set_option linter.unusedVariables false
set_option linter.unusedSimpArgs false
abbrev Wm := Int × Int × ByteArray × ByteArray × Int × Int × Int
abbrev zero : Wm := (0, 0, ByteArray.empty, ByteArray.empty, 0, 0, 0)
structure Parts (s : ByteArray) (a b : Nat) (ri dn : ByteArray) (x y wy : Nat) : Prop where
  all : ∃ p q, splitS 58 s = [p, ri, dn, q] ∧ splitS 120 p = [decS a, decS b] ∧ splitS 44 q = [decS x, decS y, decS wy]
  ok : WormOk a b ri dn x y wy
theorem bs_mkS (c : UInt8) : bs [c] = mkS [c] := rfl
theorem text_eq (s : ByteArray) (a b : Nat) (ri dn : ByteArray) (x y wy : Nat) (h : Parts s a b ri dn x y wy) :
    s = decS a ++ bs [120] ++ decS b ++ bs [58] ++ ri ++ bs [58] ++ dn ++ bs [58] ++ decS x ++ bs [44] ++ decS y ++ bs [44] ++ decS wy := by
  obtain ⟨p, q, h1, h2, h3⟩ := h.all
  have e1 := splitS_join 58 s
  have e2 := splitS_join 120 p
  have e3 := splitS_join 44 q
  rw [h1] at e1
  rw [h2] at e2
  rw [h3] at e3
  rw [← e1, ← e2, ← e3]
  apply ba_ext
  simp only [joinB, mkS_list, append_list, List.map_cons, List.map_nil, Lib.join_cons, Lib.joinTail, decS_list]
  simp [bs]
theorem one_dec {n : Nat} (h : n < 10) : (decS n).size = 1 := by
  rw [size_list, decS_list, dec_small h]
  rfl
theorem wm_size (a b : Nat) (ri dn : ByteArray) (x y wy : Nat) (h : WormOk a b ri dn x y wy) : ri.size ≤ 36 ∧ dn.size ≤ 36 := by
  obtain ⟨hw, hh, ⟨hri, hdn⟩, _, hx, hy, hwy⟩ := h
  have hm : (a : Int) * b ≤ 6 * 6 := by
    have : a * b ≤ 6 * 6 := Nat.mul_le_mul (by omega) (by omega)
    exact_mod_cast this
  omega
theorem text_ev (a b : Nat) (ri dn : ByteArray) (x y wy : Nat) (h : WormOk a b ri dn x y wy) :
    Ev (fun k => spec_wmText k ((a : Int), (b : Int), ri, dn, (x : Int), (y : Int), (wy : Int))) (decS a ++ bs [120] ++ decS b ++ bs [58] ++ ri ++ bs [58] ++ dn ++ bs [58] ++ decS x ++ bs [44] ++ decS y ++ bs [44] ++ decS wy) := by
  have hz := wm_size a b ri dn x y wy h
  obtain ⟨hw, hh, ⟨hri, hdn⟩, _, hx, hy, hwy⟩ := h
  have za := one_dec (n := a) (by omega)
  have zb := one_dec (n := b) (by omega)
  have zx := one_dec (n := x) (by omega)
  have zy := one_dec (n := y) (by omega)
  have zw := one_dec (n := wy) (by omega)
  have z1 : (bs [120]).size = 1 := rfl
  have z2 : (bs [58]).size = 1 := rfl
  have z3 : (bs [44]).size = 1 := rfl
  have f : ∀ {a b : ByteArray}, a.size ≤ 100000 → b.size ≤ 100000 → fitS a b = true := fun ha hb => fitS_of (by omega)
  refine Ev.step (fun k => spec_wmText.eq k a b ri dn x y wy) (Ev.bind (l1Num_dec a (by omega)) ?_)
  refine Ev.yes (f (by omega) (by omega)) (Ev.bind (l1Num_dec b (by omega)) ?_)
  refine Ev.yes (f (by simp only [ByteArray.size_append]; omega) (by omega)) ?_
  refine Ev.yes (f (by simp only [ByteArray.size_append]; omega) (by omega)) ?_
  refine Ev.yes (f (by simp only [ByteArray.size_append]; omega) (by omega)) ?_
  refine Ev.yes (f (by simp only [ByteArray.size_append]; omega) (by omega)) ?_
  refine Ev.yes (f (by simp only [ByteArray.size_append]; omega) (by omega)) ?_
  refine Ev.yes (f (by simp only [ByteArray.size_append]; omega) (by omega)) (Ev.bind (l1Num_dec x (by omega)) ?_)
  refine Ev.yes (f (by simp only [ByteArray.size_append]; omega) (by omega)) ?_
  refine Ev.yes (f (by simp only [ByteArray.size_append]; omega) (by omega)) (Ev.bind (l1Num_dec y (by omega)) ?_)
  refine Ev.yes (f (by simp only [ByteArray.size_append]; omega) (by omega)) ?_
  refine Ev.yes (f (by simp only [ByteArray.size_append]; omega) (by omega)) (Ev.bind (l1Num_dec wy (by omega)) ?_)
  exact Ev.yes (f (by simp only [ByteArray.size_append]; omega) (by omega)) (Ev.now _)
def Ans (s : ByteArray) (r : Wm × Bool) : Prop := (∃ (a b : Nat) (ri dn : ByteArray) (x y wy : Nat), Parts s a b ri dn x y wy ∧ r = (((a : Int), (b : Int), ri, dn, (x : Int), (y : Int), (wy : Int)), true)) ∨ ((∀ (a b : Nat) (ri dn : ByteArray) (x y wy : Nat), ¬ Parts s a b ri dn x y wy) ∧ r = (zero, false))
theorem Ans.one {s : ByteArray} {r r' : Wm × Bool} (h : Ans s r) (h' : Ans s r') : r = r' := by
  rcases h with ⟨a, b, ri, dn, x, y, wy, h, rfl⟩ | ⟨h, rfl⟩
  · rcases h' with ⟨a', b', ri', dn', x', y', wy', h', rfl⟩ | ⟨h', rfl⟩
    · obtain ⟨p, q, e1, e2, e3⟩ := h.all
      obtain ⟨p', q', e1', e2', e3'⟩ := h'.all
      rw [e1] at e1'
      simp only [List.cons.injEq, and_true] at e1'
      obtain ⟨rfl, rfl, rfl, rfl⟩ := e1'
      rw [e2] at e2'
      rw [e3] at e3'
      simp only [List.cons.injEq, and_true] at e2' e3'
      obtain ⟨i1, i2⟩ := e2'
      obtain ⟨i3, i4, i5⟩ := e3'
      rw [decS_inj i1, decS_inj i2, decS_inj i3, decS_inj i4, decS_inj i5]
    · exact absurd h (h' a b ri dn x y wy)
  · rcases h' with ⟨a', b', ri', dn', x', y', wy', h', rfl⟩ | ⟨h', rfl⟩
    · exact absurd h' (h a' b' ri' dn' x' y' wy')
    · rfl
theorem four {α : Type} {l : List α} (h : l.length = 4) : ∃ a b c d, l = [a, b, c, d] := by
  match l, h with
  | [a, b, c, d], _ => exact ⟨a, b, c, d, rfl⟩
theorem three {α : Type} {l : List α} (h : l.length = 3) : ∃ a b c, l = [a, b, c] := by
  match l, h with
  | [a, b, c], _ => exact ⟨a, b, c, rfl⟩
theorem two {α : Type} {l : List α} (h : l.length = 2) : ∃ a b, l = [a, b] := by
  match l, h with
  | [a, b], _ => exact ⟨a, b, rfl⟩
theorem len_ne {n m : Nat} (h : n ≠ m) : ((n : Int) != (m : Int)) = true := by rw [bne_iff_ne]; omega
theorem impl_ev (s : ByteArray) (hs : s.size ≤ 1048576) : ∃ r, Ev (fun k => impl_ParseWorm k s) r ∧ Ans s r := by
  have hsp : Ev (fun k => strings_Split k (s, bs [58])) (splitS 58 s) := Ev.step (fun k => (strings_Split.eq k (s, bs [58])).trans (strSplit_pieces s 58 (by omega))) (Ev.now _)
  by_cases h4 : (splitS 58 s).length = 4
  rotate_left
  · refine ⟨(zero, false), Ev.step (fun k => impl_ParseWorm.eq k s) (Ev.bind hsp (Ev.yes (len_ne h4) (Ev.now _))), .inr ⟨fun a b ri dn x y wy h => ?_, rfl⟩⟩
    obtain ⟨p, q, e1, _⟩ := h.all
    rw [e1] at h4
    exact h4 rfl
  have hpc := splitS_piece 58 s
  obtain ⟨p, ri, dn, q, e⟩ := four h4
  rw [e] at hsp hpc
  have hp := hpc p (by simp)
  have hq := hpc q (by simp)
  have hri := hpc ri (by simp)
  have hdn := hpc dn (by simp)
  have n1 := numbers_ev p 120 2 6 (by omega) (by omega) (by omega)
  have n2 := numbers_ev q 44 3 6 (by omega) (by omega) (by omega)
  have st : ∀ r (l1 l2 : List Int) (b1 b2 : Bool), l1.length = 2 → l2.length = 3 → Ev (fun k => impl_numbers k (p, bs [120], 2, 6)) (l1, b1) → Ev (fun k => impl_numbers k (q, bs [44], 3, 6)) (l2, b2) →
      Ev (fun k => cond (!b1) (some (zero, false)) (cond (!b2) (some (zero, false)) ((impl_IsWorm k ((l1.getD 0 default), (l1.getD 1 default), ri, dn, (l2.getD 0 default), (l2.getD 1 default), (l2.getD 2 default))).bind fun r4 => cond (!r4) (some (zero, false)) (some (((l1.getD 0 default), (l1.getD 1 default), ri, dn, (l2.getD 0 default), (l2.getD 1 default), (l2.getD 2 default)), true))))) r → Ev (fun k => impl_ParseWorm k s) r := fun r l1 l2 b1 b2 z1 z2 g1 g2 g => by
    refine Ev.step (fun k => impl_ParseWorm.eq k s) (Ev.bind hsp (Ev.no rfl (Ev.yes rfl (Ev.bind g1 (Ev.yes rfl (Ev.bind g2 ?_))))))
    obtain ⟨u1, u2, rfl⟩ := two z1
    obtain ⟨u3, u4, u5, rfl⟩ := three z2
    exact Ev.yes rfl (Ev.yes rfl (Ev.yes rfl (Ev.yes rfl (Ev.yes rfl (Ev.yes rfl (Ev.yes rfl g))))))
  rcases n1 with ⟨l1, g1, g2⟩ | ⟨g1, g2⟩
  rotate_left
  · have e2 : ∃ (l2 : List Int) (b2 : Bool), l2.length = 3 ∧ Ev (fun k => impl_numbers k (q, bs [44], 3, 6)) (l2, b2) := by
      rcases n2 with ⟨l2, g3, g4⟩ | ⟨g3, g4⟩
      · exact ⟨_, _, by rw [List.length_map]; exact g3.1, g4⟩
      · exact ⟨_, _, by simp, g4⟩
    obtain ⟨l2, b2, z2, g5⟩ := e2
    refine ⟨(zero, false), st _ _ l2 false b2 (by simp) z2 g2 g5 (Ev.yes rfl (Ev.now _)), .inr ⟨fun a b ri' dn' x y wy h => ?_, rfl⟩⟩
    obtain ⟨p', q', i1, i2, i3⟩ := h.all
    rw [e] at i1
    simp only [List.cons.injEq, and_true] at i1
    obtain ⟨rfl, rfl, rfl, rfl⟩ := i1
    obtain ⟨hw, hh, _⟩ := h.ok
    refine g1 [a, b] ⟨rfl, ?_, i2⟩
    intro n hn
    simp only [List.mem_cons, List.not_mem_nil, or_false] at hn
    omega
  rcases n2 with ⟨l2, g3, g4⟩ | ⟨g3, g4⟩
  rotate_left
  · refine ⟨(zero, false), st _ _ _ true false (by rw [List.length_map]; exact g1.1) (by simp) g2 g4 (Ev.no rfl (Ev.yes rfl (Ev.now _))), .inr ⟨fun a b ri' dn' x y wy h => ?_, rfl⟩⟩
    obtain ⟨p', q', i1, i2, i3⟩ := h.all
    rw [e] at i1
    simp only [List.cons.injEq, and_true] at i1
    obtain ⟨rfl, rfl, rfl, rfl⟩ := i1
    obtain ⟨hw, hh, _, _, hx, hy, hwy⟩ := h.ok
    refine g3 [x, y, wy] ⟨rfl, ?_, i3⟩
    intro n hn
    simp only [List.mem_cons, List.not_mem_nil, or_false] at hn
    omega
  obtain ⟨a, b, rfl⟩ := two g1.1
  obtain ⟨x, y, wy, rfl⟩ := three g3.1
  have W := isWorm_ev a b ri dn x y wy (by omega) (by omega)
  by_cases H : WormOk a b ri dn x y wy
  · exact ⟨_, st _ _ _ true true rfl rfl g2 g4 (Ev.no rfl (Ev.no rfl (Ev.bind (W.isT H) (Ev.no rfl (Ev.now _))))), .inl ⟨a, b, ri, dn, x, y, wy, ⟨⟨p, q, e, g1.2.2, g3.2.2⟩, H⟩, rfl⟩⟩
  · refine ⟨(zero, false), st _ _ _ true true rfl rfl g2 g4 (Ev.no rfl (Ev.no rfl (Ev.bind (W.isF H) (Ev.yes rfl (Ev.now _))))), .inr ⟨fun a' b' ri' dn' x' y' wy' h => H ?_, rfl⟩⟩
    obtain ⟨p', q', i1, i2, i3⟩ := h.all
    rw [e] at i1
    simp only [List.cons.injEq, and_true] at i1
    obtain ⟨rfl, rfl, rfl, rfl⟩ := i1
    have j2 := g1.2.2.symm.trans i2
    have j3 := g3.2.2.symm.trans i3
    simp only [List.map_cons, List.map_nil, List.cons.injEq, and_true] at j2 j3
    rw [decS_inj j2.1, decS_inj j2.2, decS_inj j3.1, decS_inj j3.2.1, decS_inj j3.2.2]
    exact h.ok
theorem isNum_of {s : ByteArray} {v : Int} (h : IsNum s v) (h0 : 0 ≤ v) : ∃ n : Nat, v = n ∧ s = decS n := by
  rcases h with ⟨n, _, h1, h2⟩ | ⟨_, h⟩
  · exact ⟨n, h2, h1⟩
  · omega
theorem isNum_dec {n : Nat} {v : Int} (hn : n ≤ 999999) (h : IsNum (decS n) v) : v = n := by
  rcases h with ⟨m, _, h1, h2⟩ | ⟨h, _⟩
  · rw [h2, decS_inj h1]
  · exact absurd rfl (h n hn)
theorem spec_ev (s : ByteArray) (hs : s.size ≤ 1048576) : ∃ r, Ev (fun k => spec_ParseWorm k s) r ∧ Ans s r := by
  have out : ∀ (w : Wm) (b : Bool), Ev (fun k => spec_wmParse k s) (w, b) → Ev (fun k => spec_ParseWorm k s) (cond b (w, true) (zero, false)) := fun w b h => by
    refine Ev.step (fun k => spec_ParseWorm.eq k s) (Ev.bind h ?_)
    cases b
    · exact Ev.yes rfl (Ev.now _)
    · exact Ev.no rfl (Ev.now _)
  have bad : ∀ w : Wm, (∀ (a b : Nat) (ri dn : ByteArray) (x y wy : Nat), ¬ Parts s a b ri dn x y wy) → Ev (fun k => spec_wmParse k s) (w, false) → ∃ r, Ev (fun k => spec_ParseWorm k s) r ∧ Ans s r := fun w h1 h2 => ⟨_, out w false h2, .inr ⟨h1, rfl⟩⟩
  have hsp := l1Split_ev s 58 hs
  by_cases hbig : (s.size : Int) > 100
  · refine bad zero (fun a b ri dn x y wy h => ?_) (Ev.step (fun k => spec_wmParse.eq k s) (Ev.bind hsp (Ev.yes (decide_eq_true hbig) (Ev.now _))))
    have e := congrArg ByteArray.size (text_eq s a b ri dn x y wy h)
    have hz := wm_size a b ri dn x y wy h.ok
    obtain ⟨hw, hh, _, _, hx, hy, hwy⟩ := h.ok
    have z1 : (bs [120]).size = 1 := rfl
    have z2 : (bs [58]).size = 1 := rfl
    have z3 : (bs [44]).size = 1 := rfl
    simp only [ByteArray.size_append, one_dec (n := a) (by omega), one_dec (n := b) (by omega), one_dec (n := x) (by omega), one_dec (n := y) (by omega), one_dec (n := wy) (by omega), z1, z2, z3] at e
    omega
  have st0 : ∀ r, Ev (fun k => cond (((splitS 58 s).length : Int) != 4) (some (zero, false)) _) r → Ev (fun k => spec_wmParse k s) r := fun r h => Ev.step (fun k => spec_wmParse.eq k s) (Ev.bind hsp (Ev.no (decide_eq_false hbig) h))
  by_cases h4 : (splitS 58 s).length = 4
  rotate_left
  · refine bad zero (fun a b ri dn x y wy h => ?_) (st0 _ (Ev.yes (len_ne h4) (Ev.now _)))
    obtain ⟨p, q, e1, _⟩ := h.all
    rw [e1] at h4
    exact h4 rfl
  have hpc := splitS_piece 58 s
  obtain ⟨p, ri, dn, q, e⟩ := four h4
  rw [e] at st0 hpc
  have hp := hpc p (by simp)
  have hq := hpc q (by simp)
  have hri := hpc ri (by simp)
  have hdn := hpc dn (by simp)
  have fall : ∀ {a b : Nat} {ri' dn' : ByteArray} {x y wy : Nat}, Parts s a b ri' dn' x y wy → splitS 120 p = [decS a, decS b] ∧ ri' = ri ∧ dn' = dn ∧ splitS 44 q = [decS x, decS y, decS wy] := fun {a b ri' dn' x y wy} h => by
    obtain ⟨p', q', i1, i2, i3⟩ := h.all
    rw [e] at i1
    simp only [List.cons.injEq, and_true] at i1
    obtain ⟨rfl, rfl, rfl, rfl⟩ := i1
    exact ⟨i2, rfl, rfl, i3⟩
  have s1 := l1Split_ev p 120 (by omega)
  have s2 := l1Split_ev q 44 (by omega)
  have c1 := splitS_piece 120 p
  have c2 := splitS_piece 44 q
  have st1 : ∀ r, Ev (fun k => cond (((splitS 120 p).length : Int) != 2) (some (zero, false)) _) r → Ev (fun k => spec_wmParse k s) r := fun r h => st0 r (Ev.no rfl (Ev.yes rfl (Ev.bind s1 (Ev.yes rfl (Ev.bind s2 h)))))
  by_cases h2 : (splitS 120 p).length = 2
  rotate_left
  · refine bad zero (fun a b ri dn x y wy h => ?_) (st1 _ (Ev.yes (len_ne h2) (Ev.now _)))
    rw [(fall h).1] at h2
    exact h2 rfl
  by_cases h3 : (splitS 44 q).length = 3
  rotate_left
  · refine bad zero (fun a b ri dn x y wy h => ?_) (st1 _ (Ev.no (by rw [h2]; rfl) (Ev.yes (len_ne h3) (Ev.now _))))
    rw [(fall h).2.2.2] at h3
    exact h3 rfl
  obtain ⟨u1, u2, e2⟩ := two h2
  obtain ⟨u3, u4, u5, e3⟩ := three h3
  rw [e2] at st1 c1
  rw [e3] at st1 c2
  obtain ⟨v1, r1, i1⟩ := l1Read_ev u1 (by have := c1 u1 (by simp); omega)
  obtain ⟨v2, r2, i2⟩ := l1Read_ev u2 (by have := c1 u2 (by simp); omega)
  obtain ⟨v3, r3, i3⟩ := l1Read_ev u3 (by have := c2 u3 (by simp); omega)
  obtain ⟨v4, r4, i4⟩ := l1Read_ev u4 (by have := c2 u4 (by simp); omega)
  obtain ⟨v5, r5, i5⟩ := l1Read_ev u5 (by have := c2 u5 (by simp); omega)
  have st2 : ∀ r, Ev (fun k => (spec_wmGood k (v1, v2, ri, dn, v3, v4, v5)).bind fun r9 => cond r9 ((spec_wmText k (v1, v2, ri, dn, v3, v4, v5)).bind fun r10 => some ((v1, v2, ri, dn, v3, v4, v5), strEq r10 s)) (some ((v1, v2, ri, dn, v3, v4, v5), false))) r → Ev (fun k => spec_wmParse k s) r := fun r h =>
    st1 r (Ev.no rfl (Ev.no rfl (Ev.yes rfl (Ev.bind r1 (Ev.yes rfl (Ev.bind r2 (Ev.yes rfl (Ev.yes rfl (Ev.yes rfl (Ev.bind r3 (Ev.yes rfl (Ev.bind r4 (Ev.yes rfl (Ev.bind r5 h))))))))))))))
  have G := wmGood_ev v1 v2 ri dn v3 v4 v5 (by omega) (by omega)
  by_cases H : WormOk v1 v2 ri dn v3 v4 v5
  · obtain ⟨hw, hh, _, _, hx, hy, hwy⟩ := id H
    obtain ⟨a, rfl, ja⟩ := isNum_of i1 (by omega)
    obtain ⟨b, rfl, jb⟩ := isNum_of i2 (by omega)
    obtain ⟨x, rfl, jx⟩ := isNum_of i3 (by omega)
    obtain ⟨y, rfl, jy⟩ := isNum_of i4 (by omega)
    obtain ⟨wy, rfl, jw⟩ := isNum_of i5 (by omega)
    have P : Parts s a b ri dn x y wy := ⟨⟨p, q, e, by rw [e2, ja, jb], by rw [e3, jx, jy, jw]⟩, H⟩
    have T := text_ev a b ri dn x y wy H
    rw [← text_eq s a b ri dn x y wy P] at T
    exact ⟨_, out _ true (st2 _ (Ev.bind (G.isT H) (Ev.bind T (Ev.now' (by rw [strEq_self]))))), .inl ⟨a, b, ri, dn, x, y, wy, P, rfl⟩⟩
  · refine bad _ (fun a b ri' dn' x y wy h => H ?_) (st2 _ (Ev.bind (G.isF H) (Ev.now _)))
    obtain ⟨k1, rfl, rfl, k2⟩ := fall h
    rw [e2] at k1
    rw [e3] at k2
    simp only [List.cons.injEq, and_true] at k1 k2
    obtain ⟨rfl, rfl⟩ := k1
    obtain ⟨rfl, rfl, rfl⟩ := k2
    obtain ⟨hw, hh, _, _, hx, hy, hwy⟩ := id h.ok
    rw [isNum_dec (by omega) i1, isNum_dec (by omega) i2, isNum_dec (by omega) i3, isNum_dec (by omega) i4, isNum_dec (by omega) i5]
    exact h.ok
def textN (a b : Nat) (ri dn : ByteArray) (x y wy : Nat) : ByteArray := joinB [joinB [decS a, decS b] (bs [120]), ri, dn, joinB [decS x, decS y, decS wy] (bs [44])] (bs [58])
theorem joinB_mem {l : List ByteArray} {sep : ByteArray} {c : UInt8} (h : c ∈ (joinB l sep).data.toList) : c ∈ sep.data.toList ∨ ∃ x ∈ l, c ∈ x.data.toList := by
  have tl : ∀ l : List ByteArray, c ∈ Lib.joinTail sep.data.toList (l.map (·.data.toList)) → c ∈ sep.data.toList ∨ ∃ x ∈ l, c ∈ x.data.toList := by
    intro l h
    unfold Lib.joinTail at h
    obtain ⟨L, hL, hc⟩ := List.mem_flatten.1 h
    obtain ⟨y, hy, rfl⟩ := List.mem_map.1 hL
    obtain ⟨x, hx, rfl⟩ := List.mem_map.1 hy
    rcases List.mem_append.1 hc with h | h
    · exact .inl h
    · exact .inr ⟨x, hx, h⟩
  cases l with
  | nil => exact absurd h List.not_mem_nil
  | cons a r =>
    have h : c ∈ Lib.join (List.map (·.data.toList) (a :: r)) sep.data.toList := h
    rw [List.map_cons, Lib.join_cons, List.mem_append] at h
    rcases h with h | h
    · exact .inr ⟨a, List.mem_cons.2 (.inl rfl), h⟩
    · rcases tl r h with h | ⟨x, hx, h⟩
      · exact .inl h
      · exact .inr ⟨x, List.mem_cons.2 (.inr hx), h⟩
theorem text_parts {a b : Nat} {ri dn : ByteArray} {x y wy : Nat} (h : WormOk a b ri dn x y wy) : Parts (textN a b ri dn x y wy) a b ri dn x y wy := by
  have f58 : ∀ n : Nat, (58 : UInt8) ∉ (decS n).data.toList := fun n => dec_free n 58 (by decide)
  have f120 : ∀ n : Nat, (120 : UInt8) ∉ (decS n).data.toList := fun n => dec_free n 120 (by decide)
  have f44 : ∀ n : Nat, (44 : UInt8) ∉ (decS n).data.toList := fun n => dec_free n 44 (by decide)
  have cells : ∀ s : ByteArray, CellsOk 2 s → (58 : UInt8) ∉ s.data.toList := fun s hs hc => by
    have := hs 58 hc
    exact absurd this.2 (by decide)
  refine ⟨⟨joinB [decS a, decS b] (bs [120]), joinB [decS x, decS y, decS wy] (bs [44]), ?_, ?_, ?_⟩, h⟩
  · refine splitS_joined 58 _ (by simp) fun z hz hc => ?_
    simp only [List.mem_cons, List.not_mem_nil, or_false] at hz
    rcases hz with rfl | rfl | rfl | rfl
    · rcases joinB_mem hc with h | ⟨z, hz, h⟩
      · simp [bs] at h
      · simp only [List.mem_cons, List.not_mem_nil, or_false] at hz
        rcases hz with rfl | rfl <;> exact f58 _ h
    · exact cells _ h.2.2.2.1.1 hc
    · exact cells _ h.2.2.2.1.2 hc
    · rcases joinB_mem hc with h | ⟨z, hz, h⟩
      · simp [bs] at h
      · simp only [List.mem_cons, List.not_mem_nil, or_false] at hz
        rcases hz with rfl | rfl | rfl <;> exact f58 _ h
  · refine splitS_joined 120 _ (by simp) fun z hz hc => ?_
    simp only [List.mem_cons, List.not_mem_nil, or_false] at hz
    rcases hz with rfl | rfl <;> exact f120 _ hc
  · refine splitS_joined 44 _ (by simp) fun z hz hc => ?_
    simp only [List.mem_cons, List.not_mem_nil, or_false] at hz
    rcases hz with rfl | rfl | rfl <;> exact f44 _ hc
theorem wormText_nat {a b : Nat} {ri dn : ByteArray} {x y wy : Nat} (h : WormOk a b ri dn x y wy) (hr : ri.size ≤ 1048576) (hd : dn.size ≤ 1048576) :
    Ev (fun k => impl_WormText k ((a : Int), (b : Int), ri, dn, (x : Int), (y : Int), (wy : Int))) (textN a b ri dn x y wy, true) ∧ Ev (fun k => spec_WormText k ((a : Int), (b : Int), ri, dn, (x : Int), (y : Int), (wy : Int))) (textN a b ri dn x y wy, true) := by
  have a1 := isWorm_ev a b ri dn x y wy hr hd
  have a2 := wmGood_ev a b ri dn x y wy hr hd
  have tx := text_ev a b ri dn x y wy h
  rw [← text_eq _ a b ri dn x y wy (text_parts h)] at tx
  have hz := wm_size a b ri dn x y wy h
  obtain ⟨hw, hh, ⟨hri, hdn⟩, _, hx, hy, hwy⟩ := id h
  have t1 := listText_ev (bs [120]) [(a : Int), (b : Int)] (by simp) (by decide) (by intro n hn; simp at hn; omega)
  have t2 := listText_ev (bs [44]) [(x : Int), (y : Int), (wy : Int)] (by simp) (by decide) (by intro n hn; simp at hn; omega)
  have e1 : ([(a : Int), (b : Int)].map fun n => decS n.toNat) = [decS a, decS b] := rfl
  have e2 : ([(x : Int), (y : Int), (wy : Int)].map fun n => decS n.toNat) = [decS x, decS y, decS wy] := rfl
  rw [e1] at t1
  rw [e2] at t2
  have j1 : (joinB [decS a, decS b] (bs [120])).size ≤ 100 := by
    refine Nat.le_trans (joinB_size _ 11 _ fun z hz => ?_) (by simp)
    have z1 : (bs [120]).size = 1 := rfl
    simp only [List.mem_cons, List.not_mem_nil, or_false] at hz
    rcases hz with rfl | rfl <;> (rw [one_dec (by omega)]; omega)
  have j2 : (joinB [decS x, decS y, decS wy] (bs [44])).size ≤ 100 := by
    refine Nat.le_trans (joinB_size _ 11 _ fun z hz => ?_) (by simp)
    have z1 : (bs [44]).size = 1 := rfl
    simp only [List.mem_cons, List.not_mem_nil, or_false] at hz
    rcases hz with rfl | rfl | rfl <;> (rw [one_dec (by omega)]; omega)
  have j3 := join_ev [joinB [decS a, decS b] (bs [120]), ri, dn, joinB [decS x, decS y, decS wy] (bs [44])] (bs [58]) (by simp) (Nat.le_trans (joinB_size _ 1000 _ fun z hz => by
    have z1 : (bs [58]).size = 1 := rfl
    simp only [List.mem_cons, List.not_mem_nil, or_false] at hz
    rcases hz with rfl | rfl | rfl | rfl <;> omega) (by simp))
  refine ⟨Ev.step (fun k => impl_WormText.eq k a b ri dn x y wy) (Ev.bind (a1.isT h) (Ev.no rfl (Ev.bind t1 (Ev.bind t2 (Ev.bind j3 (Ev.now _)))))), Ev.step (fun k => spec_WormText.eq k a b ri dn x y wy) (Ev.bind (a2.isT h) (Ev.no rfl (Ev.bind tx (Ev.now _))))⟩
theorem wormText_both (W : WT) (hr : W.2.2.1.size ≤ 1048576) (hd : W.2.2.2.1.size ≤ 1048576) : ∃ r, Ev (fun k => impl_WormText k W) r ∧ Ev (fun k => spec_WormText k W) r ∧ (¬ OkW W → r = (ByteArray.empty, false)) ∧ (OkW W → r.2 = true ∧ r.1.size ≤ 1048576 ∧ Ev (fun k => impl_ParseWorm k r.1) (W, true)) := by
  by_cases H : OkW W
  rotate_left
  · have b1 := isWorm_ev W.1 W.2.1 W.2.2.1 W.2.2.2.1 W.2.2.2.2.1 W.2.2.2.2.2.1 W.2.2.2.2.2.2 hr hd
    have b2 := wmGood_ev W.1 W.2.1 W.2.2.1 W.2.2.2.1 W.2.2.2.2.1 W.2.2.2.2.2.1 W.2.2.2.2.2.2 hr hd
    obtain ⟨w, h, ri, dn, X, Y, wy⟩ := W
    exact ⟨(ByteArray.empty, false), Ev.step (fun k => impl_WormText.eq k w h ri dn X Y wy) (Ev.bind (b1.isF H) (Ev.yes rfl (Ev.now _))), Ev.step (fun k => spec_WormText.eq k w h ri dn X Y wy) (Ev.bind (b2.isF H) (Ev.yes rfl (Ev.now _))), fun _ => rfl, fun h => absurd h H⟩
  obtain ⟨w, h, ri, dn, X, Y, wy⟩ := W
  obtain ⟨hw, hh, ⟨hri, hdn⟩, _, hx, hy, hwy⟩ : WormOk w h ri dn X Y wy := id H
  obtain ⟨a, rfl⟩ := Int.eq_ofNat_of_zero_le (show 0 ≤ w by omega)
  obtain ⟨b, rfl⟩ := Int.eq_ofNat_of_zero_le (show 0 ≤ h by omega)
  obtain ⟨x, rfl⟩ := Int.eq_ofNat_of_zero_le hx.1
  obtain ⟨y, rfl⟩ := Int.eq_ofNat_of_zero_le hy.1
  obtain ⟨v, rfl⟩ := Int.eq_ofNat_of_zero_le hwy.1
  have HW : WormOk a b ri dn x y v := H
  obtain ⟨t1, t2⟩ := wormText_nat HW hr hd
  have P := text_parts HW
  have hz := wm_size a b ri dn x y v HW
  have hsz : (textN a b ri dn x y v).size ≤ 1048576 := by
    rw [text_eq _ a b ri dn x y v P]
    have za := one_dec (n := a) (by omega)
    have zb := one_dec (n := b) (by omega)
    have zx := one_dec (n := x) (by omega)
    have zy := one_dec (n := y) (by omega)
    have zw := one_dec (n := v) (by omega)
    have z1 : (bs [120]).size = 1 := rfl
    have z2 : (bs [58]).size = 1 := rfl
    have z3 : (bs [44]).size = 1 := rfl
    simp only [ByteArray.size_append]
    omega
  obtain ⟨r, e, A⟩ := impl_ev _ hsz
  have er : r = (((a : Int), (b : Int), ri, dn, (x : Int), (y : Int), (v : Int)), true) := A.one (.inl ⟨a, b, ri, dn, x, y, v, P, rfl⟩)
  exact ⟨_, t1, t2, fun h => absurd H h, fun _ => ⟨rfl, hsz, er ▸ e⟩⟩
theorem parse_both (s : ByteArray) (hs : s.size ≤ 1048576) : ∃ r : WT × Bool, Ev (fun k => impl_ParseWorm k s) r ∧ Ev (fun k => spec_ParseWorm k s) r ∧ (r.2 = true → Ev (fun k => impl_WormText k r.1) (s, true)) := by
  obtain ⟨r, e, A⟩ := impl_ev s hs
  obtain ⟨r', e', A'⟩ := spec_ev s hs
  obtain rfl := A.one A'
  refine ⟨r, e, e', fun hr => ?_⟩
  rcases A with ⟨a, b, ri, dn, x, y, wy, P, rfl⟩ | ⟨_, rfl⟩
  · have hz := wm_size a b ri dn x y wy P.ok
    have q := (wormText_nat P.ok (by omega) (by omega)).1
    have e : textN a b ri dn x y wy = s := by rw [text_eq _ a b ri dn x y wy (text_parts P.ok), ← text_eq _ a b ri dn x y wy P]
    rw [e] at q
    exact q
  · exact Bool.noConfusion hr
theorem wmText_ok {W : WT} (H : OkW W) : ∃ s, Ev (fun k => spec_wmText k W) s ∧ s.size ≤ 1000 := by
  obtain ⟨w, h, ri, dn, X, Y, wy⟩ := W
  obtain ⟨hw, hh, ⟨hri, hdn⟩, _, hx, hy, hwy⟩ : WormOk w h ri dn X Y wy := id H
  obtain ⟨a, rfl⟩ := Int.eq_ofNat_of_zero_le (show 0 ≤ w by omega)
  obtain ⟨b, rfl⟩ := Int.eq_ofNat_of_zero_le (show 0 ≤ h by omega)
  obtain ⟨x, rfl⟩ := Int.eq_ofNat_of_zero_le hx.1
  obtain ⟨y, rfl⟩ := Int.eq_ofNat_of_zero_le hy.1
  obtain ⟨v, rfl⟩ := Int.eq_ofNat_of_zero_le hwy.1
  have HW : WormOk a b ri dn x y v := H
  have hz := wm_size a b ri dn x y v HW
  refine ⟨_, text_ev a b ri dn x y v HW, ?_⟩
  have za := one_dec (n := a) (by omega)
  have zb := one_dec (n := b) (by omega)
  have zx := one_dec (n := x) (by omega)
  have zy := one_dec (n := y) (by omega)
  have zw := one_dec (n := v) (by omega)
  have z1 : (bs [120]).size = 1 := rfl
  have z2 : (bs [58]).size = 1 := rfl
  have z3 : (bs [44]).size = 1 := rfl
  simp only [ByteArray.size_append]
  omega
theorem drawParse_ev (code : List Int) (hc : ∀ x ∈ code, 0 ≤ x ∧ x ≤ 255) : ∃ s, Ev (fun k => spec_DrawParseWorm k code) s ∧ s.size ≤ 2000 := by
  obtain ⟨W, c1, e1, _, H1, HW⟩ := sureWorm_ev 0 (code, 0, 0) (CurOk.start hc) (by omega)
  obtain ⟨t, et, zt⟩ := wmText_ok HW
  obtain ⟨b, c2, e2, H2⟩ := one_ev _ c1 H1 (by omega) 3
  have h7 : (bs [48, 49, 50, 51, 120, 58, 44]).size = 7 := rfl
  obtain ⟨u, c3, e3, zu, _⟩ := spoilt_ev _ c2 t (bs [48, 49, 50, 51, 120, 58, 44]) H2 (by omega) (by omega) (by rw [h7]; omega)
  cases b with
  | true => exact ⟨u, Ev.step (fun k => spec_DrawParseWorm.eq k code) (Ev.bind e1 (Ev.bind et (Ev.bind e2 (Ev.yes rfl (Ev.bind e3 (Ev.now _)))))), by omega⟩
  | false => exact ⟨t, Ev.step (fun k => spec_DrawParseWorm.eq k code) (Ev.bind e1 (Ev.bind et (Ev.bind e2 (Ev.no rfl (Ev.now _))))), by omega⟩
end Go.Proofs.YtplamonjnlgomaaGreatDoorS.WmP
