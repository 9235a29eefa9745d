/- The plain law FnTablesNamed. -/
import Derived.Test.YtcmebphcoamohaaGreatDoorOk
import Derived.Test.YtcmebphcoamohaaGreatDoorMgTq
namespace Go.Proofs.YtcmebphcoamohaaGreatDoor.fnTablesNamed
open Go Go.Proofs Go.Proofs.YtcmebphcoamohaaGreatDoorS
set_option linter.unusedVariables false
set_option linter.unusedSimpArgs false
set_option maxRecDepth 100000
theorem sameB (b : Bool) : (!(b == b)) = false := by cases b <;> rfl
theorem sameS (s : ByteArray) : (!(strEq s s)) = false := by rw [strEq_self]; rfl
theorem sameR (x : Rw) : (!((x.1 == x.1) && ((x.2.1 == x.2.1) && ((x.2.2 == x.2.2) && true)))) = false := by simp [ba_beq]
/-! ### Stages, the last one first -/
theorem st7 (s : ByteArray) (read : TaT) (nt : Bool) (h : nt = true → Ev (fun k => impl_TableText k read) (s, true)) : Ev (fun k => laws_FnTablesNamed_c_c_c_c_c_c_c k (s, read, nt)) true := by
  obtain ⟨a, b, c⟩ := read
  cases nt with
  | false => exact Ev.step (fun k => laws_FnTablesNamed_c_c_c_c_c_c_c.eq k s a b c false) (Ev.no rfl (Ev.now _))
  | true => exact Ev.step (fun k => laws_FnTablesNamed_c_c_c_c_c_c_c.eq k s a b c true) (Ev.yes rfl (Ev.bind (h rfl) (Ev.yes rfl (Ev.now' (strEq_self _)))))
theorem st6 (count : Int) (ff : Bool) (undoable : Int) (s : ByteArray) (read : TaT) (nt : Bool) (h6 : ff = true → 1 ≤ undoable ∧ undoable ≤ count) (h7 : nt = true → Ev (fun k => impl_TableText k read) (s, true)) : Ev (fun k => laws_FnTablesNamed_c_c_c_c_c_c k (count, ff, undoable, s, read, nt)) true := by
  have s7 := st7 s read nt h7
  obtain ⟨a, b, c⟩ := read
  cases ff with
  | false => exact Ev.step (fun k => laws_FnTablesNamed_c_c_c_c_c_c.eq k count false undoable s a b c nt) (Ev.no rfl (Ev.bind s7 (Ev.now _)))
  | true =>
    have h6 := h6 rfl
    exact Ev.step (fun k => laws_FnTablesNamed_c_c_c_c_c_c.eq k count true undoable s a b c nt) (Ev.yes rfl (Ev.no (decide_eq_false (by omega)) (Ev.no (decide_eq_false (by omega)) (Ev.bind s7 (Ev.now _)))))
theorem st5 (e : ScT) (el : Bool) (count : Int) (ff : Bool) (undoable : Int) (s : ByteArray) (read : TaT) (nt : Bool) (h5 : el = true → Ev (fun k => impl_IsScene k e) true ∧ Ev (fun k => laws_dCount k (e.2.2.2.2.2.1, 48)) 0) (h6 : ff = true → 1 ≤ undoable ∧ undoable ≤ count) (h7 : nt = true → Ev (fun k => impl_TableText k read) (s, true)) :
    Ev (fun k => laws_FnTablesNamed_c_c_c_c_c k (e, el, count, ff, undoable, s, read, nt)) true := by
  have s6 := st6 count ff undoable s read nt h6 h7
  obtain ⟨a, b, c⟩ := read
  obtain ⟨e1, e2, e3, e4, e5, e6, e7, e8, e9, e10⟩ := e
  cases el with
  | false => exact Ev.step (fun k => laws_FnTablesNamed_c_c_c_c_c.eq k e1 e2 e3 e4 e5 e6 e7 e8 e9 e10 false count ff undoable s a b c nt) (Ev.no rfl (Ev.bind s6 (Ev.now _)))
  | true =>
    obtain ⟨q1, q2⟩ := h5 rfl
    exact Ev.step (fun k => laws_FnTablesNamed_c_c_c_c_c.eq k e1 e2 e3 e4 e5 e6 e7 e8 e9 e10 true count ff undoable s a b c nt) (Ev.yes rfl (Ev.bind q1 (Ev.no rfl (Ev.bind q2 (Ev.no rfl (Ev.bind s6 (Ev.now _)))))))
section
variable (m : TaT) (states : List Int) (e : ScT) (el : Bool) (count : Int) (ff : Bool) (undoable : Int) (s : ByteArray) (read : TaT) (nt : Bool)
variable (hm : TabOk m.1 m.2.1 m.2.2) (hl : m.2.2.length ≤ 1048576) (hr : RchA m states) (hs : states.length ≤ 1000)
include hm hl hr hs
theorem inner (x : Int) (hx : x ∈ states) (i : Int) : ∀ (n c : Nat), ((c + n : Nat) : Int) = m.2.1 → Ev (fun k => laws_FnTablesNamed_c_c_c_c_l_l k (m, states, e, el, count, ff, undoable, s, read, nt, x, (c : Int), (), (states.length : Int), i)) (.inr (m, states, e, el, count, ff, undoable, s, read, nt, (), (states.length : Int), i)) := by
  obtain ⟨hxr, hxc⟩ := hr.2.2.2 x hx
  have h4 := hm.2.1
  intro n
  induction n with
  | zero =>
    intro c hc
    obtain ⟨m1, m2, m3⟩ := m
    obtain ⟨a, b, d⟩ := read
    obtain ⟨e1, e2, e3, e4, e5, e6, e7, e8, e9, e10⟩ := e
    exact Ev.step (fun k => laws_FnTablesNamed_c_c_c_c_l_l.eq k m1 m2 m3 states e1 e2 e3 e4 e5 e6 e7 e8 e9 e10 el count ff undoable s a b d nt x c _ i) (Ev.no (decide_eq_false (by simp only at hc; omega)) (Ev.now _))
  | succ n ih =>
    intro c hc
    have ih := ih (c + 1) (by omega)
    obtain ⟨r, q1, _, q2⟩ := rowOf_both m x (c : Int) hl
    obtain rfl := q2 hm hxr (by omega)
    have hh := (dHas_ev states (by omega) _).isT (hxc (c : Int) (by omega))
    obtain ⟨m1, m2, m3⟩ := m
    obtain ⟨a, b, d⟩ := read
    obtain ⟨e1, e2, e3, e4, e5, e6, e7, e8, e9, e10⟩ := e
    refine Ev.step (fun k => laws_FnTablesNamed_c_c_c_c_l_l.eq k m1 m2 m3 states e1 e2 e3 e4 e5 e6 e7 e8 e9 e10 el count ff undoable s a b d nt x c _ i) (Ev.yes (decide_eq_true (by simp only at hc; omega)) (Ev.bind q1 (Ev.no rfl (Ev.bind hh (Ev.bind (Ev.step (fun k => laws_FnTablesNamed_c_c_c_c_l_l_c.eq k m1 m2 m3 states e1 e2 e3 e4 e5 e6 e7 e8 e9 e10 el count ff undoable s a b d nt x c _ i _) (Ev.no rfl (Ev.now _))) ?_)))))
    simp only [Sum.elim_inr, w64_succ (show c < 9223372036854775807 by simp only at h4 hc; omega)]
    exact ih
theorem outer : ∀ (n i : Nat), i + n = states.length → Ev (fun k => laws_FnTablesNamed_c_c_c_c_l k (m, states, e, el, count, ff, undoable, s, read, nt, (), (states.length : Int), (i : Int))) (.inr (e, el, count, ff, undoable, s, read, nt)) := by
  intro n
  induction n with
  | zero =>
    intro i hi
    obtain ⟨m1, m2, m3⟩ := m
    obtain ⟨a, b, d⟩ := read
    obtain ⟨e1, e2, e3, e4, e5, e6, e7, e8, e9, e10⟩ := e
    exact Ev.step (fun k => laws_FnTablesNamed_c_c_c_c_l.eq k m1 m2 m3 states e1 e2 e3 e4 e5 e6 e7 e8 e9 e10 el count ff undoable s a b d nt _ _) (Ev.no (not_lt_nat (by omega)) (Ev.now _))
  | succ n ih =>
    intro i hi
    have ih := ih (i + 1) (by omega)
    obtain ⟨x, hx⟩ := nat_list (l := states) (i := i) (by omega)
    have h4 := hm.2.1
    have q := inner m states e el count ff undoable s read nt hm hl hr hs x (List.mem_of_getElem? hx) (i : Int) m.2.1.toNat 0 (by omega)
    obtain ⟨m1, m2, m3⟩ := m
    obtain ⟨a, b, d⟩ := read
    obtain ⟨e1, e2, e3, e4, e5, e6, e7, e8, e9, e10⟩ := e
    refine Ev.step (fun k => laws_FnTablesNamed_c_c_c_c_l.eq k m1 m2 m3 states e1 e2 e3 e4 e5 e6 e7 e8 e9 e10 el count ff undoable s a b d nt _ _) (Ev.yes (lt_nat (by omega)) (Ev.yes (inB_nat (by omega)) ?_))
    rw [Int.toNat_natCast, getD_at hx]
    refine Ev.bind q ?_
    simp only [Sum.elim_inr, w64_succ (show i < 9223372036854775807 by omega)]
    exact ih
end
theorem st4 (m mirror : TaT) (three : Bool) (states : List Int) (text : ByteArray) (e : ScT) (el : Bool) (count : Int) (ff : Bool) (undoable : Int) (s : ByteArray) (read : TaT) (nt : Bool) (hl : m.2.2.length ≤ 1048576)
    (h4 : three = true → TabOk m.1 m.2.1 m.2.2 ∧ RchA m states ∧ states.length ≤ 1000 ∧ Ev (fun k => impl_MirrorTable k mirror) (m, true) ∧ Ev (fun k => impl_ParseTable k text) (m, true))
    (h5 : el = true → Ev (fun k => impl_IsScene k e) true ∧ Ev (fun k => laws_dCount k (e.2.2.2.2.2.1, 48)) 0) (h6 : ff = true → 1 ≤ undoable ∧ undoable ≤ count) (h7 : nt = true → Ev (fun k => impl_TableText k read) (s, true)) :
    Ev (fun k => laws_FnTablesNamed_c_c_c_c k (m, mirror, three, states, text, e, el, count, ff, undoable, s, read, nt)) true := by
  have s5 := st5 e el count ff undoable s read nt h5 h6 h7
  cases three with
  | false =>
    obtain ⟨m1, m2, m3⟩ := m
    obtain ⟨n1, n2, n3⟩ := mirror
    obtain ⟨a, b, d⟩ := read
    obtain ⟨e1, e2, e3, e4, e5, e6, e7, e8, e9, e10⟩ := e
    exact Ev.step (fun k => laws_FnTablesNamed_c_c_c_c.eq k m1 m2 m3 n1 n2 n3 false states text e1 e2 e3 e4 e5 e6 e7 e8 e9 e10 el count ff undoable s a b d nt) (Ev.no rfl (Ev.bind s5 (Ev.now _)))
  | true =>
    obtain ⟨hm, hr, hs, q1, q2⟩ := h4 rfl
    have lp := outer m states e el count ff undoable s read nt hm hl hr hs states.length 0 (by omega)
    obtain ⟨r1, r2, r3, _⟩ := hr
    have dT := dTable_ev m.1 m.2.1 m.2.2 hl
    obtain ⟨m1, m2, m3⟩ := m
    obtain ⟨n1, n2, n3⟩ := mirror
    obtain ⟨a, b, d⟩ := read
    obtain ⟨e1, e2, e3, e4, e5, e6, e7, e8, e9, e10⟩ := e
    refine Ev.step (fun k => laws_FnTablesNamed_c_c_c_c.eq k m1 m2 m3 n1 n2 n3 true states text e1 e2 e3 e4 e5 e6 e7 e8 e9 e10 el count ff undoable s a b d nt) (Ev.yes rfl (Ev.bind q1 (Ev.bind q2 (Ev.no rfl (Ev.bind dT (Ev.no rfl (Ev.no rfl (Ev.bind dT (Ev.no rfl (Ev.no (decide_eq_false (by omega)) (Ev.yes (inB_of (by omega) (by omega)) (Ev.no ?_ (Ev.no (decide_eq_false (by simp only at r3; omega)) (Ev.bind lp ?_))))))))))))))
    · rw [getD_at r2]; rfl
    · exact Ev.bind s5 (Ev.now _)
theorem st3 (more : List Int) (hc : ∀ x ∈ more, 0 ≤ x ∧ x ≤ 255) : Ev (fun k => laws_FnTablesNamed_c_c_c k more) true := by
  obtain ⟨m, d1, sm, _⟩ := drawTable_ev more hc
  obtain ⟨t2, w, h, d2, s2, _⟩ := drawEmpty_ev more hc
  obtain ⟨t3, st, ti, d3, s3, _⟩ := drawRow_ev more hc
  obtain ⟨p, q, d4, hp, hq⟩ := drawCount_ev more hc
  obtain ⟨s, d5, s5⟩ := drawParse_ev more hc
  have hl : m.2.2.length ≤ 1048576 := by omega
  obtain ⟨r1, a1, b1, A1⟩ := mirror_both m hl
  obtain ⟨r2, a2, b2, z2, A2⟩ := reached_both m hl
  obtain ⟨r3, a3, b3, A3⟩ := canUndo_both m hl
  obtain ⟨r4, a4, b4, A4⟩ := text_both m hl
  obtain ⟨r5, a5, b5, z5, A5⟩ := empty_both t2 w h (by omega)
  obtain ⟨r6, a6, b6, _⟩ := rowOf_both t3 st ti (by omega)
  obtain ⟨c, u, b, a7, b7, a8, b8, A7⟩ := count_ev hp hq
  obtain ⟨r9, a9, b9, z9, A9⟩ := parse_both s (by omega)
  have hiT := isTable_ev m.1 m.2.1 m.2.2 hl
  have hz1 : r1.1.2.2.length ≤ 1048576 := by
    rcases A1 with ⟨_, rfl⟩ | ⟨_, rfl⟩
    · show (m.2.2.map mirR).length ≤ _
      rw [List.length_map]
      exact hl
    · exact Nat.zero_le _
  have dT1 := dTable_ev r1.1.1 r1.1.2.1 r1.1.2.2 hz1
  have dT9 := dTable_ev r9.1.1 r9.1.2.1 r9.1.2.2 z9
  have dS := dSame_ev r2.1 (by omega)
  have dC : Ev (fun k => laws_dScene k (r5.1, r5.1)) true := dScene_ev r5.1.1 r5.1.2.1 r5.1.2.2.1 r5.1.2.2.2.1 r5.1.2.2.2.2.1 r5.1.2.2.2.2.2.1 r5.1.2.2.2.2.2.2.1 r5.1.2.2.2.2.2.2.2.1 r5.1.2.2.2.2.2.2.2.2.1 r5.1.2.2.2.2.2.2.2.2.2 z5
  have ev4 : Ev (fun k => laws_FnTablesNamed_c_c_c_c k (m, r1.1, r1.2, r2.1, r4.1, r5.1, r5.2, c, b, u, s, r9.1, r9.2)) true := st4 m r1.1 r1.2 r2.1 r4.1 r5.1 r5.2 c b u s r9.1 r9.2 hl (fun h => by
    rcases A1 with ⟨hT, rfl⟩ | ⟨_, rfl⟩
    · rcases A2 with ⟨_, _, hR⟩ | ⟨h', _⟩
      · rcases A4 with ⟨_, _, hP⟩ | ⟨h', _⟩
        · exact ⟨hT, hR, z2, mirror_twice m hl hT, hP⟩
        · exact absurd hT h'
      · exact absurd hT h'
    · exact Bool.noConfusion h) A5 A7 A9
  have go : ∀ t, Ev (fun k => impl_IsTable k m) t → r1.2 = t → r2.2 = r1.2 → r3.2 = r1.2 → r4.2 = r1.2 → Ev (fun k => laws_FnTablesNamed_c_c_c k more) true := fun t e1 e2 e3 e4 e5 => by
    exact Ev.step (fun k => laws_FnTablesNamed_c_c_c.eq k more) (Ev.bind d1 (Ev.bind a1 (Ev.bind b1 (Ev.bind a2 (Ev.bind b2 (Ev.bind a3 (Ev.bind b3 (Ev.bind a4 (Ev.bind b4 (Ev.bind d2 (Ev.bind a5 (Ev.bind b5 (Ev.bind d3 (Ev.bind a6 (Ev.bind b6 (Ev.bind d4 (Ev.bind a7 (Ev.bind b7 (Ev.bind a8 (Ev.bind b8 (Ev.bind d5 (Ev.bind a9 (Ev.bind b9
      (Ev.no (sameB _) (Ev.bind dT1 (Ev.no rfl (Ev.no (sameB _) (Ev.bind dS (Ev.no rfl (Ev.no (sameB _) (Ev.no (sameB _) (Ev.no (sameB _) (Ev.no (sameS _) (Ev.no (sameB _) (Ev.bind dC (Ev.no rfl (Ev.no (sameB _) (Ev.no (sameR _) (Ev.no (sameB _) (Ev.no (neq_self _) (Ev.no (sameB _) (Ev.no (neq_self _) (Ev.no (sameB _) (Ev.bind dT9 (Ev.no rfl
      (Ev.bind e1 (Ev.no (by rw [e2]; exact sameB _) (Ev.no (by rw [e3]; exact sameB _) (Ev.no (by rw [e4]; exact sameB _) (Ev.no (by rw [e5]; exact sameB _) (Ev.no (sameB _) (Ev.bind ev4 (Ev.now _)))))))))))))))))))))))))))))))))))))))))))))))))))))
  by_cases hT : TabOk m.1 m.2.1 m.2.2
  · have q1 : r1.2 = true := by
      rcases A1 with ⟨_, rfl⟩ | ⟨h, _⟩
      · rfl
      · exact absurd hT h
    have q2 : r2.2 = true := by
      rcases A2 with ⟨_, h, _⟩ | ⟨h, _⟩
      · exact h
      · exact absurd hT h
    have q3 : r3.2 = true := by
      rcases A3 with ⟨_, h, _⟩ | ⟨h, _⟩
      · exact h
      · exact absurd hT h
    have q4 : r4.2 = true := by
      rcases A4 with ⟨_, h, _⟩ | ⟨h, _⟩
      · exact h
      · exact absurd hT h
    exact go true (hiT.isT hT) q1 (q2.trans q1.symm) (q3.trans q1.symm) (q4.trans q1.symm)
  · have q1 : r1.2 = false := by
      rcases A1 with ⟨h, _⟩ | ⟨_, rfl⟩
      · exact absurd h hT
      · rfl
    have q2 : r2.2 = false := by
      rcases A2 with ⟨h, _⟩ | ⟨_, h⟩
      · exact absurd h hT
      · exact h
    have q3 : r3.2 = false := by
      rcases A3 with ⟨h, _⟩ | ⟨_, h⟩
      · exact absurd h hT
      · exact h
    have q4 : r4.2 = false := by
      rcases A4 with ⟨h, _⟩ | ⟨_, h⟩
      · exact absurd h hT
      · exact h
    exact go false (hiT.isF hT) q1 (q2.trans q1.symm) (q3.trans q1.symm) (q4.trans q1.symm)
/-! ### Names of old -/
theorem back_set {N : Nat} {o back : List Int} (hO : Ord N o) (hb : back.length = N) {i : Nat} (hi : i < N) (hv : ∀ j, j < i → back[fnO o j]? = some ((j : Nat) : Int)) :
    (back.set (fnO o i) ((i : Nat) : Int)).length = N ∧ ∀ j, j < i + 1 → (back.set (fnO o i) ((i : Nat) : Int))[fnO o j]? = some ((j : Nat) : Int) := by
  obtain ⟨hp, hg⟩ := ord_fn hO
  refine ⟨by rw [List.length_set]; exact hb, fun j hj => ?_⟩
  by_cases e : j = i
  · subst e
    rw [List.getElem?_set_self (by rw [hb]; exact hp.1 j hi)]
  · have : fnO o i ≠ fnO o j := fun e' => e (hp.2 _ _ hi (by omega) e').symm
    rw [List.getElem?_set_ne this]
    exact hv j (by omega)
theorem loopT (more : List Int) (u pn : TaT) {N : Nat} {o : List Int} (hO : Ord N o) (hN : N ≤ 1000) : ∀ (n i : Nat) (back : List Int), i + n = N → back.length = N → (∀ j, j < i → back[fnO o j]? = some ((j : Nat) : Int)) →
    ∃ back', Ev (fun k => laws_FnTablesNamed_c_c_l k (more, u, pn, back, o, (o.length : Int), (i : Int))) (more, u, pn, back') ∧ back'.length = N ∧ ∀ j, j < N → back'[fnO o j]? = some ((j : Nat) : Int) := by
  have hol : (o.length : Int) = N := hO.1
  obtain ⟨hp, hg⟩ := ord_fn hO
  obtain ⟨u1, u2, u3⟩ := u
  obtain ⟨p1, p2, p3⟩ := pn
  intro n
  induction n with
  | zero =>
    intro i back hi hb hv
    exact ⟨back, Ev.step (fun k => laws_FnTablesNamed_c_c_l.eq k more u1 u2 u3 p1 p2 p3 back o _ _) (Ev.no (not_lt_nat (by omega)) (Ev.now _)), hb, fun j hj => hv j (by omega)⟩
  | succ n ih =>
    intro i back hi hb hv
    obtain ⟨s1, s2⟩ := back_set hO hb (i := i) (by omega) hv
    obtain ⟨back', e, q⟩ := ih (i + 1) _ (by omega) s1 s2
    have hx := hg i (by omega)
    have hlt := hp.1 i (by omega)
    refine ⟨back', Ev.step (fun k => laws_FnTablesNamed_c_c_l.eq k more u1 u2 u3 p1 p2 p3 back o _ _) (Ev.yes (lt_nat (by omega)) (Ev.yes (inB_nat (by omega)) ?_)), q⟩
    rw [Int.toNat_natCast, getO hx, w64_succ (by omega)]
    exact Ev.yes (inB_nat (by omega)) e
theorem loopS (more : List Int) (t rn u : TaT) (tints : List Int) (pn : TaT) (one : Bool) {N : Nat} {o : List Int} (hO : Ord N o) (hN : N ≤ 1000) : ∀ (n i : Nat) (back : List Int), i + n = N → back.length = N → (∀ j, j < i → back[fnO o j]? = some ((j : Nat) : Int)) →
    ∃ back', Ev (fun k => laws_FnTablesNamed_c_l k (more, t, rn, u, tints, pn, one, back, o, (o.length : Int), (i : Int))) (more, t, rn, u, tints, pn, one, back') ∧ back'.length = N ∧ ∀ j, j < N → back'[fnO o j]? = some ((j : Nat) : Int) := by
  have hol : (o.length : Int) = N := hO.1
  obtain ⟨hp, hg⟩ := ord_fn hO
  obtain ⟨t1, t2, t3⟩ := t
  obtain ⟨r1, r2, r3⟩ := rn
  obtain ⟨u1, u2, u3⟩ := u
  obtain ⟨p1, p2, p3⟩ := pn
  intro n
  induction n with
  | zero =>
    intro i back hi hb hv
    exact ⟨back, Ev.step (fun k => laws_FnTablesNamed_c_l.eq k more t1 t2 t3 r1 r2 r3 u1 u2 u3 tints p1 p2 p3 one back o _ _) (Ev.no (not_lt_nat (by omega)) (Ev.now _)), hb, fun j hj => hv j (by omega)⟩
  | succ n ih =>
    intro i back hi hb hv
    obtain ⟨s1, s2⟩ := back_set hO hb (i := i) (by omega) hv
    obtain ⟨back', e, q⟩ := ih (i + 1) _ (by omega) s1 s2
    have hx := hg i (by omega)
    have hlt := hp.1 i (by omega)
    refine ⟨back', Ev.step (fun k => laws_FnTablesNamed_c_l.eq k more t1 t2 t3 r1 r2 r3 u1 u2 u3 tints p1 p2 p3 one back o _ _) (Ev.yes (lt_nat (by omega)) (Ev.yes (inB_nat (by omega)) ?_)), q⟩
    rw [Int.toNat_natCast, getO hx, w64_succ (by omega)]
    exact Ev.yes (inB_nat (by omega)) e
theorem mk_ok (o : List Int) (h : o.length ≤ 1000) : ((decide ((0 : Int) ≤ (o.length : Int)) && decide ((o.length : Int) ≤ (o.length : Int))) && fits (o.length : Int).toNat 8) = true := by
  rw [le_two (by omega) (by omega), Int.toNat_natCast, fits_of (by omega)]
  rfl
theorem st2 (more : List Int) (hc : ∀ x ∈ more, 0 ≤ x ∧ x ≤ 255) (u : TaT) (tints : List Int) (r : TaT × Bool) (hu : u.2.2.length ≤ 1048576) (hz : tints.length ≤ 1000) (A : RenA u u.2.1 tints r id (fnO tints)) :
    Ev (fun k => laws_FnTablesNamed_c_c k (more, u, tints, r.1, r.2)) true := by
  have s3 := st3 more hc
  rcases A with ⟨_, rfl⟩ | ⟨hT, hO, st, ti, e1, e2, out, rfl, hR⟩
  · obtain ⟨u1, u2, u3⟩ := u
    exact Ev.step (fun k => laws_FnTablesNamed_c_c.eq k more u1 u2 u3 tints 0 0 [] false) (Ev.no rfl (Ev.bind s3 (Ev.now _)))
  · obtain ⟨u1, u2, u3⟩ := u
    have e1 : u1 = (st : Int) := e1
    have e2 : u2 = (ti : Int) := e2
    subst e1 e2
    have hT : TabOk st ti u3 := hT
    have hO : Ord ti tints := hO
    have hol : (tints.length : Int) = ti := hO.1
    obtain ⟨back, e, hb, hv⟩ := loopT more ((st : Int), (ti : Int), u3) ((st : Int), (ti : Int), out) hO (by omega) ti 0 (List.replicate (tints.length : Int).toNat 0) (by omega) (by rw [List.length_replicate]; omega) (fun j hj => absurd hj (Nat.not_lt_zero j))
    obtain ⟨q1, q2⟩ := tints_home hT hO hR hb hv
    have hlo := hR.1
    have dT := dTable_ev (st : Int) (ti : Int) u3 hu
    obtain ⟨_, _, _, _, _, h16⟩ := len_nat hT
    have iT := (isTable_ev (st : Int) (ti : Int) out (by omega)).isT q1
    exact Ev.step (fun k => laws_FnTablesNamed_c_c.eq k more st ti u3 tints st ti out true) (Ev.yes rfl (Ev.yes (mk_ok tints hz) (Ev.bind e (Ev.bind q2 (Ev.no rfl (Ev.bind dT (Ev.no rfl (Ev.bind iT (Ev.no rfl (Ev.bind s3 (Ev.now _)))))))))))
theorem st1 (more : List Int) (hc : ∀ x ∈ more, 0 ≤ x ∧ x ≤ 255) (t : TaT) (o : List Int) (r' : TaT × Bool) (ht : t.2.2.length ≤ 1048576) (hzo : o.length ≤ 1000) (A' : RenA t t.1 o r' (fnO o) id) (u : TaT) (tints : List Int) (r : TaT × Bool) (hu : u.2.2.length ≤ 1048576) (hz : tints.length ≤ 1000) (A : RenA u u.2.1 tints r id (fnO tints)) :
    Ev (fun k => laws_FnTablesNamed_c k (more, t, o, r'.1, r'.2, u, tints, r.1, r.2)) true := by
  have s2 := st2 more hc u tints r hu hz A
  obtain ⟨⟨p1, p2, p3⟩, one⟩ := r
  obtain ⟨u1, u2, u3⟩ := u
  rcases A' with ⟨_, rfl⟩ | ⟨hT, hO, st, ti, e1, e2, out, rfl, hR⟩
  · obtain ⟨t1, t2, t3⟩ := t
    exact Ev.step (fun k => laws_FnTablesNamed_c.eq k more t1 t2 t3 o 0 0 [] false u1 u2 u3 tints p1 p2 p3 one) (Ev.no rfl (Ev.bind s2 (Ev.now _)))
  · obtain ⟨t1, t2, t3⟩ := t
    have e1 : t1 = (st : Int) := e1
    have e2 : t2 = (ti : Int) := e2
    subst e1 e2
    have hT : TabOk st ti t3 := hT
    have hO : Ord st o := hO
    have hol : (o.length : Int) = st := hO.1
    obtain ⟨back, e, hb, hv⟩ := loopS more ((st : Int), (ti : Int), t3) ((st : Int), (ti : Int), out) (u1, u2, u3) tints (p1, p2, p3) one hO (by omega) st 0 (List.replicate (o.length : Int).toNat 0) (by omega) (by rw [List.length_replicate]; omega) (fun j hj => absurd hj (Nat.not_lt_zero j))
    obtain ⟨q1, q3, q2⟩ := states_home hT hO hR hb hv
    have hlo := hR.1
    have dT := dTable_ev (st : Int) (ti : Int) t3 ht
    obtain ⟨_, _, _, _, _, h16⟩ := len_nat hT
    have iT := (isTable_ev (st : Int) (ti : Int) out (by omega)).isT q1
    obtain ⟨⟨c1, c1'⟩, k1, _, A1⟩ := canUndo_both ((st : Int), (ti : Int), t3) ht
    obtain ⟨⟨c2, c2'⟩, k2, _, A2⟩ := canUndo_both ((st : Int), (ti : Int), out) (by show out.length ≤ _; omega)
    rcases A1 with ⟨_, x1, y1⟩ | ⟨h, _⟩
    rotate_left
    · exact absurd hT h
    rcases A2 with ⟨_, x2, y2⟩ | ⟨h, _⟩
    rotate_left
    · exact absurd q1 h
    have x1 : c1' = true := x1
    have x2 : c2' = true := x2
    subst x1 x2
    have y1 : c1 = true ↔ ApartR t3 := y1
    have y2 : c2 = true ↔ ApartR out := y2
    have ec : c1 = c2 := by
      have : c1 = true ↔ c2 = true := y1.trans (q3.symm.trans y2.symm)
      cases c1 <;> cases c2 <;> simp_all
    subst ec
    exact Ev.step (fun k => laws_FnTablesNamed_c.eq k more st ti t3 o st ti out true u1 u2 u3 tints p1 p2 p3 one) (Ev.yes rfl (Ev.yes (mk_ok o hzo) (Ev.bind e (Ev.bind q2 (Ev.bind k1 (Ev.bind k2 (Ev.no rfl (Ev.bind dT (Ev.no rfl (Ev.no rfl (Ev.no rfl (Ev.no (sameB _) (Ev.bind iT (Ev.no rfl (Ev.bind s2 (Ev.now _))))))))))))))))
theorem main (code more : List Int) (h1 : code.length ≤ 9223372036854775807) (h2 : more.length ≤ 9223372036854775807) (hc : ∀ x ∈ code, 0 ≤ x ∧ x ≤ 255) (hm : ∀ x ∈ more, 0 ≤ x ∧ x ≤ 255) : ∃ k, laws_FnTablesNamed k (code, more) = some true := by
  refine Ev.rounds ?_
  obtain ⟨b, hb, hbf⟩ := big_ev code more h1 h2
  cases b with
  | true => exact Ev.step (fun k => laws_FnTablesNamed.eq k code more) (Ev.bind hb (Ev.yes rfl (Ev.now _)))
  | false =>
    obtain ⟨t, o, d1, ⟨s1, _⟩, z1⟩ := drawStates_ev code hc
    obtain ⟨u, v, d2, ⟨s2, _⟩, z2⟩ := drawTints_ev code hc
    obtain ⟨r, a1, b1, A1⟩ := renStates_both t o (by omega) (by omega)
    obtain ⟨q, a2, b2, A2⟩ := renTints_both u v (by omega) (by omega)
    have s := st1 more hm t o r (by omega) (by omega) A1 u v q (by omega) (by omega) A2
    have hz : ∀ {t : TaT} {n : Int} {o : List Int} {r : TaT × Bool} {σ τ : Nat → Nat}, RenA t n o r σ τ → r.1.2.2.length ≤ 1048576 := fun {t n o r σ τ} A => by
      rcases A with ⟨_, rfl⟩ | ⟨hT, hO, st, ti, e1, e2, out, rfl, hR⟩
      · exact Nat.zero_le _
      · rw [e1, e2] at hT
        obtain ⟨_, _, _, _, _, h16⟩ := len_nat hT
        have := hR.1
        show out.length ≤ _
        omega
    have dT1 := dTable_ev r.1.1 r.1.2.1 r.1.2.2 (hz A1)
    have dT2 := dTable_ev q.1.1 q.1.2.1 q.1.2.2 (hz A2)
    have I := isTable_ev t.1 t.2.1 t.2.2 (by omega)
    have G := taGood_ev t.1 t.2.1 t.2.2 (by omega)
    have go : ∀ b : Bool, Ev (fun k => impl_IsTable k t) b → Ev (fun k => spec_taGood k t) b → (r.2 = true → b = true) → Ev (fun k => laws_FnTablesNamed k (code, more)) true := fun b i1 i2 hbt => by
      refine Ev.step (fun k => laws_FnTablesNamed.eq k code more) (Ev.bind hb (Ev.no rfl ?_))
      refine Ev.bind d1 (Ev.bind a1 (Ev.bind b1 (Ev.bind d2 (Ev.bind a2 (Ev.bind b2 (Ev.no (sameB _) (Ev.bind dT1 (Ev.no rfl (Ev.no (sameB _) (Ev.bind dT2 (Ev.no rfl (Ev.bind i1 (Ev.bind (Ev.step (fun k => spec_IsTable.eq k t.1 t.2.1 t.2.2) (Ev.bind i2 (Ev.now _))) (Ev.no (sameB _) ?_))))))))))))))
      cases hr : r.2 with
      | true =>
        rw [hr] at s
        obtain rfl := hbt hr
        exact Ev.yes rfl (Ev.bind i1 (Ev.no rfl (Ev.bind s (Ev.now _))))
      | false =>
        rw [hr] at s
        exact Ev.no rfl (Ev.bind s (Ev.now _))
    by_cases hT : TabOk t.1 t.2.1 t.2.2
    · exact go true (I.isT hT) (G.isT hT) fun _ => rfl
    · refine go false (I.isF hT) (G.isF hT) fun h => ?_
      rcases A1 with ⟨_, rfl⟩ | ⟨h', _⟩
      · exact h
      · exact absurd h' hT
theorem good8 {x : Int} (h : (Sh.int IntKind.u8).good x) : 0 ≤ x ∧ x ≤ 255 := by
  have h : (Lit.int .u8 x).wf = true := h
  simp [Lit.wf, IntKind.min, IntKind.max, IntKind.bits, IntKind.signed] at h
  omega
theorem pure : ∀ d : Dl laws_FnTablesNamed.ins, goodL laws_FnTablesNamed.ins d → ∃ k, laws_FnTablesNamed k d = some true := by
  rintro ⟨code, more⟩ ⟨hg1, hg2⟩
  exact main code more hg1.1 hg2.1 (fun x hx => good8 (hg1.2 x hx)) (fun x hx => good8 (hg2.2 x hx))
end Go.Proofs.YtcmebphcoamohaaGreatDoor.fnTablesNamed
