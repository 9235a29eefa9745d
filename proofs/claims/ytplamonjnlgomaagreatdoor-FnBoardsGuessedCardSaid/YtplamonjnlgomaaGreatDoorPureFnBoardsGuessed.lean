/- The plain law FnBoardsGuessed. -/
import Derived.Test.YtplamonjnlgomaaGreatDoorOk
import Derived.Test.YtplamonjnlgomaaGreatDoorMgGb
namespace Go.Proofs.YtplamonjnlgomaaGreatDoor.fnBoardsGuessed
open Go Go.Proofs Go.Proofs.YtplamonjnlgomaaGreatDoorS
set_option linter.unusedVariables false
set_option linter.unusedSimpArgs false
set_option maxRecDepth 10000
/-- The texts: read, told again. -/
theorem tail (more : List Int) (hm : ∀ x ∈ more, 0 ≤ x ∧ x ≤ 255) : Ev (fun k => (spec_DrawParsePuzzle k more).bind fun r462 => (impl_ParsePuzzle k r462).bind fun r463 => (spec_ParsePuzzle k r462).bind fun r464 => cond (!(r463.2 == r464.2)) (some false) ((laws_dPuzzle k (r463.1, r464.1)).bind fun r465 => cond (!r465) (some false) (cond r463.2 ((impl_PuzzleText k r463.1).bind fun r466 => cond r466.2 (some (strEq r466.1 r462)) (some false)) (some true)))) true := by
  have sb : ∀ b : Bool, (!(b == b)) = false := fun b => by cases b <;> rfl
  obtain ⟨s, d1, hz⟩ := guDrawParse_ev more hm
  obtain ⟨a1, a2⟩ := guImpl_ev s (by omega)
  obtain ⟨b1, b2⟩ := guSpec_ev s (by omega)
  by_cases P : ∃ (rl : ByteArray) (w h : Int) (cl : List Cl), PuzOk rl w h cl ∧ s = puzT rl w h cl
  · obtain ⟨rl, w, h, cl, H, e⟩ := P
    have q1 := a1 rl w h cl H e
    have q2 := b1 rl w h cl H e
    have q3 := dPuzzle_ev (rl, w, h, cl) (by show cl.length ≤ _; have := H.2.1; omega)
    have q4 := ((guText_ev rl w h cl (by have := H.1.1.1; omega)).1 H).1
    rw [← e] at q4
    exact Ev.bind d1 (Ev.bind q1 (Ev.bind q2 (Ev.no rfl (Ev.bind q3 (Ev.no rfl (Ev.yes rfl (Ev.bind q4 (Ev.yes rfl (Ev.now' (strEq_self s))))))))))
  · have N : ∀ (rl : ByteArray) (w h : Int) (cl : List Cl), PuzOk rl w h cl → s ≠ puzT rl w h cl := fun rl w h cl H e => P ⟨rl, w, h, cl, H, e⟩
    have q3 := dPuzzle_ev guZero (by show ([] : List Cl).length ≤ _; decide)
    exact Ev.bind d1 (Ev.bind (a2 N) (Ev.bind (b2 N) (Ev.no rfl (Ev.bind q3 (Ev.no rfl (Ev.no rfl (Ev.now _)))))))
section
variable (more : List Int) (rl : ByteArray) (w h : Int) (cl : List Cl) (H : PuzOk rl w h cl) (L : List ByteArray) (hL : L = solC rl w h cl) (cnt : Int) (hcnt : cnt = (L.length : Int)) (sure : ByteArray) (nd lf : List Int) (best : Int) (text : ByteArray) (n : Int) (hn : n = w * h)
include H hL hcnt hn
theorem sol_facts {s : ByteArray} (hs : s ∈ L) : (s.size : Int) = n ∧ HidO (rl, w, h, s, 0, 0, 0) ∧ ∀ c ∈ cl, Fit c (rl, w, h, s, 0, 0, 0) := by
  subst hL
  obtain ⟨h1, h2⟩ := List.mem_filter.1 hs
  have hS := H.1
  have hm := mul_range (a := w) (b := h) (by have := hS.2.1; omega) (by have := hS.2.1; omega) (by have := hS.2.2.1; omega) (by have := hS.2.2.1; omega)
  obtain ⟨z1, z2⟩ := allD_ok (t := rl.size) (by have := hS.1.1; omega) _ s h1
  have hz : (s.size : Int) = w * h := by omega
  exact ⟨by omega, ⟨hS, board_ok hS hz z2, rfl, rfl, rfl⟩, keepC_iff.1 h2⟩
theorem clues_l (hsure : ∀ s ∈ L, ∀ q : Nat, (q : Int) < n → bt sure q = 63 ∨ bt sure q = bt s q) {s : ByteArray} (hs : s ∈ L) (t400 t401 : Int) : ∀ m j : Nat, j + m = cl.length →
    Ev (fun k => laws_FnBoardsGuessed_l_l k (more, (rl, w, h, cl), L, cnt, sure, nd, lf, best, text, n, s, (rl, w, h, s, 0, 0, 0), (), t400, t401, (), (cl.length : Int), (j : Int))) (.inr (more, (rl, w, h, cl), L, cnt, sure, nd, lf, best, text, n, s, (), t400, t401)) := by
  obtain ⟨f1, f2, f3⟩ := sol_facts rl w h cl H L hL cnt hcnt n hn hs
  have hl := H.2.1
  intro m
  induction m with
  | zero => intro j hj; exact Ev.step (fun k => laws_FnBoardsGuessed_l_l.eq k more rl w h cl L cnt sure nd lf best text n s rl w h s 0 0 0 t400 t401 _ _) (Ev.no (not_lt_nat (by omega)) (Ev.now _))
  | succ m ih =>
    intro j hj
    obtain ⟨c, hc⟩ := nat_list (l := cl) (i := j) (by omega)
    have hcm := List.mem_of_getElem? hc
    have fit := guFit_ev c (rl, w, h, s, 0, 0, 0) f2 (H.2.2 c hcm) (f3 c hcm)
    refine Ev.step (fun k => laws_FnBoardsGuessed_l_l.eq k more rl w h cl L cnt sure nd lf best text n s rl w h s 0 0 0 t400 t401 _ _) (Ev.yes (lt_nat (by omega)) (Ev.yes (inB_nat (by omega)) ?_))
    rw [Int.toNat_natCast, getD_at hc, w64_succ (by omega)]
    exact Ev.bind fit (Ev.no rfl (Ev.no rfl (ih (j + 1) (by omega))))
theorem sure_l (hsz : (sure.size : Int) = n) (hsure : ∀ s ∈ L, ∀ q : Nat, (q : Int) < n → bt sure q = 63 ∨ bt sure q = bt s q) {s : ByteArray} (hs : s ∈ L) (t400 t401 : Int) : ∀ m q : Nat, ((q + m : Nat) : Int) = n →
    Ev (fun k => laws_FnBoardsGuessed_l_l_2 k (more, (rl, w, h, cl), L, cnt, sure, nd, lf, best, text, n, s, (q : Int), (), t400, t401)) (.inr (more, (rl, w, h, cl), L, cnt, sure, nd, lf, best, text, n, (), t400, t401)) := by
  obtain ⟨f1, f2, f3⟩ := sol_facts rl w h cl H L hL cnt hcnt n hn hs
  have hS := H.1
  have hm := mul_range (a := w) (b := h) (by have := hS.2.1; omega) (by have := hS.2.1; omega) (by have := hS.2.2.1; omega) (by have := hS.2.2.1; omega)
  intro m
  induction m with
  | zero => intro q hq; exact Ev.step (fun k => laws_FnBoardsGuessed_l_l_2.eq k more rl w h cl L cnt sure nd lf best text n s _ t400 t401) (Ev.no (decide_eq_false (by omega)) (Ev.now _))
  | succ m ih =>
    intro q hq
    have nx := ih (q + 1) (by omega)
    refine Ev.step (fun k => laws_FnBoardsGuessed_l_l_2.eq k more rl w h cl L cnt sure nd lf best text n s _ t400 t401) (Ev.yes (decide_eq_true (by omega)) (Ev.yes (inB_of (by omega) (by omega)) ?_))
    rw [Int.toNat_natCast, w64_succ (by omega)]
    by_cases e : bt sure q = 63
    · exact Ev.no (by rw [e]; rfl) nx
    · have e2 := (hsure s hs q (by omega)).resolve_left e
      exact Ev.yes (bne_iff_ne.2 e) (Ev.yes (inB_of (by omega) (by omega)) (Ev.yes (inB_of (by omega) (by omega)) (Ev.no (by rw [e2]; exact neq_self _) nx)))
theorem all_l (hsz : 0 < L.length → (sure.size : Int) = n) (hsure : ∀ s ∈ L, ∀ q : Nat, (q : Int) < n → bt sure q = 63 ∨ bt sure q = bt s q) : ∀ m i : Nat, i + m = L.length →
    Ev (fun k => laws_FnBoardsGuessed_l k (more, (rl, w, h, cl), L, cnt, sure, nd, lf, best, text, n, (), (L.length : Int), (i : Int))) (.inr (more, (rl, w, h, cl), cnt, nd, lf, best, text)) := by
  have hlen : L.length ≤ 300 := by
    subst hL
    unfold solC
    have := List.length_filter_le (keepC rl w h cl) (allD rl.size (w * h).toNat)
    rw [allD_len] at this
    exact Nat.le_trans this H.1.2.2.2.2
  have hsort : L.Pairwise fun a b => strLess a b = true := by
    subst hL
    exact solC_sorted rl w h cl (by have := H.1.1.1; omega)
  have hS := H.1
  have hm := mul_range (a := w) (b := h) (by have := hS.2.1; omega) (by have := hS.2.1; omega) (by have := hS.2.2.1; omega) (by have := hS.2.2.1; omega)
  intro m
  induction m with
  | zero => intro i hi; exact Ev.step (fun k => laws_FnBoardsGuessed_l.eq k more rl w h cl L cnt sure nd lf best text n _ _) (Ev.no (not_lt_nat (by omega)) (Ev.now _))
  | succ m ih =>
    intro i hi
    obtain ⟨s, hs⟩ := nat_list (l := L) (i := i) (by omega)
    have hsm := List.mem_of_getElem? hs
    obtain ⟨f1, f2, f3⟩ := sol_facts rl w h cl H L hL cnt hcnt n hn hsm
    have g1 := clues_l more rl w h cl H L hL cnt hcnt sure nd lf best text n hn hsure hsm (L.length : Int) (i : Int) cl.length 0 (by omega)
    have g2 := sure_l more rl w h cl H L hL cnt hcnt sure nd lf best text n hn (hsz (by omega)) hsure hsm (L.length : Int) (i : Int) n.toNat 0 (by omega)
    have nx := ih (i + 1) (by omega)
    rw [← w64_succ (by omega)] at nx
    have hsn : ((s.size : Int) != n) = false := by rw [f1]; exact neq_self _
    refine Ev.step (fun k => laws_FnBoardsGuessed_l.eq k more rl w h cl L cnt sure nd lf best text n _ _) (Ev.yes (lt_nat (by omega)) (Ev.yes (inB_nat (by omega)) ?_))
    rw [Int.toNat_natCast, getD_at hs]
    by_cases i0 : i = 0
    · exact Ev.no (decide_eq_false (by omega)) (Ev.no hsn (Ev.bind g1 (Ev.bind g2 nx)))
    · obtain ⟨p, hp⟩ := nat_list (l := L) (i := i - 1) (by omega)
      have e1 : w64 ((i : Int) - 1) = ((i - 1 : Nat) : Int) := by rw [w64_of (by omega) (by omega)]; omega
      have hps : strLess p s = true := by
        obtain ⟨q1, q2⟩ := List.getElem?_eq_some_iff.1 hp
        obtain ⟨r1, r2⟩ := List.getElem?_eq_some_iff.1 hs
        have := List.pairwise_iff_getElem.1 hsort (i - 1) i q1 r1 (by omega)
        rwa [q2, r2] at this
      rw [e1]
      refine Ev.yes (decide_eq_true (by omega)) (Ev.yes (inB_nat (by omega)) ?_)
      rw [Int.toNat_natCast, getD_at hp]
      exact Ev.no (by rw [hps]; rfl) (Ev.no hsn (Ev.bind g1 (Ev.bind g2 nx)))
theorem each_l (hrl : rl.size ≤ 1048576) (hnl : nd.length ≤ 1000) (hnd : ∀ j, j < cl.length → ((j : Int) ∈ nd ↔ (solC rl w h (woC cl j)).length = L.length)) (hll : lf.length = cl.length + 1) (hlf : ∀ j, j ≤ cl.length → lf[j]? = some ((solC rl w h (cl.take j)).length : Int)) (hb : 0 < cl.length → 0 ≤ best ∧ best < (cl.length : Int)) : ∀ m j : Nat, j + m = cl.length →
    Ev (fun k => laws_FnBoardsGuessed_l_2 k (more, (rl, w, h, cl), cnt, nd, lf, best, text, (cl.length : Int), (j : Int))) (.inr (more, (rl, w, h, cl), text)) := by
  have hl := H.2.1
  have := hL
  have := hn
  intro m
  induction m with
  | zero => intro j hj; exact Ev.step (fun k => laws_FnBoardsGuessed_l_2.eq k more rl w h cl cnt nd lf best text _ _) (Ev.no (not_lt_nat (by omega)) (Ev.now _))
  | succ m ih =>
    intro j hj
    have hjl : j < cl.length := by omega
    have hwl := woC_len hjl
    have dr := guDrop_ev rl w h cl hrl H j hjl
    have HW : PuzOk rl w h (woC cl j) := ⟨H.1, by omega, fun c hc => H.2.2 c (woC_mem hc)⟩
    have ct : Ev (fun k => impl_CountSolutions k (rl, w, h, woC cl j)) (((solC rl w h (woC cl j)).length : Int), true) := by
      rcases guSolutions_ev rl w h (woC cl j) (by omega) with ⟨_, _, _, _, q, _⟩ | ⟨q, _⟩
      · exact q
      · exact absurd HW q
    obtain ⟨v, v1, v2⟩ := guHas_ev nd (by omega) (j : Int)
    have ev : v = (((solC rl w h (woC cl j)).length : Int) == cnt) := by
      rw [Bool.eq_iff_iff, v2, hnd j hjl, beq_iff_eq, hcnt]
      omega
    have sub := (solC_sub rl w h (q := cl.take (j + 1)) (p := cl.take j) fun c hc => by
      rw [List.take_add_one]
      exact List.mem_append_left _ hc).length_le
    have nx := ih (j + 1) (by omega)
    refine Ev.step (fun k => laws_FnBoardsGuessed_l_2.eq k more rl w h cl cnt nd lf best text _ _) (Ev.yes (lt_nat hjl) (Ev.bind dr (Ev.bind ct (Ev.no rfl (Ev.no rfl (Ev.bind v1 (Ev.no ?_ ?_)))))))
    · show (!(v == (((solC rl w h (woC cl j)).length : Int) == cnt))) = false
      rw [← ev]
      cases v <;> rfl
    · rw [w64_succ (by omega), Int.toNat_natCast, Int.toNat_natCast, getD_at (hlf (j + 1) (by omega)), getD_at (hlf j (by omega))]
      have hb := hb (by omega)
      exact Ev.yes (inB_nat (by omega)) (Ev.yes (inB_nat (by omega)) (Ev.no (decide_eq_false (by omega)) (Ev.no (decide_eq_false (by omega)) (Ev.no (decide_eq_false (by omega)) nx))))
theorem body (hm : ∀ x ∈ more, 0 ≤ x ∧ x ≤ 255) (hrl : rl.size ≤ 1048576) (hsz : 0 < L.length → (sure.size : Int) = n) (hsure : ∀ s ∈ L, ∀ q : Nat, (q : Int) < n → bt sure q = 63 ∨ bt sure q = bt s q) (hnl : nd.length ≤ 1000) (hnd : ∀ j, j < cl.length → ((j : Int) ∈ nd ↔ (solC rl w h (woC cl j)).length = L.length)) (hll : lf.length = cl.length + 1) (hlf : ∀ j, j ≤ cl.length → lf[j]? = some ((solC rl w h (cl.take j)).length : Int)) (hb : 0 < cl.length → 0 ≤ best ∧ best < (cl.length : Int)) (ht : text = puzT rl w h cl) :
    Ev (fun k => (laws_FnBoardsGuessed_l k (more, (rl, w, h, cl), L, cnt, sure, nd, lf, best, text, n, (), (L.length : Int), 0)).bind fun r28 => r28.elim (fun r29 => some r29) (fun r30 => (laws_FnBoardsGuessed_l_2 k (r30.1, r30.2.1, r30.2.2.1, r30.2.2.2.1, r30.2.2.2.2.1, r30.2.2.2.2.2.1, r30.2.2.2.2.2.2, (r30.2.1.2.2.2.length : Int), 0)).bind fun r31 => r31.elim (fun r32 => some r32) (fun r33 => (impl_ParsePuzzle k r33.2.2).bind fun r34 => cond (!r34.2) (some false) ((laws_dPuzzle k (r34.1, r33.2.1)).bind fun r35 => cond (!r35) (some false) ((spec_DrawParsePuzzle k r33.1).bind fun r36 => (impl_ParsePuzzle k r36).bind fun r37 => (spec_ParsePuzzle k r36).bind fun r38 => cond (!(r37.2 == r38.2)) (some false) ((laws_dPuzzle k (r37.1, r38.1)).bind fun r39 => cond (!r39) (some false) (cond r37.2 ((impl_PuzzleText k r37.1).bind fun r40 => cond r40.2 (some (strEq r40.1 r36)) (some false)) (some true)))))))) true := by
  have g1 := all_l more rl w h cl H L hL cnt hcnt sure nd lf best text n hn hsz hsure L.length 0 (by omega)
  have g2 := each_l more rl w h cl H L hL cnt hcnt nd lf best text n hn hrl hnl hnd hll hlf hb cl.length 0 (by omega)
  have hz := (puzT_size rl w h cl H).1
  have g3 := (guImpl_ev text (by rw [ht]; omega)).1 rl w h cl H ht
  have g4 := dPuzzle_ev (rl, w, h, cl) (by show cl.length ≤ _; have := H.2.1; omega)
  exact Ev.bind g1 (Ev.bind g2 (Ev.bind g3 (Ev.no rfl (Ev.bind g4 (Ev.no rfl (tail more hm))))))
end
theorem specIs_ev (rl : ByteArray) (w h : Int) (cl : List Cl) : EvB (fun k => spec_IsPuzzle k (rl, w, h, cl)) (PuzOk rl w h cl) := EvB.step (fun k => spec_IsPuzzle.eq k rl w h cl) (pzGood_ev rl w h cl).ret
theorem main (code more : List Int) (h1 : code.length ≤ 9223372036854775807) (h2 : more.length ≤ 9223372036854775807) (hc : ∀ x ∈ code, 0 ≤ x ∧ x ≤ 255) (hm : ∀ x ∈ more, 0 ≤ x ∧ x ≤ 255) : ∃ k, laws_FnBoardsGuessed k (code, more) = some true := by
  refine Ev.rounds (Ev.step (fun k => laws_FnBoardsGuessed.eq k code more) ?_)
  obtain ⟨b, b1, b2⟩ := big_ev code more h1 h2
  refine Ev.bind b1 (Ev.cond (fun _ => Ev.now _) fun hb => ?_)
  have tl := tail more hm
  obtain ⟨⟨rl, w, h, cl⟩, d1, z1, z2⟩ := guDrawSol_ev code hc
  simp only at z1 z2
  have sb : ∀ b : Bool, (!(b == b)) = false := fun b => by cases b <;> rfl
  have i1 := isPuzzle_ev rl w h cl (by omega)
  have i2 := specIs_ev rl w h cl
  have d0 : Ev (fun k => laws_dSame k (([] : List Int), ([] : List Int))) true := guSame_ev [] (by simp)
  have d9 : Ev (fun k => laws_dTexts k (([] : List ByteArray), ([] : List ByteArray))) true := dTexts_ev [] (by simp)
  have gs := guSolutions_ev rl w h cl (by omega)
  rcases gs with ⟨H, hl3, s1, s2, c1, c2, v1, v2⟩ | ⟨H, s1, s2, c1, c2, v1, v2⟩
  rotate_left
  · have i1 := i1.isF H
    have i2 := i2.isF H
    obtain ⟨f1, f2⟩ := (guFirst_ev rl w h cl (by omega)).2 fun q => H q.1
    obtain ⟨u1, u2⟩ := (guSure_ev rl w h cl (by omega)).2 fun q => H q.1
    obtain ⟨n1, n2⟩ := (guNeed_ev rl w h cl (by omega)).2 H
    obtain ⟨l1, l2⟩ := (guLeft_ev rl w h cl (by omega)).2 H
    obtain ⟨t1, t2⟩ := (guText_ev rl w h cl (by omega)).2 H
    obtain ⟨e1, e2⟩ := (guBest_ev rl w h cl (by omega)).2 fun q => H q.1
    repeat' first
      | exact tl
      | refine Ev.bind (by assumption) ?_
      | refine Ev.no (by first | rfl | assumption | exact neq_self _ | exact sb _ | exact sameS _) ?_
      | refine Ev.yes (by first | rfl | assumption) ?_
  · have i1 := i1.isT H
    have i2 := i2.isT H
    have hS := H.1
    have hwh := mul_range (a := w) (b := h) (by have := hS.2.1; omega) (by have := hS.2.1; omega) (by have := hS.2.2.1; omega) (by have := hS.2.2.1; omega)
    have e64 : w64 (w * h) = w * h := w64_of (by omega) (by omega)
    have cb := guCount_ev rl w h hS
    obtain ⟨nd, nd1, nd2, nd3, nd4⟩ := (guNeed_ev rl w h cl (by omega)).1 H
    obtain ⟨lf, lf1, lf2, lf3, lf4⟩ := (guLeft_ev rl w h cl (by omega)).1 H
    obtain ⟨t1, t2⟩ := (guText_ev rl w h cl (by omega)).1 H
    have lf0 : lf.getD 0 default = ((rl.size ^ (w * h).toNat : Nat) : Int) := by
      rw [getD_at (lf2 0 (by omega)), List.take_zero]
      unfold solC
      rw [List.filter_eq_self.2 fun s hs => keepC_iff.2 fun c hc => (List.not_mem_nil hc).elim, allD_len]
    have lfe : lf.getD (cl.length : Int).toNat default = ((solC rl w h cl).length : Int) := by
      rw [Int.toNat_natCast, getD_at (lf2 cl.length (by omega)), List.take_length]
    have x1 : ((lf.length : Int) != w64 ((cl.length : Int) + 1)) = false := by rw [w64_of (by omega) (by omega), lf1]; exact bne_eq_false_iff_eq.2 (by omega)
    have x2 : inB 0 lf.length = true := inB_of (by omega) (by omega)
    have x3 : inB (cl.length : Int) lf.length = true := inB_nat (by omega)
    have x4 : ((lf.getD 0 default) != ((rl.size ^ (w * h).toNat : Nat) : Int)) = false := by rw [lf0]; exact neq_self _
    have x5 : ((lf.getD (cl.length : Int).toNat default) != ((solC rl w h cl).length : Int)) = false := by rw [lfe]; exact neq_self _
    have dn := guSame_ev nd (by omega)
    have dl := guSame_ev lf (by omega)
    have dt := dTexts_ev (solC rl w h cl) (by omega)
    obtain ⟨bv, bok, e1, e2, e3, e4⟩ : ∃ (v : Int) (ok : Bool), Ev (fun k => spec_BestClue k (rl, w, h, cl)) (v, ok) ∧ Ev (fun k => impl_BestClue k (rl, w, h, cl)) (v, ok) ∧ ok = decide ((cl.length : Int) > 0) ∧ (0 < cl.length → 0 ≤ v ∧ v < (cl.length : Int)) := by
      by_cases h0 : 0 < cl.length
      · obtain ⟨v, v0, q1, q2⟩ := (guBest_ev rl w h cl (by omega)).1 ⟨H, h0⟩
        exact ⟨v, true, q1, q2, (decide_eq_true (by omega)).symm, fun _ => v0⟩
      · obtain ⟨q1, q2⟩ := (guBest_ev rl w h cl (by omega)).2 fun q => h0 q.2
        exact ⟨0, false, q1, q2, (decide_eq_false (by omega)).symm, fun q => absurd q h0⟩
    have x6 : (!(bok == decide ((cl.length : Int) > 0))) = false := by rw [e3]; exact sb _
    by_cases hz : 0 < (solC rl w h cl).length
    · obtain ⟨f, hf⟩ := nat_list (l := solC rl w h cl) (i := 0) hz
      obtain ⟨f1, f2⟩ := (guFirst_ev rl w h cl (by omega)).1 H f hf
      obtain ⟨su, su1, su2, su3, u1, u2⟩ := (guSure_ev rl w h cl (by omega)).1 H f hf
      have bd := body more rl w h cl H (solC rl w h cl) rfl ((solC rl w h cl).length : Int) rfl su nd lf bv (puzT rl w h cl) (w64 (w * h)) e64 hm (by omega) (fun _ => by rw [e64]; omega) (fun s hs q hq => su3 s hs q (by omega)) (by omega) (fun j hj => nd2 j hj) lf1 lf2 e4 rfl
      have x7 : (!(true == decide (((solC rl w h cl).length : Int) > 0))) = false := by rw [decide_eq_true (by omega)]; rfl
      have x8 : inB 0 (solC rl w h cl).length = true := inB_of (by omega) (by omega)
      have x9 : (!(strEq f ((solC rl w h cl).getD 0 default))) = false := by rw [getD_at hf, strEq_self]; rfl
      have x10 : ((su.size : Int) != w64 (w * h)) = false := by rw [e64]; exact bne_eq_false_iff_eq.2 (by omega)
      cases hone : (((solC rl w h cl).length : Int) == 1) with
      | true =>
        have hone' := beq_iff_eq.1 hone
        have x11 : (!(strEq su f)) = false := by rw [su2 (by omega), strEq_self]; rfl
        rw [hone] at v1 v2
        have x12 : (!(true == (((solC rl w h cl).length : Int) == 1))) = false := by rw [hone]; rfl
        repeat' first
          | exact bd
          | refine Ev.bind (by assumption) ?_
          | refine Ev.no (by first | rfl | assumption | exact neq_self _ | exact sb _ | exact sameS _) ?_
          | refine Ev.yes (by first | rfl | assumption) ?_
      | false =>
        rw [hone] at v1 v2
        have x12 : (!(false == (((solC rl w h cl).length : Int) == 1))) = false := by rw [hone]; rfl
        repeat' first
          | exact bd
          | refine Ev.bind (by assumption) ?_
          | refine Ev.no (by first | rfl | assumption | exact neq_self _ | exact sb _ | exact sameS _) ?_
          | refine Ev.yes (by first | rfl | assumption) ?_
    · obtain ⟨f1, f2⟩ := (guFirst_ev rl w h cl (by omega)).2 fun q => hz q.2
      obtain ⟨u1, u2⟩ := (guSure_ev rl w h cl (by omega)).2 fun q => hz q.2
      have bd := body more rl w h cl H (solC rl w h cl) rfl ((solC rl w h cl).length : Int) rfl ByteArray.empty nd lf bv (puzT rl w h cl) (w64 (w * h)) e64 hm (by omega) (fun q => absurd q hz) (fun s hs q hq => absurd (List.length_pos_of_mem hs) hz) (by omega) (fun j hj => nd2 j hj) lf1 lf2 e4 rfl
      have x7 : (!(false == decide (((solC rl w h cl).length : Int) > 0))) = false := by rw [decide_eq_false (by omega)]; rfl
      have hone : (((solC rl w h cl).length : Int) == 1) = false := beq_eq_false_iff_ne.2 (by omega)
      rw [hone] at v1 v2
      have x12 : (!(false == (((solC rl w h cl).length : Int) == 1))) = false := by rw [hone]; rfl
      repeat' first
        | exact bd
        | refine Ev.bind (by assumption) ?_
        | refine Ev.no (by first | rfl | assumption | exact neq_self _ | exact sb _ | exact sameS _) ?_
        | refine Ev.yes (by first | rfl | assumption) ?_
theorem pure : ∀ d : Dl laws_FnBoardsGuessed.ins, goodL laws_FnBoardsGuessed.ins d → ∃ k, laws_FnBoardsGuessed k d = some true := by
  rintro ⟨code, more⟩ ⟨hg1, hg2⟩
  exact main code more hg1.1 hg2.1 (fun x hx => good8 (hg1.2 x hx)) (fun x hx => good8 (hg2.2 x hx))
end Go.Proofs.YtplamonjnlgomaaGreatDoor.fnBoardsGuessed
