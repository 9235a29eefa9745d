/- Walkers: steps to a node, rotors set back and turned, rings and lines; draws. -/
import Derived.Test.YtiaagflfiphioaaDoorPuWkB
namespace Go.Proofs.YtiaagflfiphioaaDoorS
open Go
set_option linter.unusedVariables false
set_option linter.unusedSimpArgs false
theorem stepsTo_ev (o : OutR) (r : List Int) (hf : FitR o r) (a goal : Int) : ∃ s ok, Ev (fun k => impl_StepsToNode k ((o, r), a, goal)) (s, ok) ∧ Ev (fun k => spec_StepsToNode k ((o, r), a, goal)) (s, ok) ∧
    (ok = true → OkR o (r, a) ∧ AtR o goal ∧ ∃ j : Nat, HitR o (r, a) [goal] j ∧ s = (j : Int)) := by
  have i1 := isNodes_ev o r hf [a, goal] (by simp)
  have s1 := roNode_ev o r hf a
  have s2 := roNode_ev o r hf goal
  by_cases p1 : RouteOk o r ∧ AtR o a
  rotate_left
  · exact ⟨0, false, Ev.step (fun k => impl_StepsToNode.eq k o r a goal) (Ev.bind (i1.isF fun h => p1 ⟨h.1, ((two_mem a goal).1 h.2).1⟩) (Ev.yes rfl (Ev.now _))), Ev.step (fun k => spec_StepsToNode.eq k o r a goal) (Ev.bind (s1.isF p1) (Ev.yes rfl (Ev.now _))), nofun⟩
  by_cases p2 : RouteOk o r ∧ AtR o goal
  rotate_left
  · exact ⟨0, false, Ev.step (fun k => impl_StepsToNode.eq k o r a goal) (Ev.bind (i1.isF fun h => p2 ⟨h.1, ((two_mem a goal).1 h.2).2⟩) (Ev.yes rfl (Ev.now _))), Ev.step (fun k => spec_StepsToNode.eq k o r a goal) (Ev.bind (s1.isT p1) (Ev.no rfl (Ev.bind (s2.isF p2) (Ev.yes rfl (Ev.now _))))), nofun⟩
  have ti := i1.isT ⟨p1.1, (two_mem a goal).2 ⟨p1.2, p2.2⟩⟩
  have vis := (visitedI_ev o r a 3000 hf ⟨p1, by omega⟩).1
  have hlen : (trackR o (r, a) (3000 : Int).toNat).length = 3000 := by simp [trackR]
  have hidx := indexAt_ev (trackR o (r, a) (3000 : Int).toNat) (by omega) goal
  have get : ∀ i, i < 3000 → (trackR o (r, a) (3000 : Int).toNat)[i]? = some (walkR o (r, a) (i + 1)).2 := fun i hi => range_get (fun i => (walkR o (r, a) (i + 1)).2) hi
  rcases roTo_ev o (r, a) p1 [goal] (by simp) with ⟨j, g1, g2⟩ | ⟨g1, g2⟩
  · obtain ⟨j1, j2, j3, j4⟩ := g1
    have hgj : (walkR o (r, a) j).2 = goal := by simpa using j3
    have iv : Ev (fun k => slices_Index k (trackR o (r, a) (3000 : Int).toNat, goal)) ((j - 1 : Nat) : Int) := by
      rcases hidx with ⟨n1, _⟩ | ⟨q, q1, q2, q3⟩
      · refine absurd (List.mem_iff_getElem?.2 ⟨j - 1, ?_⟩) n1
        rw [get (j - 1) (by omega), show j - 1 + 1 = j by omega, hgj]
      · have hq : q < 3000 := by have := (List.getElem?_eq_some_iff.1 q1).1; omega
        rw [get q hq] at q1
        have hq1 := Option.some.inj q1
        have : q = j - 1 := by
          rcases Nat.lt_trichotomy (q + 1) j with h | h | h
          · exact absurd (by simpa using hq1) (j4 (q + 1) (by omega) h)
          · omega
          · refine absurd ?_ (q2 (j - 1) (by omega))
            rw [get (j - 1) (by omega), show j - 1 + 1 = j by omega, hgj]
        rw [← this]
        exact q3
    have ej : w64 (((j - 1 : Nat) : Int) + 1) = (j : Int) := by rw [w64_of (by omega) (by omega)]; omega
    have dj : decide ((j : Int) > 0) = true := decide_eq_true (by omega)
    refine ⟨(j : Int), true, Ev.step (fun k => impl_StepsToNode.eq k o r a goal) (Ev.bind ti (Ev.no rfl (Ev.bind vis (Ev.bind iv ?_)))), Ev.step (fun k => spec_StepsToNode.eq k o r a goal) (Ev.bind (s1.isT p1) (Ev.no rfl (Ev.bind (s2.isT p2) (Ev.no rfl (Ev.bind (roOwn_ev o r hf) (Ev.bind g2 ?_)))))), fun _ => ⟨p1, p2.2, j, ⟨j1, j2, j3, j4⟩, rfl⟩⟩
    · rw [ej, dj]; exact Ev.now _
    · simp only [dj]; exact Ev.now _
  · have iv : Ev (fun k => slices_Index k (trackR o (r, a) (3000 : Int).toNat, goal)) (-1) := by
      rcases hidx with ⟨_, n2⟩ | ⟨q, q1, q2, q3⟩
      · exact n2
      · have hq : q < 3000 := by have := (List.getElem?_eq_some_iff.1 q1).1; omega
        rw [get q hq] at q1
        exact absurd (by simpa using Option.some.inj q1) (g1 (q + 1) (by omega) (by omega))
    exact ⟨0, false, Ev.step (fun k => impl_StepsToNode.eq k o r a goal) (Ev.bind ti (Ev.no rfl (Ev.bind vis (Ev.bind iv (Ev.now _))))), Ev.step (fun k => spec_StepsToNode.eq k o r a goal) (Ev.bind (s1.isT p1) (Ev.no rfl (Ev.bind (s2.isT p2) (Ev.no rfl (Ev.bind (roOwn_ev o r hf) (Ev.bind g2 (Ev.now _))))))), nofun⟩
theorem vis_first {o : OutR} {t : StR} {goal : Int} {j v : Nat} (h : HitR o t [goal] j) (hv : goal = (v : Int)) : visR o t j v = 1 := by
  obtain ⟨j1, j2, j3, j4⟩ := h
  have hz : ∀ i, i < j → visR o t i v = 0 := by
    intro i
    induction i with
    | zero => intro _; rfl
    | succ i ih =>
      intro hi
      have h1 := ih (by omega)
      have h2 : ¬ (walkR o t (i + 1)).2 = (v : Int) := fun e => j4 (i + 1) (by omega) hi (by simp [e, hv])
      show visR o t i v + (if (walkR o t (i + 1)).2 = (v : Int) then 1 else 0) = 0
      rw [if_neg h2, h1]
  obtain ⟨i, rfl⟩ : ∃ i, j = i + 1 := ⟨j - 1, by omega⟩
  show visR o t i v + (if (walkR o t (i + 1)).2 = (v : Int) then 1 else 0) = 1
  rw [hz i (by omega), if_pos (by rw [← hv]; simpa using j3)]
/-! ### Rotors -/
def zeroL (r : List Int) : List Int := List.replicate r.length 0
theorem zero_ok {o : OutR} {r : List Int} (h : RouteOk o r) : RouteOk o (zeroL r) := by
  obtain ⟨h1, h2, h3⟩ := h
  refine ⟨h1, by simp [zeroL]; exact h2, fun i hi => ?_⟩
  obtain ⟨l, x, e1, e2, e3, e4, e5⟩ := h3 i hi
  exact ⟨l, 0, e1, by unfold zeroL; rw [List.getElem?_replicate, if_pos (by omega)], e3, e4, by omega⟩
theorem reset_ev (o : OutR) (r : List Int) (hf : FitR o r) : (RouteOk o r ∧ Ev (fun k => impl_ResetRoute k (o, r)) ((o, zeroL r), true) ∧ Ev (fun k => spec_ResetRoute k (o, r)) ((o, zeroL r), true)) ∨
    (¬ RouteOk o r ∧ Ev (fun k => impl_ResetRoute k (o, r)) (([], []), false) ∧ Ev (fun k => spec_ResetRoute k (o, r)) (([], []), false)) := by
  by_cases h : RouteOk o r
  · have hz : (((decide ((0 : Int) ≤ (r.length : Int))) && (decide ((r.length : Int) ≤ (r.length : Int)))) && (fits (r.length : Int).toNat 8)) = true := zn (by have := h.1.2; have := h.2.1; omega)
    exact .inl ⟨h, Ev.step (fun k => impl_ResetRoute.eq k o r) (Ev.bind ((isRoute_ev o r hf).isT h) (Ev.no rfl (Ev.bind (own_ev o r hf) (Ev.yes hz (Ev.now _))))), Ev.step (fun k => spec_ResetRoute.eq k o r) (Ev.bind ((roGood_ev o r hf).isT h) (Ev.no rfl (Ev.bind (roOwn_ev o r hf) (Ev.yes hz (Ev.now _)))))⟩
  · exact .inr ⟨h, Ev.step (fun k => impl_ResetRoute.eq k o r) (Ev.bind ((isRoute_ev o r hf).isF h) (Ev.yes rfl (Ev.now _))), Ev.step (fun k => spec_ResetRoute.eq k o r) (Ev.bind ((roGood_ev o r hf).isF h) (Ev.yes rfl (Ev.now _)))⟩
theorem turn1_ev (o : OutR) (t : StR) (h : OkR o t) : Ev (fun k => impl_Route_turn k ((o, t.1), t.2)) ((), (o, (stpR o t).1)) := by
  obtain ⟨i, l, x, y, hi, hil, hlen, ho, e1, e2, hx, hl, hy, hyr, _, _, hs⟩ := okR_parts h
  rw [hs]
  obtain ⟨r, a⟩ := t
  have hi : a = (i : Int) := hi
  subst hi
  have e2 : r[i]? = some (x : Int) := e2
  have hlen : r.length = o.length := hlen
  have em : (w64 ((x : Int) + 1)).tmod (l.length : Int) = (((x + 1) % l.length : Nat) : Int) := by
    rw [w64_of (by omega) (by omega), Int.tmod_eq_emod_of_nonneg (by omega)]
    simp
  have hne : ((l.length : Int) != 0) = true := by rw [bne_iff_ne]; omega
  refine Ev.step (fun k => impl_Route_turn.eq k o r (i : Int)) (Ev.yes (inB_nat (by omega)) (Ev.yes (inB_nat hil) ?_))
  rw [Int.toNat_natCast, getD_any e1, getD_at e2, em]
  exact Ev.yes hne (Ev.yes (inB_nat (by omega)) (Ev.now _))
theorem turnRotor_ev (o : OutR) (r : List Int) (hf : FitR o r) (a : Int) : (OkR o (r, a) ∧ Ev (fun k => impl_TurnRotor k ((o, r), a)) ((o, (stpR o (r, a)).1), true) ∧ Ev (fun k => spec_TurnRotor k ((o, r), a)) ((o, (stpR o (r, a)).1), true)) ∨
    (¬ OkR o (r, a) ∧ Ev (fun k => impl_TurnRotor k ((o, r), a)) (([], []), false) ∧ Ev (fun k => spec_TurnRotor k ((o, r), a)) (([], []), false)) := by
  by_cases h : OkR o (r, a)
  · exact .inl ⟨h, Ev.step (fun k => impl_TurnRotor.eq k o r a) (Ev.bind ((isNode_ev o r hf a).isT h) (Ev.no rfl (Ev.bind (own_ev o r hf) (Ev.bind (turn1_ev o (r, a) h) (Ev.now _))))), Ev.step (fun k => spec_TurnRotor.eq k o r a) (Ev.bind ((roNode_ev o r hf a).isT h) (Ev.no rfl (Ev.bind (roOwn_ev o r hf) (Ev.bind (step_ev o (r, a) h).2 (Ev.now _)))))⟩
  · exact .inr ⟨h, Ev.step (fun k => impl_TurnRotor.eq k o r a) (Ev.bind ((isNode_ev o r hf a).isF h) (Ev.yes rfl (Ev.now _))), Ev.step (fun k => spec_TurnRotor.eq k o r a) (Ev.bind ((roNode_ev o r hf a).isF h) (Ev.yes rfl (Ev.now _)))⟩
/-- The rotors behind so many turns of one. -/
def turnR (o : OutR) (r : List Int) (a : Int) : Nat → List Int
  | 0 => r
  | m + 1 => (stpR o (turnR o r a m, a)).1
theorem turn_ok {o : OutR} {r : List Int} {a : Int} (h : OkR o (r, a)) : ∀ m, OkR o (turnR o r a m, a)
  | 0 => h
  | m + 1 => ⟨(stp_ok (turn_ok h m)).1, h.2⟩
theorem set_same {l : List Int} {i : Nat} {x : Int} (h : l[i]? = some x) : l.set i x = l := by
  apply List.ext_getElem?
  intro k
  by_cases e : k = i
  · subst e
    rw [List.getElem?_set_self (List.getElem?_eq_some_iff.1 h).1, h]
  · rw [List.getElem?_set_ne (Ne.symm e)]
theorem turn_full {o : OutR} {r : List Int} {a : Int} (h : OkR o (r, a)) : turnR o r a (rowN o a.toNat).length = r := by
  obtain ⟨i, l, x, y, hi, hil, hlen, ho, e1, e2, hx, hl, hy, hyr, r1, r2, hs⟩ := okR_parts h
  have hi : a = (i : Int) := hi
  have e2 : r[i]? = some (x : Int) := e2
  have hlen : r.length = o.length := hlen
  subst hi
  have key : ∀ m, turnR o r (i : Int) m = r.set i (((x + m) % l.length : Nat) : Int) := by
    intro m
    induction m with
    | zero =>
      rw [Nat.add_zero, Nat.mod_eq_of_lt hx]
      exact (set_same e2).symm
    | succ m ih =>
      show (stpR o (turnR o r (i : Int) m, (i : Int))).1 = _
      rw [ih]
      have hrot : rotN (r.set i (((x + m) % l.length : Nat) : Int)) i = (x + m) % l.length := by
        unfold rotN
        rw [getD_any (List.getElem?_set_self (by omega))]
        exact Int.toNat_natCast _
      show (r.set i (((x + m) % l.length : Nat) : Int)).set (i : Int).toNat (((rotN (r.set i (((x + m) % l.length : Nat) : Int)) (i : Int).toNat + 1) % (rowN o (i : Int).toNat).length : Nat) : Int) = _
      rw [Int.toNat_natCast, hrot, r1, List.set_set, Nat.mod_add_mod, Nat.add_assoc]
  rw [Int.toNat_natCast, r1, key, Nat.add_mod_right, Nat.mod_eq_of_lt hx]
  exact set_same e2
/-! ### Rings and lines -/
theorem Ev.conc {α : Type} {g : Nat → Option α} {r : α} (h : ∀ k, g (k + 80) = some r) : Ev g r := ⟨80, fun k hk => by
  obtain ⟨j, rfl⟩ := Nat.exists_eq_add_of_le' hk
  exact h j⟩
def ringO (n : Nat) : OutR := (List.range n).map fun i => [(((i + 1) % n : Nat) : Int), (((i + n - 1) % n : Nat) : Int)]
def lineO (n : Nat) : OutR := (List.range n).map fun i => if i = 0 then [1] else if i + 1 = n then [(i : Int) - 1] else [(i : Int) - 1, (i : Int) + 1]
def RingF (n : Int) : Prop := ∃ o r b, Ev (fun k => impl_RingRoute k n) ((o, r), b) ∧ Ev (fun k => spec_RingRoute k n) ((o, r), b) ∧ FitR o r ∧ (b = true → Ev (fun k => impl_WalkLoop k ((o, r), 0)) (0, w64 (2 * n), true))
theorem ring_no (n : Int) (h : ¬ (1 ≤ n ∧ n ≤ 10)) : RingF n :=
  ⟨[], [], false, Ev.step (fun k => impl_RingRoute.eq k n) (Ev.bind ((EvB.step (fun k => impl_isNodes.eq k n) (within_ev n 1 10).ret).isF h) (Ev.yes rfl (Ev.now _))), Ev.step (fun k => spec_RingRoute.eq k n) (Ev.bind ((l1In_ev n 1 10).isF h) (Ev.yes rfl (Ev.now _))), ⟨by simp, by simp, by simp⟩, nofun⟩
theorem ring_fit (n : Nat) (h : n ≤ 100) : FitR (ringO n) (List.replicate n 0) := ⟨by simp [ringO]; omega, by simp; omega, fun l hl => by
  obtain ⟨i, _, rfl⟩ := List.mem_map.1 hl
  simp⟩
theorem ring_loop (n : Nat) (hn : n ≤ 100) (h : Ev (fun k => spec_WalkLoop k ((ringO n, List.replicate n 0), 0)) (0, w64 (2 * (n : Int)), true)) : Ev (fun k => impl_WalkLoop k ((ringO n, List.replicate n 0), 0)) (0, w64 (2 * (n : Int)), true) := by
  obtain ⟨x, y, ok, h1, h2, _⟩ := walkLoop_ev (ringO n) (List.replicate n 0) 0 (ring_fit n hn)
  rw [Ev.one h2 h] at h1
  exact h1
theorem ring_yes (n : Nat) (hn : n ≤ 100) (h1 : Ev (fun k => impl_RingRoute k (n : Int)) ((ringO n, List.replicate n 0), true)) (h2 : Ev (fun k => spec_RingRoute k (n : Int)) ((ringO n, List.replicate n 0), true)) (h3 : Ev (fun k => spec_WalkLoop k ((ringO n, List.replicate n 0), 0)) (0, w64 (2 * (n : Int)), true)) : RingF (n : Int) :=
  ⟨ringO n, List.replicate n 0, true, h1, h2, ring_fit n hn, fun _ => ring_loop n hn h3⟩
theorem ring_1 : RingF ((1 : Nat) : Int) := ring_yes 1 (by omega) (Ev.conc fun k => by kernel_rfl) (Ev.conc fun k => by kernel_rfl) (Ev.conc fun k => by kernel_rfl)
theorem ring_2 : RingF ((2 : Nat) : Int) := ring_yes 2 (by omega) (Ev.conc fun k => by kernel_rfl) (Ev.conc fun k => by kernel_rfl) (Ev.conc fun k => by kernel_rfl)
theorem ring_3 : RingF ((3 : Nat) : Int) := ring_yes 3 (by omega) (Ev.conc fun k => by kernel_rfl) (Ev.conc fun k => by kernel_rfl) (Ev.conc fun k => by kernel_rfl)
theorem ring_5 : RingF ((5 : Nat) : Int) := ring_yes 5 (by omega) (Ev.conc fun k => by kernel_rfl) (Ev.conc fun k => by kernel_rfl) (Ev.conc fun k => by kernel_rfl)
theorem ring_10 : RingF ((10 : Nat) : Int) := ring_yes 10 (by omega) (Ev.conc fun k => by kernel_rfl) (Ev.conc fun k => by kernel_rfl) (Ev.conc fun k => by kernel_rfl)
def LineF (n : Int) : Prop := ∃ o r b, Ev (fun k => impl_LineRoute k n) ((o, r), b) ∧ Ev (fun k => spec_LineRoute k n) ((o, r), b) ∧ FitR o r ∧ (b = true → (n.tmod 2 == 1) = true → ∃ x, Ev (fun k => impl_SendWalkers k ((o, r), w64 (n.tdiv 2), [0, w64 (n - 1)], 8)) ([x, x], true))
theorem line_no (n : Int) (h : ¬ (2 ≤ n ∧ n ≤ 10)) : LineF n :=
  ⟨[], [], false, Ev.step (fun k => impl_LineRoute.eq k n) (Ev.bind ((within_ev n 2 10).isF h) (Ev.yes rfl (Ev.now _))), Ev.step (fun k => spec_LineRoute.eq k n) (Ev.bind ((l1In_ev n 2 10).isF h) (Ev.yes rfl (Ev.now _))), ⟨by simp, by simp, by simp⟩, nofun⟩
theorem line_fit (n : Nat) (h : n ≤ 100) : FitR (lineO n) (List.replicate n 0) := ⟨by simp [lineO]; omega, by simp; omega, fun l hl => by
  obtain ⟨i, _, rfl⟩ := List.mem_map.1 hl
  split
  · simp
  · split <;> simp⟩
theorem line_2 : LineF 2 := ⟨lineO 2, List.replicate 2 0, true, Ev.conc fun k => by kernel_rfl, Ev.conc fun k => by kernel_rfl, line_fit 2 (by omega), fun _ h => absurd h (by decide)⟩
theorem line_10 : LineF 10 := ⟨lineO 10, List.replicate 10 0, true, Ev.conc fun k => by kernel_rfl, Ev.conc fun k => by kernel_rfl, line_fit 10 (by omega), fun _ h => absurd h (by decide)⟩
theorem line_3 : LineF 3 := ⟨lineO 3, List.replicate 3 0, true, Ev.conc fun k => by kernel_rfl, Ev.conc fun k => by kernel_rfl, line_fit 3 (by omega), fun _ _ => ⟨4, Ev.conc fun k => by kernel_rfl⟩⟩
theorem line_5 : LineF 5 := ⟨lineO 5, List.replicate 5 0, true, Ev.conc fun k => by kernel_rfl, Ev.conc fun k => by kernel_rfl, line_fit 5 (by omega), fun _ _ => ⟨4, Ev.conc fun k => by kernel_rfl⟩⟩
theorem nine_ev (n : Int) (h : n ∈ [1, 2, 3, 5, 10, 11, 0, -1]) : RingF n ∧ LineF n := by
  simp only [List.mem_cons, List.not_mem_nil, or_false] at h
  rcases h with rfl | rfl | rfl | rfl | rfl | rfl | rfl | rfl
  · exact ⟨ring_1, line_no _ (by omega)⟩
  · exact ⟨ring_2, line_2⟩
  · exact ⟨ring_3, line_3⟩
  · exact ⟨ring_5, line_5⟩
  · exact ⟨ring_10, line_10⟩
  · exact ⟨ring_no _ (by omega), line_no _ (by omega)⟩
  · exact ⟨ring_no _ (by omega), line_no _ (by omega)⟩
  · exact ⟨ring_no _ (by omega), line_no _ (by omega)⟩
/-! ### Draws -/
theorem drawSteps_ev (code : List Int) (hc : ∀ x ∈ code, 0 ≤ x ∧ x ≤ 255) : ∃ o r a b, Ev (fun k => spec_DrawStepsToNode k code) ((o, r), a, b) ∧ TinyR o r := by
  obtain ⟨o, r, c1, e1, ht, H1⟩ := route_ev 0 _ (CurOk.start hc) (by omega)
  obtain ⟨a, c2, e2, _, _, H2⟩ := pick_ev (0 + 300) c1 H1 (by omega) (w64 ((o.length : Int) + 1))
  obtain ⟨b, c3, e3, _, _, H3⟩ := pick_ev (0 + 302) c2 H2 (by omega) (w64 ((o.length : Int) + 1))
  exact ⟨o, r, a, b, Ev.step (fun k => spec_DrawStepsToNode.eq k code) (Ev.bind e1 (Ev.bind e2 (Ev.bind e3 (Ev.now _)))), ht⟩
theorem drawSend_l_ev (z : OutR × List Int) (o : OutR) (r : List Int) (a : Int) (n : Nat) (hn : n ≤ 10) : ∀ (m i q : Nat) (c : CurT) (ends : List Int), i + m = n → CurOk q c → q + 2 * m + 100 ≤ 1099511627776 → ends.length ≤ i →
    ∃ ends' c', Ev (fun k => spec_DrawSendWalkers_l k (z, c, (o, r), (n : Int), a, ends, (i : Int))) (z, c', (o, r), (n : Int), a, ends') ∧ ends'.length ≤ n ∧ CurOk (q + 2 * m) c'
  | 0, i, q, c, ends, h, H, hq, hl => ⟨ends, c, Ev.step (fun k => spec_DrawSendWalkers_l.eq k z.1 z.2 c.1 c.2.1 c.2.2 o r (n : Int) a ends (i : Int)) (Ev.no (not_lt_nat (by omega)) (Ev.now _)), by omega, H⟩
  | m + 1, i, q, c, ends, h, H, hq, hl => by
    obtain ⟨b, c1, e1, H1⟩ := one_ev q c H (by omega) 2
    cases b with
    | true =>
      obtain ⟨ends', c', g1, g2, g3⟩ := drawSend_l_ev z o r a n hn m (i + 1) (q + 2) c1 (ends ++ [(i : Int)]) (by omega) H1 (by omega) (by simp; omega)
      refine ⟨ends', c', Ev.step (fun k => spec_DrawSendWalkers_l.eq k z.1 z.2 c.1 c.2.1 c.2.2 o r (n : Int) a ends (i : Int)) (Ev.yes (lt_nat (by omega)) (Ev.bind e1 (Ev.yes rfl (Ev.yes (fits_of (by omega)) ?_)))), g2, by rw [show q + 2 * (m + 1) = q + 2 + 2 * m by omega]; exact g3⟩
      rw [w64_succ (by omega)]
      exact g1
    | false =>
      obtain ⟨ends', c', g1, g2, g3⟩ := drawSend_l_ev z o r a n hn m (i + 1) (q + 2) c1 ends (by omega) H1 (by omega) (by omega)
      refine ⟨ends', c', Ev.step (fun k => spec_DrawSendWalkers_l.eq k z.1 z.2 c.1 c.2.1 c.2.2 o r (n : Int) a ends (i : Int)) (Ev.yes (lt_nat (by omega)) (Ev.bind e1 (Ev.no rfl ?_))), g2, by rw [show q + 2 * (m + 1) = q + 2 + 2 * m by omega]; exact g3⟩
      rw [w64_succ (by omega)]
      exact g1
theorem drawSend_ev (code : List Int) (hc : ∀ x ∈ code, 0 ≤ x ∧ x ≤ 255) : ∃ o r a ends count, Ev (fun k => spec_DrawSendWalkers k code) ((o, r), a, ends, count) ∧ TinyR o r ∧ ends.length ≤ 100 := by
  obtain ⟨o, r, c1, e1, ht, H1⟩ := route_ev 0 _ (CurOk.start hc) (by omega)
  obtain ⟨a, c2, e2, _, _, H2⟩ := pick_ev (0 + 300) c1 H1 (by omega) (w64 ((o.length : Int) + 1))
  have h8 := ht.1
  obtain ⟨ends, c3, e3, hl, H3⟩ := drawSend_l_ev ([], []) o r a o.length (by omega) o.length 0 (0 + 302) c2 [] (by omega) H2 (by omega) (by simp)
  have H3 : CurOk 400 c3 := H3.up (by omega) (by omega)
  obtain ⟨b, c4, e4, H4⟩ := one_ev 400 c3 H3 (by omega) 10
  cases b with
  | true =>
    obtain ⟨x, c5, e5, _, H5⟩ := among_ev 402 c4 H4 (by omega) [0, (o.length : Int), (-1)] (by simp)
    obtain ⟨count, c6, e6, _, H6⟩ := among_ev 404 c5 H5 (by omega) [0, 1, 4, 10, 20, 100, 101, (-1)] (by simp)
    exact ⟨o, r, a, ends ++ [x], count, Ev.step (fun k => spec_DrawSendWalkers.eq k code) (Ev.bind e1 (Ev.bind e2 (Ev.bind e3 (Ev.bind e4 (Ev.yes rfl (Ev.bind e5 (Ev.yes (fits_of (by simp only; omega)) (Ev.bind e6 (Ev.now _))))))))), ht, by simp; omega⟩
  | false =>
    obtain ⟨count, c6, e6, _, H6⟩ := among_ev 402 c4 H4 (by omega) [0, 1, 4, 10, 20, 100, 101, (-1)] (by simp)
    exact ⟨o, r, a, ends, count, Ev.step (fun k => spec_DrawSendWalkers.eq k code) (Ev.bind e1 (Ev.bind e2 (Ev.bind e3 (Ev.bind e4 (Ev.no rfl (Ev.bind e6 (Ev.now _))))))), ht, by omega⟩
end Go.Proofs.YtiaagflfiphioaaDoorS
