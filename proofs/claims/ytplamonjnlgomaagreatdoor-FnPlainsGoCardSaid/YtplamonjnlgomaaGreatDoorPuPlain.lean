/- Plains: what is one; maps of spots; a step. -/
import Derived.Test.YtplamonjnlgomaaGreatDoorPuDigits
namespace Go.Proofs.YtplamonjnlgomaaGreatDoorS
open Go
set_option linter.unusedVariables false
set_option linter.unusedSimpArgs false

abbrev Sp := Int × (Int × Int)
abbrev Pt := Int × Int
def Far (n : Int) : Prop := -1000 ≤ n ∧ n ≤ 1000
def Less (a b : Sp) : Prop := a.2.1 < b.2.1 ∨ (a.2.1 = b.2.1 ∧ a.1 < b.1)
def ent (s : Sp) : Pt × Int := ((s.1, s.2.1), s.2.2)
def SpotOk (t : Int) (s : Sp) : Prop := (Far s.1 ∧ Far s.2.1) ∧ (1 ≤ s.2.2 ∧ s.2.2 ≤ t - 1)
def SpotsOk (t : Int) (sp : List Sp) : Prop := (∀ s ∈ sp, SpotOk t s) ∧ sp.Pairwise Less
def PlainOk (rl : ByteArray) (sp : List Sp) (x y wy : Int) : Prop := RuleOk rl ∧ sp.length ≤ 300 ∧ (Far x ∧ Far y) ∧ (0 ≤ wy ∧ wy ≤ 3) ∧ SpotsOk rl.size sp
abbrev pe : Pt → Pt → Bool := Sh.eqT (.pair (.int .i64) (.int .i64))
theorem pe_iff {a b : Pt} : pe a b = true ↔ a = b := by
  have e : pe a b = ((a.1 == b.1) && (a.2 == b.2)) := rfl
  rw [e, Bool.and_eq_true, beq_iff_eq, beq_iff_eq]
  exact ⟨fun h => Prod.ext h.1 h.2, fun h => by rw [h]; exact ⟨rfl, rfl⟩⟩
theorem pe_self (a : Pt) : pe a a = true := pe_iff.2 rfl
theorem pe_false {a b : Pt} (h : a ≠ b) : pe a b = false := by
  cases e : pe a b with
  | false => rfl
  | true => exact absurd (pe_iff.1 e) h
/-! ### Maps -/
def Keys (l : List (Pt × Int)) : Prop := (l.map Prod.fst).Nodup
theorem Keys.tail {e : Pt × Int} {l : List (Pt × Int)} (h : Keys (e :: l)) : e.1 ∉ l.map Prod.fst ∧ Keys l := by
  unfold Keys at h
  rw [List.map_cons, List.nodup_cons] at h
  exact h
theorem Keys.perm {l m : List (Pt × Int)} (h : Keys l) (p : l.Perm m) : Keys m := (p.map Prod.fst).nodup_iff.1 h
def Col (l : List (Pt × Int)) (q : Pt) (c : Int) : Prop := (q, c) ∈ l ∨ (c = 0 ∧ q ∉ l.map Prod.fst)
theorem mget_col : ∀ {l : List (Pt × Int)} {q : Pt} {c : Int}, Keys l → Col l q c → mget pe l q 0 = c
  | [], q, c, _, h => by
    rcases h with h | h
    · cases h
    · exact h.1.symm
  | e :: l, q, c, hk, h => by
    obtain ⟨k1, k2⟩ := hk.tail
    unfold mget
    by_cases hq : q = e.1
    · rw [pe_iff.2 hq]
      rcases h with h | h
      · rcases List.mem_cons.1 h with h | h
        · rw [← h]; rfl
        · exact absurd (List.mem_map_of_mem (f := Prod.fst) h) (by rw [hq]; exact k1)
      · exact absurd (by rw [hq]; simp) h.2
    · rw [pe_false hq]
      refine mget_col k2 ?_
      rcases h with h | h
      · rcases List.mem_cons.1 h with h | h
        · exact absurd (by rw [← h]) hq
        · exact .inl h
      · exact .inr ⟨h.1, fun hm => h.2 (by rw [List.map_cons]; exact List.mem_cons_of_mem _ hm)⟩
theorem Col.perm {l m : List (Pt × Int)} {q : Pt} {c : Int} (h : Col l q c) (p : l.Perm m) : Col m q c := by
  rcases h with h | h
  · exact .inl (p.mem_iff.1 h)
  · exact .inr ⟨h.1, fun hm => h.2 ((p.map Prod.fst).mem_iff.2 hm)⟩
theorem mdel_filter (q : Pt) : ∀ {l : List (Pt × Int)}, Keys l → mdel pe l q = l.filter (fun e => !pe q e.1)
  | [], _ => rfl
  | e :: l, hk => by
    obtain ⟨k1, k2⟩ := hk.tail
    unfold mdel
    by_cases hq : q = e.1
    · rw [pe_iff.2 hq]
      have : (e :: l).filter (fun e => !pe q e.1) = l.filter (fun e => !pe q e.1) := by rw [List.filter_cons, pe_iff.2 hq]; rfl
      rw [this]
      symm
      exact List.filter_eq_self.2 fun z hz => by
        rw [pe_false fun e' => k1 (by rw [← hq, e']; exact List.mem_map_of_mem hz)]
        rfl
    · rw [pe_false hq, List.filter_cons, pe_false hq]
      show e :: mdel pe l q = e :: _
      rw [mdel_filter q k2]
theorem mput_new (q : Pt) (c : Int) : ∀ {l : List (Pt × Int)}, q ∉ l.map Prod.fst → mput pe l q c = l ++ [(q, c)]
  | [], _ => rfl
  | e :: l, h => by
    rw [List.map_cons, List.mem_cons, not_or] at h
    unfold mput
    rw [pe_false h.1]
    show e :: mput pe l q c = _
    rw [mput_new q c h.2]
    rfl
/-! ### Order -/
theorem Less.trans {a b c : Sp} (h : Less a b) (h' : Less b c) : Less a c := by unfold Less at *; omega
theorem Less.key {a b b' : Sp} (h : Less a b) (e1 : b.1 = b'.1) (e2 : b.2.1 = b'.2.1) : Less a b' := by unfold Less at *; omega
theorem Less.ne {a b : Sp} (h : Less a b) : ¬ (a.1 = b.1 ∧ a.2.1 = b.2.1) := by unfold Less at h; omega
theorem less_total {a b : Sp} (h : ¬ Less a b) (h' : ¬ (a.1 = b.1 ∧ a.2.1 = b.2.1)) : Less b a := by unfold Less at *; omega
theorem pairwise_adj : ∀ (l : List Sp), (∀ i a b, l[i]? = some a → l[i + 1]? = some b → Less a b) → l.Pairwise Less
  | [], _ => List.Pairwise.nil
  | [a], _ => List.pairwise_singleton _ _
  | a :: b :: r, h => by
    have ht := pairwise_adj (b :: r) fun i x y h1 h2 => h (i + 1) x y (by simpa using h1) (by simpa using h2)
    have hab := h 0 a b rfl rfl
    refine List.pairwise_cons.2 ⟨fun c hc => ?_, ht⟩
    rcases List.mem_cons.1 hc with rfl | hc
    · exact hab
    · exact hab.trans ((List.pairwise_cons.1 ht).1 c hc)
theorem adj_pairwise {l : List Sp} (h : l.Pairwise Less) {i j : Nat} {a b : Sp} (hi : l[i]? = some a) (hj : l[j]? = some b) (hij : i < j) : Less a b := by
  obtain ⟨h1, rfl⟩ := List.getElem?_eq_some_iff.1 hi
  obtain ⟨h2, rfl⟩ := List.getElem?_eq_some_iff.1 hj
  exact List.pairwise_iff_getElem.1 h i j h1 h2 hij
theorem split_at (q : Sp) : ∀ (l : List Sp), l.Pairwise Less → ∃ A B, l = A ++ B ∧ (∀ s ∈ A, Less s q) ∧ (∀ s ∈ B, ¬ Less s q)
  | [], _ => ⟨[], [], rfl, by simp, by simp⟩
  | a :: l, h => by
    obtain ⟨h1, h2⟩ := List.pairwise_cons.1 h
    by_cases ha : Less a q
    · obtain ⟨A, B, rfl, e1, e2⟩ := split_at q l h2
      exact ⟨a :: A, B, rfl, fun s hs => by
        rcases List.mem_cons.1 hs with rfl | hs
        · exact ha
        · exact e1 s hs, e2⟩
    · refine ⟨[], a :: l, rfl, by simp, fun s hs => ?_⟩
      rcases List.mem_cons.1 hs with rfl | hs
      · exact ha
      · exact fun hl => ha ((h1 s hs).trans hl)
/-! ### Tests -/
theorem enFar_ev (n : Int) : EvB (fun k => spec_enFar k n) (Far n) := EvB.step (fun k => spec_enFar.eq k n) (l1In_ev n (-1000) 1000).ret
theorem enLess_ev (a b : Sp) : EvB (fun k => spec_enLess k (a, b)) (Less a b) := by
  refine EvB.step (fun k => spec_enLess.eq k a.1 a.2.1 a.2.2 b.1 b.2.1 b.2.2) ?_
  by_cases h1 : a.2.1 < b.2.1
  · exact ⟨true, Ev.yes (decide_eq_true h1) (Ev.now _), ⟨fun _ => .inl h1, fun _ => rfl⟩⟩
  · by_cases h2 : a.2.1 = b.2.1
    · exact ⟨decide (a.1 < b.1), Ev.no (decide_eq_false h1) (Ev.yes (beq_iff_eq.2 h2) (Ev.now _)), by rw [decide_eq_true_iff]; unfold Less; omega⟩
    · exact ⟨false, Ev.no (decide_eq_false h1) (Ev.no (beq_eq_false_iff_ne.2 h2) (Ev.now _)), ⟨nofun, fun h => by unfold Less at h; omega⟩⟩
theorem isNear_ev (a b : Int) : EvB (fun k => impl_isNear k [a, b]) (Far a ∧ Far b) := by
  have wi : ∀ n, EvB (fun k => impl_areWithin_1 k (n, -1000, 1000)) (¬ Far n) := fun n => EvB.step (fun k => impl_areWithin_1.eq k n (-1000) 1000) (EvB.neg (within_ev n (-1000) 1000))
  have l2 : Ev (fun k => slices_IndexFunc_l k ([a, b], (-1000, 1000), (([a, b] : List Int).length : Int), 2)) (.inr ()) := Ev.step (fun k => slices_IndexFunc_l.eq k [a, b] (-1000) 1000 _ 2) (Ev.no rfl (Ev.now _))
  have l1y : Far b → Ev (fun k => slices_IndexFunc_l k ([a, b], (-1000, 1000), (([a, b] : List Int).length : Int), 1)) (.inr ()) := fun hb => Ev.step (fun k => slices_IndexFunc_l.eq k [a, b] (-1000) 1000 _ 1) (Ev.yes rfl (Ev.yes rfl (Ev.bind ((wi b).isF fun h => h hb) (Ev.no rfl l2))))
  have l1n : ¬ Far b → Ev (fun k => slices_IndexFunc_l k ([a, b], (-1000, 1000), (([a, b] : List Int).length : Int), 1)) (.inl 1) := fun hb => Ev.step (fun k => slices_IndexFunc_l.eq k [a, b] (-1000) 1000 _ 1) (Ev.yes rfl (Ev.yes rfl (Ev.bind ((wi b).isT hb) (Ev.yes rfl (Ev.now _)))))
  have l0 : ∀ r, Far a → Ev (fun k => slices_IndexFunc_l k ([a, b], (-1000, 1000), (([a, b] : List Int).length : Int), 1)) r → Ev (fun k => slices_IndexFunc_l k ([a, b], (-1000, 1000), (([a, b] : List Int).length : Int), 0)) r := fun r ha H => Ev.step (fun k => slices_IndexFunc_l.eq k [a, b] (-1000) 1000 _ 0) (Ev.yes rfl (Ev.yes rfl (Ev.bind ((wi a).isF fun h => h ha) (Ev.no rfl H))))
  have l0n : ¬ Far a → Ev (fun k => slices_IndexFunc_l k ([a, b], (-1000, 1000), (([a, b] : List Int).length : Int), 0)) (.inl 0) := fun ha => Ev.step (fun k => slices_IndexFunc_l.eq k [a, b] (-1000) 1000 _ 0) (Ev.yes rfl (Ev.yes rfl (Ev.bind ((wi a).isT ha) (Ev.yes rfl (Ev.now _)))))
  have key : ∃ v, Ev (fun k => slices_IndexFunc k ([a, b], (-1000, 1000))) v ∧ (decide (v ≥ 0) = false ↔ Far a ∧ Far b) := by
    by_cases ha : Far a
    · by_cases hb : Far b
      · exact ⟨-1, Ev.step (fun k => slices_IndexFunc.eq k [a, b] (-1000) 1000) (Ev.bind (l0 _ ha (l1y hb)) (Ev.now _)), ⟨fun _ => ⟨ha, hb⟩, fun _ => rfl⟩⟩
      · exact ⟨1, Ev.step (fun k => slices_IndexFunc.eq k [a, b] (-1000) 1000) (Ev.bind (l0 _ ha (l1n hb)) (Ev.now _)), ⟨nofun, fun h => absurd h.2 hb⟩⟩
    · exact ⟨0, Ev.step (fun k => slices_IndexFunc.eq k [a, b] (-1000) 1000) (Ev.bind (l0n ha) (Ev.now _)), ⟨nofun, fun h => absurd h.1 ha⟩⟩
  obtain ⟨v, v1, v2⟩ := key
  exact ⟨!decide (v ≥ 0), Ev.step (fun k => impl_isNear.eq k [a, b]) (Ev.bind (Ev.step (fun k => impl_areWithin.eq k [a, b] (-1000) 1000) (Ev.bind (Ev.step (fun k => slices_ContainsFunc.eq k [a, b] (-1000) 1000) (Ev.bind v1 (Ev.now _))) (Ev.now _))) (Ev.now _)), by rw [Bool.not_eq_true']; exact v2⟩
theorem cmpS_less {a b : Sp} (ha : Far a.1 ∧ Far a.2.1) (hb : Far b.1 ∧ Far b.2.1) : cmpS a b ≥ 0 ↔ ¬ Less a b := by
  unfold cmpS Less
  unfold Far at ha hb
  split
  · rw [w64_of (by omega) (by omega)]; omega
  · rw [w64_of (by omega) (by omega)]; omega
theorem compareSpots_ev (a b : Sp) : Ev (fun k => impl_compareSpots k (a, b)) (cmpS a b) := by
  refine Ev.step (fun k => impl_compareSpots.eq k a.1 a.2.1 a.2.2 b.1 b.2.1 b.2.2) ?_
  unfold cmpS
  by_cases h : a.2.1 = b.2.1
  · rw [if_pos h]; exact Ev.no (bne_eq_false_iff_eq.2 h) (Ev.now _)
  · rw [if_neg h]; exact Ev.yes (bne_iff_ne.2 h) (Ev.now _)
section
variable (rl : ByteArray) (sp : List Sp) (x y wy : Int) (hsp : sp.length ≤ 1048576)
theorem spots_all {t : Int} (h : ∀ i s, sp[i]? = some s → SpotOk t s ∧ ∀ p, 0 < i → sp[i - 1]? = some p → Less p s) : SpotsOk t sp :=
  ⟨fun s hs => by obtain ⟨i, hi⟩ := List.mem_iff_getElem?.1 hs; exact (h i s hi).1, pairwise_adj sp fun i a b ha hb => (h (i + 1) b hb).2 a (by omega) (by simpa using ha)⟩
theorem spots_one {t : Int} (h : SpotsOk t sp) {i : Nat} {s : Sp} (hi : sp[i]? = some s) : SpotOk t s ∧ ∀ p, 0 < i → sp[i - 1]? = some p → Less p s :=
  ⟨h.1 s (List.mem_of_getElem? hi), fun p h0 hp => adj_pairwise h.2 hp hi (by omega)⟩
include hsp in
theorem enGood_ev : EvB (fun k => spec_enGood k (rl, sp, x, y, wy)) (PlainOk rl sp x y wy) := by
  have body : RuleOk rl → EvB (fun k => (spec_enGood_l k ((rl, sp, x, y, wy), (), (sp.length : Int), 0)).bind fun r5 => r5.elim (fun r6 => some r6) (fun r7 => some true)) (SpotsOk rl.size sp) := fun hR => by
    have h6 := hR.1
    have ew : w64 ((rl.size : Int) - 1) = (rl.size : Int) - 1 := w64_of (by omega) (by omega)
    have step : ∀ (i : Nat) (s : Sp), sp[i]? = some s → ∀ r, Ev (fun k => (spec_enFar k s.1).bind fun r1 => cond (!r1) (some (.inl false)) ((spec_enFar k s.2.1).bind fun r2 => cond (!r2) (some (.inl false)) ((spec_l1In k (s.2.2, 1, (rl.size : Int) - 1)).bind fun r3 => cond (!r3) (some (.inl false)) (cond (decide ((i : Int) > 0)) (cond (inB (w64 ((i : Int) - 1)) sp.length) ((spec_enLess k ((sp.getD ((w64 ((i : Int) - 1)).toNat) default), s)).bind fun r4 => cond (!r4) (some (.inl false)) (spec_enGood_l k ((rl, sp, x, y, wy), (), (sp.length : Int), ((i + 1 : Nat) : Int)))) (none)) (spec_enGood_l k ((rl, sp, x, y, wy), (), (sp.length : Int), ((i + 1 : Nat) : Int))))))) r → Ev (fun k => spec_enGood_l k ((rl, sp, x, y, wy), (), (sp.length : Int), (i : Int))) r := fun i s hi r H => by
      have hlt := (List.getElem?_eq_some_iff.1 hi).1
      refine Ev.step (fun k => spec_enGood_l.eq k rl sp x y wy (sp.length : Int) (i : Int)) (Ev.yes (lt_nat hlt) (Ev.yes (inB_nat hlt) ?_))
      rw [Int.toNat_natCast, getD_at hi, ew, w64_succ (by omega)]
      exact H
    have prev : ∀ (i : Nat), 0 < i → i ≤ sp.length → ∃ p, sp[i - 1]? = some p ∧ inB (w64 ((i : Int) - 1)) sp.length = true ∧ sp.getD ((w64 ((i : Int) - 1)).toNat) default = p := fun i h0 hl => by
      obtain ⟨p, hp⟩ := nat_list (l := sp) (i := i - 1) (by omega)
      have e : w64 ((i : Int) - 1) = ((i - 1 : Nat) : Int) := by rw [w64_of (by omega) (by omega)]; omega
      exact ⟨p, hp, by rw [e]; exact inB_nat (by omega), by rw [e, Int.toNat_natCast]; exact getD_at hp⟩
    have srch := Ev.search (L := fun k i => spec_enGood_l k ((rl, sp, x, y, wy), (), (sp.length : Int), i)) (n := sp.length) (fun i => ∃ s, sp[i]? = some s ∧ ¬ (SpotOk rl.size s ∧ ∀ p, 0 < i → sp[i - 1]? = some p → Less p s)) (fun i => .inl false) (.inr ())
      (fun i hi hp r H => by
        obtain ⟨s, hx⟩ := nat_list hi
        have hr : SpotOk rl.size s ∧ ∀ p, 0 < i → sp[i - 1]? = some p → Less p s := Classical.byContradiction fun hn => hp ⟨s, hx, hn⟩
        refine step i s hx r (Ev.bind ((enFar_ev _).isT hr.1.1.1) (Ev.no rfl (Ev.bind ((enFar_ev _).isT hr.1.1.2) (Ev.no rfl (Ev.bind ((l1In_ev _ _ _).isT hr.1.2) (Ev.no rfl ?_))))))
        by_cases h0 : 0 < i
        · obtain ⟨p, p1, p2, p3⟩ := prev i h0 (by omega)
          refine Ev.yes (decide_eq_true (by omega)) (Ev.yes p2 ?_)
          rw [p3]
          exact Ev.bind ((enLess_ev p s).isT (hr.2 p h0 p1)) (Ev.no rfl H)
        · exact Ev.no (decide_eq_false (by omega)) H)
      (fun i hi hp => by
        obtain ⟨s, hx, hn⟩ := hp
        refine step i s hx _ ?_
        by_cases f1 : Far s.1
        rotate_left
        · exact Ev.bind ((enFar_ev _).isF f1) (Ev.yes rfl (Ev.now _))
        refine Ev.bind ((enFar_ev _).isT f1) (Ev.no rfl ?_)
        by_cases f2 : Far s.2.1
        rotate_left
        · exact Ev.bind ((enFar_ev _).isF f2) (Ev.yes rfl (Ev.now _))
        refine Ev.bind ((enFar_ev _).isT f2) (Ev.no rfl ?_)
        by_cases f3 : 1 ≤ s.2.2 ∧ s.2.2 ≤ (rl.size : Int) - 1
        rotate_left
        · exact Ev.bind ((l1In_ev _ _ _).isF f3) (Ev.yes rfl (Ev.now _))
        refine Ev.bind ((l1In_ev _ _ _).isT f3) (Ev.no rfl ?_)
        have h0 : 0 < i := Classical.byContradiction fun h0 => hn ⟨⟨⟨f1, f2⟩, f3⟩, fun p h => absurd h h0⟩
        obtain ⟨p, p1, p2, p3⟩ := prev i h0 (by omega)
        refine Ev.yes (decide_eq_true (by omega)) (Ev.yes p2 ?_)
        rw [p3]
        refine Ev.bind ((enLess_ev p s).isF fun hl => hn ⟨⟨⟨f1, f2⟩, f3⟩, fun p' _ hp' => ?_⟩) (Ev.yes rfl (Ev.now _))
        rw [p1] at hp'
        cases hp'
        exact hl)
      (Ev.step (fun k => spec_enGood_l.eq k rl sp x y wy (sp.length : Int) (sp.length : Int)) (Ev.no (not_lt_nat (Nat.lt_irrefl _)) (Ev.now _))) sp.length 0 (by omega)
    rcases srch with ⟨h1, h2⟩ | ⟨j, _, hj, ⟨s, hx, hn⟩, _, h2⟩
    · exact ⟨true, Ev.bind h2 (Ev.now _), ⟨fun _ => spots_all sp fun i s hi => Classical.byContradiction fun hn => h1 i (Nat.zero_le _) (List.getElem?_eq_some_iff.1 hi).1 ⟨s, hi, hn⟩, fun _ => rfl⟩⟩
    · exact ⟨false, Ev.bind h2 (Ev.now _), ⟨nofun, fun h => absurd (spots_one sp h hx) hn⟩⟩
  have H : EvB (fun k => spec_enGood k (rl, sp, x, y, wy)) (RuleOk rl ∧ (sp.length ≤ 300 ∧ (Far x ∧ (Far y ∧ ((0 ≤ wy ∧ wy ≤ 3) ∧ SpotsOk rl.size sp))))) :=
    EvB.step (fun k => spec_enGood.eq k rl sp x y wy) (EvB.and' (woRuleR_ev rl) fun hR => EvB.ifN (by rw [decide_eq_false_iff_not]; omega) fun _ => EvB.and' (enFar_ev x) fun _ => EvB.and' (enFar_ev y) fun _ => EvB.and' (l1In_ev wy 0 3) fun _ => body hR)
  exact H.iff ⟨fun q => ⟨q.1, q.2.1, ⟨q.2.2.1, q.2.2.2.1⟩, q.2.2.2.2⟩, fun q => ⟨q.1, q.2.1, q.2.2.1.1, q.2.2.1.2, q.2.2.2⟩⟩
include hsp in
theorem isPlain_ev (hrl : rl.size ≤ 9223372036854775807) : EvB (fun k => impl_IsPlain k (rl, sp, x, y, wy)) (PlainOk rl sp x y wy) := by
  have body : RuleOk rl → EvB (fun k => (impl_IsPlain_l k ((rl, sp, x, y, wy), (), (sp.length : Int), 0)).bind fun r5 => r5.elim (fun r6 => some r6) (fun r7 => some true)) (SpotsOk rl.size sp) := fun hR => by
    have h6 := hR.1
    have ew : w64 ((rl.size : Int) - 1) = (rl.size : Int) - 1 := w64_of (by omega) (by omega)
    have step : ∀ (i : Nat) (s : Sp), sp[i]? = some s → ∀ r, Ev (fun k => (impl_isNear k [s.1, s.2.1]).bind fun r1 => cond (!r1) (some (.inl false)) ((impl_within k (s.2.2, 1, (rl.size : Int) - 1)).bind fun r3 => cond (!r3) (some (.inl false)) (cond (decide ((i : Int) > 0)) (cond (inB (w64 ((i : Int) - 1)) sp.length) ((impl_compareSpots k ((sp.getD ((w64 ((i : Int) - 1)).toNat) default), s)).bind fun r4 => cond (decide (r4 ≥ 0)) (some (.inl false)) (impl_IsPlain_l k ((rl, sp, x, y, wy), (), (sp.length : Int), ((i + 1 : Nat) : Int)))) (none)) (impl_IsPlain_l k ((rl, sp, x, y, wy), (), (sp.length : Int), ((i + 1 : Nat) : Int)))))) r → Ev (fun k => impl_IsPlain_l k ((rl, sp, x, y, wy), (), (sp.length : Int), (i : Int))) r := fun i s hi r H => by
      have hlt := (List.getElem?_eq_some_iff.1 hi).1
      refine Ev.step (fun k => impl_IsPlain_l.eq k rl sp x y wy (sp.length : Int) (i : Int)) (Ev.yes (lt_nat hlt) (Ev.yes (inB_nat hlt) ?_))
      rw [Int.toNat_natCast, getD_at hi, ew, w64_succ (by omega)]
      exact H
    have prev : ∀ (i : Nat), 0 < i → i ≤ sp.length → ∃ p, sp[i - 1]? = some p ∧ inB (w64 ((i : Int) - 1)) sp.length = true ∧ sp.getD ((w64 ((i : Int) - 1)).toNat) default = p := fun i h0 hl => by
      obtain ⟨p, hp⟩ := nat_list (l := sp) (i := i - 1) (by omega)
      have e : w64 ((i : Int) - 1) = ((i - 1 : Nat) : Int) := by rw [w64_of (by omega) (by omega)]; omega
      exact ⟨p, hp, by rw [e]; exact inB_nat (by omega), by rw [e, Int.toNat_natCast]; exact getD_at hp⟩
    have srch := Ev.search (L := fun k i => impl_IsPlain_l k ((rl, sp, x, y, wy), (), (sp.length : Int), i)) (n := sp.length) (fun i => ∃ s, sp[i]? = some s ∧ ¬ (SpotOk rl.size s ∧ ∀ p, 0 < i → sp[i - 1]? = some p → ¬ cmpS p s ≥ 0)) (fun i => .inl false) (.inr ())
      (fun i hi hp r H => by
        obtain ⟨s, hx⟩ := nat_list hi
        have hr : SpotOk rl.size s ∧ ∀ p, 0 < i → sp[i - 1]? = some p → ¬ cmpS p s ≥ 0 := Classical.byContradiction fun hn => hp ⟨s, hx, hn⟩
        refine step i s hx r (Ev.bind ((isNear_ev _ _).isT hr.1.1) (Ev.no rfl (Ev.bind ((within_ev _ _ _).isT hr.1.2) (Ev.no rfl ?_))))
        by_cases h0 : 0 < i
        · obtain ⟨p, p1, p2, p3⟩ := prev i h0 (by omega)
          refine Ev.yes (decide_eq_true (by omega)) (Ev.yes p2 ?_)
          rw [p3]
          exact Ev.bind (compareSpots_ev p s) (Ev.no (decide_eq_false (hr.2 p h0 p1)) H)
        · exact Ev.no (decide_eq_false (by omega)) H)
      (fun i hi hp => by
        obtain ⟨s, hx, hn⟩ := hp
        refine step i s hx _ ?_
        by_cases f1 : Far s.1 ∧ Far s.2.1
        rotate_left
        · exact Ev.bind ((isNear_ev _ _).isF f1) (Ev.yes rfl (Ev.now _))
        refine Ev.bind ((isNear_ev _ _).isT f1) (Ev.no rfl ?_)
        by_cases f3 : 1 ≤ s.2.2 ∧ s.2.2 ≤ (rl.size : Int) - 1
        rotate_left
        · exact Ev.bind ((within_ev _ _ _).isF f3) (Ev.yes rfl (Ev.now _))
        refine Ev.bind ((within_ev _ _ _).isT f3) (Ev.no rfl ?_)
        have h0 : 0 < i := Classical.byContradiction fun h0 => hn ⟨⟨f1, f3⟩, fun p h => absurd h h0⟩
        obtain ⟨p, p1, p2, p3⟩ := prev i h0 (by omega)
        refine Ev.yes (decide_eq_true (by omega)) (Ev.yes p2 ?_)
        rw [p3]
        refine Ev.bind (compareSpots_ev p s) (Ev.yes (decide_eq_true (Classical.byContradiction fun hl => hn ⟨⟨f1, f3⟩, fun p' _ hp' => ?_⟩)) (Ev.now _))
        rw [p1] at hp'
        cases hp'
        exact hl)
      (Ev.step (fun k => impl_IsPlain_l.eq k rl sp x y wy (sp.length : Int) (sp.length : Int)) (Ev.no (not_lt_nat (Nat.lt_irrefl _)) (Ev.now _))) sp.length 0 (by omega)
    rcases srch with ⟨h1, h2⟩ | ⟨j, _, hj, ⟨s, hx, hn⟩, hb, h2⟩
    · have all : ∀ i s, sp[i]? = some s → SpotOk rl.size s ∧ ∀ p, 0 < i → sp[i - 1]? = some p → ¬ cmpS p s ≥ 0 := fun i s hi => Classical.byContradiction fun hn => h1 i (Nat.zero_le _) (List.getElem?_eq_some_iff.1 hi).1 ⟨s, hi, hn⟩
      refine ⟨true, Ev.bind h2 (Ev.now _), ⟨fun _ => spots_all sp fun i s hi => ⟨(all i s hi).1, fun p h0 hp => ?_⟩, fun _ => rfl⟩⟩
      have := (all i s hi).2 p h0 hp
      rw [cmpS_less (all _ p hp).1.1 (all i s hi).1.1] at this
      exact Classical.not_not.1 this
    · refine ⟨false, Ev.bind h2 (Ev.now _), ⟨nofun, fun h => ?_⟩⟩
      obtain ⟨o1, o2⟩ := spots_one sp h hx
      refine absurd ⟨o1, fun p h0 hp => ?_⟩ hn
      rw [cmpS_less (h.1 p (List.mem_of_getElem? hp)).1 o1.1]
      exact fun hc => hc (o2 p h0 hp)
  have H : EvB (fun k => impl_IsPlain k (rl, sp, x, y, wy)) (RuleOk rl ∧ (sp.length ≤ 300 ∧ ((Far x ∧ Far y) ∧ ((0 ≤ wy ∧ wy ≤ 3) ∧ SpotsOk rl.size sp)))) :=
    EvB.step (fun k => impl_IsPlain.eq k rl sp x y wy) (EvB.and' (isRuleR_ev rl hrl) fun hR => EvB.ifN (by rw [decide_eq_false_iff_not]; omega) fun _ => EvB.and' (isNear_ev x y) fun _ => EvB.and' (EvB.step (fun k => impl_isWay.eq k wy) (within_ev wy 0 3).ret) fun _ => body hR)
  exact H
end
end Go.Proofs.YtplamonjnlgomaaGreatDoorS
