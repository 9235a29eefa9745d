/- Several texts in one: PuPlain, PuPlain2, PuPlainF, PuMove, PuOther, PuAfter, PuPlainS, PuPmA, PuPmB, PuPmC. -/
import Derived.Test.YtblgfbkifhfjpaaGreatDoorPuDigits
import Derived.Test.YtblgfbkifhfjpaaGreatDoorSimSo
namespace Go.Proofs.YtblgfbkifhfjpaaGreatDoorS
open Go Go.Sort
set_option linter.unusedVariables false
set_option linter.unusedSimpArgs false

abbrev Sp := Int × (Int × Int)
abbrev Pt := Int × Int
def Far (n : Int) : Prop := -1000 ≤ n ∧ n ≤ 1000
def Less (a b : Sp) : Prop := a.2.1 < b.2.1 ∨ (a.2.1 = b.2.1 ∧ a.1 < b.1)
def ent (s : Sp) : Pt × Int := ((s.1, s.2.1), s.2.2)
def SpotOk (t : Int) (s : Sp) : Prop := (Far s.1 ∧ Far s.2.1) ∧ (1 ≤ s.2.2 ∧ s.2.2 ≤ t - 1)
def SpotsOk (t : Int) (sp : List Sp) : Prop := (∀ s ∈ sp, SpotOk t s) ∧ sp.Pairwise Less
def PlainOk (rl : ByteArray) (sp : List Sp) (x y wy : Int) : Prop := RuleOk rl ∧ sp.length ≤ 300 ∧ (Far x ∧ Far y) ∧ (0 ≤ wy ∧ wy ≤ 3) ∧ SpotsOk rl.size sp
abbrev pe : Pt → Pt → Bool := Sh.eqT (.pair (.int .i64) (.int .i64))
theorem pe_iff {a b : Pt} : pe a b = true ↔ a = b := by
  have e : pe a b = ((a.1 == b.1) && (a.2 == b.2)) := rfl
  rw [e, Bool.and_eq_true, beq_iff_eq, beq_iff_eq]
  exact ⟨fun h => Prod.ext h.1 h.2, fun h => by rw [h]; exact ⟨rfl, rfl⟩⟩
theorem pe_self (a : Pt) : pe a a = true := pe_iff.2 rfl
theorem pe_false {a b : Pt} (h : a ≠ b) : pe a b = false := by
  cases e : pe a b with
  | false => rfl
  | true => exact absurd (pe_iff.1 e) h
/-! ### Maps -/
def Keys (l : List (Pt × Int)) : Prop := (l.map Prod.fst).Nodup
theorem Keys.tail {e : Pt × Int} {l : List (Pt × Int)} (h : Keys (e :: l)) : e.1 ∉ l.map Prod.fst ∧ Keys l := by
  unfold Keys at h
  rw [List.map_cons, List.nodup_cons] at h
  exact h
theorem Keys.perm {l m : List (Pt × Int)} (h : Keys l) (p : l.Perm m) : Keys m := (p.map Prod.fst).nodup_iff.1 h
def Col (l : List (Pt × Int)) (q : Pt) (c : Int) : Prop := (q, c) ∈ l ∨ (c = 0 ∧ q ∉ l.map Prod.fst)
theorem mget_col : ∀ {l : List (Pt × Int)} {q : Pt} {c : Int}, Keys l → Col l q c → mget pe l q 0 = c
  | [], q, c, _, h => by
    rcases h with h | h
    · cases h
    · exact h.1.symm
  | e :: l, q, c, hk, h => by
    obtain ⟨k1, k2⟩ := hk.tail
    unfold mget
    by_cases hq : q = e.1
    · rw [pe_iff.2 hq]
      rcases h with h | h
      · rcases List.mem_cons.1 h with h | h
        · rw [← h]; rfl
        · exact absurd (List.mem_map_of_mem (f := Prod.fst) h) (by rw [hq]; exact k1)
      · exact absurd (by rw [hq]; simp) h.2
    · rw [pe_false hq]
      refine mget_col k2 ?_
      rcases h with h | h
      · rcases List.mem_cons.1 h with h | h
        · exact absurd (by rw [← h]) hq
        · exact .inl h
      · exact .inr ⟨h.1, fun hm => h.2 (by rw [List.map_cons]; exact List.mem_cons_of_mem _ hm)⟩
theorem Col.perm {l m : List (Pt × Int)} {q : Pt} {c : Int} (h : Col l q c) (p : l.Perm m) : Col m q c := by
  rcases h with h | h
  · exact .inl (p.mem_iff.1 h)
  · exact .inr ⟨h.1, fun hm => h.2 ((p.map Prod.fst).mem_iff.2 hm)⟩
theorem mdel_filter (q : Pt) : ∀ {l : List (Pt × Int)}, Keys l → mdel pe l q = l.filter (fun e => !pe q e.1)
  | [], _ => rfl
  | e :: l, hk => by
    obtain ⟨k1, k2⟩ := hk.tail
    unfold mdel
    by_cases hq : q = e.1
    · rw [pe_iff.2 hq]
      have : (e :: l).filter (fun e => !pe q e.1) = l.filter (fun e => !pe q e.1) := by rw [List.filter_cons, pe_iff.2 hq]; rfl
      rw [this]
      symm
      exact List.filter_eq_self.2 fun z hz => by
        rw [pe_false fun e' => k1 (by rw [← hq, e']; exact List.mem_map_of_mem hz)]
        rfl
    · rw [pe_false hq, List.filter_cons, pe_false hq]
      show e :: mdel pe l q = e :: _
      rw [mdel_filter q k2]
theorem mput_new (q : Pt) (c : Int) : ∀ {l : List (Pt × Int)}, q ∉ l.map Prod.fst → mput pe l q c = l ++ [(q, c)]
  | [], _ => rfl
  | e :: l, h => by
    rw [List.map_cons, List.mem_cons, not_or] at h
    unfold mput
    rw [pe_false h.1]
    show e :: mput pe l q c = _
    rw [mput_new q c h.2]
    rfl
/-! ### Order -/
theorem Less.trans {a b c : Sp} (h : Less a b) (h' : Less b c) : Less a c := by unfold Less at *; omega
theorem Less.key {a b b' : Sp} (h : Less a b) (e1 : b.1 = b'.1) (e2 : b.2.1 = b'.2.1) : Less a b' := by unfold Less at *; omega
theorem Less.ne {a b : Sp} (h : Less a b) : ¬ (a.1 = b.1 ∧ a.2.1 = b.2.1) := by unfold Less at h; omega
theorem less_total {a b : Sp} (h : ¬ Less a b) (h' : ¬ (a.1 = b.1 ∧ a.2.1 = b.2.1)) : Less b a := by unfold Less at *; omega
theorem pairwise_adj : ∀ (l : List Sp), (∀ i a b, l[i]? = some a → l[i + 1]? = some b → Less a b) → l.Pairwise Less
  | [], _ => List.Pairwise.nil
  | [a], _ => List.pairwise_singleton _ _
  | a :: b :: r, h => by
    have ht := pairwise_adj (b :: r) fun i x y h1 h2 => h (i + 1) x y (by simpa using h1) (by simpa using h2)
    have hab := h 0 a b rfl rfl
    refine List.pairwise_cons.2 ⟨fun c hc => ?_, ht⟩
    rcases List.mem_cons.1 hc with rfl | hc
    · exact hab
    · exact hab.trans ((List.pairwise_cons.1 ht).1 c hc)
theorem adj_pairwise {l : List Sp} (h : l.Pairwise Less) {i j : Nat} {a b : Sp} (hi : l[i]? = some a) (hj : l[j]? = some b) (hij : i < j) : Less a b := by
  obtain ⟨h1, rfl⟩ := List.getElem?_eq_some_iff.1 hi
  obtain ⟨h2, rfl⟩ := List.getElem?_eq_some_iff.1 hj
  exact List.pairwise_iff_getElem.1 h i j h1 h2 hij
theorem split_at (q : Sp) : ∀ (l : List Sp), l.Pairwise Less → ∃ A B, l = A ++ B ∧ (∀ s ∈ A, Less s q) ∧ (∀ s ∈ B, ¬ Less s q)
  | [], _ => ⟨[], [], rfl, by simp, by simp⟩
  | a :: l, h => by
    obtain ⟨h1, h2⟩ := List.pairwise_cons.1 h
    by_cases ha : Less a q
    · obtain ⟨A, B, rfl, e1, e2⟩ := split_at q l h2
      exact ⟨a :: A, B, rfl, fun s hs => by
        rcases List.mem_cons.1 hs with rfl | hs
        · exact ha
        · exact e1 s hs, e2⟩
    · refine ⟨[], a :: l, rfl, by simp, fun s hs => ?_⟩
      rcases List.mem_cons.1 hs with rfl | hs
      · exact ha
      · exact fun hl => ha ((h1 s hs).trans hl)
/-! ### Tests -/
theorem enFar_ev (n : Int) : EvB (fun k => spec_enFar k n) (Far n) := EvB.step (fun k => spec_enFar.eq k n) (l1In_ev n (-1000) 1000).ret
theorem enLess_ev (a b : Sp) : EvB (fun k => spec_enLess k (a, b)) (Less a b) := by
  refine EvB.step (fun k => spec_enLess.eq k a.1 a.2.1 a.2.2 b.1 b.2.1 b.2.2) ?_
  by_cases h1 : a.2.1 < b.2.1
  · exact ⟨true, Ev.yes (decide_eq_true h1) (Ev.now _), ⟨fun _ => .inl h1, fun _ => rfl⟩⟩
  · by_cases h2 : a.2.1 = b.2.1
    · exact ⟨decide (a.1 < b.1), Ev.no (decide_eq_false h1) (Ev.yes (beq_iff_eq.2 h2) (Ev.now _)), by rw [decide_eq_true_iff]; unfold Less; omega⟩
    · exact ⟨false, Ev.no (decide_eq_false h1) (Ev.no (beq_eq_false_iff_ne.2 h2) (Ev.now _)), ⟨nofun, fun h => by unfold Less at h; omega⟩⟩
theorem isNear_ev (a b : Int) : EvB (fun k => impl_isNear k [a, b]) (Far a ∧ Far b) := by
  have wi : ∀ n, EvB (fun k => impl_areWithin_1 k (n, -1000, 1000)) (¬ Far n) := fun n => EvB.step (fun k => impl_areWithin_1.eq k n (-1000) 1000) (EvB.neg (within_ev n (-1000) 1000))
  have l2 : Ev (fun k => slices_IndexFunc_l k ([a, b], (-1000, 1000), (([a, b] : List Int).length : Int), 2)) (.inr ()) := Ev.step (fun k => slices_IndexFunc_l.eq k [a, b] (-1000) 1000 _ 2) (Ev.no rfl (Ev.now _))
  have l1y : Far b → Ev (fun k => slices_IndexFunc_l k ([a, b], (-1000, 1000), (([a, b] : List Int).length : Int), 1)) (.inr ()) := fun hb => Ev.step (fun k => slices_IndexFunc_l.eq k [a, b] (-1000) 1000 _ 1) (Ev.yes rfl (Ev.yes rfl (Ev.bind ((wi b).isF fun h => h hb) (Ev.no rfl l2))))
  have l1n : ¬ Far b → Ev (fun k => slices_IndexFunc_l k ([a, b], (-1000, 1000), (([a, b] : List Int).length : Int), 1)) (.inl 1) := fun hb => Ev.step (fun k => slices_IndexFunc_l.eq k [a, b] (-1000) 1000 _ 1) (Ev.yes rfl (Ev.yes rfl (Ev.bind ((wi b).isT hb) (Ev.yes rfl (Ev.now _)))))
  have l0 : ∀ r, Far a → Ev (fun k => slices_IndexFunc_l k ([a, b], (-1000, 1000), (([a, b] : List Int).length : Int), 1)) r → Ev (fun k => slices_IndexFunc_l k ([a, b], (-1000, 1000), (([a, b] : List Int).length : Int), 0)) r := fun r ha H => Ev.step (fun k => slices_IndexFunc_l.eq k [a, b] (-1000) 1000 _ 0) (Ev.yes rfl (Ev.yes rfl (Ev.bind ((wi a).isF fun h => h ha) (Ev.no rfl H))))
  have l0n : ¬ Far a → Ev (fun k => slices_IndexFunc_l k ([a, b], (-1000, 1000), (([a, b] : List Int).length : Int), 0)) (.inl 0) := fun ha => Ev.step (fun k => slices_IndexFunc_l.eq k [a, b] (-1000) 1000 _ 0) (Ev.yes rfl (Ev.yes rfl (Ev.bind ((wi a).isT ha) (Ev.yes rfl (Ev.now _)))))
  have key : ∃ v, Ev (fun k => slices_IndexFunc k ([a, b], (-1000, 1000))) v ∧ (decide (v ≥ 0) = false ↔ Far a ∧ Far b) := by
    by_cases ha : Far a
    · by_cases hb : Far b
      · exact ⟨-1, Ev.step (fun k => slices_IndexFunc.eq k [a, b] (-1000) 1000) (Ev.bind (l0 _ ha (l1y hb)) (Ev.now _)), ⟨fun _ => ⟨ha, hb⟩, fun _ => rfl⟩⟩
      · exact ⟨1, Ev.step (fun k => slices_IndexFunc.eq k [a, b] (-1000) 1000) (Ev.bind (l0 _ ha (l1n hb)) (Ev.now _)), ⟨nofun, fun h => absurd h.2 hb⟩⟩
    · exact ⟨0, Ev.step (fun k => slices_IndexFunc.eq k [a, b] (-1000) 1000) (Ev.bind (l0n ha) (Ev.now _)), ⟨nofun, fun h => absurd h.1 ha⟩⟩
  obtain ⟨v, v1, v2⟩ := key
  exact ⟨!decide (v ≥ 0), Ev.step (fun k => impl_isNear.eq k [a, b]) (Ev.bind (Ev.step (fun k => impl_areWithin.eq k [a, b] (-1000) 1000) (Ev.bind (Ev.step (fun k => slices_ContainsFunc.eq k [a, b] (-1000) 1000) (Ev.bind v1 (Ev.now _))) (Ev.now _))) (Ev.now _)), by rw [Bool.not_eq_true']; exact v2⟩
theorem cmpS_less {a b : Sp} (ha : Far a.1 ∧ Far a.2.1) (hb : Far b.1 ∧ Far b.2.1) : cmpS a b ≥ 0 ↔ ¬ Less a b := by
  unfold cmpS Less
  unfold Far at ha hb
  split
  · rw [w64_of (by omega) (by omega)]; omega
  · rw [w64_of (by omega) (by omega)]; omega
theorem compareSpots_ev (a b : Sp) : Ev (fun k => impl_compareSpots k (a, b)) (cmpS a b) := by
  refine Ev.step (fun k => impl_compareSpots.eq k a.1 a.2.1 a.2.2 b.1 b.2.1 b.2.2) ?_
  unfold cmpS
  by_cases h : a.2.1 = b.2.1
  · rw [if_pos h]; exact Ev.no (bne_eq_false_iff_eq.2 h) (Ev.now _)
  · rw [if_neg h]; exact Ev.yes (bne_iff_ne.2 h) (Ev.now _)
section
variable (rl : ByteArray) (sp : List Sp) (x y wy : Int) (hsp : sp.length ≤ 1048576)
theorem spots_all {t : Int} (h : ∀ i s, sp[i]? = some s → SpotOk t s ∧ ∀ p, 0 < i → sp[i - 1]? = some p → Less p s) : SpotsOk t sp :=
  ⟨fun s hs => by obtain ⟨i, hi⟩ := List.mem_iff_getElem?.1 hs; exact (h i s hi).1, pairwise_adj sp fun i a b ha hb => (h (i + 1) b hb).2 a (by omega) (by simpa using ha)⟩
theorem spots_one {t : Int} (h : SpotsOk t sp) {i : Nat} {s : Sp} (hi : sp[i]? = some s) : SpotOk t s ∧ ∀ p, 0 < i → sp[i - 1]? = some p → Less p s :=
  ⟨h.1 s (List.mem_of_getElem? hi), fun p h0 hp => adj_pairwise h.2 hp hi (by omega)⟩
include hsp in
theorem enGood_ev : EvB (fun k => spec_enGood k (rl, sp, x, y, wy)) (PlainOk rl sp x y wy) := by
  have body : RuleOk rl → EvB (fun k => (spec_enGood_l k ((rl, sp, x, y, wy), (), (sp.length : Int), 0)).bind fun r5 => r5.elim (fun r6 => some r6) (fun r7 => some true)) (SpotsOk rl.size sp) := fun hR => by
    have h6 := hR.1
    have ew : w64 ((rl.size : Int) - 1) = (rl.size : Int) - 1 := w64_of (by omega) (by omega)
    have step : ∀ (i : Nat) (s : Sp), sp[i]? = some s → ∀ r, Ev (fun k => (spec_enFar k s.1).bind fun r1 => cond (!r1) (some (.inl false)) ((spec_enFar k s.2.1).bind fun r2 => cond (!r2) (some (.inl false)) ((spec_l1In k (s.2.2, 1, (rl.size : Int) - 1)).bind fun r3 => cond (!r3) (some (.inl false)) (cond (decide ((i : Int) > 0)) (cond (inB (w64 ((i : Int) - 1)) sp.length) ((spec_enLess k ((sp.getD ((w64 ((i : Int) - 1)).toNat) default), s)).bind fun r4 => cond (!r4) (some (.inl false)) (spec_enGood_l k ((rl, sp, x, y, wy), (), (sp.length : Int), ((i + 1 : Nat) : Int)))) (none)) (spec_enGood_l k ((rl, sp, x, y, wy), (), (sp.length : Int), ((i + 1 : Nat) : Int))))))) r → Ev (fun k => spec_enGood_l k ((rl, sp, x, y, wy), (), (sp.length : Int), (i : Int))) r := fun i s hi r H => by
      have hlt := (List.getElem?_eq_some_iff.1 hi).1
      refine Ev.step (fun k => spec_enGood_l.eq k rl sp x y wy (sp.length : Int) (i : Int)) (Ev.yes (lt_nat hlt) (Ev.yes (inB_nat hlt) ?_))
      rw [Int.toNat_natCast, getD_at hi, ew, w64_succ (by omega)]
      exact H
    have prev : ∀ (i : Nat), 0 < i → i ≤ sp.length → ∃ p, sp[i - 1]? = some p ∧ inB (w64 ((i : Int) - 1)) sp.length = true ∧ sp.getD ((w64 ((i : Int) - 1)).toNat) default = p := fun i h0 hl => by
      obtain ⟨p, hp⟩ := nat_list (l := sp) (i := i - 1) (by omega)
      have e : w64 ((i : Int) - 1) = ((i - 1 : Nat) : Int) := by rw [w64_of (by omega) (by omega)]; omega
      exact ⟨p, hp, by rw [e]; exact inB_nat (by omega), by rw [e, Int.toNat_natCast]; exact getD_at hp⟩
    have srch := Ev.search (L := fun k i => spec_enGood_l k ((rl, sp, x, y, wy), (), (sp.length : Int), i)) (n := sp.length) (fun i => ∃ s, sp[i]? = some s ∧ ¬ (SpotOk rl.size s ∧ ∀ p, 0 < i → sp[i - 1]? = some p → Less p s)) (fun i => .inl false) (.inr ())
      (fun i hi hp r H => by
        obtain ⟨s, hx⟩ := nat_list hi
        have hr : SpotOk rl.size s ∧ ∀ p, 0 < i → sp[i - 1]? = some p → Less p s := Classical.byContradiction fun hn => hp ⟨s, hx, hn⟩
        refine step i s hx r (Ev.bind ((enFar_ev _).isT hr.1.1.1) (Ev.no rfl (Ev.bind ((enFar_ev _).isT hr.1.1.2) (Ev.no rfl (Ev.bind ((l1In_ev _ _ _).isT hr.1.2) (Ev.no rfl ?_))))))
        by_cases h0 : 0 < i
        · obtain ⟨p, p1, p2, p3⟩ := prev i h0 (by omega)
          refine Ev.yes (decide_eq_true (by omega)) (Ev.yes p2 ?_)
          rw [p3]
          exact Ev.bind ((enLess_ev p s).isT (hr.2 p h0 p1)) (Ev.no rfl H)
        · exact Ev.no (decide_eq_false (by omega)) H)
      (fun i hi hp => by
        obtain ⟨s, hx, hn⟩ := hp
        refine step i s hx _ ?_
        by_cases f1 : Far s.1
        rotate_left
        · exact Ev.bind ((enFar_ev _).isF f1) (Ev.yes rfl (Ev.now _))
        refine Ev.bind ((enFar_ev _).isT f1) (Ev.no rfl ?_)
        by_cases f2 : Far s.2.1
        rotate_left
        · exact Ev.bind ((enFar_ev _).isF f2) (Ev.yes rfl (Ev.now _))
        refine Ev.bind ((enFar_ev _).isT f2) (Ev.no rfl ?_)
        by_cases f3 : 1 ≤ s.2.2 ∧ s.2.2 ≤ (rl.size : Int) - 1
        rotate_left
        · exact Ev.bind ((l1In_ev _ _ _).isF f3) (Ev.yes rfl (Ev.now _))
        refine Ev.bind ((l1In_ev _ _ _).isT f3) (Ev.no rfl ?_)
        have h0 : 0 < i := Classical.byContradiction fun h0 => hn ⟨⟨⟨f1, f2⟩, f3⟩, fun p h => absurd h h0⟩
        obtain ⟨p, p1, p2, p3⟩ := prev i h0 (by omega)
        refine Ev.yes (decide_eq_true (by omega)) (Ev.yes p2 ?_)
        rw [p3]
        refine Ev.bind ((enLess_ev p s).isF fun hl => hn ⟨⟨⟨f1, f2⟩, f3⟩, fun p' _ hp' => ?_⟩) (Ev.yes rfl (Ev.now _))
        rw [p1] at hp'
        cases hp'
        exact hl)
      (Ev.step (fun k => spec_enGood_l.eq k rl sp x y wy (sp.length : Int) (sp.length : Int)) (Ev.no (not_lt_nat (Nat.lt_irrefl _)) (Ev.now _))) sp.length 0 (by omega)
    rcases srch with ⟨h1, h2⟩ | ⟨j, _, hj, ⟨s, hx, hn⟩, _, h2⟩
    · exact ⟨true, Ev.bind h2 (Ev.now _), ⟨fun _ => spots_all sp fun i s hi => Classical.byContradiction fun hn => h1 i (Nat.zero_le _) (List.getElem?_eq_some_iff.1 hi).1 ⟨s, hi, hn⟩, fun _ => rfl⟩⟩
    · exact ⟨false, Ev.bind h2 (Ev.now _), ⟨nofun, fun h => absurd (spots_one sp h hx) hn⟩⟩
  have H : EvB (fun k => spec_enGood k (rl, sp, x, y, wy)) (RuleOk rl ∧ (sp.length ≤ 300 ∧ (Far x ∧ (Far y ∧ ((0 ≤ wy ∧ wy ≤ 3) ∧ SpotsOk rl.size sp))))) :=
    EvB.step (fun k => spec_enGood.eq k rl sp x y wy) (EvB.and' (woRuleR_ev rl) fun hR => EvB.ifN (by rw [decide_eq_false_iff_not]; omega) fun _ => EvB.and' (enFar_ev x) fun _ => EvB.and' (enFar_ev y) fun _ => EvB.and' (l1In_ev wy 0 3) fun _ => body hR)
  exact H.iff ⟨fun q => ⟨q.1, q.2.1, ⟨q.2.2.1, q.2.2.2.1⟩, q.2.2.2.2⟩, fun q => ⟨q.1, q.2.1, q.2.2.1.1, q.2.2.1.2, q.2.2.2⟩⟩
include hsp in
theorem isPlain_ev (hrl : rl.size ≤ 9223372036854775807) : EvB (fun k => impl_IsPlain k (rl, sp, x, y, wy)) (PlainOk rl sp x y wy) := by
  have body : RuleOk rl → EvB (fun k => (impl_IsPlain_l k ((rl, sp, x, y, wy), (), (sp.length : Int), 0)).bind fun r5 => r5.elim (fun r6 => some r6) (fun r7 => some true)) (SpotsOk rl.size sp) := fun hR => by
    have h6 := hR.1
    have ew : w64 ((rl.size : Int) - 1) = (rl.size : Int) - 1 := w64_of (by omega) (by omega)
    have step : ∀ (i : Nat) (s : Sp), sp[i]? = some s → ∀ r, Ev (fun k => (impl_isNear k [s.1, s.2.1]).bind fun r1 => cond (!r1) (some (.inl false)) ((impl_within k (s.2.2, 1, (rl.size : Int) - 1)).bind fun r3 => cond (!r3) (some (.inl false)) (cond (decide ((i : Int) > 0)) (cond (inB (w64 ((i : Int) - 1)) sp.length) ((impl_compareSpots k ((sp.getD ((w64 ((i : Int) - 1)).toNat) default), s)).bind fun r4 => cond (decide (r4 ≥ 0)) (some (.inl false)) (impl_IsPlain_l k ((rl, sp, x, y, wy), (), (sp.length : Int), ((i + 1 : Nat) : Int)))) (none)) (impl_IsPlain_l k ((rl, sp, x, y, wy), (), (sp.length : Int), ((i + 1 : Nat) : Int)))))) r → Ev (fun k => impl_IsPlain_l k ((rl, sp, x, y, wy), (), (sp.length : Int), (i : Int))) r := fun i s hi r H => by
      have hlt := (List.getElem?_eq_some_iff.1 hi).1
      refine Ev.step (fun k => impl_IsPlain_l.eq k rl sp x y wy (sp.length : Int) (i : Int)) (Ev.yes (lt_nat hlt) (Ev.yes (inB_nat hlt) ?_))
      rw [Int.toNat_natCast, getD_at hi, ew, w64_succ (by omega)]
      exact H
    have prev : ∀ (i : Nat), 0 < i → i ≤ sp.length → ∃ p, sp[i - 1]? = some p ∧ inB (w64 ((i : Int) - 1)) sp.length = true ∧ sp.getD ((w64 ((i : Int) - 1)).toNat) default = p := fun i h0 hl => by
      obtain ⟨p, hp⟩ := nat_list (l := sp) (i := i - 1) (by omega)
      have e : w64 ((i : Int) - 1) = ((i - 1 : Nat) : Int) := by rw [w64_of (by omega) (by omega)]; omega
      exact ⟨p, hp, by rw [e]; exact inB_nat (by omega), by rw [e, Int.toNat_natCast]; exact getD_at hp⟩
    have srch := Ev.search (L := fun k i => impl_IsPlain_l k ((rl, sp, x, y, wy), (), (sp.length : Int), i)) (n := sp.length) (fun i => ∃ s, sp[i]? = some s ∧ ¬ (SpotOk rl.size s ∧ ∀ p, 0 < i → sp[i - 1]? = some p → ¬ cmpS p s ≥ 0)) (fun i => .inl false) (.inr ())
      (fun i hi hp r H => by
        obtain ⟨s, hx⟩ := nat_list hi
        have hr : SpotOk rl.size s ∧ ∀ p, 0 < i → sp[i - 1]? = some p → ¬ cmpS p s ≥ 0 := Classical.byContradiction fun hn => hp ⟨s, hx, hn⟩
        refine step i s hx r (Ev.bind ((isNear_ev _ _).isT hr.1.1) (Ev.no rfl (Ev.bind ((within_ev _ _ _).isT hr.1.2) (Ev.no rfl ?_))))
        by_cases h0 : 0 < i
        · obtain ⟨p, p1, p2, p3⟩ := prev i h0 (by omega)
          refine Ev.yes (decide_eq_true (by omega)) (Ev.yes p2 ?_)
          rw [p3]
          exact Ev.bind (compareSpots_ev p s) (Ev.no (decide_eq_false (hr.2 p h0 p1)) H)
        · exact Ev.no (decide_eq_false (by omega)) H)
      (fun i hi hp => by
        obtain ⟨s, hx, hn⟩ := hp
        refine step i s hx _ ?_
        by_cases f1 : Far s.1 ∧ Far s.2.1
        rotate_left
        · exact Ev.bind ((isNear_ev _ _).isF f1) (Ev.yes rfl (Ev.now _))
        refine Ev.bind ((isNear_ev _ _).isT f1) (Ev.no rfl ?_)
        by_cases f3 : 1 ≤ s.2.2 ∧ s.2.2 ≤ (rl.size : Int) - 1
        rotate_left
        · exact Ev.bind ((within_ev _ _ _).isF f3) (Ev.yes rfl (Ev.now _))
        refine Ev.bind ((within_ev _ _ _).isT f3) (Ev.no rfl ?_)
        have h0 : 0 < i := Classical.byContradiction fun h0 => hn ⟨⟨f1, f3⟩, fun p h => absurd h h0⟩
        obtain ⟨p, p1, p2, p3⟩ := prev i h0 (by omega)
        refine Ev.yes (decide_eq_true (by omega)) (Ev.yes p2 ?_)
        rw [p3]
        refine Ev.bind (compareSpots_ev p s) (Ev.yes (decide_eq_true (Classical.byContradiction fun hl => hn ⟨⟨f1, f3⟩, fun p' _ hp' => ?_⟩)) (Ev.now _))
        rw [p1] at hp'
        cases hp'
        exact hl)
      (Ev.step (fun k => impl_IsPlain_l.eq k rl sp x y wy (sp.length : Int) (sp.length : Int)) (Ev.no (not_lt_nat (Nat.lt_irrefl _)) (Ev.now _))) sp.length 0 (by omega)
    rcases srch with ⟨h1, h2⟩ | ⟨j, _, hj, ⟨s, hx, hn⟩, hb, h2⟩
    · have all : ∀ i s, sp[i]? = some s → SpotOk rl.size s ∧ ∀ p, 0 < i → sp[i - 1]? = some p → ¬ cmpS p s ≥ 0 := fun i s hi => Classical.byContradiction fun hn => h1 i (Nat.zero_le _) (List.getElem?_eq_some_iff.1 hi).1 ⟨s, hi, hn⟩
      refine ⟨true, Ev.bind h2 (Ev.now _), ⟨fun _ => spots_all sp fun i s hi => ⟨(all i s hi).1, fun p h0 hp => ?_⟩, fun _ => rfl⟩⟩
      have := (all i s hi).2 p h0 hp
      rw [cmpS_less (all _ p hp).1.1 (all i s hi).1.1] at this
      exact Classical.not_not.1 this
    · refine ⟨false, Ev.bind h2 (Ev.now _), ⟨nofun, fun h => ?_⟩⟩
      obtain ⟨o1, o2⟩ := spots_one sp h hx
      refine absurd ⟨o1, fun p h0 hp => ?_⟩ hn
      rw [cmpS_less (h.1 p (List.mem_of_getElem? hp)).1 o1.1]
      exact fun hc => hc (o2 p h0 hp)
  have H : EvB (fun k => impl_IsPlain k (rl, sp, x, y, wy)) (RuleOk rl ∧ (sp.length ≤ 300 ∧ ((Far x ∧ Far y) ∧ ((0 ≤ wy ∧ wy ≤ 3) ∧ SpotsOk rl.size sp)))) :=
    EvB.step (fun k => impl_IsPlain.eq k rl sp x y wy) (EvB.and' (isRuleR_ev rl hrl) fun hR => EvB.ifN (by rw [decide_eq_false_iff_not]; omega) fun _ => EvB.and' (isNear_ev x y) fun _ => EvB.and' (EvB.step (fun k => impl_isWay.eq k wy) (within_ev wy 0 3).ret) fun _ => body hR)
  exact H
end

theorem keys_of {sp : List Sp} (h : sp.Pairwise Less) : Keys (sp.map ent) := by
  unfold Keys
  rw [List.map_map]
  unfold List.Nodup
  rw [List.pairwise_map]
  exact h.imp fun {a b} hl e => by
    have e : (a.1, a.2.1) = (b.1, b.2.1) := e
    rw [Prod.mk.injEq] at e
    exact hl.ne e
theorem take_next' {α : Type} {l : List α} {j : Nat} {x : α} (h : l[j]? = some x) : l.take (j + 1) = l.take j ++ [x] := by
  rw [List.take_add_one, h]
  rfl
section
variable (rl : ByteArray) (x y wy : Int)
theorem going_ev (sp : List Sp) (hsp : sp.length ≤ 1048576) (hk : Keys (sp.map ent)) : Ev (fun k => impl_Plain_going k (rl, sp, x, y, wy)) (rl, sp.map ent, x, y, wy) := by
  have loop : ∀ (m i : Nat), i + m = sp.length → Ev (fun k => impl_Plain_going_l k ((rl, (sp.take i).map ent, x, y, wy), sp, (sp.length : Int), (i : Int))) (rl, sp.map ent, x, y, wy) := by
    intro m
    induction m with
    | zero => intro i h; exact Ev.step (fun k => impl_Plain_going_l.eq k rl _ x y wy sp _ (i : Int)) (Ev.no (not_lt_nat (by omega)) (Ev.now' (by rw [List.take_of_length_le (by omega)])))
    | succ m ih =>
      intro i h
      obtain ⟨s, hs⟩ := nat_list (l := sp) (i := i) (by omega)
      obtain ⟨hlt, he⟩ := List.getElem?_eq_some_iff.1 hs
      refine Ev.step (fun k => impl_Plain_going_l.eq k rl _ x y wy sp _ (i : Int)) (Ev.yes (lt_nat (by omega)) (Ev.yes (inB_nat (by omega)) ?_))
      rw [Int.toNat_natCast, getD_at hs, w64_succ (by omega)]
      have hnew : (s.1, s.2.1) ∉ ((sp.take i).map ent).map Prod.fst := by
        have h1 : sp = sp.take i ++ s :: sp.drop (i + 1) := by
          rw [← he, ← List.drop_eq_getElem_cons hlt, List.take_append_drop]
        have h2 := hk
        unfold Keys at h2
        rw [h1, List.map_append, List.map_append, List.nodup_append] at h2
        intro hm
        exact h2.2.2 _ hm (s.1, s.2.1) (by simp [ent]) rfl
      have e : mput pe ((sp.take i).map ent) (s.1, s.2.1) s.2.2 = (sp.take (i + 1)).map ent := by
        rw [mput_new _ _ hnew, take_next' hs, List.map_append]
        rfl
      have := ih (i + 1) (by omega)
      rw [← e] at this
      exact this
  have := loop sp.length 0 (by omega)
  exact Ev.step (fun k => impl_Plain_going.eq k rl sp x y wy) (Ev.bind this (Ev.now _))
end
/-! ### Where a spot is -/
def isAt (x y : Int) : List Sp → Bool
  | s :: _ => s.1 == x && s.2.1 == y
  | [] => false
def restB (x y : Int) (B : List Sp) : List Sp := if isAt x y B then B.tail else B
def colT (x y : Int) : List Sp → Int
  | s :: B => if isAt x y (s :: B) then s.2.2 else 0
  | [] => 0
theorem colT_cons (x y : Int) (s : Sp) (B : List Sp) : colT x y (s :: B) = if isAt x y (s :: B) then s.2.2 else 0 := rfl
theorem isAt_cons (x y : Int) (s : Sp) (B : List Sp) : isAt x y (s :: B) = (s.1 == x && s.2.1 == y) := rfl
theorem restB_len (x y : Int) (B : List Sp) : (restB x y B).length ≤ B.length := by
  unfold restB
  split
  · rw [List.length_tail]; omega
  · exact Nat.le_refl _
structure Cut (x y : Int) (A B : List Sp) : Prop where
  lo : ∀ s ∈ A, Less s (x, (y, 0))
  hi : ∀ s ∈ B, ¬ Less s (x, (y, 0))
  srt : (A ++ B).Pairwise Less
theorem Cut.rest {x y : Int} {A B : List Sp} (C : Cut x y A B) : ∀ s ∈ restB x y B, Less (x, (y, 0)) s := by
  intro t ht
  have hs := (List.pairwise_append.1 C.srt).2.1
  cases B with
  | nil => unfold restB at ht; simp [isAt] at ht
  | cons s B =>
    obtain ⟨h1, h2⟩ := List.pairwise_cons.1 hs
    cases hi : isAt x y (s :: B) with
    | true =>
      have hi' : (s.1 == x && s.2.1 == y) = true := hi
      rw [Bool.and_eq_true, beq_iff_eq, beq_iff_eq] at hi'
      unfold restB at ht
      rw [hi, if_pos rfl] at ht
      have hl := h1 t ht
      unfold Less at hl ⊢
      simp only
      omega
    | false =>
      have hi' : ¬ (s.1 = x ∧ s.2.1 = y) := fun h => by
        have : isAt x y (s :: B) = true := by show (s.1 == x && s.2.1 == y) = true; rw [Bool.and_eq_true, beq_iff_eq, beq_iff_eq]; exact h
        rw [hi] at this
        cases this
      unfold restB at ht
      rw [hi, if_neg (by simp)] at ht
      have h0 : Less (x, (y, 0)) s := less_total (C.hi s (by simp)) hi'
      rcases List.mem_cons.1 ht with rfl | ht
      · exact h0
      · exact h0.trans (h1 t ht)
theorem Cut.ents {x y : Int} {A B : List Sp} (C : Cut x y A B) : (A ++ B).map ent = A.map ent ++ ((if isAt x y B then [((x, y), colT x y B)] else []) ++ (restB x y B).map ent) := by
  rw [List.map_append]
  congr 1
  cases B with
  | nil => rfl
  | cons s B =>
    cases hi : isAt x y (s :: B) with
    | true =>
      have hi' : (s.1 == x && s.2.1 == y) = true := hi
      rw [Bool.and_eq_true, beq_iff_eq, beq_iff_eq] at hi'
      unfold restB
      rw [colT_cons, hi, if_pos rfl, if_pos rfl, if_pos rfl]
      show ent s :: B.map ent = ((x, y), s.2.2) :: B.map ent
      unfold ent
      rw [hi'.1, hi'.2]
    | false =>
      unfold restB
      rw [hi, if_neg (by simp), if_neg (by simp)]
      rfl
theorem Cut.keyA {x y : Int} {A B : List Sp} (C : Cut x y A B) : ∀ e ∈ A.map ent, (x, y) ≠ e.1 := by
  intro e he
  obtain ⟨s, hs, rfl⟩ := List.mem_map.1 he
  intro h
  have h : (x, y) = (s.1, s.2.1) := h
  rw [Prod.mk.injEq] at h
  exact (C.lo s hs).ne ⟨h.1.symm, h.2.symm⟩
theorem Cut.keyR {x y : Int} {A B : List Sp} (C : Cut x y A B) : ∀ e ∈ (restB x y B).map ent, (x, y) ≠ e.1 := by
  intro e he
  obtain ⟨s, hs, rfl⟩ := List.mem_map.1 he
  intro h
  have h : (x, y) = (s.1, s.2.1) := h
  rw [Prod.mk.injEq] at h
  exact (C.rest s hs).ne h
theorem Cut.filt {x y : Int} {A B : List Sp} (C : Cut x y A B) : ((A ++ B).map ent).filter (fun e => !pe (x, y) e.1) = A.map ent ++ (restB x y B).map ent := by
  rw [C.ents, List.filter_append, List.filter_append]
  have f1 : (A.map ent).filter (fun e => !pe (x, y) e.1) = A.map ent := List.filter_eq_self.2 fun e he => by rw [pe_false (C.keyA e he)]; rfl
  have f2 : ((restB x y B).map ent).filter (fun e => !pe (x, y) e.1) = (restB x y B).map ent := List.filter_eq_self.2 fun e he => by rw [pe_false (C.keyR e he)]; rfl
  rw [f1, f2]
  cases isAt x y B with
  | true => rw [if_pos rfl, List.filter_cons, pe_self]; rfl
  | false => rfl
theorem Cut.noR {x y : Int} {A B : List Sp} (C : Cut x y A B) : (x, y) ∉ (A.map ent ++ (restB x y B).map ent).map Prod.fst := by
  intro h
  obtain ⟨e, he, h⟩ := List.mem_map.1 h
  rcases List.mem_append.1 he with he | he
  · exact C.keyA e he h.symm
  · exact C.keyR e he h.symm
theorem Cut.col {x y : Int} {A B : List Sp} (C : Cut x y A B) : Col ((A ++ B).map ent) (x, y) (colT x y B) := by
  cases hi : isAt x y B with
  | true =>
    refine .inl ?_
    rw [C.ents, hi, if_pos rfl]
    simp
  | false =>
    refine .inr ⟨?_, ?_⟩
    · cases B with
      | nil => rfl
      | cons s B => rw [colT_cons, hi]; rfl
    · rw [C.ents, hi, if_neg (by simp), List.nil_append]
      exact C.noR
theorem Cut.range {t x y : Int} {A B : List Sp} (ht : 1 ≤ t) (h : ∀ s ∈ A ++ B, SpotOk t s) : 0 ≤ colT x y B ∧ colT x y B ≤ t - 1 := by
  cases B with
  | nil => exact ⟨Int.le_refl _, by show (0 : Int) ≤ _; omega⟩
  | cons s B =>
    have := (h s (by simp)).2
    rw [colT_cons]
    split
    · omega
    · omega
theorem cut_ex (x y : Int) {sp : List Sp} (h : sp.Pairwise Less) : ∃ A B, sp = A ++ B ∧ Cut x y A B := by
  obtain ⟨A, B, rfl, h1, h2⟩ := split_at (x, (y, 0)) sp h
  exact ⟨A, B, rfl, h1, h2, h⟩
theorem enAt_ev {x y : Int} {A B : List Sp} (C : Cut x y A B) (hl : (A ++ B).length ≤ 1048576) : Ev (fun k => spec_enAt k (A ++ B, x, y)) ((A.length : Int), isAt x y B) := by
  have hL : (A ++ B).length = A.length + B.length := List.length_append
  have loop : ∀ (n lo hi : Nat), hi - lo ≤ n → lo ≤ A.length → A.length ≤ hi → hi ≤ (A ++ B).length → Ev (fun k => spec_enAt_l k (A ++ B, x, y, (lo : Int), (hi : Int))) (A ++ B, x, y, (A.length : Int)) := by
    intro n
    induction n with
    | zero =>
      intro lo hi h1 h2 h3 h4
      exact Ev.step (fun k => spec_enAt_l.eq k (A ++ B) x y lo hi) (Ev.no (not_lt_nat (by omega)) (Ev.now' (by rw [show lo = A.length by omega])))
    | succ n ih =>
      intro lo hi h1 h2 h3 h4
      by_cases hlt : lo < hi
      rotate_left
      · exact Ev.step (fun k => spec_enAt_l.eq k (A ++ B) x y lo hi) (Ev.no (not_lt_nat (by omega)) (Ev.now' (by rw [show lo = A.length by omega])))
      have e : w64 ((w64 ((lo : Int) + (hi : Int))).tdiv 2) = (((lo + hi) / 2 : Nat) : Int) := by
        rw [w64_of (n := (lo : Int) + (hi : Int)) (by omega) (by omega), Int.tdiv_eq_ediv_of_nonneg (by omega), w64_of (by omega) (by omega)]
        omega
      obtain ⟨mid, hmid⟩ : ∃ mid, mid = (lo + hi) / 2 := ⟨_, rfl⟩
      rw [← hmid] at e
      obtain ⟨s, hs⟩ := nat_list (l := A ++ B) (i := mid) (by omega)
      refine Ev.step (fun k => spec_enAt_l.eq k (A ++ B) x y lo hi) (Ev.yes (lt_nat hlt) ?_)
      rw [e]
      refine Ev.yes (inB_nat (by omega)) ?_
      rw [Int.toNat_natCast, getD_at hs]
      by_cases hm : mid < A.length
      · have hA : s ∈ A := by
          rw [List.getElem?_append_left hm] at hs
          exact List.mem_of_getElem? hs
        refine Ev.bind ((enLess_ev s _).isT (C.lo s hA)) (Ev.yes rfl ?_)
        rw [w64_succ (by omega)]
        exact ih (mid + 1) hi (by omega) (by omega) h3 h4
      · have hB : s ∈ B := by
          rw [List.getElem?_append_right (by omega)] at hs
          exact List.mem_of_getElem? hs
        exact Ev.bind ((enLess_ev s _).isF (C.hi s hB)) (Ev.no rfl (ih lo mid (by omega) h2 (by omega) (by omega)))
  refine Ev.step (fun k => spec_enAt.eq k (A ++ B) x y) (Ev.bind (loop _ 0 (A ++ B).length (Nat.le_refl _) (by omega) (by omega) (Nat.le_refl _)) ?_)
  dsimp only
  cases B with
  | nil => exact Ev.no (not_lt_nat (by simp)) (Ev.now _)
  | cons s B =>
    have hs : (A ++ s :: B)[A.length]? = some s := by rw [List.getElem?_append_right (Nat.le_refl _), Nat.sub_self]; rfl
    have hlt : A.length < (A ++ s :: B).length := by simp
    refine Ev.yes (lt_nat hlt) (Ev.yes (inB_nat hlt) ?_)
    rw [Int.toNat_natCast, getD_at hs]
    rw [isAt_cons]
    cases hx : (s.1 == x) with
    | true => exact Ev.yes rfl (Ev.yes (inB_nat hlt) (Ev.now _))
    | false => exact Ev.no rfl (Ev.now _)
theorem enColour_ev (rl : ByteArray) {x y : Int} (X Y W : Int) {A B : List Sp} (C : Cut x y A B) (hl : (A ++ B).length ≤ 1048576) : Ev (fun k => spec_enColour k ((rl, A ++ B, X, Y, W), x, y)) (colT x y B) := by
  refine Ev.step (fun k => spec_enColour.eq k rl (A ++ B) X Y W x y) (Ev.bind (enAt_ev C hl) ?_)
  dsimp only
  cases B with
  | nil => exact Ev.no rfl (Ev.now _)
  | cons s B =>
    have hs : (A ++ s :: B)[A.length]? = some s := by rw [List.getElem?_append_right (Nat.le_refl _), Nat.sub_self]; rfl
    have hlt : A.length < (A ++ s :: B).length := by simp
    rw [Int.toNat_natCast, getD_at hs]
    rw [colT_cons]
    cases isAt x y (s :: B) with
    | true => exact Ev.yes rfl (Ev.yes (inB_nat hlt) (Ev.now _))
    | false => exact Ev.no rfl (Ev.now _)
def paintL (x y p : Int) (A B : List Sp) : List Sp := A ++ ((if 0 < p then [(x, (y, p))] else []) ++ restB x y B)
theorem enPaint_ev {x y : Int} {A B : List Sp} (C : Cut x y A B) (hl : (A ++ B).length ≤ 1048576) (p : Int) : Ev (fun k => spec_enPaint k (A ++ B, x, y, p)) (paintL x y p A B) := by
  have hL : (A ++ B).length = A.length + B.length := List.length_append
  have tk : (A ++ B).take A.length = A := List.take_left
  have dr : ((A ++ B).drop A.length).take ((A ++ B).length - A.length) = B := by rw [List.drop_left]; exact List.take_of_length_le (by omega)
  have dr1 : ((A ++ B).drop (A.length + 1)).take ((A ++ B).length - (A.length + 1)) = B.tail := by
    rw [← List.drop_drop, List.drop_left, List.drop_one]
    exact List.take_of_length_le (by rw [List.length_tail]; omega)
  have b0 : ((decide ((0 : Int) ≤ (A.length : Int))) && (decide ((A.length : Int) ≤ ((A ++ B).length : Int)))) = true := by
    rw [decide_eq_true (by omega), decide_eq_true (by omega)]; rfl
  have e1 : w64 ((A.length : Int) + 1) = ((A.length + 1 : Nat) : Int) := w64_succ (by omega)
  have hne : isAt x y B = true → 1 ≤ B.length := fun h => by
    cases B with
    | nil => cases h
    | cons s B => simp
  have b1 : isAt x y B = true → ((decide ((0 : Int) ≤ ((A.length + 1 : Nat) : Int))) && (decide (((A.length + 1 : Nat) : Int) ≤ ((A ++ B).length : Int)))) = true := fun h => by
    have := hne h
    rw [decide_eq_true (by omega), decide_eq_true (by omega)]; rfl
  have lt := List.length_tail (l := B)
  refine Ev.step (fun k => spec_enPaint.eq k (A ++ B) x y p) (Ev.bind (enAt_ev C hl) (Ev.yes b0 ?_))
  dsimp only
  simp only [Int.toNat_natCast, e1, tk, dr, dr1, List.nil_append]
  refine Ev.yes (fits_of (by omega)) ?_
  unfold paintL restB
  by_cases hp : 0 < p
  · rw [if_pos hp]
    refine Ev.yes (decide_eq_true hp) (Ev.yes (fits_of (by omega)) ?_)
    cases hi : isAt x y B with
    | true => exact Ev.yes rfl (Ev.yes (b1 hi) (Ev.yes (fits_of (by rw [List.length_append]; simp only [List.length_cons, List.length_nil]; omega)) (Ev.now' (by rw [if_pos rfl, List.append_assoc]))))
    | false => exact Ev.no rfl (Ev.yes b0 (Ev.yes (fits_of (by rw [List.length_append]; simp only [List.length_cons, List.length_nil]; omega)) (Ev.now' (by rw [if_neg (by simp), List.append_assoc]))))
  · rw [if_neg hp]
    refine Ev.no (decide_eq_false (by omega)) ?_
    cases hi : isAt x y B with
    | true => exact Ev.yes rfl (Ev.yes (b1 hi) (Ev.yes (fits_of (by omega)) (Ev.now' (by rw [if_pos rfl, List.nil_append]))))
    | false => exact Ev.no rfl (Ev.yes b0 (Ev.yes (fits_of (by omega)) (Ev.now' (by rw [if_neg (by simp), List.nil_append]))))
/-! ### Painting -/
theorem paint_spots {t x y p : Int} {A B : List Sp} (C : Cut x y A B) (h : ∀ s ∈ A ++ B, SpotOk t s) (hq : Far x ∧ Far y) (hp : 0 ≤ p ∧ p ≤ t - 1) : SpotsOk t (paintL x y p A B) := by
  have hR : ∀ s ∈ restB x y B, s ∈ B := fun s hs => by
    unfold restB at hs
    split at hs
    · exact List.mem_of_mem_tail hs
    · exact hs
  have hm : ∀ s ∈ (if 0 < p then [(x, (y, p))] else []), s = (x, (y, p)) ∧ 0 < p := fun s hs => by
    split at hs
    · rename_i h0
      exact ⟨by simpa using hs, h0⟩
    · cases hs
  obtain ⟨s1, s2, s3⟩ := List.pairwise_append.1 C.srt
  constructor
  · intro s hs
    unfold paintL at hs
    rcases List.mem_append.1 hs with hs | hs
    · exact h s (List.mem_append_left _ hs)
    · rcases List.mem_append.1 hs with hs | hs
      · obtain ⟨rfl, h0⟩ := hm s hs
        exact ⟨hq, by show 1 ≤ p ∧ p ≤ t - 1; omega⟩
      · exact h s (List.mem_append_right _ (hR s hs))
  · unfold paintL
    refine List.pairwise_append.2 ⟨s1, List.pairwise_append.2 ⟨?_, ?_, ?_⟩, ?_⟩
    · split
      · exact List.pairwise_singleton _ _
      · exact List.Pairwise.nil
    · unfold restB
      split
      · exact s2.sublist (List.tail_sublist B)
      · exact s2
    · intro a ha b hb
      obtain ⟨rfl, _⟩ := hm a ha
      exact C.rest b hb
    · intro a ha b hb
      rcases List.mem_append.1 hb with hb | hb
      · obtain ⟨rfl, _⟩ := hm b hb
        exact C.lo a ha
      · exact s3 a ha b (hR b hb)
def paintG (x y p : Int) (g : List (Pt × Int)) : List (Pt × Int) := if 0 < p then mput pe (mdel pe g (x, y)) (x, y) p else mdel pe g (x, y)
theorem paint_perm {x y p : Int} {A B : List Sp} (C : Cut x y A B) {g : List (Pt × Int)} (hg : g.Perm ((A ++ B).map ent)) : (paintG x y p g).Perm ((paintL x y p A B).map ent) := by
  have hk : Keys g := (keys_of C.srt).perm hg.symm
  have hd : (mdel pe g (x, y)).Perm (A.map ent ++ (restB x y B).map ent) := by
    rw [mdel_filter _ hk, ← C.filt]
    exact hg.filter _
  unfold paintG paintL
  by_cases hp : 0 < p
  · rw [if_pos hp, if_pos hp]
    have hn : (x, y) ∉ (mdel pe g (x, y)).map Prod.fst := fun h => C.noR ((hd.map Prod.fst).mem_iff.1 h)
    rw [mput_new _ _ hn, List.map_append, List.map_append]
    refine (hd.append_right _).trans ?_
    rw [List.append_assoc]
    exact List.Perm.append_left _ List.perm_append_comm
  · rw [if_neg hp, if_neg hp, List.nil_append, List.map_append]
    exact hd
theorem going_paint_ev (rl : ByteArray) (g : List (Pt × Int)) (X Y W x y p : Int) : Ev (fun k => impl_going_paint k ((rl, g, X, Y, W), x, y, p)) ((), (rl, paintG x y p g, X, Y, W)) := by
  refine Ev.step (fun k => impl_going_paint.eq k rl g X Y W x y p) ?_
  unfold paintG
  by_cases hp : 0 < p
  · rw [if_pos hp]; exact Ev.yes (decide_eq_true hp) (Ev.now _)
  · rw [if_neg hp]; exact Ev.no (decide_eq_false hp) (Ev.now _)
abbrev zeroP : ByteArray × List Sp × Int × Int × Int := (ByteArray.empty, [], 0, 0, 0)
theorem ofBytes_app (a : List Int) (n : Int) : ofBytes a ++ ofBytes [n] = ofBytes (a ++ [n]) := by
  apply ba_ext
  rw [append_list]
  simp [ofBytes]
theorem ofBytes_size (a : List Int) : (ofBytes a).size = a.length := by
  rw [size_list]
  simp [ofBytes]
theorem sub_one' {cs : ByteArray} {i : Nat} {c : UInt8} (h : cs.data.toList[i]? = some c) : cs.extract i (i + 1) = ofBytes [(c.toNat : Int)] := by
  apply ba_ext
  obtain ⟨hlt, he⟩ := List.getElem?_eq_some_iff.1 h
  rw [extract_list, List.drop_take, show i + 1 - i = 1 by omega, List.drop_eq_getElem_cons hlt, he]
  show [c] = [UInt8.ofNat (Int.toNat (c.toNat : Int))]
  rw [Int.toNat_natCast]
  simp
theorem isRun_ev (rl : ByteArray) (sp : List Sp) (x y wy n : Int) (hsp : sp.length ≤ 1048576) (hrl : rl.size ≤ 9223372036854775807) : EvB (fun k => impl_isRun k ((rl, sp, x, y, wy), n)) (PlainOk rl sp x y wy ∧ (0 ≤ n ∧ n ≤ 1000)) :=
  EvB.step (fun k => impl_isRun.eq k rl sp x y wy n) (EvB.and (isPlain_ev rl sp x y wy hsp hrl) fun _ => (within_ev n 0 1000).ret)
/-! ### The laws' helpers -/

abbrev PlS : Type := List Sp × Int × Int × Int
instance (a b : Sp) : Decidable (Less a b) := by unfold Less; infer_instance
def befS (x y : Int) (s : Sp) : Bool := decide (Less s (x, (y, 0)))
def aftS (x y : Int) (s : Sp) : Bool := decide (Less (x, (y, 0)) s)
def atS (x y : Int) (s : Sp) : Bool := s.1 == x && s.2.1 == y
def colF (x y : Int) (sp : List Sp) : Int := match sp.find? (atS x y) with
  | some s => s.2.2
  | none => 0
def paintF (x y p : Int) (sp : List Sp) : List Sp := sp.filter (befS x y) ++ ((if 0 < p then [(x, (y, p))] else []) ++ sp.filter (aftS x y))
theorem bef_aft {x y : Int} {s : Sp} (h : befS x y s = true) : aftS x y s = false := by
  have := of_decide_eq_true h
  refine decide_eq_false fun h' => ?_
  unfold Less at this h'
  simp only at this h'
  omega
theorem aft_bef {x y : Int} {s : Sp} (h : aftS x y s = true) : befS x y s = false := by
  have := of_decide_eq_true h
  refine decide_eq_false fun h' => ?_
  unfold Less at this h'
  simp only at this h'
  omega
theorem at_iff {x y : Int} {s : Sp} : atS x y s = true ↔ s.1 = x ∧ s.2.1 = y := by unfold atS; rw [Bool.and_eq_true, beq_iff_eq, beq_iff_eq]
theorem at_not {x y : Int} {s : Sp} (h : atS x y s = true) : befS x y s = false ∧ aftS x y s = false := by
  obtain ⟨h1, h2⟩ := at_iff.1 h
  constructor <;> refine decide_eq_false fun h' => ?_ <;> (unfold Less at h'; simp only at h'; omega)
theorem filter_none {α : Type} {p : α → Bool} {l : List α} (h : ∀ x ∈ l, p x = false) : l.filter p = [] := List.filter_eq_nil_iff.2 fun x hx => by rw [h x hx]; exact Bool.false_ne_true
theorem paint_paint (x y p q : Int) (sp : List Sp) : paintF x y q (paintF x y p sp) = paintF x y q sp := by
  have m1 : ∀ s ∈ (if 0 < p then [(x, (y, p))] else ([] : List Sp)), befS x y s = false ∧ aftS x y s = false := fun s hs => by
    split at hs
    · have : s = (x, (y, p)) := by simpa using hs
      subst this
      exact at_not (at_iff.2 ⟨rfl, rfl⟩)
    · cases hs
  have e1 : (paintF x y p sp).filter (befS x y) = sp.filter (befS x y) := by
    unfold paintF
    rw [List.filter_append, List.filter_append, List.filter_filter, filter_none fun s hs => (m1 s hs).1, List.filter_filter, filter_none (p := fun a => befS x y a && aftS x y a) fun s _ => by
      cases h : befS x y s with
      | true => rw [bef_aft h]; rfl
      | false => rfl]
    simp
  have e2 : (paintF x y p sp).filter (aftS x y) = sp.filter (aftS x y) := by
    unfold paintF
    rw [List.filter_append, List.filter_append, List.filter_filter, filter_none fun s hs => (m1 s hs).2, List.filter_filter, filter_none (p := fun a => aftS x y a && befS x y a) fun s _ => by
      cases h : aftS x y s with
      | true => rw [aft_bef h]; rfl
      | false => rfl]
    simp
  show (paintF x y p sp).filter (befS x y) ++ (_ ++ (paintF x y p sp).filter (aftS x y)) = _
  rw [e1, e2]
  rfl
theorem find_none {x y : Int} {l : List Sp} (h : ∀ s ∈ l, atS x y s = false) : l.find? (atS x y) = none := List.find?_eq_none.2 fun s hs => by rw [h s hs]; exact Bool.false_ne_true
theorem col_paint (x y p : Int) (hp : 0 ≤ p) (sp : List Sp) : colF x y (paintF x y p sp) = p := by
  have f1 : (sp.filter (befS x y)).find? (atS x y) = none := find_none fun s hs => by
    cases h : atS x y s with
    | false => rfl
    | true => have := (List.mem_filter.1 hs).2; rw [(at_not h).1] at this; cases this
  have f2 : (sp.filter (aftS x y)).find? (atS x y) = none := find_none fun s hs => by
    cases h : atS x y s with
    | false => rfl
    | true => have := (List.mem_filter.1 hs).2; rw [(at_not h).2] at this; cases this
  unfold colF paintF
  rw [List.find?_append, f1, Option.none_or, List.find?_append, f2]
  by_cases h0 : 0 < p
  · rw [if_pos h0]
    have : atS x y (x, (y, p)) = true := at_iff.2 ⟨rfl, rfl⟩
    rw [List.find?_cons_of_pos this]
    rfl
  · rw [if_neg h0]
    show (0 : Int) = p
    omega
theorem cut_paint {x y : Int} {A B : List Sp} (C : Cut x y A B) (p : Int) : paintF x y p (A ++ B) = paintL x y p A B := by
  have a1 : A.filter (befS x y) = A := List.filter_eq_self.2 fun s hs => decide_eq_true (C.lo s hs)
  have a2 : A.filter (aftS x y) = [] := filter_none fun s hs => bef_aft (decide_eq_true (C.lo s hs))
  have b1 : B.filter (befS x y) = [] := filter_none fun s hs => decide_eq_false (C.hi s hs)
  have r : ∀ s ∈ restB x y B, aftS x y s = true := fun s hs => decide_eq_true (C.rest s hs)
  have b2 : B.filter (aftS x y) = restB x y B := by
    cases B with
    | nil => rfl
    | cons s B =>
      cases hi : isAt x y (s :: B) with
      | true =>
        have hr : restB x y (s :: B) = B := by unfold restB; rw [hi, if_pos rfl]; rfl
        rw [hr] at r ⊢
        have : aftS x y s = false := (at_not hi).2
        rw [List.filter_cons_of_neg (by rw [this]; exact Bool.false_ne_true)]
        exact List.filter_eq_self.2 r
      | false =>
        have hr : restB x y (s :: B) = s :: B := by unfold restB; rw [hi, if_neg Bool.false_ne_true]
        rw [hr] at r ⊢
        exact List.filter_eq_self.2 r
  unfold paintF paintL
  rw [List.filter_append, List.filter_append, a1, a2, b1, b2, List.append_nil, List.nil_append]
theorem cut_col {x y : Int} {A B : List Sp} (C : Cut x y A B) : colF x y (A ++ B) = colT x y B := by
  have f1 : A.find? (atS x y) = none := find_none fun s hs => by
    cases h : atS x y s with
    | false => rfl
    | true =>
      have h1 := (at_not h).1
      rw [show befS x y s = true from decide_eq_true (C.lo s hs)] at h1
      cases h1
  unfold colF
  rw [List.find?_append, f1, Option.none_or]
  cases B with
  | nil => rfl
  | cons s B =>
    cases hi : isAt x y (s :: B) with
    | true =>
      rw [List.find?_cons_of_pos (show atS x y s = true from hi), colT_cons, hi, if_pos rfl]
    | false =>
      rw [List.find?_cons_of_neg (show ¬ atS x y s = true by rw [show atS x y s = false from hi]; exact Bool.false_ne_true), colT_cons, hi, if_neg Bool.false_ne_true]
      have hr : restB x y (s :: B) = s :: B := by unfold restB; rw [hi, if_neg Bool.false_ne_true]
      have r := C.rest
      rw [hr] at r
      rw [find_none fun t ht => by
        cases h : atS x y t with
        | false => rfl
        | true =>
          have h2 := (at_not h).2
          rw [show aftS x y t = true from decide_eq_true (r t (List.mem_cons_of_mem _ ht))] at h2
          cases h2]
theorem paint_same {t x y : Int} {sp : List Sp} (h : SpotsOk t sp) : paintF x y (colF x y sp) sp = sp := by
  obtain ⟨A, B, rfl, C⟩ := cut_ex x y h.2
  rw [cut_col C, cut_paint C]
  unfold paintL
  congr 1
  cases B with
  | nil => rfl
  | cons s B =>
    rw [colT_cons]
    unfold restB
    cases hi : isAt x y (s :: B) with
    | true =>
      have hs := (h.1 s (by simp)).2
      obtain ⟨h1, h2⟩ := at_iff.1 (show atS x y s = true from hi)
      rw [if_pos rfl, if_pos rfl, if_pos (by omega)]
      show (x, (y, s.2.2)) :: B = s :: B
      rw [← h1, ← h2]
    | false =>
      rw [if_neg Bool.false_ne_true, if_neg Bool.false_ne_true, if_neg (by omega)]
      rfl
theorem col_range {t x y : Int} {sp : List Sp} (ht : 1 ≤ t) (h : SpotsOk t sp) : 0 ≤ colF x y sp ∧ colF x y sp ≤ t - 1 := by
  obtain ⟨A, B, rfl, C⟩ := cut_ex x y h.2
  rw [cut_col C]
  exact Cut.range (x := x) (y := y) ht h.1
theorem paint_ok {t x y p : Int} {sp : List Sp} (h : SpotsOk t sp) (hq : Far x ∧ Far y) (hp : 0 ≤ p ∧ p ≤ t - 1) : SpotsOk t (paintF x y p sp) := by
  obtain ⟨A, B, rfl, C⟩ := cut_ex x y h.2
  rw [cut_paint C]
  exact paint_spots C h.1 hq hp
theorem paintF_len {t x y p : Int} {sp : List Sp} (h : SpotsOk t sp) : (paintF x y p sp).length ≤ sp.length + 1 := by
  obtain ⟨A, B, rfl, C⟩ := cut_ex x y h.2
  rw [cut_paint C]
  unfold paintL
  have t1 := restB_len x y B
  have t2 : (if 0 < p then [(x, (y, p))] else ([] : List Sp)).length ≤ 1 := by split <;> simp
  rw [List.length_append, List.length_append, List.length_append]
  omega
/-! ### Steps -/
def OkP (rl : ByteArray) (S : PlS) : Prop := PlainOk rl S.1 S.2.1 S.2.2.1 S.2.2.2
def hereF (S : PlS) : Int := colF S.2.1 S.2.2.1 S.1
def signF (rl : ByteArray) (S : PlS) : UInt8 := rl.data.toList.getD (hereF S).toNat 0
def turnF (wy : Int) (z : UInt8) : Int := (wy + quartersB (z.toNat : Int)) % 4
def stepF (rl : ByteArray) (S : PlS) : PlS :=
  (paintF S.2.1 S.2.2.1 ((hereF S + 1) % (rl.size : Int)) S.1, S.2.1 + dxW (turnF S.2.2.2 (signF rl S)), S.2.2.1 + dyW (turnF S.2.2.2 (signF rl S)), turnF S.2.2.2 (signF rl S))
def wasX (S : PlS) : Int := S.2.1 - dxW S.2.2.2
def wasY (S : PlS) : Int := S.2.2.1 - dyW S.2.2.2
def wasC (rl : ByteArray) (S : PlS) : Int := (colF (wasX S) (wasY S) S.1 - 1) % (rl.size : Int)
def backF (rl : ByteArray) (S : PlS) : PlS :=
  (paintF (wasX S) (wasY S) (wasC rl S) S.1, wasX S, wasY S, (S.2.2.2 - quartersB ((rl.data.toList.getD (wasC rl S).toNat 0).toNat : Int)) % 4)
theorem mod_back {v n : Int} (h : 0 ≤ v ∧ v ≤ n - 1) : ((v + 1) % n - 1) % n = v ∧ ((v - 1) % n + 1) % n = v := by
  constructor
  · by_cases e : v = n - 1
    · rw [show v + 1 = n by omega, Int.emod_self, show (0 : Int) - 1 = (n - 1) + n * (-1) by omega, Int.add_mul_emod_self_left, Int.emod_eq_of_lt (by omega) (by omega)]
      omega
    · rw [Int.emod_eq_of_lt (a := v + 1) (by omega) (by omega), show v + 1 - 1 = v by omega, Int.emod_eq_of_lt (by omega) (by omega)]
  · by_cases e : v = 0
    · subst e
      rw [show (0 : Int) - 1 = (n - 1) + n * (-1) by omega, Int.add_mul_emod_self_left, Int.emod_eq_of_lt (a := n - 1) (by omega) (by omega), show n - 1 + 1 = n by omega, Int.emod_self]
    · rw [Int.emod_eq_of_lt (a := v - 1) (by omega) (by omega), show v - 1 + 1 = v by omega, Int.emod_eq_of_lt (by omega) (by omega)]
theorem back_stepF (rl : ByteArray) (S : PlS) (H : OkP rl S) : backF rl (stepF rl S) = S := by
  obtain ⟨sp, x, y, wy⟩ := S
  obtain ⟨hR, hl, hq, hw, hS⟩ := H
  simp only at hR hl hq hw hS
  have hR1 := hR.1
  have hc := col_range (x := x) (y := y) (show (1 : Int) ≤ (rl.size : Int) by omega) hS
  have n1 := Int.emod_nonneg (colF x y sp + 1) (show (rl.size : Int) ≠ 0 by omega)
  have ex : wasX (stepF rl (sp, x, y, wy)) = x := by
    show x + dxW (turnF wy (signF rl (sp, x, y, wy))) - dxW (turnF wy (signF rl (sp, x, y, wy))) = x
    omega
  have ey : wasY (stepF rl (sp, x, y, wy)) = y := by
    show y + dyW (turnF wy (signF rl (sp, x, y, wy))) - dyW (turnF wy (signF rl (sp, x, y, wy))) = y
    omega
  have es : (stepF rl (sp, x, y, wy)).1 = paintF x y ((colF x y sp + 1) % (rl.size : Int)) sp := rfl
  have ec : wasC rl (stepF rl (sp, x, y, wy)) = colF x y sp := by
    unfold wasC
    rw [ex, ey, es, col_paint x y _ n1, (mod_back hc).1]
  unfold backF
  rw [ex, ey, ec, es, paint_paint, paint_same hS]
  have ez : rl.data.toList.getD (colF x y sp).toNat 0 = signF rl (sp, x, y, wy) := rfl
  rw [ez]
  obtain ⟨q0, q3⟩ := quartersB_range ((signF rl (sp, x, y, wy)).toNat : Int)
  have ew : ((stepF rl (sp, x, y, wy)).2.2.2 - quartersB ((signF rl (sp, x, y, wy)).toNat : Int)) % 4 = wy := by
    show ((wy + quartersB ((signF rl (sp, x, y, wy)).toNat : Int)) % 4 - quartersB ((signF rl (sp, x, y, wy)).toNat : Int)) % 4 = wy
    omega
  rw [ew]
theorem step_backF (rl : ByteArray) (S : PlS) (H : OkP rl S) : stepF rl (backF rl S) = S := by
  obtain ⟨hR, hl, hq, hw, hS⟩ := H
  have hR1 := hR.1
  have hc := col_range (x := wasX S) (y := wasY S) (show (1 : Int) ≤ (rl.size : Int) by omega) hS
  have n0 : 0 ≤ wasC rl S := Int.emod_nonneg _ (show (rl.size : Int) ≠ 0 by omega)
  have eh : hereF (backF rl S) = wasC rl S := col_paint _ _ _ n0 _
  have ez : signF rl (backF rl S) = rl.data.toList.getD (wasC rl S).toNat 0 := by unfold signF; rw [eh]
  obtain ⟨q0, q3⟩ := quartersB_range ((rl.data.toList.getD (wasC rl S).toNat 0).toNat : Int)
  have et : turnF (backF rl S).2.2.2 (signF rl (backF rl S)) = S.2.2.2 := by
    rw [ez]
    show ((S.2.2.2 - quartersB ((rl.data.toList.getD (wasC rl S).toNat 0).toNat : Int)) % 4 + quartersB ((rl.data.toList.getD (wasC rl S).toNat 0).toNat : Int)) % 4 = S.2.2.2
    omega
  unfold stepF
  rw [et, eh]
  have e1 : paintF (backF rl S).2.1 (backF rl S).2.2.1 ((wasC rl S + 1) % (rl.size : Int)) (backF rl S).1 = S.1 := by
    show paintF (wasX S) (wasY S) ((wasC rl S + 1) % (rl.size : Int)) (paintF (wasX S) (wasY S) (wasC rl S) S.1) = S.1
    rw [paint_paint]
    unfold wasC
    rw [(mod_back hc).2, paint_same hS]
  have e2 : (backF rl S).2.1 + dxW S.2.2.2 = S.2.1 := by
    show S.2.1 - dxW S.2.2.2 + dxW S.2.2.2 = S.2.1
    omega
  have e3 : (backF rl S).2.2.1 + dyW S.2.2.2 = S.2.2.1 := by
    show S.2.2.1 - dyW S.2.2.2 + dyW S.2.2.2 = S.2.2.1
    omega
  rw [e1, e2, e3]
/-! ### Many steps -/
open Classical in
noncomputable def runF (rl : ByteArray) : Nat → PlS → Option (List UInt8 × PlS)
  | 0, S => some ([], S)
  | n + 1, S => if OkP rl (stepF rl S) then (runF rl n (stepF rl S)).map fun q => (signF rl S :: q.1, q.2) else none
open Classical in
noncomputable def brunF (rl : ByteArray) : Nat → PlS → Option PlS
  | 0, S => some S
  | n + 1, S => if OkP rl (backF rl S) then brunF rl n (backF rl S) else none
theorem run_step {rl : ByteArray} {n : Nat} {S : PlS} (h : OkP rl (stepF rl S)) : runF rl (n + 1) S = (runF rl n (stepF rl S)).map fun q => (signF rl S :: q.1, q.2) := by
  rw [runF]
  rw [if_pos h]
theorem run_stop {rl : ByteArray} {n : Nat} {S : PlS} (h : ¬ OkP rl (stepF rl S)) : runF rl (n + 1) S = none := by
  rw [runF]
  rw [if_neg h]
theorem brun_step {rl : ByteArray} {n : Nat} {S : PlS} (h : OkP rl (backF rl S)) : brunF rl (n + 1) S = brunF rl n (backF rl S) := by
  rw [brunF]
  rw [if_pos h]
theorem brun_stop {rl : ByteArray} {n : Nat} {S : PlS} (h : ¬ OkP rl (backF rl S)) : brunF rl (n + 1) S = none := by
  rw [brunF]
  rw [if_neg h]
theorem run_inv {rl : ByteArray} {n : Nat} {S : PlS} {l : List UInt8} {T : PlS} (h : runF rl (n + 1) S = some (l, T)) : OkP rl (stepF rl S) ∧ ∃ l', l = signF rl S :: l' ∧ runF rl n (stepF rl S) = some (l', T) := by
  by_cases c : OkP rl (stepF rl S)
  · rw [run_step c] at h
    obtain ⟨⟨l', T'⟩, h1, h2⟩ := Option.map_eq_some_iff.1 h
    simp only [Prod.mk.injEq] at h2
    exact ⟨c, l', h2.1.symm, h2.2 ▸ h1⟩
  · rw [run_stop c] at h
    cases h
theorem run_facts (rl : ByteArray) : ∀ (n : Nat) (S : PlS) (l : List UInt8) (T : PlS), OkP rl S → runF rl n S = some (l, T) → OkP rl T ∧ l.length = n ∧ (-(n : Int) ≤ T.2.1 - S.2.1 ∧ T.2.1 - S.2.1 ≤ n) ∧ (-(n : Int) ≤ T.2.2.1 - S.2.2.1 ∧ T.2.2.1 - S.2.2.1 ≤ n)
  | 0, S, l, T, H, h => by
    have e : (([] : List UInt8), S) = (l, T) := Option.some.inj h
    simp only [Prod.mk.injEq] at e
    obtain ⟨rfl, rfl⟩ := e
    exact ⟨H, rfl, by omega, by omega⟩
  | n + 1, S, l, T, H, h => by
    obtain ⟨c, l', rfl, h'⟩ := run_inv h
    obtain ⟨a, b, d, e⟩ := run_facts rl n _ l' T c h'
    obtain ⟨d1, d2⟩ := dW_range (turnF S.2.2.2 (signF rl S))
    have ex : (stepF rl S).2.1 = S.2.1 + dxW (turnF S.2.2.2 (signF rl S)) := rfl
    have ey : (stepF rl S).2.2.1 = S.2.2.1 + dyW (turnF S.2.2.2 (signF rl S)) := rfl
    rw [ex] at d
    rw [ey] at e
    exact ⟨a, by rw [List.length_cons, b], by omega, by omega⟩
theorem run_add (rl : ByteArray) : ∀ (m n : Nat) (S : PlS), runF rl (m + n) S = (runF rl m S).bind fun q => (runF rl n q.2).map fun r => (q.1 ++ r.1, r.2)
  | 0, n, S => by
    rw [Nat.zero_add]
    show runF rl n S = (runF rl n S).map fun r => ([] ++ r.1, r.2)
    cases runF rl n S <;> rfl
  | m + 1, n, S => by
    rw [show m + 1 + n = m + n + 1 by omega]
    by_cases c : OkP rl (stepF rl S)
    · rw [run_step c, run_step c, run_add rl m n]
      cases runF rl m (stepF rl S) with
      | none => rfl
      | some q =>
        show ((runF rl n q.2).map fun r => (q.1 ++ r.1, r.2)).map _ = (runF rl n q.2).map fun r => ((signF rl S :: q.1) ++ r.1, r.2)
        cases runF rl n q.2 <;> rfl
    · rw [run_stop c, run_stop c]
      rfl
theorem run_snoc {rl : ByteArray} {n : Nat} {S : PlS} {l : List UInt8} {T : PlS} (h : runF rl (n + 1) S = some (l, T)) : ∃ l' T', runF rl n S = some (l', T') ∧ T = stepF rl T' ∧ OkP rl T := by
  rw [run_add rl n 1] at h
  obtain ⟨⟨l', T'⟩, h1, h2⟩ := Option.bind_eq_some_iff.1 h
  obtain ⟨⟨r, U⟩, h3, h4⟩ := Option.map_eq_some_iff.1 h2
  simp only [Prod.mk.injEq] at h4
  obtain ⟨_, rfl⟩ := h4
  obtain ⟨c, r', _, h5⟩ := run_inv h3
  have e : (([] : List UInt8), stepF rl T') = (r', U) := Option.some.inj h5
  simp only [Prod.mk.injEq] at e
  obtain ⟨_, rfl⟩ := e
  exact ⟨l', T', h1, rfl, c⟩
theorem brun_run (rl : ByteArray) : ∀ (n : Nat) (S : PlS) (l : List UInt8) (T : PlS), OkP rl S → runF rl n S = some (l, T) → brunF rl n T = some S
  | 0, S, l, T, H, h => by
    have e : (([] : List UInt8), S) = (l, T) := Option.some.inj h
    simp only [Prod.mk.injEq] at e
    obtain ⟨_, rfl⟩ := e
    rfl
  | n + 1, S, l, T, H, h => by
    obtain ⟨l', T', h1, rfl, c⟩ := run_snoc h
    have h2 := (run_facts rl n S l' T' H h1).1
    have eb := back_stepF rl T' h2
    rw [brun_step (by rw [eb]; exact h2), eb]
    exact brun_run rl n S l' T' H h1
theorem brun_ok (rl : ByteArray) : ∀ (n : Nat) (S T : PlS), OkP rl S → brunF rl n S = some T → OkP rl T
  | 0, S, T, H, h => Option.some.inj h ▸ H
  | n + 1, S, T, H, h => by
    by_cases c : OkP rl (backF rl S)
    · rw [brun_step c] at h
      exact brun_ok rl n _ T c h
    · rw [brun_stop c] at h
      cases h
theorem run_brun (rl : ByteArray) : ∀ (n : Nat) (S T : PlS), OkP rl S → brunF rl n S = some T → ∃ l, runF rl n T = some (l, S)
  | 0, S, T, H, h => ⟨[], by rw [← Option.some.inj h]; rfl⟩
  | n + 1, S, T, H, h => by
    by_cases c : OkP rl (backF rl S)
    · rw [brun_step c] at h
      obtain ⟨l, hl⟩ := run_brun rl n _ T c h
      have es := step_backF rl S H
      refine ⟨l ++ [signF rl (backF rl S)], ?_⟩
      rw [run_add rl n 1, hl]
      show (runF rl 1 (backF rl S)).map _ = _
      rw [run_step (n := 0) (by rw [es]; exact H), es]
      rfl
    · rw [brun_stop c] at h
      cases h

theorem Less.asymm {a b : Sp} (h : Less a b) (h' : Less b a) : False := by unfold Less at h h'; omega
theorem less_unique : ∀ (l m : List Sp), l.Pairwise Less → m.Pairwise Less → l.Perm m → l = m
  | [], m, _, _, p => p.nil_eq
  | a :: l, m, h, h', p => by
    cases m with
    | nil => exact absurd p.eq_nil (by simp)
    | cons b m =>
      obtain ⟨h1, h2⟩ := List.pairwise_cons.1 h
      obtain ⟨h3, h4⟩ := List.pairwise_cons.1 h'
      have e : a = b := by
        have ha : a ∈ b :: m := p.mem_iff.1 (by simp)
        have hb : b ∈ a :: l := p.mem_iff.2 (by simp)
        rcases List.mem_cons.1 ha with ha | ha
        · exact ha
        · rcases List.mem_cons.1 hb with hb | hb
          · exact hb.symm
          · exact ((h1 b hb).asymm (h3 a ha)).elim
      subst e
      rw [less_unique l m h2 h4 p.cons_inv]
def cellOf (s : Sp) : Pt := (s.1, s.2.1)
theorem near_less {a b : Sp} (ha : nearS a = true) (hb : nearS b = true) : cmpS a b < 0 ↔ Less a b := nearS_lt ha hb
/-- Sorted spots of different cells. -/
theorem sortB_sorted (L : List Sp) (hn : ∀ x ∈ L, nearS x = true) (hl : L.length < 4611686018427387904) (hk : (L.map cellOf).Nodup) : ∃ S, sortB (s := (.pair (.int .i64) (.pair (.int .i64) (.int .i64)))) nearS nearS0 cmpS L = some S ∧ S.Perm L ∧ S.Pairwise Less := by
  letI : Inhabited { x : Sp // nearS x = true } := ⟨nearS0⟩
  obtain ⟨l', hl'⟩ : ∃ l' : List { x : Sp // nearS x = true }, l' = L.attachWith (fun x => nearS x = true) hn := ⟨_, rfl⟩
  have el : l'.map Subtype.val = L := by rw [hl']; exact List.attachWith_map_subtype_val hn
  obtain ⟨p1, p2⟩ := sortL_perm nearS_swo l'
  refine ⟨(sortL (fun a b : { x : Sp // nearS x = true } => cmpS a.1 b.1) l').map Subtype.val, ?_, ?_, ?_⟩
  · unfold sortB
    rw [dif_pos ⟨hn, hl⟩, hl']
    rfl
  · rw [← el]
    exact p1.map _
  · have q1 : ((sortL (fun a b : { x : Sp // nearS x = true } => cmpS a.1 b.1) l').map Subtype.val).Pairwise (fun x y => ¬ Less y x) := by
      rw [List.pairwise_map]
      refine p2.imp fun {a b} h => ?_
      intro hlt
      exact of_decide_eq_false h ((near_less b.2 a.2).2 hlt)
    have q2 : ((sortL (fun a b : { x : Sp // nearS x = true } => cmpS a.1 b.1) l').map Subtype.val).Pairwise (fun x y => cellOf x ≠ cellOf y) := by
      have := (p1.map Subtype.val).map cellOf
      rw [el] at this
      have := this.nodup_iff.2 hk
      exact List.pairwise_map.1 this
    refine (q1.and q2).imp fun {a b} h => ?_
    refine less_total h.1 fun e => h.2 ?_
    exact Prod.ext e.1.symm e.2.symm
/-! ### Cells moved -/
def img (f : Int → Int → Pt) (s : Sp) : Sp := ((f s.1 s.2.1).1, ((f s.1 s.2.1).2, s.2.2))
structure Moves (f : Int → Int → Pt) : Prop where
  inj : ∀ a b c d, f a b = f c d → a = c ∧ b = d
  near : ∀ a b, Far a → Far b → (-2000 ≤ (f a b).1 ∧ (f a b).1 ≤ 2000) ∧ (-2000 ≤ (f a b).2 ∧ (f a b).2 ≤ 2000)
theorem img_cell (f : Int → Int → Pt) (s : Sp) : cellOf (img f s) = f s.1 s.2.1 := rfl
theorem Moves.nodup {f : Int → Int → Pt} (M : Moves f) {sp : List Sp} (h : sp.Pairwise Less) : ((sp.map (img f)).map cellOf).Nodup := by
  rw [List.map_map]
  unfold List.Nodup
  rw [List.pairwise_map]
  refine h.imp fun {a b} hl e => ?_
  exact hl.ne (M.inj _ _ _ _ e)
theorem Moves.nearS {f : Int → Int → Pt} (M : Moves f) {sp : List Sp} (h : ∀ s ∈ sp, Far s.1 ∧ Far s.2.1) : ∀ x ∈ sp.map (img f), nearS x = true := fun x hx => by
  obtain ⟨s, hs, rfl⟩ := List.mem_map.1 hx
  obtain ⟨h1, h2⟩ := h s hs
  have := M.near _ _ h1 h2
  exact decide_eq_true ⟨⟨by show _ ≤ (f s.1 s.2.1).1; omega, by show (f s.1 s.2.1).1 ≤ _; omega⟩, ⟨by show _ ≤ (f s.1 s.2.1).2; omega, by show (f s.1 s.2.1).2 ≤ _; omega⟩⟩
theorem sorted_ev {f : Int → Int → Pt} (M : Moves f) {sp : List Sp} (h : sp.Pairwise Less) (hl : sp.length ≤ 300) (hf : ∀ s ∈ sp, Far s.1 ∧ Far s.2.1) {T : List Sp} (hT : T.Pairwise Less) (hp : T.Perm (sp.map (img f))) : Ev (fun k => slices_SortFunc k (sp.map (img f), ())) ((), T) := by
  obtain ⟨S, h1, h2, h3⟩ := sortB_sorted (sp.map (img f)) (M.nearS hf) (by rw [List.length_map]; omega) (M.nodup h)
  obtain rfl := less_unique S T h3 hT (h2.trans hp.symm)
  refine Ev.step (fun k => (slices_SortFunc.eq k (sp.map (img f), ())).trans (?_ : _ = some ((), S))) (Ev.now _)
  show (sortB (s := (.pair (.int .i64) (.pair (.int .i64) (.int .i64)))) nearS nearS0 cmpS (sp.map (img f))).map (fun r => ((), r)) = _
  exact congrArg (Option.map fun r => ((), r)) h1
theorem enMap_l_ev (rl : ByteArray) (sp : List Sp) (x y wy : Int) (b0 b1 b2 b3 b4 b5 : Int) {f : Int → Int → Pt} (M : Moves f) (hf : ∀ a b, Far a → Far b → (w64 (w64 (w64 (b0 * a) + w64 (b1 * b)) + b4), w64 (w64 (w64 (b2 * a) + w64 (b3 * b)) + b5)) = f a b) (h : sp.Pairwise Less) (hl : sp.length ≤ 300) (hF : ∀ s ∈ sp, (Far s.1 ∧ Far s.2.1) ∧ 1 ≤ s.2.2) (Z : ByteArray × List Sp × Int × Int × Int) (X Y : Int) :
    ∀ (m i : Nat) (T : List Sp), i + m = sp.length → T.Pairwise Less → T.Perm ((sp.take i).map (img f)) → ∃ T', T'.Pairwise Less ∧ T'.Perm (sp.map (img f)) ∧ Ev (fun k => spec_enMap_l k ((rl, sp, x, y, wy), (b0, b1, b2, b3, b4, b5), Z, (rl, T, X, Y, wy), (), (sp.length : Int), (i : Int))) ((rl, sp, x, y, wy), (b0, b1, b2, b3, b4, b5), Z, (rl, T', X, Y, wy))
  | 0, i, T, hi, hT, hp => ⟨T, hT, by rwa [List.take_of_length_le (by omega)] at hp, Ev.step (fun k => spec_enMap_l.eq k rl sp x y wy b0 b1 b2 b3 b4 b5 Z.1 Z.2.1 Z.2.2.1 Z.2.2.2.1 Z.2.2.2.2 rl T X Y wy _ _) (Ev.no (not_lt_nat (by omega)) (Ev.now _))⟩
  | m + 1, i, T, hi, hT, hp => by
    obtain ⟨s, hs⟩ := nat_list (l := sp) (i := i) (by omega)
    have hsm := List.mem_of_getElem? hs
    obtain ⟨⟨f1, f2⟩, f3⟩ := hF s hsm
    have e := hf s.1 s.2.1 f1 f2
    have ea : w64 (w64 (w64 (b0 * s.1) + w64 (b1 * s.2.1)) + b4) = (f s.1 s.2.1).1 := congrArg Prod.fst e
    have eb : w64 (w64 (w64 (b2 * s.1) + w64 (b3 * s.2.1)) + b5) = (f s.1 s.2.1).2 := congrArg Prod.snd e
    have hTl : T.length = i := by rw [hp.length_eq, List.length_map, List.length_take]; omega
    obtain ⟨A, B, rfl, C⟩ := cut_ex (f s.1 s.2.1).1 (f s.1 s.2.1).2 hT
    have hno : isAt (f s.1 s.2.1).1 (f s.1 s.2.1).2 B = false := by
      cases hb : isAt (f s.1 s.2.1).1 (f s.1 s.2.1).2 B with
      | false => rfl
      | true =>
        exfalso
        cases B with
        | nil => cases hb
        | cons q B =>
          rw [isAt_cons, Bool.and_eq_true, beq_iff_eq, beq_iff_eq] at hb
          have hq : q ∈ (sp.take i).map (img f) := hp.mem_iff.1 (by simp)
          obtain ⟨s', hs', rfl⟩ := List.mem_map.1 hq
          obtain ⟨j, hj⟩ := List.mem_iff_getElem?.1 hs'
          rw [List.getElem?_take] at hj
          split at hj
          · rename_i hji
            have := adj_pairwise h hj hs hji
            exact this.ne (M.inj _ _ _ _ (Prod.ext hb.1 hb.2))
          · cases hj
    have hrest : restB (f s.1 s.2.1).1 (f s.1 s.2.1).2 B = B := by unfold restB; rw [hno, if_neg (by simp)]
    have hpaint : paintL (f s.1 s.2.1).1 (f s.1 s.2.1).2 s.2.2 A B = A ++ (img f s :: B) := by
      unfold paintL
      rw [hrest, if_pos (by omega)]
      rfl
    have hR := C.rest
    rw [hrest] at hR
    obtain ⟨s1, s2, s3⟩ := List.pairwise_append.1 C.srt
    have lo : ∀ q ∈ A, Less q (img f s) := fun q hq => (C.lo q hq).key rfl rfl
    have hi' : ∀ q ∈ B, Less (img f s) q := fun q hq => by
      have := hR q hq
      unfold Less at this ⊢
      exact this
    have srt : (A ++ (img f s :: B)).Pairwise Less := List.pairwise_append.2 ⟨s1, List.pairwise_cons.2 ⟨hi', s2⟩, fun a ha b hb => by
      rcases List.mem_cons.1 hb with rfl | hb
      · exact lo a ha
      · exact s3 a ha b hb⟩
    have hp' : (A ++ (img f s :: B)).Perm ((sp.take (i + 1)).map (img f)) := by
      rw [take_next' hs, List.map_append]
      exact List.perm_middle.trans ((List.Perm.cons _ hp).trans (List.perm_append_comm (l₁ := [img f s])))
    obtain ⟨T', t1, t2, t3⟩ := enMap_l_ev rl sp x y wy b0 b1 b2 b3 b4 b5 M hf h hl hF Z X Y m (i + 1) _ (by omega) srt hp'
    refine ⟨T', t1, t2, Ev.step (fun k => spec_enMap_l.eq k rl sp x y wy b0 b1 b2 b3 b4 b5 Z.1 Z.2.1 Z.2.2.1 Z.2.2.2.1 Z.2.2.2.2 rl (A ++ B) X Y wy _ _) (Ev.yes (lt_nat (by omega)) (Ev.yes (inB_nat (by omega)) ?_))⟩
    rw [Int.toNat_natCast, getD_at hs, ea, eb, w64_succ (by omega)]
    have hq := enPaint_ev C (by rw [hTl]; omega) s.2.2
    rw [hpaint] at hq
    exact Ev.bind hq t3
theorem img_ok {f : Int → Int → Pt} {sp T : List Sp} {t : Int} (h : ∀ s ∈ sp, 1 ≤ s.2.2 ∧ s.2.2 ≤ t - 1) (hp : T.Perm (sp.map (img f))) : ∀ s ∈ T, 1 ≤ s.2.2 ∧ s.2.2 ≤ t - 1 := fun s hs => by
  obtain ⟨q, hq, rfl⟩ := List.mem_map.1 (hp.mem_iff.1 hs)
  exact h q hq

def othC (c : UInt8) : UInt8 := if c = 76 then 82 else if c = 82 then 76 else c
def oth (s : ByteArray) : ByteArray := swapS (swp (76 : UInt8).toNat (82 : UInt8).toNat) s
theorem othC_eq (c : UInt8) : UInt8.ofNat (swp (76 : UInt8).toNat (82 : UInt8).toNat c.toNat) = othC c := by
  unfold othC swp swU
  by_cases h1 : c = 76
  · subst h1
    rfl
  · by_cases h2 : c = 82
    · subst h2
      rfl
    · rw [if_neg (fun e => h1 (UInt8.toNat_inj.1 e)), if_neg (fun e => h2 (UInt8.toNat_inj.1 e)), if_neg h1, if_neg h2]
      simp
theorem othC_othC (c : UInt8) : othC (othC c) = c := by
  unfold othC
  by_cases h1 : c = 76
  · subst h1
    rfl
  · by_cases h2 : c = 82
    · subst h2
      rfl
    · rw [if_neg h1, if_neg h2, if_neg h1, if_neg h2]
theorem oth_list (s : ByteArray) : (oth s).data.toList = s.data.toList.map othC := by
  show (s.data.toList.map fun c => UInt8.ofNat (swp (76 : UInt8).toNat (82 : UInt8).toNat c.toNat)).toArray.toList = _
  rw [List.toList_toArray]
  exact List.map_congr_left fun c _ => othC_eq c
theorem oth_size (s : ByteArray) : (oth s).size = s.size := by
  rw [size_list, size_list, oth_list, List.length_map]
theorem oth_oth (s : ByteArray) : oth (oth s) = s := by
  apply ba_ext
  rw [oth_list, oth_list, List.map_map]
  conv => rhs; rw [← List.map_id s.data.toList]
  exact List.map_congr_left fun c _ => othC_othC c
theorem signC_oth {c : UInt8} (h : SignC c) : SignC (othC c) := by
  unfold othC
  by_cases h1 : c = 76
  · subst h1
    simp [SignC]
  · by_cases h2 : c = 82
    · subst h2
      simp [SignC]
    · rw [if_neg h1, if_neg h2]
      exact h
theorem ruleOk_oth {s : ByteArray} (h : RuleOk s) : RuleOk (oth s) := by
  refine ⟨by rw [oth_size]; exact h.1, fun c hc => ?_⟩
  rw [oth_list] at hc
  obtain ⟨d, hd, rfl⟩ := List.mem_map.1 hc
  exact signC_oth (h.2 d hd)
theorem other_ev (s : ByteArray) (h : s.size ≤ 1048576) : Ev (fun k => impl_other k s) (oth s) :=
  Ev.step (fun k => (impl_other.eq k s).trans (show otherB 76 82 s = some (oth s) from if_pos (by omega))) (Ev.now _)
theorem otherWay_ev (wy : Int) (h : 0 ≤ wy ∧ wy ≤ 3) : Ev (fun k => impl_otherWay k wy) ((4 - wy) % 4) := Ev.step (fun k => impl_otherWay.eq k wy) (Ev.now' (by rw [w64_of (by omega) (by omega), Int.tmod_eq_emod_of_nonneg (by omega)]))
theorem cut_one {cs : ByteArray} {i : Nat} {c : UInt8} (h : cs.data.toList[i]? = some c) : cs.extract i (i + 1) = bs [c] := by
  apply ba_ext
  obtain ⟨hlt, he⟩ := List.getElem?_eq_some_iff.1 h
  rw [extract_list, List.drop_take, show i + 1 - i = 1 by omega, List.drop_eq_getElem_cons hlt, he]
  rfl
theorem woOther_l_ev (s : ByteArray) (hs : s.size ≤ 1048576) : ∀ (m i : Nat), i + m = s.size → Ev (fun k => spec_woOther_l k (s, bs ((s.data.toList.take i).map othC), (i : Int))) (oth s)
  | 0, i, hi => Ev.step (fun k => spec_woOther_l.eq k s _ i) (Ev.no (not_lt_nat (by omega)) (Ev.now' (by
      apply ba_ext
      rw [oth_list, List.take_of_length_le (by rw [← size_list]; omega)]
      rfl)))
  | m + 1, i, hi => by
    obtain ⟨c, hc⟩ := byte_at (cs := s) (i := i) (by omega)
    have ih := woOther_l_ev s hs m (i + 1) (by omega)
    have hz : (bs ((s.data.toList.take i).map othC)).size = i := by
      rw [size_list]
      simp only [bs, List.toList_toArray, List.length_map, List.length_take]
      rw [← size_list]
      omega
    have e1 : w64 ((i : Int) + 1) = ((i + 1 : Nat) : Int) := w64_succ (by omega)
    have ef : ∀ d : UInt8, fitS (bs ((s.data.toList.take i).map othC)) (bs [d]) = true := fun d => fitS_of (by rw [hz]; show i + 1 < _; omega)
    have ea : ∀ d : UInt8, d = othC c → bs ((s.data.toList.take i).map othC) ++ bs [d] = bs ((s.data.toList.take (i + 1)).map othC) := fun d hd => by
      apply ba_ext
      rw [append_list, List.take_add_one, hc, List.map_append]
      subst hd
      rfl
    refine Ev.step (fun k => spec_woOther_l.eq k s _ i) (Ev.yes (lt_nat (by omega)) (Ev.yes (inB_nat (by omega)) ?_))
    rw [Int.toNat_natCast, bt_at hc, e1]
    by_cases h1 : c = 76
    · refine Ev.yes (by rw [h1]; rfl) (Ev.yes (ef 82) ?_)
      rw [ea 82 (by rw [h1]; rfl)]
      exact ih
    · have n1 : ((c.toNat : Int) == 76) = false := by
        rw [beq_eq_false_iff_ne]
        intro e
        exact h1 (UInt8.toNat_inj.1 (by show c.toNat = 76; omega))
      refine Ev.no n1 ?_
      by_cases h2 : c = 82
      · refine Ev.yes (by rw [h2]; rfl) (Ev.yes (ef 76) ?_)
        rw [ea 76 (by rw [h2]; rfl)]
        exact ih
      · have n2 : ((c.toNat : Int) == 82) = false := by
          rw [beq_eq_false_iff_ne]
          intro e
          exact h2 (UInt8.toNat_inj.1 (by show c.toNat = 82; omega))
        rw [Int.toNat_natCast, cut_one hc]
        refine Ev.no n2 (Ev.yes (by rw [decide_eq_true (by omega), decide_eq_true (by omega), decide_eq_true (by omega), decide_eq_true (by omega)]; rfl) (Ev.yes (ef c) ?_))
        rw [ea c (by unfold othC; rw [if_neg h1, if_neg h2])]
        exact ih
theorem woOther_ev (s : ByteArray) (hs : s.size ≤ 1048576) : Ev (fun k => spec_woOther k s) (oth s) := Ev.step (fun k => spec_woOther.eq k s) (Ev.bind (woOther_l_ev s hs s.size 0 (by omega)) (Ev.now _))
theorem plainG_ev (rl : ByteArray) (sp : List Sp) (x y wy : Int) (g : List (Pt × Int)) {t : Int} (H : SpotsOk t sp) (h300 : sp.length ≤ 1000) (hg : g.Perm (sp.map ent)) : Ev (fun k => impl_going_plain k (rl, g, x, y, wy)) (rl, sp, x, y, wy) := by
  have hlen : g.length = sp.length := by rw [hg.length_eq, List.length_map]
  have hmap : (g.map fun e => ((e.1.1, e.1.2, e.2) : Int × Int × Int)).Perm sp := by
    have := hg.map fun e : Pt × Int => ((e.1.1, e.1.2, e.2) : Int × Int × Int)
    rw [List.map_map] at this
    have e : sp.map ((fun e : Pt × Int => ((e.1.1, e.1.2, e.2) : Int × Int × Int)) ∘ ent) = sp := by
      conv => rhs; rw [← List.map_id sp]
      rfl
    rwa [e] at this
  have hys : ∀ xs : List Sp, xs.Perm (g.map fun e => ((e.1.1, e.1.2, e.2) : Int × Int × Int)) → sortB (s := SpS) nearS nearS0 cmpS xs = some sp := fun xs hx => by
    have hxs : xs.Perm sp := hx.trans hmap
    have hnear : ∀ s ∈ xs, nearS s = true := fun s hs => by
      have hso := H.1 s (hxs.mem_iff.1 hs)
      unfold SpotOk Far at hso
      exact decide_eq_true (by omega)
    have hnd : (xs.map cellOf).Nodup := by
      have hk := keys_of H.2
      unfold Keys at hk
      rw [List.map_map] at hk
      exact ((hxs.map cellOf).nodup_iff).2 hk
    obtain ⟨S, e1, e2, e3⟩ := sortB_sorted xs hnear (by have := hxs.length_eq; omega) hnd
    rw [show S = sp from less_unique S sp e3 H.2 (e2.trans hxs)] at e1
    exact e1
  have hb : plainB (rl, g, x, y, wy) = some (rl, sp, x, y, wy) := by
    have hex : ∃ ys : List SpS.T, ∀ xs : List SpS.T, xs.Perm (g.map fun e => ((e.1.1, e.1.2, e.2) : Int × Int × Int)) → sortB (s := SpS) nearS nearS0 cmpS xs = some ys := ⟨sp, hys⟩
    unfold plainB
    rw [dif_pos ⟨by dsimp only; omega, hex⟩]
    have h1 := hex.choose_spec _ (List.Perm.refl _)
    have h2 := hys _ (List.Perm.refl _)
    have e : hex.choose = sp := Option.some.inj (h1.symm.trans h2)
    show some (rl, hex.choose, x, y, wy) = _
    rw [e]
    rfl
  exact Ev.step (fun k => (impl_going_plain.eq k (rl, g, x, y, wy)).trans hb) (Ev.now _)
theorem plain_ev (rl : ByteArray) (sp : List Sp) (x y wy : Int) (g : List (Pt × Int)) (H : PlainOk rl sp x y wy) (hg : g.Perm (sp.map ent)) : Ev (fun k => impl_going_plain k (rl, g, x, y, wy)) (rl, sp, x, y, wy) := plainG_ev rl sp x y wy g H.2.2.2.2 (by have := H.2.1; omega) hg

/-! ### Spots by their cells -/
theorem col_mem {x y c : Int} : ∀ {sp : List Sp}, sp.Pairwise Less → (x, (y, c)) ∈ sp → colF x y sp = c := by
  intro sp hs hm
  obtain ⟨A, B, rfl, C⟩ := cut_ex x y hs
  rw [cut_col C]
  have hA : (x, (y, c)) ∉ A := fun q => by
    have := C.lo _ q
    unfold Less at this
    simp only at this
    omega
  have hB := (List.mem_append.1 hm).resolve_left hA
  cases hi : isAt x y B with
  | true =>
    cases B with
    | nil => cases hB
    | cons s B =>
      rw [colT_cons, hi, if_pos rfl]
      rcases List.mem_cons.1 hB with e | q
      · rw [← e]
      · have r := C.rest
        have hr : restB x y (s :: B) = B := by unfold restB; rw [hi, if_pos rfl]; rfl
        rw [hr] at r
        have := r _ q
        unfold Less at this
        simp only at this
        omega
  | false =>
    have hr : restB x y B = B := by unfold restB; rw [hi, if_neg Bool.false_ne_true]
    have r := C.rest
    rw [hr] at r
    have := r _ hB
    unfold Less at this
    simp only at this
    omega
theorem col_no {x y : Int} {sp : List Sp} (h : ∀ s ∈ sp, ¬ (s.1 = x ∧ s.2.1 = y)) : colF x y sp = 0 := by
  unfold colF
  rw [find_none fun s hs => by
    cases q : atS x y s with
    | false => rfl
    | true => exact absurd (at_iff.1 q) (h s hs)]
theorem mem_paint {x y p : Int} {sp : List Sp} {s : Sp} : s ∈ paintF x y p sp ↔ (s ∈ sp ∧ ¬ (s.1 = x ∧ s.2.1 = y)) ∨ (0 < p ∧ s = (x, (y, p))) := by
  unfold paintF
  rw [List.mem_append, List.mem_append, List.mem_filter, List.mem_filter]
  have hb : befS x y s = true ↔ Less s (x, (y, 0)) := decide_eq_true_iff
  have ha : aftS x y s = true ↔ Less (x, (y, 0)) s := decide_eq_true_iff
  rw [hb, ha]
  have hm : s ∈ (if 0 < p then [(x, (y, p))] else ([] : List Sp)) ↔ 0 < p ∧ s = (x, (y, p)) := by
    split
    · rename_i h
      rw [List.mem_singleton]
      exact ⟨fun q => ⟨h, q⟩, fun q => q.2⟩
    · rename_i h
      exact ⟨fun q => (by cases q), fun q => absurd q.1 h⟩
  rw [hm]
  constructor
  · rintro (⟨h1, h2⟩ | h | ⟨h1, h2⟩)
    · exact .inl ⟨h1, fun e => by unfold Less at h2; simp only at h2; omega⟩
    · exact .inr h
    · exact .inl ⟨h1, fun e => by unfold Less at h2; simp only at h2; omega⟩
  · rintro (⟨h1, h2⟩ | h)
    · by_cases hl : Less s (x, (y, 0))
      · exact .inl ⟨h1, hl⟩
      · exact .inr (.inr ⟨h1, less_total hl h2⟩)
    · exact .inr (.inl h)
theorem paint_sorted {x y p : Int} {sp : List Sp} (h : sp.Pairwise Less) : (paintF x y p sp).Pairwise Less := by
  have key : ∀ s : Sp, befS x y s = true → ∀ q : Int, Less s (x, (y, q)) := fun s hs q => (of_decide_eq_true hs : Less s (x, (y, 0))).key rfl rfl
  have key2 : ∀ s : Sp, aftS x y s = true → ∀ q : Int, Less (x, (y, q)) s := fun s hs q => by
    have : Less (x, (y, 0)) s := of_decide_eq_true hs
    unfold Less at this ⊢
    exact this
  have hm : ∀ s ∈ (if 0 < p then [(x, (y, p))] else ([] : List Sp)), s = (x, (y, p)) := fun s hs => by
    split at hs
    · exact List.mem_singleton.1 hs
    · cases hs
  unfold paintF
  rw [List.pairwise_append, List.pairwise_append]
  refine ⟨h.filter _, ⟨?_, h.filter _, fun a ha b hb => ?_⟩, fun a ha b hb => ?_⟩
  · split
    · exact List.pairwise_singleton _ _
    · exact List.Pairwise.nil
  · rw [hm a ha]
    exact key2 b (List.mem_filter.1 hb).2 p
  · rcases List.mem_append.1 hb with hb | hb
    · rw [hm b hb]
      exact key a (List.mem_filter.1 ha).2 p
    · exact (key a (List.mem_filter.1 ha).2 0).trans (key2 b (List.mem_filter.1 hb).2 0)
theorem sorted_nodup {sp : List Sp} (h : sp.Pairwise Less) : sp.Nodup := h.imp fun {a b} hl e => by subst e; exact hl.ne ⟨rfl, rfl⟩
/-! ### Symmetries -/
structure PSym where
  f : Int → Int → Pt
  wf : Int → Int
  rf : ByteArray → ByteArray
structure PSymOk (S : PSym) : Prop where
  inj : ∀ a b c d, S.f a b = S.f c d → a = c ∧ b = d
  far : ∀ a b, (Far (S.f a b).1 ∧ Far (S.f a b).2) ↔ (Far a ∧ Far b)
  way : ∀ v, 0 ≤ v ∧ v ≤ 3 → 0 ≤ S.wf v ∧ S.wf v ≤ 3
  go : ∀ x y v, 0 ≤ v ∧ v ≤ 3 → S.f (x + dxW v) (y + dyW v) = ((S.f x y).1 + dxW (S.wf v), (S.f x y).2 + dyW (S.wf v))
  size : ∀ rl, (S.rf rl).size = rl.size
  rule : ∀ rl, RuleOk rl → RuleOk (S.rf rl)
  turn : ∀ (rl : ByteArray) v (c : Nat), RuleOk rl → 0 ≤ v ∧ v ≤ 3 → c < rl.size → S.wf (turnF v (rl.data.toList.getD c 0)) = turnF (S.wf v) ((S.rf rl).data.toList.getD c 0)
def PPic (S : PSym) : PlS → PlS → Prop
  | (sp, x, y, wy), (sp', x', y', wy') => sp'.Pairwise Less ∧ sp'.Perm (sp.map (img S.f)) ∧ (x', y') = S.f x y ∧ wy' = S.wf wy
theorem ppic_unique {S : PSym} : ∀ {A B C : PlS}, PPic S A B → PPic S A C → B = C
  | (sp, x, y, wy), (sp1, x1, y1, wy1), (sp2, x2, y2, wy2), ⟨a1, a2, a3, a4⟩, ⟨b1, b2, b3, b4⟩ => by
    have e := less_unique sp1 sp2 a1 b1 (a2.trans b2.symm)
    have ep := a3.trans b3.symm
    simp only [Prod.mk.injEq] at ep
    rw [e, ep.1, ep.2, a4, b4]
theorem ppic_len {S : PSym} : ∀ {A B : PlS}, PPic S A B → B.1.length = A.1.length
  | (sp, x, y, wy), (sp1, x1, y1, wy1), ⟨a1, a2, a3, a4⟩ => by
    have := a2.length_eq
    rw [List.length_map] at this
    exact this
theorem ppic_ok {S : PSym} (O : PSymOk S) (rl : ByteArray) (hR : RuleOk rl) : ∀ {A B : PlS}, A.1.Pairwise Less → 0 ≤ A.2.2.2 ∧ A.2.2.2 ≤ 3 → PPic S A B → (OkP rl A ↔ OkP (S.rf rl) B)
  | (sp, x, y, wy), (sp1, x1, y1, wy1), hs, hw, P => by
    have hlen := ppic_len P
    obtain ⟨a1, a2, a3, a4⟩ := P
    have ex : x1 = (S.f x y).1 := congrArg Prod.fst a3
    have ey : y1 = (S.f x y).2 := congrArg Prod.snd a3
    subst ex ey a4
    simp only at hs hw hlen
    have hsp : (∀ s ∈ sp, SpotOk rl.size s) ↔ (∀ s ∈ sp1, SpotOk (S.rf rl).size s) := by
      rw [O.size]
      constructor
      · intro h s h1
        obtain ⟨q, hq, rfl⟩ := List.mem_map.1 (a2.mem_iff.1 h1)
        exact ⟨(O.far _ _).2 (h q hq).1, (h q hq).2⟩
      · intro h s h1
        have := h _ (a2.mem_iff.2 (List.mem_map.2 ⟨s, h1, rfl⟩))
        exact ⟨(O.far _ _).1 this.1, this.2⟩
    show (RuleOk rl ∧ sp.length ≤ 300 ∧ (Far x ∧ Far y) ∧ (0 ≤ wy ∧ wy ≤ 3) ∧ SpotsOk rl.size sp) ↔ (RuleOk (S.rf rl) ∧ sp1.length ≤ 300 ∧ (Far (S.f x y).1 ∧ Far (S.f x y).2) ∧ (0 ≤ S.wf wy ∧ S.wf wy ≤ 3) ∧ SpotsOk (S.rf rl).size sp1)
    rw [O.far, hlen]
    exact ⟨fun h => ⟨O.rule rl hR, h.2.1, h.2.2.1, O.way wy hw, hsp.1 h.2.2.2.2.1, a1⟩, fun h => ⟨hR, h.2.1, h.2.2.1, hw, hsp.2 h.2.2.2.2.1, hs⟩⟩
theorem ppic_col {S : PSym} (O : PSymOk S) {sp sp' : List Sp} (hs : sp.Pairwise Less) (hs' : sp'.Pairwise Less) (hp : sp'.Perm (sp.map (img S.f))) (x y : Int) : colF (S.f x y).1 (S.f x y).2 sp' = colF x y sp := by
  by_cases h : ∃ c, (x, (y, c)) ∈ sp
  · obtain ⟨c, hc⟩ := h
    rw [col_mem hs hc]
    exact col_mem hs' (hp.mem_iff.2 (List.mem_map.2 ⟨_, hc, rfl⟩))
  · rw [col_no (x := x) (y := y) fun s hs' e => h ⟨s.2.2, by obtain ⟨a, b, c⟩ := s; obtain ⟨e1, e2⟩ := e; simp only at e1 e2; subst e1 e2; exact hs'⟩]
    refine col_no fun s hs1 e => ?_
    obtain ⟨q, hq, rfl⟩ := List.mem_map.1 (hp.mem_iff.1 hs1)
    have : S.f q.1 q.2.1 = S.f x y := Prod.ext e.1 e.2
    obtain ⟨e1, e2⟩ := O.inj _ _ _ _ this
    obtain ⟨a, b, c⟩ := q
    simp only at e1 e2
    subst e1 e2
    exact h ⟨c, hq⟩
theorem ppic_paint {S : PSym} (O : PSymOk S) {sp sp' : List Sp} (hs : sp.Pairwise Less) (hs' : sp'.Pairwise Less) (hp : sp'.Perm (sp.map (img S.f))) (x y p : Int) : (paintF (S.f x y).1 (S.f x y).2 p sp').Perm ((paintF x y p sp).map (img S.f)) := by
  have n1 : ((paintF x y p sp).map (img S.f)).Nodup := by
    unfold List.Nodup
    rw [List.pairwise_map]
    refine (paint_sorted (x := x) (y := y) (p := p) hs).imp fun {a b} hl e => ?_
    have e1 : S.f a.1 a.2.1 = S.f b.1 b.2.1 := Prod.ext (congrArg (fun q : Sp => q.1) e) (congrArg (fun q : Sp => q.2.1) e)
    exact hl.ne (O.inj _ _ _ _ e1)
  rw [List.perm_ext_iff_of_nodup (sorted_nodup (paint_sorted hs')) n1]
  intro s
  rw [mem_paint, List.mem_map]
  constructor
  · rintro (⟨h1, h2⟩ | ⟨h1, h2⟩)
    · obtain ⟨q, hq, rfl⟩ := List.mem_map.1 (hp.mem_iff.1 h1)
      refine ⟨q, mem_paint.2 (.inl ⟨hq, fun e => h2 ?_⟩), rfl⟩
      show (S.f q.1 q.2.1).1 = _ ∧ (S.f q.1 q.2.1).2 = _
      rw [e.1, e.2]
      exact ⟨rfl, rfl⟩
    · exact ⟨(x, (y, p)), mem_paint.2 (.inr ⟨h1, rfl⟩), h2.symm⟩
  · rintro ⟨q, hq, rfl⟩
    rcases mem_paint.1 hq with ⟨h1, h2⟩ | ⟨h1, rfl⟩
    · exact .inl ⟨hp.mem_iff.2 (List.mem_map.2 ⟨q, h1, rfl⟩), fun e => h2 (O.inj _ _ _ _ (Prod.ext e.1 e.2))⟩
    · exact .inr ⟨h1, rfl⟩
theorem ppic_step {S : PSym} (O : PSymOk S) (rl : ByteArray) : ∀ {A B : PlS}, OkP rl A → PPic S A B → PPic S (stepF rl A) (stepF (S.rf rl) B)
  | (sp, x, y, wy), (sp1, x1, y1, wy1), H, P => by
    obtain ⟨a1, a2, a3, a4⟩ := P
    obtain ⟨hR, hlen, hxy, hwy, hS⟩ := H
    simp only at hR hlen hxy hwy hS
    have ex : x1 = (S.f x y).1 := congrArg Prod.fst a3
    have ey : y1 = (S.f x y).2 := congrArg Prod.snd a3
    subst ex ey a4
    have ec := ppic_col O hS.2 a1 a2 x y
    have hR1 := hR.1
    have hc := col_range (x := x) (y := y) (show (1 : Int) ≤ (rl.size : Int) by omega) hS
    have et : S.wf (turnF wy (rl.data.toList.getD (colF x y sp).toNat 0)) = turnF (S.wf wy) ((S.rf rl).data.toList.getD (colF x y sp).toNat 0) := O.turn rl wy _ hR hwy (by omega)
    have ht : 0 ≤ turnF wy (rl.data.toList.getD (colF x y sp).toNat 0) ∧ turnF wy (rl.data.toList.getD (colF x y sp).toNat 0) ≤ 3 := by unfold turnF; omega
    have eg := O.go x y _ ht
    show PPic S (paintF x y ((colF x y sp + 1) % (rl.size : Int)) sp, x + dxW (turnF wy (rl.data.toList.getD (colF x y sp).toNat 0)), y + dyW (turnF wy (rl.data.toList.getD (colF x y sp).toNat 0)), turnF wy (rl.data.toList.getD (colF x y sp).toNat 0))
      (paintF (S.f x y).1 (S.f x y).2 ((colF (S.f x y).1 (S.f x y).2 sp1 + 1) % ((S.rf rl).size : Int)) sp1, (S.f x y).1 + dxW (turnF (S.wf wy) ((S.rf rl).data.toList.getD (colF (S.f x y).1 (S.f x y).2 sp1).toNat 0)), (S.f x y).2 + dyW (turnF (S.wf wy) ((S.rf rl).data.toList.getD (colF (S.f x y).1 (S.f x y).2 sp1).toNat 0)), turnF (S.wf wy) ((S.rf rl).data.toList.getD (colF (S.f x y).1 (S.f x y).2 sp1).toNat 0))
    rw [ec, O.size, ← et]
    exact ⟨paint_sorted a1, ppic_paint O hS.2 a1 a2 x y _, eg.symm, rfl⟩
theorem ppic_run {S : PSym} (O : PSymOk S) (rl : ByteArray) : ∀ (n : Nat) (A B : PlS), OkP rl A → PPic S A B → (∀ l T, runF rl n A = some (l, T) → ∃ l' T', runF (S.rf rl) n B = some (l', T') ∧ PPic S T T') ∧ (runF rl n A = none → runF (S.rf rl) n B = none)
  | 0, A, B, H, P => ⟨fun l T h => by
      have e : (([] : List UInt8), A) = (l, T) := Option.some.inj h
      simp only [Prod.mk.injEq] at e
      obtain ⟨_, rfl⟩ := e
      exact ⟨[], B, rfl, P⟩, fun h => nomatch h⟩
  | n + 1, A, B, H, P => by
    have PS := ppic_step O rl H P
    have hw : 0 ≤ (stepF rl A).2.2.2 ∧ (stepF rl A).2.2.2 ≤ 3 := by
      show 0 ≤ turnF A.2.2.2 (signF rl A) ∧ turnF A.2.2.2 (signF rl A) ≤ 3
      unfold turnF
      omega
    have ok := ppic_ok O rl H.1 (paint_sorted H.2.2.2.2.2) hw PS
    by_cases c : OkP rl (stepF rl A)
    · have c' := ok.1 c
      obtain ⟨i1, i2⟩ := ppic_run O rl n _ _ c PS
      rw [run_step c, run_step c']
      constructor
      · intro l T h
        obtain ⟨⟨l1, T1⟩, h1, h2⟩ := Option.map_eq_some_iff.1 h
        simp only [Prod.mk.injEq] at h2
        obtain ⟨_, rfl⟩ := h2
        obtain ⟨l', T', j1, j2⟩ := i1 l1 T1 h1
        exact ⟨_, T', by rw [j1]; rfl, j2⟩
      · intro h
        rw [i2 (Option.map_eq_none_iff.1 h)]
        rfl
    · have c' : ¬ OkP (S.rf rl) (stepF (S.rf rl) B) := fun q => c (ok.2 q)
      rw [run_stop c, run_stop c']
      exact ⟨fun l T h => (nomatch h), fun _ => rfl⟩
/-! ### The two symmetries -/
def tnP : PSym := ⟨fun a b => (-b, a), fun v => (v + 1) % 4, fun rl => rl⟩
def miP : PSym := ⟨fun a b => (-a, b), fun v => (4 - v) % 4, oth⟩
theorem way4P {v : Int} (h : 0 ≤ v ∧ v ≤ 3) : v = 0 ∨ v = 1 ∨ v = 2 ∨ v = 3 := by omega
theorem tnP_ok : PSymOk tnP := by
  refine ⟨fun a b c d h => ?_, fun a b => ?_, fun v hv => ?_, fun x y v hv => ?_, fun rl => rfl, fun rl h => h, fun rl v c hR hv hc => ?_⟩
  · have h1 : -b = -d := congrArg Prod.fst h
    have h2 : a = c := congrArg Prod.snd h
    omega
  · show (Far (-b) ∧ Far a) ↔ (Far a ∧ Far b)
    unfold Far
    omega
  · show 0 ≤ (v + 1) % 4 ∧ (v + 1) % 4 ≤ 3
    omega
  · rcases way4P hv with rfl | rfl | rfl | rfl
    · show (-(y + -1), x + 0) = (-y + 1, x + 0)
      rw [show -(y + -1) = -y + 1 by omega]
    · show (-(y + 0), x + 1) = (-y + 0, x + 1)
      rw [show -(y + 0) = -y + 0 by omega]
    · show (-(y + 1), x + 0) = (-y + -1, x + 0)
      rw [show -(y + 1) = -y + -1 by omega]
    · show (-(y + 0), x + -1) = (-y + 0, x + -1)
      rw [show -(y + 0) = -y + 0 by omega]
  · show ((v + quartersB ((rl.data.toList.getD c 0).toNat : Int)) % 4 + 1) % 4 = ((v + 1) % 4 + quartersB ((rl.data.toList.getD c 0).toNat : Int)) % 4
    omega
theorem quarters_othP {c : UInt8} (h : SignC c) : quartersB ((othC c).toNat : Int) = (4 - quartersB (c.toNat : Int)) % 4 := by
  rcases h with rfl | rfl | rfl | rfl <;> rfl
theorem miP_ok : PSymOk miP := by
  refine ⟨fun a b c d h => ?_, fun a b => ?_, fun v hv => ?_, fun x y v hv => ?_, fun rl => oth_size rl, fun rl h => ruleOk_oth h, fun rl v c hR hv hc => ?_⟩
  · have h1 : -a = -c := congrArg Prod.fst h
    have h2 : b = d := congrArg Prod.snd h
    omega
  · show (Far (-a) ∧ Far b) ↔ (Far a ∧ Far b)
    unfold Far
    omega
  · show 0 ≤ (4 - v) % 4 ∧ (4 - v) % 4 ≤ 3
    omega
  · rcases way4P hv with rfl | rfl | rfl | rfl
    · show (-(x + 0), y + -1) = (-x + 0, y + -1)
      rw [show -(x + 0) = -x + 0 by omega]
    · show (-(x + 1), y + 0) = (-x + -1, y + 0)
      rw [show -(x + 1) = -x + -1 by omega]
    · show (-(x + 0), y + 1) = (-x + 0, y + 1)
      rw [show -(x + 0) = -x + 0 by omega]
    · show (-(x + -1), y + 0) = (-x + 1, y + 0)
      rw [show -(x + -1) = -x + 1 by omega]
  · obtain ⟨s, hs⟩ := byte_at (cs := rl) (i := c) hc
    have hs' : (oth rl).data.toList[c]? = some (othC s) := by rw [oth_list, List.getElem?_map, hs]; rfl
    have g1 : rl.data.toList.getD c 0 = s := by rw [List.getD_eq_getElem?_getD, hs]; rfl
    have g2 : (oth rl).data.toList.getD c 0 = othC s := by rw [List.getD_eq_getElem?_getD, hs']; rfl
    have hq := quarters_othP (hR.2 s (List.mem_of_getElem? hs))
    obtain ⟨q0, q3⟩ := quartersB_range (s.toNat : Int)
    show (4 - (v + quartersB ((rl.data.toList.getD c 0).toNat : Int)) % 4) % 4 = ((4 - v) % 4 + quartersB (((oth rl).data.toList.getD c 0).toNat : Int)) % 4
    rw [g1, g2, hq]
    omega

abbrev Pl : Type := ByteArray × List Sp × Int × Int × Int
theorem sign_at {rl : ByteArray} {S : PlS} (H : OkP rl S) : 0 ≤ hereF S ∧ hereF S ≤ (rl.size : Int) - 1 ∧ rl.data.toList[(hereF S).toNat]? = some (signF rl S) := by
  obtain ⟨hR, hl, hq, hw, hS⟩ := H
  have hR1 := hR.1
  have hc := col_range (x := S.2.1) (y := S.2.2.1) (show (1 : Int) ≤ (rl.size : Int) by omega) hS
  have hc : 0 ≤ hereF S ∧ hereF S ≤ (rl.size : Int) - 1 := hc
  refine ⟨hc.1, hc.2, ?_⟩
  obtain ⟨z, hz⟩ := byte_at (cs := rl) (i := (hereF S).toNat) (by omega)
  unfold signF
  rw [hz, List.getD_eq_getElem?_getD, hz]
  rfl
theorem enColourF_ev (rl : ByteArray) {t : Int} {sp : List Sp} (h : SpotsOk t sp) (hl : sp.length ≤ 1048576) (X Y W x y : Int) : Ev (fun k => spec_enColour k ((rl, sp, X, Y, W), x, y)) (colF x y sp) := by
  obtain ⟨A, B, rfl, C⟩ := cut_ex x y h.2
  rw [cut_col C]
  exact enColour_ev rl X Y W C hl
theorem enPaintF_ev {t : Int} {sp : List Sp} (h : SpotsOk t sp) (hl : sp.length ≤ 1048576) (x y p : Int) : Ev (fun k => spec_enPaint k (sp, x, y, p)) (paintF x y p sp) := by
  obtain ⟨A, B, rfl, C⟩ := cut_ex x y h.2
  rw [cut_paint C]
  exact enPaint_ev C hl p
theorem gotF {t : Int} {sp : List Sp} (h : SpotsOk t sp) {g : List (Pt × Int)} (hg : g.Perm (sp.map ent)) (x y : Int) : mget pe g (x, y) 0 = colF x y sp := by
  obtain ⟨A, B, rfl, C⟩ := cut_ex x y h.2
  rw [cut_col C]
  exact mget_col ((keys_of C.srt).perm hg.symm) (C.col.perm hg.symm)
theorem permF {t : Int} {sp : List Sp} (h : SpotsOk t sp) {g : List (Pt × Int)} (hg : g.Perm (sp.map ent)) (x y p : Int) : (paintG x y p g).Perm ((paintF x y p sp).map ent) := by
  obtain ⟨A, B, rfl, C⟩ := cut_ex x y h.2
  rw [cut_paint C]
  exact paint_perm C hg
theorem stillI (rl : ByteArray) (hR : RuleOk rl) {sp : List Sp} (hS : SpotsOk rl.size sp) (hl : sp.length ≤ 1000) {g : List (Pt × Int)} (hg : g.Perm (sp.map ent)) (x y wy : Int) (hw : 0 ≤ wy ∧ wy ≤ 3) : EvB (fun k => impl_going_isPlain k (rl, g, x, y, wy)) (OkP rl (sp, x, y, wy)) := by
  have near := isNear_ev x y
  have hpl : g.length = sp.length := by have := hg.length_eq; rwa [List.length_map] at this
  have iff1 : OkP rl (sp, x, y, wy) ↔ (Far x ∧ Far y) ∧ sp.length ≤ 300 := ⟨fun h => ⟨h.2.2.1, h.2.1⟩, fun h => ⟨hR, h.2, h.1, hw, hS⟩⟩
  refine EvB.step (fun k => impl_going_isPlain.eq k rl _ _ _ wy) ?_
  by_cases hn : Far x ∧ Far y
  · by_cases hl : sp.length ≤ 300
    · exact ⟨true, Ev.bind (near.isT hn) (Ev.yes rfl (Ev.now' (by rw [hpl]; exact decide_eq_true (by omega)))), ⟨fun _ => iff1.2 ⟨hn, hl⟩, fun _ => rfl⟩⟩
    · exact ⟨false, Ev.bind (near.isT hn) (Ev.yes rfl (Ev.now' (by rw [hpl]; exact decide_eq_false (by omega)))), ⟨nofun, fun h => absurd (iff1.1 h).2 hl⟩⟩
  · exact ⟨false, Ev.bind (near.isF hn) (Ev.no rfl (Ev.now _)), ⟨nofun, fun h => absurd (iff1.1 h).1 hn⟩⟩
theorem gstep_ev (rl : ByteArray) (S : PlS) (g : List (Pt × Int)) (H : OkP rl S) (hg : g.Perm (S.1.map ent)) : ∃ (g' : List (Pt × Int)) (ok : Bool), (ok = true ↔ OkP rl (stepF rl S)) ∧ g'.Perm ((stepF rl S).1.map ent) ∧
    Ev (fun k => impl_going_step k (rl, g, S.2)) ((((signF rl S).toNat : Int), ok), (rl, g', (stepF rl S).2)) := by
  obtain ⟨c0, c1, hz⟩ := sign_at H
  obtain ⟨sp, x, y, wy⟩ := S
  obtain ⟨hR, hlen, hq, hw, hS⟩ := id H
  simp only at hR hlen hq hw hS hg
  have h6 := hR.1
  have hget := gotF hS hg x y
  have hbt := bt_at hz
  have eh : hereF (sp, x, y, wy) = colF x y sp := rfl
  rw [eh] at c0 c1 hz hbt
  generalize ez : signF rl (sp, x, y, wy) = z at hz hbt
  have hstep : stepF rl (sp, x, y, wy) = (paintF x y ((colF x y sp + 1) % (rl.size : Int)) sp, x + dxW (turnF wy z), y + dyW (turnF wy z), turnF wy z) := by
    unfold stepF
    rw [ez]
    rfl
  rw [hstep]
  have hzlt := z.toNat_lt
  obtain ⟨q0, q3⟩ := quartersB_range (z.toNat : Int)
  have eW : (w64 (wy + quartersB (z.toNat : Int))).tmod 4 = turnF wy z := by unfold turnF; rw [w64_of (by omega) (by omega), Int.tmod_eq_emod_of_nonneg (by omega)]
  have hwz : 0 ≤ turnF wy z ∧ turnF wy z ≤ 3 := by unfold turnF; omega
  generalize turnF wy z = wz at eW hwz
  have eP : (w64 (colF x y sp + 1)).tmod (rl.size : Int) = (colF x y sp + 1) % (rl.size : Int) := by rw [w64_of (by omega) (by omega), Int.tmod_eq_emod_of_nonneg (by omega)]
  have hP : 0 ≤ (colF x y sp + 1) % (rl.size : Int) ∧ (colF x y sp + 1) % (rl.size : Int) ≤ (rl.size : Int) - 1 := by
    have p1 := Int.emod_nonneg (colF x y sp + 1) (show (rl.size : Int) ≠ 0 by omega)
    have p2 := Int.emod_lt_of_pos (colF x y sp + 1) (show (0 : Int) < rl.size by omega)
    omega
  generalize (colF x y sp + 1) % (rl.size : Int) = p at eP hP
  have hne : ((rl.size : Int) != 0) = true := by rw [bne_iff_ne]; omega
  obtain ⟨⟨d1, d2⟩, d3, d4⟩ := dW_range wz
  have hps := paint_ok hS hq hP
  have hpp := permF hS hg x y p
  have hll := paintF_len (x := x) (y := y) (p := p) hS
  obtain ⟨ok, k3, k1⟩ := stillI rl hR hps (by omega) hpp (x + dxW wz) (y + dyW wz) wz hwz
  have hinB : inB (colF x y sp) rl.size = true := inB_of c0 (by omega)
  refine ⟨paintG x y p g, ok, k1, hpp, ?_⟩
  refine Ev.step (fun k => impl_going_step.eq k rl g x y wy) ?_
  unfold Far at hq
  have ex : w64 (x + dxW wz) = x + dxW wz := w64_of (by omega) (by omega)
  have ey : w64 (y + dyW wz) = y + dyW wz := w64_of (by omega) (by omega)
  have hget' : mget (K := (Int × Int)) (α := Int) (Sh.eqT (.pair (.int .i64) (.int .i64))) g (x, y) 0 = colF x y sp := hget
  simp only [hget', hbt]
  refine Ev.yes hinB (Ev.bind (quarters_ev _) (Ev.yes hne ?_))
  rw [eW, eP]
  refine Ev.bind (going_paint_ev rl g x y wz x y p) (Ev.bind (ahead_ev wz hwz) ?_)
  dsimp only
  rw [hbt, ex, ey]
  exact Ev.yes hinB (Ev.bind k3 (Ev.now _))
theorem gruns_ev (rl : ByteArray) (n : Nat) (hn : n ≤ 1000) : ∀ (m i : Nat) (S : PlS) (g : List (Pt × Int)) (out : List UInt8), i + m = n → out.length = i → OkP rl S → g.Perm (S.1.map ent) →
    (∀ l U, runF rl m S = some (l, U) → ∃ g' : List (Pt × Int), g'.Perm (U.1.map ent) ∧ Ev (fun k => impl_going_run_l k ((rl, g, S.2), out.map (fun c => (c.toNat : Int)), (n : Int), (i : Int), ())) (.inr ((out ++ l).map (fun c => (c.toNat : Int)), (rl, g', U.2)))) ∧
    (runF rl m S = none → ∃ G, Ev (fun k => impl_going_run_l k ((rl, g, S.2), out.map (fun c => (c.toNat : Int)), (n : Int), (i : Int), ())) (.inl (ByteArray.empty, false, G)))
  | 0, i, S, g, out, hi, ho, H, hg => by
    refine ⟨fun l U h => ?_, fun h => by cases h⟩
    have e : (([] : List UInt8), S) = (l, U) := Option.some.inj h
    simp only [Prod.mk.injEq] at e
    obtain ⟨rfl, rfl⟩ := e
    obtain ⟨sp, x, y, wy⟩ := S
    rw [List.append_nil]
    exact ⟨g, hg, Ev.step (fun k => impl_going_run_l.eq k rl g x y wy _ _ _) (Ev.no (not_lt_nat (by omega)) (Ev.now _))⟩
  | m + 1, i, S, g, out, hi, ho, H, hg => by
    obtain ⟨g1, ok, hok, hg1, hI⟩ := gstep_ev rl S g H hg
    generalize ez : signF rl S = z at hI
    have emap : out.map (fun c => (c.toNat : Int)) ++ [(z.toNat : Int)] = (out ++ [z]).map (fun c => (c.toNat : Int)) := by rw [List.map_append]; rfl
    have goI : ∀ r, Ev (fun k => cond (!ok) (some (.inl (ByteArray.empty, false, (rl, g1, (stepF rl S).2)))) (impl_going_run_l k ((rl, g1, (stepF rl S).2), (out ++ [z]).map (fun c => (c.toNat : Int)), (n : Int), ((i + 1 : Nat) : Int), ()))) r → Ev (fun k => impl_going_run_l k ((rl, g, S.2), out.map (fun c => (c.toNat : Int)), (n : Int), (i : Int), ())) r := fun r hr => by
      obtain ⟨sp, x, y, wy⟩ := S
      have hf : fits ((out.map (fun c => (c.toNat : Int))).length + 1) 1 = true := fits_of (by rw [List.length_map]; omega)
      refine Ev.step (fun k => impl_going_run_l.eq k rl g x y wy _ _ _) (Ev.yes (lt_nat (by omega)) (Ev.bind hI ?_))
      rw [w64_succ (by omega)]
      dsimp only
      rw [emap]
      cases ok with
      | true => exact Ev.no rfl (Ev.yes hf hr)
      | false => exact Ev.yes rfl hr
    cases ok with
    | false =>
      have hno : ¬ OkP rl (stepF rl S) := fun h => by have := hok.2 h; cases this
      refine ⟨fun l U h => (by rw [run_stop hno] at h; cases h), fun _ => ⟨_, goI _ (Ev.yes rfl (Ev.now _))⟩⟩
    | true =>
      have hyes := hok.1 rfl
      obtain ⟨r1, r2⟩ := gruns_ev rl n hn m (i + 1) (stepF rl S) g1 (out ++ [z]) (by omega) (by simp; omega) hyes hg1
      refine ⟨fun l U h => ?_, fun h => ?_⟩
      · obtain ⟨_, l', rfl, h'⟩ := run_inv h
        obtain ⟨g', p1, p3⟩ := r1 l' U h'
        rw [List.append_assoc] at p3
        rw [ez]
        exact ⟨g', p1, goI _ (Ev.no rfl p3)⟩
      · rw [run_step hyes, Option.map_eq_none_iff] at h
        obtain ⟨G, p3⟩ := r2 h
        exact ⟨G, goI _ (Ev.no rfl p3)⟩
section
variable (rl : ByteArray) (S : PlS) (hrl : rl.size ≤ 1048576) (hsp : S.1.length ≤ 1048576)
include hrl hsp
theorem isPl_ev : EvB (fun k => impl_IsPlain k (rl, S)) (OkP rl S) := isPlain_ev rl S.1 S.2.1 S.2.2.1 S.2.2.2 hsp (by omega)
theorem goodPl_ev : EvB (fun k => spec_enGood k (rl, S)) (OkP rl S) := by
  have _ := hrl
  exact enGood_ev rl S.1 S.2.1 S.2.2.1 S.2.2.2 hsp
theorem afterI_ev (H : OkP rl S) (N : Nat) (hN : N ≤ 1000) : (∀ l T, runF rl N S = some (l, T) → Ev (fun k => impl_PlainAfter k ((rl, S), (N : Int))) ((rl, T), true)) ∧ (runF rl N S = none → Ev (fun k => impl_PlainAfter k ((rl, S), (N : Int))) (zeroP, false)) := by
  obtain ⟨sp, x, y, wy⟩ := S
  have a1 := (isRun_ev rl sp x y wy (N : Int) hsp (by omega)).isT ⟨H, by omega⟩
  have hg := going_ev rl x y wy sp hsp (keys_of H.2.2.2.2.2)
  obtain ⟨r1, r2⟩ := gruns_ev rl N hN N 0 (sp, x, y, wy) _ [] (by omega) rfl H (List.Perm.refl _)
  constructor
  · intro l T hr
    obtain ⟨g', p1, p3⟩ := r1 l T hr
    have HT := (run_facts rl N (sp, x, y, wy) l T H hr).1
    obtain ⟨sp', x', y', wy'⟩ := T
    exact Ev.step (fun k => impl_PlainAfter.eq k rl sp x y wy N) (Ev.bind a1 (Ev.no rfl (Ev.bind hg (Ev.bind (Ev.step (fun k => impl_going_run.eq k rl _ x y wy N) (Ev.bind p3 (Ev.now _))) (Ev.no rfl (Ev.bind (plain_ev rl sp' x' y' wy' g' HT p1) (Ev.now _)))))))
  · intro hr
    obtain ⟨G, p3⟩ := r2 hr
    exact Ev.step (fun k => impl_PlainAfter.eq k rl sp x y wy N) (Ev.bind a1 (Ev.no rfl (Ev.bind hg (Ev.bind (Ev.step (fun k => impl_going_run.eq k rl _ x y wy N) (Ev.bind p3 (Ev.now _))) (Ev.yes rfl (Ev.now _))))))
theorem stepPI_ev (H : OkP rl S) (H' : OkP rl (stepF rl S)) : Ev (fun k => impl_StepPlain k (rl, S)) ((rl, stepF rl S), true) := by
  have q := (afterI_ev rl S hrl hsp H 1 (by omega)).1 _ _ (run_step (n := 0) H')
  obtain ⟨sp, x, y, wy⟩ := S
  exact Ev.step (fun k => impl_StepPlain.eq k rl sp x y wy) (Ev.bind q (Ev.now _))
theorem enCell_ev (x y : Int) : EvB (fun k => spec_enCell k ((rl, S), x, y)) (OkP rl S ∧ (Far x ∧ Far y)) := by
  have _ := hrl
  obtain ⟨sp, X, Y, wy⟩ := S
  exact EvB.step (fun k => spec_enCell.eq k rl sp X Y wy x y) (EvB.and (enGood_ev rl sp X Y wy hsp) fun _ => EvB.and (enFar_ev x) fun _ => (enFar_ev y).ret)
theorem colour_both (x y : Int) : ∃ r, Ev (fun k => impl_ColourOfSpot k ((rl, S), x, y)) r ∧ Ev (fun k => spec_ColourOfSpot k ((rl, S), x, y)) r ∧ (OkP rl S ∧ (Far x ∧ Far y) → r = (colF x y S.1, true)) ∧ (¬ (OkP rl S ∧ (Far x ∧ Far y)) → r = (0, false)) := by
  have a1 := isPl_ev rl S hrl hsp
  have a2 := enCell_ev rl S hrl hsp x y
  have a3 := isNear_ev x y
  by_cases H : OkP rl S
  rotate_left
  · have b2 := a2.isF fun h => H h.1
    have b1 := a1.isF H
    obtain ⟨sp, X, Y, wy⟩ := S
    exact ⟨(0, false), Ev.step (fun k => impl_ColourOfSpot.eq k rl sp X Y wy x y) (Ev.bind b1 (Ev.yes rfl (Ev.now _))), Ev.step (fun k => spec_ColourOfSpot.eq k rl sp X Y wy x y) (Ev.bind b2 (Ev.yes rfl (Ev.now _))), fun h => absurd h.1 H, fun _ => rfl⟩
  have b1 := a1.isT H
  by_cases hq : Far x ∧ Far y
  rotate_left
  · have b2 := a2.isF fun h => hq h.2
    obtain ⟨sp, X, Y, wy⟩ := S
    exact ⟨(0, false), Ev.step (fun k => impl_ColourOfSpot.eq k rl sp X Y wy x y) (Ev.bind b1 (Ev.no rfl (Ev.bind (a3.isF hq) (Ev.yes rfl (Ev.now _))))), Ev.step (fun k => spec_ColourOfSpot.eq k rl sp X Y wy x y) (Ev.bind b2 (Ev.yes rfl (Ev.now _))), fun h => absurd h.2 hq, fun _ => rfl⟩
  have b2 := a2.isT ⟨H, hq⟩
  obtain ⟨sp, X, Y, wy⟩ := S
  obtain ⟨hR, hlen, _, hw, hS⟩ := id H
  have hg := going_ev rl X Y wy sp hsp (keys_of hS.2)
  have hget : mget (K := (Int × Int)) (α := Int) (Sh.eqT (.pair (.int .i64) (.int .i64))) (sp.map ent) (x, y) 0 = colF x y sp := gotF hS (List.Perm.refl _) x y
  refine ⟨(colF x y sp, true), Ev.step (fun k => impl_ColourOfSpot.eq k rl sp X Y wy x y) (Ev.bind b1 (Ev.no rfl (Ev.bind (a3.isT hq) (Ev.no rfl (Ev.bind hg (Ev.now' ?_)))))), Ev.step (fun k => spec_ColourOfSpot.eq k rl sp X Y wy x y) (Ev.bind b2 (Ev.no rfl (Ev.bind (enColourF_ev rl hS hsp X Y wy x y) (Ev.now _)))), fun _ => rfl, fun h => absurd ⟨H, hq⟩ h⟩
  dsimp only
  rw [hget]
end
theorem dPlain_ev (p : Pl) (hl : p.2.1.length ≤ 1048576) : Ev (fun k => laws_dPlain k (p, p)) true := by
  obtain ⟨rl, sp, x, y, wy⟩ := p
  simp only at hl
  have sS : ∀ s : ByteArray, (!(strEq s s)) = false := fun s => by rw [strEq_self]; rfl
  have loop : ∀ m i : Nat, i + m = sp.length → Ev (fun k => laws_dPlain_l k ((rl, sp, x, y, wy), (rl, sp, x, y, wy), (sp.length : Int), (i : Int))) (.inr ()) := by
    intro m
    induction m with
    | zero =>
      intro i hi
      exact Ev.step (fun k => laws_dPlain_l.eq k rl sp x y wy rl sp x y wy _ _) (Ev.no (not_lt_nat (by omega)) (Ev.now _))
    | succ m ih =>
      intro i hi
      refine Ev.step (fun k => laws_dPlain_l.eq k rl sp x y wy rl sp x y wy _ _) (Ev.yes (lt_nat (by omega)) (Ev.yes (inB_nat (by omega)) (Ev.yes (inB_nat (by omega)) (Ev.no (by simp) ?_))))
      rw [w64_succ (by omega)]
      exact ih (i + 1) (by omega)
  exact Ev.step (fun k => laws_dPlain.eq k rl sp x y wy rl sp x y wy) (Ev.no (sS _) (Ev.no (neq_self _) (Ev.no (neq_self _) (Ev.no (neq_self _) (Ev.no (neq_self _) (Ev.bind (loop sp.length 0 (by omega)) (Ev.now _)))))))
/-! ### A spot painted -/
def PaintArg (rl : ByteArray) (S : PlS) (x y c : Int) : Prop := (OkP rl S ∧ (Far x ∧ Far y)) ∧ (0 ≤ c ∧ c ≤ (rl.size : Int) - 1)
theorem paint_both (rl : ByteArray) (S : PlS) (hrl : rl.size ≤ 1048576) (hsp : S.1.length ≤ 1048576) (x y c : Int) : ∃ r, Ev (fun k => impl_PaintSpot k ((rl, S), x, y, c)) r ∧ Ev (fun k => spec_PaintSpot k ((rl, S), x, y, c)) r ∧ (r.2 = true → PaintArg rl S x y c ∧ r.1 = (rl, paintF x y c S.1, S.2) ∧ OkP rl (paintF x y c S.1, S.2)) ∧
    (PaintArg rl S x y c → OkP rl (paintF x y c S.1, S.2) → r = ((rl, paintF x y c S.1, S.2), true)) ∧ r.1.2.1.length ≤ 300 := by
  have a1 := isPl_ev rl S hrl hsp
  have a2 := enCell_ev rl S hrl hsp x y
  have a3 := isNear_ev x y
  have w1 := within_ev c 0 ((rl.size : Int) - 1)
  have l1 := l1In_ev c 0 ((rl.size : Int) - 1)
  have e1 : w64 ((rl.size : Int) - 1) = (rl.size : Int) - 1 := w64_of (by omega) (by omega)
  rw [← e1] at w1 l1
  have no : ∀ {g h : Nat → Option (Pl × Bool)}, ¬ PaintArg rl S x y c → Ev g (zeroP, false) → Ev h (zeroP, false) → ∃ r, Ev g r ∧ Ev h r ∧ (r.2 = true → PaintArg rl S x y c ∧ r.1 = (rl, paintF x y c S.1, S.2) ∧ OkP rl (paintF x y c S.1, S.2)) ∧ (PaintArg rl S x y c → OkP rl (paintF x y c S.1, S.2) → r = ((rl, paintF x y c S.1, S.2), true)) ∧ r.1.2.1.length ≤ 300 :=
    fun hn h1 h2 => ⟨(zeroP, false), h1, h2, fun h => Bool.noConfusion h, fun h => absurd h hn, Nat.zero_le _⟩
  by_cases H : OkP rl S
  rotate_left
  · have b2 := a2.isF fun h => H h.1
    have b1 := a1.isF H
    refine no (fun h => H h.1.1) ?_ ?_ <;> obtain ⟨sp, X, Y, wy⟩ := S
    · exact Ev.step (fun k => impl_PaintSpot.eq k rl sp X Y wy x y c) (Ev.bind b1 (Ev.yes rfl (Ev.now _)))
    · exact Ev.step (fun k => spec_PaintSpot.eq k rl sp X Y wy x y c) (Ev.bind b2 (Ev.yes rfl (Ev.now _)))
  have b1 := a1.isT H
  by_cases hq : Far x ∧ Far y
  rotate_left
  · have b2 := a2.isF fun h => hq h.2
    refine no (fun h => hq h.1.2) ?_ ?_ <;> obtain ⟨sp, X, Y, wy⟩ := S
    · exact Ev.step (fun k => impl_PaintSpot.eq k rl sp X Y wy x y c) (Ev.bind b1 (Ev.no rfl (Ev.bind (a3.isF hq) (Ev.yes rfl (Ev.now _)))))
    · exact Ev.step (fun k => spec_PaintSpot.eq k rl sp X Y wy x y c) (Ev.bind b2 (Ev.yes rfl (Ev.now _)))
  have b2 := a2.isT ⟨H, hq⟩
  by_cases hc : 0 ≤ c ∧ c ≤ w64 ((rl.size : Int) - 1)
  rotate_left
  · refine no (fun h => hc (by rw [e1]; exact h.2)) ?_ ?_ <;> obtain ⟨sp, X, Y, wy⟩ := S
    · exact Ev.step (fun k => impl_PaintSpot.eq k rl sp X Y wy x y c) (Ev.bind b1 (Ev.no rfl (Ev.bind (a3.isT hq) (Ev.no rfl (Ev.bind (w1.isF hc) (Ev.yes rfl (Ev.now _)))))))
    · exact Ev.step (fun k => spec_PaintSpot.eq k rl sp X Y wy x y c) (Ev.bind b2 (Ev.no rfl (Ev.bind (l1.isF hc) (Ev.yes rfl (Ev.now _)))))
  have hA : PaintArg rl S x y c := ⟨⟨H, hq⟩, e1 ▸ hc⟩
  have hc' : 0 ≤ c ∧ c ≤ (rl.size : Int) - 1 := e1 ▸ hc
  obtain ⟨sp, X, Y, wy⟩ := S
  obtain ⟨hR, hlen, hXY, hw, hS⟩ := id H
  simp only at hR hlen hXY hw hS hsp
  have hg := going_ev rl X Y wy sp hsp (keys_of hS.2)
  have hps := paint_ok hS hq hc'
  have hpp := permF hS (List.Perm.refl _) x y c
  have hll := paintF_len (x := x) (y := y) (p := c) hS
  have g1 := isPlain_ev rl (paintF x y c sp) X Y wy (by omega) (by omega)
  have g2 := enGood_ev rl (paintF x y c sp) X Y wy (by omega)
  have hpl : Ev (fun k => impl_going_plain k (rl, paintG x y c (sp.map ent), X, Y, wy)) (rl, paintF x y c sp, X, Y, wy) := plainG_ev rl _ X Y wy _ hps (by omega) hpp
  have goI : ∀ (v : Bool), Ev (fun k => impl_IsPlain k (rl, paintF x y c sp, X, Y, wy)) v → ∀ r, Ev (fun k => cond (!v) (some (zeroP, false)) (some ((rl, paintF x y c sp, X, Y, wy), true))) r → Ev (fun k => impl_PaintSpot k ((rl, sp, X, Y, wy), x, y, c)) r := fun v hv r hr => by
    refine Ev.step (fun k => impl_PaintSpot.eq k rl sp X Y wy x y c) (Ev.bind b1 (Ev.no rfl (Ev.bind (a3.isT hq) (Ev.no rfl (Ev.bind (w1.isT hc) (Ev.no rfl (Ev.bind hg (Ev.bind (going_paint_ev rl _ X Y wy x y c) (Ev.bind hpl (Ev.bind (Ev.step (fun k => impl_whole.eq k rl _ X Y wy) (Ev.bind hv hr)) (Ev.now _)))))))))))
  have goS : ∀ (v : Bool), Ev (fun k => spec_enGood k (rl, paintF x y c sp, X, Y, wy)) v → ∀ r, Ev (fun k => cond (!v) (some (zeroP, false)) (some ((rl, paintF x y c sp, X, Y, wy), true))) r → Ev (fun k => spec_PaintSpot k ((rl, sp, X, Y, wy), x, y, c)) r := fun v hv r hr => by
    refine Ev.step (fun k => spec_PaintSpot.eq k rl sp X Y wy x y c) (Ev.bind b2 (Ev.no rfl (Ev.bind (l1.isT hc) (Ev.no rfl (Ev.bind (enPaintF_ev hS hsp x y c) (Ev.bind hv hr))))))
  by_cases G : PlainOk rl (paintF x y c sp) X Y wy
  · exact ⟨((rl, paintF x y c sp, X, Y, wy), true), goI true (g1.isT G) _ (Ev.no rfl (Ev.now _)), goS true (g2.isT G) _ (Ev.no rfl (Ev.now _)), fun _ => ⟨hA, rfl, G⟩, fun _ _ => rfl, G.2.1⟩
  · exact ⟨(zeroP, false), goI false (g1.isF G) _ (Ev.yes rfl (Ev.now _)), goS false (g2.isF G) _ (Ev.yes rfl (Ev.now _)), fun h => Bool.noConfusion h, fun _ h => absurd h G, Nat.zero_le _⟩

theorem tnP_moves : Moves tnP.f := by
  refine ⟨fun a b c e h => ?_, fun a b ha hb => ?_⟩
  · have h1 : -b = -e := congrArg Prod.fst h
    have h2 : a = c := congrArg Prod.snd h
    omega
  · unfold Far at ha hb
    show (_ ≤ -b ∧ -b ≤ _) ∧ (_ ≤ a ∧ a ≤ _)
    omega
theorem miP_moves : Moves miP.f := by
  refine ⟨fun a b c e h => ?_, fun a b ha hb => ?_⟩
  · have h1 : -a = -c := congrArg Prod.fst h
    have h2 : b = e := congrArg Prod.snd h
    omega
  · unfold Far at ha hb
    show (_ ≤ -a ∧ -a ≤ _) ∧ (_ ≤ b ∧ b ≤ _)
    omega
def mvP (r d : Int) : PSym := ⟨fun a b => (a + r, b + d), fun v => v, fun rl => rl⟩
theorem mvP_moves {r d : Int} (hr : Far r) (hd : Far d) : Moves (mvP r d).f := by
  unfold Far at hr hd
  refine ⟨fun a b c e h => ?_, fun a b ha hb => ?_⟩
  · have h1 : a + r = c + r := congrArg Prod.fst h
    have h2 : b + d = e + d := congrArg Prod.snd h
    omega
  · unfold Far at ha hb
    show (_ ≤ a + r ∧ a + r ≤ _) ∧ (_ ≤ b + d ∧ b + d ≤ _)
    omega
theorem near64 {a r : Int} (ha : Far a) (hr : Far r) : w64 (a + r) = a + r := by unfold Far at ha hr; exact w64_of (by omega) (by omega)
theorem turn1_ev {a b : Int} (hb : Far b) : Ev (fun k => impl_TurnPlain_1 k (a, b)) (-b, a) := Ev.step (fun k => impl_TurnPlain_1.eq k a b) (Ev.now' (by
  unfold Far at hb
  rw [w64_of (by omega) (by omega), Int.zero_sub]))
theorem mirr1_ev {a b : Int} (hb : Far a) : Ev (fun k => impl_MirrorPlain_1 k (a, b)) (-a, b) := Ev.step (fun k => impl_MirrorPlain_1.eq k a b) (Ev.now' (by
  unfold Far at hb
  rw [w64_of (by omega) (by omega), Int.zero_sub]))
theorem changedT_l_ev (rl : ByteArray) (sp : List Sp) (wy : Int) (hl : sp.length ≤ 300) (hF : ∀ s ∈ sp, Far s.1 ∧ Far s.2.1) (Z : ByteArray × List Sp × Int × Int × Int) (X Y : Int) :
    ∀ (m i : Nat), i + m = sp.length → Ev (fun k => impl_Plain_changed_l k ((), Z, (rl, (sp.take i).map (img tnP.f), X, Y, wy), sp, (sp.length : Int), (i : Int))) (Z, (rl, sp.map (img tnP.f), X, Y, wy))
  | 0, i, hi => Ev.step (fun k => impl_Plain_changed_l.eq k Z.1 Z.2.1 Z.2.2.1 Z.2.2.2.1 Z.2.2.2.2 rl _ X Y wy sp _ _) (Ev.no (not_lt_nat (by omega)) (Ev.now' (by rw [List.take_of_length_le (by omega)])))
  | m + 1, i, hi => by
    obtain ⟨s, hs⟩ := nat_list (l := sp) (i := i) (by omega)
    obtain ⟨f1, f2⟩ := hF s (List.mem_of_getElem? hs)
    have ih := changedT_l_ev rl sp wy hl hF Z X Y m (i + 1) (by omega)
    refine Ev.step (fun k => impl_Plain_changed_l.eq k Z.1 Z.2.1 Z.2.2.1 Z.2.2.2.1 Z.2.2.2.2 rl _ X Y wy sp _ _) (Ev.yes (lt_nat (by omega)) (Ev.yes (inB_nat (by omega)) ?_))
    rw [Int.toNat_natCast, getD_at hs, w64_succ (by omega)]
    refine Ev.bind (turn1_ev (a := s.1) f2) (Ev.yes (fits_of (by rw [List.length_map, List.length_take]; omega)) ?_)
    rw [take_next' hs, List.map_append] at ih
    exact ih
theorem changedM_l_ev (rl : ByteArray) (sp : List Sp) (wy : Int) (hl : sp.length ≤ 300) (hF : ∀ s ∈ sp, Far s.1 ∧ Far s.2.1) (Z : ByteArray × List Sp × Int × Int × Int) (X Y : Int) :
    ∀ (m i : Nat), i + m = sp.length → Ev (fun k => impl_Plain_changed_2_l k ((), Z, (rl, (sp.take i).map (img miP.f), X, Y, wy), sp, (sp.length : Int), (i : Int))) (Z, (rl, sp.map (img miP.f), X, Y, wy))
  | 0, i, hi => Ev.step (fun k => impl_Plain_changed_2_l.eq k Z.1 Z.2.1 Z.2.2.1 Z.2.2.2.1 Z.2.2.2.2 rl _ X Y wy sp _ _) (Ev.no (not_lt_nat (by omega)) (Ev.now' (by rw [List.take_of_length_le (by omega)])))
  | m + 1, i, hi => by
    obtain ⟨s, hs⟩ := nat_list (l := sp) (i := i) (by omega)
    obtain ⟨f1, f2⟩ := hF s (List.mem_of_getElem? hs)
    have ih := changedM_l_ev rl sp wy hl hF Z X Y m (i + 1) (by omega)
    refine Ev.step (fun k => impl_Plain_changed_2_l.eq k Z.1 Z.2.1 Z.2.2.1 Z.2.2.2.1 Z.2.2.2.2 rl _ X Y wy sp _ _) (Ev.yes (lt_nat (by omega)) (Ev.yes (inB_nat (by omega)) ?_))
    rw [Int.toNat_natCast, getD_at hs, w64_succ (by omega)]
    refine Ev.bind (mirr1_ev (a := s.1) f1) (Ev.yes (fits_of (by rw [List.length_map, List.length_take]; omega)) ?_)
    rw [take_next' hs, List.map_append] at ih
    exact ih
theorem changedV_l_ev (rl : ByteArray) (sp : List Sp) (wy r d : Int) (hr : Far r) (hd : Far d) (hl : sp.length ≤ 300) (hF : ∀ s ∈ sp, Far s.1 ∧ Far s.2.1) (Z : ByteArray × List Sp × Int × Int × Int) (X Y : Int) :
    ∀ (m i : Nat), i + m = sp.length → Ev (fun k => impl_Plain_changed_3_l k ((r, d), Z, (rl, (sp.take i).map (img (mvP r d).f), X, Y, wy), sp, (sp.length : Int), (i : Int))) (Z, (rl, sp.map (img (mvP r d).f), X, Y, wy))
  | 0, i, hi => Ev.step (fun k => impl_Plain_changed_3_l.eq k r d Z.1 Z.2.1 Z.2.2.1 Z.2.2.2.1 Z.2.2.2.2 rl _ X Y wy sp _ _) (Ev.no (not_lt_nat (by omega)) (Ev.now' (by rw [List.take_of_length_le (by omega)])))
  | m + 1, i, hi => by
    obtain ⟨s, hs⟩ := nat_list (l := sp) (i := i) (by omega)
    obtain ⟨f1, f2⟩ := hF s (List.mem_of_getElem? hs)
    have ih := changedV_l_ev rl sp wy r d hr hd hl hF Z X Y m (i + 1) (by omega)
    refine Ev.step (fun k => impl_Plain_changed_3_l.eq k r d Z.1 Z.2.1 Z.2.2.1 Z.2.2.2.1 Z.2.2.2.2 rl _ X Y wy sp _ _) (Ev.yes (lt_nat (by omega)) (Ev.yes (inB_nat (by omega)) ?_))
    rw [Int.toNat_natCast, getD_at hs, w64_succ (by omega)]
    refine Ev.bind (a := (s.1 + r, s.2.1 + d)) (Ev.step (fun k => impl_MovePlain_1.eq k s.1 s.2.1 r d) (Ev.now' (by rw [near64 f1 hr, near64 f2 hd]))) (Ev.yes (fits_of (by rw [List.length_map, List.length_take]; omega)) ?_)
    rw [take_next' hs, List.map_append] at ih
    exact ih
section
variable (rl : ByteArray) (S : PlS) (hrl : rl.size ≤ 1048576)
include hrl
theorem turnP_ev (H : OkP rl S) : ∃ T, PPic tnP S T ∧ OkP rl T ∧ Ev (fun k => impl_TurnPlain k (rl, S)) ((rl, T), true) ∧ Ev (fun k => spec_TurnPlain k (rl, S)) ((rl, T), true) := by
  obtain ⟨sp, x, y, wy⟩ := S
  obtain ⟨hR, hlen, ⟨hx, hy⟩, hwy, hS⟩ := id H
  simp only at hR hlen hx hy hwy hS
  have a1 := isPlain_ev rl sp x y wy (by omega) (by omega)
  have a2 := enGood_ev rl sp x y wy (by omega)
  have hF : ∀ s ∈ sp, Far s.1 ∧ Far s.2.1 := fun s hs => (hS.1 s hs).1
  have M := tnP_moves
  have hf : ∀ a b, Far a → Far b → (w64 (w64 (w64 (0 * a) + w64 ((-1) * b)) + 0), w64 (w64 (w64 (1 * a) + w64 (0 * b)) + 0)) = tnP.f a b := fun a b ha hb => by
    unfold Far at ha hb
    have wa : w64 a = a := w64_of (by omega) (by omega)
    have wb : w64 (-b) = -b := w64_of (by omega) (by omega)
    have w0 : w64 0 = 0 := w64_of (by omega) (by omega)
    simp only [Int.one_mul, Int.zero_mul, show (-1) * b = -b by omega, wa, wb, w0, Int.add_zero, Int.zero_add]
    rfl
  obtain ⟨T, t1, t2, t3⟩ := enMap_l_ev rl sp x y wy 0 (-1) 1 0 0 0 M hf hS.2 hlen (fun s hs => ⟨hF s hs, (hS.1 s hs).2.1⟩) (ByteArray.empty, [], 0, 0, 0) 0 0 sp.length 0 [] (by omega) List.Pairwise.nil (by simp)
  have P : PPic tnP (sp, x, y, wy) (T, -y, x, (wy + 1) % 4) := ⟨t1, t2, rfl, rfl⟩
  have G : PlainOk rl T (-y) x ((wy + 1) % 4) := (ppic_ok tnP_ok rl hR hS.2 hwy P).1 H
  have hTl := G.2.1
  have eW : (w64 (wy + 1)).tmod 4 = (wy + 1) % 4 := by rw [w64_of (by omega) (by omega), Int.tmod_eq_emod_of_nonneg (by omega)]
  generalize (wy + 1) % 4 = wz at eW P G
  obtain ⟨v, g, _⟩ := enGood_ev rl T (-y) x wy (by omega)
  have g' := isPlain_ev rl T (-y) x wz (by omega) (by omega)
  have eq := hf x y hx hy
  have ex : w64 (w64 (w64 (0 * x) + w64 ((-1) * y)) + 0) = -y := congrArg Prod.fst eq
  have ey : w64 (w64 (w64 (1 * x) + w64 (0 * y)) + 0) = x := congrArg Prod.snd eq
  have loopI := changedT_l_ev rl sp wz hlen hF (ByteArray.empty, [], 0, 0, 0) (-y) x sp.length 0 (by omega)
  have st := sorted_ev M hS.2 hlen hF t1 t2
  refine ⟨(T, -y, x, wz), P, G, ?_, ?_⟩
  · refine Ev.step (fun k => impl_TurnPlain.eq k rl sp x y wy) (Ev.bind (a1.isT H) (Ev.no rfl ?_))
    rw [eW]
    refine Ev.bind (a := ((rl, T, -y, x, wz), true)) (Ev.step (fun k => impl_Plain_changed.eq k rl sp x y wz) (Ev.bind (turn1_ev hy) (Ev.bind loopI (Ev.bind st (Ev.bind (a := ((rl, T, -y, x, wz), true)) (Ev.step (fun k => impl_whole.eq k rl T (-y) x wz) (Ev.bind (g'.isT G) (Ev.no rfl (Ev.now _)))) (Ev.now _)))))) (Ev.now _)
  · refine Ev.step (fun k => spec_TurnPlain.eq k rl sp x y wy) (Ev.bind (a2.isT H) (Ev.no rfl (Ev.bind (a := ((rl, T, -y, x, wy), v)) (Ev.step (fun k => spec_enMap.eq k rl sp x y wy 0 (-1) 1 0 0 0) (Ev.bind t3 ?_)) ?_)))
    · dsimp only
      rw [ex, ey]
      exact Ev.bind g (Ev.now _)
    · dsimp only
      rw [eW]
      exact Ev.now _
theorem mirrorP_ev (H : OkP rl S) : ∃ T, PPic miP S T ∧ OkP (oth rl) T ∧ Ev (fun k => impl_MirrorPlain k (rl, S)) ((oth rl, T), true) ∧ Ev (fun k => spec_MirrorPlain k (rl, S)) ((oth rl, T), true) := by
  obtain ⟨sp, x, y, wy⟩ := S
  obtain ⟨hR, hlen, ⟨hx, hy⟩, hwy, hS⟩ := id H
  simp only at hR hlen hx hy hwy hS
  have a1 := isPlain_ev rl sp x y wy (by omega) (by omega)
  have a2 := enGood_ev rl sp x y wy (by omega)
  have hF : ∀ s ∈ sp, Far s.1 ∧ Far s.2.1 := fun s hs => (hS.1 s hs).1
  have M := miP_moves
  have hf : ∀ a b, Far a → Far b → (w64 (w64 (w64 ((-1) * a) + w64 (0 * b)) + 0), w64 (w64 (w64 (0 * a) + w64 (1 * b)) + 0)) = miP.f a b := fun a b ha hb => by
    unfold Far at ha hb
    have wa : w64 (-a) = -a := w64_of (by omega) (by omega)
    have wb : w64 b = b := w64_of (by omega) (by omega)
    have w0 : w64 0 = 0 := w64_of (by omega) (by omega)
    simp only [Int.one_mul, Int.zero_mul, show (-1) * a = -a by omega, wa, wb, w0, Int.add_zero, Int.zero_add]
    rfl
  obtain ⟨T, t1, t2, t3⟩ := enMap_l_ev rl sp x y wy (-1) 0 0 1 0 0 M hf hS.2 hlen (fun s hs => ⟨hF s hs, (hS.1 s hs).2.1⟩) (ByteArray.empty, [], 0, 0, 0) 0 0 sp.length 0 [] (by omega) List.Pairwise.nil (by simp)
  have P : PPic miP (sp, x, y, wy) (T, -x, y, (4 - wy) % 4) := ⟨t1, t2, rfl, rfl⟩
  have G : PlainOk (oth rl) T (-x) y ((4 - wy) % 4) := (ppic_ok miP_ok rl hR hS.2 hwy P).1 H
  have hTl := G.2.1
  have eW : (w64 (4 - wy)).tmod 4 = (4 - wy) % 4 := by rw [w64_of (by omega) (by omega), Int.tmod_eq_emod_of_nonneg (by omega)]
  generalize eO : (4 - wy) % 4 = wz at eW P G
  obtain ⟨v, g, _⟩ := enGood_ev rl T (-x) y wy (by omega)
  have g' := isPlain_ev (oth rl) T (-x) y wz (by omega) (by rw [oth_size]; omega)
  have eq := hf x y hx hy
  have ex : w64 (w64 (w64 ((-1) * x) + w64 (0 * y)) + 0) = -x := congrArg Prod.fst eq
  have ey : w64 (w64 (w64 (0 * x) + w64 (1 * y)) + 0) = y := congrArg Prod.snd eq
  have loopI := changedM_l_ev (oth rl) sp wz hlen hF (ByteArray.empty, [], 0, 0, 0) (-x) y sp.length 0 (by omega)
  have st := sorted_ev M hS.2 hlen hF t1 t2
  have o1 := woOther_ev rl (by omega)
  have o2 := other_ev rl (by omega)
  have o3 := otherWay_ev wy hwy
  rw [eO] at o3
  refine ⟨(T, -x, y, wz), P, G, ?_, ?_⟩
  · refine Ev.step (fun k => impl_MirrorPlain.eq k rl sp x y wy) (Ev.bind (a1.isT H) (Ev.no rfl (Ev.bind o2 (Ev.bind o3 ?_))))
    refine Ev.bind (a := ((oth rl, T, -x, y, wz), true)) (Ev.step (fun k => impl_Plain_changed_2.eq k (oth rl) sp x y wz) (Ev.bind (mirr1_ev hx) (Ev.bind loopI (Ev.bind st (Ev.bind (a := ((oth rl, T, -x, y, wz), true)) (Ev.step (fun k => impl_whole.eq k (oth rl) T (-x) y wz) (Ev.bind (g'.isT G) (Ev.no rfl (Ev.now _)))) (Ev.now _)))))) (Ev.now _)
  · refine Ev.step (fun k => spec_MirrorPlain.eq k rl sp x y wy) (Ev.bind (a2.isT H) (Ev.no rfl (Ev.bind (a := ((rl, T, -x, y, wy), v)) (Ev.step (fun k => spec_enMap.eq k rl sp x y wy (-1) 0 0 1 0 0) (Ev.bind t3 ?_)) ?_)))
    · dsimp only
      rw [ex, ey]
      exact Ev.bind g (Ev.now _)
    · dsimp only
      rw [eW]
      exact Ev.bind o1 (Ev.now _)
theorem moveP_ev (H : OkP rl S) {r d : Int} (hr : Far r) (hd : Far d) : ∃ T, PPic (mvP r d) S T ∧ (OkP rl T → Ev (fun k => impl_MovePlain k ((rl, S), r, d)) ((rl, T), true) ∧ Ev (fun k => spec_MovePlain k ((rl, S), r, d)) ((rl, T), true)) ∧
    (¬ OkP rl T → Ev (fun k => impl_MovePlain k ((rl, S), r, d)) (zeroP, false) ∧ Ev (fun k => spec_MovePlain k ((rl, S), r, d)) (zeroP, false)) := by
  have b2 := (enCell_ev rl S hrl (by have := H.2.1; omega) r d).isT ⟨H, hr, hd⟩
  obtain ⟨sp, x, y, wy⟩ := S
  obtain ⟨hR, hlen, ⟨hx, hy⟩, hwy, hS⟩ := id H
  simp only at hR hlen hx hy hwy hS
  have a1 := isPlain_ev rl sp x y wy (by omega) (by omega)
  have hF : ∀ s ∈ sp, Far s.1 ∧ Far s.2.1 := fun s hs => (hS.1 s hs).1
  have M := mvP_moves hr hd
  have hf : ∀ a b, Far a → Far b → (w64 (w64 (w64 (1 * a) + w64 (0 * b)) + r), w64 (w64 (w64 (0 * a) + w64 (1 * b)) + d)) = (mvP r d).f a b := fun a b ha hb => by
    have ea := near64 ha hr
    have eb := near64 hb hd
    unfold Far at ha hb
    rw [Int.one_mul, Int.one_mul, Int.zero_mul, Int.zero_mul, w64_of (n := a) (by omega) (by omega), w64_of (n := b) (by omega) (by omega), w64_of (n := 0) (by omega) (by omega), Int.add_zero, Int.zero_add, w64_of (n := a) (by omega) (by omega), w64_of (n := b) (by omega) (by omega), ea, eb]
    rfl
  obtain ⟨T, t1, t2, t3⟩ := enMap_l_ev rl sp x y wy 1 0 0 1 r d M hf hS.2 hlen (fun s hs => ⟨hF s hs, (hS.1 s hs).2.1⟩) (ByteArray.empty, [], 0, 0, 0) 0 0 sp.length 0 [] (by omega) List.Pairwise.nil (by simp)
  have hTl : T.length = sp.length := by rw [t2.length_eq, List.length_map]
  have g := enGood_ev rl T (x + r) (y + d) wy (by omega)
  have g' := isPlain_ev rl T (x + r) (y + d) wy (by omega) (by omega)
  have eq := hf x y hx hy
  have ex : w64 (w64 (w64 (1 * x) + w64 (0 * y)) + r) = x + r := congrArg Prod.fst eq
  have ey : w64 (w64 (w64 (0 * x) + w64 (1 * y)) + d) = y + d := congrArg Prod.snd eq
  have loopI := changedV_l_ev rl sp wy r d hr hd hlen hF (ByteArray.empty, [], 0, 0, 0) (x + r) (y + d) sp.length 0 (by omega)
  have st := sorted_ev M hS.2 hlen hF t1 t2
  have sp0 : ∀ (ok : Bool), Ev (fun k => spec_enGood k (rl, T, x + r, y + d, wy)) ok → ∀ res, Ev (fun k => cond (!ok) (some (zeroP, false)) (some ((rl, T, x + r, y + d, wy), true))) res → Ev (fun k => spec_MovePlain k ((rl, sp, x, y, wy), r, d)) res := fun ok hok res hres => by
    refine Ev.step (fun k => spec_MovePlain.eq k rl sp x y wy r d) (Ev.bind b2 (Ev.no rfl (Ev.bind (a := ((rl, T, x + r, y + d, wy), ok)) (Ev.step (fun k => spec_enMap.eq k rl sp x y wy 1 0 0 1 r d) (Ev.bind t3 ?_)) hres)))
    dsimp only
    rw [ex, ey]
    exact Ev.bind hok (Ev.now _)
  have ip0 : ∀ (ok : Bool), Ev (fun k => impl_IsPlain k (rl, T, x + r, y + d, wy)) ok → ∀ res, Ev (fun k => cond (!ok) (some (zeroP, false)) (some ((rl, T, x + r, y + d, wy), true))) res → Ev (fun k => impl_MovePlain k ((rl, sp, x, y, wy), r, d)) res := fun ok hok res hres => by
    refine Ev.step (fun k => impl_MovePlain.eq k rl sp x y wy r d) (Ev.bind (a1.isT H) (Ev.no rfl (Ev.bind ((isNear_ev r d).isT ⟨hr, hd⟩) (Ev.no rfl (Ev.bind (a := res) (Ev.step (fun k => impl_Plain_changed_3.eq k rl sp x y wy r d) (Ev.bind (a := (x + r, y + d)) (Ev.step (fun k => impl_MovePlain_1.eq k x y r d) (Ev.now' (by rw [near64 hx hr, near64 hy hd]))) (Ev.bind loopI (Ev.bind st (Ev.bind (a := res) (Ev.step (fun k => impl_whole.eq k rl T (x + r) (y + d) wy) (Ev.bind hok hres)) (Ev.now _)))))) (Ev.now _))))))
  exact ⟨(T, x + r, y + d, wy), ⟨t1, t2, rfl, rfl⟩, fun G => ⟨ip0 true (g'.isT G) _ (Ev.now _), sp0 true (g.isT G) _ (Ev.now _)⟩, fun G => ⟨ip0 false (g'.isF G) _ (Ev.now _), sp0 false (g.isF G) _ (Ev.now _)⟩⟩
theorem noTurn (hsp : S.1.length ≤ 1048576) (H : ¬ OkP rl S) : Ev (fun k => impl_TurnPlain k (rl, S)) (zeroP, false) ∧ Ev (fun k => spec_TurnPlain k (rl, S)) (zeroP, false) ∧ Ev (fun k => impl_MirrorPlain k (rl, S)) (zeroP, false) ∧ Ev (fun k => spec_MirrorPlain k (rl, S)) (zeroP, false) := by
  have a1 := (isPl_ev rl S hrl hsp).isF H
  have a2 := (goodPl_ev rl S hrl hsp).isF H
  obtain ⟨sp, x, y, wy⟩ := S
  exact ⟨Ev.step (fun k => impl_TurnPlain.eq k rl sp x y wy) (Ev.bind a1 (Ev.yes rfl (Ev.now _))), Ev.step (fun k => spec_TurnPlain.eq k rl sp x y wy) (Ev.bind a2 (Ev.yes rfl (Ev.now _))), Ev.step (fun k => impl_MirrorPlain.eq k rl sp x y wy) (Ev.bind a1 (Ev.yes rfl (Ev.now _))), Ev.step (fun k => spec_MirrorPlain.eq k rl sp x y wy) (Ev.bind a2 (Ev.yes rfl (Ev.now _)))⟩
theorem move_both (hsp : S.1.length ≤ 1048576) (r d : Int) : ∃ R, Ev (fun k => impl_MovePlain k ((rl, S), r, d)) R ∧ Ev (fun k => spec_MovePlain k ((rl, S), r, d)) R ∧ (R.2 = true → ∃ T, R.1 = (rl, T) ∧ OkP rl S ∧ OkP rl T ∧ (Far r ∧ Far d) ∧ PPic (mvP r d) S T) ∧ R.1.2.1.length ≤ 300 := by
  have a1 := isPl_ev rl S hrl hsp
  have a2 := enCell_ev rl S hrl hsp r d
  have a3 := isNear_ev r d
  have no : ∀ {g h : Nat → Option (Pl × Bool)}, Ev g (zeroP, false) → Ev h (zeroP, false) → ∃ R, Ev g R ∧ Ev h R ∧ (R.2 = true → ∃ T, R.1 = (rl, T) ∧ OkP rl S ∧ OkP rl T ∧ (Far r ∧ Far d) ∧ PPic (mvP r d) S T) ∧ R.1.2.1.length ≤ 300 := fun h1 h2 => ⟨(zeroP, false), h1, h2, fun h => Bool.noConfusion h, Nat.zero_le _⟩
  by_cases H : OkP rl S
  rotate_left
  · have b2 := a2.isF fun h => H h.1
    have b1 := a1.isF H
    refine no ?_ ?_ <;> obtain ⟨sp, X, Y, wy⟩ := S
    · exact Ev.step (fun k => impl_MovePlain.eq k rl sp X Y wy r d) (Ev.bind b1 (Ev.yes rfl (Ev.now _)))
    · exact Ev.step (fun k => spec_MovePlain.eq k rl sp X Y wy r d) (Ev.bind b2 (Ev.yes rfl (Ev.now _)))
  by_cases hq : Far r ∧ Far d
  rotate_left
  · have b2 := a2.isF fun h => hq h.2
    have b1 := a1.isT H
    refine no ?_ ?_ <;> obtain ⟨sp, X, Y, wy⟩ := S
    · exact Ev.step (fun k => impl_MovePlain.eq k rl sp X Y wy r d) (Ev.bind b1 (Ev.no rfl (Ev.bind (a3.isF hq) (Ev.yes rfl (Ev.now _)))))
    · exact Ev.step (fun k => spec_MovePlain.eq k rl sp X Y wy r d) (Ev.bind b2 (Ev.yes rfl (Ev.now _)))
  obtain ⟨T, P, q1, q2⟩ := moveP_ev rl S hrl H hq.1 hq.2
  by_cases G : OkP rl T
  · exact ⟨((rl, T), true), (q1 G).1, (q1 G).2, fun _ => ⟨T, rfl, H, G, hq, P⟩, G.2.1⟩
  · exact no (q2 G).1 (q2 G).2
end
/-! ### There and back -/
theorem ppic_two {A B : PSym} : ∀ {S T U : PlS}, S.1.Pairwise Less → PPic A S T → PPic B T U → (∀ a b, B.f (A.f a b).1 (A.f a b).2 = (a, b)) → B.wf (A.wf S.2.2.2) = S.2.2.2 → U = S
  | (sp, x, y, wy), (sp1, x1, y1, wy1), (sp2, x2, y2, wy2), hs, ⟨a1, a2, a3, a4⟩, ⟨b1, b2, b3, b4⟩, hf, hw => by
    have ex : x1 = (A.f x y).1 := congrArg Prod.fst a3
    have ey : y1 = (A.f x y).2 := congrArg Prod.snd a3
    subst ex ey a4
    rw [hf] at b3
    have e3 : x2 = x ∧ y2 = y := by simpa using b3
    have hp : sp2.Perm sp := by
      refine (b2.trans (a2.map (img B.f))).trans ?_
      rw [List.map_map]
      have : sp.map (img B.f ∘ img A.f) = sp := by
        conv => rhs; rw [← List.map_id sp]
        refine List.map_congr_left fun s _ => ?_
        show ((B.f (A.f s.1 s.2.1).1 (A.f s.1 s.2.1).2).1, ((B.f (A.f s.1 s.2.1).1 (A.f s.1 s.2.1).2).2, s.2.2)) = s
        rw [hf]
      rw [this]
    rw [less_unique sp2 sp b1 hs hp, e3.1, e3.2, b4]
    simp only at hw
    rw [hw]
theorem ppic_comp {A B : PSym} : ∀ {S T U : PlS}, PPic A S T → PPic B T U → PPic ⟨fun a b => B.f (A.f a b).1 (A.f a b).2, fun v => B.wf (A.wf v), fun rl => rl⟩ S U
  | (sp, x, y, wy), (sp1, x1, y1, wy1), (sp2, x2, y2, wy2), ⟨a1, a2, a3, a4⟩, ⟨b1, b2, b3, b4⟩ => by
    have ex : x1 = (A.f x y).1 := congrArg Prod.fst a3
    have ey : y1 = (A.f x y).2 := congrArg Prod.snd a3
    subst ex ey a4
    refine ⟨b1, ?_, b3, b4⟩
    have := b2.trans (a2.map (img B.f))
    rw [List.map_map] at this
    exact this
theorem turn_four {S A B C D : PlS} (hs : S.1.Pairwise Less) (hw : 0 ≤ S.2.2.2 ∧ S.2.2.2 ≤ 3) (h1 : PPic tnP S A) (h2 : PPic tnP A B) (h3 : PPic tnP B C) (h4 : PPic tnP C D) : D = S := by
  have q := ppic_comp h1 h2
  have r := ppic_comp h3 h4
  refine ppic_two hs q r (fun a b => ?_) ?_
  · show (- -a, - -b) = (a, b)
    rw [Int.neg_neg, Int.neg_neg]
  · show ((((S.2.2.2 + 1) % 4 + 1) % 4 + 1) % 4 + 1) % 4 = S.2.2.2
    omega
theorem mirror_two {S A B : PlS} (hs : S.1.Pairwise Less) (hw : 0 ≤ S.2.2.2 ∧ S.2.2.2 ≤ 3) (h1 : PPic miP S A) (h2 : PPic miP A B) : B = S := by
  refine ppic_two hs h1 h2 (fun a b => ?_) ?_
  · show (- -a, b) = (a, b)
    rw [Int.neg_neg]
  · show (4 - (4 - S.2.2.2) % 4) % 4 = S.2.2.2
    omega
theorem move_two {S A B : PlS} {r d : Int} (hs : S.1.Pairwise Less) (h1 : PPic (mvP r d) S A) (h2 : PPic (mvP (-r) (-d)) A B) : B = S := by
  refine ppic_two hs h1 h2 (fun a b => ?_) rfl
  show (a + r + -r, b + d + -d) = (a, b)
  rw [Int.add_assoc, Int.add_assoc, Int.add_right_neg, Int.add_right_neg, Int.add_zero, Int.add_zero]

def sm : Nat → (Nat → Nat) → Nat
  | 0, _ => 0
  | n + 1, f => sm n f + f n
theorem sm_congr {f g : Nat → Nat} : ∀ {N : Nat}, (∀ a, a < N → f a = g a) → sm N f = sm N g
  | 0, _ => rfl
  | N + 1, h => by
    show sm N f + f N = sm N g + g N
    rw [sm_congr fun a ha => h a (by omega), h N (by omega)]
theorem sm_zero : ∀ N : Nat, sm N (fun _ => 0) = 0
  | 0 => rfl
  | N + 1 => by
    show sm N _ + 0 = 0
    rw [sm_zero N]
theorem sm_add (f g : Nat → Nat) : ∀ N : Nat, sm N (fun a => f a + g a) = sm N f + sm N g
  | 0 => rfl
  | N + 1 => by
    show sm N _ + (f N + g N) = (sm N f + f N) + (sm N g + g N)
    rw [sm_add f g N]
    omega
theorem sm_single (f : Nat → Nat) {b : Nat} : ∀ {N : Nat}, b < N → sm N (fun m => if m = b then f m else 0) = f b
  | 0, h => by omega
  | N + 1, h => by
    show sm N _ + (if N = b then f N else 0) = f b
    by_cases e : N = b
    · subst e
      rw [if_pos rfl, sm_congr (g := fun _ => 0) fun a ha => if_neg (by omega), sm_zero, Nat.zero_add]
    · rw [if_neg e, sm_single f (by omega), Nat.add_zero]
/-! ### Boxes -/
abbrev Bx : Type := Int × Int × Int × Int
def bxS (b : Bx) (s : Sp) : Bx := (min b.1 s.1, max b.2.1 s.1, min b.2.2.1 s.2.1, max b.2.2.2 s.2.1)
def boxF (S : PlS) : Bx := S.1.foldl bxS (S.2.1, S.2.1, S.2.2.1, S.2.2.1)
def InB (b : Bx) (x y : Int) : Prop := (b.1 ≤ x ∧ x ≤ b.2.1) ∧ (b.2.2.1 ≤ y ∧ y ≤ b.2.2.2)
def FarB (b : Bx) : Prop := (Far b.1 ∧ Far b.2.1) ∧ (Far b.2.2.1 ∧ Far b.2.2.2)
theorem bx_in : ∀ (sp : List Sp) (b : Bx), (∀ x y, InB b x y → InB (sp.foldl bxS b) x y) ∧ ∀ s ∈ sp, InB (sp.foldl bxS b) s.1 s.2.1
  | [], b => ⟨fun x y h => h, fun s hs => absurd hs List.not_mem_nil⟩
  | s :: sp, b => by
    obtain ⟨h1, h2⟩ := bx_in sp (bxS b s)
    have h0 : ∀ x y, InB b x y → InB (bxS b s) x y := fun x y h => by
      unfold InB bxS at *
      simp only
      omega
    refine ⟨fun x y h => h1 x y (h0 x y h), fun t ht => ?_⟩
    rcases List.mem_cons.1 ht with rfl | ht
    · refine h1 _ _ ?_
      unfold InB bxS
      simp only
      omega
    · exact h2 t ht
theorem bx_far : ∀ (sp : List Sp) (b : Bx), FarB b → (∀ s ∈ sp, Far s.1 ∧ Far s.2.1) → FarB (sp.foldl bxS b)
  | [], b, h, _ => h
  | s :: sp, b, h, hs => by
    have h1 := hs s (List.mem_cons.2 (.inl rfl))
    refine bx_far sp (bxS b s) ?_ fun t ht => hs t (List.mem_cons.2 (.inr ht))
    unfold FarB Far bxS at *
    simp only
    omega
theorem boxF_facts {rl : ByteArray} {S : PlS} (H : OkP rl S) : FarB (boxF S) ∧ (∀ s ∈ S.1, InB (boxF S) s.1 s.2.1) ∧ InB (boxF S) S.2.1 S.2.2.1 := by
  obtain ⟨hR, hlen, ⟨hx, hy⟩, hw, hS⟩ := H
  refine ⟨bx_far _ _ ⟨⟨hx, hx⟩, hy, hy⟩ fun s hs => (hS.1 s hs).1, (bx_in _ _).2, (bx_in _ _).1 _ _ ⟨⟨Int.le_refl _, Int.le_refl _⟩, Int.le_refl _, Int.le_refl _⟩⟩
/-! ### Pictures -/
def rowL (b0 : Int) (W : Nat) (sp : List Sp) (y : Int) : List Int := (List.range W).map fun k : Nat => 48 + colF (b0 + (k : Int)) y sp
def pcL (b0 : Int) (W : Nat) (b2 : Int) (sp : List Sp) : Nat → List Int
  | 0 => []
  | n + 1 => (if n = 0 then [] else pcL b0 W b2 sp n ++ [47]) ++ rowL b0 W sp (b2 + (n : Int))
theorem rowL_len (b0 : Int) (W : Nat) (sp : List Sp) (y : Int) : (rowL b0 W sp y).length = W := by
  unfold rowL
  rw [List.length_map, List.length_range]
theorem rowL_get (b0 : Int) {W : Nat} (sp : List Sp) (y : Int) {k : Nat} (hk : k < W) : (rowL b0 W sp y)[k]? = some (48 + colF (b0 + (k : Int)) y sp) := by
  unfold rowL
  rw [List.getElem?_map, List.getElem?_range hk]
  rfl
theorem pcL_len (b0 : Int) (W : Nat) (b2 : Int) (sp : List Sp) : ∀ n : Nat, (pcL b0 W b2 sp (n + 1)).length + 1 = (n + 1) * (W + 1)
  | 0 => by
    show ((if (0 : Nat) = 0 then [] else _) ++ rowL b0 W sp _).length + 1 = _
    rw [if_pos rfl, List.nil_append, rowL_len]
    omega
  | n + 1 => by
    show ((if n + 1 = 0 then [] else pcL b0 W b2 sp (n + 1) ++ [47]) ++ rowL b0 W sp _).length + 1 = _
    rw [if_neg (by omega), List.length_append, List.length_append, rowL_len, List.length_singleton, Nat.add_mul (n + 1) 1 (W + 1), ← pcL_len b0 W b2 sp n]
    omega
theorem pcL_get (b0 : Int) {W : Nat} (b2 : Int) (sp : List Sp) {k : Nat} (hk : k < W) : ∀ (n j : Nat), j < n → (pcL b0 W b2 sp n)[j * (W + 1) + k]? = some (48 + colF (b0 + (k : Int)) (b2 + (j : Int)) sp)
  | 0, j, h => by omega
  | 1, j, h => by
    obtain rfl : j = 0 := by omega
    show ((if (0 : Nat) = 0 then [] else _) ++ rowL b0 W sp _)[0 * (W + 1) + k]? = _
    rw [if_pos rfl, List.nil_append, Nat.zero_mul, Nat.zero_add]
    exact rowL_get b0 sp _ hk
  | n + 2, j, h => by
    show ((if n + 1 = 0 then [] else pcL b0 W b2 sp (n + 1) ++ [47]) ++ rowL b0 W sp (b2 + ((n + 1 : Nat) : Int)))[j * (W + 1) + k]? = _
    have hl := pcL_len b0 W b2 sp n
    have hl2 : (pcL b0 W b2 sp (n + 1) ++ [47]).length = (n + 1) * (W + 1) := by rw [List.length_append, List.length_singleton]; exact hl
    rw [if_neg (by omega)]
    by_cases e : j < n + 1
    · have hle : j * (W + 1) + (W + 1) ≤ (n + 1) * (W + 1) := by
        rw [← Nat.succ_mul]
        exact Nat.mul_le_mul_right _ e
      rw [List.getElem?_append_left (by omega), List.getElem?_append_left (by omega)]
      exact pcL_get b0 b2 sp hk (n + 1) j e
    · obtain rfl : j = n + 1 := by omega
      rw [List.getElem?_append_right (by omega), hl2, Nat.add_sub_cancel_left]
      exact rowL_get b0 sp _ hk
def cntN (l : List Int) : Nat := l.countP fun n => n != 48
theorem cnt_row (b0 : Int) (sp : List Sp) (y : Int) : ∀ W : Nat, cntN (rowL b0 W sp y) = sm W fun k => (decide (colF (b0 + (k : Int)) y sp ≠ 0)).toNat
  | 0 => rfl
  | W + 1 => by
    show cntN (rowL b0 (W + 1) sp y) = sm W _ + _
    rw [← cnt_row b0 sp y W]
    unfold rowL cntN
    rw [List.range_succ, List.map_append, List.countP_append]
    congr 1
    show List.countP _ [48 + colF (b0 + (W : Int)) y sp] = _
    rw [List.countP_singleton]
    show _ = (decide (colF (b0 + (W : Int)) y sp ≠ 0)).toNat
    by_cases h : colF (b0 + (W : Int)) y sp = 0
    · rw [h]
      rfl
    · rw [if_pos (by rw [bne_iff_ne]; omega), decide_eq_true h]
      rfl
theorem cnt_pc (b0 : Int) (W : Nat) (b2 : Int) (sp : List Sp) : ∀ n : Nat, cntN (pcL b0 W b2 sp (n + 1)) = n + sm (n + 1) fun j => sm W fun k => (decide (colF (b0 + (k : Int)) (b2 + (j : Int)) sp ≠ 0)).toNat
  | 0 => by
    show cntN ((if (0 : Nat) = 0 then [] else _) ++ rowL b0 W sp (b2 + ((0 : Nat) : Int))) = 0 + (0 + _)
    rw [if_pos rfl, List.nil_append, cnt_row, Nat.zero_add, Nat.zero_add]
  | n + 1 => by
    show cntN ((if n + 1 = 0 then [] else pcL b0 W b2 sp (n + 1) ++ [47]) ++ rowL b0 W sp (b2 + ((n + 1 : Nat) : Int))) = n + 1 + (sm (n + 1) _ + _)
    rw [if_neg (by omega)]
    have h1 := cnt_pc b0 W b2 sp n
    have h2 := cnt_row b0 sp (b2 + ((n + 1 : Nat) : Int)) W
    unfold cntN at *
    rw [List.countP_append, List.countP_append, h1, h2]
    show n + _ + 1 + (sm W fun k => (decide (colF (b0 + (k : Int)) (b2 + ((n + 1 : Nat) : Int)) sp ≠ 0)).toNat) = n + 1 + (_ + sm W fun k => (decide (colF (b0 + (k : Int)) (b2 + ((n + 1 : Nat) : Int)) sp ≠ 0)).toNat)
    omega
/-! ### As many cells are told as there are spots -/
theorem col_count {x y : Int} : ∀ {sp : List Sp}, sp.Pairwise Less → (∀ s ∈ sp, 1 ≤ s.2.2) → (decide (colF x y sp ≠ 0)).toNat = sp.countP (atS x y) := by
  intro sp hs hc
  by_cases h : ∃ c, (x, (y, c)) ∈ sp
  · obtain ⟨c, hm⟩ := h
    have c1 := hc _ hm
    rw [col_mem hs hm, decide_eq_true (show c ≠ 0 by simp only at c1; omega), Bool.toNat_true]
    obtain ⟨A, B, rfl⟩ := List.append_of_mem hm
    rw [List.pairwise_append, List.pairwise_cons] at hs
    obtain ⟨_, ⟨hB, _⟩, hA⟩ := hs
    rw [List.countP_append, List.countP_cons, List.countP_eq_zero.2 fun s hsA he => ?_, List.countP_eq_zero.2 fun s hsB he => ?_, if_pos (show atS x y (x, (y, c)) = true from at_iff.2 ⟨rfl, rfl⟩)]
    · exact (hB s hsB).ne ⟨(at_iff.1 he).1.symm, (at_iff.1 he).2.symm⟩
    · exact (hA s hsA _ (List.mem_cons.2 (.inl rfl))).ne (at_iff.1 he)
  · have h0 : ∀ s ∈ sp, ¬ (s.1 = x ∧ s.2.1 = y) := fun s hsm e => h ⟨s.2.2, by
      obtain ⟨a, b, c⟩ := s
      obtain ⟨e1, e2⟩ := e
      simp only at e1 e2
      subst e1 e2
      exact hsm⟩
    rw [col_no h0, List.countP_eq_zero.2 fun s hsm he => h0 s hsm (at_iff.1 he)]
    rfl
theorem cells_spots {b : Bx} {W Hh : Nat} (hW : (W : Int) = b.2.1 - b.1 + 1) (hH : (Hh : Int) = b.2.2.2 - b.2.2.1 + 1) : ∀ sp : List Sp, (∀ s ∈ sp, InB b s.1 s.2.1) → (sm Hh fun j => sm W fun k => sp.countP (atS (b.1 + (k : Int)) (b.2.2.1 + (j : Int)))) = sp.length
  | [], _ => by
    have e : ∀ j, j < Hh → (sm W fun k => List.countP (atS (b.1 + (k : Int)) (b.2.2.1 + (j : Int))) []) = 0 := fun j _ => (sm_congr (g := fun _ => 0) fun k _ => rfl).trans (sm_zero W)
    exact (sm_congr (g := fun _ => 0) e).trans (sm_zero Hh)
  | s :: sp, h => by
    have ih := cells_spots hW hH sp fun t ht => h t (List.mem_cons.2 (.inr ht))
    obtain ⟨⟨x1, x2⟩, y1, y2⟩ := h s (List.mem_cons.2 (.inl rfl))
    have e1 : ∀ j k : Nat, (s :: sp).countP (atS (b.1 + (k : Int)) (b.2.2.1 + (j : Int))) = sp.countP (atS (b.1 + (k : Int)) (b.2.2.1 + (j : Int))) + if k = (s.1 - b.1).toNat then (if j = (s.2.1 - b.2.2.1).toNat then 1 else 0) else 0 := fun j k => by
      rw [List.countP_cons]
      congr 1
      by_cases hk : k = (s.1 - b.1).toNat
      · rw [if_pos hk]
        by_cases hj : j = (s.2.1 - b.2.2.1).toNat
        · rw [if_pos hj, if_pos (at_iff.2 ⟨by omega, by omega⟩)]
        · rw [if_neg hj, if_neg fun he => by have := (at_iff.1 he).2; omega]
      · rw [if_neg hk, if_neg fun he => by have := (at_iff.1 he).1; omega]
    rw [sm_congr (g := fun j => (sm W fun k => sp.countP (atS (b.1 + (k : Int)) (b.2.2.1 + (j : Int)))) + if j = (s.2.1 - b.2.2.1).toNat then 1 else 0) fun j hj => ?_]
    · rw [sm_add, ih, sm_single (fun _ => 1) (by omega), List.length_cons]
    · rw [sm_congr fun k _ => e1 j k, sm_add]
      congr 1
      exact sm_single (fun _ => if j = (s.2.1 - b.2.2.1).toNat then 1 else 0) (by omega)
theorem pic_count {rl : ByteArray} {S : PlS} (H : OkP rl S) {W n : Nat} (hW : (W : Int) = (boxF S).2.1 - (boxF S).1 + 1) (hH : ((n + 1 : Nat) : Int) = (boxF S).2.2.2 - (boxF S).2.2.1 + 1) : cntN (pcL (boxF S).1 W (boxF S).2.2.1 S.1 (n + 1)) = n + S.1.length := by
  obtain ⟨_, hB, _⟩ := boxF_facts H
  obtain ⟨_, _, _, _, hS⟩ := H
  rw [cnt_pc, sm_congr fun j _ => sm_congr fun k _ => col_count hS.2 fun s hs => (hS.1 s hs).2.1, cells_spots hW hH S.1 hB]
end Go.Proofs.YtblgfbkifhfjpaaGreatDoorS
