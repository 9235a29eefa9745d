/- Plains: steps and runs. -/
import Derived.Test.YtplamonjnlgomaaGreatDoorPuPlain
namespace Go.Proofs.YtplamonjnlgomaaGreatDoorS
open Go
set_option linter.unusedVariables false
set_option linter.unusedSimpArgs false

theorem keys_of {sp : List Sp} (h : sp.Pairwise Less) : Keys (sp.map ent) := by
  unfold Keys
  rw [List.map_map]
  unfold List.Nodup
  rw [List.pairwise_map]
  exact h.imp fun {a b} hl e => by
    have e : (a.1, a.2.1) = (b.1, b.2.1) := e
    rw [Prod.mk.injEq] at e
    exact hl.ne e
theorem take_next' {α : Type} {l : List α} {j : Nat} {x : α} (h : l[j]? = some x) : l.take (j + 1) = l.take j ++ [x] := by
  rw [List.take_add_one, h]
  rfl
section
variable (rl : ByteArray) (x y wy : Int)
theorem going_ev (sp : List Sp) (hsp : sp.length ≤ 1048576) (hk : Keys (sp.map ent)) : Ev (fun k => impl_Plain_going k (rl, sp, x, y, wy)) (rl, sp.map ent, x, y, wy) := by
  have loop : ∀ (m i : Nat), i + m = sp.length → Ev (fun k => impl_Plain_going_l k ((rl, (sp.take i).map ent, x, y, wy), sp, (sp.length : Int), (i : Int))) (rl, sp.map ent, x, y, wy) := by
    intro m
    induction m with
    | zero => intro i h; exact Ev.step (fun k => impl_Plain_going_l.eq k rl _ x y wy sp _ (i : Int)) (Ev.no (not_lt_nat (by omega)) (Ev.now' (by rw [List.take_of_length_le (by omega)])))
    | succ m ih =>
      intro i h
      obtain ⟨s, hs⟩ := nat_list (l := sp) (i := i) (by omega)
      obtain ⟨hlt, he⟩ := List.getElem?_eq_some_iff.1 hs
      refine Ev.step (fun k => impl_Plain_going_l.eq k rl _ x y wy sp _ (i : Int)) (Ev.yes (lt_nat (by omega)) (Ev.yes (inB_nat (by omega)) ?_))
      rw [Int.toNat_natCast, getD_at hs, w64_succ (by omega)]
      have hnew : (s.1, s.2.1) ∉ ((sp.take i).map ent).map Prod.fst := by
        have h1 : sp = sp.take i ++ s :: sp.drop (i + 1) := by
          rw [← he, ← List.drop_eq_getElem_cons hlt, List.take_append_drop]
        have h2 := hk
        unfold Keys at h2
        rw [h1, List.map_append, List.map_append, List.nodup_append] at h2
        intro hm
        exact h2.2.2 _ hm (s.1, s.2.1) (by simp [ent]) rfl
      have e : mput pe ((sp.take i).map ent) (s.1, s.2.1) s.2.2 = (sp.take (i + 1)).map ent := by
        rw [mput_new _ _ hnew, take_next' hs, List.map_append]
        rfl
      have := ih (i + 1) (by omega)
      rw [← e] at this
      exact this
  have := loop sp.length 0 (by omega)
  exact Ev.step (fun k => impl_Plain_going.eq k rl sp x y wy) (Ev.bind this (Ev.now _))
end
/-! ### Where a spot is -/
def isAt (x y : Int) : List Sp → Bool
  | s :: _ => s.1 == x && s.2.1 == y
  | [] => false
def restB (x y : Int) (B : List Sp) : List Sp := if isAt x y B then B.tail else B
def colB (x y : Int) : List Sp → Int
  | s :: B => if isAt x y (s :: B) then s.2.2 else 0
  | [] => 0
theorem colB_cons (x y : Int) (s : Sp) (B : List Sp) : colB x y (s :: B) = if isAt x y (s :: B) then s.2.2 else 0 := rfl
theorem isAt_cons (x y : Int) (s : Sp) (B : List Sp) : isAt x y (s :: B) = (s.1 == x && s.2.1 == y) := rfl
theorem restB_len (x y : Int) (B : List Sp) : (restB x y B).length ≤ B.length := by
  unfold restB
  split
  · rw [List.length_tail]; omega
  · exact Nat.le_refl _
structure Cut (x y : Int) (A B : List Sp) : Prop where
  lo : ∀ s ∈ A, Less s (x, (y, 0))
  hi : ∀ s ∈ B, ¬ Less s (x, (y, 0))
  srt : (A ++ B).Pairwise Less
theorem Cut.rest {x y : Int} {A B : List Sp} (C : Cut x y A B) : ∀ s ∈ restB x y B, Less (x, (y, 0)) s := by
  intro t ht
  have hs := (List.pairwise_append.1 C.srt).2.1
  cases B with
  | nil => unfold restB at ht; simp [isAt] at ht
  | cons s B =>
    obtain ⟨h1, h2⟩ := List.pairwise_cons.1 hs
    cases hi : isAt x y (s :: B) with
    | true =>
      have hi' : (s.1 == x && s.2.1 == y) = true := hi
      rw [Bool.and_eq_true, beq_iff_eq, beq_iff_eq] at hi'
      unfold restB at ht
      rw [hi, if_pos rfl] at ht
      have hl := h1 t ht
      unfold Less at hl ⊢
      simp only
      omega
    | false =>
      have hi' : ¬ (s.1 = x ∧ s.2.1 = y) := fun h => by
        have : isAt x y (s :: B) = true := by show (s.1 == x && s.2.1 == y) = true; rw [Bool.and_eq_true, beq_iff_eq, beq_iff_eq]; exact h
        rw [hi] at this
        cases this
      unfold restB at ht
      rw [hi, if_neg (by simp)] at ht
      have h0 : Less (x, (y, 0)) s := less_total (C.hi s (by simp)) hi'
      rcases List.mem_cons.1 ht with rfl | ht
      · exact h0
      · exact h0.trans (h1 t ht)
theorem Cut.ents {x y : Int} {A B : List Sp} (C : Cut x y A B) : (A ++ B).map ent = A.map ent ++ ((if isAt x y B then [((x, y), colB x y B)] else []) ++ (restB x y B).map ent) := by
  rw [List.map_append]
  congr 1
  cases B with
  | nil => rfl
  | cons s B =>
    cases hi : isAt x y (s :: B) with
    | true =>
      have hi' : (s.1 == x && s.2.1 == y) = true := hi
      rw [Bool.and_eq_true, beq_iff_eq, beq_iff_eq] at hi'
      unfold restB
      rw [colB_cons, hi, if_pos rfl, if_pos rfl, if_pos rfl]
      show ent s :: B.map ent = ((x, y), s.2.2) :: B.map ent
      unfold ent
      rw [hi'.1, hi'.2]
    | false =>
      unfold restB
      rw [hi, if_neg (by simp), if_neg (by simp)]
      rfl
theorem Cut.keyA {x y : Int} {A B : List Sp} (C : Cut x y A B) : ∀ e ∈ A.map ent, (x, y) ≠ e.1 := by
  intro e he
  obtain ⟨s, hs, rfl⟩ := List.mem_map.1 he
  intro h
  have h : (x, y) = (s.1, s.2.1) := h
  rw [Prod.mk.injEq] at h
  exact (C.lo s hs).ne ⟨h.1.symm, h.2.symm⟩
theorem Cut.keyR {x y : Int} {A B : List Sp} (C : Cut x y A B) : ∀ e ∈ (restB x y B).map ent, (x, y) ≠ e.1 := by
  intro e he
  obtain ⟨s, hs, rfl⟩ := List.mem_map.1 he
  intro h
  have h : (x, y) = (s.1, s.2.1) := h
  rw [Prod.mk.injEq] at h
  exact (C.rest s hs).ne h
theorem Cut.filt {x y : Int} {A B : List Sp} (C : Cut x y A B) : ((A ++ B).map ent).filter (fun e => !pe (x, y) e.1) = A.map ent ++ (restB x y B).map ent := by
  rw [C.ents, List.filter_append, List.filter_append]
  have f1 : (A.map ent).filter (fun e => !pe (x, y) e.1) = A.map ent := List.filter_eq_self.2 fun e he => by rw [pe_false (C.keyA e he)]; rfl
  have f2 : ((restB x y B).map ent).filter (fun e => !pe (x, y) e.1) = (restB x y B).map ent := List.filter_eq_self.2 fun e he => by rw [pe_false (C.keyR e he)]; rfl
  rw [f1, f2]
  cases isAt x y B with
  | true => rw [if_pos rfl, List.filter_cons, pe_self]; rfl
  | false => rfl
theorem Cut.noR {x y : Int} {A B : List Sp} (C : Cut x y A B) : (x, y) ∉ (A.map ent ++ (restB x y B).map ent).map Prod.fst := by
  intro h
  obtain ⟨e, he, h⟩ := List.mem_map.1 h
  rcases List.mem_append.1 he with he | he
  · exact C.keyA e he h.symm
  · exact C.keyR e he h.symm
theorem Cut.col {x y : Int} {A B : List Sp} (C : Cut x y A B) : Col ((A ++ B).map ent) (x, y) (colB x y B) := by
  cases hi : isAt x y B with
  | true =>
    refine .inl ?_
    rw [C.ents, hi, if_pos rfl]
    simp
  | false =>
    refine .inr ⟨?_, ?_⟩
    · cases B with
      | nil => rfl
      | cons s B => rw [colB_cons, hi]; rfl
    · rw [C.ents, hi, if_neg (by simp), List.nil_append]
      exact C.noR
theorem Cut.range {t x y : Int} {A B : List Sp} (ht : 1 ≤ t) (h : ∀ s ∈ A ++ B, SpotOk t s) : 0 ≤ colB x y B ∧ colB x y B ≤ t - 1 := by
  cases B with
  | nil => exact ⟨Int.le_refl _, by show (0 : Int) ≤ _; omega⟩
  | cons s B =>
    have := (h s (by simp)).2
    rw [colB_cons]
    split
    · omega
    · omega
theorem cut_ex (x y : Int) {sp : List Sp} (h : sp.Pairwise Less) : ∃ A B, sp = A ++ B ∧ Cut x y A B := by
  obtain ⟨A, B, rfl, h1, h2⟩ := split_at (x, (y, 0)) sp h
  exact ⟨A, B, rfl, h1, h2, h⟩
theorem enAt_ev {x y : Int} {A B : List Sp} (C : Cut x y A B) (hl : (A ++ B).length ≤ 1048576) : Ev (fun k => spec_enAt k (A ++ B, x, y)) ((A.length : Int), isAt x y B) := by
  have hL : (A ++ B).length = A.length + B.length := List.length_append
  have loop : ∀ (n lo hi : Nat), hi - lo ≤ n → lo ≤ A.length → A.length ≤ hi → hi ≤ (A ++ B).length → Ev (fun k => spec_enAt_l k (A ++ B, x, y, (lo : Int), (hi : Int))) (A ++ B, x, y, (A.length : Int)) := by
    intro n
    induction n with
    | zero =>
      intro lo hi h1 h2 h3 h4
      exact Ev.step (fun k => spec_enAt_l.eq k (A ++ B) x y lo hi) (Ev.no (not_lt_nat (by omega)) (Ev.now' (by rw [show lo = A.length by omega])))
    | succ n ih =>
      intro lo hi h1 h2 h3 h4
      by_cases hlt : lo < hi
      rotate_left
      · exact Ev.step (fun k => spec_enAt_l.eq k (A ++ B) x y lo hi) (Ev.no (not_lt_nat (by omega)) (Ev.now' (by rw [show lo = A.length by omega])))
      have e : w64 ((w64 ((lo : Int) + (hi : Int))).tdiv 2) = (((lo + hi) / 2 : Nat) : Int) := by
        rw [w64_of (n := (lo : Int) + (hi : Int)) (by omega) (by omega), Int.tdiv_eq_ediv_of_nonneg (by omega), w64_of (by omega) (by omega)]
        omega
      obtain ⟨mid, hmid⟩ : ∃ mid, mid = (lo + hi) / 2 := ⟨_, rfl⟩
      rw [← hmid] at e
      obtain ⟨s, hs⟩ := nat_list (l := A ++ B) (i := mid) (by omega)
      refine Ev.step (fun k => spec_enAt_l.eq k (A ++ B) x y lo hi) (Ev.yes (lt_nat hlt) ?_)
      rw [e]
      refine Ev.yes (inB_nat (by omega)) ?_
      rw [Int.toNat_natCast, getD_at hs]
      by_cases hm : mid < A.length
      · have hA : s ∈ A := by
          rw [List.getElem?_append_left hm] at hs
          exact List.mem_of_getElem? hs
        refine Ev.bind ((enLess_ev s _).isT (C.lo s hA)) (Ev.yes rfl ?_)
        rw [w64_succ (by omega)]
        exact ih (mid + 1) hi (by omega) (by omega) h3 h4
      · have hB : s ∈ B := by
          rw [List.getElem?_append_right (by omega)] at hs
          exact List.mem_of_getElem? hs
        exact Ev.bind ((enLess_ev s _).isF (C.hi s hB)) (Ev.no rfl (ih lo mid (by omega) h2 (by omega) (by omega)))
  refine Ev.step (fun k => spec_enAt.eq k (A ++ B) x y) (Ev.bind (loop _ 0 (A ++ B).length (Nat.le_refl _) (by omega) (by omega) (Nat.le_refl _)) ?_)
  dsimp only
  cases B with
  | nil => exact Ev.no (not_lt_nat (by simp)) (Ev.now _)
  | cons s B =>
    have hs : (A ++ s :: B)[A.length]? = some s := by rw [List.getElem?_append_right (Nat.le_refl _), Nat.sub_self]; rfl
    have hlt : A.length < (A ++ s :: B).length := by simp
    refine Ev.yes (lt_nat hlt) (Ev.yes (inB_nat hlt) ?_)
    rw [Int.toNat_natCast, getD_at hs]
    rw [isAt_cons]
    cases hx : (s.1 == x) with
    | true => exact Ev.yes rfl (Ev.yes (inB_nat hlt) (Ev.now _))
    | false => exact Ev.no rfl (Ev.now _)
theorem enColour_ev (rl : ByteArray) {x y : Int} (X Y W : Int) {A B : List Sp} (C : Cut x y A B) (hl : (A ++ B).length ≤ 1048576) : Ev (fun k => spec_enColour k ((rl, A ++ B, X, Y, W), x, y)) (colB x y B) := by
  refine Ev.step (fun k => spec_enColour.eq k rl (A ++ B) X Y W x y) (Ev.bind (enAt_ev C hl) ?_)
  dsimp only
  cases B with
  | nil => exact Ev.no rfl (Ev.now _)
  | cons s B =>
    have hs : (A ++ s :: B)[A.length]? = some s := by rw [List.getElem?_append_right (Nat.le_refl _), Nat.sub_self]; rfl
    have hlt : A.length < (A ++ s :: B).length := by simp
    rw [Int.toNat_natCast, getD_at hs]
    rw [colB_cons]
    cases isAt x y (s :: B) with
    | true => exact Ev.yes rfl (Ev.yes (inB_nat hlt) (Ev.now _))
    | false => exact Ev.no rfl (Ev.now _)
def paintL (x y p : Int) (A B : List Sp) : List Sp := A ++ ((if 0 < p then [(x, (y, p))] else []) ++ restB x y B)
theorem enPaint_ev {x y : Int} {A B : List Sp} (C : Cut x y A B) (hl : (A ++ B).length ≤ 1048576) (p : Int) : Ev (fun k => spec_enPaint k (A ++ B, x, y, p)) (paintL x y p A B) := by
  have hL : (A ++ B).length = A.length + B.length := List.length_append
  have tk : (A ++ B).take A.length = A := List.take_left
  have dr : ((A ++ B).drop A.length).take ((A ++ B).length - A.length) = B := by rw [List.drop_left]; exact List.take_of_length_le (by omega)
  have dr1 : ((A ++ B).drop (A.length + 1)).take ((A ++ B).length - (A.length + 1)) = B.tail := by
    rw [← List.drop_drop, List.drop_left, List.drop_one]
    exact List.take_of_length_le (by rw [List.length_tail]; omega)
  have b0 : ((decide ((0 : Int) ≤ (A.length : Int))) && (decide ((A.length : Int) ≤ ((A ++ B).length : Int)))) = true := by
    rw [decide_eq_true (by omega), decide_eq_true (by omega)]; rfl
  have e1 : w64 ((A.length : Int) + 1) = ((A.length + 1 : Nat) : Int) := w64_succ (by omega)
  have hne : isAt x y B = true → 1 ≤ B.length := fun h => by
    cases B with
    | nil => cases h
    | cons s B => simp
  have b1 : isAt x y B = true → ((decide ((0 : Int) ≤ ((A.length + 1 : Nat) : Int))) && (decide (((A.length + 1 : Nat) : Int) ≤ ((A ++ B).length : Int)))) = true := fun h => by
    have := hne h
    rw [decide_eq_true (by omega), decide_eq_true (by omega)]; rfl
  have lt := List.length_tail (l := B)
  refine Ev.step (fun k => spec_enPaint.eq k (A ++ B) x y p) (Ev.bind (enAt_ev C hl) (Ev.yes b0 ?_))
  dsimp only
  simp only [Int.toNat_natCast, e1, tk, dr, dr1, List.nil_append]
  refine Ev.yes (fits_of (by omega)) ?_
  unfold paintL restB
  by_cases hp : 0 < p
  · rw [if_pos hp]
    refine Ev.yes (decide_eq_true hp) (Ev.yes (fits_of (by omega)) ?_)
    cases hi : isAt x y B with
    | true => exact Ev.yes rfl (Ev.yes (b1 hi) (Ev.yes (fits_of (by rw [List.length_append]; simp only [List.length_cons, List.length_nil]; omega)) (Ev.now' (by rw [if_pos rfl, List.append_assoc]))))
    | false => exact Ev.no rfl (Ev.yes b0 (Ev.yes (fits_of (by rw [List.length_append]; simp only [List.length_cons, List.length_nil]; omega)) (Ev.now' (by rw [if_neg (by simp), List.append_assoc]))))
  · rw [if_neg hp]
    refine Ev.no (decide_eq_false (by omega)) ?_
    cases hi : isAt x y B with
    | true => exact Ev.yes rfl (Ev.yes (b1 hi) (Ev.yes (fits_of (by omega)) (Ev.now' (by rw [if_pos rfl, List.nil_append]))))
    | false => exact Ev.no rfl (Ev.yes b0 (Ev.yes (fits_of (by omega)) (Ev.now' (by rw [if_neg (by simp), List.nil_append]))))
/-! ### Painting -/
theorem paint_spots {t x y p : Int} {A B : List Sp} (C : Cut x y A B) (h : ∀ s ∈ A ++ B, SpotOk t s) (hq : Far x ∧ Far y) (hp : 0 ≤ p ∧ p ≤ t - 1) : SpotsOk t (paintL x y p A B) := by
  have hR : ∀ s ∈ restB x y B, s ∈ B := fun s hs => by
    unfold restB at hs
    split at hs
    · exact List.mem_of_mem_tail hs
    · exact hs
  have hm : ∀ s ∈ (if 0 < p then [(x, (y, p))] else []), s = (x, (y, p)) ∧ 0 < p := fun s hs => by
    split at hs
    · rename_i h0
      exact ⟨by simpa using hs, h0⟩
    · cases hs
  obtain ⟨s1, s2, s3⟩ := List.pairwise_append.1 C.srt
  constructor
  · intro s hs
    unfold paintL at hs
    rcases List.mem_append.1 hs with hs | hs
    · exact h s (List.mem_append_left _ hs)
    · rcases List.mem_append.1 hs with hs | hs
      · obtain ⟨rfl, h0⟩ := hm s hs
        exact ⟨hq, by show 1 ≤ p ∧ p ≤ t - 1; omega⟩
      · exact h s (List.mem_append_right _ (hR s hs))
  · unfold paintL
    refine List.pairwise_append.2 ⟨s1, List.pairwise_append.2 ⟨?_, ?_, ?_⟩, ?_⟩
    · split
      · exact List.pairwise_singleton _ _
      · exact List.Pairwise.nil
    · unfold restB
      split
      · exact s2.sublist (List.tail_sublist B)
      · exact s2
    · intro a ha b hb
      obtain ⟨rfl, _⟩ := hm a ha
      exact C.rest b hb
    · intro a ha b hb
      rcases List.mem_append.1 hb with hb | hb
      · obtain ⟨rfl, _⟩ := hm b hb
        exact C.lo a ha
      · exact s3 a ha b (hR b hb)
def paintG (x y p : Int) (g : List (Pt × Int)) : List (Pt × Int) := if 0 < p then mput pe (mdel pe g (x, y)) (x, y) p else mdel pe g (x, y)
theorem paint_perm {x y p : Int} {A B : List Sp} (C : Cut x y A B) {g : List (Pt × Int)} (hg : g.Perm ((A ++ B).map ent)) : (paintG x y p g).Perm ((paintL x y p A B).map ent) := by
  have hk : Keys g := (keys_of C.srt).perm hg.symm
  have hd : (mdel pe g (x, y)).Perm (A.map ent ++ (restB x y B).map ent) := by
    rw [mdel_filter _ hk, ← C.filt]
    exact hg.filter _
  unfold paintG paintL
  by_cases hp : 0 < p
  · rw [if_pos hp, if_pos hp]
    have hn : (x, y) ∉ (mdel pe g (x, y)).map Prod.fst := fun h => C.noR ((hd.map Prod.fst).mem_iff.1 h)
    rw [mput_new _ _ hn, List.map_append, List.map_append]
    refine (hd.append_right _).trans ?_
    rw [List.append_assoc]
    exact List.Perm.append_left _ List.perm_append_comm
  · rw [if_neg hp, if_neg hp, List.nil_append, List.map_append]
    exact hd
theorem going_paint_ev (rl : ByteArray) (g : List (Pt × Int)) (X Y W x y p : Int) : Ev (fun k => impl_going_paint k ((rl, g, X, Y, W), x, y, p)) ((), (rl, paintG x y p g, X, Y, W)) := by
  refine Ev.step (fun k => impl_going_paint.eq k rl g X Y W x y p) ?_
  unfold paintG
  by_cases hp : 0 < p
  · rw [if_pos hp]; exact Ev.yes (decide_eq_true hp) (Ev.now _)
  · rw [if_neg hp]; exact Ev.no (decide_eq_false hp) (Ev.now _)
theorem enGo_ev (rl : ByteArray) (sp : List Sp) (x y wy : Int) (hq : Far x ∧ Far y) (hw : 0 ≤ wy ∧ wy ≤ 3) : Ev (fun k => spec_enGo k ((rl, sp, x, y, wy), 1)) ((), (rl, sp, x + dxW wy, y + dyW wy, wy)) := by
  unfold Far at hq
  have : wy = 0 ∨ wy = 1 ∨ wy = 2 ∨ wy = 3 := by omega
  have e1 : w64 (y - 1) = y + -1 := by rw [w64_of (by omega) (by omega)]; omega
  have e2 : w64 (x + 1) = x + 1 := w64_of (by omega) (by omega)
  have e3 : w64 (y + 1) = y + 1 := w64_of (by omega) (by omega)
  have e4 : w64 (x - 1) = x + -1 := by rw [w64_of (by omega) (by omega)]; omega
  rcases this with rfl | rfl | rfl | rfl
  · exact Ev.step (fun k => spec_enGo.eq k rl sp x y 0 1) (Ev.yes rfl (Ev.now' (by rw [e1]; show _ = ((), (rl, sp, x + 0, y + -1, (0 : Int))); rw [Int.add_zero])))
  · exact Ev.step (fun k => spec_enGo.eq k rl sp x y 1 1) (Ev.no rfl (Ev.yes rfl (Ev.now' (by rw [e2]; show _ = ((), (rl, sp, x + 1, y + 0, (1 : Int))); rw [Int.add_zero]))))
  · exact Ev.step (fun k => spec_enGo.eq k rl sp x y 2 1) (Ev.no rfl (Ev.no rfl (Ev.yes rfl (Ev.now' (by rw [e3]; show _ = ((), (rl, sp, x + 0, y + 1, (2 : Int))); rw [Int.add_zero])))))
  · exact Ev.step (fun k => spec_enGo.eq k rl sp x y 3 1) (Ev.no rfl (Ev.no rfl (Ev.no rfl (Ev.now' (by rw [e4]; show _ = ((), (rl, sp, x + -1, y + 0, (3 : Int))); rw [Int.add_zero])))))
abbrev zeroP : ByteArray × List Sp × Int × Int × Int := (ByteArray.empty, [], 0, 0, 0)
theorem step_ev (rl : ByteArray) (sp : List Sp) (x y wy : Int) (g : List (Pt × Int)) (H : PlainOk rl sp x y wy) (hg : g.Perm (sp.map ent)) : ∃ (c : Nat) (z : UInt8) (sp' : List Sp) (x' y' wy' : Int) (g' : List (Pt × Int)) (ok : Bool),
    rl.data.toList[c]? = some z ∧ Ev (fun k => spec_enColour k ((rl, sp, x, y, wy), x, y)) (c : Int) ∧ Ev (fun k => spec_enStep k (rl, sp, x, y, wy)) (if ok then ((rl, sp', x', y', wy'), true) else (zeroP, false)) ∧
    Ev (fun k => impl_going_step k (rl, g, x, y, wy)) (((z.toNat : Int), ok), (rl, g', x', y', wy')) ∧ (ok = true → PlainOk rl sp' x' y' wy') ∧ g'.Perm (sp'.map ent) := by
  obtain ⟨hR, hlen, hq, hw, hS⟩ := H
  have h6 := hR.1
  obtain ⟨A, B, rfl, C⟩ := cut_ex x y hS.2
  have hcr := Cut.range (x := x) (y := y) (t := rl.size) (by omega) hS.1
  have hcol := enColour_ev rl x y wy C (by omega)
  have hget : mget pe g (x, y) 0 = colB x y B := mget_col ((keys_of C.srt).perm hg.symm) (C.col.perm hg.symm)
  obtain ⟨c, hc⟩ := Int.eq_ofNat_of_zero_le hcr.1
  rw [hc] at hcr hcol hget
  have hcl : c < rl.size := by omega
  obtain ⟨z, hz⟩ := byte_at hcl
  have hbt := bt_at hz
  have hzlt := z.toNat_lt
  obtain ⟨q0, q3⟩ := quartersB_range (z.toNat : Int)
  have eW : (w64 (wy + quartersB (z.toNat : Int))).tmod 4 = (wy + quartersB (z.toNat : Int)) % 4 := by rw [w64_of (by omega) (by omega), Int.tmod_eq_emod_of_nonneg (by omega)]
  have hwz : 0 ≤ (wy + quartersB (z.toNat : Int)) % 4 ∧ (wy + quartersB (z.toNat : Int)) % 4 ≤ 3 := by omega
  generalize (wy + quartersB (z.toNat : Int)) % 4 = wz at eW hwz
  have eP : (w64 ((c : Int) + 1)).tmod (rl.size : Int) = ((c : Int) + 1) % (rl.size : Int) := by rw [w64_of (by omega) (by omega), Int.tmod_eq_emod_of_nonneg (by omega)]
  have hP : 0 ≤ ((c : Int) + 1) % (rl.size : Int) ∧ ((c : Int) + 1) % (rl.size : Int) ≤ (rl.size : Int) - 1 := by
    have p1 := Int.emod_nonneg ((c : Int) + 1) (show (rl.size : Int) ≠ 0 by omega)
    have p2 := Int.emod_lt_of_pos ((c : Int) + 1) (show (0 : Int) < rl.size by omega)
    omega
  generalize ((c : Int) + 1) % (rl.size : Int) = p at eP hP
  have hne : ((rl.size : Int) != 0) = true := by rw [bne_iff_ne]; omega
  obtain ⟨⟨d1, d2⟩, d3, d4⟩ := dW_range wz
  have hps := paint_spots (p := p) C hS.1 hq hP
  have hpp := paint_perm (p := p) C hg
  have hpl : (paintG x y p g).length = (paintL x y p A B).length := by have := hpp.length_eq; rwa [List.length_map] at this
  have hll : (paintL x y p A B).length ≤ 1000 := by
    unfold paintL
    rw [List.length_append, List.length_append]
    rw [List.length_append] at hlen
    have t1 := restB_len x y B
    have t2 : (if 0 < p then [(x, (y, p))] else ([] : List Sp)).length ≤ 1 := by split <;> simp
    omega
  have good := enGood_ev rl (paintL x y p A B) (x + dxW wz) (y + dyW wz) wz (by omega)
  have near := isNear_ev (x + dxW wz) (y + dyW wz)
  have iff1 : PlainOk rl (paintL x y p A B) (x + dxW wz) (y + dyW wz) wz ↔ (Far (x + dxW wz) ∧ Far (y + dyW wz)) ∧ (paintL x y p A B).length ≤ 300 := ⟨fun h => ⟨h.2.2.1, h.2.1⟩, fun h => ⟨hR, h.2, h.1, hwz, hps⟩⟩
  obtain ⟨ok, g1, g2⟩ := good
  have isP : Ev (fun k => impl_going_isPlain k (rl, paintG x y p g, x + dxW wz, y + dyW wz, wz)) ok := by
    refine Ev.step (fun k => impl_going_isPlain.eq k rl _ _ _ wz) ?_
    by_cases hn : Far (x + dxW wz) ∧ Far (y + dyW wz)
    · refine Ev.bind (near.isT hn) (Ev.yes rfl (Ev.now' ?_))
      rw [hpl]
      have e : (ok = true) ↔ (((paintL x y p A B).length : Int) ≤ 300) := by
        rw [g2, iff1]
        exact ⟨fun h => by have := h.2; omega, fun h => ⟨hn, by omega⟩⟩
      cases ok with
      | true => exact decide_eq_true (e.1 rfl)
      | false => exact decide_eq_false fun h => by have := e.2 h; cases this
    · refine Ev.bind (near.isF hn) (Ev.no rfl (Ev.now' ?_))
      cases ok with
      | true => exact absurd (iff1.1 (g2.1 rfl)).1 hn
      | false => rfl
  have hinB : inB (c : Int) rl.size = true := inB_nat hcl
  refine ⟨c, z, paintL x y p A B, x + dxW wz, y + dyW wz, wz, paintG x y p g, ok, hz, hcol, ?_, ?_, fun h => g2.1 h, hpp⟩
  · refine Ev.step (fun k => spec_enStep.eq k rl (A ++ B) x y wy) (Ev.bind hcol (Ev.yes hinB ?_))
    rw [Int.toNat_natCast, hbt]
    refine Ev.bind (woTurn_ev _) (Ev.yes hne ?_)
    rw [eW, eP]
    refine Ev.bind (enPaint_ev C (by omega) p) (Ev.bind (enGo_ev rl _ x y wz hq hwz) (Ev.bind g1 ?_))
    cases ok with
    | true => exact Ev.no rfl (Ev.now _)
    | false => exact Ev.yes rfl (Ev.now _)
  · refine Ev.step (fun k => impl_going_step.eq k rl g x y wy) ?_
    unfold Far at hq
    have ex : w64 (x + dxW wz) = x + dxW wz := w64_of (by omega) (by omega)
    have ey : w64 (y + dyW wz) = y + dyW wz := w64_of (by omega) (by omega)
    have hget' : mget (K := (Int × Int)) (α := Int) (Sh.eqT (.pair (.int .i64) (.int .i64))) g (x, y) 0 = (c : Int) := hget
    simp only [hget', Int.toNat_natCast, hbt]
    refine Ev.yes hinB (Ev.bind (quarters_ev _) (Ev.yes hne ?_))
    rw [eW, eP]
    refine Ev.bind (going_paint_ev rl g x y wz x y p) (Ev.bind (ahead_ev wz hwz) ?_)
    dsimp only
    rw [hbt, ex, ey]
    exact Ev.yes hinB (Ev.bind isP (Ev.now _))
theorem ofBytes_app (a : List Int) (n : Int) : ofBytes a ++ ofBytes [n] = ofBytes (a ++ [n]) := by
  apply ba_ext
  rw [append_list]
  simp [ofBytes]
theorem ofBytes_size (a : List Int) : (ofBytes a).size = a.length := by
  rw [size_list]
  simp [ofBytes]
theorem sub_one' {cs : ByteArray} {i : Nat} {c : UInt8} (h : cs.data.toList[i]? = some c) : cs.extract i (i + 1) = ofBytes [(c.toNat : Int)] := by
  apply ba_ext
  obtain ⟨hlt, he⟩ := List.getElem?_eq_some_iff.1 h
  rw [extract_list, List.drop_take, show i + 1 - i = 1 by omega, List.drop_eq_getElem_cons hlt, he]
  show [c] = [UInt8.ofNat (Int.toNat (c.toNat : Int))]
  rw [Int.toNat_natCast]
  simp
theorem runs_ev (rl : ByteArray) (n : Nat) (hn : n ≤ 1000) (T : ByteArray × List Sp × Int × Int × Int) : ∀ (m i : Nat) (sp : List Sp) (x y wy : Int) (g : List (Pt × Int)) (out : List Int), i + m = n → out.length = i → PlainOk rl sp x y wy → g.Perm (sp.map ent) →
    (∃ (sp' : List Sp) (x' y' wy' : Int) (g' : List (Pt × Int)) (out' : List Int), PlainOk rl sp' x' y' wy' ∧ g'.Perm (sp'.map ent) ∧
      Ev (fun k => spec_enAfter_l k ((m : Int), (rl, sp, x, y, wy), T, ofBytes out)) (.inr ((rl, sp', x', y', wy'), T, ofBytes out')) ∧ Ev (fun k => impl_going_run_l k ((rl, g, x, y, wy), out, (n : Int), (i : Int), ())) (.inr (out', (rl, g', x', y', wy')))) ∨
    (∃ G, Ev (fun k => spec_enAfter_l k ((m : Int), (rl, sp, x, y, wy), T, ofBytes out)) (.inl (zeroP, ByteArray.empty, false)) ∧ Ev (fun k => impl_going_run_l k ((rl, g, x, y, wy), out, (n : Int), (i : Int), ())) (.inl (ByteArray.empty, false, G)))
  | 0, i, sp, x, y, wy, g, out, hi, ho, H, hg => .inl ⟨sp, x, y, wy, g, out, H, hg, Ev.step (fun k => spec_enAfter_l.eq k _ rl sp x y wy T.1 T.2.1 T.2.2.1 T.2.2.2.1 T.2.2.2.2 _) (Ev.no rfl (Ev.now _)), Ev.step (fun k => impl_going_run_l.eq k rl g x y wy out _ _) (Ev.no (not_lt_nat (by omega)) (Ev.now _))⟩
  | m + 1, i, sp, x, y, wy, g, out, hi, ho, H, hg => by
    obtain ⟨c, z, sp1, x1, y1, wy1, g1, ok, hz, hcol, hS, hI, hok, hg1⟩ := step_ev rl sp x y wy g H hg
    have hc : c < rl.size := by rw [size_list]; exact (List.getElem?_eq_some_iff.1 hz).1
    have h6 := H.1.1
    have e1 : w64 ((c : Int) + 1) = ((c + 1 : Nat) : Int) := w64_succ (by omega)
    have hb : (((decide ((0 : Int) ≤ ((c + 1 : Nat) : Int))) && (decide (((c + 1 : Nat) : Int) ≤ (rl.size : Int)))) && ((decide ((0 : Int) ≤ (c : Int))) && (decide ((c : Int) ≤ ((c + 1 : Nat) : Int))))) = true := by
      rw [decide_eq_true (by omega), decide_eq_true (by omega), decide_eq_true (by omega), decide_eq_true (by omega)]; rfl
    have e2 : w64 (((m + 1 : Nat) : Int) - 1) = (m : Int) := by rw [w64_of (by omega) (by omega)]; omega
    have goS : ∀ r, Ev (fun k => (spec_enStep k (rl, sp, x, y, wy)).bind fun r3 => cond (!r3.2) (some (.inl (zeroP, ByteArray.empty, false))) (spec_enAfter_l k ((m : Int), r3.1, T, ofBytes (out ++ [(z.toNat : Int)])))) r → Ev (fun k => spec_enAfter_l k (((m + 1 : Nat) : Int), (rl, sp, x, y, wy), T, ofBytes out)) r := fun r hr => by
      refine Ev.step (fun k => spec_enAfter_l.eq k _ rl sp x y wy T.1 T.2.1 T.2.2.1 T.2.2.2.1 T.2.2.2.2 _) (Ev.yes (decide_eq_true (by omega)) (Ev.bind hcol (Ev.bind hcol ?_)))
      rw [e1, e2]
      refine Ev.yes hb ?_
      rw [Int.toNat_natCast, Int.toNat_natCast, sub_one' hz]
      refine Ev.yes (fitS_of (by rw [ofBytes_size, ofBytes_size]; simp only [List.length_cons, List.length_nil]; omega)) ?_
      rw [ofBytes_app]
      exact hr
    have goI : ∀ r, Ev (fun k => cond (!ok) (some (.inl (ByteArray.empty, false, (rl, g1, x1, y1, wy1)))) (cond (fits (out.length + 1) 1) (impl_going_run_l k ((rl, g1, x1, y1, wy1), (out ++ [(z.toNat : Int)]), (n : Int), ((i + 1 : Nat) : Int), ())) none)) r → Ev (fun k => impl_going_run_l k ((rl, g, x, y, wy), out, (n : Int), (i : Int), ())) r := fun r hr => by
      refine Ev.step (fun k => impl_going_run_l.eq k rl g x y wy out _ _) (Ev.yes (lt_nat (by omega)) (Ev.bind hI ?_))
      rw [w64_succ (by omega)]
      exact hr
    cases ok with
    | false => exact .inr ⟨_, goS _ (Ev.bind hS (Ev.yes rfl (Ev.now _))), goI _ (Ev.yes rfl (Ev.now _))⟩
    | true =>
      have hf : fits (out.length + 1) 1 = true := fits_of (by omega)
      rcases runs_ev rl n hn T m (i + 1) sp1 x1 y1 wy1 g1 (out ++ [(z.toNat : Int)]) (by omega) (by simp; omega) (hok rfl) hg1 with ⟨sp', x', y', wy', g', out', q1, q2, q3, q4⟩ | ⟨G, q3, q4⟩
      · exact .inl ⟨sp', x', y', wy', g', out', q1, q2, goS _ (Ev.bind hS (Ev.no rfl q3)), goI _ (Ev.no rfl (Ev.yes hf q4))⟩
      · exact .inr ⟨G, goS _ (Ev.bind hS (Ev.no rfl q3)), goI _ (Ev.no rfl (Ev.yes hf q4))⟩
theorem run_ev (rl : ByteArray) (n : Nat) (hn : n ≤ 1000) (sp : List Sp) (x y wy : Int) (g : List (Pt × Int)) (H : PlainOk rl sp x y wy) (hg : g.Perm (sp.map ent)) :
    (∃ (sp' : List Sp) (x' y' wy' : Int) (g' : List (Pt × Int)) (sg : ByteArray), PlainOk rl sp' x' y' wy' ∧ g'.Perm (sp'.map ent) ∧
      Ev (fun k => spec_enAfter k ((rl, sp, x, y, wy), (n : Int))) ((rl, sp', x', y', wy'), sg, true) ∧ Ev (fun k => impl_going_run k ((rl, g, x, y, wy), (n : Int))) ((sg, true), (rl, g', x', y', wy'))) ∨
    (∃ G, Ev (fun k => spec_enAfter k ((rl, sp, x, y, wy), (n : Int))) (zeroP, ByteArray.empty, false) ∧ Ev (fun k => impl_going_run k ((rl, g, x, y, wy), (n : Int))) ((ByteArray.empty, false), G)) := by
  have e0 : ofBytes [] = ByteArray.empty := rfl
  rcases runs_ev rl n hn zeroP n 0 sp x y wy g [] (by omega) rfl H hg with ⟨sp', x', y', wy', g', out', q1, q2, q3, q4⟩ | ⟨G, q3, q4⟩
  · rw [e0] at q3
    exact .inl ⟨sp', x', y', wy', g', ofBytes out', q1, q2, Ev.step (fun k => spec_enAfter.eq k rl sp x y wy n) (Ev.bind q3 (Ev.now _)), Ev.step (fun k => impl_going_run.eq k rl g x y wy n) (Ev.bind q4 (Ev.now _))⟩
  · rw [e0] at q3
    exact .inr ⟨G, Ev.step (fun k => spec_enAfter.eq k rl sp x y wy n) (Ev.bind q3 (Ev.now _)), Ev.step (fun k => impl_going_run.eq k rl g x y wy n) (Ev.bind q4 (Ev.now _))⟩
theorem enSteps_ev (rl : ByteArray) (sp : List Sp) (x y wy n : Int) (hsp : sp.length ≤ 1048576) : EvB (fun k => spec_enSteps k ((rl, sp, x, y, wy), n)) (PlainOk rl sp x y wy ∧ (0 ≤ n ∧ n ≤ 1000)) :=
  EvB.step (fun k => spec_enSteps.eq k rl sp x y wy n) (EvB.and (enGood_ev rl sp x y wy hsp) fun _ => (l1In_ev n 0 1000).ret)
theorem isRun_ev (rl : ByteArray) (sp : List Sp) (x y wy n : Int) (hsp : sp.length ≤ 1048576) (hrl : rl.size ≤ 9223372036854775807) : EvB (fun k => impl_isRun k ((rl, sp, x, y, wy), n)) (PlainOk rl sp x y wy ∧ (0 ≤ n ∧ n ≤ 1000)) :=
  EvB.step (fun k => impl_isRun.eq k rl sp x y wy n) (EvB.and (isPlain_ev rl sp x y wy hsp hrl) fun _ => (within_ev n 0 1000).ret)
/-! ### The laws' helpers -/
end Go.Proofs.YtplamonjnlgomaaGreatDoorS
