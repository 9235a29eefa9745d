/- Plains: steps and runs. -/
import Derived.Test.YtmdgodjcfhimbaaGreatDoorPuPlain
namespace Go.Proofs.YtmdgodjcfhimbaaGreatDoorS
open Go
set_option linter.unusedVariables false
set_option linter.unusedSimpArgs false

theorem keys_of {sp : List Sp} (h : sp.Pairwise Less) : Keys (sp.map ent) := by
  unfold Keys
  rw [List.map_map]
  unfold List.Nodup
  rw [List.pairwise_map]
  exact h.imp fun {a b} hl e => by
    have e : (a.1, a.2.1) = (b.1, b.2.1) := e
    rw [Prod.mk.injEq] at e
    exact hl.ne e
theorem take_next' {α : Type} {l : List α} {j : Nat} {x : α} (h : l[j]? = some x) : l.take (j + 1) = l.take j ++ [x] := by
  rw [List.take_add_one, h]
  rfl
section
variable (rl : ByteArray) (x y wy : Int)
end
/-! ### Where a spot is -/
def isAt (x y : Int) : List Sp → Bool
  | s :: _ => s.1 == x && s.2.1 == y
  | [] => false
def restB (x y : Int) (B : List Sp) : List Sp := if isAt x y B then B.tail else B
def colB (x y : Int) : List Sp → Int
  | s :: B => if isAt x y (s :: B) then s.2.2 else 0
  | [] => 0
theorem colB_cons (x y : Int) (s : Sp) (B : List Sp) : colB x y (s :: B) = if isAt x y (s :: B) then s.2.2 else 0 := rfl
theorem isAt_cons (x y : Int) (s : Sp) (B : List Sp) : isAt x y (s :: B) = (s.1 == x && s.2.1 == y) := rfl
theorem restB_len (x y : Int) (B : List Sp) : (restB x y B).length ≤ B.length := by
  unfold restB
  split
  · rw [List.length_tail]; omega
  · exact Nat.le_refl _
structure Cut (x y : Int) (A B : List Sp) : Prop where
  lo : ∀ s ∈ A, Less s (x, (y, 0))
  hi : ∀ s ∈ B, ¬ Less s (x, (y, 0))
  srt : (A ++ B).Pairwise Less
theorem Cut.rest {x y : Int} {A B : List Sp} (C : Cut x y A B) : ∀ s ∈ restB x y B, Less (x, (y, 0)) s := by
  intro t ht
  have hs := (List.pairwise_append.1 C.srt).2.1
  cases B with
  | nil => unfold restB at ht; simp [isAt] at ht
  | cons s B =>
    obtain ⟨h1, h2⟩ := List.pairwise_cons.1 hs
    cases hi : isAt x y (s :: B) with
    | true =>
      have hi' : (s.1 == x && s.2.1 == y) = true := hi
      rw [Bool.and_eq_true, beq_iff_eq, beq_iff_eq] at hi'
      unfold restB at ht
      rw [hi, if_pos rfl] at ht
      have hl := h1 t ht
      unfold Less at hl ⊢
      simp only
      omega
    | false =>
      have hi' : ¬ (s.1 = x ∧ s.2.1 = y) := fun h => by
        have : isAt x y (s :: B) = true := by show (s.1 == x && s.2.1 == y) = true; rw [Bool.and_eq_true, beq_iff_eq, beq_iff_eq]; exact h
        rw [hi] at this
        cases this
      unfold restB at ht
      rw [hi, if_neg (by simp)] at ht
      have h0 : Less (x, (y, 0)) s := less_total (C.hi s (by simp)) hi'
      rcases List.mem_cons.1 ht with rfl | ht
      · exact h0
      · exact h0.trans (h1 t ht)
theorem Cut.ents {x y : Int} {A B : List Sp} (C : Cut x y A B) : (A ++ B).map ent = A.map ent ++ ((if isAt x y B then [((x, y), colB x y B)] else []) ++ (restB x y B).map ent) := by
  rw [List.map_append]
  congr 1
  cases B with
  | nil => rfl
  | cons s B =>
    cases hi : isAt x y (s :: B) with
    | true =>
      have hi' : (s.1 == x && s.2.1 == y) = true := hi
      rw [Bool.and_eq_true, beq_iff_eq, beq_iff_eq] at hi'
      unfold restB
      rw [colB_cons, hi, if_pos rfl, if_pos rfl, if_pos rfl]
      show ent s :: B.map ent = ((x, y), s.2.2) :: B.map ent
      unfold ent
      rw [hi'.1, hi'.2]
    | false =>
      unfold restB
      rw [hi, if_neg (by simp), if_neg (by simp)]
      rfl
theorem Cut.keyA {x y : Int} {A B : List Sp} (C : Cut x y A B) : ∀ e ∈ A.map ent, (x, y) ≠ e.1 := by
  intro e he
  obtain ⟨s, hs, rfl⟩ := List.mem_map.1 he
  intro h
  have h : (x, y) = (s.1, s.2.1) := h
  rw [Prod.mk.injEq] at h
  exact (C.lo s hs).ne ⟨h.1.symm, h.2.symm⟩
theorem Cut.keyR {x y : Int} {A B : List Sp} (C : Cut x y A B) : ∀ e ∈ (restB x y B).map ent, (x, y) ≠ e.1 := by
  intro e he
  obtain ⟨s, hs, rfl⟩ := List.mem_map.1 he
  intro h
  have h : (x, y) = (s.1, s.2.1) := h
  rw [Prod.mk.injEq] at h
  exact (C.rest s hs).ne h
theorem Cut.filt {x y : Int} {A B : List Sp} (C : Cut x y A B) : ((A ++ B).map ent).filter (fun e => !pe (x, y) e.1) = A.map ent ++ (restB x y B).map ent := by
  rw [C.ents, List.filter_append, List.filter_append]
  have f1 : (A.map ent).filter (fun e => !pe (x, y) e.1) = A.map ent := List.filter_eq_self.2 fun e he => by rw [pe_false (C.keyA e he)]; rfl
  have f2 : ((restB x y B).map ent).filter (fun e => !pe (x, y) e.1) = (restB x y B).map ent := List.filter_eq_self.2 fun e he => by rw [pe_false (C.keyR e he)]; rfl
  rw [f1, f2]
  cases isAt x y B with
  | true => rw [if_pos rfl, List.filter_cons, pe_self]; rfl
  | false => rfl
theorem Cut.noR {x y : Int} {A B : List Sp} (C : Cut x y A B) : (x, y) ∉ (A.map ent ++ (restB x y B).map ent).map Prod.fst := by
  intro h
  obtain ⟨e, he, h⟩ := List.mem_map.1 h
  rcases List.mem_append.1 he with he | he
  · exact C.keyA e he h.symm
  · exact C.keyR e he h.symm
theorem Cut.col {x y : Int} {A B : List Sp} (C : Cut x y A B) : Col ((A ++ B).map ent) (x, y) (colB x y B) := by
  cases hi : isAt x y B with
  | true =>
    refine .inl ?_
    rw [C.ents, hi, if_pos rfl]
    simp
  | false =>
    refine .inr ⟨?_, ?_⟩
    · cases B with
      | nil => rfl
      | cons s B => rw [colB_cons, hi]; rfl
    · rw [C.ents, hi, if_neg (by simp), List.nil_append]
      exact C.noR
theorem Cut.range {t x y : Int} {A B : List Sp} (ht : 1 ≤ t) (h : ∀ s ∈ A ++ B, SpotOk t s) : 0 ≤ colB x y B ∧ colB x y B ≤ t - 1 := by
  cases B with
  | nil => exact ⟨Int.le_refl _, by show (0 : Int) ≤ _; omega⟩
  | cons s B =>
    have := (h s (by simp)).2
    rw [colB_cons]
    split
    · omega
    · omega
theorem cut_ex (x y : Int) {sp : List Sp} (h : sp.Pairwise Less) : ∃ A B, sp = A ++ B ∧ Cut x y A B := by
  obtain ⟨A, B, rfl, h1, h2⟩ := split_at (x, (y, 0)) sp h
  exact ⟨A, B, rfl, h1, h2, h⟩
theorem enAt_ev {x y : Int} {A B : List Sp} (C : Cut x y A B) (hl : (A ++ B).length ≤ 1048576) : Ev (fun k => spec_enAt k (A ++ B, x, y)) ((A.length : Int), isAt x y B) := by
  have hL : (A ++ B).length = A.length + B.length := List.length_append
  have loop : ∀ (n lo hi : Nat), hi - lo ≤ n → lo ≤ A.length → A.length ≤ hi → hi ≤ (A ++ B).length → Ev (fun k => spec_enAt_l k (A ++ B, x, y, (lo : Int), (hi : Int))) (A ++ B, x, y, (A.length : Int)) := by
    intro n
    induction n with
    | zero =>
      intro lo hi h1 h2 h3 h4
      exact Ev.step (fun k => spec_enAt_l.eq k (A ++ B) x y lo hi) (Ev.no (not_lt_nat (by omega)) (Ev.now' (by rw [show lo = A.length by omega])))
    | succ n ih =>
      intro lo hi h1 h2 h3 h4
      by_cases hlt : lo < hi
      rotate_left
      · exact Ev.step (fun k => spec_enAt_l.eq k (A ++ B) x y lo hi) (Ev.no (not_lt_nat (by omega)) (Ev.now' (by rw [show lo = A.length by omega])))
      have e : w64 ((w64 ((lo : Int) + (hi : Int))).tdiv 2) = (((lo + hi) / 2 : Nat) : Int) := by
        rw [w64_of (n := (lo : Int) + (hi : Int)) (by omega) (by omega), Int.tdiv_eq_ediv_of_nonneg (by omega), w64_of (by omega) (by omega)]
        omega
      obtain ⟨mid, hmid⟩ : ∃ mid, mid = (lo + hi) / 2 := ⟨_, rfl⟩
      rw [← hmid] at e
      obtain ⟨s, hs⟩ := nat_list (l := A ++ B) (i := mid) (by omega)
      refine Ev.step (fun k => spec_enAt_l.eq k (A ++ B) x y lo hi) (Ev.yes (lt_nat hlt) ?_)
      rw [e]
      refine Ev.yes (inB_nat (by omega)) ?_
      rw [Int.toNat_natCast, getD_at hs]
      by_cases hm : mid < A.length
      · have hA : s ∈ A := by
          rw [List.getElem?_append_left hm] at hs
          exact List.mem_of_getElem? hs
        refine Ev.bind ((enLess_ev s _).isT (C.lo s hA)) (Ev.yes rfl ?_)
        rw [w64_succ (by omega)]
        exact ih (mid + 1) hi (by omega) (by omega) h3 h4
      · have hB : s ∈ B := by
          rw [List.getElem?_append_right (by omega)] at hs
          exact List.mem_of_getElem? hs
        exact Ev.bind ((enLess_ev s _).isF (C.hi s hB)) (Ev.no rfl (ih lo mid (by omega) h2 (by omega) (by omega)))
  refine Ev.step (fun k => spec_enAt.eq k (A ++ B) x y) (Ev.bind (loop _ 0 (A ++ B).length (Nat.le_refl _) (by omega) (by omega) (Nat.le_refl _)) ?_)
  dsimp only
  cases B with
  | nil => exact Ev.no (not_lt_nat (by simp)) (Ev.now _)
  | cons s B =>
    have hs : (A ++ s :: B)[A.length]? = some s := by rw [List.getElem?_append_right (Nat.le_refl _), Nat.sub_self]; rfl
    have hlt : A.length < (A ++ s :: B).length := by simp
    refine Ev.yes (lt_nat hlt) (Ev.yes (inB_nat hlt) ?_)
    rw [Int.toNat_natCast, getD_at hs]
    rw [isAt_cons]
    cases hx : (s.1 == x) with
    | true => exact Ev.yes rfl (Ev.yes (inB_nat hlt) (Ev.now _))
    | false => exact Ev.no rfl (Ev.now _)
def paintL (x y p : Int) (A B : List Sp) : List Sp := A ++ ((if 0 < p then [(x, (y, p))] else []) ++ restB x y B)
theorem enPaint_ev {x y : Int} {A B : List Sp} (C : Cut x y A B) (hl : (A ++ B).length ≤ 1048576) (p : Int) : Ev (fun k => spec_enPaint k (A ++ B, x, y, p)) (paintL x y p A B) := by
  have hL : (A ++ B).length = A.length + B.length := List.length_append
  have tk : (A ++ B).take A.length = A := List.take_left
  have dr : ((A ++ B).drop A.length).take ((A ++ B).length - A.length) = B := by rw [List.drop_left]; exact List.take_of_length_le (by omega)
  have dr1 : ((A ++ B).drop (A.length + 1)).take ((A ++ B).length - (A.length + 1)) = B.tail := by
    rw [← List.drop_drop, List.drop_left, List.drop_one]
    exact List.take_of_length_le (by rw [List.length_tail]; omega)
  have b0 : ((decide ((0 : Int) ≤ (A.length : Int))) && (decide ((A.length : Int) ≤ ((A ++ B).length : Int)))) = true := by
    rw [decide_eq_true (by omega), decide_eq_true (by omega)]; rfl
  have e1 : w64 ((A.length : Int) + 1) = ((A.length + 1 : Nat) : Int) := w64_succ (by omega)
  have hne : isAt x y B = true → 1 ≤ B.length := fun h => by
    cases B with
    | nil => cases h
    | cons s B => simp
  have b1 : isAt x y B = true → ((decide ((0 : Int) ≤ ((A.length + 1 : Nat) : Int))) && (decide (((A.length + 1 : Nat) : Int) ≤ ((A ++ B).length : Int)))) = true := fun h => by
    have := hne h
    rw [decide_eq_true (by omega), decide_eq_true (by omega)]; rfl
  have lt := List.length_tail (l := B)
  refine Ev.step (fun k => spec_enPaint.eq k (A ++ B) x y p) (Ev.bind (enAt_ev C hl) (Ev.yes b0 ?_))
  dsimp only
  simp only [Int.toNat_natCast, e1, tk, dr, dr1, List.nil_append]
  refine Ev.yes (fits_of (by omega)) ?_
  unfold paintL restB
  by_cases hp : 0 < p
  · rw [if_pos hp]
    refine Ev.yes (decide_eq_true hp) (Ev.yes (fits_of (by omega)) ?_)
    cases hi : isAt x y B with
    | true => exact Ev.yes rfl (Ev.yes (b1 hi) (Ev.yes (fits_of (by rw [List.length_append]; simp only [List.length_cons, List.length_nil]; omega)) (Ev.now' (by rw [if_pos rfl, List.append_assoc]))))
    | false => exact Ev.no rfl (Ev.yes b0 (Ev.yes (fits_of (by rw [List.length_append]; simp only [List.length_cons, List.length_nil]; omega)) (Ev.now' (by rw [if_neg (by simp), List.append_assoc]))))
  · rw [if_neg hp]
    refine Ev.no (decide_eq_false (by omega)) ?_
    cases hi : isAt x y B with
    | true => exact Ev.yes rfl (Ev.yes (b1 hi) (Ev.yes (fits_of (by omega)) (Ev.now' (by rw [if_pos rfl, List.nil_append]))))
    | false => exact Ev.no rfl (Ev.yes b0 (Ev.yes (fits_of (by omega)) (Ev.now' (by rw [if_neg (by simp), List.nil_append]))))
/-! ### Painting -/
theorem paint_spots {t x y p : Int} {A B : List Sp} (C : Cut x y A B) (h : ∀ s ∈ A ++ B, SpotOk t s) (hq : Far x ∧ Far y) (hp : 0 ≤ p ∧ p ≤ t - 1) : SpotsOk t (paintL x y p A B) := by
  have hR : ∀ s ∈ restB x y B, s ∈ B := fun s hs => by
    unfold restB at hs
    split at hs
    · exact List.mem_of_mem_tail hs
    · exact hs
  have hm : ∀ s ∈ (if 0 < p then [(x, (y, p))] else []), s = (x, (y, p)) ∧ 0 < p := fun s hs => by
    split at hs
    · rename_i h0
      exact ⟨by simpa using hs, h0⟩
    · cases hs
  obtain ⟨s1, s2, s3⟩ := List.pairwise_append.1 C.srt
  constructor
  · intro s hs
    unfold paintL at hs
    rcases List.mem_append.1 hs with hs | hs
    · exact h s (List.mem_append_left _ hs)
    · rcases List.mem_append.1 hs with hs | hs
      · obtain ⟨rfl, h0⟩ := hm s hs
        exact ⟨hq, by show 1 ≤ p ∧ p ≤ t - 1; omega⟩
      · exact h s (List.mem_append_right _ (hR s hs))
  · unfold paintL
    refine List.pairwise_append.2 ⟨s1, List.pairwise_append.2 ⟨?_, ?_, ?_⟩, ?_⟩
    · split
      · exact List.pairwise_singleton _ _
      · exact List.Pairwise.nil
    · unfold restB
      split
      · exact s2.sublist (List.tail_sublist B)
      · exact s2
    · intro a ha b hb
      obtain ⟨rfl, _⟩ := hm a ha
      exact C.rest b hb
    · intro a ha b hb
      rcases List.mem_append.1 hb with hb | hb
      · obtain ⟨rfl, _⟩ := hm b hb
        exact C.lo a ha
      · exact s3 a ha b (hR b hb)
def paintG (x y p : Int) (g : List (Pt × Int)) : List (Pt × Int) := if 0 < p then mput pe (mdel pe g (x, y)) (x, y) p else mdel pe g (x, y)
theorem paint_perm {x y p : Int} {A B : List Sp} (C : Cut x y A B) {g : List (Pt × Int)} (hg : g.Perm ((A ++ B).map ent)) : (paintG x y p g).Perm ((paintL x y p A B).map ent) := by
  have hk : Keys g := (keys_of C.srt).perm hg.symm
  have hd : (mdel pe g (x, y)).Perm (A.map ent ++ (restB x y B).map ent) := by
    rw [mdel_filter _ hk, ← C.filt]
    exact hg.filter _
  unfold paintG paintL
  by_cases hp : 0 < p
  · rw [if_pos hp, if_pos hp]
    have hn : (x, y) ∉ (mdel pe g (x, y)).map Prod.fst := fun h => C.noR ((hd.map Prod.fst).mem_iff.1 h)
    rw [mput_new _ _ hn, List.map_append, List.map_append]
    refine (hd.append_right _).trans ?_
    rw [List.append_assoc]
    exact List.Perm.append_left _ List.perm_append_comm
  · rw [if_neg hp, if_neg hp, List.nil_append, List.map_append]
    exact hd
abbrev zeroP : ByteArray × List Sp × Int × Int × Int := (ByteArray.empty, [], 0, 0, 0)
theorem ofBytes_app (a : List Int) (n : Int) : ofBytes a ++ ofBytes [n] = ofBytes (a ++ [n]) := by
  apply ba_ext
  rw [append_list]
  simp [ofBytes]
theorem ofBytes_size (a : List Int) : (ofBytes a).size = a.length := by
  rw [size_list]
  simp [ofBytes]
theorem sub_one' {cs : ByteArray} {i : Nat} {c : UInt8} (h : cs.data.toList[i]? = some c) : cs.extract i (i + 1) = ofBytes [(c.toNat : Int)] := by
  apply ba_ext
  obtain ⟨hlt, he⟩ := List.getElem?_eq_some_iff.1 h
  rw [extract_list, List.drop_take, show i + 1 - i = 1 by omega, List.drop_eq_getElem_cons hlt, he]
  show [c] = [UInt8.ofNat (Int.toNat (c.toNat : Int))]
  rw [Int.toNat_natCast]
  simp
/-! ### The laws' helpers -/
theorem szPlain_ev (rl : ByteArray) (sp : List Sp) (x y wy : Int) (h1 : rl.size ≤ 9223372036854775807) (h2 : sp.length ≤ 9223372036854775807) : ∃ r, Ev (fun k => laws_szPlain k ((rl, sp, x, y, wy), 1048576)) r ∧ (r < 0 ∨ sp.length ≤ 1048576) := by
  have e1 := w64_of (n := 1048576 - (rl.size : Int)) (by omega) (by omega)
  by_cases c1 : (1048576 : Int) - (rl.size : Int) < 0
  · exact ⟨-1, Ev.step (fun k => laws_szPlain.eq k rl sp x y wy 1048576) (Ev.yes (decide_eq_true (by rw [e1]; exact c1)) (Ev.now _)), .inl (by omega)⟩
  · have e2 := w64_of (n := 1048576 - (rl.size : Int) - (sp.length : Int)) (by omega) (by omega)
    have go : ∀ v r, Ev (fun k => laws_szSpotS k (sp, 1048576 - (rl.size : Int))) v → Ev (fun k => cond (decide (v < 0)) (some (-1)) (some v)) r → Ev (fun k => laws_szPlain k ((rl, sp, x, y, wy), 1048576)) r := fun v r hv Hr => by
      refine Ev.step (fun k => laws_szPlain.eq k rl sp x y wy 1048576) (Ev.no (decide_eq_false (by rw [e1]; exact c1)) ?_)
      rw [e1]
      exact Ev.bind hv Hr
    by_cases c2 : (1048576 : Int) - (rl.size : Int) - (sp.length : Int) < 0
    · exact ⟨-1, go (-1) _ (Ev.step (fun k => laws_szSpotS.eq k sp _) (Ev.yes (decide_eq_true (by rw [e2]; exact c2)) (Ev.now _))) (Ev.yes rfl (Ev.now _)), .inl (by omega)⟩
    · exact ⟨_, go _ _ (Ev.step (fun k => laws_szSpotS.eq k sp _) (Ev.no (decide_eq_false (by rw [e2]; exact c2)) (Ev.now' e2))) (Ev.no (decide_eq_false c2) (Ev.now _)), .inr (by omega)⟩
theorem toSpotS_l_ev (a : List Sp) (hl : a.length ≤ 1048576) : ∀ (m i : Nat) (out : List Sp), i + m = a.length → out.length = a.length → (∀ j, j < i → out[j]? = a[j]?) → Ev (fun k => laws_toSpotS_l k (a, out, (i : Int))) a
  | 0, i, out, h, ho, he => Ev.step (fun k => laws_toSpotS_l.eq k a out i) (Ev.no (not_lt_nat (by omega)) (Ev.now' (List.ext_getElem? fun j => by
      by_cases hj : j < i
      · exact he j hj
      · rw [List.getElem?_eq_none (by omega), List.getElem?_eq_none (by omega)])))
  | m + 1, i, out, h, ho, he => by
    obtain ⟨x, hx⟩ := nat_list (l := a) (i := i) (by omega)
    refine Ev.step (fun k => laws_toSpotS_l.eq k a out i) (Ev.yes (lt_nat (by omega)) (Ev.yes (inB_nat (by omega)) ?_))
    rw [Int.toNat_natCast, getD_at hx]
    refine Ev.bind (a := x) (Ev.step (fun k => laws_toSpot.eq k x.1 x.2.1 x.2.2) (Ev.now _)) (Ev.yes (inB_nat (by omega)) ?_)
    rw [w64_succ (by omega)]
    refine toSpotS_l_ev a hl m (i + 1) _ (by omega) (by rw [List.length_set]; exact ho) fun j hj => ?_
    rw [List.getElem?_set]
    split
    · rename_i e
      subst e
      rw [if_pos (by omega), hx]
    · exact he j (by omega)
theorem toPlain_ev (rl : ByteArray) (a : List Sp) (x y wy : Int) (hl : a.length ≤ 1048576) : Ev (fun k => laws_toPlain k (rl, a, x, y, wy)) (rl, a, x, y, wy) := by
  refine Ev.step (fun k => laws_toPlain.eq k rl a x y wy) (Ev.bind (a := a) (Ev.step (fun k => laws_toSpotS.eq k a) (Ev.yes ?_ (Ev.bind (toSpotS_l_ev a hl a.length 0 _ (by omega) ?_ fun j hj => by omega) (Ev.now _)))) (Ev.now _))
  · rw [fits_of (by rw [Int.toNat_natCast]; omega)]
    simp
  · rw [List.length_replicate, Int.toNat_natCast]
theorem eqPlain_ev (rl : ByteArray) (a : List Sp) (x y wy : Int) (hl : a.length ≤ 1048576) : Ev (fun k => laws_eqPlain k ((rl, a, x, y, wy), (rl, a, x, y, wy))) true := by
  have loop : ∀ (m i : Nat), i + m = a.length → Ev (fun k => laws_eqSpotS_l k (a, a, (i : Int))) (.inr ()) := by
    intro m
    induction m with
    | zero => intro i h; exact Ev.step (fun k => laws_eqSpotS_l.eq k a a i) (Ev.no (not_lt_nat (by omega)) (Ev.now _))
    | succ m ih =>
      intro i h
      refine Ev.step (fun k => laws_eqSpotS_l.eq k a a i) (Ev.yes (lt_nat (by omega)) (Ev.yes (inB_nat (by omega)) (Ev.yes (inB_nat (by omega)) ?_)))
      generalize a.getD (i : Int).toNat default = x
      refine Ev.bind (a := true) (Ev.step (fun k => laws_eqSpot.eq k x.1 x.2.1 x.2.2 x.1 x.2.1 x.2.2) (Ev.no (neq_self _) (Ev.no (neq_self _) (Ev.no (neq_self _) (Ev.now _))))) (Ev.no rfl ?_)
      rw [w64_succ (by omega)]
      exact ih (i + 1) (by omega)
  exact Ev.step (fun k => laws_eqPlain.eq k rl a x y wy rl a x y wy) (Ev.no (by rw [strEq_self]; rfl) (Ev.bind (Ev.step (fun k => laws_eqSpotS.eq k a a) (Ev.no (neq_self _) (Ev.bind (loop a.length 0 (by omega)) (Ev.now _)))) (Ev.no rfl (Ev.no (neq_self _) (Ev.no (neq_self _) (Ev.no (neq_self _) (Ev.now _)))))))
end Go.Proofs.YtmdgodjcfhimbaaGreatDoorS
