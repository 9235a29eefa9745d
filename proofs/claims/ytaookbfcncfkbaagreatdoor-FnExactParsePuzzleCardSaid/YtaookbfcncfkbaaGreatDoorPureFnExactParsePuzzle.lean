/- The plain law FnExactParsePuzzle. -/
import Derived.Test.YtaookbfcncfkbaaGreatDoorOk
import Derived.Test.YtaookbfcncfkbaaGreatDoorPuPuz4
import Derived.Test.YtaookbfcncfkbaaGreatDoorPuFields
namespace Go.Proofs.YtaookbfcncfkbaaGreatDoor.fnExactParsePuzzle
open Go Go.Proofs Go.Proofs.YtaookbfcncfkbaaGreatDoorS
set_option linter.unusedVariables false
set_option linter.unusedSimpArgs false
abbrev Pz := ByteArray × Int × Int × List Cl
abbrev zero : Pz := (ByteArray.empty, 0, 0, [])
theorem three {α : Type} {l : List α} (h : l.length = 3) : ∃ a b c, l = [a, b, c] := by
  match l, h with
  | [a, b, c], _ => exact ⟨a, b, c, rfl⟩
theorem two {α : Type} {l : List α} (h : l.length = 2) : ∃ a b, l = [a, b] := by
  match l, h with
  | [a, b], _ => exact ⟨a, b, rfl⟩
theorem len_ne {n m : Nat} (h : n ≠ m) : ((n : Int) != (m : Int)) = true := by rw [bne_iff_ne]; omega
theorem isNum_dec {n : Nat} {v : Int} (hn : n ≤ 999999) (h : IsNum (decS n) v) : v = n := by
  rcases h with ⟨m, _, h1, h2⟩ | ⟨h, _⟩
  · rw [h2, decS_inj h1]
  · exact absurd rfl (h n hn)
theorem strEq_ne {x y : ByteArray} (h : x ≠ y) : strEq x y = false := by
  cases e : strEq x y
  · rfl
  · exact absurd (strEq_iff.1 e) h
abbrev InR (c : Cl) : Prop := (0 ≤ c.1 ∧ c.1 ≤ 4) ∧ (0 ≤ c.2.1 ∧ c.2.1 ≤ 100) ∧ (0 ≤ c.2.2 ∧ c.2.2 ≤ 100)
theorem clueT_join (c : Cl) : clueT c = joinB [decS c.1.toNat, decS c.2.1.toNat, decS c.2.2.toNat] (bs [46]) := by
  apply ba_ext
  unfold clueT
  simp only [joinB, mkS_list, append_list, List.map_cons, List.map_nil, Lib.join_cons, Lib.joinTail, decS_list]
  simp [bs]
theorem clueT_split (c : Cl) : splitS 46 (clueT c) = [decS c.1.toNat, decS c.2.1.toNat, decS c.2.2.toNat] := by
  rw [clueT_join]
  refine splitS_joined 46 _ (by simp) fun x hx => ?_
  simp only [List.mem_cons, List.not_mem_nil, or_false] at hx
  rcases hx with rfl | rfl | rfl <;> exact dec_free _ 46 (by decide)
theorem clueT_byte (c : Cl) : ∀ b ∈ (clueT c).data.toList, b.toNat = 46 ∨ (48 ≤ b.toNat ∧ b.toNat ≤ 57) := by
  intro b hb
  unfold clueT at hb
  simp only [append_list, List.mem_append] at hb
  have d : ∀ n, b ∈ (decS n).data.toList → (48 ≤ b.toNat ∧ b.toNat ≤ 57) := fun n h => (dec_canon n).1 b h
  have p : b ∈ (bs [46]).data.toList → b.toNat = 46 := fun h => by
    have h : b ∈ ([46] : List UInt8) := h
    rw [List.mem_singleton.1 h]
    rfl
  rcases hb with (((h | h) | h) | h) | h
  · exact .inr (d _ h)
  · exact .inl (p h)
  · exact .inr (d _ h)
  · exact .inl (p h)
  · exact .inr (d _ h)
theorem clueT_good (c : Cl) : GoodP (clueT c) := by
  refine ⟨?_, fun b hb => by have := clueT_byte c b hb; omega⟩
  have : (bs [46]).size = 1 := rfl
  unfold clueT
  simp only [ByteArray.size_append, this]
  omega
theorem join_mem (c : UInt8) : ∀ (T : List (List UInt8)) (b : UInt8), b ∈ Lib.join T [c] → b = c ∨ ∃ x ∈ T, b ∈ x
  | [], b, h => by simp [Lib.join] at h
  | [x], b, h => by rw [Lib.join_one] at h; exact .inr ⟨x, by simp, h⟩
  | x :: y :: r, b, h => by
    have e : Lib.join (x :: y :: r) [c] = x ++ c :: Lib.join (y :: r) [c] := by
      rw [Lib.join_cons, Lib.join_cons]
      simp [Lib.joinTail]
    rw [e, List.mem_append, List.mem_cons] at h
    rcases h with h | h | h
    · exact .inr ⟨x, by simp, h⟩
    · exact .inl h
    · rcases join_mem c (y :: r) b h with h | ⟨z, hz, h⟩
      · exact .inl h
      · exact .inr ⟨z, List.mem_cons_of_mem _ hz, h⟩
/-! ### The text of a puzzle, cut up -/
theorem puzT_split (rl : ByteArray) (w h : Int) (cl : List Cl) (H : PuzOk rl w h cl) : splitS 58 (puzT rl w h cl) = [rl, decS w.toNat ++ bs [120] ++ decS h.toNat, joinB (cl.map clueT) (bs [44])] := by
  have e : puzT rl w h cl = joinB [rl, decS w.toNat ++ bs [120] ++ decS h.toNat, joinB (cl.map clueT) (bs [44])] (bs [58]) := by
    apply ba_ext
    unfold puzT
    simp only [append_list]
    generalize (joinB (cl.map clueT) (bs [44])) = J
    simp only [joinB, mkS_list, append_list, List.map_cons, List.map_nil, Lib.join_cons, Lib.joinTail, decS_list]
    simp [bs]
  rw [e]
  refine splitS_joined 58 _ (by simp) fun x hx hc => ?_
  simp only [List.mem_cons, List.not_mem_nil, or_false] at hx
  rcases hx with rfl | rfl | rfl
  · rcases H.1.1.2 _ hc with q | q | q | q <;> exact absurd q (by decide)
  · simp only [append_list, List.mem_append] at hc
    rcases hc with (hc | hc) | hc
    · exact dec_free _ 58 (by decide) hc
    · have hc : (58 : UInt8) ∈ ([120] : List UInt8) := hc
      exact absurd hc (by decide)
    · exact dec_free _ 58 (by decide) hc
  · have hc : (58 : UInt8) ∈ Lib.join ((cl.map clueT).map (·.data.toList)) [44] := hc
    rcases join_mem 44 _ _ hc with q | ⟨x, hx, q⟩
    · exact absurd q (by decide)
    · obtain ⟨y, hy, rfl⟩ := List.mem_map.1 hx
      obtain ⟨c, _, rfl⟩ := List.mem_map.1 hy
      have := clueT_byte c _ q
      revert this
      decide
theorem mid_split (w h : Nat) : splitS 120 (decS w ++ bs [120] ++ decS h) = [decS w, decS h] := by
  have e : decS w ++ bs [120] ++ decS h = joinB [decS w, decS h] (bs [120]) := by
    apply ba_ext
    simp only [joinB, mkS_list, append_list, List.map_cons, List.map_nil, Lib.join_cons, Lib.joinTail, decS_list]
    simp [bs]
  rw [e]
  refine splitS_joined 120 _ (by simp) fun x hx => ?_
  simp only [List.mem_cons, List.not_mem_nil, or_false] at hx
  rcases hx with rfl | rfl <;> exact dec_free _ 120 (by decide)
theorem clues_split (cl : List Cl) (hne : cl ≠ []) : splitS 44 (joinB (cl.map clueT) (bs [44])) = cl.map clueT := by
  refine splitS_joined 44 _ (by simpa using hne) fun x hx hc => ?_
  obtain ⟨c, _, rfl⟩ := List.mem_map.1 hx
  have := clueT_byte c _ hc
  revert this
  decide
theorem puzT_size (rl : ByteArray) (w h : Int) (cl : List Cl) (H : PuzOk rl w h cl) : (puzT rl w h cl).size ≤ 100 ∧ ∀ c ∈ cl, InR c := by
  obtain ⟨h1, h2, h3⟩ := id H
  have hr := h1.1.1
  have hR : ∀ c ∈ cl, InR c := fun c hc => clueOk_range (h3 c hc) (by omega) h1.2.2.2.1
  refine ⟨?_, hR⟩
  have d1 : ∀ n : Nat, n < 10 → (decS n).size = 1 := fun n hn => by rw [size_list, decS_list, dec_small hn]; rfl
  have d3 : ∀ n : Nat, n < 1000 → (decS n).size ≤ 3 := fun n hn => by rw [size_list, decS_list]; exact (dec_len 2 n hn).2
  have z46 : (bs [46]).size = 1 := rfl
  have z44 : (bs [44]).size = 1 := rfl
  have z58 : (bs [58]).size = 1 := rfl
  have z120 : (bs [120]).size = 1 := rfl
  have hw := h1.2.1
  have hh := h1.2.2.1
  have hb := d1 w.toNat (by omega)
  have hb2 := d1 h.toNat (by omega)
  have js := joinB_size (bs [44]) 10 (cl.map clueT) fun x hx => by
    obtain ⟨c, hc, rfl⟩ := List.mem_map.1 hx
    obtain ⟨q1, q2, q3⟩ := hR c hc
    have e1 := d1 c.1.toNat (by omega)
    have e2 := d3 c.2.1.toNat (by omega)
    have e3 := d3 c.2.2.toNat (by omega)
    unfold clueT
    simp only [ByteArray.size_append, z46, z44]
    omega
  rw [List.length_map] at js
  unfold puzT
  simp only [ByteArray.size_append, z58, z120]
  omega
/-! ### The implementation -/
theorem nums_any (x : ByteArray) (c : UInt8) (many : Nat) (most : Int) (hs : x.size ≤ 1048576) (hm : many ≤ 100) (hmost : most ≤ 999999) : ∃ (l : List Int) (b : Bool), l.length = many ∧ Ev (fun k => impl_numbers k (x, bs [c], (many : Int), most)) (l, b) ∧
    ∀ ns : List Nat, ns.length = many → (∀ n ∈ ns, (n : Int) ≤ most) → splitS c x = ns.map decS → l = ns.map (fun n : Nat => (n : Int)) ∧ b = true := by
  rcases numbers_ev x c many most hs hm hmost with ⟨ns, g1, g2⟩ | ⟨g1, g2⟩
  · refine ⟨_, _, by rw [List.length_map]; exact g1.1, g2, fun ns' q1 q2 q3 => ⟨?_, rfl⟩⟩
    have e : ns.map decS = ns'.map decS := g1.2.2.symm.trans q3
    have e2 : ns = ns' := by
      have : ∀ (a b : List Nat), a.map decS = b.map decS → a = b := by
        intro a
        induction a with
        | nil => intro b hb; cases b with
          | nil => rfl
          | cons y b => cases hb
        | cons y a ih => intro b hb; cases b with
          | nil => cases hb
          | cons z b =>
            rw [List.map_cons, List.map_cons, List.cons.injEq] at hb
            rw [decS_inj hb.1, ih b hb.2]
      exact this _ _ e
    rw [e2]
  · exact ⟨_, _, by simp, g2, fun ns' q1 q2 q3 => absurd ⟨q1, q2, q3⟩ (g1 ns')⟩
theorem implLoop (s rl : ByteArray) (w h : Int) (L : List ByteArray) (hL : ∀ x ∈ L, x.size ≤ 1048576) (hl : L.length ≤ 1048577) : ∀ (m i : Nat) (ok : Bool) (cl : List Cl), i + m = L.length → cl.length = i →
    ∃ (ok' : Bool) (cl' : List Cl), Ev (fun k => impl_ParsePuzzle_l k (s, zero, ok, (rl, w, h, cl), L, (L.length : Int), (i : Int))) (s, zero, ok', (rl, w, h, cl')) ∧ cl'.length = L.length ∧ ∀ cl0 : List Cl, L.drop i = cl0.map clueT → (∀ c ∈ cl0, InR c) → ok' = ok ∧ cl' = cl ++ cl0 := by
  intro m
  induction m with
  | zero =>
    intro i ok cl hi hc
    refine ⟨ok, cl, Ev.step (fun k => impl_ParsePuzzle_l.eq k s _ _ _ _ ok rl w h cl L _ _) (Ev.no (not_lt_nat (by omega)) (Ev.now _)), by omega, fun cl0 e _ => ⟨rfl, ?_⟩⟩
    rw [List.drop_of_length_le (by omega)] at e
    have : cl0 = [] := List.map_eq_nil_iff.1 e.symm
    rw [this, List.append_nil]
  | succ m ih =>
    intro i ok cl hi hc
    obtain ⟨x, hx⟩ := nat_list (l := L) (i := i) (by omega)
    obtain ⟨l, b, z, g, gx⟩ := nums_any x 46 3 100 (hL x (List.mem_of_getElem? hx)) (by omega) (by omega)
    obtain ⟨u1, u2, u3, rfl⟩ := three z
    obtain ⟨ok', cl', g1, g2, g3⟩ := ih (i + 1) (ok && b) (cl ++ [(u1, (u2, u3))]) (by omega) (by simp [hc])
    refine ⟨ok', cl', ?_, g2, fun cl0 e hr => ?_⟩
    · refine Ev.step (fun k => impl_ParsePuzzle_l.eq k s _ _ _ _ ok rl w h cl L _ _) (Ev.yes (lt_nat (by omega)) (Ev.yes (inB_nat (by omega)) ?_))
      rw [Int.toNat_natCast, getD_at hx, w64_succ (by omega)]
      refine Ev.bind g (Ev.yes rfl (Ev.yes rfl (Ev.yes rfl (Ev.yes (fits_of (by omega)) ?_))))
      cases ok
      · exact Ev.no rfl g1
      · exact Ev.yes rfl g1
    · cases cl0 with
      | nil =>
        have := congrArg List.length e
        rw [List.length_drop, List.length_map, List.length_nil] at this
        omega
      | cons c cl0 =>
        obtain ⟨hlt, he⟩ := List.getElem?_eq_some_iff.1 hx
        rw [List.drop_eq_getElem_cons hlt, he, List.map_cons, List.cons.injEq] at e
        obtain ⟨r1, r2, r3⟩ := hr c List.mem_cons_self
        obtain ⟨j1, j2⟩ := gx [c.1.toNat, c.2.1.toNat, c.2.2.toNat] rfl (fun n hn => by simp only [List.mem_cons, List.not_mem_nil, or_false] at hn; omega) (by rw [e.1]; exact clueT_split c)
        obtain ⟨j3, j4⟩ := g3 cl0 e.2 fun d hd => hr d (List.mem_cons_of_mem _ hd)
        simp only [List.map_cons, List.map_nil, List.cons.injEq, and_true] at j1
        refine ⟨by rw [j3, j2, Bool.and_true], ?_⟩
        rw [j4, List.append_assoc]
        have : (u1, (u2, u3)) = c := by
          obtain ⟨c1, c2, c3⟩ := c
          dsimp only at j1 r1 r2 r3
          rw [j1.1, j1.2.1, j1.2.2, Int.toNat_of_nonneg r1.1, Int.toNat_of_nonneg r2.1, Int.toNat_of_nonneg r3.1]
        rw [this]
        rfl
theorem impl_ev (s : ByteArray) (hs : s.size ≤ 1048576) : (∀ (rl : ByteArray) (w h : Int) (cl : List Cl), PuzOk rl w h cl → s = puzT rl w h cl → Ev (fun k => impl_ParsePuzzle k s) ((rl, w, h, cl), true)) ∧
    ((∀ (rl : ByteArray) (w h : Int) (cl : List Cl), PuzOk rl w h cl → s ≠ puzT rl w h cl) → Ev (fun k => impl_ParsePuzzle k s) (zero, false)) := by
  have hsp : Ev (fun k => strings_Split k (s, bs [58])) (splitS 58 s) := Ev.step (fun k => (strings_Split.eq k (s, bs [58])).trans (strSplit_pieces s 58 (by omega))) (Ev.now _)
  have hpc := splitS_piece 58 s
  have fin : ∀ (rl mid J : ByteArray) (l : List Int) (b : Bool) (F : List ByteArray) (ok' : Bool) (cl' : List Cl) (r : Pz × Bool), splitS 58 s = [rl, mid, J] → l.length = 2 → Ev (fun k => impl_numbers k (mid, bs [120], 2, 9)) (l, b) → Ev (fun k => strings_FieldsFunc k (J, ())) F →
      Ev (fun k => impl_ParsePuzzle_l k (s, zero, b, (rl, l.getD 0 default, l.getD 1 default, []), F, (F.length : Int), 0)) (s, zero, ok', (rl, l.getD 0 default, l.getD 1 default, cl')) →
      Ev (fun k => cond (!ok') (some (zero, false)) ((impl_IsPuzzle k (rl, l.getD 0 default, l.getD 1 default, cl')).bind fun r5 => cond (!r5) (some (zero, false)) ((impl_puzzleText k (rl, l.getD 0 default, l.getD 1 default, cl')).bind fun r6 => cond (!(strEq r6 s)) (some (zero, false)) (some ((rl, l.getD 0 default, l.getD 1 default, cl'), true))))) r → Ev (fun k => impl_ParsePuzzle k s) r := by
    intro rl mid J l b F ok' cl' r e z g1 g2 g3 g4
    rw [e] at hsp
    obtain ⟨u1, u2, rfl⟩ := two z
    exact Ev.step (fun k => impl_ParsePuzzle.eq k s) (Ev.bind hsp (Ev.no rfl (Ev.yes rfl (Ev.bind g1 (Ev.yes rfl (Ev.yes rfl (Ev.yes rfl (Ev.yes rfl (Ev.bind g2 (Ev.bind g3 g4))))))))))
  refine ⟨fun rl w h cl H e => ?_, fun N => ?_⟩
  · have e58 := puzT_split rl w h cl H
    rw [← e] at e58
    have hmz := hpc (decS w.toNat ++ bs [120] ++ decS h.toNat) (by rw [e58]; simp)
    have hJz := hpc (joinB (cl.map clueT) (bs [44])) (by rw [e58]; simp)
    have hw := H.1.2.1
    have hh := H.1.2.2.1
    have hrl := H.1.1.1
    have hR := (puzT_size rl w h cl H).2
    obtain ⟨l, b, z, g, gx⟩ := nums_any (decS w.toNat ++ bs [120] ++ decS h.toNat) 120 2 9 (by omega) (by omega) (by omega)
    obtain ⟨j1, j2⟩ := gx [w.toNat, h.toNat] rfl (fun n hn => by simp only [List.mem_cons, List.not_mem_nil, or_false] at hn; omega) (mid_split _ _)
    have e2 : l = [w, h] := by
      rw [j1, List.map_cons, List.map_cons, List.map_nil, Int.toNat_of_nonneg (by omega), Int.toNat_of_nonneg (by omega)]
    rw [e2, j2] at g
    have F := fields_exact (joinB (cl.map clueT) (bs [44])) (by omega) (cl.map clueT) (fun x hx => by obtain ⟨c, _, rfl⟩ := List.mem_map.1 hx; exact clueT_good c) rfl
    obtain ⟨ok', cl', g1, g2, g3⟩ := implLoop s rl w h (cl.map clueT) (fun x hx => by
      obtain ⟨c, hc, rfl⟩ := List.mem_map.1 hx
      have := clueT_size (hR c hc)
      omega) (by rw [List.length_map]; have := H.2.1; omega) _ 0 true [] (Nat.zero_add _) rfl
    obtain ⟨j3, j4⟩ := g3 cl (List.drop_zero ..) hR
    rw [List.nil_append] at j4
    rw [j3, j4] at g1
    have I := isPuzzle_ev rl w h cl (by omega)
    have T := (puzText_ev rl w h cl H).2
    rw [← e] at T
    exact fin rl _ _ [w, h] true (cl.map clueT) true cl _ e58 rfl g F g1 (Ev.no rfl (Ev.bind (I.isT H) (Ev.no rfl (Ev.bind T (Ev.no (by rw [strEq_self]; rfl) (Ev.now _))))))
  · by_cases h3 : (splitS 58 s).length = 3
    rotate_left
    · exact Ev.step (fun k => impl_ParsePuzzle.eq k s) (Ev.bind hsp (Ev.yes (len_ne h3) (Ev.now _)))
    obtain ⟨rl, mid, J, e⟩ := three h3
    have hmz := hpc mid (by rw [e]; simp)
    have hJz := hpc J (by rw [e]; simp)
    have hrl := hpc rl (by rw [e]; simp)
    obtain ⟨l, b, z, g, _⟩ := nums_any mid 120 2 9 (by omega) (by omega) (by omega)
    obtain ⟨F, f1, f2, f3⟩ := fields_any J (by omega)
    obtain ⟨ok', cl', g1, g2, _⟩ := implLoop s rl (l.getD 0 default) (l.getD 1 default) F (fun x hx => by have := f3 x hx; omega) (by omega) _ 0 b [] (Nat.zero_add _) rfl
    refine fin rl mid J l b F ok' cl' _ e z g f1 g1 ?_
    cases ok'
    · exact Ev.yes rfl (Ev.now _)
    refine Ev.no rfl ?_
    have I := isPuzzle_ev rl (l.getD 0 default) (l.getD 1 default) cl' (by omega)
    by_cases H : PuzOk rl (l.getD 0 default) (l.getD 1 default) cl'
    · exact Ev.bind (I.isT H) (Ev.no rfl (Ev.bind (puzText_ev rl _ _ cl' H).2 (Ev.yes (by rw [strEq_ne fun q => N _ _ _ _ H q.symm]; rfl) (Ev.now _))))
    · exact Ev.bind (I.isF H) (Ev.yes rfl (Ev.now _))
/-! ### The model -/
theorem specLoop (s rl : ByteArray) (w h : Int) (L : List ByteArray) (hL : ∀ x ∈ L, x.size ≤ 1048576) (hl : L.length ≤ 1048577) : ∀ (m i : Nat) (cl : List Cl), i + m = L.length → cl.length = i →
    (∃ cl' : List Cl, Ev (fun k => spec_pzParse_l k (s, zero, (rl, w, h, cl), L, (L.length : Int), (i : Int))) (.inr (s, zero, (rl, w, h, cl'))) ∧ ∀ cl0 : List Cl, L.drop i = cl0.map clueT → (∀ c ∈ cl0, InR c) → cl' = cl ++ cl0) ∨
    (Ev (fun k => spec_pzParse_l k (s, zero, (rl, w, h, cl), L, (L.length : Int), (i : Int))) (.inl (zero, false)) ∧ ∀ cl0 : List Cl, L.drop i ≠ cl0.map clueT) := by
  intro m
  induction m with
  | zero =>
    intro i cl hi hc
    refine .inl ⟨cl, Ev.step (fun k => spec_pzParse_l.eq k s _ _ _ _ rl w h cl L _ _) (Ev.no (not_lt_nat (by omega)) (Ev.now _)), fun cl0 e _ => ?_⟩
    rw [List.drop_of_length_le (by omega)] at e
    have : cl0 = [] := List.map_eq_nil_iff.1 e.symm
    rw [this, List.append_nil]
  | succ m ih =>
    intro i cl hi hc
    obtain ⟨x, hx⟩ := nat_list (l := L) (i := i) (by omega)
    obtain ⟨hlt, he⟩ := List.getElem?_eq_some_iff.1 hx
    have hxz := hL x (List.mem_of_getElem? hx)
    have hpc := splitS_piece 46 x
    have S := l1Split_ev x 46 hxz
    have hd : ∀ cl0 : List Cl, L.drop i = cl0.map clueT → ∃ c r, cl0 = c :: r ∧ x = clueT c ∧ L.drop (i + 1) = r.map clueT := fun cl0 e => by
      rw [List.drop_eq_getElem_cons hlt, he] at e
      cases cl0 with
      | nil => cases e
      | cons c r =>
        rw [List.map_cons, List.cons.injEq] at e
        exact ⟨c, r, rfl, e.1, e.2⟩
    have st : ∀ r, Ev (fun k => (spec_l1Split k (x, 46)).bind fun r1 => cond ((r1.length : Int) != 3) (some (.inl (zero, false))) (cond (inB 0 r1.length) ((spec_l1Read k (r1.getD 0 default)).bind fun r2 => cond (inB 1 r1.length) ((spec_l1Read k (r1.getD 1 default)).bind fun r3 => cond (inB 2 r1.length) ((spec_l1Read k (r1.getD 2 default)).bind fun r4 => cond (fits (cl.length + 1) 24) (spec_pzParse_l k (s, zero, (rl, w, h, (cl ++ [(r2, (r3, r4))])), L, (L.length : Int), ((i + 1 : Nat) : Int))) none) none) none) none)) r →
        Ev (fun k => spec_pzParse_l k (s, zero, (rl, w, h, cl), L, (L.length : Int), (i : Int))) r := fun r q => by
      refine Ev.step (fun k => spec_pzParse_l.eq k s _ _ _ _ rl w h cl L _ _) (Ev.yes (lt_nat (by omega)) (Ev.yes (inB_nat (by omega)) ?_))
      rw [Int.toNat_natCast, getD_at hx, w64_succ (by omega)]
      exact q
    by_cases h3 : (splitS 46 x).length = 3
    rotate_left
    · refine .inr ⟨st _ (Ev.bind S (Ev.yes (len_ne h3) (Ev.now _))), fun cl0 e => ?_⟩
      obtain ⟨c, r, _, q, _⟩ := hd cl0 e
      rw [q, clueT_split] at h3
      exact h3 rfl
    obtain ⟨u1, u2, u3, e3⟩ := three h3
    rw [e3] at S hpc
    obtain ⟨v1, r1, i1⟩ := l1Read_ev u1 (by have := hpc u1 (by simp); omega)
    obtain ⟨v2, r2, i2⟩ := l1Read_ev u2 (by have := hpc u2 (by simp); omega)
    obtain ⟨v3, r3, i3⟩ := l1Read_ev u3 (by have := hpc u3 (by simp); omega)
    have st2 : ∀ r, Ev (fun k => spec_pzParse_l k (s, zero, (rl, w, h, (cl ++ [(v1, (v2, v3))])), L, (L.length : Int), ((i + 1 : Nat) : Int))) r → Ev (fun k => spec_pzParse_l k (s, zero, (rl, w, h, cl), L, (L.length : Int), (i : Int))) r := fun r q =>
      st r (Ev.bind S (Ev.no rfl (Ev.yes rfl (Ev.bind r1 (Ev.yes rfl (Ev.bind r2 (Ev.yes rfl (Ev.bind r3 (Ev.yes (fits_of (by omega)) q)))))))))
    rcases ih (i + 1) (cl ++ [(v1, (v2, v3))]) (by omega) (by simp [hc]) with ⟨cl', g1, g2⟩ | ⟨g1, g2⟩
    · refine .inl ⟨cl', st2 _ g1, fun cl0 e hr => ?_⟩
      obtain ⟨c, r, rfl, q, q2⟩ := hd cl0 e
      obtain ⟨t1, t2, t3⟩ := hr c List.mem_cons_self
      rw [q, clueT_split] at e3
      simp only [List.cons.injEq, and_true] at e3
      obtain ⟨rfl, rfl, rfl⟩ := e3
      rw [g2 r q2 fun d hd => hr d (List.mem_cons_of_mem _ hd), List.append_assoc]
      have : (v1, (v2, v3)) = c := by
        rw [isNum_dec (by omega) i1, isNum_dec (by omega) i2, isNum_dec (by omega) i3, Int.toNat_of_nonneg t1.1, Int.toNat_of_nonneg t2.1, Int.toNat_of_nonneg t3.1]
      rw [this]
      rfl
    · refine .inr ⟨st2 _ g1, fun cl0 e => ?_⟩
      obtain ⟨c, r, rfl, q, q2⟩ := hd cl0 e
      exact g2 r q2
theorem spec_ev (s : ByteArray) (hs : s.size ≤ 1048576) : (∀ (rl : ByteArray) (w h : Int) (cl : List Cl), PuzOk rl w h cl → s = puzT rl w h cl → Ev (fun k => spec_ParsePuzzle k s) ((rl, w, h, cl), true)) ∧
    ((∀ (rl : ByteArray) (w h : Int) (cl : List Cl), PuzOk rl w h cl → s ≠ puzT rl w h cl) → Ev (fun k => spec_ParsePuzzle k s) (zero, false)) := by
  have outT : ∀ w : Pz, Ev (fun k => spec_pzParse k s) (w, true) → Ev (fun k => spec_ParsePuzzle k s) (w, true) := fun w h => Ev.step (fun k => spec_ParsePuzzle.eq k s) (Ev.bind h (Ev.no rfl (Ev.now _)))
  have outF : (∃ w : Pz, Ev (fun k => spec_pzParse k s) (w, false)) → Ev (fun k => spec_ParsePuzzle k s) (zero, false) := fun ⟨w, h⟩ => Ev.step (fun k => spec_ParsePuzzle.eq k s) (Ev.bind h (Ev.yes rfl (Ev.now _)))
  have hsp := l1Split_ev s 58 hs
  have hpc := splitS_piece 58 s
  have last : ∀ (p : Pz) (r : Pz × Bool), Ev (fun k => (spec_pzGood k p).bind fun r9 => cond r9 ((spec_pzText k p).bind fun r10 => some (p, strEq r10 s)) (some (p, false))) r → Ev (fun k => (spec_pzGood k p).bind fun r9 => cond r9 ((spec_pzText k p).bind fun r10 => some (p, strEq r10 s)) (some (p, false))) r := fun p r h => h
  have endF : ∀ (rl : ByteArray) (w h : Int) (cl : List Cl), (∀ (rl : ByteArray) (w h : Int) (cl : List Cl), PuzOk rl w h cl → s ≠ puzT rl w h cl) → Ev (fun k => (spec_pzGood k (rl, w, h, cl)).bind fun r9 => cond r9 ((spec_pzText k (rl, w, h, cl)).bind fun r10 => some ((rl, w, h, cl), strEq r10 s)) (some ((rl, w, h, cl), false))) ((rl, w, h, cl), false) := fun rl w h cl N => by
    have G := pzGood_ev rl w h cl
    by_cases H : PuzOk rl w h cl
    · exact Ev.bind (G.isT H) (Ev.bind (puzText_ev rl w h cl H).1 (Ev.now' (by rw [strEq_ne fun q => N _ _ _ _ H q.symm])))
    · exact Ev.bind (G.isF H) (Ev.now _)
  have endT : ∀ (rl : ByteArray) (w h : Int) (cl : List Cl), PuzOk rl w h cl → s = puzT rl w h cl → Ev (fun k => (spec_pzGood k (rl, w, h, cl)).bind fun r9 => cond r9 ((spec_pzText k (rl, w, h, cl)).bind fun r10 => some ((rl, w, h, cl), strEq r10 s)) (some ((rl, w, h, cl), false))) ((rl, w, h, cl), true) := fun rl w h cl H e => by
    have T := (puzText_ev rl w h cl H).1
    rw [← e] at T
    exact Ev.bind ((pzGood_ev rl w h cl).isT H) (Ev.bind T (Ev.now' (by rw [strEq_self])))
  -- the way to the clues
  have way : ∀ (rl mid J u1 u2 : ByteArray) (w h : Int) (r : Pz × Bool), ¬ (s.size : Int) > 100 → splitS 58 s = [rl, mid, J] → splitS 120 mid = [u1, u2] → Ev (fun k => spec_l1Read k u1) w → Ev (fun k => spec_l1Read k u2) h →
      Ev (fun k => cond (decide ((J.size : Int) > 0)) ((spec_l1Split k (J, 44)).bind fun r5 => (spec_pzParse_l k (s, zero, (rl, w, h, []), r5, (r5.length : Int), 0)).bind fun r6 => r6.elim (fun r7 => some r7) (fun r8 => (spec_pzGood k r8.2.2).bind fun r9 => cond r9 ((spec_pzText k r8.2.2).bind fun r10 => some (r8.2.2, (strEq r10 r8.1))) (some (r8.2.2, false))))
        ((spec_pzGood k (rl, w, h, [])).bind fun r11 => cond r11 ((spec_pzText k (rl, w, h, [])).bind fun r12 => some ((rl, w, h, []), strEq r12 s)) (some ((rl, w, h, []), false)))) r → Ev (fun k => spec_pzParse k s) r := by
    intro rl mid J u1 u2 w h r hb e e2 q1 q2 q
    rw [e] at hsp
    have hm := l1Split_ev mid 120 (by have := hpc mid (by rw [e]; simp); omega)
    rw [e2] at hm
    refine Ev.step (fun k => spec_pzParse.eq k s) (Ev.no (decide_eq_false hb) (Ev.bind hsp (Ev.no rfl (Ev.yes rfl (Ev.bind hm (Ev.no rfl (Ev.yes rfl (Ev.yes rfl (Ev.bind q1 (Ev.yes rfl (Ev.bind q2 (Ev.yes rfl ?_))))))))))))
    exact q
  refine ⟨fun rl w h cl H e => outT _ ?_, fun N => outF ?_⟩
  · obtain ⟨hz, hR⟩ := puzT_size rl w h cl H
    have e58 := puzT_split rl w h cl H
    rw [← e] at e58 hz
    have hw := H.1.2.1
    have hh := H.1.2.2.1
    obtain ⟨v1, r1, i1⟩ := l1Read_ev (decS w.toNat) (by have := (decS_size (n := w.toNat) (by omega)).2; omega)
    obtain ⟨v2, r2, i2⟩ := l1Read_ev (decS h.toNat) (by have := (decS_size (n := h.toNat) (by omega)).2; omega)
    rw [isNum_dec (by omega) i1, Int.toNat_of_nonneg (by omega)] at r1
    rw [isNum_dec (by omega) i2, Int.toNat_of_nonneg (by omega)] at r2
    have hJz := hpc (joinB (cl.map clueT) (bs [44])) (by rw [e58]; simp)
    refine way rl _ _ _ _ w h _ (by omega) e58 (mid_split _ _) r1 r2 ?_
    by_cases hne : cl = []
    · subst hne
      exact Ev.no rfl (endT rl w h [] H e)
    · have hcs := clues_split cl hne
      have hJ : 0 < (joinB (cl.map clueT) (bs [44])).size := by
        rcases Nat.eq_zero_or_pos (joinB (cl.map clueT) (bs [44])).size with h0 | h0
        · obtain ⟨c, r, rfl⟩ := List.exists_cons_of_ne_nil hne
          exfalso
          have hc := splitS_piece 44 (joinB ((c :: r).map clueT) (bs [44])) (clueT c) (by rw [hcs]; simp)
          have := (clueT_good c).1
          omega
        · exact h0
      have hS := l1Split_ev (joinB (cl.map clueT) (bs [44])) 44 (by omega)
      rw [hcs] at hS
      refine Ev.yes (decide_eq_true (by omega)) (Ev.bind hS ?_)
      rcases specLoop s rl w h (cl.map clueT) (fun x hx => by
        obtain ⟨c, hc, rfl⟩ := List.mem_map.1 hx
        have := clueT_size (hR c hc)
        omega) (by rw [List.length_map]; have := H.2.1; omega) _ 0 [] (Nat.zero_add _) rfl with ⟨cl', g1, g2⟩ | ⟨_, g2⟩
      · have q := g2 cl (List.drop_zero ..) hR
        rw [List.nil_append] at q
        rw [q] at g1
        exact Ev.bind g1 (endT rl w h cl H e)
      · exact absurd (List.drop_zero ..) (g2 cl)
  · by_cases hb : (s.size : Int) > 100
    · exact ⟨zero, Ev.step (fun k => spec_pzParse.eq k s) (Ev.yes (decide_eq_true hb) (Ev.now _))⟩
    by_cases h3 : (splitS 58 s).length = 3
    rotate_left
    · exact ⟨zero, Ev.step (fun k => spec_pzParse.eq k s) (Ev.no (decide_eq_false hb) (Ev.bind hsp (Ev.yes (len_ne h3) (Ev.now _))))⟩
    obtain ⟨rl, mid, J, e⟩ := three h3
    have hmz := hpc mid (by rw [e]; simp)
    have hJz := hpc J (by rw [e]; simp)
    have hm := l1Split_ev mid 120 (by omega)
    by_cases h2 : (splitS 120 mid).length = 2
    rotate_left
    · rw [e] at hsp
      exact ⟨zero, Ev.step (fun k => spec_pzParse.eq k s) (Ev.no (decide_eq_false hb) (Ev.bind hsp (Ev.no rfl (Ev.yes rfl (Ev.bind hm (Ev.yes (len_ne h2) (Ev.now _)))))))⟩
    obtain ⟨u1, u2, e2⟩ := two h2
    have hpm := splitS_piece 120 mid
    rw [e2] at hpm
    obtain ⟨v1, r1, _⟩ := l1Read_ev u1 (by have := hpm u1 (by simp); omega)
    obtain ⟨v2, r2, _⟩ := l1Read_ev u2 (by have := hpm u2 (by simp); omega)
    by_cases hJ : (J.size : Int) > 0
    rotate_left
    · exact ⟨_, way rl mid J u1 u2 v1 v2 _ hb e e2 r1 r2 (Ev.no (decide_eq_false hJ) (endF rl v1 v2 [] N))⟩
    have hS := l1Split_ev J 44 (by omega)
    have hpJ := splitS_piece 44 J
    have hlJ := splitS_len 44 J
    rcases specLoop s rl v1 v2 (splitS 44 J) (fun x hx => by have := hpJ x hx; omega) (by omega) _ 0 [] (Nat.zero_add _) rfl with ⟨cl', g1, _⟩ | ⟨g1, _⟩
    · exact ⟨_, way rl mid J u1 u2 v1 v2 _ hb e e2 r1 r2 (Ev.yes (decide_eq_true hJ) (Ev.bind hS (Ev.bind g1 (endF rl v1 v2 cl' N))))⟩
    · exact ⟨_, way rl mid J u1 u2 v1 v2 _ hb e e2 r1 r2 (Ev.yes (decide_eq_true hJ) (Ev.bind hS (Ev.bind g1 (Ev.now _))))⟩
theorem both (s : ByteArray) (hs : s.size ≤ 1048576) : ∃ (rl : ByteArray) (w h : Int) (cl : List Cl) (ok : Bool), cl.length ≤ 6 ∧ Ev (fun k => spec_ParsePuzzle k s) ((rl, w, h, cl), ok) ∧ Ev (fun k => impl_ParsePuzzle k s) ((rl, w, h, cl), ok) := by
  by_cases P : ∃ (rl : ByteArray) (w h : Int) (cl : List Cl), PuzOk rl w h cl ∧ s = puzT rl w h cl
  · obtain ⟨rl, w, h, cl, H, e⟩ := P
    exact ⟨rl, w, h, cl, true, H.2.1, (spec_ev s hs).1 rl w h cl H e, (impl_ev s hs).1 rl w h cl H e⟩
  · have N : ∀ (rl : ByteArray) (w h : Int) (cl : List Cl), PuzOk rl w h cl → s ≠ puzT rl w h cl := fun rl w h cl H e => P ⟨rl, w, h, cl, H, e⟩
    exact ⟨ByteArray.empty, 0, 0, [], false, by simp, (spec_ev s hs).2 N, (impl_ev s hs).2 N⟩
theorem main (s : ByteArray) : ∃ k, laws_FnExactParsePuzzle k s = some true := by
  refine Ev.rounds (Ev.step (fun k => laws_FnExactParsePuzzle.eq k s) ?_)
  refine Ev.cond (fun _ => Ev.now _) fun hn => ?_
  have hs : s.size ≤ 1048576 := by have := of_decide_eq_false hn; omega
  obtain ⟨rl, w, h, cl, ok, hl, hS, hI⟩ := both s hs
  have he := eqPuzzle_ev rl w h cl (by omega)
  obtain ⟨M, hm, hh⟩ := markHeld_ev rl w h cl (by omega)
  have ok1 : (!(ok == ok)) = false := by cases ok <;> rfl
  have n1 : decide (1 + 3 * (cl.length : Int) < 0) = false := decide_eq_false (by omega)
  exact Ev.bind hS (Ev.bind hI (Ev.bind he (Ev.no rfl (Ev.no ok1 (Ev.bind hm (Ev.bind hh (Ev.no n1 (Ev.no (neq_self _) (Ev.bind hI (Ev.bind he (Ev.no rfl (Ev.no ok1 (Ev.bind hh (Ev.no n1 (Ev.no (neq_self _) (Ev.now _))))))))))))))))
theorem pure : ∀ d : Dl laws_FnExactParsePuzzle.ins, goodL laws_FnExactParsePuzzle.ins d → ∃ k, laws_FnExactParsePuzzle k d = some true := by
  intro s hg
  exact main s
end Go.Proofs.YtaookbfcncfkbaaGreatDoor.fnExactParsePuzzle
