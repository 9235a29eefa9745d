/- The plain law FnExactSureCells. -/
import Derived.Test.YtngfakjifgafeaaDoorOk
import Derived.Test.YtngfakjifgafeaaDoorPuPuz3
namespace Go.Proofs.YtngfakjifgafeaaDoor.fnExactSureCells
open Go Go.Proofs Go.Proofs.YtngfakjifgafeaaDoorS
set_option linter.unusedVariables false
set_option linter.unusedSimpArgs false
theorem sub_one {cs : ByteArray} {i : Nat} {c : UInt8} (h : cs.data.toList[i]? = some c) : cs.extract i (i + 1) = ofBytes [(c.toNat : Int)] := by
  apply ba_ext
  obtain ⟨hlt, he⟩ := List.getElem?_eq_some_iff.1 h
  rw [extract_list, List.drop_take, show i + 1 - i = 1 by omega, List.drop_eq_getElem_cons hlt, he]
  show [c] = [UInt8.ofNat (Int.toNat (c.toNat : Int))]
  rw [Int.toNat_natCast]
  simp
theorem ofBytes_append (a : List Int) (n : Int) : ofBytes a ++ ofBytes [n] = ofBytes (a ++ [n]) := by
  apply ba_ext
  rw [append_list]
  unfold ofBytes
  simp
theorem one_inj {c d : UInt8} : strEq (ofBytes [(c.toNat : Int)]) (ofBytes [(d.toNat : Int)]) = true ↔ c = d := by
  rw [strEq_iff]
  constructor
  · intro h
    have h := congrArg (fun b : ByteArray => b.data.toList) h
    have h : [UInt8.ofNat (Int.toNat (c.toNat : Int))] = [UInt8.ofNat (Int.toNat (d.toNat : Int))] := h
    rw [Int.toNat_natCast, Int.toNat_natCast] at h
    simpa using h
  · intro h
    rw [h]
def Dj (l : List ByteArray) (f : ByteArray) (j q : Nat) : Prop := ∃ (t : Nat) (s : ByteArray) (c d : UInt8), t < j ∧ l[t]? = some s ∧ s.data.toList[q]? = some c ∧ f.data.toList[q]? = some d ∧ c ≠ d
open Classical in
noncomputable def valI (l : List ByteArray) (f : ByteArray) (j q : Nat) : Int := if Dj l f j q then 63 else bt f q
open Classical in
theorem valI_yes {l : List ByteArray} {f : ByteArray} {j q : Nat} (h : Dj l f j q) : valI l f j q = 63 := if_pos h
open Classical in
theorem valI_no {l : List ByteArray} {f : ByteArray} {j q : Nat} (h : ¬ Dj l f j q) : valI l f j q = bt f q := if_neg h
section
variable (l : List ByteArray) (f : ByteArray) (n : Nat) (hf : l[0]? = some f) (hn : ∀ s ∈ l, s.size = n) (hl : l.length ≤ 300) (hn9 : n ≤ 100)
include hf hn hl hn9
theorem fsize : f.size = n := by
  have := hl
  have := hn9
  exact hn f (List.mem_of_getElem? hf)
theorem g0 : l.getD ((0 : Int).toNat) default = f := by
  have := hl
  have := hn9
  have := hn
  exact getD_at hf
theorem g0' : l.getD 0 default = f := by
  have := hl
  have := hn9
  have := hn
  exact getD_at hf
theorem specIn_ev (rl : ByteArray) (w h : Int) (cl : List Cl) (out : ByteArray) (q : Nat) (hq : q < n) : Ev (fun k => spec_SureCells_l_l k ((rl, w, h, cl), l, out, (q : Int), f.extract q (q + 1), (), (l.length : Int), 0)) ((rl, w, h, cl), l, out, (q : Int), ofBytes [valI l f l.length q]) := by
  have hfs := fsize l f n hf hn hl hn9
  obtain ⟨d, hd⟩ := nat_list (l := f.data.toList) (i := q) (by rw [← size_list]; omega)
  have hbd := bt_at hd
  rw [sub_one hd]
  have e1 : w64 ((q : Int) + 1) = ((q + 1 : Nat) : Int) := w64_succ (by omega)
  have step : ∀ (i : Nat) (s : ByteArray) (c : UInt8), l[i]? = some s → s.data.toList[q]? = some c → ∀ r, Ev (fun k => cond (!(strEq (ofBytes [(c.toNat : Int)]) (ofBytes [(d.toNat : Int)]))) (some ((rl, w, h, cl), l, out, (q : Int), bs [63])) (spec_SureCells_l_l k ((rl, w, h, cl), l, out, (q : Int), ofBytes [(d.toNat : Int)], (), (l.length : Int), w64 ((i : Int) + 1)))) r →
      Ev (fun k => spec_SureCells_l_l k ((rl, w, h, cl), l, out, (q : Int), ofBytes [(d.toNat : Int)], (), (l.length : Int), (i : Int))) r := fun i s c hs hc r Hr => by
    have hi := (List.getElem?_eq_some_iff.1 hs).1
    have hsz := hn s (List.mem_of_getElem? hs)
    refine Ev.step (fun k => spec_SureCells_l_l.eq k rl w h cl l out (q : Int) (ofBytes [(d.toNat : Int)]) (l.length : Int) (i : Int)) (Ev.yes (lt_nat hi) (Ev.yes (inB_nat hi) ?_))
    rw [e1, Int.toNat_natCast, getD_at hs, Int.toNat_natCast, Int.toNat_natCast, sub_one hc]
    exact Ev.yes (by rw [decide_eq_true (by omega), decide_eq_true (by omega), decide_eq_true (by omega), decide_eq_true (by omega)]; rfl) Hr
  have byte : ∀ (i : Nat) (s : ByteArray), l[i]? = some s → ∃ c, s.data.toList[q]? = some c := fun i s hs => nat_list (by rw [← size_list, hn s (List.mem_of_getElem? hs)]; exact hq)
  have srch := Ev.search (L := fun k i => spec_SureCells_l_l k ((rl, w, h, cl), l, out, (q : Int), ofBytes [(d.toNat : Int)], (), (l.length : Int), i)) (n := l.length) (fun i => ∃ s c, l[i]? = some s ∧ s.data.toList[q]? = some c ∧ c ≠ d) (fun i => ((rl, w, h, cl), l, out, (q : Int), bs [63])) ((rl, w, h, cl), l, out, (q : Int), ofBytes [(d.toNat : Int)])
    (fun i hi hp r Hr => by
      obtain ⟨s, hs⟩ := nat_list hi
      obtain ⟨c, hc⟩ := byte i s hs
      have hcd : c = d := Classical.byContradiction fun hne => hp ⟨s, c, hs, hc, hne⟩
      refine step i s c hs hc r (Ev.no (by rw [one_inj.2 hcd]; rfl) ?_)
      rw [w64_succ (by omega)]
      exact Hr)
    (fun i hi hp => by
      obtain ⟨s, c, hs, hc, hne⟩ := hp
      refine step i s c hs hc _ (Ev.yes ?_ (Ev.now _))
      cases hx : strEq (ofBytes [(c.toNat : Int)]) (ofBytes [(d.toNat : Int)]) with
      | false => rfl
      | true => exact absurd (one_inj.1 hx) hne)
    (Ev.step (fun k => spec_SureCells_l_l.eq k rl w h cl l out (q : Int) (ofBytes [(d.toNat : Int)]) (l.length : Int) (l.length : Int)) (Ev.no (not_lt_nat (Nat.lt_irrefl _)) (Ev.now _))) l.length 0 (by omega)
  rcases srch with ⟨h1, h2⟩ | ⟨j, _, hj, ⟨s, c, hs, hc, hne⟩, _, h2⟩
  · have hno : ¬ Dj l f l.length q := by
      rintro ⟨t, s, c, d', ht, hs, hc, hd', hne⟩
      rw [hd] at hd'
      cases hd'
      exact h1 t (Nat.zero_le _) ht ⟨s, c, hs, hc, hne⟩
    rw [valI_no hno, hbd]
    exact h2
  · rw [valI_yes ⟨j, s, c, d, hj, hs, hc, hd, hne⟩]
    exact h2
theorem specOut_ev (rl : ByteArray) (w h : Int) (cl : List Cl) (hwh : w64 (w * h) = (n : Int)) (hl0 : 0 < l.length) : ∀ (m q : Nat), q + m = n → Ev (fun k => spec_SureCells_l k ((rl, w, h, cl), l, ofBytes ((List.range q).map (valI l f l.length)), (q : Int))) (ofBytes ((List.range n).map (valI l f l.length))) := by
  have hfs := fsize l f n hf hn hl hn9
  intro m
  induction m with
  | zero =>
    intro q hq
    obtain rfl : q = n := by omega
    exact Ev.step (fun k => spec_SureCells_l.eq k rl w h cl l _ (q : Int)) (Ev.no (by rw [hwh]; exact not_lt_nat (Nat.lt_irrefl _)) (Ev.now _))
  | succ m ih =>
    intro q hq
    have e1 : w64 ((q : Int) + 1) = ((q + 1 : Nat) : Int) := w64_succ (by omega)
    refine Ev.step (fun k => spec_SureCells_l.eq k rl w h cl l _ (q : Int)) (Ev.yes (by rw [hwh]; exact lt_nat (by omega)) (Ev.yes (inB_of (by omega) (by omega)) ?_))
    rw [e1, g0' l f n hf hn hl hn9, Int.toNat_natCast, Int.toNat_natCast]
    refine Ev.yes (by rw [decide_eq_true (by omega), decide_eq_true (by omega), decide_eq_true (by omega), decide_eq_true (by omega)]; rfl) (Ev.bind (specIn_ev l f n hf hn hl hn9 rl w h cl _ q (by omega)) ?_)
    have hsz : (ofBytes ((List.range q).map (valI l f l.length))).size = q := by rw [size_list]; unfold ofBytes; simp
    refine Ev.yes (fitS_of (by show (ofBytes ((List.range q).map (valI l f l.length))).size + 1 < _; omega)) ?_
    show Ev (fun k => spec_SureCells_l k ((rl, w, h, cl), l, ofBytes ((List.range q).map (valI l f l.length)) ++ ofBytes [valI l f l.length q], w64 ((q : Int) + 1))) _
    rw [e1, ofBytes_append]
    have := ih (q + 1) (by omega)
    rw [List.range_succ, List.map_append] at this
    exact this
theorem implIn_ev (j : Nat) (s : ByteArray) (hs : l[j]? = some s) (t23 : Int) : ∀ (m q : Nat), q + m = n → Ev (fun k => impl_SureCells_l_l k (l, (List.range n).map (fun p => if p < q then valI l f (j + 1) p else valI l f j p), s, (), t23, (j : Int), (n : Int), (q : Int))) (l, (List.range n).map (valI l f (j + 1)), (), t23, (j : Int)) := by
  have hfs := fsize l f n hf hn hl hn9
  have hsz := hn s (List.mem_of_getElem? hs)
  have hl0 : 0 < l.length := (List.getElem?_eq_some_iff.1 hf).1
  intro m
  induction m with
  | zero =>
    intro q hq
    obtain rfl : q = n := by omega
    refine Ev.step (fun k => impl_SureCells_l_l.eq k l _ s t23 (j : Int) (q : Int) (q : Int)) (Ev.no (not_lt_nat (Nat.lt_irrefl _)) (Ev.now' ?_))
    have : (List.range q).map (fun p => if p < q then valI l f (j + 1) p else valI l f j p) = (List.range q).map (valI l f (j + 1)) := List.map_congr_left fun p hp => by rw [if_pos (List.mem_range.1 hp)]
    rw [this]
  | succ m ih =>
    intro q hq
    obtain ⟨c, hc⟩ := nat_list (l := s.data.toList) (i := q) (by rw [← size_list]; omega)
    obtain ⟨d, hd⟩ := nat_list (l := f.data.toList) (i := q) (by rw [← size_list]; omega)
    have step : ∀ (out : List Int), out.length = n → ∀ r, Ev (fun k => cond ((c.toNat : Int) != (d.toNat : Int)) (impl_SureCells_l_l k (l, out.set q 63, s, (), t23, (j : Int), (n : Int), ((q + 1 : Nat) : Int))) (impl_SureCells_l_l k (l, out, s, (), t23, (j : Int), (n : Int), ((q + 1 : Nat) : Int)))) r → Ev (fun k => impl_SureCells_l_l k (l, out, s, (), t23, (j : Int), (n : Int), (q : Int))) r := fun out ho r Hr => by
      refine Ev.step (fun k => impl_SureCells_l_l.eq k l out s t23 (j : Int) (n : Int) (q : Int)) (Ev.yes (lt_nat (by omega)) (Ev.yes (inB_nat (by omega)) (Ev.yes (inB_of (by omega) (by omega)) ?_)))
      rw [g0' l f n hf hn hl hn9, Int.toNat_natCast, bt_at hc, bt_at hd, w64_succ (by omega)]
      refine Ev.yes (inB_nat (by omega)) ?_
      have hio : inB (q : Int) out.length = true := inB_nat (by omega)
      simp only [hio, cond_true]
      exact Hr
    have next := ih (q + 1) (by omega)
    by_cases hcd : c = d
    · have hne : ((c.toNat : Int) != (d.toNat : Int)) = false := by rw [hcd]; exact neq_self _
      refine step _ (by simp) _ (Ev.no hne ?_)
      have : (List.range n).map (fun p => if p < q then valI l f (j + 1) p else valI l f j p) = (List.range n).map (fun p => if p < q + 1 then valI l f (j + 1) p else valI l f j p) := List.map_congr_left fun p hp => by
        by_cases hpq : p = q
        · subst hpq
          rw [if_neg (by omega), if_pos (by omega)]
          by_cases hD : Dj l f j p
          · obtain ⟨t, s', c', d', ht, hs', hc', hd', hne'⟩ := hD
            rw [valI_yes ⟨t, s', c', d', ht, hs', hc', hd', hne'⟩, valI_yes ⟨t, s', c', d', by omega, hs', hc', hd', hne'⟩]
          · have hD' : ¬ Dj l f (j + 1) p := by
              rintro ⟨t, s', c', d', ht, hs', hc', hd', hne'⟩
              by_cases htj : t = j
              · subst htj
                rw [hs] at hs'
                cases hs'
                rw [hc] at hc'
                rw [hd] at hd'
                cases hc'
                cases hd'
                exact hne' hcd
              · exact hD ⟨t, s', c', d', by omega, hs', hc', hd', hne'⟩
            rw [valI_no hD, valI_no hD']
        · by_cases hlt : p < q
          · rw [if_pos hlt, if_pos (by omega)]
          · rw [if_neg hlt, if_neg (by omega)]
      rw [this]
      exact next
    · have hne : ((c.toNat : Int) != (d.toNat : Int)) = true := by
        rw [bne_iff_ne]
        intro e
        exact hcd (UInt8.toNat_inj.1 (by omega))
      refine step _ (by simp) _ (Ev.yes hne ?_)
      have : ((List.range n).map (fun p => if p < q then valI l f (j + 1) p else valI l f j p)).set q 63 = (List.range n).map (fun p => if p < q + 1 then valI l f (j + 1) p else valI l f j p) := by
        apply List.ext_getElem?
        intro p
        rw [List.getElem?_set, List.getElem?_map, List.getElem?_map]
        by_cases hp : p < n
        · rw [List.getElem?_range hp]
          by_cases hpq : q = p
          · subst hpq
            rw [if_pos rfl, if_pos (by simp; omega), Option.map_some, if_pos (by omega), valI_yes ⟨j, s, c, d, by omega, hs, hc, hd, hcd⟩]
          · rw [if_neg hpq, Option.map_some, Option.map_some]
            by_cases hlt : p < q
            · rw [if_pos hlt, if_pos (by omega)]
            · rw [if_neg hlt, if_neg (by omega)]
        · rw [List.getElem?_eq_none (by simp; omega)]
          by_cases hpq : q = p
          · omega
          · rw [if_neg hpq]
            rfl
      rw [this]
      exact next
theorem implOut_ev : ∀ (m j : Nat), j + m = l.length → Ev (fun k => impl_SureCells_l k (l, (List.range n).map (valI l f j), (), (l.length : Int), (j : Int))) ((List.range n).map (valI l f l.length)) := by
  intro m
  induction m with
  | zero =>
    intro j hj
    obtain rfl : j = l.length := by omega
    exact Ev.step (fun k => impl_SureCells_l.eq k l _ (l.length : Int) (l.length : Int)) (Ev.no (not_lt_nat (Nat.lt_irrefl _)) (Ev.now _))
  | succ m ih =>
    intro j hj
    obtain ⟨s, hs⟩ := nat_list (l := l) (i := j) (by omega)
    have h1 := implIn_ev l f n hf hn hl hn9 j s hs (l.length : Int) n 0 (by omega)
    have e0 : (List.range n).map (fun p => if p < 0 then valI l f (j + 1) p else valI l f j p) = (List.range n).map (valI l f j) := List.map_congr_left fun p hp => by rw [if_neg (by omega)]
    rw [e0] at h1
    refine Ev.step (fun k => impl_SureCells_l.eq k l _ (l.length : Int) (j : Int)) (Ev.yes (lt_nat (by omega)) (Ev.yes (inB_nat (by omega)) ?_))
    rw [Int.toNat_natCast, getD_at hs, show (((List.range n).map (valI l f j)).length : Int) = (n : Int) by simp]
    refine Ev.bind h1 ?_
    show Ev (fun k => impl_SureCells_l k (l, (List.range n).map (valI l f (j + 1)), (), (l.length : Int), w64 ((j : Int) + 1))) _
    rw [w64_succ (by omega)]
    exact ih (j + 1) (by omega)
theorem start : bytesOf f = (List.range n).map (valI l f 0) := by
  have hfs := fsize l f n hf hn hl hn9
  apply List.ext_getElem?
  intro p
  unfold bytesOf
  rw [List.getElem?_map, List.getElem?_map]
  by_cases hp : p < n
  · obtain ⟨d, hd⟩ := nat_list (l := f.data.toList) (i := p) (by rw [← size_list]; omega)
    have hno : ¬ Dj l f 0 p := by
      rintro ⟨t, _, _, _, ht, _⟩
      omega
    rw [List.getElem?_range hp, hd, Option.map_some, Option.map_some, valI_no hno, bt_at hd]
  · rw [List.getElem?_eq_none (by rw [← size_list]; omega), List.getElem?_eq_none (by simp; omega)]
    rfl
end
theorem both (rl : ByteArray) (w h : Int) (cl : List Cl) (hrl : rl.size ≤ 9223372036854775807) : ∃ (v : ByteArray) (ok : Bool), Ev (fun k => spec_SureCells k (rl, w, h, cl)) (v, ok) ∧ Ev (fun k => impl_SureCells k (rl, w, h, cl)) (v, ok) := by
  rcases solutions_ev rl w h cl hrl with ⟨H, hl3, i, g, s⟩ | ⟨_, i, g⟩
  · have hS := H.1
    have hm := mul_range (a := w) (b := h) (by have := hS.2.1; omega) (by have := hS.2.1; omega) (by have := hS.2.2.1; omega) (by have := hS.2.2.1; omega)
    have hwh : w64 (w * h) = (((w * h).toNat : Nat) : Int) := by rw [w64_of (by omega) (by omega)]; omega
    have hn : ∀ s ∈ solC rl w h cl, s.size = (w * h).toNat := fun s hs => by
      unfold solC at hs
      exact (allD_ok (t := rl.size) (by have := hS.1.1; omega) _ s (List.mem_filter.1 hs).1).1
    revert i s hl3 hn
    generalize solC rl w h cl = l
    intro hl3 i s hn
    by_cases h0 : l.length = 0
    · exact ⟨ByteArray.empty, false, Ev.step (fun k => spec_SureCells.eq k rl w h cl) (Ev.bind g (Ev.no rfl (Ev.bind s (Ev.yes (by rw [beq_iff_eq]; omega) (Ev.now _))))), Ev.step (fun k => impl_SureCells.eq k rl w h cl) (Ev.bind i (Ev.yes (by rw [beq_iff_eq]; show (l.length : Int) = 0; omega) (Ev.now _)))⟩
    · have n0 : ((l.length : Int) == 0) = false := by rw [beq_eq_false_iff_ne]; omega
      have b0 : inB 0 l.length = true := inB_of (by omega) (by omega)
      obtain ⟨f, hf⟩ := nat_list (l := l) (i := 0) (by omega)
      have h9 : (w * h).toNat ≤ 100 := by omega
      have eS := specOut_ev l f _ hf hn hl3 h9 rl w h cl hwh (by omega) (w * h).toNat 0 (by omega)
      have eI := implOut_ev l f _ hf hn hl3 h9 l.length 0 (by omega)
      rw [← start l f _ hf hn hl3 h9] at eI
      refine ⟨_, true, Ev.step (fun k => spec_SureCells.eq k rl w h cl) (Ev.bind g (Ev.no rfl (Ev.bind s (Ev.no n0 (Ev.bind eS (Ev.now _)))))), Ev.step (fun k => impl_SureCells.eq k rl w h cl) (Ev.bind i (Ev.no n0 (Ev.yes b0 ?_)))⟩
      show Ev (fun k => (impl_SureCells_l k (l, bytesOf (l.getD 0 default), (), (l.length : Int), 0)).bind fun r2 => some (ofBytes r2, true)) _
      rw [g0' l f _ hf hn hl3 h9]
      exact Ev.bind eI (Ev.now _)
  · exact ⟨ByteArray.empty, false, Ev.step (fun k => spec_SureCells.eq k rl w h cl) (Ev.bind g (Ev.yes rfl (Ev.now _))), Ev.step (fun k => impl_SureCells.eq k rl w h cl) (Ev.bind i (Ev.yes rfl (Ev.now _)))⟩
theorem main (rl : ByteArray) (w h : Int) (cl : List Cl) (h1 : rl.size ≤ 9223372036854775807) (h2 : cl.length ≤ 9223372036854775807) : ∃ k, laws_FnExactSureCells k (rl, w, h, cl) = some true := by
  refine Ev.rounds (Ev.step (fun k => laws_FnExactSureCells.eq k rl w h cl) ?_)
  obtain ⟨r, s1, s2⟩ := szPuzzle_ev rl w h cl h1 h2
  refine Ev.bind s1 (Ev.cond (fun _ => Ev.now _) fun hn => ?_)
  have hl : cl.length ≤ 1048576 := by
    rcases s2 with s2 | s2
    · exact absurd s2 (of_decide_eq_false hn)
    · exact s2
  obtain ⟨v, ok, hs, hi⟩ := both rl w h cl h1
  have hto := toPuzzle_ev rl w h cl hl
  have heq := eqPuzzle_ev rl w h cl hl
  have ok1 : (!(ok == ok)) = false := by cases ok <;> rfl
  exact Ev.bind hto (Ev.bind hs (Ev.bind hto (Ev.bind hi (Ev.no (by rw [strEq_self]; rfl) (Ev.no ok1 (Ev.bind hto (Ev.bind heq (Ev.no rfl (Ev.now _)))))))))
theorem pure : ∀ d : Dl laws_FnExactSureCells.ins, goodL laws_FnExactSureCells.ins d → ∃ k, laws_FnExactSureCells k d = some true := by
  rintro ⟨rl, w, h, cl⟩ hg
  exact main rl w h cl hg.1 hg.2.2.2.1
end Go.Proofs.YtngfakjifgafeaaDoor.fnExactSureCells
