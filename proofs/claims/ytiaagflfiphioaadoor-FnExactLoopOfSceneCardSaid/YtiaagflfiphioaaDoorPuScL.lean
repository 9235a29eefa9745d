/- Loops of scenes: a scene that is met again. -/
import Derived.Test.YtiaagflfiphioaaDoorMgSc
import Derived.Test.YtiaagflfiphioaaDoorMgTx
import Derived.Test.YtiaagflfiphioaaDoorPuMapS
namespace Go.Proofs.YtiaagflfiphioaaDoorS.Sc
open Go Go.Proofs.YtiaagflfiphioaaDoorS
set_option linter.unusedVariables false
set_option linter.unusedSimpArgs false

/-- What of a scene turns. -/
abbrev ScT := ByteArray × Int × Int × Int × Int
abbrev ScR := Int × Int × Int × Int × ByteArray × Int × Int × Int × Int × Unit
def recOfS (st ti w h : Int) (t : ScT) : ScR := (st, ti, w, h, t.1, t.2.1, t.2.2.1, t.2.2.2.1, t.2.2.2.2, ())
def nums (t : ScT) : List Int := [t.2.1, t.2.2.1, t.2.2.2.1, t.2.2.2.2]
def keyT (t : ScT) : ByteArray := t.1 ++ joinB ((nums t).map fun n => decS n.toNat) (bs [44])
def NumsOk4 (t : ScT) : Prop := ∀ n ∈ nums t, 0 ≤ n ∧ n ≤ 999999999
theorem dec_comma (n : Int) : (44 : UInt8) ∉ (decS n.toNat).data.toList := dec_free _ _ (by decide)
theorem keyT_inj {a b : ScT} (hs : a.1.size = b.1.size) (ha : NumsOk4 a) (hb : NumsOk4 b) (h : keyT a = keyT b) : a = b := by
  have h1 : a.1.data.toList ++ (joinB ((nums a).map fun n => decS n.toNat) (bs [44])).data.toList = b.1.data.toList ++ (joinB ((nums b).map fun n => decS n.toNat) (bs [44])).data.toList := by
    have := congrArg (fun s : ByteArray => s.data.toList) h
    simpa [keyT, ByteArray.data_append] using this
  have hl : a.1.data.toList.length = b.1.data.toList.length := by rw [← size_list, ← size_list, hs]
  obtain ⟨e1, e2⟩ := List.append_inj h1 hl
  have e1 : a.1 = b.1 := by
    apply ByteArray.ext
    exact Array.toList_inj.1 e1
  have e2 : joinB ((nums a).map fun n => decS n.toNat) (bs [44]) = joinB ((nums b).map fun n => decS n.toNat) (bs [44]) := by
    apply ByteArray.ext
    exact Array.toList_inj.1 e2
  have sp := fun (t : ScT) => splitS_joined 44 ((nums t).map fun n => decS n.toNat) (by simp [nums]) (fun x hx => by
    obtain ⟨n, _, rfl⟩ := List.mem_map.1 hx
    exact dec_comma n)
  have e3 : (nums a).map (fun n => decS n.toNat) = (nums b).map fun n => decS n.toNat := by
    rw [← sp a, ← sp b, e2]
  obtain ⟨c1, x1, y1, z1, s1⟩ := a
  obtain ⟨c2, x2, y2, z2, s2⟩ := b
  simp only [nums, List.map_cons, List.map_nil, List.cons.injEq, and_true] at e3
  obtain ⟨g1, g2, g3, g4⟩ := e3
  have k1 := decS_inj g1
  have k2 := decS_inj g2
  have k3 := decS_inj g3
  have k4 := decS_inj g4
  have a1 := ha x1 (by simp [nums])
  have a2 := ha y1 (by simp [nums])
  have a3 := ha z1 (by simp [nums])
  have a4 := ha s1 (by simp [nums])
  have b1 := hb x2 (by simp [nums])
  have b2 := hb y2 (by simp [nums])
  have b3 := hb z2 (by simp [nums])
  have b4 := hb s2 (by simp [nums])
  have e1 : c1 = c2 := e1
  subst e1
  obtain rfl : x1 = x2 := by omega
  obtain rfl : y1 = y2 := by omega
  obtain rfl : z1 = z2 := by omega
  obtain rfl : s1 = s2 := by omega
  rfl
theorem taSame_ev (st ti : Int) (rs : List Rw) (w h st' ti' w' h' : Int) (a b : ScT) : Ev (fun k => spec_taSame k ((st, ti, rs, w, h, a.1, a.2.1, a.2.2.1, a.2.2.2.1, a.2.2.2.2), (st', ti', (), w', h', b.1, b.2.1, b.2.2.1, b.2.2.2.1, b.2.2.2.2))) (decide (a = b)) := by
  obtain ⟨c1, x1, y1, z1, s1⟩ := a
  obtain ⟨c2, x2, y2, z2, s2⟩ := b
  refine Ev.step (fun k => spec_taSame.eq k st ti rs w h c1 x1 y1 z1 s1 st' ti' w' h' c2 x2 y2 z2 s2) ?_
  have ne : ∀ {p : Prop}, ¬ p → ((c1, x1, y1, z1, s1) = ((c2, x2, y2, z2, s2) : ScT) → p) → Ev (fun _ : Nat => some false) (decide ((c1, x1, y1, z1, s1) = ((c2, x2, y2, z2, s2) : ScT))) := fun hp f => Ev.now' (decide_eq_false fun e => hp (f e)).symm
  refine Ev.cond (fun e1 => ?_) (fun e1 => ne (p := c1 = c2) (fun e => by rw [strEq_iff.2 e] at e1; cases e1) (fun e => by cases e; rfl))
  have e1 := strEq_iff.1 e1
  refine Ev.cond (fun e2 => ?_) (fun e2 => ne (p := x1 = x2) (by simpa using e2) (fun e => by cases e; rfl))
  have e2 : x1 = x2 := by simpa using e2
  refine Ev.cond (fun e3 => ?_) (fun e3 => ne (p := y1 = y2) (by simpa using e3) (fun e => by cases e; rfl))
  have e3 : y1 = y2 := by simpa using e3
  refine Ev.cond (fun e4 => ?_) (fun e4 => ne (p := z1 = z2) (by simpa using e4) (fun e => by cases e; rfl))
  have e4 : z1 = z2 := by simpa using e4
  subst e1 e2 e3 e4
  refine Ev.now' ?_
  by_cases hs : s1 = s2
  · subst hs; simp
  · rw [beq_eq_false_iff_ne.2 hs]
    exact (decide_eq_false fun e => hs (by cases e; rfl)).symm
/-- The map of the scenes that were met. -/
def seenL (hist : List ScT) : List (ByteArray × Int) := hist.zipIdx.map fun (t, i) => (keyT t, (i : Int))
theorem seenL_snoc (hist : List ScT) (t : ScT) : seenL (hist ++ [t]) = seenL hist ++ [(keyT t, (hist.length : Int))] := by
  simp [seenL, List.zipIdx_append]
theorem seenL_get (hist : List ScT) (i : Nat) : (seenL hist)[i]? = (hist[i]?).map fun t => (keyT t, (i : Int)) := by
  simp [seenL, List.getElem?_zipIdx]
  cases hist[i]? <;> rfl
theorem mem_seenL {hist : List ScT} {e : ByteArray × Int} (h : e ∈ seenL hist) : ∃ t ∈ hist, e.1 = keyT t := by
  obtain ⟨⟨t, i⟩, h1, rfl⟩ := List.mem_map.1 h
  exact ⟨t, (List.mem_zipIdx_iff_getElem?.1 h1 |> List.mem_of_getElem?), rfl⟩
section
variable (st ti : Int) (rs : List Rw) (w h : Int)
/-- The inner loop of the reference. -/
theorem looks_ev (hist : List ScT) (hl : hist.length ≤ 1000) (cur : ScT) (n : Int) (hn : 0 ≤ n ∧ n ≤ 1000) :
    ((∀ t ∈ hist, t ≠ cur) ∧ Ev (fun k => spec_LoopOfScene_l_l k (hist.map (recOfS st ti w h), (st, ti, rs, w, h, cur.1, cur.2.1, cur.2.2.1, cur.2.2.2.1, cur.2.2.2.2), n, (), (hist.length : Int), 0)) (.inr (hist.map (recOfS st ti w h), (st, ti, rs, w, h, cur.1, cur.2.1, cur.2.2.1, cur.2.2.2.1, cur.2.2.2.2), n))) ∨
    ∃ j : Nat, hist[j]? = some cur ∧ (∀ l, l < j → hist[l]? ≠ some cur) ∧ Ev (fun k => spec_LoopOfScene_l_l k (hist.map (recOfS st ti w h), (st, ti, rs, w, h, cur.1, cur.2.1, cur.2.2.1, cur.2.2.2.1, cur.2.2.2.2), n, (), (hist.length : Int), 0)) (.inl ((j : Int), w64 (n - (j : Int)), true)) := by
  have one : ∀ i : Nat, i < hist.length → ∃ t, hist[i]? = some t ∧ ∀ r, Ev (fun k => (some (decide (cur = t))).bind fun r1 => cond r1 (some (.inl ((i : Int), (w64 (n - (i : Int))), true))) (spec_LoopOfScene_l_l k (hist.map (recOfS st ti w h), (st, ti, rs, w, h, cur.1, cur.2.1, cur.2.2.1, cur.2.2.2.1, cur.2.2.2.2), n, (), (hist.length : Int), ((i + 1 : Nat) : Int)))) r →
      Ev (fun k => spec_LoopOfScene_l_l k (hist.map (recOfS st ti w h), (st, ti, rs, w, h, cur.1, cur.2.1, cur.2.2.1, cur.2.2.2.1, cur.2.2.2.2), n, (), (hist.length : Int), (i : Int))) r := fun i hi => by
    obtain ⟨t, ht⟩ := nat_list (l := hist) (i := i) hi
    refine ⟨t, ht, fun r H => Ev.step (fun k => spec_LoopOfScene_l_l.eq k _ st ti rs w h cur.1 cur.2.1 cur.2.2.1 cur.2.2.2.1 cur.2.2.2.2 n (hist.length : Int) (i : Int)) ?_⟩
    refine Ev.yes (lt_nat hi) (Ev.yes (inB_nat (by rw [List.length_map]; exact hi)) ?_)
    have hg : (hist.map (recOfS st ti w h)).getD (i : Int).toNat default = recOfS st ti w h t := getD_at (by rw [Int.toNat_natCast, List.getElem?_map, ht]; rfl)
    rw [hg, w64_succ (by omega)]
    exact Ev.bind (taSame_ev st ti rs w h st ti w h cur t) H
  rcases Ev.search (L := fun k i => spec_LoopOfScene_l_l k (hist.map (recOfS st ti w h), (st, ti, rs, w, h, cur.1, cur.2.1, cur.2.2.1, cur.2.2.2.1, cur.2.2.2.2), n, (), (hist.length : Int), i)) (n := hist.length) (fun i => hist[i]? = some cur) (fun i => .inl ((i : Int), w64 (n - (i : Int)), true)) (.inr (hist.map (recOfS st ti w h), (st, ti, rs, w, h, cur.1, cur.2.1, cur.2.2.1, cur.2.2.2.1, cur.2.2.2.2), n))
    (fun i hi hp r H => by
      obtain ⟨t, ht, g⟩ := one i hi
      refine g r ?_
      have hne : decide (cur = t) = false := decide_eq_false fun e => hp (by rw [ht, e])
      exact Ev.bind (Ev.now _) (Ev.no hne H))
    (fun i hi hp => by
      obtain ⟨t, ht, g⟩ := one i hi
      refine g _ ?_
      rw [hp] at ht
      have ht := Option.some.inj ht
      exact Ev.bind (Ev.now _) (Ev.yes (decide_eq_true ht) (Ev.now _)))
    (Ev.step (fun k => spec_LoopOfScene_l_l.eq k _ st ti rs w h cur.1 cur.2.1 cur.2.2.1 cur.2.2.2.1 cur.2.2.2.2 n (hist.length : Int) (hist.length : Int)) (Ev.no (not_lt_nat (Nat.lt_irrefl _)) (Ev.now _))) hist.length 0 (by omega) with ⟨h1, h2⟩ | ⟨j, _, h2, h3, h4, h5⟩
  · refine .inl ⟨fun t ht e => ?_, h2⟩
    obtain ⟨i, hi, rfl⟩ := List.mem_iff_getElem.1 ht
    exact h1 i (Nat.zero_le _) hi (by rw [List.getElem?_eq_getElem hi, e])
  · exact .inr ⟨j, h3, fun l hl => h4 l (Nat.zero_le _) hl, h5⟩
/-- A scene that goes on. -/
def Goes (a b : ScT) : Prop := Ev (fun k => impl_Scene_step k (st, ti, rs, w, h, a.1, a.2.1, a.2.2.1, a.2.2.2.1, a.2.2.2.2)) (st, ti, rs, w, h, b.1, b.2.1, b.2.2.1, b.2.2.2.1, b.2.2.2.2) ∧
  Ev (fun k => spec_taStep k (st, ti, rs, w, h, a.1, a.2.1, a.2.2.1, a.2.2.2.1, a.2.2.2.2)) ((), (st, ti, rs, w, h, b.1, b.2.1, b.2.2.1, b.2.2.2.1, b.2.2.2.2))
def OkT (a : ScT) : Prop := SceneOk st ti rs w h a.1 a.2.1 a.2.2.1 a.2.2.2.1 a.2.2.2.2
theorem goes (a : ScT) (H : OkT st ti rs w h a) : ∃ b, Goes st ti rs w h a b ∧ OkT st ti rs w h b := by
  obtain ⟨c, x, y, z, s, h1, h2, h3⟩ := step_ev st ti rs w h a.1 a.2.1 a.2.2.1 a.2.2.2.1 a.2.2.2.2 H
  exact ⟨(c, x, y, z, s), ⟨h1, h2⟩, h3⟩
theorem okT_nums {a : ScT} (H : OkT st ti rs w h a) : NumsOk4 a ∧ (a.1.size : Int) = w * h ∧ (1 ≤ w ∧ w ≤ 9) ∧ (1 ≤ h ∧ h ≤ 9) := by
  obtain ⟨hT, hw, hh, hs, hcs, hx, hy, hwy, hsa⟩ := H
  obtain ⟨hst, _⟩ := hT
  refine ⟨fun n hn => ?_, hs, hw, hh⟩
  simp only [nums, List.mem_cons, List.not_mem_nil, or_false] at hn
  rcases hn with rfl | rfl | rfl | rfl <;> omega
theorem key_iff {a b : ScT} (ha : OkT st ti rs w h a) (hb : OkT st ti rs w h b) : keyT a = keyT b ↔ a = b := by
  refine ⟨fun e => ?_, fun e => by rw [e]⟩
  obtain ⟨n1, s1, _⟩ := okT_nums st ti rs w h ha
  obtain ⟨n2, s2, _⟩ := okT_nums st ti rs w h hb
  exact keyT_inj (by omega) n1 n2 e
theorem key_ev (cur : ScT) (H : OkT st ti rs w h cur) : Ev (fun k => impl_listText k (bs [44], [cur.2.1, cur.2.2.1, cur.2.2.2.1, cur.2.2.2.2])) (joinB ((nums cur).map fun n => decS n.toNat) (bs [44])) ∧
    fitS cur.1 (joinB ((nums cur).map fun n => decS n.toNat) (bs [44])) = true := by
  obtain ⟨n1, s1, hw, hh⟩ := okT_nums st ti rs w h H
  have := mul_range hw.1 hw.2 hh.1 hh.2
  have hz : (bs [44]).size = 1 := rfl
  refine ⟨listText_ev (bs [44]) (nums cur) (by simp [nums]) (by rw [hz]; omega) n1, fitS_of ?_⟩
  have := joinB_size (bs [44]) 10 ((nums cur).map fun n => decS n.toNat) (fun x hx => by
    obtain ⟨n, hn, rfl⟩ := List.mem_map.1 hx
    have := n1 n hn
    have := decS_size (n := n.toNat) (by omega)
    rw [hz]
    omega)
  have hl : ((nums cur).map fun n => decS n.toNat).length = 4 := rfl
  rw [hl] at this
  omega
theorem loops_ev : ∀ (m n : Nat) (hist : List ScT) (prev cur : ScT), n + m = 601 → 1 ≤ n → hist.length = n → (∀ t ∈ hist, OkT st ti rs w h t) → OkT st ti rs w h cur → Goes st ti rs w h prev cur →
    ∃ r, Ev (fun k => impl_LoopOfScene_l k ((st, ti, rs, w, h, cur.1, cur.2.1, cur.2.2.1, cur.2.2.2.1, cur.2.2.2.2), seenL hist, (n : Int))) r ∧
      Ev (fun k => spec_LoopOfScene_l k (hist.map (recOfS st ti w h), (st, ti, rs, w, h, prev.1, prev.2.1, prev.2.2.1, prev.2.2.2.1, prev.2.2.2.2), (n : Int))) r
  | 0, n, hist, prev, cur, hm, h1, hl, hok, hc, hg => by
    have e : n = 601 := by omega
    subst e
    exact ⟨.inr (), Ev.step (fun k => impl_LoopOfScene_l.eq k st ti rs w h cur.1 cur.2.1 cur.2.2.1 cur.2.2.2.1 cur.2.2.2.2 (seenL hist) 601) (Ev.no rfl (Ev.now _)),
      Ev.step (fun k => spec_LoopOfScene_l.eq k _ st ti rs w h prev.1 prev.2.1 prev.2.2.1 prev.2.2.2.1 prev.2.2.2.2 601) (Ev.no rfl (Ev.now _))⟩
  | m + 1, n, hist, prev, cur, hm, h1, hl, hok, hc, hg => by
    obtain ⟨kt, kf⟩ := key_ev st ti rs w h cur hc
    have lt1 : decide ((n : Int) < 601) = true := decide_eq_true (by omega)
    have lt2 : decide ((n : Int) ≤ 600) = true := decide_eq_true (by omega)
    have impl : ∀ r, Ev (fun k => cond (mhas (K := ByteArray) (α := Int) (Sh.eqT .str) (seenL hist) (keyT cur)) (some (.inl ((mget (K := ByteArray) (α := Int) (Sh.eqT .str) (seenL hist) (keyT cur) 0), (w64 ((n : Int) - (mget (K := ByteArray) (α := Int) (Sh.eqT .str) (seenL hist) (keyT cur) 0))), true)))
        ((impl_Scene_step k (st, ti, rs, w, h, cur.1, cur.2.1, cur.2.2.1, cur.2.2.2.1, cur.2.2.2.2)).bind fun r2 => impl_LoopOfScene_l k (r2, (mput (K := ByteArray) (α := Int) (Sh.eqT .str) (seenL hist) (keyT cur) (n : Int)), (w64 ((n : Int) + 1))))) r →
        Ev (fun k => impl_LoopOfScene_l k ((st, ti, rs, w, h, cur.1, cur.2.1, cur.2.2.1, cur.2.2.2.1, cur.2.2.2.2), seenL hist, (n : Int))) r := fun r H =>
      Ev.step (fun k => impl_LoopOfScene_l.eq k st ti rs w h cur.1 cur.2.1 cur.2.2.1 cur.2.2.2.1 cur.2.2.2.2 (seenL hist) (n : Int)) (Ev.yes lt1 (Ev.bind kt (Ev.yes kf H)))
    have spec : ∀ r, Ev (fun k => (spec_LoopOfScene_l_l k (hist.map (recOfS st ti w h), (st, ti, rs, w, h, cur.1, cur.2.1, cur.2.2.1, cur.2.2.2.1, cur.2.2.2.2), (n : Int), (), ((hist.map (recOfS st ti w h)).length : Int), 0)).bind fun r2 => r2.elim (fun r3 => some (.inl r3)) (fun r4 => cond (fits (r4.1.length + 1) 104) (spec_LoopOfScene_l k ((r4.1 ++ [(r4.2.1.1, r4.2.1.2.1, r4.2.1.2.2.2.1, r4.2.1.2.2.2.2.1, r4.2.1.2.2.2.2.2.1, r4.2.1.2.2.2.2.2.2.1, r4.2.1.2.2.2.2.2.2.2.1, r4.2.1.2.2.2.2.2.2.2.2.1, r4.2.1.2.2.2.2.2.2.2.2.2, ())]), r4.2.1, (w64 (r4.2.2 + 1)))) none)) r →
        Ev (fun k => spec_LoopOfScene_l k (hist.map (recOfS st ti w h), (st, ti, rs, w, h, prev.1, prev.2.1, prev.2.2.1, prev.2.2.2.1, prev.2.2.2.2), (n : Int))) r := fun r H =>
      Ev.step (fun k => spec_LoopOfScene_l.eq k _ st ti rs w h prev.1 prev.2.1 prev.2.2.1 prev.2.2.2.1 prev.2.2.2.2 (n : Int)) (Ev.yes lt2 (Ev.bind hg.2 H))
    have hlen : ((hist.map (recOfS st ti w h)).length : Int) = (hist.length : Int) := by rw [List.length_map]
    rw [hlen] at spec
    rcases looks_ev st ti rs w h hist (by omega) cur (n : Int) (by omega) with ⟨hne, hev⟩ | ⟨j, hj, hjl, hev⟩
    · have hnew : ∀ e ∈ seenL hist, e.1 ≠ keyT cur := fun e he q => by
        obtain ⟨t, ht, e2⟩ := mem_seenL he
        rw [e2] at q
        exact hne t ht ((key_iff st ti rs w h (hok t ht) hc).1 q)
      obtain ⟨nxt, hgn, hon⟩ := goes st ti rs w h cur hc
      obtain ⟨r, i1, i2⟩ := loops_ev m (n + 1) (hist ++ [cur]) cur nxt (by omega) (by omega) (by simp [hl]) (fun t ht => by
        rcases List.mem_append.1 ht with ht | ht
        · exact hok t ht
        · simp at ht; subst ht; exact hc) hon hgn
      refine ⟨r, impl r (Ev.no (mhas_fresh (fun _ _ => seS_iff) hnew) (Ev.bind hgn.1 ?_)), spec r (Ev.bind hev ?_)⟩
      · rw [mput_fresh (fun _ _ => seS_iff) _ hnew, w64_succ (by omega)]
        rw [seenL_snoc, hl] at i1
        exact i1
      · refine Ev.yes (fits_of ?_) ?_
        · simp only [List.length_map]; omega
        · rw [List.map_append] at i2
          rw [w64_succ (by omega)]
          exact i2
    · have hin : mhas (K := ByteArray) (α := Int) (Sh.eqT .str) (seenL hist) (keyT cur) = true := mhas_there (fun _ _ => seS_iff) ⟨(keyT cur, (j : Int)), List.mem_of_getElem? (by rw [seenL_get, hj]; rfl), rfl⟩
      have hget : mget (K := ByteArray) (α := Int) (Sh.eqT .str) (seenL hist) (keyT cur) 0 = (j : Int) := mget_first (fun _ _ => seS_iff) (i := j) (by rw [seenL_get, hj]; rfl) (fun l hl e he q => by
        rw [seenL_get] at he
        cases hh : hist[l]? with
        | none => rw [hh] at he; cases he
        | some t =>
          rw [hh] at he
          have he := Option.some.inj he
          rw [← he] at q
          have := (key_iff st ti rs w h (hok t (List.mem_of_getElem? hh)) hc).1 q
          exact hjl l hl (by rw [hh, this]))
      refine ⟨.inl ((j : Int), w64 ((n : Int) - (j : Int)), true), impl _ (Ev.yes hin (Ev.now' (by rw [hget]))), spec _ (Ev.bind hev (Ev.now _))⟩
end
theorem loopOfScene_ev (st ti : Int) (rs : List Rw) (w h : Int) (cs : ByteArray) (x y wy sa : Int) (hl : rs.length ≤ 1048576) (hc : cs.size ≤ 9223372036854775807) :
    ∃ a b ok, Ev (fun k => spec_LoopOfScene k (st, ti, rs, w, h, cs, x, y, wy, sa)) (a, b, ok) ∧ Ev (fun k => impl_LoopOfScene k (st, ti, rs, w, h, cs, x, y, wy, sa)) (a, b, ok) := by
  by_cases H : SceneOk st ti rs w h cs x y wy sa
  · have s1 := (taScene_ev st ti rs w h cs x y wy sa hl).isT H
    have i1 := (isScene_ev st ti rs w h cs x y wy sa hl hc).isT H
    have H0 : OkT st ti rs w h (cs, x, y, wy, sa) := H
    obtain ⟨nxt, hg, hon⟩ := goes st ti rs w h (cs, x, y, wy, sa) H0
    obtain ⟨r, r1, r2⟩ := loops_ev st ti rs w h 600 1 [(cs, x, y, wy, sa)] (cs, x, y, wy, sa) nxt rfl (Nat.le_refl _) rfl (fun t ht => by simp at ht; subst ht; exact H0) hon hg
    obtain ⟨kt, kf⟩ := key_ev st ti rs w h (cs, x, y, wy, sa) H0
    have first : Ev (fun k => impl_LoopOfScene_l k ((st, ti, rs, w, h, cs, x, y, wy, sa), [], 0)) r :=
      Ev.step (fun k => impl_LoopOfScene_l.eq k st ti rs w h cs x y wy sa [] 0) (Ev.yes rfl (Ev.bind kt (Ev.yes kf (Ev.no rfl (Ev.bind hg.1 r1)))))
    cases r with
    | inl r =>
      obtain ⟨a, b, ok⟩ := r
      exact ⟨a, b, ok, Ev.step (fun k => spec_LoopOfScene.eq k st ti rs w h cs x y wy sa) (Ev.bind s1 (Ev.no rfl (Ev.bind (taOwn_ev st ti rs w h cs x y wy sa hl) (Ev.bind r2 (Ev.now _))))), Ev.step (fun k => impl_LoopOfScene.eq k st ti rs w h cs x y wy sa) (Ev.bind i1 (Ev.no rfl (Ev.bind first (Ev.now _))))⟩
    | inr u =>
      exact ⟨0, 0, false, Ev.step (fun k => spec_LoopOfScene.eq k st ti rs w h cs x y wy sa) (Ev.bind s1 (Ev.no rfl (Ev.bind (taOwn_ev st ti rs w h cs x y wy sa hl) (Ev.bind r2 (Ev.now _))))), Ev.step (fun k => impl_LoopOfScene.eq k st ti rs w h cs x y wy sa) (Ev.bind i1 (Ev.no rfl (Ev.bind first (Ev.now _))))⟩
  · have s1 := (taScene_ev st ti rs w h cs x y wy sa hl).isF H
    have i1 := (isScene_ev st ti rs w h cs x y wy sa hl hc).isF H
    exact ⟨0, 0, false, Ev.step (fun k => spec_LoopOfScene.eq k st ti rs w h cs x y wy sa) (Ev.bind s1 (Ev.yes rfl (Ev.now _))), Ev.step (fun k => impl_LoopOfScene.eq k st ti rs w h cs x y wy sa) (Ev.bind i1 (Ev.yes rfl (Ev.now _)))⟩
end Go.Proofs.YtiaagflfiphioaaDoorS.Sc
