/- Several texts in one: PuMiG, PuMiS, PuMiT, PuMiU, PuMiV, PuMiW, PuMiX. -/
import Derived.Test.YtcmebphcoamohaaGreatDoorMgMa
namespace Go.Proofs.YtcmebphcoamohaaGreatDoorS
open Go
set_option linter.unusedVariables false
set_option linter.unusedSimpArgs false
theorem entryI_ev {m : MzT} {k : Int} (hM : OkMz m) (hk : 0 ≤ k ∧ k < 2 * (m.1 + m.2.1)) : Ev (fun n => impl_EntryOf n (m, k)) (entryB m.1 m.2.1 k, true) := by
  have hz := hM.size
  have iE := (isEnd_ev m k (by omega)).isT ⟨hM, hk⟩
  obtain ⟨w, h, cs, t⟩ := m
  exact Ev.step (fun n => impl_EntryOf.eq n w h cs t k) (Ev.bind iE (Ev.no rfl (Ev.bind (entries_ev hM.1 hM.2.1 cs t hk).1 (Ev.now _))))
theorem fate_at {m : MzT} {b : BaT} (H : OkBa m b) {n : Nat} (ho : OutsM m b n) : Ev (fun k => impl_Maze_pass k (m, b)) ((m.1, m.2.1, (endM m b n).1, m.2.2.2, outM m b n, hitsM m b n, (n : Int)), true) ∧ Ev (fun k => spec_miRun k (m, b)) (mazeM m b n, outM m b n, hitsM m b n, (n : Int), true) ∧ n ≤ 1000000 := by
  rcases fate H with ⟨n', h1, h2, h3, h4⟩ | ⟨h1, _⟩
  · obtain rfl : n' = n := out_one h2 ho
    exact ⟨h3, h4, h1⟩
  · exfalso
    obtain ⟨w, h, cs, t⟩ := m
    obtain ⟨rfl, h1⟩ : t = false ∧ _ := h1
    exact (out_stay.1 ho).2 (h1 n)
theorem passI_ev {m : MzT} {b : BaT} (H : OkBa m b) {n : Nat} (ho : OutsM m b n) : Ev (fun k => impl_passOf k (m, b)) ((m.1, m.2.1, (endM m b n).1, m.2.2.2, outM m b n, hitsM m b n, (n : Int)), true) := by
  have hz := H.1.size
  have iB := (isBall_ev m b (by omega)).isT H
  have h1 := (fate_at H ho).1
  obtain ⟨w, h, cs, t⟩ := m
  obtain ⟨x, y, wy⟩ := b
  exact Ev.step (fun k => impl_passOf.eq k w h cs t x y wy) (Ev.bind iB (Ev.no rfl (Ev.bind h1 (Ev.now _))))
theorem exitI_ev {m : MzT} {b : BaT} (H : OkBa m b) {n : Nat} (ho : OutsM m b n) : Ev (fun k => impl_ExitOf k (m, b)) (outM m b n, true) := by
  have h1 := passI_ev H ho
  obtain ⟨w, h, cs, t⟩ := m
  obtain ⟨x, y, wy⟩ := b
  exact Ev.step (fun k => impl_ExitOf.eq k w h cs t x y wy) (Ev.bind h1 (Ev.now _))
theorem afterI_ev {m : MzT} {b : BaT} (H : OkBa m b) {n : Nat} (ho : OutsM m b n) : Ev (fun k => impl_MazeAfterBall k (m, b)) (mazeM m b n, true) := by
  have h1 := passI_ev H ho
  obtain ⟨w, h, cs, t⟩ := m
  obtain ⟨x, y, wy⟩ := b
  exact Ev.step (fun k => impl_MazeAfterBall.eq k w h cs t x y wy) (Ev.bind h1 (Ev.now _))
theorem maze_ok {m : MzT} {b : BaT} (H : OkBa m b) {n : Nat} (ho : OutsM m b n) : OkMz (mazeM m b n) := (out_near (w := m.1) (h := m.2.1) (s := (m.2.2.1, b)) (t := m.2.2.2) H ho).2.2.2.2
theorem tableI_l_ev {m : MzT} (hM : OkMz m) (N : Nat) (hN : (N : Int) = 2 * (m.1 + m.2.1)) : ∀ (r i : Nat) (out : List Int), i + r = N → out.length = i → (∀ j : Nat, j < i → ∃ e, out[j]? = some e ∧ OutTo m (entryB m.1 m.2.1 (j : Int)) e ∧ (0 ≤ e ∧ e < 2 * (m.1 + m.2.1))) →
    ∃ T, TabOf m T ∧ Ev (fun k => impl_ExitTable_l k (m, out, 2 * (m.1 + m.2.1), (i : Int))) T := by
  have hw := hM.1
  have hh := hM.2.1
  intro r
  induction r with
  | zero =>
    intro i out h1 h2 h3
    obtain rfl : i = N := by omega
    refine ⟨out, ⟨by omega, fun j hj => h3 j (by omega)⟩, ?_⟩
    obtain ⟨w, h, cs, t⟩ := m
    exact Ev.step (fun k => impl_ExitTable_l.eq k w h cs t out _ _) (Ev.no (decide_eq_false (by omega)) (Ev.now _))
  | succ r ih =>
    intro i out h1 h2 h3
    have hk : 0 ≤ (i : Int) ∧ (i : Int) < 2 * (m.1 + m.2.1) := by omega
    obtain ⟨n, _, n1, n2, n3⟩ := entry_fate hM hk
    have hr := outM_range (entry_okBa hM hk) n1
    obtain ⟨T, T1, T2⟩ := ih (i + 1) (out ++ [outM m (entryB m.1 m.2.1 (i : Int)) n]) (by omega) (by rw [List.length_append, h2]; rfl) (fun j hj => by
      by_cases hji : j < i
      · obtain ⟨e, e1, e2⟩ := h3 j hji
        exact ⟨e, by rw [List.getElem?_append_left (by omega)]; exact e1, e2⟩
      · obtain rfl : j = i := by omega
        exact ⟨_, by rw [List.getElem?_append_right (by omega), h2, Nat.sub_self]; rfl, ⟨n, n1, rfl⟩, hr.2⟩)
    obtain ⟨e1, e2⟩ := entries_ev hw hh m.2.2.1 m.2.2.2 hk
    have hf : fits (out.length + 1) 8 = true := fits_of (by omega)
    have hs : w64 ((i : Int) + 1) = ((i + 1 : Nat) : Int) := w64_succ (by omega)
    refine ⟨T, T1, ?_⟩
    obtain ⟨w, h, cs, t⟩ := m
    refine Ev.step (fun k => impl_ExitTable_l.eq k w h cs t out _ _) (Ev.yes (decide_eq_true (by simp only at hk ⊢; omega)) (Ev.bind e1 (Ev.bind n2 (Ev.yes hf ?_))))
    rw [hs]
    exact T2
theorem tableI_ev {m : MzT} (hM : OkMz m) : ∃ T, TabOf m T ∧ Ev (fun k => impl_ExitTable k m) (T, true) := by
  have hz := hM.size
  have iM := isMaze_ev m.1 m.2.1 m.2.2.1 m.2.2.2 (by omega)
  have hw := hM.1
  have hh := hM.2.1
  obtain ⟨T, T1, T2⟩ := tableI_l_ev hM (2 * (m.1 + m.2.1)).toNat (by omega) (2 * (m.1 + m.2.1)).toNat 0 [] (by omega) rfl (fun j hj => by omega)
  refine ⟨T, T1, ?_⟩
  obtain ⟨w, h, cs, t⟩ := m
  exact Ev.step (fun k => impl_ExitTable.eq k w h cs t) (Ev.bind (iM.isT hM) (Ev.no rfl (Ev.bind (ends_ev hw hh cs t) (Ev.bind T2 (Ev.now _)))))
def othM (c : UInt8) : UInt8 := if c = 90 then 83 else if c = 83 then 90 else c
theorem othM_othM (c : UInt8) : othM (othM c) = c := by
  unfold othM
  by_cases h1 : c = 90
  · subst h1; rfl
  · by_cases h2 : c = 83
    · subst h2; rfl
    · simp only [if_neg h1, if_neg h2]
theorem signM_oth {c : UInt8} (h : SignM c) : SignM (othM c) := by
  rcases h with rfl | rfl | rfl
  · exact .inl rfl
  · exact .inr (.inr rfl)
  · exact .inr (.inl rfl)
def InM (w h x y : Int) : Prop := (0 ≤ x ∧ x ≤ w - 1) ∧ (0 ≤ y ∧ y ≤ h - 1)
theorem atM_inj {x y x' y' w : Int} (hx : 0 ≤ x ∧ x ≤ w - 1) (hx' : 0 ≤ x' ∧ x' ≤ w - 1) : y * w + x = y' * w + x' ↔ x = x' ∧ y = y' := by
  constructor
  · intro h
    have key : ∀ a b c d : Int, 0 ≤ c → c ≤ w - 1 → 0 ≤ d → d ≤ w - 1 → a * w + c = b * w + d → ¬ a < b := fun a b c d h1 h2 h3 h4 h5 h6 => by
      have := Int.mul_le_mul_of_nonneg_right (show a + 1 ≤ b by omega) (show 0 ≤ w by omega)
      rw [Int.add_mul, Int.one_mul] at this
      omega
    have k1 := key y y' x x' hx.1 hx.2 hx'.1 hx'.2 h
    have k2 := key y' y x' x hx'.1 hx'.2 hx.1 hx.2 h.symm
    obtain rfl : y = y' := by omega
    exact ⟨by omega, rfl⟩
  · rintro ⟨rfl, rfl⟩
    rfl
theorem cellM_of {w h : Int} (hw : 1 ≤ w ∧ w ≤ 9) (hh : 1 ≤ h ∧ h ≤ 9) (i : Nat) (hi : (i : Int) < w * h) : InM w h ((i : Int) % w) ((i : Int) / w) ∧ ((i : Int) / w * w + (i : Int) % w).toNat = i := by
  refine ⟨⟨⟨Int.emod_nonneg _ (by omega), by have := Int.emod_lt_of_pos (i : Int) (show 0 < w by omega); omega⟩, Int.ediv_nonneg (by omega) (by omega), ?_⟩, ?_⟩
  · have : (i : Int) / w < h := Int.ediv_lt_of_lt_mul (by omega) (by rw [Int.mul_comm]; exact hi)
    omega
  · have := Int.mul_ediv_add_emod (i : Int) w
    rw [Int.mul_comm] at this
    omega
theorem baM_ext {w h : Int} (hw : 1 ≤ w ∧ w ≤ 9) (hh : 1 ≤ h ∧ h ≤ 9) {a b : ByteArray} (ha : (a.size : Int) = w * h) (hb : (b.size : Int) = w * h) (he : ∀ x y, InM w h x y → a.data.toList[(y * w + x).toNat]? = b.data.toList[(y * w + x).toNat]?) : a = b := by
  apply ba_ext
  apply List.ext_getElem?
  intro i
  by_cases hi : (i : Int) < w * h
  · obtain ⟨hr, e⟩ := cellM_of hw hh i hi
    have := he _ _ hr
    rwa [e] at this
  · rw [List.getElem?_eq_none (by rw [← size_list]; omega), List.getElem?_eq_none (by rw [← size_list]; omega)]
structure SymM where
  f : Int → Int → Int × Int
  g : Int → Int → Int × Int
  wf : Int → Int
structure SymMOk (S : SymM) (w h w' h' : Int) : Prop where
  fwd : ∀ x y, InM w h x y ↔ InM w' h' (S.f x y).1 (S.f x y).2
  gf : ∀ x y, S.g (S.f x y).1 (S.f x y).2 = (x, y)
  fg : ∀ a b, S.f (S.g a b).1 (S.g a b).2 = (a, b)
  way : ∀ v, 0 ≤ v ∧ v ≤ 3 → 0 ≤ S.wf v ∧ S.wf v ≤ 3
  dir : ∀ x y v, 0 ≤ v ∧ v ≤ 3 → S.f (x + dxW v) (y + dyW v) = ((S.f x y).1 + dxW (S.wf v), (S.f x y).2 + dyW (S.wf v))
  dib : ∀ x y v, 0 ≤ v ∧ v ≤ 3 → S.f (x - dxW v) (y - dyW v) = ((S.f x y).1 - dxW (S.wf v), (S.f x y).2 - dyW (S.wf v))
  tz : ∀ v, 0 ≤ v ∧ v ≤ 3 → turnB 83 (S.wf v) = S.wf (turnB 90 v)
  ts : ∀ v, 0 ≤ v ∧ v ≤ 3 → turnB 90 (S.wf v) = S.wf (turnB 83 v)
  bk : ∀ v, 0 ≤ v ∧ v ≤ 3 → backW (S.wf v) = S.wf (backW v)
  wi : ∀ v u, 0 ≤ v ∧ v ≤ 3 → 0 ≤ u ∧ u ≤ 3 → S.wf v = S.wf u → v = u
def turnM (h : Int) : SymM := ⟨fun x y => (h - 1 - y, x), fun a b => (b, h - 1 - a), fun v => if v = 3 then 0 else v + 1⟩
def untM (h : Int) : SymM := ⟨fun a b => (b, h - 1 - a), fun x y => (h - 1 - y, x), fun v => if v = 0 then 3 else v - 1⟩
def mirM (w : Int) : SymM := ⟨fun x y => (w - 1 - x, y), fun x y => (w - 1 - x, y), fun v => if v = 1 then 3 else if v = 3 then 1 else v⟩
theorem ways_of {v : Int} (h : 0 ≤ v ∧ v ≤ 3) : v = 0 ∨ v = 1 ∨ v = 2 ∨ v = 3 := by omega
theorem turnM_ok (w h : Int) : SymMOk (turnM h) w h h w where
  fwd := fun x y => by simp only [InM, turnM]; omega
  gf := fun x y => by simp only [turnM]; exact Prod.ext rfl (by show h - 1 - (h - 1 - y) = y; omega)
  fg := fun x y => by simp only [turnM]; exact Prod.ext (by show h - 1 - (h - 1 - x) = x; omega) rfl
  way := fun v hv => by simp only [turnM]; split <;> omega
  dir := fun x y v hv => by rcases ways_of hv with rfl | rfl | rfl | rfl <;> simp [turnM, dxW, dyW] <;> omega
  dib := fun x y v hv => by rcases ways_of hv with rfl | rfl | rfl | rfl <;> simp [turnM, dxW, dyW] <;> omega
  tz := fun v hv => by rcases ways_of hv with rfl | rfl | rfl | rfl <;> rfl
  ts := fun v hv => by rcases ways_of hv with rfl | rfl | rfl | rfl <;> rfl
  bk := fun v hv => by rcases ways_of hv with rfl | rfl | rfl | rfl <;> rfl
  wi := fun v u hv hu => by simp only [turnM]; split <;> split <;> omega
theorem untM_ok (w h : Int) : SymMOk (untM h) h w w h where
  fwd := fun x y => by simp only [InM, untM]; omega
  gf := fun x y => by simp only [untM]; exact Prod.ext (by show h - 1 - (h - 1 - x) = x; omega) rfl
  fg := fun x y => by simp only [untM]; exact Prod.ext rfl (by show h - 1 - (h - 1 - y) = y; omega)
  way := fun v hv => by simp only [untM]; split <;> omega
  dir := fun x y v hv => by rcases ways_of hv with rfl | rfl | rfl | rfl <;> simp [untM, dxW, dyW] <;> omega
  dib := fun x y v hv => by rcases ways_of hv with rfl | rfl | rfl | rfl <;> simp [untM, dxW, dyW] <;> omega
  tz := fun v hv => by rcases ways_of hv with rfl | rfl | rfl | rfl <;> rfl
  ts := fun v hv => by rcases ways_of hv with rfl | rfl | rfl | rfl <;> rfl
  bk := fun v hv => by rcases ways_of hv with rfl | rfl | rfl | rfl <;> rfl
  wi := fun v u hv hu => by simp only [untM]; split <;> split <;> omega
theorem mirM_ok (w h : Int) : SymMOk (mirM w) w h w h where
  fwd := fun x y => by simp only [InM, mirM]; omega
  gf := fun x y => by simp only [mirM]; exact Prod.ext (by show w - 1 - (w - 1 - x) = x; omega) rfl
  fg := fun x y => by simp only [mirM]; exact Prod.ext (by show w - 1 - (w - 1 - x) = x; omega) rfl
  way := fun v hv => by simp only [mirM]; split <;> (try split) <;> omega
  dir := fun x y v hv => by rcases ways_of hv with rfl | rfl | rfl | rfl <;> simp [mirM, dxW, dyW] <;> omega
  dib := fun x y v hv => by rcases ways_of hv with rfl | rfl | rfl | rfl <;> simp [mirM, dxW, dyW] <;> omega
  tz := fun v hv => by rcases ways_of hv with rfl | rfl | rfl | rfl <;> rfl
  ts := fun v hv => by rcases ways_of hv with rfl | rfl | rfl | rfl <;> rfl
  bk := fun v hv => by rcases ways_of hv with rfl | rfl | rfl | rfl <;> rfl
  wi := fun v u hv hu => by
    rcases ways_of hv with rfl | rfl | rfl | rfl <;> rcases ways_of hu with rfl | rfl | rfl | rfl <;> simp [mirM]
/-- A maze's cells are the other one's picture, with both mirrors exchanged. -/
def PicM (S : SymM) (w h : Int) (cs : ByteArray) (w' h' : Int) (cs' : ByteArray) : Prop := (cs'.size : Int) = w' * h' ∧ ∀ a b, InM w h a b → ∃ c, cs.data.toList[(b * w + a).toNat]? = some c ∧ cs'.data.toList[((S.f a b).2 * w' + (S.f a b).1).toNat]? = some (othM c)
def picB (S : SymM) (b : BaT) : BaT := ((S.f b.1 b.2.1).1, (S.f b.1 b.2.1).2, S.wf b.2.2)
section
variable {S : SymM} {w h w' h' : Int} (O : SymMOk S w h w' h')
include O
theorem in_map (b : BaT) : BallIn w h b ↔ BallIn w' h' (picB S b) := O.fwd b.1 b.2.1
theorem way_map {b : BaT} (hb : WayOk b) : WayOk (picB S b) := O.way b.2.2 hb
theorem map_inj {a b : BaT} (ha : WayOk a) (hb : WayOk b) (e : picB S a = picB S b) : a = b := by
  have e1 : S.f a.1 a.2.1 = S.f b.1 b.2.1 := Prod.ext (congrArg (fun x : BaT => x.1) e) (congrArg (fun x : BaT => x.2.1) e)
  have e2 := O.gf a.1 a.2.1
  rw [e1, O.gf b.1 b.2.1] at e2
  exact Prod.ext (congrArg Prod.fst e2).symm (Prod.ext (congrArg Prod.snd e2).symm (O.wi _ _ ha hb (congrArg (fun x : BaT => x.2.2) e)))
theorem map_rev {b : BaT} (hb : WayOk b) : picB S (revB b) = revB (picB S b) := by
  unfold picB revB
  simp only
  rw [O.dib b.1 b.2.1 b.2.2 hb, O.bk b.2.2 hb]
theorem map_go {b : BaT} {v : Int} (hv : 0 ≤ v ∧ v ≤ 3) : picB S (goB b v) = goB (picB S b) (S.wf v) := by
  unfold picB goB
  simp only
  rw [O.dir b.1 b.2.1 v hv]
variable (hw' : 1 ≤ w' ∧ w' ≤ 9) (hh' : 1 ≤ h' ∧ h' ≤ 9)
include hw' hh'
theorem pic_maze {cs cs' : ByteArray} (hM : MazeOk w h cs) (P : PicM S w h cs w' h' cs') : MazeOk w' h' cs' := by
  refine ⟨hw', hh', P.1, fun c hc => ?_⟩
  obtain ⟨i, hi⟩ := List.mem_iff_getElem?.1 hc
  have hlt : i < cs'.size := by rw [size_list]; exact (List.getElem?_eq_some_iff.1 hi).1
  have hz := P.1
  obtain ⟨hr, e⟩ := cellM_of hw' hh' i (by omega)
  have hg : InM w h (S.g ((i : Int) % w') ((i : Int) / w')).1 (S.g ((i : Int) % w') ((i : Int) / w')).2 := (O.fwd _ _).2 (by rw [O.fg]; exact hr)
  obtain ⟨d, h1, h2⟩ := P.2 _ _ hg
  rw [O.fg] at h2
  simp only at h2
  rw [e, hi] at h2
  cases h2
  exact signM_oth (hM.2.2.2 d (List.mem_of_getElem? h1))
theorem pic_one {cs c1 c2 : ByteArray} (P : PicM S w h cs w' h' c1) (Q : PicM S w h cs w' h' c2) : c1 = c2 := baM_ext hw' hh' P.1 Q.1 fun a b hab => by
  have hg : InM w h (S.g a b).1 (S.g a b).2 := (O.fwd _ _).2 (by rw [O.fg]; exact hab)
  obtain ⟨d, h1, h2⟩ := P.2 _ _ hg
  obtain ⟨d', h3, h4⟩ := Q.2 _ _ hg
  rw [O.fg] at h2 h4
  rw [h1] at h3
  cases h3
  simp only at h2 h4
  rw [h2, h4]
end
section
variable {S : SymM} {w h w' h' : Int} (O : SymMOk S w h w' h') (hw : 1 ≤ w ∧ w ≤ 9) (hh : 1 ≤ h ∧ h ≤ 9) (hw' : 1 ≤ w' ∧ w' ≤ 9) (hh' : 1 ≤ h' ∧ h' ≤ 9)
include O hw hh hw' hh'
/-- A ball goes through a cell as its picture does. -/
theorem pic_hit (t : Bool) {cs cs' : ByteArray} {b : BaT} (H : StOk w h (cs, b)) (P : PicM S w h cs w' h' cs') : (hitS w' t (cs', picB S b)).2 = picB S (hitS w t (cs, b)).2 ∧ PicM S w h (hitS w t (cs, b)).1 w' h' (hitS w' t (cs', picB S b)).1 := by
  obtain ⟨c0, hc0, hs0, hS⟩ := sign_at H
  obtain ⟨r1, r2, r3⟩ := cell_range H
  have hin : InM w h b.1 b.2.1 := H.2.1
  have hin' := (O.fwd _ _).1 hin
  obtain ⟨c, h1, h2⟩ := P.2 b.1 b.2.1 hin
  have hc : cs.data.toList[(cellI w b).toNat]? = some c := h1
  obtain rfl : c0 = c := by rw [hc] at hc0; exact (Option.some.inj hc0).symm
  have hs' : signB w' cs' (picB S b) = ((othM c0).toNat : Int) := bt_at h2
  have hidx : cellI w' (picB S b) = (S.f b.1 b.2.1).2 * w' + (S.f b.1 b.2.1).1 := rfl
  have hs0 : signB w cs b = (c0.toNat : Int) := hs0
  have turn : turnB ((othM c0).toNat : Int) (S.wf b.2.2) = S.wf (turnB (c0.toNat : Int) b.2.2) := by
    rcases hS with rfl | rfl | rfl
    · rfl
    · exact O.tz b.2.2 H.2.2
    · exact O.ts b.2.2 H.2.2
  refine ⟨?_, ?_⟩
  · show goB (picB S b) (turnB (signB w' cs' (picB S b)) (S.wf b.2.2)) = picB S (goB b (turnB (signB w cs b) b.2.2))
    rw [hs', hs0, turn, map_go O (turnB_ok H.2.2)]
  · cases t with
    | false => exact P
    | true =>
      show PicM S w h (hitC w (cs, b)) w' h' (hitC w' (cs', picB S b))
      unfold hitC
      simp only [hs', hs0]
      have fl : ∀ d : UInt8, d = 90 ∨ d = 83 → PicM S w h (setByte cs (cellI w b).toNat (flipB (d.toNat : Int))) w' h' (setByte cs' (cellI w' (picB S b)).toNat (flipB ((othM d).toNat : Int))) := fun d hd => by
        have hf : flipB ((othM d).toNat : Int) = othM (flipB (d.toNat : Int)) := by rcases hd with rfl | rfl <;> rfl
        refine ⟨by rw [setByte_size]; exact P.1, fun x y hxy => ?_⟩
        obtain ⟨e, g1, g2⟩ := P.2 x y hxy
        have hxy' := (O.fwd _ _).1 hxy
        have a1 := at_range hxy.1 hxy.2 hw hh
        have a2 := at_range hxy'.1 hxy'.2 hw' hh'
        have b2 := at_range hin'.1 hin'.2 hw' hh'
        have hz' := P.1
        unfold setByte
        rw [List.toList_toArray, List.toList_toArray, List.getElem?_set, List.getElem?_set, hf]
        by_cases e1 : x = b.1 ∧ y = b.2.1
        · obtain ⟨rfl, rfl⟩ := e1
          refine ⟨flipB (d.toNat : Int), ?_, ?_⟩
          · rw [if_pos (show (cellI w b).toNat = (b.2.1 * w + b.1).toNat from rfl), if_pos (by rw [← size_list]; exact r2)]
          · rw [hidx, if_pos rfl, if_pos (by rw [← size_list]; omega)]
        · have n1 : ¬ (cellI w b).toNat = (y * w + x).toNat := fun h => e1 (by
            have := (atM_inj (y := b.2.1) (y' := y) hin.1 hxy.1).1 (by unfold cellI at h r1; simp only at h r1; omega)
            exact ⟨this.1.symm, this.2.symm⟩)
          have n2 : ¬ (cellI w' (picB S b)).toNat = ((S.f x y).2 * w' + (S.f x y).1).toNat := fun h => e1 (by
            rw [hidx] at h
            have := (atM_inj (y := (S.f b.1 b.2.1).2) (y' := (S.f x y).2) hin'.1 hxy'.1).1 (by omega)
            have e2 := O.gf x y
            rw [← this.1, ← this.2, O.gf] at e2
            exact ⟨(congrArg Prod.fst e2).symm, (congrArg Prod.snd e2).symm⟩)
          rw [if_neg n1, if_neg n2]
          exact ⟨e, g1, g2⟩
      rcases hS with rfl | rfl | rfl
      · exact P
      · exact fl 90 (.inl rfl)
      · exact fl 83 (.inr rfl)
theorem pic_run (t : Bool) {cs cs' : ByteArray} {b : BaT} (H : StOk w h (cs, b)) (P : PicM S w h cs w' h' cs') : ∀ n : Nat, (∀ i, i < n → BallIn w h (runS w t i (cs, b)).2) → (runS w' t n (cs', picB S b)).2 = picB S (runS w t n (cs, b)).2 ∧ PicM S w h (runS w t n (cs, b)).1 w' h' (runS w' t n (cs', picB S b)).1
  | 0, _ => ⟨rfl, P⟩
  | n + 1, hb => by
    obtain ⟨e, Q⟩ := pic_run t H P n fun i hi => hb i (by omega)
    have hs := run_st t n (cs, b) H fun i hi => hb i (by omega)
    rw [runS_succ, runS_succ]
    generalize runS w t n (cs, b) = N at e Q hs ⊢
    generalize runS w' t n (cs', picB S b) = N' at e Q ⊢
    obtain ⟨N1, N2⟩ := N
    obtain ⟨N1', N2'⟩ := N'
    have e : N2' = picB S N2 := e
    subst e
    exact pic_hit O hw hh hw' hh' t hs Q
theorem pic_out (t : Bool) {cs cs' : ByteArray} {b : BaT} (H : StOk w h (cs, b)) (P : PicM S w h cs w' h' cs') {n : Nat} (ho : OutAt w h t (cs, b) n) : OutAt w' h' t (cs', picB S b) n := by
  refine ⟨fun i hi => ?_, ?_⟩
  · rw [(pic_run O hw hh hw' hh' t H P i fun j hj => ho.1 j (by omega)).1]
    exact (in_map O _).1 (ho.1 i hi)
  · rw [(pic_run O hw hh hw' hh' t H P n fun j hj => ho.1 j (by omega)).1]
    exact fun h => ho.2 ((in_map O _).2 h)
/-- Ends go along, if the entries do. -/
theorem pic_end (sg : Int → Int) (hsg : ∀ k, 0 ≤ k ∧ k < 2 * (w + h) → (0 ≤ sg k ∧ sg k < 2 * (w' + h')) ∧ entryB w' h' (sg k) = picB S (entryB w h k)) {b : BaT} (hW : WayOk b) (hi : BallIn w h (revB b)) (ho : ¬ BallIn w h b) : outE w' h' (picB S b) = sg (outE w h b) := by
  obtain ⟨o1, o2, o3⟩ := out_entry hw hh hW hi ho
  obtain ⟨s1, s2⟩ := hsg _ ⟨o2, o3⟩
  have hi' : BallIn w' h' (revB (picB S b)) := by rw [← map_rev O hW]; exact (in_map O _).1 hi
  obtain ⟨q1, q2, q3⟩ := out_entry hw' hh' (way_map O hW) hi' (fun h => ho ((in_map O _).2 h))
  exact entry_inj hw' hh' ⟨q2, q3⟩ s1 (by rw [q1, s2, o1, map_rev O hW])
end
theorem emod_of {x n : Int} (h : 0 ≤ x ∧ x < n) : x % n = x := Int.emod_eq_of_lt h.1 h.2
theorem emod_sub {x n : Int} (h : n ≤ x ∧ x < 2 * n) : x % n = x - n := by
  have : x % n = (x - n) % n := by rw [show x = x - n + n by omega, Int.add_emod_right]; congr 1; omega
  rw [this, emod_of (by omega)]
theorem turn_ends {w h : Int} (hw : 1 ≤ w ∧ w ≤ 9) (hh : 1 ≤ h ∧ h ≤ 9) (k : Int) (hk : 0 ≤ k ∧ k < 2 * (w + h)) : (0 ≤ (k + h) % (2 * (w + h)) ∧ (k + h) % (2 * (w + h)) < 2 * (h + w)) ∧ entryB h w ((k + h) % (2 * (w + h))) = picB (turnM h) (entryB w h k) := by
  refine ⟨⟨Int.emod_nonneg _ (by omega), by have := Int.emod_lt_of_pos (k + h) (show 0 < 2 * (w + h) by omega); omega⟩, ?_⟩
  by_cases c1 : k < w
  · rw [emod_of (by omega)]
    simp only [entryB, picB, turnM]
    rw [if_neg (show ¬ k + h < h by omega), if_pos (show k + h < h + w by omega), if_pos c1]
    simp
  · by_cases c2 : k < w + h
    · rw [emod_of (by omega)]
      simp only [entryB, picB, turnM]
      rw [if_neg (show ¬ k + h < h by omega), if_neg (show ¬ k + h < h + w by omega), if_pos (show k + h < 2 * h + w by omega), if_neg c1, if_pos c2]
      simp
      omega
    · by_cases c3 : k < 2 * w + h
      · rw [emod_of (by omega)]
        simp only [entryB, picB, turnM]
        rw [if_neg (show ¬ k + h < h by omega), if_neg (show ¬ k + h < h + w by omega), if_neg (show ¬ k + h < 2 * h + w by omega), if_neg c1, if_neg c2, if_pos c3]
        simp
        omega
      · rw [emod_sub (x := k + h) (n := 2 * (w + h)) (by omega)]
        simp only [entryB, picB, turnM]
        rw [if_pos (show k + h - 2 * (w + h) < h by omega), if_neg c1, if_neg c2, if_neg c3]
        simp
        omega
theorem mir_ends {w h : Int} (hw : 1 ≤ w ∧ w ≤ 9) (hh : 1 ≤ h ∧ h ≤ 9) (k : Int) (hk : 0 ≤ k ∧ k < 2 * (w + h)) : (0 ≤ (w - 1 - k + 2 * (w + h)) % (2 * (w + h)) ∧ (w - 1 - k + 2 * (w + h)) % (2 * (w + h)) < 2 * (w + h)) ∧ entryB w h ((w - 1 - k + 2 * (w + h)) % (2 * (w + h))) = picB (mirM w) (entryB w h k) := by
  refine ⟨⟨Int.emod_nonneg _ (by omega), Int.emod_lt_of_pos _ (by omega)⟩, ?_⟩
  by_cases c1 : k < w
  · rw [emod_sub (x := w - 1 - k + 2 * (w + h)) (n := 2 * (w + h)) (by omega)]
    simp only [entryB, picB, mirM]
    rw [if_pos (show w - 1 - k + 2 * (w + h) - 2 * (w + h) < w by omega), if_pos c1]
    simp
  · rw [emod_of (by omega)]
    by_cases c2 : k < w + h
    · simp only [entryB, picB, mirM]
      rw [if_neg (show ¬ w - 1 - k + 2 * (w + h) < w by omega), if_neg (show ¬ w - 1 - k + 2 * (w + h) < w + h by omega), if_neg (show ¬ w - 1 - k + 2 * (w + h) < 2 * w + h by omega), if_neg c1, if_pos c2]
      simp
      omega
    · by_cases c3 : k < 2 * w + h
      · simp only [entryB, picB, mirM]
        rw [if_neg (show ¬ w - 1 - k + 2 * (w + h) < w by omega), if_neg (show ¬ w - 1 - k + 2 * (w + h) < w + h by omega), if_pos (show w - 1 - k + 2 * (w + h) < 2 * w + h by omega), if_neg c1, if_neg c2, if_pos c3]
        simp
        omega
      · simp only [entryB, picB, mirM]
        rw [if_neg (show ¬ w - 1 - k + 2 * (w + h) < w by omega), if_pos (show w - 1 - k + 2 * (w + h) < w + h by omega), if_neg c1, if_neg c2, if_neg c3]
        simp
        omega
theorem mir_mir {w h : Int} (hw : 1 ≤ w ∧ w ≤ 9) (hh : 1 ≤ h ∧ h ≤ 9) {a b c : ByteArray} (hs : (a.size : Int) = w * h) (P : PicM (mirM w) w h a w h b) (Q : PicM (mirM w) w h b w h c) : c = a := baM_ext hw hh Q.1 hs fun x y hxy => by
  obtain ⟨d, h1, h2⟩ := P.2 x y hxy
  obtain ⟨e, h3, h4⟩ := Q.2 _ _ (((mirM_ok w h).fwd x y).1 hxy)
  rw [h2] at h3
  cases h3
  have e2 : (mirM w).f ((mirM w).f x y).1 ((mirM w).f x y).2 = (x, y) := (mirM_ok w h).gf x y
  rw [e2, othM_othM] at h4
  simp only at h4
  rw [h4, h1]
/-- The picture seen from the other side. -/
theorem turn_back_pic {w h : Int} (hw : 1 ≤ w ∧ w ≤ 9) (hh : 1 ≤ h ∧ h ≤ 9) {cs cs' : ByteArray} (hs : (cs.size : Int) = w * h) (P : PicM (turnM h) w h cs h w cs') : PicM (untM h) h w cs' w h cs := by
  refine ⟨hs, fun a b hab => ?_⟩
  have hg : InM w h ((turnM h).g a b).1 ((turnM h).g a b).2 := ((turnM_ok w h).fwd _ _).2 (by rw [(turnM_ok w h).fg]; exact hab)
  obtain ⟨d, h1, h2⟩ := P.2 _ _ hg
  rw [(turnM_ok w h).fg] at h2
  exact ⟨othM d, h2, by rw [othM_othM]; exact h1⟩
theorem sub_len : ∀ (l l' : List Nat), l.Nodup → (∀ x ∈ l, x ∈ l') → l.length ≤ l'.length
  | [], _, _, _ => Nat.zero_le _
  | a :: l, l', hn, hs => by
    obtain ⟨h1, h2⟩ := List.nodup_cons.1 hn
    have h3 := sub_len l (l'.erase a) h2 fun x hx => by
      have hne : x ≠ a := fun e => h1 (e ▸ hx)
      exact (List.mem_erase_of_ne hne).2 (hs x (List.mem_cons_of_mem _ hx))
    have h4 : a ∈ l' := hs a List.mem_cons_self
    rw [List.length_erase_of_mem h4] at h3
    have := List.length_pos_of_mem h4
    simp only [List.length_cons]
    omega
theorem least_ofT {P : Nat → Prop} {n : Nat} (h : P n) : ∃ m, m ≤ n ∧ P m ∧ ∀ j, j < m → ¬ P j := by
  induction n using Nat.strongRecOn with
  | _ n ih =>
    by_cases hx : ∃ j, j < n ∧ P j
    · obtain ⟨j, h1, h2⟩ := hx
      obtain ⟨m, h3, h4, h5⟩ := ih j h1 h2
      exact ⟨m, by omega, h4, h5⟩
    · exact ⟨n, Nat.le_refl _, h, fun j h1 h2 => hx ⟨j, h1, h2⟩⟩
/-- An injection from some numbers to some others. -/
theorem inj_len {n m : Nat} (p q : Nat → Bool) (f : Nat → Nat) (hf : ∀ i, i < n → p i = true → f i < m ∧ q (f i) = true) (hi : ∀ i j, i < n → j < n → p i = true → p j = true → f i = f j → i = j) : ((List.range n).filter p).length ≤ ((List.range m).filter q).length := by
  have := sub_len (((List.range n).filter p).map f) ((List.range m).filter q) (by
    unfold List.Nodup
    rw [List.pairwise_map]
    have h1 : ((List.range n).filter p).Pairwise (· < ·) := List.Pairwise.filter _ List.pairwise_lt_range
    refine List.Pairwise.imp_of_mem (R := (· < ·)) (fun {a b} ha hb hab e => ?_) h1
    obtain ⟨a1, a2⟩ := List.mem_filter.1 ha
    obtain ⟨b1, b2⟩ := List.mem_filter.1 hb
    have := hi a b (List.mem_range.1 a1) (List.mem_range.1 b1) a2 b2 e
    omega) (fun x hx => by
    obtain ⟨i, h1, rfl⟩ := List.mem_map.1 hx
    obtain ⟨h2, h3⟩ := List.mem_filter.1 h1
    obtain ⟨h4, h5⟩ := hf i (List.mem_range.1 h2) h3
    exact List.mem_filter.2 ⟨List.mem_range.2 h4, h5⟩)
  rwa [List.length_map] at this
/-! ### Places by their numbers -/
def stC (w : Int) (c : Nat) : BaT := (((c / 4 : Nat) : Int) % w, ((c / 4 : Nat) : Int) / w, ((c % 4 : Nat) : Int))
def manyC (w h : Int) : Nat := (4 * (w * h)).toNat
section
variable {w h : Int} (hw : 1 ≤ w ∧ w ≤ 9) (hh : 1 ≤ h ∧ h ≤ 9)
include hw hh
theorem stC_ok {c : Nat} (hc : c < manyC w h) : BallIn w h (stC w c) ∧ WayOk (stC w c) ∧ codeB w (stC w c) = c := by
  have hm := mul_range hw.1 hw.2 hh.1 hh.2
  unfold manyC at hc
  obtain ⟨h1, h2⟩ := cellM_of hw hh (c / 4) (by omega)
  refine ⟨h1, by unfold WayOk stC; simp only; omega, ?_⟩
  have a := at_range h1.1 h1.2 hw hh
  unfold codeB cellI stC
  simp only
  omega
theorem stC_code {b : BaT} (hb : BallIn w h b) (hW : WayOk b) : codeB w b < manyC w h ∧ stC w (codeB w b) = b := by
  have h1 := code_lt hw hh hb hW
  obtain ⟨a1, a2, a3⟩ := stC_ok hw hh h1
  exact ⟨h1, code_inj hw hh a1 hb a2 hW a3⟩
end
/-! ### Rounds -/
def Cyc (w h : Int) (cs : ByteArray) (b : BaT) : Prop := ∀ i, BallIn w h (rnB w cs i b)
/-- A ball comes to a place, being in the maze all along. -/
def OrbI (w h : Int) (cs : ByteArray) (b x : BaT) : Prop := ∃ i, rnB w cs i b = x ∧ ∀ j, j ≤ i → BallIn w h (rnB w cs j b)
theorem orb_trans {w h : Int} {cs : ByteArray} {a b c : BaT} (h1 : OrbI w h cs a b) (h2 : OrbI w h cs b c) : OrbI w h cs a c := by
  obtain ⟨i, rfl, g1⟩ := h1
  obtain ⟨j, rfl, g2⟩ := h2
  refine ⟨i + j, rn_add w cs i j a, fun k hk => ?_⟩
  by_cases hki : k ≤ i
  · exact g1 k hki
  · have := g2 (k - i) (by omega)
    rwa [← rn_add, show i + (k - i) = k by omega] at this
theorem rn_mul {w : Int} {cs : ByteArray} {b : BaT} {p : Nat} (hp : rnB w cs p b = b) : ∀ m : Nat, rnB w cs (m * p) b = b
  | 0 => by rw [Nat.zero_mul]; rfl
  | m + 1 => by rw [Nat.succ_mul, rn_add, rn_mul hp m, hp]
theorem cyc_of {w h : Int} {cs : ByteArray} {a b : BaT} (h1 : OrbI w h cs a b) (hc : Cyc w h cs b) : Cyc w h cs a := by
  obtain ⟨i, rfl, g⟩ := h1
  intro j
  by_cases hj : j ≤ i
  · exact g j hj
  · have := hc (j - i)
    rwa [← rn_add, show i + (j - i) = j by omega] at this
/-! ### Leaders: the first place of each round -/
def Ldr (w h : Int) (cs : ByteArray) (c : Nat) : Prop := Cyc w h cs (stC w c) ∧ ∀ j, j < c → ¬ OrbI w h cs (stC w j) (stC w c)
noncomputable def ldrB (w h : Int) (cs : ByteArray) (c : Nat) : Bool := @decide (Ldr w h cs c) (Classical.propDecidable _)
noncomputable def tracksN (w h : Int) (cs : ByteArray) (n : Nat) : Nat := ((List.range n).filter (ldrB w h cs)).length
theorem ldrB_iff {w h : Int} {cs : ByteArray} {c : Nat} : ldrB w h cs c = true ↔ Ldr w h cs c := by unfold ldrB; exact @decide_eq_true_iff _ (Classical.propDecidable _)
section
variable {w h : Int} {cs : ByteArray} (hM : MazeOk w h cs)
include hM
theorem cyc_back {b : BaT} (hW : WayOk b) (hc : Cyc w h cs b) : ∃ p : Nat, 1 ≤ p ∧ rnB w cs p b = b := by
  rcases staying (w := w) (h := h) (cs := cs) (b := b) ⟨hM, hc 0, hW⟩ with ⟨n, _, _, ho⟩ | ⟨p, h1, _, h3, _⟩
  · exact absurd (hc n) (out_stay.1 ho).2
  · exact ⟨p, h1, h3⟩
theorem cyc_sym {a b : BaT} (hW : WayOk a) (hc : Cyc w h cs a) (h1 : OrbI w h cs a b) : Cyc w h cs b ∧ OrbI w h cs b a := by
  obtain ⟨i, rfl, _⟩ := h1
  obtain ⟨p, p1, p2⟩ := cyc_back hM hW hc
  have hcb : Cyc w h cs (rnB w cs i a) := fun j => by rw [← rn_add]; exact hc (i + j)
  refine ⟨hcb, i * p - i, ?_, fun j _ => hcb j⟩
  have hle : i ≤ i * p := Nat.le_mul_of_pos_right i p1
  rw [← rn_add, Nat.add_sub_cancel' hle]
  exact rn_mul p2 i
/-- Each place that is on no round is met by a ball from an end. -/
theorem from_end {b : BaT} (hB : BallIn w h b) (hW : WayOk b) (hc : ¬ Cyc w h cs b) : ∃ k : Int, (0 ≤ k ∧ k < 2 * (w + h)) ∧ OrbI w h cs (entryB w h k) b := by
  have hx := rev_nx_at w cs b
  have hxi : BallIn w h (revB (nxB w cs b)) := by
    unfold BallIn at hB ⊢
    rw [hx.1, hx.2]
    exact hB
  have hxw : WayOk (revB (nxB w cs b)) := rev_way (nx_way w cs hW)
  rcases staying (w := w) (h := h) (cs := cs) (b := revB (nxB w cs b)) ⟨hM, hxi, hxw⟩ with ⟨n, n1, _, ho⟩ | ⟨p, p1, _, p3, p4⟩
  · obtain ⟨o1, o2⟩ := out_stay.1 ho
    obtain ⟨_, n2, n3⟩ := out_near (t := false) (s := (cs, revB (nxB w cs b))) ⟨hM, hxi, hxw⟩ ho
    rw [run_stay] at n2 n3
    simp only at n2 n3
    have hyw := rn_way w cs n hxw
    obtain ⟨e1, e2, e3⟩ := out_entry hM.1 hM.2.1 hyw n3.1 o2
    refine ⟨outE w h (rnB w cs n (revB (nxB w cs b))), ⟨e2, e3⟩, n - 1, ?_, fun j hj => ?_⟩
    · rw [e1, rn_rev' w cs (show n - 1 ≤ n by omega) hxw, show n - (n - 1) = 1 by omega]
      show revB (nxB w cs (revB (nxB w cs b))) = b
      rw [nx_rev w cs hW, rev_rev hW]
    · rw [e1, rn_rev' w cs (show j ≤ n by omega) hxw]
      obtain ⟨q, hq⟩ : ∃ q, n - j = q + 1 := ⟨n - j - 1, by omega⟩
      rw [hq, rn_succ]
      have hz := rev_nx_at w cs (rnB w cs q (revB (nxB w cs b)))
      have := o1 q (by omega)
      unfold BallIn at this ⊢
      rw [hz.1, hz.2]
      exact this
  · exfalso
    refine hc ?_
    -- the ball behind the cell comes back, and so does this one
    have h1 : rnB w cs p (nxB w cs b) = nxB w cs b := by
      have := rn_rev w cs p hxw
      rw [p3, rev_rev (nx_way w cs hW)] at this
      exact this
    have h2 : rnB w cs p b = b := nx_inj w cs (rn_way w cs p hW) hW (by
      rw [← rn_succ]
      exact h1)
    intro i
    have h3 := rn_mul h2 (i + 1)
    have hle : i + 1 ≤ (i + 1) * p := Nat.le_mul_of_pos_right _ p1
    have h4 : revB (nxB w cs b) = revB (rnB w cs ((i + 1) * p + 1) b) := by rw [rn_succ, h3]
    have h5 := p4 ((i + 1) * p - i)
    rw [h4, rn_rev' w cs (by omega) hW, show (i + 1) * p + 1 - ((i + 1) * p - i) = i + 1 by omega, rn_succ] at h5
    have hz := rev_nx_at w cs (rnB w cs i b)
    unfold BallIn at h5 ⊢
    rw [← hz.1, ← hz.2]
    exact h5
/-- What ends' balls meet is on no round. -/
theorem end_not_cyc {k : Int} (hk : 0 ≤ k ∧ k < 2 * (w + h)) {b : BaT} (ho : OrbI w h cs (entryB w h k) b) : ¬ Cyc w h cs b := fun hc => by
  obtain ⟨a1, a2, a3, _⟩ := entry_ok hM.1 hM.2.1 hk
  obtain ⟨n, _, _, h3⟩ := edge_out (cs := cs) ⟨hM, a1, a2⟩ a3
  exact (out_stay.1 h3).2 (cyc_of ho hc n)
theorem lead_of {b : BaT} (hW : WayOk b) (hc : Cyc w h cs b) : ∃ j, j < manyC w h ∧ Ldr w h cs j ∧ OrbI w h cs (stC w j) b := by
  have hB : BallIn w h b := hc 0
  obtain ⟨c1, c2⟩ := stC_code hM.1 hM.2.1 hB hW
  obtain ⟨j, j1, j2, j3⟩ := least_ofT (P := fun j => OrbI w h cs (stC w j) b) (n := codeB w b) ⟨0, c2, fun j hj => by
    obtain rfl : j = 0 := by omega
    show BallIn w h (stC w (codeB w b))
    rw [c2]
    exact hB⟩
  exact ⟨j, by omega, ⟨cyc_of j2 hc, fun i hi ho => j3 i hi (orb_trans ho j2)⟩, j2⟩
theorem ldr_same {c d : Nat} (hc : c < manyC w h) (hd : d < manyC w h) (h1 : Ldr w h cs c) (h2 : Ldr w h cs d) (ho : OrbI w h cs (stC w c) (stC w d)) : c = d := by
  obtain ⟨a1, a2, a3⟩ := stC_ok hM.1 hM.2.1 hc
  rcases Nat.lt_trichotomy c d with h3 | h3 | h3
  · exact absurd ho (h2.2 c h3)
  · exact h3
  · exact absurd (cyc_sym hM a2 h1.1 ho).2 (h1.2 d h3)
end
/-! ### Each round hits a mirror on its way up -/
theorem up_hit {w h : Int} {cs : ByteArray} : ∀ (m : Nat) {b : BaT}, Cyc w h cs b → b.2.2 = 0 → b.2.1 = (m : Int) → ∃ i, (rnB w cs i b).2.2 = 0 ∧ signB w cs (rnB w cs i b) ≠ 46
  | m, b, hc, h0, hm => by
    by_cases hs : signB w cs b = 46
    · have e : nxB w cs b = (b.1 + 0, b.2.1 + -1, 0) := by
        unfold nxB goB
        rw [hs, h0]
        rfl
      have hin : BallIn w h (nxB w cs b) := hc 1
      rw [e] at hin
      have hy := hin.2.1
      simp only at hy
      obtain ⟨q, rfl⟩ : ∃ q, m = q + 1 := ⟨m - 1, by omega⟩
      have hc' : Cyc w h cs (nxB w cs b) := fun i => hc (i + 1)
      obtain ⟨i, i1, i2⟩ := up_hit q hc' (by rw [e]) (by rw [e]; show b.2.1 + -1 = (q : Int); omega)
      exact ⟨i + 1, i1, i2⟩
    · exact ⟨0, h0, hs⟩
/-- A ball that never goes up nor down goes straight on. -/
theorem level {w : Int} {cs : ByteArray} {b : BaT} (hv : ∀ i, (rnB w cs i b).2.2 = 1 ∨ (rnB w cs i b).2.2 = 3) : ∀ i : Nat, (rnB w cs i b).1 = b.1 + (i : Int) * dxW b.2.2 ∧ (rnB w cs i b).2.2 = b.2.2
  | 0 => ⟨by show b.1 = b.1 + ((0 : Nat) : Int) * dxW b.2.2; simp, rfl⟩
  | i + 1 => by
    obtain ⟨e1, e2⟩ := level hv i
    have h1 := hv i
    have h2 := hv (i + 1)
    rw [rn_succ] at h2 ⊢
    have hway : (nxB w cs (rnB w cs i b)).2.2 = (rnB w cs i b).2.2 := by
      unfold nxB goB at h2 ⊢
      simp only at h2 ⊢
      unfold turnB at h2 ⊢
      by_cases z1 : signB w cs (rnB w cs i b) = 90
      · rw [if_pos z1] at h2
        rcases h1 with h1 | h1 <;> (rw [h1] at h2; simp at h2)
      · rw [if_neg z1] at h2 ⊢
        by_cases z2 : signB w cs (rnB w cs i b) = 83
        · rw [if_pos z2] at h2
          rcases h1 with h1 | h1 <;> (rw [h1] at h2; simp at h2)
        · rw [if_neg z2]
    refine ⟨?_, by rw [hway, e2]⟩
    have hx : (nxB w cs (rnB w cs i b)).1 = (rnB w cs i b).1 + dxW (nxB w cs (rnB w cs i b)).2.2 := rfl
    rw [hx, hway, e1, e2, Int.natCast_succ, Int.add_mul, Int.one_mul]
    omega
theorem goes_up {w h : Int} {cs : ByteArray} (hw : 1 ≤ w ∧ w ≤ 9) (hh : 1 ≤ h ∧ h ≤ 9) : ∀ (m : Nat) {b : BaT}, Cyc w h cs b → WayOk b → 8 - b.2.1 = (m : Int) → ∃ i, (rnB w cs i b).2.2 = 0
  | m, b, hc, hW, hm => Classical.byContradiction fun hne => by
    have hn : ∀ i, (rnB w cs i b).2.2 ≠ 0 := fun i e => hne ⟨i, e⟩
    by_cases h2 : ∃ i, (rnB w cs (i + 1) b).2.2 = 2
    · obtain ⟨i, hi⟩ := h2
      -- the rows told never go up
      have mono : ∀ j : Nat, b.2.1 ≤ (rnB w cs j b).2.1 := fun j => by
        induction j with
        | zero => exact Int.le_refl _
        | succ j ih =>
          have h3 := hn (j + 1)
          have h4 : WayOk (rnB w cs (j + 1) b) := rn_way w cs (j + 1) hW
          have hy : (rnB w cs (j + 1) b).2.1 = (rnB w cs j b).2.1 + dyW (rnB w cs (j + 1) b).2.2 := by rw [rn_succ]; rfl
          have hd : 0 ≤ dyW (rnB w cs (j + 1) b).2.2 := by
            unfold dyW
            rw [if_neg h3]
            split <;> omega
          omega
      have hy : (rnB w cs (i + 1) b).2.1 = (rnB w cs i b).2.1 + 1 := by
        have : (rnB w cs (i + 1) b).2.1 = (rnB w cs i b).2.1 + dyW (rnB w cs (i + 1) b).2.2 := by rw [rn_succ]; rfl
        rw [this, hi]
        rfl
      have hb := hc (i + 1)
      have hb0 := hb.2
      have hmi := mono i
      have hc' : Cyc w h cs (rnB w cs (i + 1) b) := fun j => by rw [← rn_add]; exact hc (i + 1 + j)
      obtain ⟨q, hq⟩ : ∃ q : Nat, 8 - (rnB w cs (i + 1) b).2.1 = (q : Int) := ⟨(8 - (rnB w cs (i + 1) b).2.1).toNat, by omega⟩
      have hlt : q < m := by omega
      obtain ⟨j, hj⟩ := goes_up hw hh q hc' (rn_way w cs (i + 1) hW) hq
      rw [← rn_add] at hj
      exact hn _ hj
    · have hv : ∀ i, (rnB w cs i (nxB w cs b)).2.2 = 1 ∨ (rnB w cs i (nxB w cs b)).2.2 = 3 := fun i => by
        have h3 := hn (i + 1)
        have h4 : (rnB w cs (i + 1) b).2.2 ≠ 2 := fun e => h2 ⟨i, e⟩
        have h5 : 0 ≤ (rnB w cs (i + 1) b).2.2 ∧ (rnB w cs (i + 1) b).2.2 ≤ 3 := rn_way w cs (i + 1) hW
        show (rnB w cs (i + 1) b).2.2 = 1 ∨ (rnB w cs (i + 1) b).2.2 = 3
        omega
      have hl := level hv 10
      have hb0 := (hc 1).1
      have hb1 := (hc 11).1
      have e0 : (rnB w cs 11 b).1 = (rnB w cs 10 (nxB w cs b)).1 := rfl
      have e1 : (rnB w cs 1 b).1 = (nxB w cs b).1 := rfl
      rw [e0, hl.1] at hb1
      rw [e1] at hb0
      have hv0 := hv 0
      have e2 : rnB w cs 0 (nxB w cs b) = nxB w cs b := rfl
      rw [e2] at hv0
      have hd : dxW (nxB w cs b).2.2 = 1 ∨ dxW (nxB w cs b).2.2 = -1 := by
        rcases hv0 with h | h <;> rw [h]
        · exact .inl rfl
        · exact .inr rfl
      rcases hd with h | h <;> (rw [h] at hb1; omega)
def mirI (cs : ByteArray) (i : Nat) : Bool := cs.data.toList.getD i 46 != 46
/-- There are no more rounds than mirrors. -/
theorem tracks_mirrors {w h : Int} {cs : ByteArray} (hM : MazeOk w h cs) : tracksN w h cs (manyC w h) ≤ ((List.range cs.size).filter (mirI cs)).length := by
  have hw := hM.1
  have hh := hM.2.1
  have key : ∀ c, ∃ f, c < manyC w h → Ldr w h cs c → ∃ i, (rnB w cs i (stC w c)).2.2 = 0 ∧ signB w cs (rnB w cs i (stC w c)) ≠ 46 ∧ f = (cellI w (rnB w cs i (stC w c))).toNat := fun c => by
    by_cases hc : c < manyC w h ∧ Ldr w h cs c
    · obtain ⟨a1, a2, a3⟩ := stC_ok hw hh hc.1
      have hy := a1.2
      obtain ⟨i, hi⟩ := goes_up hw hh (8 - (stC w c).2.1).toNat hc.2.1 a2 (by omega)
      have hcy : Cyc w h cs (rnB w cs i (stC w c)) := fun j => by rw [← rn_add]; exact hc.2.1 (i + j)
      have hy2 := (hc.2.1 i).2
      obtain ⟨j, j1, j2⟩ := up_hit (rnB w cs i (stC w c)).2.1.toNat hcy hi (by omega)
      rw [← rn_add] at j1 j2
      exact ⟨_, fun _ _ => ⟨i + j, j1, j2, rfl⟩⟩
    · exact ⟨0, fun h1 h2 => absurd ⟨h1, h2⟩ hc⟩
  obtain ⟨f, hf⟩ := Classical.axiomOfChoice key
  refine inj_len (ldrB w h cs) (mirI cs) f (fun c hc hl => ?_) (fun c d hc hd h1 h2 e => ?_)
  · have hl := ldrB_iff.1 hl
    obtain ⟨i, i1, i2, i3⟩ := hf c hc hl
    obtain ⟨a1, a2, a3⟩ := stC_ok hw hh hc
    have hs : StOk w h (cs, rnB w cs i (stC w c)) := ⟨hM, hl.1 i, rn_way w cs i a2⟩
    obtain ⟨r1, r2, r3⟩ := cell_range hs
    obtain ⟨x, x1, x2, x3⟩ := sign_at hs
    simp only at r1 r2 x1 x2
    rw [i3]
    refine ⟨r2, ?_⟩
    unfold mirI
    rw [List.getD_eq_getElem?_getD, x1, Option.getD_some, bne_iff_ne]
    intro e
    rw [e] at x2
    exact i2 x2
  · have h1 := ldrB_iff.1 h1
    have h2 := ldrB_iff.1 h2
    obtain ⟨i, i1, i2, i3⟩ := hf c hc h1
    obtain ⟨j, j1, j2, j3⟩ := hf d hd h2
    obtain ⟨a1, a2, a3⟩ := stC_ok hw hh hc
    obtain ⟨b1, b2, b3⟩ := stC_ok hw hh hd
    have q1 := at_range (h1.1 i).1 (h1.1 i).2 hw hh
    have q2 := at_range (h2.1 j).1 (h2.1 j).2 hw hh
    have ec : cellI w (rnB w cs i (stC w c)) = cellI w (rnB w cs j (stC w d)) := by
      rw [i3, j3] at e
      unfold cellI at e ⊢
      omega
    obtain ⟨g1, g2⟩ := cell_inj hw hh (h1.1 i) (h2.1 j) ec
    have est : rnB w cs i (stC w c) = rnB w cs j (stC w d) := Prod.ext g1 (Prod.ext g2 (by rw [i1, j1]))
    have o1 : OrbI w h cs (stC w c) (rnB w cs j (stC w d)) := ⟨i, est, fun k _ => h1.1 k⟩
    have o2 : OrbI w h cs (stC w d) (rnB w cs j (stC w d)) := ⟨j, rfl, fun k _ => h2.1 k⟩
    exact ldr_same hM hc hd h1 h2 (orb_trans o1 (cyc_sym hM b2 h2.1 o2).2)
/-- A picture has as many rounds. -/
theorem tracks_le {S : SymM} {w h w' h' : Int} (O : SymMOk S w h w' h') (hw' : 1 ≤ w' ∧ w' ≤ 9) (hh' : 1 ≤ h' ∧ h' ≤ 9) {cs cs' : ByteArray} (hM : MazeOk w h cs) (P : PicM S w h cs w' h' cs') : tracksN w h cs (manyC w h) ≤ tracksN w' h' cs' (manyC w' h') := by
  have hw := hM.1
  have hh := hM.2.1
  have hM' := pic_maze O hw' hh' hM P
  have run : ∀ {b : BaT}, WayOk b → Cyc w h cs b → ∀ n, rnB w' cs' n (picB S b) = picB S (rnB w cs n b) := fun {b} hW hc n => by
    have := (pic_run O hw hh hw' hh' false (cs := cs) (b := b) ⟨hM, hc 0, hW⟩ P n fun i _ => by rw [run_stay]; exact hc i).1
    rwa [run_stay, run_stay] at this
  have cyc' : ∀ {b : BaT}, WayOk b → Cyc w h cs b → Cyc w' h' cs' (picB S b) := fun {b} hW hc n => by
    rw [run hW hc n]
    exact (in_map O _).1 (hc n)
  have key : ∀ c, ∃ f, c < manyC w h → Ldr w h cs c → f < manyC w' h' ∧ Ldr w' h' cs' f ∧ OrbI w' h' cs' (stC w' f) (picB S (stC w c)) := fun c => by
    by_cases hc : c < manyC w h ∧ Ldr w h cs c
    · obtain ⟨a1, a2, a3⟩ := stC_ok hw hh hc.1
      obtain ⟨j, j1, j2, j3⟩ := lead_of hM' (way_map O a2) (cyc' a2 hc.2.1)
      exact ⟨j, fun _ _ => ⟨j1, j2, j3⟩⟩
    · exact ⟨0, fun h1 h2 => absurd ⟨h1, h2⟩ hc⟩
  obtain ⟨f, hf⟩ := Classical.axiomOfChoice key
  refine inj_len (ldrB w h cs) (ldrB w' h' cs') f (fun c hc hl => ?_) (fun c d hc hd h1 h2 e => ?_)
  · obtain ⟨f1, f2, _⟩ := hf c hc (ldrB_iff.1 hl)
    exact ⟨f1, ldrB_iff.2 f2⟩
  · have h1 := ldrB_iff.1 h1
    have h2 := ldrB_iff.1 h2
    obtain ⟨f1, f2, f3⟩ := hf c hc h1
    obtain ⟨g1, g2, g3⟩ := hf d hd h2
    obtain ⟨a1, a2, a3⟩ := stC_ok hw hh hc
    obtain ⟨b1, b2, b3⟩ := stC_ok hw hh hd
    rw [← e] at g3
    have fw : WayOk (stC w' (f c)) := (stC_ok hw' hh' f1).2.1
    have o1 : OrbI w' h' cs' (picB S (stC w c)) (picB S (stC w d)) := orb_trans (cyc_sym hM' fw f2.1 f3).2 g3
    obtain ⟨i, i1, _⟩ := o1
    rw [run a2 h1.1 i] at i1
    have i2 := map_inj O (rn_way w cs i a2) b2 i1
    exact ldr_same hM hc hd h1 h2 ⟨i, i2, fun k _ => h1.1 k⟩
theorem tracks_turn {w h : Int} {cs cs' : ByteArray} (hM : MazeOk w h cs) (P : PicM (turnM h) w h cs h w cs') : tracksN w h cs (manyC w h) = tracksN h w cs' (manyC h w) := by
  have hM' := pic_maze (turnM_ok w h) hM.2.1 hM.1 hM P
  have h1 := tracks_le (turnM_ok w h) hM.2.1 hM.1 hM P
  have h2 := tracks_le (untM_ok w h) hM.1 hM.2.1 hM' (turn_back_pic hM.1 hM.2.1 hM.2.2.1 P)
  omega
/-! ### The longest track from an end -/
def LongOf (w h : Int) (cs : ByteArray) (L : Nat) : Prop := (∃ k : Int, (0 ≤ k ∧ k < 2 * (w + h)) ∧ OutAt w h false (cs, entryB w h k) L) ∧ ∀ (k : Int) (n : Nat), 0 ≤ k ∧ k < 2 * (w + h) → OutAt w h false (cs, entryB w h k) n → n ≤ L
theorem LongOf.one {w h : Int} {cs : ByteArray} {a b : Nat} (h1 : LongOf w h cs a) (h2 : LongOf w h cs b) : a = b := by
  obtain ⟨⟨k, k1, k2⟩, g⟩ := h1
  obtain ⟨⟨j, j1, j2⟩, g'⟩ := h2
  have := g j b j1 j2
  have := g' k a k1 k2
  omega
theorem edge_pic {S : SymM} {w h w' h' : Int} (O : SymMOk S w h w' h') (hw : 1 ≤ w ∧ w ≤ 9) (hh : 1 ≤ h ∧ h ≤ 9) (hw' : 1 ≤ w' ∧ w' ≤ 9) (hh' : 1 ≤ h' ∧ h' ≤ 9) {k : Int} (hk : 0 ≤ k ∧ k < 2 * (w + h)) : ∃ j, (0 ≤ j ∧ j < 2 * (w' + h')) ∧ entryB w' h' j = picB S (entryB w h k) := by
  obtain ⟨a1, a2, a3, _⟩ := entry_ok hw hh hk
  have b2 := way_map O a2
  have b3 : ¬ BallIn w' h' (revB (picB S (entryB w h k))) := by
    rw [← map_rev O a2]
    exact fun hx => a3 ((in_map O _).2 hx)
  obtain ⟨e1, e2⟩ := out_entry hw' hh' (rev_way b2) (by rw [rev_rev b2]; exact (in_map O _).1 a1) b3
  rw [rev_rev b2] at e1
  exact ⟨_, e2, e1⟩
theorem long_turn {w h : Int} {cs cs' : ByteArray} (hM : MazeOk w h cs) (P : PicM (turnM h) w h cs h w cs') {L : Nat} (hL : LongOf w h cs L) : LongOf h w cs' L := by
  have hM' := pic_maze (turnM_ok w h) hM.2.1 hM.1 hM P
  obtain ⟨⟨k, k1, k2⟩, g⟩ := hL
  obtain ⟨a1, a2, _⟩ := entry_ok hM.1 hM.2.1 k1
  refine ⟨?_, fun j n hj hn => ?_⟩
  · obtain ⟨j, j1, j2⟩ := edge_pic (turnM_ok w h) hM.1 hM.2.1 hM.2.1 hM.1 k1
    exact ⟨j, j1, by rw [j2]; exact pic_out (turnM_ok w h) hM.1 hM.2.1 hM.2.1 hM.1 false ⟨hM, a1, a2⟩ P k2⟩
  · obtain ⟨b1, b2, _⟩ := entry_ok hM.2.1 hM.1 hj
    obtain ⟨i, i1, i2⟩ := edge_pic (untM_ok w h) hM.2.1 hM.1 hM.1 hM.2.1 hj
    refine g i n i1 ?_
    rw [i2]
    exact pic_out (untM_ok w h) hM.2.1 hM.1 hM.1 hM.2.1 false ⟨hM', b1, b2⟩ (turn_back_pic hM.1 hM.2.1 hM.2.2.1 P) hn
/-- A ball from an end enters each cell twice at most. -/
theorem twice_most {w h : Int} {cs : ByteArray} {b : BaT} (H : StOk w h (cs, b)) (he : Edge w h b) {n : Nat} (ho : OutAt w h false (cs, b) n) : 2 * n ≤ manyC w h := by
  obtain ⟨hM, hB, hW⟩ := H
  have hw := hM.1
  have hh := hM.2.1
  obtain ⟨o1, o2⟩ := out_stay.1 ho
  have ri : ∀ m, m < n → BallIn w h (revB (rnB w cs (m + 1) b)) := fun m hm => by
    rw [rn_succ]
    obtain ⟨a1, a2⟩ := rev_nx_at w cs (rnB w cs m b)
    have := o1 m hm
    unfold BallIn at this ⊢
    rw [a1, a2]
    exact this
  have wi := fun m => rn_way w cs m hW
  have apart : ∀ i j, i < j → j ≤ n → rnB w cs i b ≠ rnB w cs j b := fun i j hij hj e => by
    have : rnB w cs (n - (j - i)) b = rnB w cs n b := by
      have e1 := rn_add w cs i (n - j) b
      have e2 := rn_add w cs j (n - j) b
      rw [e] at e1
      rw [show n - (j - i) = i + (n - j) by omega, e1, ← e2, show j + (n - j) = n by omega]
    have h3 := o1 (n - (j - i)) (by omega)
    rw [this] at h3
    exact o2 h3
  refine Classical.byContradiction fun hlt => ?_
  obtain ⟨i, j, hij, hj, e⟩ := twice_of (n := 2 * n) (m := manyC w h) (fun i => if i < n then codeB w (rnB w cs i b) else codeB w (revB (rnB w cs (i - n + 1) b))) (fun i hi => by
    split
    · rename_i h1
      exact (stC_code hw hh (o1 i h1) (wi i)).1
    · exact (stC_code hw hh (ri (i - n) (by omega)) (rev_way (wi _))).1) (by omega)
  by_cases h1 : j < n
  · rw [if_pos h1, if_pos (by omega)] at e
    exact apart i j hij (by omega) (code_inj hw hh (o1 i (by omega)) (o1 j h1) (wi i) (wi j) e)
  · rw [if_neg h1] at e
    by_cases h2 : i < n
    · rw [if_pos h2] at e
      have e2 := code_inj hw hh (o1 i h2) (ri (j - n) (by omega)) (wi i) (rev_way (wi _)) e
      -- back from there
      have back : ∀ k, k ≤ j - n + 1 → rnB w cs (i + k) b = revB (rnB w cs (j - n + 1 - k) b) := fun k hk => by
        rw [rn_add, e2]
        exact rn_rev' w cs hk hW
      have hout : ¬ BallIn w h (rnB w cs (i + (j - n + 1)) b) := by
        rw [back _ (Nat.le_refl _), Nat.sub_self]
        exact he
      have hall : ∀ k, k < i + (j - n + 1) → BallIn w h (rnB w cs k b) := fun k hk => by
        by_cases hki : k < i
        · exact o1 k (by omega)
        · have := back (k - i) (by omega)
          rw [show i + (k - i) = k by omega, show j - n + 1 - (k - i) = (j - n - (k - i)) + 1 by omega] at this
          rw [this]
          exact ri _ (by omega)
      have hn : i + (j - n + 1) = n := out_one (out_stay.2 ⟨hall, hout⟩) ho
      have e3 := back (j - n + 1) (Nat.le_refl _)
      rw [hn, Nat.sub_self] at e3
      exact out_ne (w := w) (h := h) (cs := cs) (n := n) hW (by rw [e3]; exact rev_rev hW)
    · rw [if_neg h2] at e
      have e2 := code_inj hw hh (ri (i - n) (by omega)) (ri (j - n) (by omega)) (rev_way (wi _)) (rev_way (wi _)) e
      have e3 : rnB w cs (i - n + 1) b = rnB w cs (j - n + 1) b := by rw [← rev_rev (wi (i - n + 1)), e2, rev_rev (wi _)]
      exact apart _ _ (by omega) (by omega) e3
theorem bytesM_set (s : ByteArray) (i : Nat) (c : UInt8) : bytesOf (setByte s i c) = (bytesOf s).set i (c.toNat : Int) := by
  unfold bytesOf setByte
  rw [List.toList_toArray, List.map_set]
theorem ofBytesM (s : ByteArray) : ofBytes (bytesOf s) = s := by
  unfold bytesOf
  rw [ofBytes_of]
theorem bytesM_len (s : ByteArray) : (bytesOf s).length = s.size := by
  unfold bytesOf
  rw [List.length_map, size_list]
theorem bytesM_zero (n : Nat) : bytesOf (bs (List.replicate n 0)) = List.replicate n 0 := by
  unfold bytesOf
  show (List.replicate n (0 : UInt8)).map _ = _
  rw [List.map_replicate]
  rfl
/-! ### The program's way -/
/-- Cells laid one by one, in order of their numbers. -/
def LaidM (S : SymM) (w h : Int) (cs : ByteArray) (w' h' : Int) (i : Int) (cs' : ByteArray) : Prop := (cs'.size : Int) = w' * h' ∧ ∀ a b, InM w h a b → b * w + a < i → cs'.data.toList[((S.f a b).2 * w' + (S.f a b).1).toNat]? = cs.data.toList[(b * w + a).toNat]?
theorem LaidM.start {S : SymM} {w h w' h' : Int} {cs cs' : ByteArray} (hw : 1 ≤ w) (hz : (cs'.size : Int) = w' * h') : LaidM S w h cs w' h' 0 cs' := ⟨hz, fun a b hab hi => by
  have := Int.mul_nonneg hab.2.1 (show 0 ≤ w by omega)
  have := hab.1.1
  omega⟩
theorem LaidM.next {S : SymM} {w h w' h' : Int} (hw' : 1 ≤ w' ∧ w' ≤ 9) (hh' : 1 ≤ h' ∧ h' ≤ 9) (O : SymMOk S w h w' h') {cs cs' : ByteArray} {x y : Int} {c : UInt8} (hxy : InM w h x y) (hc : cs.data.toList[(y * w + x).toNat]? = some c) (L : LaidM S w h cs w' h' (y * w + x) cs') :
    LaidM S w h cs w' h' (y * w + x + 1) (setByte cs' ((S.f x y).2 * w' + (S.f x y).1).toNat c) := by
  obtain ⟨hz, hl⟩ := L
  refine ⟨by rw [setByte_size]; exact hz, fun a b hab hi => ?_⟩
  have f1 := (O.fwd x y).1 hxy
  have g1 := (O.fwd a b).1 hab
  obtain ⟨b1, b2, b3, b4⟩ := at_range f1.1 f1.2 hw' hh'
  obtain ⟨i1, i2, i3, i4⟩ := at_range g1.1 g1.2 hw' hh'
  unfold setByte
  rw [List.toList_toArray, List.getElem?_set]
  by_cases e : a = x ∧ b = y
  · obtain ⟨rfl, rfl⟩ := e
    rw [if_pos rfl, if_pos (by rw [← size_list]; omega), hc]
  · have n2 : ¬ ((S.f x y).2 * w' + (S.f x y).1).toNat = ((S.f a b).2 * w' + (S.f a b).1).toNat := fun h => e (by
      have := (atM_inj (y := (S.f x y).2) (y' := (S.f a b).2) f1.1 g1.1).1 (by omega)
      have f2 := O.gf x y
      rw [this.1, this.2, O.gf] at f2
      exact ⟨congrArg Prod.fst f2, congrArg Prod.snd f2⟩)
    rw [if_neg n2]
    refine hl a b hab ?_
    have n1 : ¬ (b * w + a = y * w + x) := fun h => e ((atM_inj hab.1 hxy.1).1 h)
    omega
theorem movedM_gen {S : SymM} {w h w' h' : Int} (hw : 1 ≤ w ∧ w ≤ 9) (hh : 1 ≤ h ∧ h ≤ 9) (hw' : 1 ≤ w' ∧ w' ≤ 9) (hh' : 1 ≤ h' ∧ h' ≤ 9) (O : SymMOk S w h w' h') {cs : ByteArray} (hs : (cs.size : Int) = w * h)
    (L : Nat → List Int → Int → Option (List Int)) (stop : ∀ out : List Int, Ev (fun k => L k out (cs.size : Int)) out)
    (step : ∀ (i : Nat) (x y : Int) (c : UInt8) (out r : List Int), i < cs.size → InM w h x y → InM w' h' (S.f x y).1 (S.f x y).2 → (i : Int).tmod w = x → w64 ((i : Int).tdiv w) = y → cs.data.toList[i]? = some c → (out.length : Int) = w' * h' → Ev (fun k => L k (out.set ((S.f x y).2 * w' + (S.f x y).1).toNat (c.toNat : Int)) ((i + 1 : Nat) : Int)) r → Ev (fun k => L k out (i : Int)) r) :
    ∀ (m i : Nat) (cs' : ByteArray), i + m = cs.size → LaidM S w h cs w' h' (i : Int) cs' → ∃ cs'', LaidM S w h cs w' h' (w * h) cs'' ∧ Ev (fun k => L k (bytesOf cs') (i : Int)) (bytesOf cs'')
  | 0, i, cs', hi, H => by
    obtain rfl : i = cs.size := by omega
    rw [hs] at H
    exact ⟨cs', H, stop _⟩
  | m + 1, i, cs', hi, H => by
    have hm := mul_range (a := w) (b := h) (by omega) (by omega) (by omega) (by omega)
    have ht : (i : Int).tmod w = (i : Int) % w := Int.tmod_eq_emod_of_nonneg (by omega)
    have hd : (i : Int).tdiv w = (i : Int) / w := Int.tdiv_eq_ediv_of_nonneg (by omega)
    obtain ⟨hin, hix⟩ := cellM_of hw hh i (by omega)
    have he : (i : Int) / w * w + (i : Int) % w = i := by
      have a := at_range hin.1 hin.2 hw hh
      omega
    obtain ⟨c, hc⟩ := byte_at (cs := cs) (i := i) (by omega)
    have hc' : cs.data.toList[((i : Int) / w * w + (i : Int) % w).toNat]? = some c := by rw [hix]; exact hc
    have H' := LaidM.next hw' hh' O hin hc' (by rw [he]; exact H)
    rw [he, show (i : Int) + 1 = ((i + 1 : Nat) : Int) by omega] at H'
    obtain ⟨cs'', p, q⟩ := movedM_gen hw hh hw' hh' O hs L stop step m (i + 1) _ (by omega) H'
    rw [bytesM_set] at q
    have hy := hin.2
    exact ⟨cs'', p, step i _ _ c _ _ (by omega) hin ((O.fwd _ _).1 hin) ht (by rw [hd]; exact w64_of (by omega) (by omega)) hc (by rw [bytesM_len]; exact H.1) q⟩
def othS (s : ByteArray) : ByteArray := swapS (swp (90 : UInt8).toNat (83 : UInt8).toNat) s
theorem othM_eq (c : UInt8) : UInt8.ofNat (swp (90 : UInt8).toNat (83 : UInt8).toNat c.toNat) = othM c := by
  unfold othM swp swU
  by_cases h1 : c = 90
  · subst h1
    rfl
  · by_cases h2 : c = 83
    · subst h2
      rfl
    · rw [if_neg (fun e => h1 (UInt8.toNat_inj.1 e)), if_neg (fun e => h2 (UInt8.toNat_inj.1 e)), if_neg h1, if_neg h2]
      simp
theorem othS_list (s : ByteArray) : (othS s).data.toList = s.data.toList.map othM := by
  show (s.data.toList.map fun c => UInt8.ofNat (swp (90 : UInt8).toNat (83 : UInt8).toNat c.toNat)).toArray.toList = _
  rw [List.toList_toArray]
  exact List.map_congr_left fun c _ => othM_eq c
theorem othS_size (s : ByteArray) : (othS s).size = s.size := by
  rw [size_list, size_list, othS_list, List.length_map]
theorem exchanged_ev (s : ByteArray) (h : s.size ≤ 1048576) : Ev (fun k => impl_exchanged k s) (othS s) :=
  Ev.step (fun k => (impl_exchanged.eq k s).trans (show otherB 90 83 s = some (othS s) from if_pos (by omega))) (Ev.now _)
theorem LaidM.done {S : SymM} {w h w' h' : Int} (hw : 1 ≤ w ∧ w ≤ 9) (hh : 1 ≤ h ∧ h ≤ 9) {cs cs' : ByteArray} (hs : (cs.size : Int) = w * h) (L : LaidM S w h cs w' h' (w * h) cs') : PicM S w h cs w' h' (othS cs') := ⟨by rw [othS_size]; exact L.1, fun a b hab => by
  obtain ⟨a1, a2, a3, a4⟩ := at_range hab.1 hab.2 hw hh
  obtain ⟨c, hc⟩ := byte_at (cs := cs) (i := (b * w + a).toNat) (by omega)
  have h1 := L.2 a b hab a4
  rw [hc] at h1
  exact ⟨c, hc, by rw [othS_list, List.getElem?_map, h1]; rfl⟩⟩
/-! ### The reference's way: cells behind each other -/
def PreM (S : SymM) (w h : Int) (cs : ByteArray) (w' h' : Int) (n : Int) (out : ByteArray) : Prop := (out.size : Int) = n ∧ ∀ a b, InM w' h' a b → b * w' + a < n → ∃ c, cs.data.toList[((S.g a b).2 * w + (S.g a b).1).toNat]? = some c ∧ out.data.toList[(b * w' + a).toNat]? = some (othM c)
theorem PreM.start (S : SymM) {w h w' h' : Int} (cs : ByteArray) (hw' : 1 ≤ w') : PreM S w h cs w' h' 0 ByteArray.empty := ⟨rfl, fun a b hab hi => by
  have := Int.mul_nonneg hab.2.1 (show 0 ≤ w' by omega)
  have := hab.1.1
  omega⟩
theorem PreM.next {S : SymM} {w h w' h' : Int} {cs out : ByteArray} {a b : Int} {c : UInt8} (hw' : 1 ≤ w' ∧ w' ≤ 9) (hh' : 1 ≤ h' ∧ h' ≤ 9) (hab : InM w' h' a b) (hc : cs.data.toList[((S.g a b).2 * w + (S.g a b).1).toNat]? = some c) (P : PreM S w h cs w' h' (b * w' + a) out) : PreM S w h cs w' h' (b * w' + a + 1) (out ++ bs [othM c]) := by
  obtain ⟨hz, hl⟩ := P
  have h1 := at_range hab.1 hab.2 hw' hh'
  refine ⟨by rw [ByteArray.size_append]; have : (bs [othM c]).size = 1 := rfl; omega, fun x y hxy hi => ?_⟩
  have h2 := at_range hxy.1 hxy.2 hw' hh'
  have hsz := size_list out
  rw [append_list]
  by_cases e : x = a ∧ y = b
  · obtain ⟨rfl, rfl⟩ := e
    refine ⟨c, hc, ?_⟩
    rw [List.getElem?_append_right (by omega), show (y * w' + x).toNat - out.data.toList.length = 0 by omega]
    rfl
  · have n1 : ¬ (y * w' + x = b * w' + a) := fun h => e ((atM_inj hxy.1 hab.1).1 h)
    obtain ⟨d, d1, d2⟩ := hl x y hxy (by omega)
    exact ⟨d, d1, by rw [List.getElem?_append_left (by omega)]; exact d2⟩
theorem PreM.done {S : SymM} {w h w' h' : Int} (hw' : 1 ≤ w' ∧ w' ≤ 9) (hh' : 1 ≤ h' ∧ h' ≤ 9) (O : SymMOk S w h w' h') {cs out : ByteArray} (P : PreM S w h cs w' h' (w' * h') out) : PicM S w h cs w' h' out := ⟨P.1, fun x y hxy => by
  have hf := (O.fwd x y).1 hxy
  have h1 := at_range hf.1 hf.2 hw' hh'
  obtain ⟨c, c1, c2⟩ := P.2 _ _ hf h1.2.2.2
  rw [O.gf] at c1
  exact ⟨c, c1, c2⟩⟩
theorem miOther_ev {c : UInt8} (h : SignM c) : Ev (fun k => spec_miOther k (c.toNat : Int)) (bs [othM c]) := by
  rcases h with rfl | rfl | rfl
  · exact Ev.step (fun k => spec_miOther.eq k _) (Ev.no rfl (Ev.no rfl (Ev.now _)))
  · exact Ev.step (fun k => spec_miOther.eq k _) (Ev.yes rfl (Ev.now _))
  · exact Ev.step (fun k => spec_miOther.eq k _) (Ev.no rfl (Ev.yes rfl (Ev.now _)))
section
variable {w h : Int} {cs : ByteArray} (t : Bool) (hM : MazeOk w h cs)
include hM
theorem turnI_ev : ∃ cs', PicM (turnM h) w h cs h w cs' ∧ Ev (fun k => impl_TurnMaze k (w, h, cs, t)) ((h, w, cs', t), true) := by
  obtain ⟨hw, hh, hs, _⟩ := id hM
  have hm := mul_range (a := h) (b := w) (by omega) (by omega) (by omega) (by omega)
  have hm2 := mul_range (a := w) (b := h) (by omega) (by omega) (by omega) (by omega)
  have hz : LaidM (turnM h) w h cs h w ((0 : Nat) : Int) (bs (List.replicate (h * w).toNat 0)) := LaidM.start hw.1 (by
    rw [size_list]
    show ((List.replicate (h * w).toNat (0 : UInt8)).length : Int) = _
    rw [List.length_replicate]
    omega)
  obtain ⟨cs', p, q⟩ := movedM_gen hw hh hh hw (turnM_ok w h) hs (fun k out i => impl_moved_l k (cs, w, h, h, out, (cs.size : Int), i))
    (fun out => Ev.step (fun k => impl_moved_l.eq k cs w h h out _ _) (Ev.no (decide_eq_false (by omega)) (Ev.now _)))
    (fun i x y c out r hi hin hin2 e1 e2 hc hl hr => by
      have hb := bt_at hc
      have hx := hin.1
      have hy := hin.2
      have e3 : w64 (w64 (x * h) + (h - 1 - y)) = x * h + (h - 1 - y) := by
        have := at_range hin2.1 hin2.2 hh hw
        simp only [turnM] at this
        rw [w64_of (n := x * h) (by omega) (by omega), w64_of (by omega) (by omega)]
      obtain ⟨a1, a2, a3, a4⟩ := at_range hin2.1 hin2.2 hh hw
      have a3 : 0 ≤ x * h + (h - 1 - y) := a3
      have a4 : x * h + (h - 1 - y) < h * w := a4
      refine Ev.step (fun k => impl_moved_l.eq k cs w h h out _ _) (Ev.yes (lt_nat hi) (Ev.yes (bne_iff_ne.2 (by omega)) (Ev.yes (bne_iff_ne.2 (by omega)) ?_)))
      rw [e1, e2]
      refine Ev.bind (a := (h - 1 - y, x)) (Ev.step (fun k => impl_TurnMaze_1.eq k x y h) (Ev.now' (by rw [w64_of (n := h - 1) (by omega) (by omega), w64_of (by omega) (by omega)]))) ?_
      refine Ev.yes (inB_nat hi) ?_
      dsimp only
      rw [e3, Int.toNat_natCast, hb, w64_succ (by omega)]
      exact Ev.yes (inB_of (by omega) (by omega)) hr)
    cs.size 0 _ (by omega) hz
  rw [bytesM_zero] at q
  have iM := (isMaze_ev w h cs t (by omega)).isT hM
  have hcz : cs'.size ≤ 1048576 := by have := p.1; omega
  refine ⟨othS cs', LaidM.done hw hh hs p, Ev.step (fun k => impl_TurnMaze.eq k w h cs t) (Ev.bind iM (Ev.no rfl (Ev.bind (a := cs') (Ev.step (fun k => impl_moved.eq k cs w h w h) ?_) (Ev.bind (exchanged_ev cs' hcz) (Ev.now _)))))⟩
  rw [w64_of (n := h * w) (by omega) (by omega)]
  refine Ev.yes (by rw [decide_eq_true (by omega), decide_eq_true (by omega), fits_of (by omega)]; rfl) (Ev.bind q (Ev.now' ?_))
  rw [ofBytesM]
theorem mirI_ev : ∃ cs', PicM (mirM w) w h cs w h cs' ∧ Ev (fun k => impl_MirrorMaze k (w, h, cs, t)) ((w, h, cs', t), true) := by
  obtain ⟨hw, hh, hs, _⟩ := id hM
  have hm2 := mul_range (a := w) (b := h) (by omega) (by omega) (by omega) (by omega)
  have hz : LaidM (mirM w) w h cs w h ((0 : Nat) : Int) (bs (List.replicate (w * h).toNat 0)) := LaidM.start hw.1 (by
    rw [size_list]
    show ((List.replicate (w * h).toNat (0 : UInt8)).length : Int) = _
    rw [List.length_replicate]
    omega)
  obtain ⟨cs', p, q⟩ := movedM_gen hw hh hw hh (mirM_ok w h) hs (fun k out i => impl_moved_2_l k (cs, w, w, (w, h, cs, t), out, (cs.size : Int), i))
    (fun out => Ev.step (fun k => impl_moved_2_l.eq k cs w w w h cs t out _ _) (Ev.no (decide_eq_false (by omega)) (Ev.now _)))
    (fun i x y c out r hi hin hin2 e1 e2 hc hl hr => by
      have hb := bt_at hc
      have hx := hin.1
      have hy := hin.2
      obtain ⟨a1, a2, a3, a4⟩ := at_range hin2.1 hin2.2 hw hh
      have a1 : 0 ≤ y * w := a1
      have a2 : y * w ≤ 81 := a2
      have a3 : 0 ≤ y * w + (w - 1 - x) := a3
      have a4 : y * w + (w - 1 - x) < w * h := a4
      have e3 : w64 (w64 (y * w) + (w - 1 - x)) = y * w + (w - 1 - x) := by
        rw [w64_of (n := y * w) (by omega) (by omega), w64_of (by omega) (by omega)]
      refine Ev.step (fun k => impl_moved_2_l.eq k cs w w w h cs t out _ _) (Ev.yes (lt_nat hi) (Ev.yes (bne_iff_ne.2 (by omega)) (Ev.yes (bne_iff_ne.2 (by omega)) ?_)))
      rw [e1, e2]
      refine Ev.bind (a := (w - 1 - x, y)) (Ev.step (fun k => impl_MirrorMaze_1.eq k x y w h cs t) (Ev.now' (by rw [w64_of (n := w - 1) (by omega) (by omega), w64_of (by omega) (by omega)]))) ?_
      refine Ev.yes (inB_nat hi) ?_
      dsimp only
      rw [e3, Int.toNat_natCast, hb, w64_succ (by omega)]
      exact Ev.yes (inB_of (by omega) (by omega)) hr)
    cs.size 0 _ (by omega) hz
  rw [bytesM_zero] at q
  have iM := (isMaze_ev w h cs t (by omega)).isT hM
  have hcz : cs'.size ≤ 1048576 := by have := p.1; omega
  refine ⟨othS cs', LaidM.done hw hh hs p, Ev.step (fun k => impl_MirrorMaze.eq k w h cs t) (Ev.bind iM (Ev.no rfl (Ev.bind (a := cs') (Ev.step (fun k => impl_moved_2.eq k cs w w h w h cs t) ?_) (Ev.bind (exchanged_ev cs' hcz) (Ev.now _)))))⟩
  rw [w64_of (n := w * h) (by omega) (by omega)]
  refine Ev.yes (by rw [decide_eq_true (by omega), decide_eq_true (by omega), fits_of (by omega)]; rfl) (Ev.bind q (Ev.now' ?_))
  rw [ofBytesM]
theorem turnIn_ev {y : Nat} (hy : (y : Int) < w) : ∀ (m x : Nat) (out : ByteArray), ((x + m : Nat) : Int) = h → PreM (turnM h) w h cs h w ((y : Int) * h + x) out → ∃ out', PreM (turnM h) w h cs h w (((y + 1 : Nat) : Int) * h) out' ∧
    Ev (fun k => spec_TurnMaze_l_l k ((w, h, cs, t), zeroMz, (h, w, out, t), (y : Int), (x : Int))) ((w, h, cs, t), zeroMz, (h, w, out', t), (y : Int))
  | 0, x, out, hx, P => by
    refine ⟨out, ?_, Ev.step (fun k => spec_TurnMaze_l_l.eq k w h cs t 0 0 ByteArray.empty false h w out t y x) (Ev.no (decide_eq_false (by omega)) (Ev.now _))⟩
    rw [Int.natCast_succ, Int.add_mul, Int.one_mul, show h = (x : Int) by omega]
    rw [show h = (x : Int) by omega] at P
    exact P
  | m + 1, x, out, hx, P => by
    obtain ⟨hw, hh, hs, hc⟩ := id hM
    have hm2 := mul_range (a := w) (b := h) (by omega) (by omega) (by omega) (by omega)
    have hm3 := mul_range (a := h) (b := w) (by omega) (by omega) (by omega) (by omega)
    have hin : InM h w (x : Int) (y : Int) := ⟨by omega, by omega⟩
    have q := at_range hin.1 hin.2 hh hw
    have hg : InM w h (y : Int) (h - 1 - (x : Int)) := ⟨by omega, by omega⟩
    obtain ⟨a1, a2, a3, a4⟩ := at_range hg.1 hg.2 hw hh
    obtain ⟨c, e⟩ := byte_at (cs := cs) (i := ((h - 1 - (x : Int)) * w + (y : Int)).toNat) (by omega)
    have P' := PreM.next (S := turnM h) (c := c) hh hw hin e P
    have hz := P.1
    have hz1 : (bs [othM c]).size = 1 := rfl
    rw [show (y : Int) * h + (x : Int) + 1 = (y : Int) * h + ((x + 1 : Nat) : Int) by omega] at P'
    obtain ⟨out', r1, r2⟩ := turnIn_ev hy m (x + 1) _ (by omega) P'
    have eI : w64 (w64 (w64 (w64 (h - 1) - (x : Int)) * w) + (y : Int)) = (h - 1 - (x : Int)) * w + (y : Int) := by
      rw [w64_of (n := h - 1) (by omega) (by omega), w64_of (n := h - 1 - (x : Int)) (by omega) (by omega), w64_of (n := (h - 1 - (x : Int)) * w) (by omega) (by omega), w64_of (by omega) (by omega)]
    refine ⟨out', r1, Ev.step (fun k => spec_TurnMaze_l_l.eq k w h cs t 0 0 ByteArray.empty false h w out t y x) (Ev.yes (decide_eq_true (by omega)) ?_)⟩
    rw [eI, bt_at e, w64_succ (by omega)]
    exact Ev.yes (inB_of a3 (by omega)) (Ev.bind (miOther_ev (hc c (List.mem_of_getElem? e))) (Ev.yes (fitS_of (by omega)) r2))
theorem turnOut_ev : ∀ (m y : Nat) (out : ByteArray), ((y + m : Nat) : Int) = w → PreM (turnM h) w h cs h w ((y : Int) * h) out → ∃ out', PreM (turnM h) w h cs h w (h * w) out' ∧ Ev (fun k => spec_TurnMaze_l k ((w, h, cs, t), zeroMz, (h, w, out, t), (y : Int))) (zeroMz, (h, w, out', t))
  | 0, y, out, hy, P => by
    refine ⟨out, ?_, Ev.step (fun k => spec_TurnMaze_l.eq k w h cs t 0 0 ByteArray.empty false h w out t y) (Ev.no (decide_eq_false (by omega)) (Ev.now _))⟩
    rw [Int.mul_comm, show w = (y : Int) by omega]
    rw [show w = (y : Int) by omega] at P
    exact P
  | m + 1, y, out, hy, P => by
    have hw := hM.1
    have hh := hM.2.1
    obtain ⟨o1, p1, q1⟩ := turnIn_ev t hM (y := y) (by omega) h.toNat 0 out (by omega) (by simpa using P)
    obtain ⟨o2, p2, q2⟩ := turnOut_ev m (y + 1) o1 (by omega) p1
    refine ⟨o2, p2, Ev.step (fun k => spec_TurnMaze_l.eq k w h cs t 0 0 ByteArray.empty false h w out t y) (Ev.yes (decide_eq_true (by omega)) (Ev.bind q1 ?_))⟩
    simp only
    rw [w64_succ (by omega)]
    exact q2
theorem turnS_ev {cs' : ByteArray} (P : PicM (turnM h) w h cs h w cs') : Ev (fun k => spec_TurnMaze k (w, h, cs, t)) ((h, w, cs', t), true) := by
  have hw := hM.1
  have hh := hM.2.1
  have hz := OkMz.size (m := (w, h, cs, t)) hM
  obtain ⟨o, p, q⟩ := turnOut_ev t hM w.toNat 0 ByteArray.empty (by omega) (by simpa using PreM.start (turnM h) (w := w) (h := h) (w' := h) (h' := w) cs hh.1)
  obtain rfl := pic_one (turnM_ok w h) hh hw (PreM.done hh hw (turnM_ok w h) p) P
  exact Ev.step (fun k => spec_TurnMaze.eq k w h cs t) (Ev.bind ((miGood_ev w h cs t (by simp only at hz; omega)).isT hM) (Ev.no rfl (Ev.bind q (Ev.now _))))
theorem mirIn_ev {y : Nat} (hy : (y : Int) < h) : ∀ (m x : Nat) (out : ByteArray), ((x + m : Nat) : Int) = w → PreM (mirM w) w h cs w h ((y : Int) * w + x) out → ∃ out', PreM (mirM w) w h cs w h (((y + 1 : Nat) : Int) * w) out' ∧
    Ev (fun k => spec_MirrorMaze_l_l k ((w, h, cs, t), zeroMz, (w, h, out, t), (y : Int), w - 1 - (x : Int))) ((w, h, cs, t), zeroMz, (w, h, out', t), (y : Int))
  | 0, x, out, hx, P => by
    refine ⟨out, ?_, Ev.step (fun k => spec_MirrorMaze_l_l.eq k w h cs t 0 0 ByteArray.empty false w h out t y _) (Ev.no (decide_eq_false (by omega)) (Ev.now _))⟩
    have e : ((y + 1 : Nat) : Int) * w = (y : Int) * w + x := by rw [Int.natCast_succ, Int.add_mul, Int.one_mul]; omega
    rw [e]
    exact P
  | m + 1, x, out, hx, P => by
    obtain ⟨hw, hh, hs, hc⟩ := id hM
    have hm2 := mul_range (a := w) (b := h) (by omega) (by omega) (by omega) (by omega)
    have hin : InM w h (x : Int) (y : Int) := ⟨by omega, by omega⟩
    have q := at_range hin.1 hin.2 hw hh
    have hg : InM w h (w - 1 - (x : Int)) (y : Int) := ⟨by omega, by omega⟩
    obtain ⟨a1, a2, a3, a4⟩ := at_range hg.1 hg.2 hw hh
    obtain ⟨c, e⟩ := byte_at (cs := cs) (i := ((y : Int) * w + (w - 1 - (x : Int))).toNat) (by omega)
    have P' := PreM.next (S := mirM w) (c := c) hw hh hin e P
    have hz := P.1
    have hz1 : (bs [othM c]).size = 1 := rfl
    rw [show (y : Int) * w + (x : Int) + 1 = (y : Int) * w + ((x + 1 : Nat) : Int) by omega] at P'
    obtain ⟨out', r1, r2⟩ := mirIn_ev hy m (x + 1) _ (by omega) P'
    have eI : w64 (w64 ((y : Int) * w) + (w - 1 - (x : Int))) = (y : Int) * w + (w - 1 - (x : Int)) := by
      rw [w64_of (n := (y : Int) * w) (by omega) (by omega), w64_of (by omega) (by omega)]
    refine ⟨out', r1, Ev.step (fun k => spec_MirrorMaze_l_l.eq k w h cs t 0 0 ByteArray.empty false w h out t y _) (Ev.yes (decide_eq_true (by omega)) ?_)⟩
    rw [eI, bt_at e, show w64 (w - 1 - (x : Int) - 1) = w - 1 - ((x + 1 : Nat) : Int) by rw [w64_of (by omega) (by omega)]; omega]
    exact Ev.yes (inB_of a3 (by omega)) (Ev.bind (miOther_ev (hc c (List.mem_of_getElem? e))) (Ev.yes (fitS_of (by omega)) r2))
theorem mirOut_ev : ∀ (m y : Nat) (out : ByteArray), ((y + m : Nat) : Int) = h → PreM (mirM w) w h cs w h ((y : Int) * w) out → ∃ out', PreM (mirM w) w h cs w h (w * h) out' ∧ Ev (fun k => spec_MirrorMaze_l k ((w, h, cs, t), zeroMz, (w, h, out, t), (y : Int))) (zeroMz, (w, h, out', t))
  | 0, y, out, hy, P => by
    refine ⟨out, ?_, Ev.step (fun k => spec_MirrorMaze_l.eq k w h cs t 0 0 ByteArray.empty false w h out t y) (Ev.no (decide_eq_false (by omega)) (Ev.now _))⟩
    have e : w * h = (y : Int) * w := by rw [Int.mul_comm, show h = (y : Int) by omega]
    rw [e]
    exact P
  | m + 1, y, out, hy, P => by
    have hw := hM.1
    have hh := hM.2.1
    obtain ⟨o1, p1, q1⟩ := mirIn_ev t hM (y := y) (by omega) w.toNat 0 out (by omega) (by simpa using P)
    obtain ⟨o2, p2, q2⟩ := mirOut_ev m (y + 1) o1 (by omega) p1
    refine ⟨o2, p2, Ev.step (fun k => spec_MirrorMaze_l.eq k w h cs t 0 0 ByteArray.empty false w h out t y) (Ev.yes (decide_eq_true (by omega)) ?_)⟩
    rw [sub64 hw]
    refine Ev.bind (by simpa using q1) ?_
    simp only
    rw [w64_succ (by omega)]
    exact q2
theorem mirS_ev {cs' : ByteArray} (P : PicM (mirM w) w h cs w h cs') : Ev (fun k => spec_MirrorMaze k (w, h, cs, t)) ((w, h, cs', t), true) := by
  have hw := hM.1
  have hh := hM.2.1
  have hz := OkMz.size (m := (w, h, cs, t)) hM
  obtain ⟨o, p, q⟩ := mirOut_ev t hM h.toNat 0 ByteArray.empty (by omega) (by simpa using PreM.start (mirM w) (w := w) (h := h) (w' := w) (h' := h) cs hw.1)
  obtain rfl := pic_one (mirM_ok w h) hw hh (PreM.done hw hh (mirM_ok w h) p) P
  exact Ev.step (fun k => spec_MirrorMaze.eq k w h cs t) (Ev.bind ((miGood_ev w h cs t (by simp only at hz; omega)).isT hM) (Ev.no rfl (Ev.bind q (Ev.now _))))
/-! ### Mirrors counted -/
theorem countI_ev : Ev (fun k => impl_CountMirrors k (w, h, cs, t)) ((cs.data.toList.count 90 : Int), (cs.data.toList.count 83 : Int), true) := by
  have hz := OkMz.size (m := (w, h, cs, t)) hM
  exact Ev.step (fun k => impl_CountMirrors.eq k w h cs t) (Ev.bind ((isMaze_ev w h cs t (by simp only at hz; omega)).isT hM) (Ev.no rfl (Ev.bind (Ev.step (fun k => (strings_Count.eq k (cs, bs [90])).trans (show strCount1 cs (bs [90]) = some (cs.data.toList.count 90 : Int) from rfl)) (Ev.now _)) (Ev.bind (Ev.step (fun k => (strings_Count.eq k (cs, bs [83])).trans (show strCount1 cs (bs [83]) = some (cs.data.toList.count 83 : Int) from rfl)) (Ev.now _)) (Ev.now _)))))
theorem countS_l_ev : ∀ (m i : Nat), i + m = cs.size → Ev (fun k => spec_CountMirrors_l k ((w, h, cs, t), ((cs.data.toList.take i).count 90 : Int), ((cs.data.toList.take i).count 83 : Int), (i : Int))) ((cs.data.toList.count 90 : Int), (cs.data.toList.count 83 : Int))
  | 0, i, hi => by
    have hsz := size_list cs
    rw [List.take_of_length_le (by omega)]
    exact Ev.step (fun k => spec_CountMirrors_l.eq k w h cs t _ _ _) (Ev.no (not_lt_nat (by omega)) (Ev.now _))
  | m + 1, i, hi => by
    have hsz := size_list cs
    have hz := OkMz.size (m := (w, h, cs, t)) hM
    simp only at hz
    obtain ⟨c, hc⟩ := byte_at (cs := cs) (i := i) (by omega)
    have ih := countS_l_ev m (i + 1) (by omega)
    have l1 := List.count_le_length (a := (90 : UInt8)) (l := cs.data.toList.take i)
    have l2 := List.count_le_length (a := (83 : UInt8)) (l := cs.data.toList.take i)
    rw [List.length_take] at l1 l2
    rw [List.take_add_one, hc, Option.toList_some, List.count_append, List.count_append] at ih
    refine Ev.step (fun k => spec_CountMirrors_l.eq k w h cs t _ _ _) (Ev.yes (lt_nat (by omega)) (Ev.yes (inB_nat (by omega)) ?_))
    rw [Int.toNat_natCast, bt_at hc, w64_succ (by omega), w64_succ (by omega), w64_succ (by omega)]
    rcases hM.2.2.2 c (List.mem_of_getElem? hc) with rfl | rfl | rfl
    · exact Ev.no rfl (Ev.yes (inB_nat (by omega)) (Ev.no rfl ih))
    · exact Ev.yes rfl (Ev.yes (inB_nat (by omega)) (Ev.no rfl ih))
    · exact Ev.no rfl (Ev.yes (inB_nat (by omega)) (Ev.yes rfl ih))
theorem countS_ev : Ev (fun k => spec_CountMirrors k (w, h, cs, t)) ((cs.data.toList.count 90 : Int), (cs.data.toList.count 83 : Int), true) := by
  have hz := OkMz.size (m := (w, h, cs, t)) hM
  exact Ev.step (fun k => spec_CountMirrors.eq k w h cs t) (Ev.bind ((miGood_ev w h cs t (by simp only at hz; omega)).isT hM) (Ev.no rfl (Ev.bind (countS_l_ev t hM cs.size 0 (by omega)) (Ev.now _))))
end
/-! ### Counts -/
theorem cnt_range (l : List UInt8) (p : UInt8 → Bool) (q : Nat → Bool) (hq : ∀ i c, l[i]? = some c → q i = p c) : ∀ n, n ≤ l.length → ((List.range n).filter q).length = (l.take n).countP p
  | 0, _ => by simp
  | n + 1, hn => by
    have hx : l[n]? = some l[n] := List.getElem?_eq_getElem (by omega)
    rw [List.range_succ, List.filter_append, List.length_append, cnt_range l p q hq n (by omega), List.take_add_one, hx, Option.toList_some, List.countP_append]
    congr 1
    rw [List.filter_cons, hq n _ hx, List.countP_cons]
    simp
    split <;> simp_all
theorem cnt_all (s : ByteArray) (c : UInt8) : ((List.range s.size).filter fun i => s.data.toList[i]? == some c).length = s.data.toList.count c := by
  have h := cnt_range s.data.toList (fun x => x == c) (fun i => s.data.toList[i]? == some c) (fun i d hd => by rw [hd]; rfl) s.size (by rw [size_list]; exact Nat.le_refl _)
  rw [h, List.take_of_length_le (by rw [size_list]; exact Nat.le_refl _)]
  rfl
theorem pic_count {S : SymM} {w h w' h' : Int} (O : SymMOk S w h w' h') (hw : 1 ≤ w ∧ w ≤ 9) (hh : 1 ≤ h ∧ h ≤ 9) (hw' : 1 ≤ w' ∧ w' ≤ 9) (hh' : 1 ≤ h' ∧ h' ≤ 9) {cs cs' : ByteArray} (hs : (cs.size : Int) = w * h) (P : PicM S w h cs w' h' cs') (c : UInt8) : cs.data.toList.count c ≤ cs'.data.toList.count (othM c) := by
  rw [← cnt_all, ← cnt_all]
  have hz := P.1
  have loc : ∀ i : Nat, i < cs.size → InM w h ((i : Int) % w) ((i : Int) / w) ∧ ((i : Int) / w * w + (i : Int) % w).toNat = i := fun i hi => cellM_of hw hh i (by omega)
  refine inj_len _ _ (fun i => ((S.f ((i : Int) % w) ((i : Int) / w)).2 * w' + (S.f ((i : Int) % w) ((i : Int) / w)).1).toNat) (fun i hi hp => ?_) (fun i j hi hj h1 h2 e => ?_)
  · obtain ⟨g1, g2⟩ := loc i hi
    obtain ⟨d, d1, d2⟩ := P.2 _ _ g1
    rw [g2] at d1
    have hp := beq_iff_eq.1 hp
    rw [d1] at hp
    cases hp
    have g3 := (O.fwd _ _).1 g1
    have g4 := at_range g3.1 g3.2 hw' hh'
    exact ⟨by omega, beq_iff_eq.2 d2⟩
  · obtain ⟨g1, g2⟩ := loc i hi
    obtain ⟨k1, k2⟩ := loc j hj
    have g3 := (O.fwd _ _).1 g1
    have k3 := (O.fwd _ _).1 k1
    have g4 := at_range g3.1 g3.2 hw' hh'
    have k4 := at_range k3.1 k3.2 hw' hh'
    have e2 := (atM_inj (y := (S.f ((i : Int) % w) ((i : Int) / w)).2) (y' := (S.f ((j : Int) % w) ((j : Int) / w)).2) g3.1 k3.1).1 (by omega)
    have e3 := O.gf ((i : Int) % w) ((i : Int) / w)
    rw [e2.1, e2.2, O.gf] at e3
    have a1 := congrArg Prod.fst e3
    have a2 := congrArg Prod.snd e3
    simp only at a1 a2
    rw [← g2, ← k2, ← a1, ← a2]
theorem count_turn {w h : Int} {cs cs' : ByteArray} (hM : MazeOk w h cs) (P : PicM (turnM h) w h cs h w cs') (c : UInt8) : cs'.data.toList.count (othM c) = cs.data.toList.count c := by
  have h1 := pic_count (turnM_ok w h) hM.1 hM.2.1 hM.2.1 hM.1 hM.2.2.1 P c
  have h2 := pic_count (untM_ok w h) hM.2.1 hM.1 hM.1 hM.2.1 P.1 (turn_back_pic hM.1 hM.2.1 hM.2.2.1 P) (othM c)
  rw [othM_othM] at h2
  omega
theorem count_two (l : List UInt8) (hl : ∀ c ∈ l, SignM c) : l.countP (fun c => c != 46) = l.count 90 + l.count 83 := by
  induction l with
  | nil => rfl
  | cons c l ih =>
    have ih := ih fun d hd => hl d (List.mem_cons_of_mem _ hd)
    rw [List.countP_cons, List.count_cons, List.count_cons, ih]
    rcases hl c List.mem_cons_self with rfl | rfl | rfl
    · rfl
    · show _ + 1 = _ + 1 + (_ + 0)
      omega
    · show _ + 1 = _ + 0 + (_ + 1)
      omega
theorem mirI_count {w h : Int} {cs : ByteArray} (hM : MazeOk w h cs) : ((List.range cs.size).filter (mirI cs)).length = cs.data.toList.count 90 + cs.data.toList.count 83 := by
  have h := cnt_range cs.data.toList (fun x => x != 46) (mirI cs) (fun i d hd => by unfold mirI; rw [List.getD_eq_getElem?_getD, hd]; rfl) cs.size (by rw [size_list]; exact Nat.le_refl _)
  rw [h, List.take_of_length_le (by rw [size_list]; exact Nat.le_refl _), count_two _ hM.2.2.2]
/-! ### Where a ball stops that follows a track -/
section
variable {w h : Int} {cs : ByteArray} (hM : MazeOk w h cs)
def StopQ (w h : Int) (cs : ByteArray) (T : BaT → Prop) (b : BaT) (n : Nat) : Prop := ¬ BallIn w h (rnB w cs n b) ∨ T (rnB w cs n b) ∨ ∃ j, j < n ∧ rnB w cs j b = rnB w cs n b
def Closed (w h : Int) (cs : ByteArray) (T : BaT → Prop) : Prop := ∀ x, T x → (BallIn w h x ∧ WayOk x) ∧ (BallIn w h (nxB w cs x) → T (nxB w cs x))
theorem closed_run {T : BaT → Prop} (hT : Closed w h cs T) {x : BaT} (hx : T x) : ∀ n : Nat, (∀ j, j ≤ n → BallIn w h (rnB w cs j x)) → T (rnB w cs n x)
  | 0, _ => hx
  | n + 1, hb => by
    have h1 := closed_run hT hx n fun j hj => hb j (by omega)
    have h2 := hb (n + 1) (Nat.le_refl _)
    rw [rn_succ] at h2 ⊢
    exact (hT _ h1).2 h2
theorem mark_all {T : BaT → Prop} (hT : Closed w h cs T) {b : BaT} {n : Nat} (hq : StopQ w h cs T b n) (hl : ∀ j, j < n → ¬ StopQ w h cs T b j) (x : BaT) : (T x ∨ ∃ j, j < n ∧ rnB w cs j b = x) ↔ (T x ∨ OrbI w h cs b x) := by
  have hin : ∀ j, j < n → BallIn w h (rnB w cs j b) := fun j hj => Classical.byContradiction fun hn => hl j hj (.inl hn)
  constructor
  · rintro (h1 | ⟨j, h1, h2⟩)
    · exact .inl h1
    · exact .inr ⟨j, h2, fun i hi => hin i (by omega)⟩
  · rintro (h1 | ⟨i, rfl, h2⟩)
    · exact .inl h1
    · induction i using Nat.strongRecOn with
      | _ i ih =>
        by_cases hi : i < n
        · exact .inr ⟨i, hi, rfl⟩
        · rcases hq with hq | hq | ⟨j, hj, hq⟩
          · exact absurd (h2 n (by omega)) hq
          · left
            have := closed_run hT hq (i - n) fun j hj => by
              rw [← rn_add]
              exact h2 _ (by omega)
            rwa [← rn_add, show n + (i - n) = i by omega] at this
          · have e : rnB w cs (j + (i - n)) b = rnB w cs i b := by
              rw [rn_add, hq, ← rn_add, show n + (i - n) = i by omega]
            have := ih (j + (i - n)) (by omega) fun k hk => h2 k (by omega)
            rwa [e] at this
theorem closed_or {T : BaT → Prop} (hT : Closed w h cs T) {b : BaT} (hW : WayOk b) : Closed w h cs fun x => T x ∨ OrbI w h cs b x := fun x hx => by
  rcases hx with hx | ⟨i, rfl, h2⟩
  · exact ⟨(hT x hx).1, fun hb => .inl ((hT x hx).2 hb)⟩
  · refine ⟨⟨h2 i (Nat.le_refl _), rn_way w cs i hW⟩, fun hb => .inr ⟨i + 1, rn_succ w cs i b, fun j hj => ?_⟩⟩
    by_cases hji : j ≤ i
    · exact h2 j hji
    · obtain rfl : j = i + 1 := by omega
      rw [rn_succ]
      exact hb
include hM
theorem stop_ex (T : BaT → Prop) {b : BaT} (hB : BallIn w h b) (hW : WayOk b) : ∃ n, n ≤ 324 ∧ StopQ w h cs T b n ∧ ∀ j, j < n → ¬ StopQ w h cs T b j := by
  have hm := mul_range hM.1.1 hM.1.2 hM.2.1.1 hM.2.1.2
  rcases staying (w := w) (h := h) (cs := cs) (b := b) ⟨hM, hB, hW⟩ with ⟨n, h1, h2, ho⟩ | ⟨p, h1, h2, h3, _⟩
  · obtain ⟨m, m1, m2, m3⟩ := least_ofT (P := StopQ w h cs T b) (n := n) (.inl (out_stay.1 ho).2)
    exact ⟨m, by omega, m2, m3⟩
  · obtain ⟨m, m1, m2, m3⟩ := least_ofT (P := StopQ w h cs T b) (n := p) (.inr (.inr ⟨0, by omega, h3.symm⟩))
    exact ⟨m, by omega, m2, m3⟩
end
/-! ### Marks -/
def RelL (w h : Int) (seen : List Bool) (T : BaT → Prop) : Prop := seen.length = manyC w h ∧ ∀ c, c < manyC w h → (seen.getD c default = true ↔ T (stC w c))
theorem RelL.congr {w h : Int} {seen : List Bool} {T U : BaT → Prop} (H : RelL w h seen T) (e : ∀ x, T x ↔ U x) : RelL w h seen U := ⟨H.1, fun c hc => (H.2 c hc).trans (e _)⟩
theorem RelL.put {w h : Int} (hw : 1 ≤ w ∧ w ≤ 9) (hh : 1 ≤ h ∧ h ≤ 9) {seen : List Bool} {T : BaT → Prop} (H : RelL w h seen T) {b : BaT} (hB : BallIn w h b) (hW : WayOk b) : RelL w h (seen.set (codeB w b) true) fun x => T x ∨ b = x := by
  obtain ⟨c1, c2⟩ := stC_code hw hh hB hW
  refine ⟨by rw [List.length_set]; exact H.1, fun c hc => ?_⟩
  rw [List.getD_eq_getElem?_getD, List.getElem?_set]
  by_cases e : codeB w b = c
  · subst e
    rw [if_pos rfl, if_pos (by rw [H.1]; exact c1), Option.getD_some]
    exact ⟨fun _ => .inr c2.symm, fun _ => rfl⟩
  · rw [if_neg e, ← List.getD_eq_getElem?_getD, H.2 c hc]
    refine ⟨.inl, fun hx => ?_⟩
    rcases hx with hx | hx
    · exact hx
    · exact absurd (by rw [hx]; exact (stC_ok hw hh hc).2.2) e
abbrev eqB : BaT → BaT → Bool := Sh.eqT (.pair (.int .i64) (.pair (.int .i64) (.int .i64)))
theorem eqB_iff {a b : BaT} : eqB a b = true ↔ a = b := by
  obtain ⟨a1, a2, a3⟩ := a
  obtain ⟨b1, b2, b3⟩ := b
  show ((a1 == b1) && ((a2 == b2) && (a3 == b3))) = true ↔ _
  simp [Bool.and_eq_true, Prod.mk.injEq]
theorem mget_mput (s : List (BaT × Bool)) (x y : BaT) : mget eqB (mput eqB s x true) y false = if y = x then true else mget eqB s y false := by
  induction s with
  | nil =>
    show cond (eqB y x) true false = _
    by_cases h : y = x
    · rw [if_pos h, eqB_iff.2 h]; rfl
    · rw [if_neg h, show eqB y x = false from Bool.eq_false_iff.2 fun e => h (eqB_iff.1 e)]; rfl
  | cons e r ih =>
    show mget eqB (cond (eqB x e.1) ((x, true) :: r) (e :: mput eqB r x true)) y false = _
    by_cases h : eqB x e.1 = true
    · rw [h]
      show cond (eqB y x) true (mget eqB r y false) = _
      by_cases h2 : y = x
      · rw [if_pos h2, eqB_iff.2 h2]; rfl
      · rw [if_neg h2, show eqB y x = false from Bool.eq_false_iff.2 fun e => h2 (eqB_iff.1 e)]
        show _ = cond (eqB y e.1) e.2 (mget eqB r y false)
        rw [← eqB_iff.1 h, show eqB y x = false from Bool.eq_false_iff.2 fun e => h2 (eqB_iff.1 e)]
        rfl
    · rw [show eqB x e.1 = false from Bool.eq_false_iff.2 h]
      show cond (eqB y e.1) e.2 (mget eqB (mput eqB r x true) y false) = _
      rw [ih]
      by_cases h2 : y = x
      · rw [if_pos h2, if_pos h2, h2, show eqB x e.1 = false from Bool.eq_false_iff.2 h]; rfl
      · rw [if_neg h2, if_neg h2]; rfl
def RelS (seen : List (BaT × Bool)) (T : BaT → Prop) : Prop := ∀ b, mget eqB seen b false = true ↔ T b
theorem RelS.congr {seen : List (BaT × Bool)} {T U : BaT → Prop} (H : RelS seen T) (e : ∀ x, T x ↔ U x) : RelS seen U := fun b => (H b).trans (e b)
theorem RelS.put {seen : List (BaT × Bool)} {T : BaT → Prop} (H : RelS seen T) (b : BaT) : RelS (mput eqB seen b true) fun x => T x ∨ b = x := fun y => by
  rw [mget_mput]
  by_cases h : y = b
  · rw [if_pos h]
    exact ⟨fun _ => .inr h.symm, fun _ => rfl⟩
  · rw [if_neg h, H y]
    exact ⟨.inl, fun hx => hx.elim id fun e => absurd e.symm h⟩
theorem marks_succ {w : Int} {cs : ByteArray} {T : BaT → Prop} {b : BaT} (i : Nat) (x : BaT) : ((T x ∨ ∃ j, j < i ∧ rnB w cs j b = x) ∨ rnB w cs i b = x) ↔ (T x ∨ ∃ j, j < i + 1 ∧ rnB w cs j b = x) := by
  constructor
  · rintro ((h1 | ⟨j, h1, h2⟩) | h1)
    · exact .inl h1
    · exact .inr ⟨j, by omega, h2⟩
    · exact .inr ⟨i, by omega, h1⟩
  · rintro (h1 | ⟨j, h1, h2⟩)
    · exact .inl (.inl h1)
    · by_cases hj : j < i
      · exact .inl (.inr ⟨j, hj, h2⟩)
      · obtain rfl : j = i := by omega
        exact .inr h2
/-! ### Both ways of following a track -/
section
variable {w h : Int} {cs : ByteArray} (hM : MazeOk w h cs)
include hM
theorem index_ev {b : BaT} (hB : BallIn w h b) (hW : WayOk b) : Ev (fun k => spec_miIndex k ((w, h, cs, false), b)) ((codeB w b : Nat) : Int) := by
  have a := at_range hB.1 hB.2 hM.1 hM.2.1
  have hm := mul_range hM.1.1 hM.1.2 hM.2.1.1 hM.2.1.2
  obtain ⟨x, y, wy⟩ := b
  simp only at a
  have hW : 0 ≤ wy ∧ wy ≤ 3 := hW
  refine Ev.step (fun k => spec_miIndex.eq k w h cs false x y wy) (Ev.now' ?_)
  rw [w64_of (n := y * w) (by omega) (by omega), w64_of (n := y * w + x) (by omega) (by omega), w64_of (n := (y * w + x) * 4) (by omega) (by omega), w64_of (by omega) (by omega)]
  unfold codeB cellI
  simp only
  omega
theorem followS_ev {T : BaT → Prop} {b : BaT} (hW : WayOk b) {n : Nat} (hq : StopQ w h cs T b n) (hl : ∀ j, j < n → ¬ StopQ w h cs T b j) (hin : ∀ j, BallIn w h (rnB w cs j b)) (cnt t47 t48 : Int) : ∀ (r i : Nat) (seen : List Bool), i + r = n → RelL w h seen (fun x => T x ∨ ∃ j, j < i ∧ rnB w cs j b = x) →
    ∃ seen', RelL w h seen' (fun x => T x ∨ ∃ j, j < n ∧ rnB w cs j b = x) ∧ Ev (fun k => spec_CountTracks_l_2_l k ((w, h, cs, false), seen, cnt, rnB w cs i b, t47, t48)) ((w, h, cs, false), seen', cnt, t47, t48) := by
  have hw := hM.1
  have hh := hM.2.1
  intro r
  induction r with
  | zero =>
    intro i seen hi H
    obtain rfl : i = n := by omega
    obtain ⟨c1, c2⟩ := stC_code hw hh (hin i) (rn_way w cs i hW)
    have hx := index_ev hM (hin i) (rn_way w cs i hW)
    have hs : seen.getD (codeB w (rnB w cs i b)) default = true := (H.2 _ c1).2 (by
      rw [c2]
      rcases hq with hq | hq | hq
      · exact absurd (hin i) hq
      · exact .inl hq
      · exact .inr hq)
    refine ⟨seen, H, ?_⟩
    obtain ⟨X, hX⟩ : ∃ X, rnB w cs i b = X := ⟨_, rfl⟩
    rw [hX] at hx hs c1 ⊢
    obtain ⟨x, y, wy⟩ := X
    refine Ev.step (fun k => spec_CountTracks_l_2_l.eq k w h cs false seen cnt x y wy t47 t48) (Ev.bind hx (Ev.yes (inB_nat (by rw [H.1]; exact c1)) ?_))
    rw [Int.toNat_natCast, hs]
    exact Ev.no rfl (Ev.now _)
  | succ r ih =>
    intro i seen hi H
    obtain ⟨c1, c2⟩ := stC_code hw hh (hin i) (rn_way w cs i hW)
    have hx := index_ev hM (hin i) (rn_way w cs i hW)
    have hs : seen.getD (codeB w (rnB w cs i b)) default = false := Bool.eq_false_iff.2 fun e => hl i (by omega) (by
      have := (H.2 _ c1).1 e
      rw [c2] at this
      exact .inr this)
    obtain ⟨seen', p, q⟩ := ih (i + 1) (seen.set (codeB w (rnB w cs i b)) true) (by omega) ((H.put hw hh (hin i) (rn_way w cs i hW)).congr (marks_succ i))
    have hh2 := miHit_ev false (w := w) (h := h) (cs := cs) (b := rnB w cs i b) ⟨hM, hin i, rn_way w cs i hW⟩
    rw [hit_stay, ← rn_succ] at hh2
    refine ⟨seen', p, ?_⟩
    obtain ⟨X, hX⟩ : ∃ X, rnB w cs i b = X := ⟨_, rfl⟩
    rw [hX] at hx hs c1 hh2 q ⊢
    obtain ⟨x, y, wy⟩ := X
    refine Ev.step (fun k => spec_CountTracks_l_2_l.eq k w h cs false seen cnt x y wy t47 t48) (Ev.bind hx (Ev.yes (inB_nat (by rw [H.1]; exact c1)) ?_))
    rw [Int.toNat_natCast, hs]
    refine Ev.yes rfl (Ev.bind hx (Ev.yes (inB_nat (by rw [H.1]; exact c1)) (Ev.bind hh2 ?_)))
    rw [Int.toNat_natCast]
    exact q
/-- The balls from the ends, by the reference. -/
theorem followE_ev {T : BaT → Prop} {b : BaT} (hW : WayOk b) {n : Nat} (hin : ∀ j, j < n → BallIn w h (rnB w cs j b)) (hout : ¬ BallIn w h (rnB w cs n b)) (kk : Int) : ∀ (r i : Nat) (seen : List Bool), i + r = n → RelL w h seen (fun x => T x ∨ ∃ j, j < i ∧ rnB w cs j b = x) →
    ∃ seen', RelL w h seen' (fun x => T x ∨ ∃ j, j < n ∧ rnB w cs j b = x) ∧ Ev (fun k => spec_CountTracks_l_l k ((w, h, cs, false), seen, kk, rnB w cs i b)) ((w, h, cs, false), seen', kk) := by
  have hw := hM.1
  have hh := hM.2.1
  have hz := OkMz.size (m := (w, h, cs, false)) hM
  simp only at hz
  intro r
  induction r with
  | zero =>
    intro i seen hi H
    obtain rfl : i = n := by omega
    have hx := (miBall_ev (w, h, cs, false) (rnB w cs i b) (by simp only; omega)).isF fun hb => hout hb.2.1
    refine ⟨seen, H, ?_⟩
    obtain ⟨X, hX⟩ : ∃ X, rnB w cs i b = X := ⟨_, rfl⟩
    rw [hX] at hx ⊢
    obtain ⟨x, y, wy⟩ := X
    exact Ev.step (fun k => spec_CountTracks_l_l.eq k w h cs false seen kk x y wy) (Ev.bind hx (Ev.no rfl (Ev.now _)))
  | succ r ih =>
    intro i seen hi H
    have hini := hin i (by omega)
    have hway := rn_way w cs i hW
    obtain ⟨c1, c2⟩ := stC_code hw hh hini hway
    have hx := index_ev hM hini hway
    have hb := (miBall_ev (w, h, cs, false) (rnB w cs i b) (by simp only; omega)).isT ⟨hM, hini, hway⟩
    obtain ⟨seen', p, q⟩ := ih (i + 1) (seen.set (codeB w (rnB w cs i b)) true) (by omega) ((H.put hw hh hini hway).congr (marks_succ i))
    have hh2 := miHit_ev false (w := w) (h := h) (cs := cs) (b := rnB w cs i b) ⟨hM, hini, hway⟩
    rw [hit_stay, ← rn_succ] at hh2
    refine ⟨seen', p, ?_⟩
    obtain ⟨X, hX⟩ : ∃ X, rnB w cs i b = X := ⟨_, rfl⟩
    rw [hX] at hx hb c1 hh2 q ⊢
    obtain ⟨x, y, wy⟩ := X
    refine Ev.step (fun k => spec_CountTracks_l_l.eq k w h cs false seen kk x y wy) (Ev.bind hb (Ev.yes rfl (Ev.bind hx (Ev.yes (inB_nat (by rw [H.1]; exact c1)) (Ev.bind hh2 ?_)))))
    rw [Int.toNat_natCast]
    exact q
theorem followI_ev {T : BaT → Prop} (hT : Closed w h cs T) {b : BaT} (hB : BallIn w h b) (hW : WayOk b) {seen : List (BaT × Bool)} (H : RelS seen T) : ∃ (n : Nat) (seen' : List (BaT × Bool)), n ≤ 324 ∧ (n = 0 ↔ T b) ∧ RelS seen' (fun x => T x ∨ OrbI w h cs b x) ∧ Ev (fun k => impl_Maze_follow k ((w, h, cs, false), b, seen)) ((n : Int), seen') := by
  obtain ⟨n, hn, hq, hl⟩ := stop_ex hM T hB hW
  have hin : ∀ j, j < n → BallIn w h (rnB w cs j b) := fun j hj => Classical.byContradiction fun hx => hl j hj (.inl hx)
  have loop : ∀ (r i : Nat) (seen : List (BaT × Bool)), i + r = n → RelS seen (fun x => T x ∨ ∃ j, j < i ∧ rnB w cs j b = x) →
      ∃ seen', RelS seen' (fun x => T x ∨ ∃ j, j < n ∧ rnB w cs j b = x) ∧ Ev (fun k => impl_Maze_follow_l k (seen, (w, h, cs, false), rnB w cs i b, (i : Int), decide (BallIn w h (rnB w cs i b)), ())) ((n : Int), seen') := by
    intro r
    induction r with
    | zero =>
      intro i seen hi H
      obtain rfl : i = n := by omega
      refine ⟨seen, H, ?_⟩
      obtain ⟨X, hX⟩ : ∃ X, rnB w cs i b = X := ⟨_, rfl⟩
      have Hs := H (rnB w cs i b)
      unfold StopQ at hq
      rw [hX] at Hs hq ⊢
      obtain ⟨x, y, wy⟩ := X
      by_cases hb : BallIn w h (x, y, wy)
      · rw [decide_eq_true hb]
        refine Ev.step (fun k => impl_Maze_follow_l.eq k seen w h cs false x y wy (i : Int) true) (Ev.yes rfl (Ev.no ?_ (Ev.now _)))
        have : mget eqB seen (x, (y, wy)) false = true := Hs.2 (by
          rcases hq with hq | hq | hq
          · exact absurd hb hq
          · exact .inl hq
          · exact .inr hq)
        show (!(mget eqB seen (x, (y, wy)) false)) = false
        rw [this]
        rfl
      · rw [decide_eq_false hb]
        exact Ev.step (fun k => impl_Maze_follow_l.eq k seen w h cs false x y wy (i : Int) false) (Ev.no rfl (Ev.now _))
    | succ r ih =>
      intro i seen hi H
      have hini := hin i (by omega)
      have hway := rn_way w cs i hW
      obtain ⟨seen', p, q⟩ := ih (i + 1) (mput eqB seen (rnB w cs i b) true) (by omega) ((H.put (rnB w cs i b)).congr (marks_succ i))
      have hh2 := hit_ev false (w := w) (h := h) (cs := cs) (b := rnB w cs i b) ⟨hM, hini, hway⟩
      rw [hit_stay, ← rn_succ] at hh2
      have hs : mget eqB seen (rnB w cs i b) false = false := Bool.eq_false_iff.2 fun e => hl i (by omega) (.inr ((H _).1 e))
      refine ⟨seen', p, ?_⟩
      rw [decide_eq_true hini]
      obtain ⟨X, hX⟩ : ∃ X, rnB w cs i b = X := ⟨_, rfl⟩
      rw [hX] at hh2 hs q ⊢
      obtain ⟨x, y, wy⟩ := X
      refine Ev.step (fun k => impl_Maze_follow_l.eq k seen w h cs false x y wy (i : Int) true) (Ev.yes rfl (Ev.yes ?_ (Ev.bind hh2 ?_)))
      · show (!(mget eqB seen (x, (y, wy)) false)) = true
        rw [hs]
        rfl
      · rw [w64_succ (by omega)]
        exact q
  obtain ⟨seen', p, q⟩ := loop n 0 seen (by omega) (H.congr fun x => ⟨.inl, fun hx => hx.elim id fun ⟨j, hj, _⟩ => by omega⟩)
  refine ⟨n, seen', hn, ?_, p.congr (mark_all hT hq hl), ?_⟩
  · constructor
    · rintro rfl
      rcases hq with hq | hq | ⟨j, hj, _⟩
      · exact absurd hB hq
      · exact hq
      · omega
    · intro hb
      refine Classical.byContradiction fun hne => hl 0 (by omega) (.inr (.inl hb))
  · have e : decide (BallIn w h b) = true := decide_eq_true hB
    have q : Ev (fun k => impl_Maze_follow_l k (seen, (w, h, cs, false), b, 0, decide (BallIn w h b), ())) ((n : Int), seen') := q
    rw [e] at q
    obtain ⟨x, y, wy⟩ := b
    exact Ev.step (fun k => impl_Maze_follow.eq k w h cs false x y wy seen) (Ev.bind q (Ev.now _))
end
/-! ### Closed tracks -/
def EndT (w h : Int) (cs : ByteArray) (k : Nat) (x : BaT) : Prop := ∃ j : Nat, j < k ∧ OrbI w h cs (entryB w h (j : Int)) x
def RunT (w h : Int) (cs : ByteArray) (c : Nat) (x : BaT) : Prop := EndT w h cs (2 * (w + h)).toNat x ∨ ∃ j, j < c ∧ OrbI w h cs (stC w j) x
theorem orbI_closed {w h : Int} {cs : ByteArray} {b x : BaT} (hW : WayOk b) (ho : OrbI w h cs b x) : (BallIn w h x ∧ WayOk x) ∧ (BallIn w h (nxB w cs x) → OrbI w h cs b (nxB w cs x)) := by
  obtain ⟨i, rfl, h2⟩ := ho
  refine ⟨⟨h2 i (Nat.le_refl _), rn_way w cs i hW⟩, fun hb => ⟨i + 1, rn_succ w cs i b, fun j hj => ?_⟩⟩
  by_cases hji : j ≤ i
  · exact h2 j hji
  · obtain rfl : j = i + 1 := by omega
    rw [rn_succ]
    exact hb
theorem runT_succ {w h : Int} {cs : ByteArray} {c : Nat} (x : BaT) : RunT w h cs (c + 1) x ↔ (RunT w h cs c x ∨ OrbI w h cs (stC w c) x) := by
  unfold RunT
  constructor
  · rintro (h1 | ⟨j, h1, h2⟩)
    · exact .inl (.inl h1)
    · by_cases hj : j < c
      · exact .inl (.inr ⟨j, hj, h2⟩)
      · obtain rfl : j = c := by omega
        exact .inr h2
  · rintro ((h1 | ⟨j, h1, h2⟩) | h1)
    · exact .inl h1
    · exact .inr ⟨j, by omega, h2⟩
    · exact .inr ⟨c, by omega, h1⟩
theorem tracksN_succ {w h : Int} {cs : ByteArray} (c : Nat) : (Ldr w h cs c → tracksN w h cs (c + 1) = tracksN w h cs c + 1) ∧ (¬ Ldr w h cs c → tracksN w h cs (c + 1) = tracksN w h cs c) := by
  unfold tracksN
  rw [List.range_succ, List.filter_append, List.length_append, List.filter_cons]
  constructor
  · intro hl
    rw [if_pos (ldrB_iff.2 hl)]
    rfl
  · intro hl
    rw [if_neg (fun e => hl (ldrB_iff.1 e))]
    rfl
theorem tracksN_le {w h : Int} {cs : ByteArray} (c : Nat) : tracksN w h cs c ≤ c := by
  unfold tracksN
  have := List.length_filter_le (ldrB w h cs) (List.range c)
  rwa [List.length_range] at this
theorem half {n : Nat} (hn : n ≤ 324) : w64 ((n : Int).tdiv 2) = ((n / 2 : Nat) : Int) := by
  rw [Int.tdiv_eq_ediv_of_nonneg (by omega), w64_of (by omega) (by omega)]
  omega
section
variable {w h : Int} {cs : ByteArray} (hM : MazeOk w h cs)
include hM
theorem endT_closed {k : Nat} (hk : (k : Int) ≤ 2 * (w + h)) : Closed w h cs (EndT w h cs k) := by
  rintro x ⟨j, j1, j2⟩
  obtain ⟨g1, g2⟩ := orbI_closed (entry_ok hM.1 hM.2.1 (k := (j : Int)) (by omega)).2.1 j2
  exact ⟨g1, fun hb => ⟨j, j1, g2 hb⟩⟩
theorem runT_closed {c : Nat} (hc : c ≤ manyC w h) : Closed w h cs (RunT w h cs c) := by
  have hw := hM.1
  have hh := hM.2.1
  rintro x (hx | ⟨j, j1, j2⟩)
  · obtain ⟨g1, g2⟩ := endT_closed hM (k := (2 * (w + h)).toNat) (by omega) x hx
    exact ⟨g1, fun hb => .inl (g2 hb)⟩
  · obtain ⟨g1, g2⟩ := orbI_closed (stC_ok hw hh (c := j) (by omega)).2.1 j2
    exact ⟨g1, fun hb => .inr ⟨j, j1, g2 hb⟩⟩
theorem endT_iff {x : BaT} (hB : BallIn w h x) (hW : WayOk x) : EndT w h cs (2 * (w + h)).toNat x ↔ ¬ Cyc w h cs x := by
  have hw := hM.1
  have hh := hM.2.1
  constructor
  · rintro ⟨j, j1, j2⟩
    exact end_not_cyc hM (k := (j : Int)) (by omega) j2
  · intro hc
    obtain ⟨k, k1, k2⟩ := from_end hM hB hW hc
    obtain ⟨j, rfl⟩ := Int.eq_ofNat_of_zero_le k1.1
    exact ⟨j, by omega, k2⟩
theorem runT_ldr {c : Nat} (hc : c < manyC w h) : RunT w h cs c (stC w c) ↔ ¬ Ldr w h cs c := by
  obtain ⟨a1, a2, _⟩ := stC_ok hM.1 hM.2.1 hc
  unfold RunT Ldr
  rw [endT_iff hM a1 a2]
  constructor
  · rintro (h1 | ⟨j, h1, h2⟩) ⟨h3, h4⟩
    · exact h1 h3
    · exact h4 j h1 h2
  · intro h1
    by_cases h2 : Cyc w h cs (stC w c)
    · right
      refine Classical.byContradiction fun h3 => h1 ⟨h2, fun j hj ho => h3 ⟨j, hj, ho⟩⟩
    · exact .inl h2
theorem many_eq : manyC w h ≤ 324 ∧ (manyC w h : Int) = 4 * (w * h) ∧ 4 * cs.size = manyC w h := by
  have hm := mul_range hM.1.1 hM.1.2 hM.2.1.1 hM.2.1.2
  have := hM.2.2.1
  unfold manyC
  omega
theorem endsS_ev : ∀ (r k : Nat) (seen : List Bool), ((k + r : Nat) : Int) = 2 * (w + h) → RelL w h seen (EndT w h cs k) → ∃ seen', RelL w h seen' (EndT w h cs (2 * (w + h)).toNat) ∧ Ev (fun n => spec_CountTracks_l n ((w, h, cs, false), seen, (k : Int))) ((w, h, cs, false), seen') := by
  have hw := hM.1
  have hh := hM.2.1
  intro r
  induction r with
  | zero =>
    intro k seen hk H
    refine ⟨seen, by rw [show (2 * (w + h)).toNat = k by omega]; exact H, Ev.step (fun n => spec_CountTracks_l.eq n w h cs false seen (k : Int)) (Ev.bind (miEnds_ev hw hh cs false) (Ev.no (decide_eq_false (by omega)) (Ev.now _)))⟩
  | succ r ih =>
    intro k seen hk H
    have hkr : 0 ≤ (k : Int) ∧ (k : Int) < 2 * (w + h) := by omega
    obtain ⟨a1, a2, a3, _⟩ := entry_ok hw hh hkr
    obtain ⟨n, n1, _, ho⟩ := edge_out (cs := cs) ⟨hM, a1, a2⟩ a3
    obtain ⟨o1, o2⟩ := out_stay.1 ho
    obtain ⟨s1, p1, q1⟩ := followE_ev hM (T := EndT w h cs k) a2 o1 o2 (k : Int) n 0 seen (by omega) (H.congr fun x => ⟨.inl, fun hx => hx.elim id fun ⟨j, hj, _⟩ => by omega⟩)
    have p2 : RelL w h s1 (EndT w h cs (k + 1)) := p1.congr fun x => by
      unfold EndT
      constructor
      · rintro (⟨j, j1, j2⟩ | ⟨j, j1, j2⟩)
        · exact ⟨j, by omega, j2⟩
        · exact ⟨k, by omega, j, j2, fun i hi => o1 i (by omega)⟩
      · rintro ⟨j, j1, j2⟩
        by_cases hj : j < k
        · exact .inl ⟨j, hj, j2⟩
        · obtain rfl : j = k := by omega
          obtain ⟨i, i1, i2⟩ := j2
          refine .inr ⟨i, Classical.byContradiction fun hi => o2 (i2 n (by omega)), i1⟩
    obtain ⟨s2, p3, q3⟩ := ih (k + 1) s1 (by omega) p2
    refine ⟨s2, p3, Ev.step (fun n => spec_CountTracks_l.eq n w h cs false seen (k : Int)) (Ev.bind (miEnds_ev hw hh cs false) (Ev.yes (decide_eq_true hkr.2) (Ev.bind (entries_ev hw hh cs false hkr).2 (Ev.bind q1 ?_))))⟩
    simp only
    rw [w64_succ (by omega)]
    exact q3
theorem stS (c : Nat) (hc : c < manyC w h) : (((w64 ((c : Int).tdiv 4)).tmod w), (w64 ((w64 ((c : Int).tdiv 4)).tdiv w)), ((c : Int).tmod 4)) = stC w c := by
  obtain ⟨m1, _⟩ := many_eq hM
  have hw := hM.1
  have e1 : (c : Int).tdiv 4 = ((c / 4 : Nat) : Int) := by rw [Int.tdiv_eq_ediv_of_nonneg (by omega)]; omega
  have e2 : (c : Int).tmod 4 = ((c % 4 : Nat) : Int) := by rw [Int.tmod_eq_emod_of_nonneg (by omega)]; omega
  have e3 : w64 ((c / 4 : Nat) : Int) = ((c / 4 : Nat) : Int) := w64_of (by omega) (by omega)
  have h1 := (stC_ok hM.1 hM.2.1 hc).1.2
  have hh := hM.2.1
  simp only [stC] at h1
  rw [e1, e2, e3, Int.tmod_eq_emod_of_nonneg (by omega), Int.tdiv_eq_ediv_of_nonneg (by omega), w64_of (n := ((c / 4 : Nat) : Int) / w) (by omega) (by omega)]
  rfl
theorem roundsS_ev : ∀ (r c : Nat) (seen : List Bool), c + r = manyC w h → RelL w h seen (RunT w h cs c) → Ev (fun n => spec_CountTracks_l_2 n ((w, h, cs, false), seen, (tracksN w h cs c : Int), (manyC w h : Int), (c : Int))) (tracksN w h cs (manyC w h) : Int) := by
  have hw := hM.1
  have hh := hM.2.1
  obtain ⟨m1, m2, m3⟩ := many_eq hM
  intro r
  induction r with
  | zero =>
    intro c seen hc H
    obtain rfl : c = manyC w h := by omega
    exact Ev.step (fun n => spec_CountTracks_l_2.eq n w h cs false seen _ _ _) (Ev.no (decide_eq_false (by omega)) (Ev.now _))
  | succ r ih =>
    intro c seen hc H
    have hcm : c < manyC w h := by omega
    have hs := (H.2 c hcm).trans (runT_ldr hM hcm)
    have htn := tracksN_le (w := w) (h := h) (cs := cs) c
    have hst := stS hM c hcm
    obtain ⟨a1, a2, a3⟩ := stC_ok hw hh hcm
    refine Ev.step (fun n => spec_CountTracks_l_2.eq n w h cs false seen _ _ _) (Ev.yes (lt_nat hcm) (Ev.yes (inB_nat (by rw [H.1]; exact hcm)) ?_))
    rw [Int.toNat_natCast]
    by_cases hl : Ldr w h cs c
    · have e1 : seen.getD c default = false := Bool.eq_false_iff.2 fun e => hs.1 e hl
      rw [e1]
      have hnw : (w != 0) = true := bne_iff_ne.2 (by omega)
      have hT := runT_closed hM (c := c) (by omega)
      obtain ⟨n, _, hq, hlst⟩ := stop_ex hM (RunT w h cs c) a1 a2
      obtain ⟨s1, p1, q1⟩ := followS_ev hM a2 hq hlst hl.1 ((tracksN w h cs (c + 1) : Nat) : Int) (manyC w h : Int) (c : Int) n 0 seen (by omega) (H.congr fun x => ⟨.inl, fun hx => hx.elim id fun ⟨j, hj, _⟩ => by omega⟩)
      have p2 : RelL w h s1 (RunT w h cs (c + 1)) := p1.congr fun x => (mark_all hT hq hlst x).trans (runT_succ x).symm
      refine Ev.no rfl (Ev.yes hnw (Ev.yes hnw ?_))
      rw [hst, show w64 ((tracksN w h cs c : Int) + 1) = ((tracksN w h cs (c + 1) : Nat) : Int) by rw [w64_of (by omega) (by omega), (tracksN_succ c).1 hl]; omega]
      refine Ev.bind q1 ?_
      simp only
      rw [w64_succ (by omega)]
      exact ih (c + 1) s1 (by omega) p2
    · rw [hs.2 hl]
      have hT := runT_closed hM (c := c) (by omega)
      have hr := (runT_ldr hM hcm).2 hl
      have p2 : RelL w h seen (RunT w h cs (c + 1)) := H.congr fun x => by
        rw [runT_succ x]
        refine ⟨.inl, fun hx => hx.elim id ?_⟩
        rintro ⟨i, rfl, h2⟩
        exact closed_run hT hr i h2
      refine Ev.yes rfl ?_
      rw [w64_succ (by omega), show tracksN w h cs c = tracksN w h cs (c + 1) from ((tracksN_succ c).2 hl).symm]
      exact ih (c + 1) seen (by omega) p2
theorem tracksS_ev : Ev (fun n => spec_CountTracks n (w, h, cs, false)) (((tracksN w h cs (manyC w h) / 2 : Nat) : Int), true) := by
  have hz := OkMz.size (m := (w, h, cs, false)) hM
  simp only at hz
  have hw := hM.1
  have hh := hM.2.1
  obtain ⟨m1, m2, m3⟩ := many_eq hM
  have e4 : w64 (4 * (cs.size : Int)) = (manyC w h : Int) := by rw [w64_of (by omega) (by omega)]; omega
  have h0 : RelL w h (List.replicate (manyC w h) false) (EndT w h cs 0) := by
    refine ⟨List.length_replicate, fun c hc => ?_⟩
    rw [List.getD_eq_getElem?_getD, List.getElem?_replicate, if_pos hc, Option.getD_some]
    exact ⟨nofun, fun ⟨j, hj, _⟩ => by omega⟩
  obtain ⟨s1, p1, q1⟩ := endsS_ev hM (2 * (w + h)).toNat 0 _ (by omega) h0
  have p2 : RelL w h s1 (RunT w h cs 0) := p1.congr fun x => ⟨.inl, fun hx => hx.elim id fun ⟨j, hj, _⟩ => by omega⟩
  have q2 := roundsS_ev hM (manyC w h) 0 s1 (by omega) p2
  have ht := tracksN_le (w := w) (h := h) (cs := cs) (manyC w h)
  refine Ev.step (fun n => spec_CountTracks.eq n w h cs false) (Ev.bind ((miGood_ev w h cs false (by omega)).isT hM) (Ev.no rfl (Ev.no rfl ?_)))
  rw [e4, Int.toNat_natCast]
  refine Ev.yes (by rw [decide_eq_true (by omega), decide_eq_true (by omega), fits_of (by omega)]; rfl) (Ev.bind q1 ?_)
  simp only
  rw [p1.1]
  exact Ev.bind q2 (Ev.now' (by rw [half (by omega)]))
theorem endsI_ev : ∀ (r k : Nat) (seen : List (BaT × Bool)), ((k + r : Nat) : Int) = 2 * (w + h) → RelS seen (EndT w h cs k) → ∃ seen', RelS seen' (EndT w h cs (2 * (w + h)).toNat) ∧ Ev (fun n => impl_CountTracks_l n ((w, h, cs, false), seen, 0, 2 * (w + h), (k : Int))) ((w, h, cs, false), seen', 0) := by
  have hw := hM.1
  have hh := hM.2.1
  intro r
  induction r with
  | zero =>
    intro k seen hk H
    exact ⟨seen, by rw [show (2 * (w + h)).toNat = k by omega]; exact H, Ev.step (fun n => impl_CountTracks_l.eq n w h cs false seen 0 _ (k : Int)) (Ev.no (decide_eq_false (by omega)) (Ev.now _))⟩
  | succ r ih =>
    intro k seen hk H
    have hkr : 0 ≤ (k : Int) ∧ (k : Int) < 2 * (w + h) := by omega
    obtain ⟨a1, a2, a3, _⟩ := entry_ok hw hh hkr
    obtain ⟨n, s1, _, _, p1, q1⟩ := followI_ev hM (endT_closed hM (k := k) (by omega)) a1 a2 H
    have p2 : RelS s1 (EndT w h cs (k + 1)) := p1.congr fun x => by
      unfold EndT
      constructor
      · rintro (⟨j, j1, j2⟩ | j2)
        · exact ⟨j, by omega, j2⟩
        · exact ⟨k, by omega, j2⟩
      · rintro ⟨j, j1, j2⟩
        by_cases hj : j < k
        · exact .inl ⟨j, hj, j2⟩
        · obtain rfl : j = k := by omega
          exact .inr j2
    obtain ⟨s2, p3, q3⟩ := ih (k + 1) s1 (by omega) p2
    refine ⟨s2, p3, Ev.step (fun n => impl_CountTracks_l.eq n w h cs false seen 0 _ (k : Int)) (Ev.yes (decide_eq_true hkr.2) (Ev.bind (entries_ev hw hh cs false hkr).1 (Ev.bind q1 ?_)))⟩
    rw [w64_succ (by omega)]
    exact q3
theorem stI (i v : Nat) (hi : i < cs.size) (hv : v < 4) : (((i : Int).tmod w), (w64 ((i : Int).tdiv w)), (v : Int)) = stC w (4 * i + v) := by
  obtain ⟨m1, m2, m3⟩ := many_eq hM
  have hw := hM.1
  have hh := hM.2.1
  have h1 := (stC_ok hM.1 hM.2.1 (c := 4 * i + v) (by omega)).1.2
  simp only [stC, show (4 * i + v) / 4 = i by omega] at h1
  rw [Int.tmod_eq_emod_of_nonneg (by omega), Int.tdiv_eq_ediv_of_nonneg (by omega), w64_of (n := (i : Int) / w) (by omega) (by omega)]
  unfold stC
  rw [show (4 * i + v) / 4 = i by omega, show (4 * i + v) % 4 = v by omega]
theorem waysI_ev (i : Nat) (hi : i < cs.size) : ∀ (r v : Nat) (seen : List (BaT × Bool)), v + r = 4 → RelS seen (RunT w h cs (4 * i + v)) → ∃ seen', RelS seen' (RunT w h cs (4 * (i + 1))) ∧
    Ev (fun n => impl_CountTracks_l_2_l n ((w, h, cs, false), seen, (tracksN w h cs (4 * i + v) : Int), (i : Int), (cs.size : Int), (i : Int), (v : Int))) ((w, h, cs, false), seen', (tracksN w h cs (4 * (i + 1)) : Int), (cs.size : Int), (i : Int)) := by
  have hw := hM.1
  have hh := hM.2.1
  obtain ⟨m1, m2, m3⟩ := many_eq hM
  intro r
  induction r with
  | zero =>
    intro v seen hv H
    obtain rfl : v = 4 := by omega
    exact ⟨seen, H, Ev.step (fun n => impl_CountTracks_l_2_l.eq n w h cs false seen _ _ _ _ _) (Ev.no rfl (Ev.now _))⟩
  | succ r ih =>
    intro v seen hv H
    have hcm : 4 * i + v < manyC w h := by omega
    obtain ⟨a1, a2, a3⟩ := stC_ok hw hh hcm
    have htn := tracksN_le (w := w) (h := h) (cs := cs) (4 * i + v)
    obtain ⟨n, s1, n1, n2, p1, q1⟩ := followI_ev hM (runT_closed hM (c := 4 * i + v) (by omega)) a1 a2 H
    have p2 : RelS s1 (RunT w h cs (4 * i + (v + 1))) := p1.congr fun x => (runT_succ x).symm
    obtain ⟨s2, p3, q3⟩ := ih (v + 1) s1 (by omega) p2
    have hnw : (w != 0) = true := bne_iff_ne.2 (by omega)
    have hb : Ev (fun k => impl_bit k (decide ((n : Int) > 0))) (((tracksN w h cs (4 * i + (v + 1)) : Nat) : Int) - ((tracksN w h cs (4 * i + v) : Nat) : Int)) := by
      by_cases hl : Ldr w h cs (4 * i + v)
      · have : n ≠ 0 := fun e => (runT_ldr hM hcm).1 (n2.1 e) hl
        rw [decide_eq_true (by omega)]
        refine Ev.step (fun k => impl_bit.eq k true) (Ev.yes rfl (Ev.now' ?_))
        rw [show 4 * i + (v + 1) = 4 * i + v + 1 by omega, (tracksN_succ _).1 hl]
        omega
      · have : n = 0 := n2.2 ((runT_ldr hM hcm).2 hl)
        rw [decide_eq_false (by omega)]
        refine Ev.step (fun k => impl_bit.eq k false) (Ev.no rfl (Ev.now' ?_))
        rw [show 4 * i + (v + 1) = 4 * i + v + 1 by omega, (tracksN_succ _).2 hl]
        omega
    have htn2 := tracksN_le (w := w) (h := h) (cs := cs) (4 * i + (v + 1))
    refine ⟨s2, p3, Ev.step (fun n => impl_CountTracks_l_2_l.eq n w h cs false seen _ _ _ _ _) (Ev.yes (decide_eq_true (by omega)) (Ev.yes hnw (Ev.yes hnw ?_)))⟩
    rw [stI hM i v hi (by omega)]
    refine Ev.bind q1 (Ev.bind hb ?_)
    simp only
    rw [w64_succ (by omega), show w64 (((tracksN w h cs (4 * i + v) : Nat) : Int) + (((tracksN w h cs (4 * i + (v + 1)) : Nat) : Int) - ((tracksN w h cs (4 * i + v) : Nat) : Int))) = ((tracksN w h cs (4 * i + (v + 1)) : Nat) : Int) by rw [w64_of (by omega) (by omega)]; omega]
    exact q3
theorem roundsI_ev : ∀ (r i : Nat) (seen : List (BaT × Bool)), i + r = cs.size → RelS seen (RunT w h cs (4 * i)) → Ev (fun n => impl_CountTracks_l_2 n ((w, h, cs, false), seen, (tracksN w h cs (4 * i) : Int), (cs.size : Int), (i : Int))) (tracksN w h cs (manyC w h) : Int) := by
  obtain ⟨m1, m2, m3⟩ := many_eq hM
  intro r
  induction r with
  | zero =>
    intro i seen hi H
    obtain rfl : i = cs.size := by omega
    rw [m3]
    exact Ev.step (fun n => impl_CountTracks_l_2.eq n w h cs false seen _ _ _) (Ev.no (decide_eq_false (by omega)) (Ev.now _))
  | succ r ih =>
    intro i seen hi H
    obtain ⟨s1, p1, q1⟩ := waysI_ev hM i (by omega) 4 0 seen (by omega) H
    refine Ev.step (fun n => impl_CountTracks_l_2.eq n w h cs false seen _ _ _) (Ev.yes (lt_nat (by omega)) (Ev.bind q1 ?_))
    simp only
    rw [w64_succ (by omega)]
    exact ih (i + 1) s1 (by omega) p1
theorem tracksI_ev : Ev (fun n => impl_CountTracks n (w, h, cs, false)) (((tracksN w h cs (manyC w h) / 2 : Nat) : Int), true) := by
  have hz := OkMz.size (m := (w, h, cs, false)) hM
  simp only at hz
  have hw := hM.1
  have hh := hM.2.1
  obtain ⟨m1, m2, m3⟩ := many_eq hM
  obtain ⟨s1, p1, q1⟩ := endsI_ev hM (2 * (w + h)).toNat 0 [] (by omega) (fun b => ⟨nofun, fun ⟨j, hj, _⟩ => by omega⟩)
  have p2 : RelS s1 (RunT w h cs (4 * 0)) := p1.congr fun x => ⟨.inl, fun hx => hx.elim id fun ⟨j, hj, _⟩ => by omega⟩
  have q2 := roundsI_ev hM cs.size 0 s1 (by omega) p2
  have ht := tracksN_le (w := w) (h := h) (cs := cs) (manyC w h)
  exact Ev.step (fun n => impl_CountTracks.eq n w h cs false) (Ev.bind ((isMaze_ev w h cs false (by omega)).isT hM) (Ev.no rfl (Ev.no rfl (Ev.bind (ends_ev hw hh cs false) (Ev.bind q1 (Ev.bind q2 (Ev.now' (by rw [half (by omega)]))))))))
/-! ### Longest tracks -/
theorem long_l_ev : ∀ (r k : Nat) (most : Nat), ((k + r : Nat) : Int) = 2 * (w + h) → ((k = 0 ∧ most = 0) ∨ ∃ j : Nat, j < k ∧ OutAt w h false (cs, entryB w h (j : Int)) most) → (∀ (j n : Nat), j < k → OutAt w h false (cs, entryB w h (j : Int)) n → n ≤ most) →
    ∃ L, LongOf w h cs L ∧ Ev (fun n => impl_LongestTrack_l n ((w, h, cs, false), (most : Int), 2 * (w + h), (k : Int))) (L : Int) ∧ Ev (fun n => spec_LongestTrack_l n ((w, h, cs, false), (most : Int), (k : Int))) (L : Int) := by
  have hw := hM.1
  have hh := hM.2.1
  intro r
  induction r with
  | zero =>
    intro k most hk h1 h2
    refine ⟨most, ⟨?_, fun j n hj hn => ?_⟩, Ev.step (fun n => impl_LongestTrack_l.eq n w h cs false _ _ _) (Ev.no (decide_eq_false (by omega)) (Ev.now _)), Ev.step (fun n => spec_LongestTrack_l.eq n w h cs false _ _) (Ev.bind (miEnds_ev hw hh cs false) (Ev.no (decide_eq_false (by omega)) (Ev.now _)))⟩
    · rcases h1 with ⟨h1, _⟩ | ⟨j, j1, j2⟩
      · omega
      · exact ⟨(j : Int), by omega, j2⟩
    · obtain ⟨i, rfl⟩ := Int.eq_ofNat_of_zero_le hj.1
      exact h2 i n (by omega) hn
  | succ r ih =>
    intro k most hk h1 h2
    have hkr : 0 ≤ (k : Int) ∧ (k : Int) < 2 * (w + h) := by omega
    obtain ⟨n, n0, n1, n2, n3⟩ := entry_fate (m := (w, h, cs, false)) hM hkr
    have n1' : OutAt w h false (cs, entryB w h (k : Int)) n := n1
    have key : ∀ M : Nat, (M = most ∧ n ≤ most) ∨ (M = n ∧ most < n) → ((k + 1 = 0 ∧ M = 0) ∨ ∃ j : Nat, j < k + 1 ∧ OutAt w h false (cs, entryB w h (j : Int)) M) ∧ (∀ (j i : Nat), j < k + 1 → OutAt w h false (cs, entryB w h (j : Int)) i → i ≤ M) := fun M hMm => by
      refine ⟨.inr ?_, fun j i hj hi => ?_⟩
      · rcases hMm with ⟨rfl, h3⟩ | ⟨rfl, h3⟩
        · rcases h1 with ⟨_, rfl⟩ | ⟨j, j1, j2⟩
          · obtain rfl : n = 0 := by omega
            exact ⟨k, by omega, n1'⟩
          · exact ⟨j, by omega, j2⟩
        · exact ⟨k, by omega, n1'⟩
      · by_cases hjk : j < k
        · have := h2 j i hjk hi
          omega
        · obtain rfl : j = k := by omega
          obtain rfl := out_one hi n1'
          omega
    obtain ⟨e1, e2⟩ := entries_ev hw hh cs false hkr
    by_cases hc : most < n
    · obtain ⟨g1, g2⟩ := key n (.inr ⟨rfl, hc⟩)
      obtain ⟨L, l1, l2, l3⟩ := ih (k + 1) n (by omega) g1 g2
      refine ⟨L, l1, Ev.step (fun n => impl_LongestTrack_l.eq n w h cs false _ _ _) (Ev.yes (decide_eq_true hkr.2) (Ev.bind e1 (Ev.bind n2 ?_))), Ev.step (fun n => spec_LongestTrack_l.eq n w h cs false _ _) (Ev.bind (miEnds_ev hw hh cs false) (Ev.yes (decide_eq_true hkr.2) (Ev.bind e2 (Ev.bind n3 (Ev.bind (Ev.step (fun j => spec_l1Most.eq j (most : Int) (n : Int)) (Ev.no (decide_eq_false (by omega)) (Ev.now _))) ?_)))))⟩
      · simp only
        rw [if_pos (by omega), w64_succ (by omega)]
        exact l2
      · rw [w64_succ (by omega)]
        exact l3
    · obtain ⟨g1, g2⟩ := key most (.inl ⟨rfl, by omega⟩)
      obtain ⟨L, l1, l2, l3⟩ := ih (k + 1) most (by omega) g1 g2
      have em : Ev (fun j => spec_l1Most j ((most : Int), (n : Int))) (most : Int) := by
        by_cases he : most = n
        · subst he
          exact Ev.step (fun j => spec_l1Most.eq j (most : Int) (most : Int)) (Ev.no (decide_eq_false (by omega)) (Ev.now _))
        · exact Ev.step (fun j => spec_l1Most.eq j (most : Int) (n : Int)) (Ev.yes (decide_eq_true (by omega)) (Ev.now _))
      refine ⟨L, l1, Ev.step (fun n => impl_LongestTrack_l.eq n w h cs false _ _ _) (Ev.yes (decide_eq_true hkr.2) (Ev.bind e1 (Ev.bind n2 ?_))), Ev.step (fun n => spec_LongestTrack_l.eq n w h cs false _ _) (Ev.bind (miEnds_ev hw hh cs false) (Ev.yes (decide_eq_true hkr.2) (Ev.bind e2 (Ev.bind n3 (Ev.bind em ?_)))))⟩
      · simp only
        rw [if_neg (by omega), w64_succ (by omega)]
        exact l2
      · rw [w64_succ (by omega)]
        exact l3
theorem long_ev : ∃ L, LongOf w h cs L ∧ Ev (fun n => impl_LongestTrack n (w, h, cs, false)) ((L : Int), true) ∧ Ev (fun n => spec_LongestTrack n (w, h, cs, false)) ((L : Int), true) := by
  have hz := OkMz.size (m := (w, h, cs, false)) hM
  simp only at hz
  have hw := hM.1
  have hh := hM.2.1
  obtain ⟨L, l1, l2, l3⟩ := long_l_ev hM (2 * (w + h)).toNat 0 0 (by omega) (.inl ⟨rfl, rfl⟩) (fun j n hj => by omega)
  exact ⟨L, l1, Ev.step (fun n => impl_LongestTrack.eq n w h cs false) (Ev.bind ((isMaze_ev w h cs false (by omega)).isT hM) (Ev.no rfl (Ev.no rfl (Ev.bind (ends_ev hw hh cs false) (Ev.bind l2 (Ev.now _)))))),
    Ev.step (fun n => spec_LongestTrack.eq n w h cs false) (Ev.bind ((miGood_ev w h cs false (by omega)).isT hM) (Ev.no rfl (Ev.no rfl (Ev.bind l3 (Ev.now _)))))⟩
end
theorem tracks_none {m : MzT} (hc : m.2.2.1.size ≤ 1099511627776) (hn : ¬ (OkMz m ∧ m.2.2.2 = false)) : Ev (fun k => impl_CountTracks k m) (0, false) ∧ Ev (fun k => spec_CountTracks k m) (0, false) ∧ Ev (fun k => impl_LongestTrack k m) (0, false) ∧ Ev (fun k => spec_LongestTrack k m) (0, false) := by
  obtain ⟨w, h, cs, t⟩ := m
  have iM := isMaze_ev w h cs t hc
  have sM := miGood_ev w h cs t hc
  by_cases hM : OkMz (w, h, cs, t)
  · cases t with
    | false => exact absurd ⟨hM, rfl⟩ hn
    | true =>
      exact ⟨Ev.step (fun n => impl_CountTracks.eq n w h cs true) (Ev.bind (iM.isT hM) (Ev.no rfl (Ev.yes rfl (Ev.now _)))), Ev.step (fun n => spec_CountTracks.eq n w h cs true) (Ev.bind (sM.isT hM) (Ev.no rfl (Ev.yes rfl (Ev.now _)))),
        Ev.step (fun n => impl_LongestTrack.eq n w h cs true) (Ev.bind (iM.isT hM) (Ev.no rfl (Ev.yes rfl (Ev.now _)))), Ev.step (fun n => spec_LongestTrack.eq n w h cs true) (Ev.bind (sM.isT hM) (Ev.no rfl (Ev.yes rfl (Ev.now _))))⟩
  · exact ⟨Ev.step (fun n => impl_CountTracks.eq n w h cs t) (Ev.bind (iM.isF hM) (Ev.yes rfl (Ev.now _))), Ev.step (fun n => spec_CountTracks.eq n w h cs t) (Ev.bind (sM.isF hM) (Ev.yes rfl (Ev.now _))),
      Ev.step (fun n => impl_LongestTrack.eq n w h cs t) (Ev.bind (iM.isF hM) (Ev.yes rfl (Ev.now _))), Ev.step (fun n => spec_LongestTrack.eq n w h cs t) (Ev.bind (sM.isF hM) (Ev.yes rfl (Ev.now _)))⟩
def RngE (m : MzT) (k : Int) : Prop := 0 ≤ k ∧ k < 2 * (m.1 + m.2.1)
noncomputable def lenE (k : Int) (m : MzT) : Nat := @dite _ (∃ n, OutsM m (entryB m.1 m.2.1 k) n) (Classical.propDecidable _) (fun h => Classical.choose h) (fun _ => 0)
noncomputable def nxtE (k : Int) (m : MzT) : MzT := mazeM m (entryB m.1 m.2.1 k) (lenE k m)
noncomputable def outVE (k : Int) (m : MzT) : Int := outM m (entryB m.1 m.2.1 k) (lenE k m)
noncomputable def seqE (k : Int) : Nat → MzT → MzT
  | 0, m => m
  | n + 1, m => seqE k n (nxtE k m)
noncomputable def outsE (k : Int) : Nat → MzT → List Int
  | 0, m => []
  | n + 1, m => outVE k m :: outsE k n (nxtE k m)
theorem seqE_succ (k : Int) : ∀ (n : Nat) (m : MzT), seqE k (n + 1) m = nxtE k (seqE k n m)
  | 0, m => rfl
  | n + 1, m => seqE_succ k n (nxtE k m)
theorem outsE_len (k : Int) : ∀ (n : Nat) (m : MzT), (outsE k n m).length = n
  | 0, m => rfl
  | n + 1, m => by show (outsE k n (nxtE k m)).length + 1 = n + 1; rw [outsE_len k n]
theorem outsE_snoc (k : Int) : ∀ (n : Nat) (m : MzT), outsE k (n + 1) m = outsE k n m ++ [outVE k (seqE k n m)]
  | 0, m => rfl
  | n + 1, m => by
    show outVE k m :: outsE k (n + 1) (nxtE k m) = outVE k m :: (outsE k n (nxtE k m) ++ _)
    rw [outsE_snoc k n (nxtE k m)]
    rfl
section
variable {m : MzT} {k : Int} (hM : OkMz m) (hk : RngE m k)
include hM hk
theorem lenE_ok : OutsM m (entryB m.1 m.2.1 k) (lenE k m) := by
  obtain ⟨n, _, h, _⟩ := entry_fate hM hk
  unfold lenE
  have hx : ∃ n, OutsM m (entryB m.1 m.2.1 k) n := ⟨n, h⟩
  rw [dif_pos hx]
  exact Classical.choose_spec hx
theorem nxtE_ok : OkMz (nxtE k m) ∧ RngE (nxtE k m) k := ⟨maze_ok (entry_okBa hM hk) (lenE_ok hM hk), hk⟩
theorem nxtI_ev : Ev (fun j => impl_Maze_pass j (m, entryB m.1 m.2.1 k)) (((nxtE k m).1, (nxtE k m).2.1, (nxtE k m).2.2.1, (nxtE k m).2.2.2, outVE k m, hitsM m (entryB m.1 m.2.1 k) (lenE k m), ((lenE k m : Nat) : Int)), true) ∧
    Ev (fun j => spec_miRun j (m, entryB m.1 m.2.1 k)) (nxtE k m, outVE k m, hitsM m (entryB m.1 m.2.1 k) (lenE k m), ((lenE k m : Nat) : Int), true) := by
  obtain ⟨h1, h2, _⟩ := fate_at (entry_okBa hM hk) (lenE_ok hM hk)
  exact ⟨h1, h2⟩
end
theorem seqE_ok {k : Int} : ∀ (n : Nat) {m : MzT}, OkMz m → RngE m k → OkMz (seqE k n m) ∧ RngE (seqE k n m) k
  | 0, m, hM, hk => ⟨hM, hk⟩
  | n + 1, m, hM, hk => by
    obtain ⟨a, b⟩ := nxtE_ok hM hk
    exact seqE_ok n a b
theorem seqE_dims (k : Int) : ∀ (n : Nat) (m : MzT), (seqE k n m).1 = m.1 ∧ (seqE k n m).2.1 = m.2.1 ∧ (seqE k n m).2.2.2 = m.2.2.2
  | 0, m => ⟨rfl, rfl, rfl⟩
  | n + 1, m => seqE_dims k n (nxtE k m)
/-! ### Exits in turn -/
theorem turnsI_ev {k : Int} (N : Nat) (hN : N ≤ 600) : ∀ (r i : Nat) {m : MzT} (out : List Int), i + r = N → out.length = i → OkMz m → RngE m k → Ev (fun j => impl_ExitsInTurn_l j (k, m, out, (N : Int), (i : Int))) (out ++ outsE k r m) ∧ Ev (fun j => spec_ExitsInTurn_l j (k, (r : Int), m, out)) (out ++ outsE k r m)
  | 0, i, m, out, hi, ho, hM, hk => by
    have e : out ++ outsE k 0 m = out := List.append_nil _
    rw [e]
    obtain ⟨w, h, cs, t⟩ := m
    exact ⟨Ev.step (fun j => impl_ExitsInTurn_l.eq j k w h cs t out _ _) (Ev.no (decide_eq_false (by omega)) (Ev.now _)), Ev.step (fun j => spec_ExitsInTurn_l.eq j k _ w h cs t out) (Ev.no (decide_eq_false (by omega)) (Ev.now _))⟩
  | r + 1, i, m, out, hi, ho, hM, hk => by
    obtain ⟨a, b⟩ := nxtE_ok hM hk
    obtain ⟨h1, h2⟩ := nxtI_ev hM hk
    obtain ⟨e1, e2⟩ := entries_ev hM.1 hM.2.1 m.2.2.1 m.2.2.2 hk
    obtain ⟨g1, g2⟩ := turnsI_ev N hN r (i + 1) (m := nxtE k m) (out ++ [outVE k m]) (by omega) (by rw [List.length_append, ho]; rfl) a b
    have e : out ++ outsE k (r + 1) m = out ++ [outVE k m] ++ outsE k r (nxtE k m) := by rw [List.append_assoc]; rfl
    have hf : fits (out.length + 1) 8 = true := fits_of (by omega)
    rw [e]
    have w1 : w64 ((i : Int) + 1) = ((i + 1 : Nat) : Int) := w64_succ (by omega)
    have w2 : w64 (((r + 1 : Nat) : Int) - 1) = (r : Int) := by rw [w64_of (by omega) (by omega)]; omega
    obtain ⟨w, h, cs, t⟩ := m
    refine ⟨Ev.step (fun j => impl_ExitsInTurn_l.eq j k w h cs t out _ _) (Ev.yes (decide_eq_true (by omega)) (Ev.bind e1 (Ev.bind h1 (Ev.yes hf ?_)))), Ev.step (fun j => spec_ExitsInTurn_l.eq j k _ w h cs t out) (Ev.yes (decide_eq_true (by omega)) (Ev.bind e2 (Ev.bind h2 (Ev.yes hf ?_))))⟩
    · rw [w1]
      exact g1
    · rw [w2]
      exact g2
theorem exits_ev (m : MzT) (k n : Int) (hc : m.2.2.1.size ≤ 1099511627776) : (OkMz m ∧ RngE m k ∧ (0 ≤ n ∧ n ≤ 600) → Ev (fun j => impl_ExitsInTurn j (m, k, n)) (outsE k n.toNat m, true) ∧ Ev (fun j => spec_ExitsInTurn j (m, k, n)) (outsE k n.toNat m, true)) ∧
    (¬ (OkMz m ∧ RngE m k ∧ (0 ≤ n ∧ n ≤ 600)) → Ev (fun j => impl_ExitsInTurn j (m, k, n)) ([], false) ∧ Ev (fun j => spec_ExitsInTurn j (m, k, n)) ([], false)) := by
  have iE := isEnd_ev m k hc
  have sE := miEnd_ev m k hc
  constructor
  · rintro ⟨hM, hk, hn⟩
    obtain ⟨N, rfl⟩ := Int.eq_ofNat_of_zero_le hn.1
    obtain ⟨g1, g2⟩ := turnsI_ev N (by omega) N 0 [] (by omega) rfl hM hk
    rw [Int.toNat_natCast]
    have iE := iE.isT ⟨hM, hk⟩
    have sE := sE.isT ⟨hM, hk⟩
    obtain ⟨w, h, cs, t⟩ := m
    exact ⟨Ev.step (fun j => impl_ExitsInTurn.eq j w h cs t k _) (Ev.bind iE (Ev.no rfl (Ev.bind ((within_ev _ _ _).isT hn) (Ev.no rfl (Ev.bind g1 (Ev.now _)))))), Ev.step (fun j => spec_ExitsInTurn.eq j w h cs t k _) (Ev.bind sE (Ev.no rfl (Ev.bind ((l1In_ev _ _ _).isT hn) (Ev.no rfl (Ev.bind g2 (Ev.now _))))))⟩
  · intro hn
    obtain ⟨w, h, cs, t⟩ := m
    by_cases hE : OkMz (w, h, cs, t) ∧ RngE (w, h, cs, t) k
    · have hr : ¬ (0 ≤ n ∧ n ≤ 600) := fun h => hn ⟨hE.1, hE.2, h⟩
      exact ⟨Ev.step (fun j => impl_ExitsInTurn.eq j w h cs t k _) (Ev.bind (iE.isT hE) (Ev.no rfl (Ev.bind ((within_ev _ _ _).isF hr) (Ev.yes rfl (Ev.now _))))), Ev.step (fun j => spec_ExitsInTurn.eq j w h cs t k _) (Ev.bind (sE.isT hE) (Ev.no rfl (Ev.bind ((l1In_ev _ _ _).isF hr) (Ev.yes rfl (Ev.now _)))))⟩
    · exact ⟨Ev.step (fun j => impl_ExitsInTurn.eq j w h cs t k _) (Ev.bind (iE.isF hE) (Ev.yes rfl (Ev.now _))), Ev.step (fun j => spec_ExitsInTurn.eq j w h cs t k _) (Ev.bind (sE.isF hE) (Ev.yes rfl (Ev.now _)))⟩
/-! ### Until a maze is the same -/
theorem baM_beq (s t : ByteArray) : (s == t) = strEq s t := by
  by_cases h : s = t
  · subst h
    rw [strEq_self]
    obtain ⟨d⟩ := s
    show (d == d) = true
    simp
  · have e1 : strEq s t = false := Bool.eq_false_iff.2 fun e => h (strEq_iff.1 e)
    rw [e1, Bool.eq_false_iff]
    intro e
    refine h ?_
    obtain ⟨d⟩ := s
    obtain ⟨d'⟩ := t
    have e : (d == d') = true := e
    rw [eq_of_beq e]
theorem eqM_bool {a b : MzT} (h1 : a.1 = b.1) (h2 : a.2.1 = b.2.1) (h3 : a.2.2.2 = b.2.2.2) : ((a.1 == b.1) && ((a.2.1 == b.2.1) && ((a.2.2.1 == b.2.2.1) && ((a.2.2.2 == b.2.2.2) && true)))) = strEq a.2.2.1 b.2.2.1 := by
  rw [h1, h2, h3, baM_beq]
  simp
theorem eqM_iff {a b : MzT} (h1 : a.1 = b.1) (h2 : a.2.1 = b.2.1) (h3 : a.2.2.2 = b.2.2.2) : strEq a.2.2.1 b.2.2.1 = true ↔ a = b := by
  rw [strEq_iff]
  refine ⟨fun e => Prod.ext h1 (Prod.ext h2 (Prod.ext e h3)), fun e => by rw [e]⟩
def FoundE (k : Int) (m : MzT) (r : Int × Bool) : Prop := (∃ j : Nat, (1 ≤ j ∧ j ≤ 600) ∧ r = ((j : Int), true) ∧ seqE k j m = m ∧ ∀ i, 1 ≤ i → i < j → seqE k i m ≠ m) ∨ r = (0, false)
theorem until_ev {m : MzT} {k : Int} (hM : OkMz m) (hk : RngE m k) : ∀ (r i : Nat), i + r = 600 → (∀ j, 1 ≤ j → j ≤ i → seqE k j m ≠ m) →
    (∃ j : Nat, (i + 1 ≤ j ∧ j ≤ 600) ∧ seqE k j m = m ∧ (∀ l, 1 ≤ l → l < j → seqE k l m ≠ m) ∧ Ev (fun n => impl_BallsUntilSame_l n (k, m, seqE k i m, ((i + 1 : Nat) : Int))) (.inl ((j : Int), true)) ∧ Ev (fun n => spec_BallsUntilSame_l n (k, m, seqE k i m, ((i + 1 : Nat) : Int))) (.inl ((j : Int), true))) ∨
    (Ev (fun n => impl_BallsUntilSame_l n (k, m, seqE k i m, ((i + 1 : Nat) : Int))) (.inr ()) ∧ Ev (fun n => spec_BallsUntilSame_l n (k, m, seqE k i m, ((i + 1 : Nat) : Int))) (.inr ()))
  | 0, i, hi, hl => by
    right
    obtain ⟨X, hX⟩ : ∃ X, seqE k i m = X := ⟨_, rfl⟩
    rw [hX]
    obtain ⟨w, h, cs, t⟩ := m
    obtain ⟨w', h', cs', t'⟩ := X
    exact ⟨Ev.step (fun n => impl_BallsUntilSame_l.eq n k w h cs t w' h' cs' t' _) (Ev.no (decide_eq_false (by omega)) (Ev.now _)), Ev.step (fun n => spec_BallsUntilSame_l.eq n k w h cs t w' h' cs' t' _) (Ev.no (decide_eq_false (by omega)) (Ev.now _))⟩
  | r + 1, i, hi, hl => by
    obtain ⟨aM, ak⟩ := seqE_ok (k := k) i hM hk
    obtain ⟨d1, d2, d3⟩ := seqE_dims k i m
    obtain ⟨f1, f2, f3⟩ := seqE_dims k (i + 1) m
    obtain ⟨h1, h2⟩ := nxtI_ev aM ak
    obtain ⟨e1, _⟩ := entries_ev aM.1 aM.2.1 (seqE k i m).2.2.1 (seqE k i m).2.2.2 ak
    obtain ⟨_, e2⟩ := entries_ev hM.1 hM.2.1 m.2.2.1 m.2.2.2 hk
    have hb := eqM_bool f1 f2 f3
    have hb2 := eqM_iff f1 f2 f3
    have e2 : Ev (fun n => spec_miEntry n (m, k)) (entryB (seqE k i m).1 (seqE k i m).2.1 k) := by rw [d1, d2]; exact e2
    rw [← seqE_succ] at h1 h2
    have w1 : w64 (((i + 1 : Nat) : Int) + 1) = ((i + 1 + 1 : Nat) : Int) := w64_succ (by omega)
    have stI : ∀ v, Ev (fun n => cond (strEq (seqE k (i + 1) m).2.2.1 m.2.2.1) (some (.inl (((i + 1 : Nat) : Int), true))) (impl_BallsUntilSame_l n (k, m, seqE k (i + 1) m, ((i + 1 + 1 : Nat) : Int)))) v → Ev (fun n => impl_BallsUntilSame_l n (k, m, seqE k i m, ((i + 1 : Nat) : Int))) v := fun v g => by
      rw [← hb] at g
      obtain ⟨X, hX⟩ : ∃ X, seqE k i m = X := ⟨_, rfl⟩
      rw [hX] at h1 e1 ⊢
      obtain ⟨w, h, cs, t⟩ := m
      obtain ⟨w', h', cs', t'⟩ := X
      refine Ev.step (fun n => impl_BallsUntilSame_l.eq n k w h cs t w' h' cs' t' _) (Ev.yes (decide_eq_true (by omega)) (Ev.bind e1 (Ev.bind h1 ?_)))
      rw [w1]
      exact g
    have stS : ∀ v, Ev (fun n => cond (strEq (seqE k (i + 1) m).2.2.1 m.2.2.1) (some (.inl (((i + 1 : Nat) : Int), true))) (spec_BallsUntilSame_l n (k, m, seqE k (i + 1) m, ((i + 1 + 1 : Nat) : Int)))) v → Ev (fun n => spec_BallsUntilSame_l n (k, m, seqE k i m, ((i + 1 : Nat) : Int))) v := fun v g => by
      obtain ⟨X, hX⟩ : ∃ X, seqE k i m = X := ⟨_, rfl⟩
      rw [hX] at h2 e2 ⊢
      obtain ⟨w, h, cs, t⟩ := m
      obtain ⟨w', h', cs', t'⟩ := X
      refine Ev.step (fun n => spec_BallsUntilSame_l.eq n k w h cs t w' h' cs' t' _) (Ev.yes (decide_eq_true (by omega)) (Ev.bind e2 (Ev.bind h2 ?_)))
      rw [w1]
      exact g
    by_cases hs : seqE k (i + 1) m = m
    · exact .inl ⟨i + 1, by omega, hs, fun l l1 l2 => hl l l1 (by omega), stI _ (Ev.yes (hb2.2 hs) (Ev.now _)), stS _ (Ev.yes (hb2.2 hs) (Ev.now _))⟩
    · have hn : strEq (seqE k (i + 1) m).2.2.1 m.2.2.1 = false := Bool.eq_false_iff.2 fun e => hs (hb2.1 e)
      rcases until_ev hM hk r (i + 1) (by omega) (fun j j1 j2 => by
        by_cases hj : j = i + 1
        · rw [hj]; exact hs
        · exact hl j j1 (by omega)) with ⟨j, j1, j2, j3, j4, j5⟩ | ⟨j4, j5⟩
      · exact .inl ⟨j, by omega, j2, j3, stI _ (Ev.no hn j4), stS _ (Ev.no hn j5)⟩
      · exact .inr ⟨stI _ (Ev.no hn j4), stS _ (Ev.no hn j5)⟩
theorem balls_ev (m : MzT) (k : Int) (hc : m.2.2.1.size ≤ 1099511627776) : ∃ r, Ev (fun n => impl_BallsUntilSame n (m, k)) r ∧ Ev (fun n => spec_BallsUntilSame n (m, k)) r ∧ FoundE k m r ∧ (r.2 = true → OkMz m ∧ RngE m k) := by
  have iE := isEnd_ev m k hc
  have sE := miEnd_ev m k hc
  by_cases hE : OkMz m ∧ RngE m k
  · have iE := iE.isT hE
    have sE := sE.isT hE
    have hu := until_ev hE.1 hE.2 600 0 (by omega) (fun j j1 j2 => by omega)
    have hm0 : seqE k 0 m = m := rfl
    rw [hm0] at hu
    obtain ⟨w, h, cs, t⟩ := m
    cases t with
    | false => exact ⟨(0, false), Ev.step (fun n => impl_BallsUntilSame.eq n w h cs false k) (Ev.bind iE (Ev.no rfl (Ev.yes rfl (Ev.now _)))), Ev.step (fun n => spec_BallsUntilSame.eq n w h cs false k) (Ev.bind sE (Ev.no rfl (Ev.yes rfl (Ev.now _)))), .inr rfl, nofun⟩
    | true =>
      rcases hu with ⟨j, j1, j2, j3, j4, j5⟩ | ⟨j4, j5⟩
      · exact ⟨((j : Int), true), Ev.step (fun n => impl_BallsUntilSame.eq n w h cs true k) (Ev.bind iE (Ev.no rfl (Ev.no rfl (Ev.bind j4 (Ev.now _))))), Ev.step (fun n => spec_BallsUntilSame.eq n w h cs true k) (Ev.bind sE (Ev.no rfl (Ev.no rfl (Ev.bind j5 (Ev.now _))))), .inl ⟨j, by omega, rfl, j2, j3⟩, fun _ => hE⟩
      · exact ⟨(0, false), Ev.step (fun n => impl_BallsUntilSame.eq n w h cs true k) (Ev.bind iE (Ev.no rfl (Ev.no rfl (Ev.bind j4 (Ev.now _))))), Ev.step (fun n => spec_BallsUntilSame.eq n w h cs true k) (Ev.bind sE (Ev.no rfl (Ev.no rfl (Ev.bind j5 (Ev.now _))))), .inr rfl, nofun⟩
  · have iE := iE.isF hE
    have sE := sE.isF hE
    obtain ⟨w, h, cs, t⟩ := m
    exact ⟨(0, false), Ev.step (fun n => impl_BallsUntilSame.eq n w h cs t k) (Ev.bind iE (Ev.yes rfl (Ev.now _))), Ev.step (fun n => spec_BallsUntilSame.eq n w h cs t k) (Ev.bind sE (Ev.yes rfl (Ev.now _))), .inr rfl, nofun⟩
end Go.Proofs.YtcmebphcoamohaaGreatDoorS
