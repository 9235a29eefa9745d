/- The plain law FnLoopsClose. -/
import Derived.Test.YtplamonjnlgomaaGreatDoorOk
import Derived.Test.YtplamonjnlgomaaGreatDoorMgLo
namespace Go.Proofs.YtplamonjnlgomaaGreatDoor.fnLoopsClose
open Go Go.Proofs Go.Proofs.YtplamonjnlgomaaGreatDoorS
set_option linter.unusedVariables false
set_option linter.unusedSimpArgs false
set_option maxRecDepth 10000
abbrev castN (l : List Nat) : List Int := l.map fun i : Nat => (i : Int)
theorem last_ev (X Y : Wo) (b : Int) (ok : Bool) (hB : ok = true → ∃ n : Nat, b = (n : Int) ∧ runO n X = Y ∧ OkO X) : Ev (fun k => laws_FnLoopsClose_c_c_c_2_c_c_c k (X, Y, b, ok)) true := by
  cases ok with
  | false =>
    obtain ⟨rl, w, h, cs, x, y, wy⟩ := X
    obtain ⟨vl, vw, vh, vc, vx, vy, vwy⟩ := Y
    exact Ev.step (fun k => laws_FnLoopsClose_c_c_c_2_c_c_c.eq k rl w h cs x y wy vl vw vh vc vx vy vwy b false) (Ev.no rfl (Ev.now _))
  | true =>
    obtain ⟨n, rfl, hn, H⟩ := hB rfl
    by_cases h3 : (n : Int) ≤ 3000
    · have q := afterI_ev H n (by omega)
      rw [hn] at q
      have e := (wo_iff Y Y).2 rfl
      obtain ⟨rl, w, h, cs, x, y, wy⟩ := X
      obtain ⟨vl, vw, vh, vc, vx, vy, vwy⟩ := Y
      exact Ev.step (fun k => laws_FnLoopsClose_c_c_c_2_c_c_c.eq k rl w h cs x y wy vl vw vh vc vx vy vwy n true) (Ev.yes rfl (Ev.yes (decide_eq_true h3) (Ev.bind q (Ev.yes rfl (Ev.now' e)))))
    · obtain ⟨rl, w, h, cs, x, y, wy⟩ := X
      obtain ⟨vl, vw, vh, vc, vx, vy, vwy⟩ := Y
      exact Ev.step (fun k => laws_FnLoopsClose_c_c_c_2_c_c_c.eq k rl w h cs x y wy vl vw vh vc vx vy vwy n true) (Ev.yes rfl (Ev.no (decide_eq_false h3) (Ev.now _)))
theorem dec_l (X Y : Wo) (b : Int) (ok : Bool) (N : Nat) (l : List Nat) (hl : l.length ≤ 100000) (hN : ∀ i ∈ l, i < N) : ∀ m j : Nat, j + m = l.length →
    Ev (fun k => laws_FnLoopsClose_c_c_c_2_c_c_l k (X, Y, b, ok, (List.range N).map (fun i => (((l.drop j).count i : Nat) : Int)), castN l, (l.length : Int), (j : Int))) (X, Y, b, ok, (List.range N).map fun _ => 0)
  | 0, j, hj => by
    obtain ⟨rl, w, h, cs, x, y, wy⟩ := X
    obtain ⟨vl, vw, vh, vc, vx, vy, vwy⟩ := Y
    refine Ev.step (fun k => laws_FnLoopsClose_c_c_c_2_c_c_l.eq k rl w h cs x y wy vl vw vh vc vx vy vwy b ok _ _ _ _) (Ev.no (not_lt_nat (by omega)) (Ev.now' ?_))
    have e : ((List.range N).map fun i => (((l.drop j).count i : Nat) : Int)) = (List.range N).map fun _ => 0 := rg_congr fun i _ => by
      rw [List.drop_of_length_le (by omega), List.count_nil]
      rfl
    rw [e]
  | m + 1, j, hj => by
    obtain ⟨a, ha⟩ := nat_list (l := l) (i := j) (by omega)
    obtain ⟨hlt, he⟩ := List.getElem?_eq_some_iff.1 ha
    have haN := hN a (List.mem_of_getElem? ha)
    have g1 : (castN l).getD j default = (a : Int) := getD_at (by unfold castN; rw [List.getElem?_map, ha]; rfl)
    have ih := dec_l X Y b ok N l hl hN m (j + 1) (by omega)
    have hd : l.drop j = a :: l.drop (j + 1) := by rw [List.drop_eq_getElem_cons hlt, he]
    have hcl := List.count_le_length (a := a) (l := l.drop (j + 1))
    have er : ((List.range N).map fun i => (((l.drop j).count i : Nat) : Int)).set a (w64 (((List.range N).map fun i => (((l.drop j).count i : Nat) : Int)).getD a default - 1)) = (List.range N).map fun i => (((l.drop (j + 1)).count i : Nat) : Int) := by
      rw [rg_get _ haN, rg_set]
      refine rg_congr fun i _ => ?_
      rw [hd, List.count_cons, List.count_cons]
      by_cases e : i = a
      · subst e
        rw [if_pos rfl, beq_self_eq_true, if_pos rfl, w64_of (by omega) (by rw [List.length_drop] at hcl; omega)]
        omega
      · have : (a == i) = false := beq_eq_false_iff_ne.2 fun q => e q.symm
        rw [if_neg e, this, if_neg Bool.false_ne_true]
        rfl
    have hin : inB (a : Int) ((List.range N).map fun i => (((l.drop j).count i : Nat) : Int)).length = true := inB_nat (by rw [rg_len]; exact haN)
    rw [← er] at ih
    obtain ⟨rl, w, h, cs, x, y, wy⟩ := X
    obtain ⟨vl, vw, vh, vc, vx, vy, vwy⟩ := Y
    refine Ev.step (fun k => laws_FnLoopsClose_c_c_c_2_c_c_l.eq k rl w h cs x y wy vl vw vh vc vx vy vwy b ok _ _ _ _) (Ev.yes (lt_nat (by omega)) (Ev.yes (inB_nat (by unfold castN; rw [List.length_map]; omega)) ?_))
    rw [Int.toNat_natCast, g1, w64_succ (by omega)]
    refine Ev.yes hin (Ev.yes hin ?_)
    rw [Int.toNat_natCast]
    exact ih
theorem zero_l (X Y : Wo) (b : Int) (ok : Bool) (N : Nat) (hN : N ≤ 1000) : ∀ m j : Nat, j + m = N →
    Ev (fun k => laws_FnLoopsClose_c_c_c_2_c_c_l_2 k (X, Y, b, ok, (List.range N).map (fun _ => (0 : Int)), (N : Int), (j : Int))) (.inr (X, Y, b, ok))
  | 0, j, hj => by
    obtain ⟨rl, w, h, cs, x, y, wy⟩ := X
    obtain ⟨vl, vw, vh, vc, vx, vy, vwy⟩ := Y
    exact Ev.step (fun k => laws_FnLoopsClose_c_c_c_2_c_c_l_2.eq k rl w h cs x y wy vl vw vh vc vx vy vwy b ok _ _ _) (Ev.no (not_lt_nat (by omega)) (Ev.now _))
  | m + 1, j, hj => by
    have ih := zero_l X Y b ok N hN m (j + 1) (by omega)
    obtain ⟨rl, w, h, cs, x, y, wy⟩ := X
    obtain ⟨vl, vw, vh, vc, vx, vy, vwy⟩ := Y
    refine Ev.step (fun k => laws_FnLoopsClose_c_c_c_2_c_c_l_2.eq k rl w h cs x y wy vl vw vh vc vx vy vwy b ok _ _ _) (Ev.yes (lt_nat (by omega)) (Ev.yes (inB_nat (by rw [rg_len]; omega)) ?_))
    rw [Int.toNat_natCast, rg_get _ (by omega), w64_succ (by omega)]
    exact Ev.no rfl ih
theorem tracks_ev (U X Y : Wo) (sh : Int) (tr : List Int) (f : Bool) (b : Int) (ok : Bool) (hf : f = true → ∃ n : Nat, sh = (n : Int) ∧ n ≤ 200 ∧ OkO U ∧ tr = castN (trk n U)) (hB : ok = true → ∃ n : Nat, b = (n : Int) ∧ runO n X = Y ∧ OkO X) :
    Ev (fun k => laws_FnLoopsClose_c_c_c_2_c_c k (U, sh, tr, f, X, Y, b, ok)) true := by
  have la := last_ev X Y b ok hB
  cases f with
  | false =>
    obtain ⟨ul, uw, uh, uc, ux, uy, uwy⟩ := U
    obtain ⟨rl, w, h, cs, x, y, wy⟩ := X
    obtain ⟨vl, vw, vh, vc, vx, vy, vwy⟩ := Y
    exact Ev.step (fun k => laws_FnLoopsClose_c_c_c_2_c_c.eq k ul uw uh uc ux uy uwy sh tr false rl w h cs x y wy vl vw vh vc vx vy vwy b ok) (Ev.no rfl (Ev.bind la (Ev.now _)))
  | true =>
    obtain ⟨n, rfl, hn, HU, rfl⟩ := hf rfl
    have v := ((visitsAfter_ev U (by have := okO_size HU; omega) (by have := okO_size HU; omega) n).1 ⟨HU, by omega⟩).1
    rw [Int.toNat_natCast] at v
    have hz : cellsO U ≤ 81 := (okO_size HU).2
    have len : (castN (trk n U)).length = n := by unfold castN; rw [List.length_map, trk_len]
    have d := dec_l X Y b ok (cellsO U) (trk n U) (by rw [trk_len]; omega) (trk_lt n U HU) (trk n U).length 0 (by omega)
    rw [List.drop_zero] at d
    have d : Ev (fun k => laws_FnLoopsClose_c_c_c_2_c_c_l k (X, Y, b, ok, (List.range (cellsO U)).map (vF n U), castN (trk n U), ((castN (trk n U)).length : Int), 0)) (X, Y, b, ok, (List.range (cellsO U)).map fun _ => 0) := by
      unfold castN
      rw [List.length_map]
      exact d
    have z := zero_l X Y b ok (cellsO U) (by omega) (cellsO U) 0 (by omega)
    have z : Ev (fun k => laws_FnLoopsClose_c_c_c_2_c_c_l_2 k (X, Y, b, ok, (List.range (cellsO U)).map (fun _ => (0 : Int)), (((List.range (cellsO U)).map (fun _ => (0 : Int))).length : Int), 0)) (.inr (X, Y, b, ok)) := by
      rw [rg_len]
      exact z
    have ne : (((castN (trk n U)).length : Int) != (n : Int)) = false := by rw [len]; exact neq_self _
    obtain ⟨ul, uw, uh, uc, ux, uy, uwy⟩ := U
    obtain ⟨rl, w, h, cs, x, y, wy⟩ := X
    obtain ⟨vl, vw, vh, vc, vx, vy, vwy⟩ := Y
    exact Ev.step (fun k => laws_FnLoopsClose_c_c_c_2_c_c.eq k ul uw uh uc ux uy uwy n _ true rl w h cs x y wy vl vw vh vc vx vy vwy b ok) (Ev.yes rfl (Ev.no ne (Ev.bind v (Ev.no rfl (Ev.bind d (Ev.bind z (Ev.bind la (Ev.now _))))))))
section
variable (U X Y : Wo) (sh : Int) (tr : List Int) (f : Bool) (b : Int) (ok : Bool)
theorem diff_l (steps count most : Int) (th : Bool) (N : Nat) (hN : N ≤ 1000) (g : Nat → Int) (hm : th = true → ∃ t : Nat, most = (t : Int) ∧ BestOf N g t) : ∀ m i d : Nat, i + m = N → d ≤ i →
    Ev (fun k => laws_FnLoopsClose_c_c_c_2_c_l k (steps, (List.range N).map g, count, most, th, U, sh, tr, f, X, Y, b, ok, (d : Int), (), (N : Int), (i : Int))) (.inr (steps, (List.range N).map g, count, U, sh, tr, f, X, Y, b, ok, ((d + (((List.range N).drop i).filter fun i => decide (g i > 0)).length : Nat) : Int)))
  | 0, i, d, hi, hd => by
    rw [List.drop_of_length_le (by rw [List.length_range]; omega)]
    obtain ⟨ul, uw, uh, uc, ux, uy, uwy⟩ := U
    obtain ⟨rl, w, h, cs, x, y, wy⟩ := X
    obtain ⟨vl, vw, vh, vc, vx, vy, vwy⟩ := Y
    exact Ev.step (fun k => laws_FnLoopsClose_c_c_c_2_c_l.eq k steps _ count most th ul uw uh uc ux uy uwy sh tr f rl w h cs x y wy vl vw vh vc vx vy vwy b ok _ _ _) (Ev.no (not_lt_nat (by omega)) (Ev.now _))
  | m + 1, i, d, hi, hd => by
    have hiN : i < N := by omega
    rw [rg_drop hiN]
    have key : ∀ {T : Type} (q : Nat → Option (Sum Bool T)) (r : Sum Bool T), Ev q r → Ev (fun k => cond th (cond (inB most ((List.range N).map g).length) (cond (decide (g i > (((List.range N).map g).getD most.toNat default))) (some (.inl false)) (cond (inB most ((List.range N).map g).length) (cond (g i == (((List.range N).map g).getD most.toNat default)) (cond (decide ((i : Int) < most)) (some (.inl false)) (q k)) (q k)) none)) none) (q k)) r := fun q r ih => by
      cases th with
      | false => exact Ev.no rfl ih
      | true =>
        obtain ⟨t, rfl, t1, t2, t3⟩ := hm rfl
        have hin : inB (t : Int) ((List.range N).map g).length = true := inB_nat (by rw [rg_len]; exact t1)
        refine Ev.yes rfl (Ev.yes hin ?_)
        rw [Int.toNat_natCast, rg_get g t1]
        have h2 := t2 i hiN
        refine Ev.no (decide_eq_false (by omega)) (Ev.yes hin ?_)
        by_cases e : g i = g t
        · exact Ev.yes (beq_iff_eq.2 e) (Ev.no (decide_eq_false fun q => by have := t3 i (by omega); omega) ih)
        · exact Ev.no (beq_eq_false_iff_ne.2 e) ih
    by_cases hg : g i > 0
    · have ih := key _ _ (diff_l steps count most th N hN g hm m (i + 1) (d + 1) (by omega) (by omega))
      rw [List.filter_cons_of_pos (p := fun i => decide (g i > 0)) (decide_eq_true hg), List.length_cons]
      rw [show d + 1 + (((List.range N).drop (i + 1)).filter fun i => decide (g i > 0)).length = d + ((((List.range N).drop (i + 1)).filter fun i => decide (g i > 0)).length + 1) by omega] at ih
      obtain ⟨ul, uw, uh, uc, ux, uy, uwy⟩ := U
      obtain ⟨rl, w, h, cs, x, y, wy⟩ := X
      obtain ⟨vl, vw, vh, vc, vx, vy, vwy⟩ := Y
      refine Ev.step (fun k => laws_FnLoopsClose_c_c_c_2_c_l.eq k steps _ count most th ul uw uh uc ux uy uwy sh tr f rl w h cs x y wy vl vw vh vc vx vy vwy b ok _ _ _) (Ev.yes (lt_nat hiN) (Ev.yes (inB_nat (by rw [rg_len]; exact hiN)) ?_))
      rw [Int.toNat_natCast, rg_get g hiN, w64_succ (i := i) (by omega), w64_succ (i := d) (by omega)]
      exact Ev.yes (decide_eq_true hg) ih
    · have ih := key _ _ (diff_l steps count most th N hN g hm m (i + 1) d (by omega) (by omega))
      rw [List.filter_cons_of_neg (p := fun i => decide (g i > 0)) (by rw [decide_eq_false hg]; exact Bool.false_ne_true)]
      obtain ⟨ul, uw, uh, uc, ux, uy, uwy⟩ := U
      obtain ⟨rl, w, h, cs, x, y, wy⟩ := X
      obtain ⟨vl, vw, vh, vc, vx, vy, vwy⟩ := Y
      refine Ev.step (fun k => laws_FnLoopsClose_c_c_c_2_c_l.eq k steps _ count most th ul uw uh uc ux uy uwy sh tr f rl w h cs x y wy vl vw vh vc vx vy vwy b ok _ _ _) (Ev.yes (lt_nat hiN) (Ev.yes (inB_nat (by rw [rg_len]; exact hiN)) ?_))
      rw [Int.toNat_natCast, rg_get g hiN, w64_succ (i := i) (by omega)]
      exact Ev.no (decide_eq_false hg) ih
theorem vis_sum {V : Wo} (H : OkO V) (n : Nat) (hn : n ≤ 100000) : Ev (fun k => laws_kSum k ((List.range (cellsO V)).map (vF n V))) (n : Int) := by
  have hz : cellsO V ≤ 81 := (okO_size H).2
  have q := kSum_ev ((List.range (cellsO V)).map (vF n V)) (by rw [rg_len]; omega) (fun x hx => by
    obtain ⟨i, _, rfl⟩ := List.mem_map.1 hx
    have := vF_range n V i
    omega)
  have e : ((List.range (cellsO V)).map (vF n V)).sum = (n : Int) := by
    have := count_sum (trk n V) (cellsO V) (trk_lt n V H)
    rw [trk_len] at this
    exact this
  rwa [e] at q
theorem counts_ev (V : Wo) (steps : Int) (vis : List Int) (nine : Bool) (count most : Int) (th : Bool)
    (hv : nine = true → ∃ n : Nat, steps = (n : Int) ∧ n ≤ 3000 ∧ OkO V ∧ vis = (List.range (cellsO V)).map (vF n V) ∧ count = (((List.range (cellsO V)).filter fun i => decide (vF n V i > 0)).length : Int) ∧ (th = true → ∃ t : Nat, most = (t : Int) ∧ BestOf (cellsO V) (vF n V) t))
    (hf : f = true → ∃ n : Nat, sh = (n : Int) ∧ n ≤ 200 ∧ OkO U ∧ tr = castN (trk n U)) (hB : ok = true → ∃ n : Nat, b = (n : Int) ∧ runO n X = Y ∧ OkO X) :
    Ev (fun k => laws_FnLoopsClose_c_c_c_2_c k (steps, vis, nine, count, most, th, U, sh, tr, f, X, Y, b, ok)) true := by
  have tk := tracks_ev U X Y sh tr f b ok hf hB
  cases nine with
  | false =>
    obtain ⟨ul, uw, uh, uc, ux, uy, uwy⟩ := U
    obtain ⟨rl, w, h, cs, x, y, wy⟩ := X
    obtain ⟨vl, vw, vh, vc, vx, vy, vwy⟩ := Y
    exact Ev.step (fun k => laws_FnLoopsClose_c_c_c_2_c.eq k steps vis false count most th ul uw uh uc ux uy uwy sh tr f rl w h cs x y wy vl vw vh vc vx vy vwy b ok) (Ev.no rfl (Ev.bind tk (Ev.now _)))
  | true =>
    obtain ⟨n, rfl, hn, H, rfl, rfl, hm⟩ := hv rfl
    have hz : cellsO V ≤ 81 := (okO_size H).2
    have su := vis_sum H n (by omega)
    have d := diff_l U X Y sh tr f b ok (n : Int) (((List.range (cellsO V)).filter fun i => decide (vF n V i > 0)).length : Int) most th (cellsO V) (by omega) (vF n V) hm (cellsO V) 0 0 (by omega) (by omega)
    rw [Nat.zero_add, List.drop_zero] at d
    have d : Ev (fun k => laws_FnLoopsClose_c_c_c_2_c_l k ((n : Int), (List.range (cellsO V)).map (vF n V), (((List.range (cellsO V)).filter fun i => decide (vF n V i > 0)).length : Int), most, th, U, sh, tr, f, X, Y, b, ok, 0, (), (((List.range (cellsO V)).map (vF n V)).length : Int), 0)) (.inr ((n : Int), (List.range (cellsO V)).map (vF n V), (((List.range (cellsO V)).filter fun i => decide (vF n V i > 0)).length : Int), U, sh, tr, f, X, Y, b, ok, (((List.range (cellsO V)).filter fun i => decide (vF n V i > 0)).length : Int))) := by
      rw [rg_len]
      exact d
    obtain ⟨ul, uw, uh, uc, ux, uy, uwy⟩ := U
    obtain ⟨rl, w, h, cs, x, y, wy⟩ := X
    obtain ⟨vl, vw, vh, vc, vx, vy, vwy⟩ := Y
    exact Ev.step (fun k => laws_FnLoopsClose_c_c_c_2_c.eq k _ _ true _ most th ul uw uh uc ux uy uwy sh tr f rl w h cs x y wy vl vw vh vc vx vy vwy b ok) (Ev.yes rfl (Ev.bind d (Ev.bind su (Ev.no (neq_self _) (Ev.no (neq_self _) (Ev.bind tk (Ev.now _)))))))
end
theorem tail (more : List Int) (hm : ∀ x ∈ more, 0 ≤ x ∧ x ≤ 255) : Ev (fun k => laws_FnLoopsClose_c_c_c_2 k more) true := by
  have sb : ∀ b : Bool, (!(b == b)) = false := fun b => by cases b <;> rfl
  obtain ⟨V, n, d1, v1, v2⟩ := drawVisits_ev more hm
  obtain ⟨U, s, d2, u1, u2⟩ := drawTrack_ev more hm
  obtain ⟨X, Y, d3, ⟨x1, x2⟩, y1, y2⟩ := drawBetween_ev more hm
  have ks0 : Ev (fun k => laws_kSame k (([] : List Int), ([] : List Int))) true := kSame_ev [] (by simp)
  obtain ⟨tr, f, t1, t2, t3, t4⟩ : ∃ (tr : List Int) (f : Bool), Ev (fun k => impl_TrackAfter k (U, s)) (tr, f) ∧ Ev (fun k => spec_TrackAfter k (U, s)) (tr, f) ∧ (f = true → ∃ n : Nat, s = (n : Int) ∧ n ≤ 200 ∧ OkO U ∧ tr = castN (trk n U)) ∧ Ev (fun k => laws_kSame k (tr, tr)) true := by
    obtain ⟨a, c⟩ := trackAfter_ev U (by omega) (by omega) s
    by_cases H : OkO U ∧ (0 ≤ s ∧ s ≤ 200)
    · obtain ⟨a1, a2⟩ := a H
      exact ⟨_, _, a1, a2, fun _ => ⟨s.toNat, by omega, by omega, H.1, rfl⟩, kSame_ev _ (by rw [List.length_map, trk_len]; omega)⟩
    · obtain ⟨a1, a2⟩ := c H
      exact ⟨_, _, a1, a2, (fun q => Bool.noConfusion q), ks0⟩
  obtain ⟨b, ok, b1, b2, b3⟩ : ∃ (b : Int) (ok : Bool), Ev (fun k => impl_StepsBetween k (X, Y)) (b, ok) ∧ Ev (fun k => spec_StepsBetween k (X, Y)) (b, ok) ∧ (ok = true → ∃ n : Nat, b = (n : Int) ∧ runO n X = Y ∧ OkO X) := by
    obtain ⟨a, c⟩ := between_ev X Y (by omega) (by omega) (by omega) (by omega)
    by_cases H : OkO X ∧ OkO Y
    · obtain ⟨r, fi, a1, a2⟩ := a H
      rcases fi with ⟨m, rfl, _, _, hp, _⟩ | ⟨rfl, _⟩
      · exact ⟨_, _, a1, a2, fun _ => ⟨m, rfl, hp, H.1⟩⟩
      · exact ⟨_, _, a1, a2, fun q => nomatch q⟩
    · obtain ⟨a1, a2⟩ := c H
      exact ⟨_, _, a1, a2, fun q => nomatch q⟩
  obtain ⟨p, q⟩ := visitsAfter_ev V (by omega) (by omega) n
  obtain ⟨mp, mq⟩ := most_ev V (by omega) (by omega) n
  refine Ev.step (fun k => laws_FnLoopsClose_c_c_c_2.eq k more) ?_
  by_cases H : OkO V ∧ (0 ≤ n ∧ n ≤ 3000)
  · obtain ⟨p1, p2, p3, p4⟩ := p H
    have hz : cellsO V ≤ 81 := (okO_size H.1).2
    have ks := kSame_ev ((List.range (cellsO V)).map (vF n.toNat V)) (by rw [rg_len]; omega)
    by_cases h1 : 1 ≤ n
    · obtain ⟨t, tB, m1, m2⟩ := mp ⟨H.1, h1, H.2.2⟩
      have fin := counts_ev U X Y s tr f b ok V n _ true _ (t : Int) true (fun _ => ⟨n.toNat, by omega, by omega, H.1, rfl, rfl, fun _ => ⟨t, rfl, tB⟩⟩) t3 b3
      have x7 : (!(true == decide (n > 0))) = false := by rw [decide_eq_true (by omega)]; rfl
      repeat' first
        | exact Ev.now _
        | refine Ev.bind (by assumption) ?_
        | refine Ev.no (by first | rfl | assumption | exact neq_self _ | exact sb _) ?_
        | refine Ev.yes (by first | rfl | assumption) ?_
    · obtain ⟨m1, m2⟩ := mq fun q => h1 q.2.1
      have fin := counts_ev U X Y s tr f b ok V n _ true _ 0 false (fun _ => ⟨n.toNat, by omega, by omega, H.1, rfl, rfl, fun q => nomatch q⟩) t3 b3
      have x7 : (!(false == decide (n > 0))) = false := by rw [decide_eq_false (by omega)]; rfl
      repeat' first
        | exact Ev.now _
        | refine Ev.bind (by assumption) ?_
        | refine Ev.no (by first | rfl | assumption | exact neq_self _ | exact sb _) ?_
        | refine Ev.yes (by first | rfl | assumption) ?_
  · obtain ⟨p1, p2, p3, p4⟩ := q H
    obtain ⟨m1, m2⟩ := mq fun q => H ⟨q.1, by omega⟩
    have fin := counts_ev U X Y s tr f b ok V n [] false 0 0 false (fun q => nomatch q) t3 b3
    repeat' first
      | exact Ev.now _
      | refine Ev.bind (by assumption) ?_
      | refine Ev.no (by first | rfl | assumption | exact neq_self _ | exact sb _) ?_
      | refine Ev.yes (by first | rfl | assumption) ?_
section
variable (more : List Int) (W : Wo) (H : OkO W) (n : Nat) (h1 : 1 ≤ n) (h4 : n ≤ 4000) (hh : runO n W = W) (hmin : ∀ j, 1 ≤ j → j < n → ¬ runO j W = W)
include H h1 h4 hh hmin
theorem again_ev : Ev (fun k => laws_FnLoopsClose_c_c_c_c k (more, W, (n : Int), decide ((n : Int) > 1))) (.inr more) := by
  obtain ⟨r, f1, e1⟩ := betweenI_ev H H
  have hr : r = (0, true) := f1.one (.inl ⟨0, rfl, by omega, by omega, rfl, fun j h1 h2 => by omega⟩)
  subst hr
  have st := stepWI_ev H
  obtain ⟨s, f2, e2⟩ := betweenI_ev (step_ok W H) H
  have hs : s = (((n - 1 : Nat) : Int), true) := f2.one (.inl ⟨n - 1, rfl, by omega, by omega, by
    show runO (n - 1 + 1) W = W
    rw [show n - 1 + 1 = n by omega, hh], fun j h1 h2 q => hmin (j + 1) (by omega) (by omega) q⟩)
  subst hs
  have e9 : (((n - 1 : Nat) : Int) != w64 ((n : Int) - 1)) = false := by rw [w64_of (by omega) (by omega)]; exact bne_eq_false_iff_eq.2 (by omega)
  obtain ⟨rl, w, h, cs, x, y, wy⟩ := W
  by_cases hn : (n : Int) > 1
  · rw [decide_eq_true hn]
    exact Ev.step (fun k => laws_FnLoopsClose_c_c_c_c.eq k more rl w h cs x y wy n true) (Ev.yes rfl (Ev.bind e1 (Ev.bind st (Ev.bind e2 (Ev.no rfl (Ev.no rfl (Ev.no rfl (Ev.no rfl (Ev.no e9 (Ev.now _))))))))))
  · rw [decide_eq_false hn]
    exact Ev.step (fun k => laws_FnLoopsClose_c_c_c_c.eq k more rl w h cs x y wy n false) (Ev.no rfl (Ev.now _))
theorem each_l : ∀ m i : Nat, i + m = cellsO W → Ev (fun k => laws_FnLoopsClose_c_c_c_l k (more, W, (n : Int), nevF (cellsO W) (vF n W), (List.range (cellsO W)).map (vF n W), (cellsO W : Int), (i : Int))) (.inr (more, W, (n : Int))) := by
  have hz : cellsO W ≤ 81 := (okO_size H).2
  have := h1
  have := h4
  have := hmin
  intro m
  induction m with
  | zero =>
    intro i hi
    obtain ⟨rl, w, h, cs, x, y, wy⟩ := W
    exact Ev.step (fun k => laws_FnLoopsClose_c_c_c_l.eq k more rl w h cs x y wy n _ _ _ _) (Ev.no (not_lt_nat (by omega)) (Ev.now _))
  | succ m ih =>
    intro i hi
    have hiN : i < cellsO W := by omega
    have nx := ih (i + 1) (by omega)
    have hv := home_visits H hh hiN
    have nl := nev_len (cellsO W) (vF n W)
    obtain ⟨v, v1, v2⟩ := kHas_ev (nevF (cellsO W) (vF n W)) (by omega) (i : Int)
    have ev : v = (vF n W i == 0) := by
      rw [Bool.eq_iff_iff, v2, nev_mem hiN, beq_iff_eq]
    have hR := H.1.1
    have er := rg_get (vF n W) hiN
    have hin : inB (i : Int) ((List.range (cellsO W)).map (vF n W)).length = true := inB_nat (by rw [rg_len]; exact hiN)
    obtain ⟨rl, w, h, cs, x, y, wy⟩ := W
    refine Ev.step (fun k => laws_FnLoopsClose_c_c_c_l.eq k more rl w h cs x y wy n _ _ _ _) (Ev.yes (lt_nat hiN) (Ev.yes hin (Ev.yes (bne_iff_ne.2 (by show (rl.size : Int) ≠ 0; have hR : 1 ≤ rl.size ∧ rl.size ≤ 6 := hR; omega)) ?_)))
    rw [Int.toNat_natCast, er, w64_succ (by omega)]
    refine Ev.no (by rw [show (vF n (rl, w, h, cs, x, y, wy) i).tmod (rl.size : Int) = 0 from hv]; rfl) (Ev.bind v1 (Ev.no ?_ nx))
    rw [ev]
    cases (vF n (rl, w, h, cs, x, y, wy) i == 0) <;> rfl
theorem inner_ev : Ev (fun k => laws_FnLoopsClose_c_c_c k (more, W, (n : Int), nevF (cellsO W) (vF n W), decide ((n : Int) ≤ 3000))) (.inr more) := by
  have hz : cellsO W ≤ 81 := (okO_size H).2
  by_cases h3 : (n : Int) ≤ 3000
  · have af := afterI_ev H n (by omega)
    rw [hh] at af
    obtain ⟨p1, _, p3, _⟩ := (visitsAfter_ev W (by have := okO_size H; omega) (by have := okO_size H; omega) n).1 ⟨H, by omega⟩
    rw [Int.toNat_natCast] at p1 p3
    have su := vis_sum H n (by omega)
    have el := each_l more W H n h1 h4 hh hmin (cellsO W) 0 (by omega)
    have el : Ev (fun k => laws_FnLoopsClose_c_c_c_l k (more, W, (n : Int), nevF (cellsO W) (vF n W), (List.range (cellsO W)).map (vF n W), (((List.range (cellsO W)).map (vF n W)).length : Int), 0)) (.inr (more, W, (n : Int))) := by
      rw [rg_len]
      exact el
    have ag := again_ev more W H n h1 h4 hh hmin
    have nl := nev_len (cellsO W) (vF n W)
    have np := nev_pos (N := cellsO W) (g := vF n W) fun i => (vF_range n W i).1
    have e9 : (((((List.range (cellsO W)).filter fun i => decide (vF n W i > 0)).length : Nat) : Int) != w64 ((((List.range (cellsO W)).map (vF n W)).length : Int) - ((nevF (cellsO W) (vF n W)).length : Int))) = false := by
      rw [rg_len, w64_of (by omega) (by omega)]
      exact bne_eq_false_iff_eq.2 (by omega)
    have sm := (wo_iff W W).2 rfl
    rw [decide_eq_true h3]
    obtain ⟨rl, w, h, cs, x, y, wy⟩ := W
    exact Ev.step (fun k => laws_FnLoopsClose_c_c_c.eq k more rl w h cs x y wy n _ true) (Ev.yes rfl (Ev.bind af (Ev.bind p1 (Ev.bind p3 (Ev.no rfl (Ev.no (congrArg Bool.not sm) (Ev.no rfl (Ev.bind su (Ev.no (neq_self _) (Ev.no rfl (Ev.no e9 (Ev.bind el (Ev.bind ag (Ev.now _))))))))))))))
  · rw [decide_eq_false h3]
    obtain ⟨rl, w, h, cs, x, y, wy⟩ := W
    exact Ev.step (fun k => laws_FnLoopsClose_c_c_c.eq k more rl w h cs x y wy n _ false) (Ev.no rfl (Ev.now _))
end
theorem period_part (more : List Int) (hm : ∀ x ∈ more, 0 ≤ x ∧ x ≤ 255) (W : Wo) (P C : Int × Bool) (nv : List Int)
    (hP : P.2 = true → OkO W ∧ First (fun n => runO n W = W) 1 P ∧ First (Cov W) 1 C ∧ ∀ n : Nat, P = ((n : Int), true) → nv = nevF (cellsO W) (vF n W)) :
    Ev (fun k => laws_FnLoopsClose_c_c k (more, W, P.1, P.2, C.1, C.2, nv)) true := by
  have tl := tail more hm
  obtain ⟨p, ok⟩ := P
  obtain ⟨cv, five⟩ := C
  cases ok with
  | false =>
    obtain ⟨rl, w, h, cs, x, y, wy⟩ := W
    exact Ev.step (fun k => laws_FnLoopsClose_c_c.eq k more rl w h cs x y wy p false cv five nv) (Ev.no rfl (Ev.bind tl (Ev.now _)))
  | true =>
    obtain ⟨H, f1, f2, hnv⟩ := hP rfl
    rcases f1 with ⟨n, e, h1, h4, hh, hmin⟩ | ⟨e, _⟩
    rotate_left
    · exact Bool.noConfusion (congrArg Prod.snd e)
    have e : p = (n : Int) := congrArg Prod.fst e
    subst e
    have hnv := hnv n rfl
    subst hnv
    have cs1 := colourSumI_ev W H
    have inn := inner_ev more W H n h1 h4 hh hmin
    have hr := home_rule H hh
    have hR := H.1.1
    have hz : cellsO W ≤ 81 := (okO_size H).2
    have m0 := Int.emod_nonneg (dsum W.2.2.2.1.data.toList) (show (W.1.size : Int) ≠ 0 by omega)
    have m1 := Int.emod_lt_of_pos (dsum W.2.2.2.1.data.toList) (show 0 < (W.1.size : Int) by omega)
    have cov : (((nevF (cellsO W) (vF n W)).length : Int) == 0) = (five && decide (cv ≤ (n : Int))) := by
      rw [Bool.eq_iff_iff, beq_iff_eq]
      have hn0 : ((nevF (cellsO W) (vF n W)).length : Int) = 0 ↔ Cov W n := by rw [← nev_nil]; omega
      rw [hn0, Bool.and_eq_true, decide_eq_true_iff]
      rcases f2 with ⟨m, e, k1, k2, k3, k4⟩ | ⟨e, k⟩
      · have e1 : cv = (m : Int) := congrArg Prod.fst e
        have e2 : five = true := congrArg Prod.snd e
        rw [e1, e2]
        constructor
        · intro hc
          exact ⟨rfl, by
            have : ¬ n < m := fun q => k4 n h1 q hc
            omega⟩
        · rintro ⟨_, hle⟩
          exact k3.mono (by omega)
      · have e2 : five = false := congrArg Prod.snd e
        rw [e2]
        exact ⟨fun hc => absurd hc (k n h1 h4), fun q => nomatch q.1⟩
    have go : Ev (fun k => cond five (cond (!((((nevF (cellsO W) (vF n W)).length : Int) == 0) == (decide (cv ≤ (n : Int))))) (some false)
         ((laws_FnLoopsClose_c_c_c k (more, W, (n : Int), nevF (cellsO W) (vF n W), (decide ((n : Int) ≤ 3000)))).bind fun r2 => r2.elim (fun r3 => some r3) (fun r4 => (laws_FnLoopsClose_c_c_c_2 k r4).bind fun r5 => some r5)))
        (cond (!((((nevF (cellsO W) (vF n W)).length : Int) == 0) == false)) (some false)
         ((laws_FnLoopsClose_c_c_c k (more, W, (n : Int), nevF (cellsO W) (vF n W), (decide ((n : Int) ≤ 3000)))).bind fun r6 => r6.elim (fun r7 => some r7) (fun r8 => (laws_FnLoopsClose_c_c_c_2 k r8).bind fun r9 => some r9)))) true := by
      rw [cov]
      have fin := Ev.bind (h := fun k (r2 : Sum Bool (List Int)) => r2.elim (fun r3 => some r3) (fun r4 => (laws_FnLoopsClose_c_c_c_2 k r4).bind fun r5 => some r5)) inn (Ev.bind tl (Ev.now true))
      cases five with
      | true => exact Ev.yes rfl (Ev.no (by rw [Bool.true_and]; cases decide (cv ≤ (n : Int)) <;> rfl) fin)
      | false => exact Ev.no rfl (Ev.no rfl fin)
    obtain ⟨rl, w, h, cs, x, y, wy⟩ := W
    refine Ev.step (fun k => laws_FnLoopsClose_c_c.eq k more rl w h cs x y wy n true cv five _) (Ev.yes rfl (Ev.bind cs1 (Ev.no rfl (Ev.yes (bne_iff_ne.2 (by have hR : 1 ≤ rl.size ∧ rl.size ≤ 6 := hR; omega)) (Ev.no (by rw [show ((n : Int)).tmod (rl.size : Int) = 0 from hr]; rfl) (Ev.no (decide_eq_false ?_) (Ev.no (decide_eq_false ?_) go)))))))
    · show ¬ _ < (0 : Int)
      omega
    · show ¬ _ ≥ (rl.size : Int)
      have m1 : dsum cs.data.toList % (rl.size : Int) < (rl.size : Int) := m1
      show ¬ dsum cs.data.toList % (rl.size : Int) ≥ (rl.size : Int)
      omega
theorem main (code more : List Int) (h1 : code.length ≤ 9223372036854775807) (h2 : more.length ≤ 9223372036854775807) (hc : ∀ x ∈ code, 0 ≤ x ∧ x ≤ 255) (hm : ∀ x ∈ more, 0 ≤ x ∧ x ≤ 255) : ∃ k, laws_FnLoopsClose k (code, more) = some true := by
  refine Ev.rounds (Ev.step (fun k => laws_FnLoopsClose.eq k code more) ?_)
  obtain ⟨b, b1, b2⟩ := big_ev code more h1 h2
  refine Ev.bind b1 (Ev.cond (fun _ => Ev.now _) fun hb => ?_)
  have sb : ∀ b : Bool, (!(b == b)) = false := fun b => by cases b <;> rfl
  obtain ⟨W, d1, z1, z2⟩ := drawPeriod_ev code hc
  have ks0 : Ev (fun k => laws_kSame k (([] : List Int), ([] : List Int))) true := kSame_ev [] (by simp)
  by_cases H : OkO W
  rotate_left
  · obtain ⟨e1, e2, e3, e4, e5, e6, e7, e8, e9, e10⟩ := noL_ev W (by omega) (by omega) H
    have pp := period_part more hm W (0, false) (0, false) [] (fun q => nomatch q)
    have cc : Ev (fun k => laws_FnLoopsClose_c k (more, W, 0, false, 0, false, 0, 0, false, [])) true := by
      obtain ⟨rl, w, h, cs, x, y, wy⟩ := W
      exact Ev.step (fun k => laws_FnLoopsClose_c.eq k more rl w h cs x y wy 0 false 0 false 0 0 false []) (Ev.no rfl (Ev.bind pp (Ev.now _)))
    repeat' first
      | exact Ev.now _
      | refine Ev.bind (by assumption) ?_
      | refine Ev.no (by first | rfl | assumption | exact neq_self _ | exact sb _) ?_
      | refine Ev.yes (by first | rfl | assumption) ?_
  obtain ⟨P, f1, e1, e2, n1, n2⟩ := period_ev H
  obtain ⟨A, f2, e3, e4⟩ := ant_ev H
  obtain ⟨Hm, f3, e5, e6⟩ := home_ev H
  obtain ⟨C, f4, e7, e8⟩ := cover_ev H
  have hz : cellsO W ≤ 81 := (okO_size H).2
  obtain ⟨nv, o1, o2, o3, o4⟩ : ∃ nv : List Int, Ev (fun k => impl_NeverVisited k W) (nv, P.2) ∧ Ev (fun k => spec_NeverVisited k W) (nv, P.2) ∧ (∀ n : Nat, P = ((n : Int), true) → nv = nevF (cellsO W) (vF n W)) ∧ nv.length ≤ 1000 := by
    rcases f1 with ⟨n, rfl, _⟩ | ⟨rfl, _⟩
    · obtain ⟨a, b⟩ := n1 n rfl
      have := nev_len (cellsO W) (vF n W)
      exact ⟨_, a, b, fun m hm => by
        have hm : (n : Int) = (m : Int) := congrArg Prod.fst hm
        have hm : n = m := by omega
        rw [hm], by omega⟩
    · obtain ⟨a, b⟩ := n2 rfl
      exact ⟨[], a, b, fun m hm => Bool.noConfusion (congrArg Prod.snd hm), by simp⟩
  have ks := kSame_ev nv (by omega)
  have pp := period_part more hm W P C nv fun _ => ⟨H, f1, f4, o3⟩
  -- ants before worlds, homes before ants
  have hAH : A.2 = true → Hm.2 = true ∧ Hm.1 ≤ A.1 := fun q => by
    rcases f2 with ⟨a, rfl, a1, a2, a3, a4⟩ | ⟨rfl, _⟩
    · rcases f3 with ⟨m, rfl, m1, m2, m3, m4⟩ | ⟨rfl, m⟩
      · exact ⟨rfl, by
          have : ¬ a < m := fun q => m4 a a1 q a3.1
          show (m : Int) ≤ (a : Int)
          omega⟩
      · exact absurd a3.1 (m a a1 a2)
    · cases q
  have hPA : P.2 = true → A.2 = true ∧ A.1 ≤ P.1 := fun q => by
    rcases f1 with ⟨n, rfl, k1, k2, k3, k4⟩ | ⟨rfl, _⟩
    · have pa : locO (runO n W) = locO W ∧ (runO n W).2.2.2.2.2.2 = W.2.2.2.2.2.2 := by rw [k3]; exact ⟨rfl, rfl⟩
      rcases f2 with ⟨a, rfl, a1, a2, a3, a4⟩ | ⟨rfl, a⟩
      · exact ⟨rfl, by
          have : ¬ n < a := fun q => a4 n k1 q pa
          show (a : Int) ≤ (n : Int)
          omega⟩
      · exact absurd pa (a n k1 k2)
    · cases q
  obtain ⟨p, ok⟩ := P
  obtain ⟨a, one⟩ := A
  obtain ⟨hm', three⟩ := Hm
  obtain ⟨cv, five⟩ := C
  simp only at hAH hPA
  have cc : Ev (fun k => laws_FnLoopsClose_c k (more, W, p, ok, a, one, hm', cv, five, nv)) true := by
    obtain ⟨rl, w, h, cs, x, y, wy⟩ := W
    refine Ev.step (fun k => laws_FnLoopsClose_c.eq k more rl w h cs x y wy p ok a one hm' cv five nv) ?_
    cases one with
    | false => exact Ev.no rfl (Ev.bind pp (Ev.now _))
    | true =>
      have h1 := (hAH rfl).2
      refine Ev.yes rfl (Ev.no (decide_eq_false (by omega)) ?_)
      cases ok with
      | false => exact Ev.no rfl (Ev.bind pp (Ev.now _))
      | true =>
        have h2 := (hPA rfl).2
        exact Ev.yes rfl (Ev.no (decide_eq_false (by omega)) (Ev.bind pp (Ev.now _)))
  cases ok with
  | true =>
    obtain rfl := (hPA rfl).1
    obtain rfl := (hAH rfl).1
    repeat' first
      | exact Ev.now _
      | refine Ev.bind (by assumption) ?_
      | refine Ev.no (by first | rfl | assumption | exact neq_self _ | exact sb _) ?_
      | refine Ev.yes (by first | rfl | assumption) ?_
  | false =>
    cases one with
    | true =>
      obtain rfl := (hAH rfl).1
      repeat' first
        | exact Ev.now _
        | refine Ev.bind (by assumption) ?_
        | refine Ev.no (by first | rfl | assumption | exact neq_self _ | exact sb _) ?_
        | refine Ev.yes (by first | rfl | assumption) ?_
    | false =>
      repeat' first
        | exact Ev.now _
        | refine Ev.bind (by assumption) ?_
        | refine Ev.no (by first | rfl | assumption | exact neq_self _ | exact sb _) ?_
        | refine Ev.yes (by first | rfl | assumption) ?_
theorem pure : ∀ d : Dl laws_FnLoopsClose.ins, goodL laws_FnLoopsClose.ins d → ∃ k, laws_FnLoopsClose k d = some true := by
  rintro ⟨code, more⟩ ⟨hg1, hg2⟩
  exact main code more hg1.1 hg2.1 (fun x hx => good8 (hg1.2 x hx)) (fun x hx => good8 (hg2.2 x hx))
end Go.Proofs.YtplamonjnlgomaaGreatDoor.fnLoopsClose
