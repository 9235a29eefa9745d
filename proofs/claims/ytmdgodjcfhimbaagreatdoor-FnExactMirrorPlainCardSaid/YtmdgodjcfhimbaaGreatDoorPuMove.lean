/- Plains in other cells: sorted spots; the laws' marks. -/
import Derived.Test.YtmdgodjcfhimbaaGreatDoorPuPlain2
import Derived.Test.YtmdgodjcfhimbaaGreatDoorSimSo
namespace Go.Proofs.YtmdgodjcfhimbaaGreatDoorS
open Go Go.Sort
set_option linter.unusedVariables false
set_option linter.unusedSimpArgs false
theorem markHeldP_ev (rl : ByteArray) (a : List Sp) (x y wy : Int) (hl : a.length ≤ 1048576) : ∃ M, Ev (fun k => laws_markPlain k ((rl, a, x, y, wy), 1)) (1 + 3 * (a.length : Int), (rl, M, x, y, wy)) ∧ Ev (fun k => laws_heldPlain k ((rl, M, x, y, wy), 1)) (1 + 3 * (a.length : Int)) := by
  have loop : ∀ (m i : Nat) (b : List Sp), i + m = b.length → b.length ≤ 1048576 → ∃ M, Ev (fun k => laws_markSpotS_l k (b, 1 + 3 * (i : Int), (i : Int), ())) (1 + 3 * (b.length : Int), M) ∧ M.length = b.length ∧ (∀ j, j < i → M[j]? = b[j]?) ∧ ∀ j : Nat, i ≤ j → j < b.length → M[j]? = some (1 + 3 * (j : Int), 2 + 3 * (j : Int), 3 + 3 * (j : Int)) := by
    intro m
    induction m with
    | zero => intro i b h hl; exact ⟨b, Ev.step (fun k => laws_markSpotS_l.eq k b _ i) (Ev.no (not_lt_nat (by omega)) (Ev.now' (by rw [show i = b.length by omega]))), rfl, fun _ _ => rfl, fun j h1 h2 => by omega⟩
    | succ m ih =>
      intro i b h hl
      have e1 : w64 (1 + 3 * (i : Int) + 1) = 2 + 3 * (i : Int) := by rw [w64_of (by omega) (by omega)]; omega
      have e2 : w64 (2 + 3 * (i : Int) + 1) = 3 + 3 * (i : Int) := by rw [w64_of (by omega) (by omega)]; omega
      have e3 : w64 (3 + 3 * (i : Int) + 1) = 1 + 3 * ((i + 1 : Nat) : Int) := by rw [w64_of (by omega) (by omega)]; omega
      have hi : i < b.length := by omega
      have g1 : ∀ z : Sp, (b.set i z).getD i default = z := fun _ => getD_at (by rw [List.getElem?_set_self hi])
      obtain ⟨M, hM, hL, h1, h2⟩ := ih (i + 1) (b.set i (1 + 3 * (i : Int), 2 + 3 * (i : Int), 3 + 3 * (i : Int))) (by rw [List.length_set]; omega) (by rw [List.length_set]; exact hl)
      rw [List.length_set] at hM hL h2
      refine ⟨M, Ev.step (fun k => laws_markSpotS_l.eq k b _ i) (Ev.yes (lt_nat (by omega)) (Ev.yes (inB_nat (by omega)) ?_)), hL, fun j hj => ?_, fun j hj1 hj2 => ?_⟩
      · simp only [Int.toNat_natCast, List.set_set, g1, e1, e2, e3]
        refine Ev.yes (inB_nat (by rw [List.length_set]; omega)) (Ev.yes (inB_nat (by rw [List.length_set]; omega)) ?_)
        rw [w64_succ (by omega)]
        exact hM
      · rw [h1 j (by omega), List.getElem?_set, if_neg (by omega)]
      · by_cases e : j = i
        · subst e
          rw [h1 j (by omega), List.getElem?_set, if_pos rfl, if_pos hi]
        · exact h2 j (by omega) hj2
  obtain ⟨M, hM, hL, _, h2⟩ := loop a.length 0 a (by omega) hl
  have held : ∀ (m i : Nat), i + m = M.length → Ev (fun k => laws_heldSpotS_l k (M, 1 + 3 * (i : Int), (i : Int))) (.inr (1 + 3 * (M.length : Int))) := by
    intro m
    induction m with
    | zero => intro i h; exact Ev.step (fun k => laws_heldSpotS_l.eq k M _ i) (Ev.no (not_lt_nat (by omega)) (Ev.now' (by rw [show i = M.length by omega])))
    | succ m ih =>
      intro i h
      have hx := h2 i (Nat.zero_le _) (by omega)
      have e1 : w64 (1 + 3 * (i : Int) + 1) = 2 + 3 * (i : Int) := by rw [w64_of (by omega) (by omega)]; omega
      have e2 : w64 (2 + 3 * (i : Int) + 1) = 3 + 3 * (i : Int) := by rw [w64_of (by omega) (by omega)]; omega
      have e3 : w64 (3 + 3 * (i : Int) + 1) = 1 + 3 * ((i + 1 : Nat) : Int) := by rw [w64_of (by omega) (by omega)]; omega
      refine Ev.step (fun k => laws_heldSpotS_l.eq k M _ i) (Ev.yes (lt_nat (by omega)) (Ev.yes (inB_nat (by omega)) ?_))
      rw [Int.toNat_natCast, getD_at hx, e1, e2, e3, w64_succ (by omega)]
      exact Ev.no (neq_self _) (Ev.yes (inB_nat (by omega)) (Ev.no (neq_self _) (Ev.yes (inB_nat (by omega)) (Ev.no (neq_self _) (ih (i + 1) (by omega))))))
  have h0 := held M.length 0 (by omega)
  rw [hL] at h0
  have n0 : decide (1 + 3 * (a.length : Int) < 0) = false := decide_eq_false (by omega)
  exact ⟨M, Ev.step (fun k => laws_markPlain.eq k rl a x y wy 1) (Ev.bind (Ev.step (fun k => laws_markSpotS.eq k a 1) (Ev.bind hM (Ev.now _))) (Ev.now _)),
    Ev.step (fun k => laws_heldPlain.eq k rl M x y wy 1) (Ev.bind (Ev.step (fun k => laws_heldSpotS.eq k M 1) (Ev.bind h0 (Ev.now _))) (Ev.no n0 (Ev.now _)))⟩

theorem Less.asymm {a b : Sp} (h : Less a b) (h' : Less b a) : False := by unfold Less at h h'; omega
theorem less_unique : ∀ (l m : List Sp), l.Pairwise Less → m.Pairwise Less → l.Perm m → l = m
  | [], m, _, _, p => p.nil_eq
  | a :: l, m, h, h', p => by
    cases m with
    | nil => exact absurd p.eq_nil (by simp)
    | cons b m =>
      obtain ⟨h1, h2⟩ := List.pairwise_cons.1 h
      obtain ⟨h3, h4⟩ := List.pairwise_cons.1 h'
      have e : a = b := by
        have ha : a ∈ b :: m := p.mem_iff.1 (by simp)
        have hb : b ∈ a :: l := p.mem_iff.2 (by simp)
        rcases List.mem_cons.1 ha with ha | ha
        · exact ha
        · rcases List.mem_cons.1 hb with hb | hb
          · exact hb.symm
          · exact ((h1 b hb).asymm (h3 a ha)).elim
      subst e
      rw [less_unique l m h2 h4 p.cons_inv]
def cellOf (s : Sp) : Pt := (s.1, s.2.1)
theorem near_less {a b : Sp} (ha : nearS a = true) (hb : nearS b = true) : cmpS a b < 0 ↔ Less a b := nearS_lt ha hb
/-- Sorted spots of different cells. -/
theorem sortB_sorted (L : List Sp) (hn : ∀ x ∈ L, nearS x = true) (hl : L.length < 4611686018427387904) (hk : (L.map cellOf).Nodup) : ∃ S, sortB (s := (.pair (.int .i64) (.pair (.int .i64) (.int .i64)))) nearS nearS0 cmpS L = some S ∧ S.Perm L ∧ S.Pairwise Less := by
  letI : Inhabited { x : Sp // nearS x = true } := ⟨nearS0⟩
  obtain ⟨l', hl'⟩ : ∃ l' : List { x : Sp // nearS x = true }, l' = L.attachWith (fun x => nearS x = true) hn := ⟨_, rfl⟩
  have el : l'.map Subtype.val = L := by rw [hl']; exact List.attachWith_map_subtype_val hn
  obtain ⟨p1, p2⟩ := sortL_perm nearS_swo l'
  refine ⟨(sortL (fun a b : { x : Sp // nearS x = true } => cmpS a.1 b.1) l').map Subtype.val, ?_, ?_, ?_⟩
  · unfold sortB
    rw [dif_pos ⟨hn, hl⟩, hl']
    rfl
  · rw [← el]
    exact p1.map _
  · have q1 : ((sortL (fun a b : { x : Sp // nearS x = true } => cmpS a.1 b.1) l').map Subtype.val).Pairwise (fun x y => ¬ Less y x) := by
      rw [List.pairwise_map]
      refine p2.imp fun {a b} h => ?_
      intro hlt
      exact of_decide_eq_false h ((near_less b.2 a.2).2 hlt)
    have q2 : ((sortL (fun a b : { x : Sp // nearS x = true } => cmpS a.1 b.1) l').map Subtype.val).Pairwise (fun x y => cellOf x ≠ cellOf y) := by
      have := (p1.map Subtype.val).map cellOf
      rw [el] at this
      have := this.nodup_iff.2 hk
      exact List.pairwise_map.1 this
    refine (q1.and q2).imp fun {a b} h => ?_
    refine less_total h.1 fun e => h.2 ?_
    exact Prod.ext e.1.symm e.2.symm
/-! ### Cells moved -/
def img (f : Int → Int → Pt) (s : Sp) : Sp := ((f s.1 s.2.1).1, ((f s.1 s.2.1).2, s.2.2))
structure Moves (f : Int → Int → Pt) : Prop where
  inj : ∀ a b c d, f a b = f c d → a = c ∧ b = d
  near : ∀ a b, Far a → Far b → (-2000 ≤ (f a b).1 ∧ (f a b).1 ≤ 2000) ∧ (-2000 ≤ (f a b).2 ∧ (f a b).2 ≤ 2000)
theorem img_cell (f : Int → Int → Pt) (s : Sp) : cellOf (img f s) = f s.1 s.2.1 := rfl
theorem Moves.nodup {f : Int → Int → Pt} (M : Moves f) {sp : List Sp} (h : sp.Pairwise Less) : ((sp.map (img f)).map cellOf).Nodup := by
  rw [List.map_map]
  unfold List.Nodup
  rw [List.pairwise_map]
  refine h.imp fun {a b} hl e => ?_
  exact hl.ne (M.inj _ _ _ _ e)
theorem Moves.nearS {f : Int → Int → Pt} (M : Moves f) {sp : List Sp} (h : ∀ s ∈ sp, Far s.1 ∧ Far s.2.1) : ∀ x ∈ sp.map (img f), nearS x = true := fun x hx => by
  obtain ⟨s, hs, rfl⟩ := List.mem_map.1 hx
  obtain ⟨h1, h2⟩ := h s hs
  have := M.near _ _ h1 h2
  exact decide_eq_true ⟨⟨by show _ ≤ (f s.1 s.2.1).1; omega, by show (f s.1 s.2.1).1 ≤ _; omega⟩, ⟨by show _ ≤ (f s.1 s.2.1).2; omega, by show (f s.1 s.2.1).2 ≤ _; omega⟩⟩
theorem sorted_ev {f : Int → Int → Pt} (M : Moves f) {sp : List Sp} (h : sp.Pairwise Less) (hl : sp.length ≤ 300) (hf : ∀ s ∈ sp, Far s.1 ∧ Far s.2.1) {T : List Sp} (hT : T.Pairwise Less) (hp : T.Perm (sp.map (img f))) : Ev (fun k => slices_SortFunc k (sp.map (img f), ())) ((), T) := by
  obtain ⟨S, h1, h2, h3⟩ := sortB_sorted (sp.map (img f)) (M.nearS hf) (by rw [List.length_map]; omega) (M.nodup h)
  obtain rfl := less_unique S T h3 hT (h2.trans hp.symm)
  refine Ev.step (fun k => (slices_SortFunc.eq k (sp.map (img f), ())).trans (?_ : _ = some ((), S))) (Ev.now _)
  show (sortB (s := (.pair (.int .i64) (.pair (.int .i64) (.int .i64)))) nearS nearS0 cmpS (sp.map (img f))).map (fun r => ((), r)) = _
  exact congrArg (Option.map fun r => ((), r)) h1
theorem enMap_l_ev (rl : ByteArray) (sp : List Sp) (x y wy : Int) (b0 b1 b2 b3 b4 b5 : Int) {f : Int → Int → Pt} (M : Moves f) (hf : ∀ a b, Far a → Far b → (w64 (w64 (w64 (b0 * a) + w64 (b1 * b)) + b4), w64 (w64 (w64 (b2 * a) + w64 (b3 * b)) + b5)) = f a b) (h : sp.Pairwise Less) (hl : sp.length ≤ 300) (hF : ∀ s ∈ sp, (Far s.1 ∧ Far s.2.1) ∧ 1 ≤ s.2.2) (Z : ByteArray × List Sp × Int × Int × Int) (X Y : Int) :
    ∀ (m i : Nat) (T : List Sp), i + m = sp.length → T.Pairwise Less → T.Perm ((sp.take i).map (img f)) → ∃ T', T'.Pairwise Less ∧ T'.Perm (sp.map (img f)) ∧ Ev (fun k => spec_enMap_l k ((rl, sp, x, y, wy), (b0, b1, b2, b3, b4, b5), Z, (rl, T, X, Y, wy), (), (sp.length : Int), (i : Int))) ((rl, sp, x, y, wy), (b0, b1, b2, b3, b4, b5), Z, (rl, T', X, Y, wy))
  | 0, i, T, hi, hT, hp => ⟨T, hT, by rwa [List.take_of_length_le (by omega)] at hp, Ev.step (fun k => spec_enMap_l.eq k rl sp x y wy b0 b1 b2 b3 b4 b5 Z.1 Z.2.1 Z.2.2.1 Z.2.2.2.1 Z.2.2.2.2 rl T X Y wy _ _) (Ev.no (not_lt_nat (by omega)) (Ev.now _))⟩
  | m + 1, i, T, hi, hT, hp => by
    obtain ⟨s, hs⟩ := nat_list (l := sp) (i := i) (by omega)
    have hsm := List.mem_of_getElem? hs
    obtain ⟨⟨f1, f2⟩, f3⟩ := hF s hsm
    have e := hf s.1 s.2.1 f1 f2
    have ea : w64 (w64 (w64 (b0 * s.1) + w64 (b1 * s.2.1)) + b4) = (f s.1 s.2.1).1 := congrArg Prod.fst e
    have eb : w64 (w64 (w64 (b2 * s.1) + w64 (b3 * s.2.1)) + b5) = (f s.1 s.2.1).2 := congrArg Prod.snd e
    have hTl : T.length = i := by rw [hp.length_eq, List.length_map, List.length_take]; omega
    obtain ⟨A, B, rfl, C⟩ := cut_ex (f s.1 s.2.1).1 (f s.1 s.2.1).2 hT
    have hno : isAt (f s.1 s.2.1).1 (f s.1 s.2.1).2 B = false := by
      cases hb : isAt (f s.1 s.2.1).1 (f s.1 s.2.1).2 B with
      | false => rfl
      | true =>
        exfalso
        cases B with
        | nil => cases hb
        | cons q B =>
          rw [isAt_cons, Bool.and_eq_true, beq_iff_eq, beq_iff_eq] at hb
          have hq : q ∈ (sp.take i).map (img f) := hp.mem_iff.1 (by simp)
          obtain ⟨s', hs', rfl⟩ := List.mem_map.1 hq
          obtain ⟨j, hj⟩ := List.mem_iff_getElem?.1 hs'
          rw [List.getElem?_take] at hj
          split at hj
          · rename_i hji
            have := adj_pairwise h hj hs hji
            exact this.ne (M.inj _ _ _ _ (Prod.ext hb.1 hb.2))
          · cases hj
    have hrest : restB (f s.1 s.2.1).1 (f s.1 s.2.1).2 B = B := by unfold restB; rw [hno, if_neg (by simp)]
    have hpaint : paintL (f s.1 s.2.1).1 (f s.1 s.2.1).2 s.2.2 A B = A ++ (img f s :: B) := by
      unfold paintL
      rw [hrest, if_pos (by omega)]
      rfl
    have hR := C.rest
    rw [hrest] at hR
    obtain ⟨s1, s2, s3⟩ := List.pairwise_append.1 C.srt
    have lo : ∀ q ∈ A, Less q (img f s) := fun q hq => (C.lo q hq).key rfl rfl
    have hi' : ∀ q ∈ B, Less (img f s) q := fun q hq => by
      have := hR q hq
      unfold Less at this ⊢
      exact this
    have srt : (A ++ (img f s :: B)).Pairwise Less := List.pairwise_append.2 ⟨s1, List.pairwise_cons.2 ⟨hi', s2⟩, fun a ha b hb => by
      rcases List.mem_cons.1 hb with rfl | hb
      · exact lo a ha
      · exact s3 a ha b hb⟩
    have hp' : (A ++ (img f s :: B)).Perm ((sp.take (i + 1)).map (img f)) := by
      rw [take_next' hs, List.map_append]
      exact List.perm_middle.trans ((List.Perm.cons _ hp).trans (List.perm_append_comm (l₁ := [img f s])))
    obtain ⟨T', t1, t2, t3⟩ := enMap_l_ev rl sp x y wy b0 b1 b2 b3 b4 b5 M hf h hl hF Z X Y m (i + 1) _ (by omega) srt hp'
    refine ⟨T', t1, t2, Ev.step (fun k => spec_enMap_l.eq k rl sp x y wy b0 b1 b2 b3 b4 b5 Z.1 Z.2.1 Z.2.2.1 Z.2.2.2.1 Z.2.2.2.2 rl (A ++ B) X Y wy _ _) (Ev.yes (lt_nat (by omega)) (Ev.yes (inB_nat (by omega)) ?_))⟩
    rw [Int.toNat_natCast, getD_at hs, ea, eb, w64_succ (by omega)]
    have hq := enPaint_ev C (by rw [hTl]; omega) s.2.2
    rw [hpaint] at hq
    exact Ev.bind hq t3
theorem img_ok {f : Int → Int → Pt} {sp T : List Sp} {t : Int} (h : ∀ s ∈ sp, 1 ≤ s.2.2 ∧ s.2.2 ≤ t - 1) (hp : T.Perm (sp.map (img f))) : ∀ s ∈ T, 1 ≤ s.2.2 ∧ s.2.2 ≤ t - 1 := fun s hs => by
  obtain ⟨q, hq, rfl⟩ := List.mem_map.1 (hp.mem_iff.1 hs)
  exact h q hq
end Go.Proofs.YtmdgodjcfhimbaaGreatDoorS
