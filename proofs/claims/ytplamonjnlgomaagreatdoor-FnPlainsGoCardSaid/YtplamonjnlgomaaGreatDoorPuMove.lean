/- Plains in other cells: sorted spots; the laws' marks. -/
import Derived.Test.YtplamonjnlgomaaGreatDoorPuPlain2
import Derived.Test.YtplamonjnlgomaaGreatDoorSimSo
namespace Go.Proofs.YtplamonjnlgomaaGreatDoorS
open Go Go.Sort
set_option linter.unusedVariables false
set_option linter.unusedSimpArgs false

theorem Less.asymm {a b : Sp} (h : Less a b) (h' : Less b a) : False := by unfold Less at h h'; omega
theorem less_unique : ∀ (l m : List Sp), l.Pairwise Less → m.Pairwise Less → l.Perm m → l = m
  | [], m, _, _, p => p.nil_eq
  | a :: l, m, h, h', p => by
    cases m with
    | nil => exact absurd p.eq_nil (by simp)
    | cons b m =>
      obtain ⟨h1, h2⟩ := List.pairwise_cons.1 h
      obtain ⟨h3, h4⟩ := List.pairwise_cons.1 h'
      have e : a = b := by
        have ha : a ∈ b :: m := p.mem_iff.1 (by simp)
        have hb : b ∈ a :: l := p.mem_iff.2 (by simp)
        rcases List.mem_cons.1 ha with ha | ha
        · exact ha
        · rcases List.mem_cons.1 hb with hb | hb
          · exact hb.symm
          · exact ((h1 b hb).asymm (h3 a ha)).elim
      subst e
      rw [less_unique l m h2 h4 p.cons_inv]
def cellOf (s : Sp) : Pt := (s.1, s.2.1)
theorem near_less {a b : Sp} (ha : nearS a = true) (hb : nearS b = true) : cmpS a b < 0 ↔ Less a b := nearS_lt ha hb
/-- Sorted spots of different cells. -/
theorem sortB_sorted (L : List Sp) (hn : ∀ x ∈ L, nearS x = true) (hl : L.length < 4611686018427387904) (hk : (L.map cellOf).Nodup) : ∃ S, sortB (s := (.pair (.int .i64) (.pair (.int .i64) (.int .i64)))) nearS nearS0 cmpS L = some S ∧ S.Perm L ∧ S.Pairwise Less := by
  letI : Inhabited { x : Sp // nearS x = true } := ⟨nearS0⟩
  obtain ⟨l', hl'⟩ : ∃ l' : List { x : Sp // nearS x = true }, l' = L.attachWith (fun x => nearS x = true) hn := ⟨_, rfl⟩
  have el : l'.map Subtype.val = L := by rw [hl']; exact List.attachWith_map_subtype_val hn
  obtain ⟨p1, p2⟩ := sortL_perm nearS_swo l'
  refine ⟨(sortL (fun a b : { x : Sp // nearS x = true } => cmpS a.1 b.1) l').map Subtype.val, ?_, ?_, ?_⟩
  · unfold sortB
    rw [dif_pos ⟨hn, hl⟩, hl']
    rfl
  · rw [← el]
    exact p1.map _
  · have q1 : ((sortL (fun a b : { x : Sp // nearS x = true } => cmpS a.1 b.1) l').map Subtype.val).Pairwise (fun x y => ¬ Less y x) := by
      rw [List.pairwise_map]
      refine p2.imp fun {a b} h => ?_
      intro hlt
      exact of_decide_eq_false h ((near_less b.2 a.2).2 hlt)
    have q2 : ((sortL (fun a b : { x : Sp // nearS x = true } => cmpS a.1 b.1) l').map Subtype.val).Pairwise (fun x y => cellOf x ≠ cellOf y) := by
      have := (p1.map Subtype.val).map cellOf
      rw [el] at this
      have := this.nodup_iff.2 hk
      exact List.pairwise_map.1 this
    refine (q1.and q2).imp fun {a b} h => ?_
    refine less_total h.1 fun e => h.2 ?_
    exact Prod.ext e.1.symm e.2.symm
/-! ### Cells moved -/
def img (f : Int → Int → Pt) (s : Sp) : Sp := ((f s.1 s.2.1).1, ((f s.1 s.2.1).2, s.2.2))
structure Moves (f : Int → Int → Pt) : Prop where
  inj : ∀ a b c d, f a b = f c d → a = c ∧ b = d
  near : ∀ a b, Far a → Far b → (-2000 ≤ (f a b).1 ∧ (f a b).1 ≤ 2000) ∧ (-2000 ≤ (f a b).2 ∧ (f a b).2 ≤ 2000)
theorem img_cell (f : Int → Int → Pt) (s : Sp) : cellOf (img f s) = f s.1 s.2.1 := rfl
theorem Moves.nodup {f : Int → Int → Pt} (M : Moves f) {sp : List Sp} (h : sp.Pairwise Less) : ((sp.map (img f)).map cellOf).Nodup := by
  rw [List.map_map]
  unfold List.Nodup
  rw [List.pairwise_map]
  refine h.imp fun {a b} hl e => ?_
  exact hl.ne (M.inj _ _ _ _ e)
theorem Moves.nearS {f : Int → Int → Pt} (M : Moves f) {sp : List Sp} (h : ∀ s ∈ sp, Far s.1 ∧ Far s.2.1) : ∀ x ∈ sp.map (img f), nearS x = true := fun x hx => by
  obtain ⟨s, hs, rfl⟩ := List.mem_map.1 hx
  obtain ⟨h1, h2⟩ := h s hs
  have := M.near _ _ h1 h2
  exact decide_eq_true ⟨⟨by show _ ≤ (f s.1 s.2.1).1; omega, by show (f s.1 s.2.1).1 ≤ _; omega⟩, ⟨by show _ ≤ (f s.1 s.2.1).2; omega, by show (f s.1 s.2.1).2 ≤ _; omega⟩⟩
theorem img_ok {f : Int → Int → Pt} {sp T : List Sp} {t : Int} (h : ∀ s ∈ sp, 1 ≤ s.2.2 ∧ s.2.2 ≤ t - 1) (hp : T.Perm (sp.map (img f))) : ∀ s ∈ T, 1 ≤ s.2.2 ∧ s.2.2 ≤ t - 1 := fun s hs => by
  obtain ⟨q, hq, rfl⟩ := List.mem_map.1 (hp.mem_iff.1 hs)
  exact h q hq
end Go.Proofs.YtplamonjnlgomaaGreatDoorS
