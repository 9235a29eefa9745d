/- The caller's objects and the callee's, put together after a call. -/
import Derived.Test.YtiaagflfiphioaaDoorSimN
namespace Go.Proofs.YtiaagflfiphioaaDoorS
open Go
set_option linter.unusedVariables false
set_option linter.unusedSimpArgs false

def noOwn : AObj → AObj
  | .dead => .dead
  | .cell _ k n c => .cell false k n c
  | .row _ s xs => .row false s xs
  | .blob _ t d => .blob false t d
def NewAt (ρx ρ' : Rho) : AObj → AObj → Prop
  | .row own s xs, o' => o' = .row own s xs
  | .blob own t d, o' => o' = .blob own t d ∧ t.free = true
  | .cell own k n c, o' => ∃ c', o' = .cell own k n c' ∧ (∀ v, CRel ρx c v → CRel ρ' c' v) ∧ (c ≠ .unk → c' ≠ .unk)
  | .dead, o' => o' = .dead
theorem NewAt.live {ρx ρ' : Rho} {o o' : AObj} (h : NewAt ρx ρ' o o') : o'.live = o.live := by
  cases o with
  | dead => rw [show o' = .dead from h]
  | row => rw [show o' = _ from h]
  | blob => rw [show o' = _ from h.1]
  | cell own k n c => obtain ⟨c', e, _⟩ := h; rw [e]; rfl
theorem NewAt.own {ρx ρ' : Rho} {o o' : AObj} (h : NewAt ρx ρ' o o') : o'.own = o.own := by
  cases o with
  | dead => rw [show o' = .dead from h]
  | row => rw [show o' = _ from h]
  | blob => rw [show o' = _ from h.1]
  | cell own k n c => obtain ⟨c', e, _⟩ := h; rw [e]; rfl
theorem NewAt.orel {ρx ρ' : Rho} {o o' : AObj} {w : World} {h : Option Value} (g : NewAt ρx ρ' o o') (r : ORel ρx w o h) : ORel ρ' w o' h := by
  cases o with
  | dead => rw [show o' = .dead from g]; trivial
  | row => rw [show o' = _ from g]; exact r
  | blob own t d =>
    obtain ⟨e, hf⟩ := g
    obtain ⟨hd, e2, hr⟩ := r
    rw [e]
    exact ⟨hd, e2, hr.weak id hf⟩
  | cell own k n c =>
    obtain ⟨c', e, hc, hk⟩ := g
    obtain ⟨hd, e2, hr⟩ := r
    obtain ⟨b, o, cs, el, fz, v, _, _, _, _, hk2, _⟩ := id hr
    rw [e]
    exact ⟨hd, e2, hr.weak id hc (hk hk2)⟩
/-- An object all of whose blocks are owned; one of which some part may be. -/
def AObj.whole : AObj → Bool
  | .dead => true | .cell o _ _ _ => o | .row o _ _ => o | .blob o t _ => o && t.whole
def AObj.raw : AObj → Bool
  | .dead => false | .cell o _ _ _ => o | .row o _ _ => o | .blob o _ _ => o
theorem whole_fpw {o : AObj} (ho : o.whole = true) {h : Option Value} {w : World} {b : Nat} (hf : fp o h w b) : fpw o h w b := by
  cases o with
  | dead => exact hf.elim
  | cell => exact ⟨ho, hf⟩
  | row => exact ⟨ho, hf⟩
  | blob own t d =>
    have ho : (own && t.whole) = true := ho
    rw [Bool.and_eq_true] at ho
    obtain ⟨h1, h2⟩ := ho
    have hp : t.prim = true := by cases t <;> simp_all [BT.whole, BT.prim]
    rcases hf with hf | ⟨hd, e, hf⟩
    · exact .inl ⟨by rw [h1, hp]; rfl, hf⟩
    · refine .inr ⟨?_, hd, e, hf⟩
      obtain ⟨k, v, _, hm, _⟩ := hf
      cases t <;> simp_all [BT.whole, BT.deep, BT.mine]
theorem fpw_raw {o : AObj} {h : Option Value} {w : World} {b : Nat} (hf : fpw o h w b) : o.raw = true := by
  cases o with
  | dead => simp [fpw, AObj.own] at hf
  | cell => exact hf.1
  | row => exact hf.1
  | blob own t d =>
    rcases hf with hf | hf
    · have := hf.1; rw [Bool.and_eq_true] at this; exact this.1
    · have := hf.1; rw [Bool.and_eq_true] at this; exact this.1
theorem NewAt.fp {ρx ρ' : Rho} {o o' : AObj} (g : NewAt ρx ρ' o o') {h : Option Value} {w : World} {b : Nat} : (Go.Proofs.YtiaagflfiphioaaDoorS.fp o' h w b ↔ Go.Proofs.YtiaagflfiphioaaDoorS.fp o h w b) ∧ (fpw o' h w b ↔ fpw o h w b) := by
  cases o with
  | dead => rw [show o' = .dead from g]; exact ⟨Iff.rfl, Iff.rfl⟩
  | row => rw [show o' = _ from g]; exact ⟨Iff.rfl, Iff.rfl⟩
  | blob => rw [show o' = _ from g.1]; exact ⟨Iff.rfl, Iff.rfl⟩
  | cell own k n c => obtain ⟨c', e, _⟩ := g; rw [e]; exact ⟨Iff.rfl, Iff.rfl⟩
theorem noOwn_fp {o : AObj} {h : Option Value} {w : World} {b : Nat} : (fp (noOwn o) h w b ↔ fp o h w b) ∧ ¬ fpw (noOwn o) h w b := by
  cases o with
  | dead => exact ⟨Iff.rfl, fun e => by have := fpw_raw e; cases this⟩
  | row => exact ⟨Iff.rfl, fun e => by have := fpw_raw e; cases this⟩
  | blob => exact ⟨Iff.rfl, fun e => by have := fpw_raw e; cases this⟩
  | cell => exact ⟨Iff.rfl, fun e => by have := fpw_raw e; cases this⟩
theorem noOwn_raw (o : AObj) : (noOwn o).raw = false := by cases o <;> rfl
theorem noOwn_own (o : AObj) : (noOwn o).own = false := by cases o <;> rfl
theorem noOwn_live (o : AObj) : (noOwn o).live = o.live := by cases o <;> rfl
theorem BlobRel.less {ρ : Rho} {o : Bool} {t : BT} {d : t.D} {hd : Value} {w : World} (h : BlobRel ρ o t d hd w) : BlobRel ρ false t d hd w := by
  cases t with
  | hole oo s =>
    obtain ⟨p, q, r, z⟩ := h
    exact ⟨p.weak (fun e => by simp at e), q.weak (fun e => by cases e), (fun e => by cases e), z⟩
  | iter => exact h
  | map => exact h
  | rows => exact h.weak (fun e => by cases e) rfl
  | tail => exact h.weak (fun e => by cases e) rfl
  | recs => exact h.weak (fun e => by cases e) rfl
theorem noOwn_orel {ρ : Rho} {o : AObj} {w : World} {h : Option Value} (r : ORel ρ w o h) : ORel ρ w (noOwn o) h := by
  cases o with
  | dead => trivial
  | row own s xs => obtain ⟨hd, e, hr⟩ := r; exact ⟨hd, e, hr.weak (fun e => by cases e)⟩
  | blob own t d => obtain ⟨hd, e, hr⟩ := r; exact ⟨hd, e, hr.less⟩
  | cell own k n c =>
    obtain ⟨hd, e, hr⟩ := r
    obtain ⟨b, o, cs, el, fz, v, _, _, _, hc, hk, _⟩ := id hr
    exact ⟨hd, e, hr.weak (fun e => by cases e) (fun v h => h) hk⟩
theorem ORel.of_dead {ρ : Rho} {o : AObj} {w : World} {h : Option Value} (hl : ¬ o.live = true) : ORel ρ w o h := by
  cases o with
  | dead => trivial
  | row => exact absurd rfl hl
  | blob => exact absurd rfl hl
  | cell => exact absurd rfl hl
theorem HR.merge {w0 w w' : World} {A A' : List Nat} {W W' : WL} {U Ux U' : Nat → Prop} {ρ ρx ρ' : Rho} {F Fx F' : Nat → AObj} (H : HR w0 A W U ρ F w) (X : HR w A' W' Ux ρx Fx w') (pk opk : Nat → Prop) (ro : Bool) (κ : Nat → Option Nat)
    (hop : ∀ j, opk j → pk j)
    (hA' : ∀ b, b ∈ A' → ∃ j, pk j ∧ fp (F j) (ρ j) w b)
    (hW' : ∀ b, b ∈ W' → ∃ j, opk j ∧ fpw (F j) (ρ j) w b)
    (hbp : ∀ i j ki kj n ci cj, F i = .cell true ki n ci → F j = .cell true kj n cj → i + kj = j + ki → pk j → pk i)
    (hbo : ∀ i j ki kj n ci cj, F i = .cell true ki n ci → F j = .cell true kj n cj → i + kj = j + ki → opk j → opk i)
    (hκ : ∀ i j k, κ i = some k → κ j = some k → i = j)
    (hκb : ∀ i j k l ki kj n ci cj, κ i = some k → κ j = some l → Fx k = .cell true ki n ci → Fx l = .cell true kj n cj → k + kj = l + ki → i + kj = j + ki)
    (hx : ext ρ ρ')
    (hnew : ∀ i k, κ i = some k → ρ' i = ρx k ∧ NewAt ρx ρ' (Fx k) (F' i))
    (hold : ∀ i, κ i = none → ρ' i = ρ i ∧ (F' i = .dead ∨ (¬ opk i ∧ (F' i = F i ∨ (F' i = noOwn (F i) ∧ pk i ∧ ro = true)) ∧ ((F' i).raw = true → pk i → ro = false))))
    (hro : ro = false → ∀ i k, κ i = some k → (Fx k).live = true → (Fx k).whole = true)
    (hU : ∀ i, U' i → ρ' i = none) : HR w0 A W U' ρ' F' w' := by
  -- who lies in a block that was handed over
  have ownb : ∀ i b, fp (F i) (ρ i) w b → b ∈ W' → opk i := fun i b hb hw => by
    obtain ⟨j, hj, hbj⟩ := hW' b hw
    by_cases hij : j = i
    · exact hij ▸ hj
    · obtain ⟨kj, ki, n, cj, ci, e1, e2, e3, _⟩ := H.sepf j i hij b hbj hb
      exact hbo i j ki kj n ci cj e2 e1 (by omega) hj
  have liveb : ∀ i b, fpw (F i) (ρ i) w b → b ∈ A' → pk i := fun i b hb hw => by
    obtain ⟨j, hj, hbj⟩ := hA' b hw
    by_cases hij : i = j
    · exact hij ▸ hj
    · obtain ⟨ki, kj, n, ci, cj, e1, e2, e3, _⟩ := H.sepf i j hij b hb hbj
      exact hbp i j ki kj n ci cj e1 e2 (by omega) hj
  have kept : ∀ b, b < w.heap.size → b ∉ W' → w'.heap[b]? = w.heap[b]? := X.fr.block
  -- an object of the caller's that stays
  have old : ∀ i, κ i = none → (F' i).live = true → ρ' i = ρ i ∧ ¬ opk i ∧ (F' i = F i ∨ (F' i = noOwn (F i) ∧ pk i ∧ ro = true)) ∧ ((F' i).raw = true → pk i → ro = false) ∧
      (∀ b, fp (F i) (ρ i) w b → w'.heap[b]? = w.heap[b]?) ∧ (∀ b, fp (F' i) (ρ' i) w' b → fp (F i) (ρ i) w b) ∧ (∀ b, fpw (F' i) (ρ' i) w' b → F' i = F i ∧ fpw (F i) (ρ i) w b) := fun i hk hl => by
    obtain ⟨h1, h2⟩ := hold i hk
    rcases h2 with h2 | ⟨h2, h3, h4⟩
    · rw [h2] at hl; simp [AObj.live] at hl
    · have hsame : ∀ b, fp (F i) (ρ i) w b → w'.heap[b]? = w.heap[b]? := fun b hb => kept b (H.flt hb) fun hw => h2 (ownb i b hb hw)
      refine ⟨h1, h2, h3, h4, hsame, fun b hb => ?_, fun b hb => ?_⟩
      · rw [h1] at hb
        rcases h3 with h3 | ⟨h3, _⟩
        · rw [h3] at hb; exact (fp_kept hsame b).1.1 hb
        · rw [h3, noOwn_fp.1] at hb; exact (fp_kept hsame b).1.1 hb
      · rw [h1] at hb
        rcases h3 with h3 | ⟨h3, _⟩
        · refine ⟨h3, ?_⟩
          rw [h3] at hb; exact (fp_kept hsame b).2.1 hb
        · rw [h3] at hb; exact absurd hb noOwn_fp.2
  refine ⟨⟨X.fr.os.trans H.fr.os, X.fr.tape.trans H.fr.tape, X.fr.output.trans H.fr.output, Nat.le_trans H.fr.size X.fr.size, ?_, H.fr.ok⟩, hU, ?_, ?_, ?_, ?_⟩
  · intro b hb hn
    refine (kept b (Nat.lt_of_lt_of_le hb H.fr.size) fun hw => ?_).trans (H.fr.block b hb hn)
    obtain ⟨j, hj, hbj⟩ := hW' b hw
    rcases H.locfw j b hbj with h | h
    · omega
    · exact hn h
  · intro i
    cases hk : κ i with
    | some k =>
      obtain ⟨h1, h2⟩ := hnew i k hk
      rw [h1]
      exact h2.orel (X.obj k)
    | none =>
      by_cases hl : (F' i).live = true
      · obtain ⟨h1, h2, h5, _, hs, _⟩ := old i hk hl
        have hkept : ORel ρ' w' (F i) (ρ i) := (H.obj i).kept hx hs
        rw [h1]
        rcases h5 with h5 | ⟨h5, _⟩
        · rw [h5]; exact hkept
        · rw [h5]; exact noOwn_orel hkept
      · exact ORel.of_dead hl
  · intro i j hij b hb hb'
    cases hki : κ i with
    | some k =>
      obtain ⟨h1, h2⟩ := hnew i k hki
      rw [h1, h2.fp.2] at hb
      cases hkj : κ j with
      | some l =>
        obtain ⟨g1, g2⟩ := hnew j l hkj
        rw [g1, g2.fp.1] at hb'
        obtain ⟨ki, kj, n, ci, cj, e1, e2, e3, e4⟩ := X.sepf k l (fun e => hij (hκ i j k hki (by rw [hkj, e]))) b hb hb'
        rw [e1] at h2
        rw [e2] at g2
        obtain ⟨ci', q1, _⟩ := h2
        obtain ⟨cj', q2, _⟩ := g2
        exact ⟨ki, kj, n, ci', cj', q1, q2, hκb i j k l ki kj n ci cj hki hkj e1 e2 e3, e4⟩
      | none =>
        obtain ⟨g1, g2, _, _, _, g3, _⟩ := old j hkj (fp_live hb')
        have hb' := g3 b hb'
        have := H.flt hb'
        rcases X.locfw k b hb with h | h
        · omega
        · exact absurd (ownb j b hb' h) g2
    | none =>
      obtain ⟨h1, h2, h5, h6, _, _, h4⟩ := old i hki (fp_live (fpw_fp hb))
      have hraw := fpw_raw hb
      obtain ⟨h7, hb⟩ := h4 b hb
      have hbi := H.flt (fpw_fp hb)
      cases hkj : κ j with
      | some l =>
        obtain ⟨g1, g2⟩ := hnew j l hkj
        rw [g1, g2.fp.1] at hb'
        rcases X.locf l b hb' with h | h
        · omega
        · have hp := liveb i b hb h
          have hl := hro (h6 hraw hp) j l hkj (fp_live hb')
          rcases X.locfw l b (whole_fpw hl hb') with h | h
          · omega
          · exact absurd (ownb i b (fpw_fp hb) h) h2
      | none =>
        obtain ⟨g1, g2, g5, g6, _, g3, _⟩ := old j hkj (fp_live hb')
        have hb' := g3 b hb'
        obtain ⟨ki, kj, n, ci, cj, e1, e2, e3, e4⟩ := H.sepf i j hij b hb hb'
        refine ⟨ki, kj, n, ci, cj, by rw [h7, e1], ?_, e3, e4⟩
        rcases g5 with g5 | ⟨g5, g7, g8⟩
        · rw [g5, e2]
        · have := h6 hraw (hbp i j ki kj n ci cj e1 e2 e3 g7)
          rw [this] at g8
          cases g8
  · intro i b hb
    cases hk : κ i with
    | some k =>
      obtain ⟨h1, h2⟩ := hnew i k hk
      rw [h1, h2.fp.1] at hb
      rcases X.locf k b hb with h | h
      · exact .inl (Nat.le_trans H.fr.size h)
      · obtain ⟨j, _, hbj⟩ := hA' b h
        exact H.locf j b hbj
    | none =>
      obtain ⟨_, _, _, _, _, h3, _⟩ := old i hk (fp_live hb)
      exact H.locf i b (h3 b hb)
  · intro i b hb
    cases hk : κ i with
    | some k =>
      obtain ⟨h1, h2⟩ := hnew i k hk
      rw [h1, h2.fp.2] at hb
      rcases X.locfw k b hb with h | h
      · exact .inl (Nat.le_trans H.fr.size h)
      · obtain ⟨j, _, hbj⟩ := hW' b h
        exact H.locfw j b hbj
    | none =>
      obtain ⟨_, _, _, _, _, _, h4⟩ := old i hk (fp_live (fpw_fp hb))
      exact H.locfw i b (h4 b hb).2
end Go.Proofs.YtiaagflfiphioaaDoorS
