/- The caller's objects and the callee's, put together after a call. -/
import Derived.Test.YtkaiidmnigpicaaGreatDoorSimN
namespace Go.Proofs.YtkaiidmnigpicaaGreatDoorS
open Go
set_option linter.unusedVariables false
set_option linter.unusedSimpArgs false

def noOwn : AObj → AObj
  | .dead => .dead
  | .cell _ k n c => .cell false k n c
  | .row _ s xs => .row false s xs
  | .blob _ t d => .blob false t d
def NewAt (ρx ρ' : Rho) : AObj → AObj → Prop
  | .row own s xs, o' => o' = .row own s xs
  | .blob own t d, o' => o' = .blob own t d
  | .cell own k n c, o' => ∃ c', o' = .cell own k n c' ∧ (∀ v, CRel ρx c v → CRel ρ' c' v) ∧ (c ≠ .unk → c' ≠ .unk)
  | .dead, o' => o' = .dead
theorem NewAt.live {ρx ρ' : Rho} {o o' : AObj} (h : NewAt ρx ρ' o o') : o'.live = o.live := by
  cases o with
  | dead => rw [show o' = .dead from h]
  | row => rw [show o' = _ from h]
  | blob => rw [show o' = _ from h]
  | cell own k n c => obtain ⟨c', e, _⟩ := h; rw [e]; rfl
theorem NewAt.own {ρx ρ' : Rho} {o o' : AObj} (h : NewAt ρx ρ' o o') : o'.own = o.own := by
  cases o with
  | dead => rw [show o' = .dead from h]
  | row => rw [show o' = _ from h]
  | blob => rw [show o' = _ from h]
  | cell own k n c => obtain ⟨c', e, _⟩ := h; rw [e]; rfl
theorem NewAt.orel {ρx ρ' : Rho} {o o' : AObj} {w : World} {h : Option Value} (g : NewAt ρx ρ' o o') (r : ORel ρx w o h) : ORel ρ' w o' h := by
  cases o with
  | dead => rw [show o' = .dead from g]; trivial
  | row => rw [show o' = _ from g]; exact r
  | blob => rw [show o' = _ from g]; exact r
  | cell own k n c =>
    obtain ⟨c', e, hc, hk⟩ := g
    obtain ⟨hd, e2, hr⟩ := r
    obtain ⟨b, o, cs, el, fz, v, _, _, _, _, hk2, _⟩ := id hr
    rw [e]
    exact ⟨hd, e2, hr.weak id hc (hk hk2)⟩
theorem noOwn_own (o : AObj) : (noOwn o).own = false := by cases o <;> rfl
theorem noOwn_live (o : AObj) : (noOwn o).live = o.live := by cases o <;> rfl
theorem noOwn_orel {ρ : Rho} {o : AObj} {w : World} {h : Option Value} (r : ORel ρ w o h) : ORel ρ w (noOwn o) h := by
  cases o with
  | dead => trivial
  | row own s xs => obtain ⟨hd, e, hr⟩ := r; exact ⟨hd, e, hr.weak (fun e => by cases e)⟩
  | blob own t d => exact r
  | cell own k n c =>
    obtain ⟨hd, e, hr⟩ := r
    obtain ⟨b, o, cs, el, fz, v, _, _, _, hc, hk, _⟩ := id hr
    exact ⟨hd, e, hr.weak (fun e => by cases e) (fun v h => h) hk⟩
theorem ORel.of_dead {ρ : Rho} {o : AObj} {w : World} {h : Option Value} (hl : ¬ o.live = true) : ORel ρ w o h := by
  cases o with
  | dead => trivial
  | row => exact absurd rfl hl
  | blob => exact absurd rfl hl
  | cell => exact absurd rfl hl
theorem HR.merge {w0 w w' : World} {A A' : List Nat} {W W' : WL} {U Ux U' : Nat → Prop} {ρ ρx ρ' : Rho} {F Fx F' : Nat → AObj} (H : HR w0 A W U ρ F w) (X : HR w A' W' Ux ρx Fx w') (pk opk : Nat → Prop) (ro : Bool) (κ : Nat → Option Nat)
    (hop : ∀ j, opk j → pk j)
    (hA' : ∀ b, b ∈ A' → ∃ j, pk j ∧ (F j).live = true ∧ blk (ρ j) = some b)
    (hW' : ∀ b, b ∈ W' → ∃ j, opk j ∧ (F j).own = true ∧ blk (ρ j) = some b)
    (hbp : ∀ i j ki kj n ci cj, F i = .cell true ki n ci → F j = .cell true kj n cj → i + kj = j + ki → pk j → pk i)
    (hbo : ∀ i j ki kj n ci cj, F i = .cell true ki n ci → F j = .cell true kj n cj → i + kj = j + ki → opk j → opk i)
    (hκ : ∀ i j k, κ i = some k → κ j = some k → i = j)
    (hκb : ∀ i j k l ki kj n ci cj, κ i = some k → κ j = some l → Fx k = .cell true ki n ci → Fx l = .cell true kj n cj → k + kj = l + ki → i + kj = j + ki)
    (hx : ext ρ ρ')
    (hnew : ∀ i k, κ i = some k → ρ' i = ρx k ∧ NewAt ρx ρ' (Fx k) (F' i))
    (hold : ∀ i, κ i = none → ρ' i = ρ i ∧ (F' i = .dead ∨ (¬ opk i ∧ (F' i = F i ∨ (F' i = noOwn (F i) ∧ pk i ∧ ro = true)) ∧ ((F' i).own = true → pk i → ro = false))))
    (hro : ro = false → ∀ i k, κ i = some k → (Fx k).live = true → (Fx k).own = true)
    (hU : ∀ i, U' i → ρ' i = none) : HR w0 A W U' ρ' F' w' := by
  -- who lies in a block that was handed over
  have ownb : ∀ i b, (F i).live = true → blk (ρ i) = some b → b ∈ W' → opk i := fun i b hl hb hw => by
    obtain ⟨j, hj, ho, hbj⟩ := hW' b hw
    by_cases hij : j = i
    · exact hij ▸ hj
    · obtain ⟨kj, ki, n, cj, ci, e1, e2, e3, _⟩ := H.sep j i hij ho hl b hbj hb
      exact hbo i j ki kj n ci cj e2 e1 (by omega) hj
  have liveb : ∀ i b, (F i).own = true → blk (ρ i) = some b → b ∈ A' → pk i := fun i b ho hb hw => by
    obtain ⟨j, hj, hl, hbj⟩ := hA' b hw
    by_cases hij : i = j
    · exact hij ▸ hj
    · obtain ⟨ki, kj, n, ci, cj, e1, e2, e3, _⟩ := H.sep i j hij ho hl b hb hbj
      exact hbp i j ki kj n ci cj e1 e2 (by omega) hj
  -- an object of the caller's that stays
  have old : ∀ i, κ i = none → (F' i).live = true → ρ' i = ρ i ∧ ¬ opk i ∧ (F i).live = true ∧ ((F' i).own = true → (F i).own = true ∧ F' i = F i) ∧ (F' i = F i ∨ (F' i = noOwn (F i) ∧ pk i ∧ ro = true)) ∧ ((F' i).own = true → pk i → ro = false) := fun i hk hl => by
    obtain ⟨h1, h2⟩ := hold i hk
    rcases h2 with h2 | ⟨h2, h3, h4⟩
    · rw [h2] at hl; simp [AObj.live] at hl
    · refine ⟨h1, h2, ?_, ?_, h3, h4⟩
      · rcases h3 with h3 | ⟨h3, _⟩
        · rw [← h3]; exact hl
        · rw [h3, noOwn_live] at hl; exact hl
      · intro ho
        rcases h3 with h3 | ⟨h3, _⟩
        · exact ⟨by rw [← h3]; exact ho, h3⟩
        · rw [h3, noOwn_own] at ho; cases ho
  have kept : ∀ b, b < w.heap.size → b ∉ W' → w'.heap[b]? = w.heap[b]? := X.fr.block
  refine ⟨⟨X.fr.os.trans H.fr.os, X.fr.tape.trans H.fr.tape, X.fr.output.trans H.fr.output, Nat.le_trans H.fr.size X.fr.size, ?_, H.fr.ok⟩, hU, ?_, ?_, ?_, ?_⟩
  · intro b hb hn
    refine (kept b (Nat.lt_of_lt_of_le hb H.fr.size) fun hw => ?_).trans (H.fr.block b hb hn)
    obtain ⟨j, hj, ho, hbj⟩ := hW' b hw
    rcases H.locw j b ho hbj with h | h
    · omega
    · exact hn h
  · intro i
    cases hk : κ i with
    | some k =>
      obtain ⟨h1, h2⟩ := hnew i k hk
      rw [h1]
      exact h2.orel (X.obj k)
    | none =>
      by_cases hl : (F' i).live = true
      · obtain ⟨h1, h2, h3, h4, h5, _⟩ := old i hk hl
        have hkept : ORel ρ' w' (F i) (ρ i) := (H.obj i).kept hx fun b hb => kept b (H.blt h3 hb) fun hw => h2 (ownb i b h3 hb hw)
        rw [h1]
        rcases h5 with h5 | ⟨h5, _⟩
        · rw [h5]; exact hkept
        · rw [h5]; exact noOwn_orel hkept
      · exact ORel.of_dead hl
  · intro i j hij hi hj b hb hb'
    cases hki : κ i with
    | some k =>
      obtain ⟨h1, h2⟩ := hnew i k hki
      rw [h1] at hb
      rw [h2.own] at hi
      cases hkj : κ j with
      | some l =>
        obtain ⟨g1, g2⟩ := hnew j l hkj
        rw [g1] at hb'
        rw [g2.live] at hj
        obtain ⟨ki, kj, n, ci, cj, e1, e2, e3, e4⟩ := X.sep k l (fun e => hij (hκ i j k hki (by rw [hkj, e]))) hi hj b hb hb'
        rw [e1] at h2
        rw [e2] at g2
        obtain ⟨ci', q1, _⟩ := h2
        obtain ⟨cj', q2, _⟩ := g2
        exact ⟨ki, kj, n, ci', cj', q1, q2, hκb i j k l ki kj n ci cj hki hkj e1 e2 e3, e4⟩
      | none =>
        obtain ⟨g1, g2, g3, _⟩ := old j hkj hj
        rw [g1] at hb'
        have := H.blt g3 hb'
        rcases X.locw k b hi hb with h | h
        · omega
        · exact absurd (ownb j b g3 hb' h) g2
    | none =>
      obtain ⟨h1, h2, h3, h4, h5, h6⟩ := old i hki (AObj.live_of_own hi)
      obtain ⟨h4, h7⟩ := h4 hi
      rw [h1] at hb
      have hbi := H.blt h3 hb
      cases hkj : κ j with
      | some l =>
        obtain ⟨g1, g2⟩ := hnew j l hkj
        rw [g1] at hb'
        rw [g2.live] at hj
        rcases X.loc l b hj hb' with h | h
        · omega
        · have hp := liveb i b h4 hb h
          have hl := hro (h6 hi hp) j l hkj hj
          rcases X.locw l b hl hb' with h | h
          · omega
          · exact absurd (ownb i b h3 hb h) h2
      | none =>
        obtain ⟨g1, g2, g3, g4, g5, g6⟩ := old j hkj hj
        rw [g1] at hb'
        obtain ⟨ki, kj, n, ci, cj, e1, e2, e3, e4⟩ := H.sep i j hij h4 g3 b hb hb'
        refine ⟨ki, kj, n, ci, cj, by rw [h7, e1], ?_, e3, e4⟩
        rcases g5 with g5 | ⟨g5, g7, g8⟩
        · rw [g5, e2]
        · have := h6 hi (hbp i j ki kj n ci cj e1 e2 e3 g7)
          rw [this] at g8
          cases g8
  · intro i b hl hb
    cases hk : κ i with
    | some k =>
      obtain ⟨h1, h2⟩ := hnew i k hk
      rw [h1] at hb
      rw [h2.live] at hl
      rcases X.loc k b hl hb with h | h
      · exact .inl (Nat.le_trans H.fr.size h)
      · obtain ⟨j, _, hlj, hbj⟩ := hA' b h
        exact H.loc j b hlj hbj
    | none =>
      obtain ⟨h1, h2, h3, _⟩ := old i hk hl
      rw [h1] at hb
      exact H.loc i b h3 hb
  · intro i b hl hb
    cases hk : κ i with
    | some k =>
      obtain ⟨h1, h2⟩ := hnew i k hk
      rw [h1] at hb
      rw [h2.own] at hl
      rcases X.locw k b hl hb with h | h
      · exact .inl (Nat.le_trans H.fr.size h)
      · obtain ⟨j, _, hlj, hbj⟩ := hW' b h
        exact H.locw j b hlj hbj
    | none =>
      obtain ⟨h1, h2, h3, h4, _⟩ := old i hk (AObj.live_of_own hl)
      rw [h1] at hb
      exact H.locw i b (h4 hl).1 hb
end Go.Proofs.YtkaiidmnigpicaaGreatDoorS
