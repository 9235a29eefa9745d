/- What becomes of worlds and objects at an operation. -/
import Derived.Test.YtiaagflfiphioaaDoorSimC
namespace Go.Proofs.YtiaagflfiphioaaDoorS
open Go
set_option linter.unusedVariables false
set_option linter.unusedSimpArgs false

def upd (F : Nat → AObj) : List (Nat × AObj) → Nat → AObj
  | [] => F
  | (i, o) :: r => upd (fun j => if i = j then o else F j) r
theorem getF_setF (F : List (Nat × AObj)) (u : List (Nat × AObj)) : getF (setF F u) = upd (getF F) u := by
  induction u generalizing F with
  | nil => rfl
  | cons x r ih =>
    obtain ⟨i, o⟩ := x
    simp only [setF, upd]
    rw [ih]
    congr 1
    funext j
    by_cases h : i = j <;> simp [getF, h]
theorem upd_append (F : Nat → AObj) (u v : List (Nat × AObj)) : upd F (u ++ v) = upd (upd F u) v := by
  induction u generalizing F with
  | nil => rfl
  | cons x r ih => exact ih _
theorem upd_out (u : List (Nat × AObj)) (F : Nat → AObj) (j : Nat) (h : j ∉ u.map (·.1)) : upd F u j = F j := by
  induction u generalizing F with
  | nil => rfl
  | cons x r ih =>
    obtain ⟨i, o⟩ := x
    simp only [List.map_cons, List.mem_cons, not_or] at h
    simp only [upd]
    rw [ih _ h.2, if_neg (Ne.symm h.1)]
theorem ups_mem (os : List AObj) : ∀ (id j : Nat), j ∈ (ups id os).map (·.1) ↔ id ≤ j ∧ j < id + os.length := by
  induction os with
  | nil => intro id j; simp [ups]
  | cons o r ih =>
    intro id j
    simp only [ups, List.map_cons, List.mem_cons, ih, List.length_cons]
    omega
theorem upd_ups (os : List AObj) : ∀ (F : Nat → AObj) (id j : Nat), upd F (ups id os) j = if id ≤ j ∧ j < id + os.length then os.getD (j - id) .dead else F j := by
  induction os with
  | nil => intro F id j; simp only [ups, upd, List.length_nil]; rw [if_neg (by omega)]
  | cons o r ih =>
    intro F id j
    simp only [ups, upd]
    rw [ih]
    by_cases h : id + 1 ≤ j ∧ j < id + 1 + r.length
    · rw [if_pos h, if_pos (by simp; omega)]
      obtain ⟨m, hm⟩ : ∃ m, j - id = m + 1 := ⟨j - id - 1, by omega⟩
      rw [hm]
      have : j - (id + 1) = m := by omega
      rw [this]
      rfl
    · rw [if_neg h]
      by_cases h0 : id = j
      · subst h0
        rw [if_pos rfl, if_pos (by simp)]
        simp
      · rw [if_neg h0, if_neg (by simp; omega)]

theorem Fr.grown {w0 w w' : World} {W : WL} {row : Option Nat} (h : Fr w0 W w) (g : w.grownBy w' row) (hr : ∀ k, row = some k → w0.heap.size ≤ k ∨ k ∈ W) : Fr w0 W w' :=
  ⟨g.os.trans h.os, g.tape.trans h.tape, g.output.trans h.output, Nat.le_trans h.size g.size, fun b hb hn =>
    (g.block b (Nat.lt_of_lt_of_le hb h.size) (fun e => by rcases hr b e.symm with h1 | h1; omega; exact hn h1)).trans (h.block b hb hn), h.ok⟩
theorem Fr.drew {w0 w : World} {W : WL} (h : Fr w0 W w) (n : Nat) : Fr w0 W { w with drawn := n } := ⟨h.os, h.tape, h.output, h.size, h.block, h.ok⟩
theorem ORel.drew {ρ : Rho} {w : World} {o : AObj} {h : Option Value} (r : ORel ρ w o h) (n : Nat) : ORel ρ { w with drawn := n } o h := r.kept (ext.refl ρ) fun _ _ => rfl
theorem HR.drew {w0 : World} {A : List Nat} {W : WL} {U : Nat → Prop} {ρ : Rho} {F : Nat → AObj} {w : World} (h : HR w0 A W U ρ F w) (n : Nat) : HR w0 A W U ρ F { w with drawn := n } :=
  ⟨h.fr.drew n, h.fre, fun i => (h.obj i).drew n, h.sepf, h.locf, h.locfw⟩
theorem HR.weak {w0 : World} {A : List Nat} {W : WL} {U U' : Nat → Prop} {ρ : Rho} {F : Nat → AObj} {w : World} (h : HR w0 A W U ρ F w) (hu : ∀ i, U' i → U i) : HR w0 A W U' ρ F w :=
  ⟨h.fr, fun i hi => h.fre i (hu i hi), h.obj, h.sepf, h.locf, h.locfw⟩

/-- Objects that lie in one block. -/
def BT.flat : BT → Bool
  | .rows _ _ _ => false | .hole _ _ => false | .tail _ => false | _ => true
def AObj.plain : AObj → Bool
  | .blob _ t _ => t.flat | _ => true
theorem inr_flat {t : BT} (ht : t.flat = true) {d : t.D} {hd : Value} {w : World} {b : Nat} : ¬ inr t d hd w b := by
  rintro ⟨k, v, _, hm, _⟩
  cases t <;> simp [BT.flat] at ht <;> simp [BT.mine] at hm
theorem fp_plain {o : AObj} (hp : o.plain = true) {h : Option Value} {w : World} {b : Nat} : (fp o h w b ↔ o.live = true ∧ blk h = some b) ∧ (fpw o h w b ↔ o.own = true ∧ blk h = some b) := by
  cases o with
  | dead => exact ⟨⟨fun h => h.elim, fun h => by simp [AObj.live] at h⟩, Iff.rfl⟩
  | cell => exact ⟨⟨fun h => ⟨rfl, h⟩, fun h => h.2⟩, Iff.rfl⟩
  | row => exact ⟨⟨fun h => ⟨rfl, h⟩, fun h => h.2⟩, Iff.rfl⟩
  | blob own t d =>
    refine ⟨⟨fun h => ?_, fun h => .inl h.2⟩, ⟨fun h => ?_, fun h => .inl h⟩⟩
    · rcases h with h | ⟨hd, _, h⟩
      · exact ⟨rfl, h⟩
      · exact absurd h (inr_flat hp)
    · rcases h with h | ⟨_, hd, _, h⟩
      · exact h
      · exact absurd h (inr_flat hp)
/-- An object that keeps its number, its kind, and is not owned anew. -/
def MetaOk (a b : AObj) : Prop := b = .dead ∨ (∃ own k n c c', a = .cell own k n c ∧ b = .cell own k n c') ∨ (∃ own s xs own' s' xs', a = .row own s xs ∧ b = .row own' s' xs' ∧ (own' = true → own = true)) ∨ ∃ own t d own' t' d', a = .blob own t d ∧ b = .blob own' t' d' ∧ (b.own = true → a.own = true)
theorem MetaOk.refl (a : AObj) : MetaOk a a := by
  cases a with
  | dead => exact .inl rfl
  | cell own k n c => exact .inr (.inl ⟨own, k, n, c, c, rfl, rfl⟩)
  | row own s xs => exact .inr (.inr (.inl ⟨own, s, xs, own, s, xs, rfl, rfl, id⟩))
  | blob own t d => exact .inr (.inr (.inr ⟨own, t, d, own, t, d, rfl, rfl, id⟩))
theorem MetaOk.live {a b : AObj} (h : MetaOk a b) (hl : b.live = true) : a.live = true := by
  rcases h with rfl | ⟨own, k, n, c, c', rfl, rfl⟩ | ⟨own, s, xs, own', s', xs', rfl, rfl, _⟩ | ⟨own, t, d, own', t', d', rfl, rfl, _⟩
  · simp [AObj.live] at hl
  · rfl
  · rfl
  · rfl
theorem MetaOk.own {a b : AObj} (h : MetaOk a b) (hl : b.own = true) : a.own = true := by
  rcases h with rfl | ⟨own, k, n, c, c', rfl, rfl⟩ | ⟨own, s, xs, own', s', xs', rfl, rfl, ho⟩ | ⟨own, t, d, own', t', d', rfl, rfl, ho⟩
  · simp [AObj.own] at hl
  · exact hl
  · exact ho hl
  · exact ho hl
theorem AObj.live_of_own {a : AObj} (h : a.own = true) : a.live = true := by cases a <;> simp_all [AObj.own, AObj.live]
theorem fpw_dead {h : Option Value} {w : World} {b : Nat} : ¬ fpw .dead h w b := fun q => by simp [fpw, AObj.own] at q
/-- Objects turn in place: no block is read or written anew. -/
theorem HR.turnF {w0 : World} {A : List Nat} {W : WL} {U : Nat → Prop} {ρ : Rho} {F F' : Nat → AObj} {w w' : World} (h : HR w0 A W U ρ F w) (fr : Fr w0 W w')
    (hm : ∀ i, MetaOk (F i) (F' i)) (hf : ∀ i b, (fp (F' i) (ρ i) w' b → fp (F i) (ρ i) w b) ∧ (fpw (F' i) (ρ i) w' b → fpw (F i) (ρ i) w b))
    (ho : ∀ i, (F' i).live = true → ORel ρ w' (F' i) (ρ i)) : HR w0 A W U ρ F' w' where
  fr := fr
  fre := h.fre
  obj := fun i => by
    by_cases hl : (F' i).live = true
    · exact ho i hl
    · cases hF : F' i with
      | dead => trivial
      | cell => rw [hF] at hl; simp [AObj.live] at hl
      | row => rw [hF] at hl; simp [AObj.live] at hl
      | blob => rw [hF] at hl; simp [AObj.live] at hl
  sepf := fun i j hij b hb hb' => by
    obtain ⟨ki, kj, n, ci, cj, e1, e2, e3, e4⟩ := h.sepf i j hij b ((hf i b).2 hb) ((hf j b).1 hb')
    have m1 := hm i
    have m2 := hm j
    rw [e1] at m1
    rw [e2] at m2
    rcases m1 with m1 | ⟨own, k, n', c, c', q1, q2⟩ | ⟨own, s, xs, own', s', xs', q1, _⟩ | ⟨own, t, d, own', t', d', q1, _⟩
    · rw [m1] at hb; exact absurd hb fpw_dead
    · cases q1
      rcases m2 with m2 | ⟨own2, k2, n2, c2, c2', q3, q4⟩ | ⟨own, s, xs, own', s', xs', q1, _⟩ | ⟨own, t, d, own', t', d', q1, _⟩
      · rw [m2] at hb'; exact hb'.elim
      · cases q3
        exact ⟨ki, kj, n, c', c2', q2, q4, e3, e4⟩
      · cases q1
      · cases q1
    · cases q1
    · cases q1
  locf := fun i b hb => h.locf i b ((hf i b).1 hb)
  locfw := fun i b hb => h.locfw i b ((hf i b).2 hb)
/-- Plain objects turn in place: their blocks alone turn. -/
theorem HR.turn {w0 : World} {A : List Nat} {W : WL} {U : Nat → Prop} {ρ : Rho} {F F' : Nat → AObj} {w w' : World} {row : Option Nat} (h : HR w0 A W U ρ F w)
    (hm : ∀ i, MetaOk (F i) (F' i)) (g : w.grownBy w' row) (hr : ∀ k, row = some k → w0.heap.size ≤ k ∨ k ∈ W)
    (ho : ∀ i, (F' i).live = true → (∃ b, row = some b ∧ blk (ρ i) = some b) ∨ F' i ≠ F i → ORel ρ w' (F' i) (ρ i))
    (hn : ∀ i, F' i ≠ F i → (F' i).plain = true) (hrow : ∀ b, row = some b → ∃ j, (F j).own = true ∧ (F j).plain = true ∧ blk (ρ j) = some b) : HR w0 A W U ρ F' w' := by
  -- what is not plain keeps off the row
  have off : ∀ i, (F i).plain = false → ∀ b, row = some b → ¬ fp (F i) (ρ i) w b := fun i hp b hb hf => by
    obtain ⟨j, j1, j2, j3⟩ := hrow b hb
    have hji : j ≠ i := fun e => by subst e; rw [j2] at hp; cases hp
    obtain ⟨ki, kj, n, ci, cj, e1, e2, _⟩ := h.sepf j i hji b (fpw_of j1 j3) hf
    rw [e2] at hp
    simp [AObj.plain] at hp
  have same : ∀ i, (F i).plain = false → ∀ b, fp (F i) (ρ i) w b → w'.heap[b]? = w.heap[b]? := fun i hp b hf => g.block b (h.flt hf) fun e => off i hp b e.symm hf
  refine h.turnF (h.fr.grown g hr) hm (fun i b => ?_) (fun i hl => ?_)
  · by_cases e : F' i = F i
    · rw [e]
      cases hp : (F i).plain with
      | true => rw [(fp_plain hp).1, (fp_plain hp).1, (fp_plain hp).2, (fp_plain hp).2]; exact ⟨id, id⟩
      | false => have := fp_kept (same i hp) b; exact ⟨this.1.1, this.2.1⟩
    · have hp := hn i e
      rw [(fp_plain hp).1, (fp_plain hp).2]
      exact ⟨fun q => fp_of ((hm i).live q.1) q.2, fun q => fpw_of ((hm i).own q.1) q.2⟩
  · by_cases e : F' i = F i
    · rw [e] at hl ⊢
      cases hp : (F i).plain with
      | true =>
        by_cases hb : ∃ b, row = some b ∧ blk (ρ i) = some b
        · have := ho i (by rw [e]; exact hl) (.inl hb)
          rwa [e] at this
        · exact (h.obj i).kept (ext.refl ρ) fun b hbb => g.block b (h.flt hbb) (fun e => hb ⟨b, e.symm, ((fp_plain hp).1.1 hbb).2⟩)
      | false => exact (h.obj i).kept (ext.refl ρ) (same i hp)
    · exact ho i hl (.inr e)
theorem grownBy_self (w : World) (row : Option Nat) : w.grownBy w row := ⟨rfl, rfl, rfl, Nat.le_refl _, fun _ _ _ => rfl⟩
/-- Plain objects are let go, or are not owned any more: the world stays. -/
theorem HR.less {w0 : World} {A : List Nat} {W : WL} {U : Nat → Prop} {ρ : Rho} {F F' : Nat → AObj} {w : World} (h : HR w0 A W U ρ F w)
    (hm : ∀ i, MetaOk (F i) (F' i)) (ho : ∀ i, (F' i).live = true → F' i ≠ F i → ORel ρ w (F' i) (ρ i)) (hn : ∀ i, F' i ≠ F i → (F' i).plain = true) : HR w0 A W U ρ F' w :=
  h.turn hm (grownBy_self w none) (fun k e => by cases e) (fun i hl hb => by
    rcases hb with ⟨b, e, _⟩ | hb
    · cases e
    · exact ho i hl hb) hn (fun b e => by cases e)
def rhoAdd (ρ : Rho) (id : Nat) (hs : List Value) : Rho := fun i => if id ≤ i ∧ i < id + hs.length then hs[i - id]? else ρ i
theorem rhoAdd_ext {ρ : Rho} {id : Nat} {hs : List Value} (hf : ∀ i, id ≤ i → i < id + hs.length → ρ i = none) : ext ρ (rhoAdd ρ id hs) := by
  intro i v hv
  unfold rhoAdd
  split
  · rename_i h; rw [hf i h.1 h.2] at hv; cases hv
  · exact hv
theorem rhoAdd_in {ρ : Rho} {id : Nat} {hs : List Value} {k : Nat} (h : k < hs.length) : rhoAdd ρ id hs (id + k) = hs[k]? := by
  unfold rhoAdd
  rw [if_pos (by omega)]
  congr 1
  omega
/-- New plain objects, all in one block where no object lies. -/
theorem HR.news {w0 : World} {A : List Nat} {W : WL} {U : Nat → Prop} {ρ : Rho} {F : Nat → AObj} {w w' : World} (h : HR w0 A W U ρ F w) (id : Nat) (os : List AObj) (hs : List Value) (b : Nat)
    (hlen : hs.length = os.length) (hid : ∀ i, id ≤ i → i < id + os.length → U i)
    (g : w.grownBy w' (some b)) (hb : w0.heap.size ≤ b ∨ b ∈ W) (hba : w0.heap.size ≤ b ∨ b ∈ A) (hn : ∀ j, ¬ fp (F j) (ρ j) w b)
    (hblk : ∀ k, k < os.length → ∀ b', blk hs[k]? = some b' → b' = b) (hp : ∀ k, k < os.length → (os.getD k .dead).plain = true)
    (hone : os.length ≤ 1 ∨ ∀ k, k < os.length → ∃ c, os.getD k .dead = .cell true k os.length c)
    (ho : ∀ k, k < os.length → ORel (rhoAdd ρ id hs) w' (os.getD k .dead) hs[k]?) :
    HR w0 A W (fun i => U i ∧ ¬ (id ≤ i ∧ i < id + os.length)) (rhoAdd ρ id hs) (upd F (ups id os)) w' := by
  have hx : ext ρ (rhoAdd ρ id hs) := rhoAdd_ext fun i h1 h2 => h.fre i (hid i h1 (by omega))
  have hold : ∀ i, ¬ (id ≤ i ∧ i < id + os.length) → rhoAdd ρ id hs i = ρ i := fun i hi => by unfold rhoAdd; rw [if_neg (by omega)]
  have hnew : ∀ k, k < os.length → rhoAdd ρ id hs (id + k) = hs[k]? := fun k hk => rhoAdd_in (by omega)
  have hF : ∀ i, upd F (ups id os) i = if id ≤ i ∧ i < id + os.length then os.getD (i - id) .dead else F i := upd_ups os F id
  have keep : ∀ i b', fp (F i) (ρ i) w b' → w'.heap[b']? = w.heap[b']? := fun i b' hb' => g.block b' (h.flt hb') (fun e => by cases e; exact hn i hb')
  -- what an object reads and writes now
  have old : ∀ i b', ¬ (id ≤ i ∧ i < id + os.length) → (fp (upd F (ups id os) i) (rhoAdd ρ id hs i) w' b' ↔ fp (F i) (ρ i) w b') ∧ (fpw (upd F (ups id os) i) (rhoAdd ρ id hs i) w' b' ↔ fpw (F i) (ρ i) w b') := fun i b' hi => by
    rw [hF, if_neg hi, hold i hi]
    exact fp_kept (keep i) b'
  have new : ∀ k b', k < os.length → fp (upd F (ups id os) (id + k)) (rhoAdd ρ id hs (id + k)) w' b' → b' = b := fun k b' hk hf => by
    rw [hF, if_pos (by omega), hnew k hk, Nat.add_sub_cancel_left, (fp_plain (hp k hk)).1] at hf
    exact hblk k hk b' hf.2
  refine ⟨h.fr.grown g (fun k e => by cases e; exact hb), ?_, ?_, ?_, ?_, ?_⟩
  · intro i hi
    rw [hold i hi.2]
    exact h.fre i hi.1
  · intro i
    rw [hF]
    by_cases hi : id ≤ i ∧ i < id + os.length
    · rw [if_pos hi]
      obtain ⟨k, rfl⟩ : ∃ k, i = id + k := ⟨i - id, by omega⟩
      rw [hnew k (by omega)]
      have := ho k (by omega)
      rwa [Nat.add_sub_cancel_left]
    · rw [if_neg hi, hold i hi]
      exact (h.obj i).kept hx (keep i)
  · intro i j hij b' hb1 hb2
    by_cases h1 : id ≤ i ∧ i < id + os.length
    · obtain ⟨k, rfl⟩ : ∃ k, i = id + k := ⟨i - id, by omega⟩
      have e1 := new k b' (by omega) (fpw_fp hb1)
      subst e1
      by_cases h2 : id ≤ j ∧ j < id + os.length
      · obtain ⟨m, rfl⟩ : ∃ m, j = id + m := ⟨j - id, by omega⟩
        rcases hone with hone | hone
        · omega
        · obtain ⟨c1, q1⟩ := hone k (by omega)
          obtain ⟨c2, q2⟩ := hone m (by omega)
          refine ⟨k, m, os.length, c1, c2, ?_, ?_, by omega, by omega⟩
          · rw [hF, if_pos h1, Nat.add_sub_cancel_left, q1]
          · rw [hF, if_pos h2, Nat.add_sub_cancel_left, q2]
      · exact absurd ((old j _ h2).1.1 hb2) (hn j)
    · have hb1 := (old i b' h1).2.1 hb1
      by_cases h2 : id ≤ j ∧ j < id + os.length
      · obtain ⟨m, rfl⟩ : ∃ m, j = id + m := ⟨j - id, by omega⟩
        have e2 := new m b' (by omega) hb2
        subst e2
        exact absurd (fpw_fp hb1) (hn i)
      · obtain ⟨ki, kj, n, ci, cj, e1, e2, e3⟩ := h.sepf i j hij b' hb1 ((old j b' h2).1.1 hb2)
        exact ⟨ki, kj, n, ci, cj, by rw [hF, if_neg h1, e1], by rw [hF, if_neg h2, e2], e3⟩
  · intro i b' hb'
    by_cases h1 : id ≤ i ∧ i < id + os.length
    · obtain ⟨k, rfl⟩ : ∃ k, i = id + k := ⟨i - id, by omega⟩
      rw [new k b' (by omega) hb']
      exact hba
    · exact h.locf i b' ((old i b' h1).1.1 hb')
  · intro i b' hb'
    by_cases h1 : id ≤ i ∧ i < id + os.length
    · obtain ⟨k, rfl⟩ : ∃ k, i = id + k := ⟨i - id, by omega⟩
      rw [new k b' (by omega) (fpw_fp hb')]
      exact hb
    · exact h.locfw i b' ((old i b' h1).2.1 hb')
theorem HR.fresh {w0 : World} {A : List Nat} {W : WL} {U : Nat → Prop} {ρ : Rho} {F : Nat → AObj} {w : World} (h : HR w0 A W U ρ F w) (j : Nat) : ¬ fp (F j) (ρ j) w w.heap.size := fun e => Nat.lt_irrefl _ (h.flt e)
theorem boxOf_len (own : Bool) (n : Nat) : ∀ (cs : List Cell) (k : Nat), (boxOf own n k cs).length = cs.length
  | [], _ => rfl
  | _ :: r, k => by simp [boxOf, boxOf_len own n r]
theorem boxOf_get (own : Bool) (n : Nat) : ∀ (cs : List Cell) (k i : Nat) (c : Cell), cs[i]? = some c → (boxOf own n k cs).getD i .dead = .cell own (k + i) n c
  | [], _, _, _, h => by simp at h
  | x :: r, k, 0, c, h => by simp at h; subst h; rfl
  | x :: r, k, i + 1, c, h => by
    have := boxOf_get own n r (k + 1) i c (by simpa using h)
    simp only [boxOf, List.getD_cons_succ, this]
    congr 1
    omega
theorem known_get : ∀ {l : List Cell}, known l = true → ∀ {i : Nat} {c : Cell}, l[i]? = some c → c ≠ .unk
  | [], _, i, c, h => by simp at h
  | x :: r, hk, 0, c, h => by simp at h; subst h; exact (known_cons hk).1
  | x :: r, hk, i + 1, c, h => known_get (known_cons hk).2 (by simpa using h)
/-- A new box. -/
theorem HR.newBox {w0 : World} {A : List Nat} {W : WL} {U : Nat → Prop} {ρ : Rho} {F : Nat → AObj} {w : World} (h : HR w0 A W U ρ F w) (id : Nat) (cs : List Cell) (vs : Array Value) (el : TypeId)
    (hr : LRel ρ cs vs.toList) (hk : known cs = true) (hid : ∀ i, id ≤ i → i < id + cs.length → U i) :
    ∃ ρ', ext ρ ρ' ∧ (∀ i, ¬ (id ≤ i ∧ i < id + cs.length) → ρ' i = ρ i) ∧
      HR w0 A W (fun i => U i ∧ ¬ (id ≤ i ∧ i < id + cs.length)) ρ' (upd F (ups id (boxOf true cs.length 0 cs))) (w.alloc (.cells vs el)) ∧
      CRel ρ' (.ptr id cs.length) (.pointer (some ⟨w.heap.size, 0, none⟩)) := by
  have hl := hr.length
  let hs : List Value := (List.range cs.length).map fun k => .pointer (some ⟨w.heap.size, k, none⟩)
  have hhs : ∀ k, k < cs.length → hs[k]? = some (.pointer (some ⟨w.heap.size, k, none⟩)) := fun k hk => by simp [hs, hk]
  have hsl : hs.length = (boxOf true cs.length 0 cs).length := by simp [hs, boxOf_len]
  have hx : ext ρ (rhoAdd ρ id hs) := rhoAdd_ext fun i h1 h2 => h.fre i (hid i h1 (by simpa [hs] using h2))
  have H := h.news (w' := w.alloc (.cells vs el)) id (boxOf true cs.length 0 cs) hs w.heap.size hsl (by rw [boxOf_len]; exact hid) (World.grownBy_alloc w _ _) (.inl h.fr.size) (.inl h.fr.size)
    h.fresh
    (fun k hk b' hb => by rw [boxOf_len] at hk; rw [hhs k hk] at hb; simp [blk] at hb; omega)
    (fun k hk => by
      rw [boxOf_len] at hk
      obtain ⟨c, hc⟩ : ∃ c, cs[k]? = some c := ⟨cs[k], by simp [hk]⟩
      rw [boxOf_get true cs.length cs 0 k c hc]
      rfl)
    (.inr fun k hk => by
      rw [boxOf_len] at hk ⊢
      obtain ⟨c, hc⟩ : ∃ c, cs[k]? = some c := ⟨cs[k], by simp [hk]⟩
      exact ⟨c, by rw [boxOf_get true cs.length cs 0 k c hc, Nat.zero_add]⟩)
    (fun k hk' => by
      rw [boxOf_len] at hk'
      obtain ⟨c, hc⟩ : ∃ c, cs[k]? = some c := ⟨cs[k], by simp [hk']⟩
      obtain ⟨v, hv, hcr⟩ := hr.get k c hc
      rw [boxOf_get true cs.length cs 0 k c hc, hhs k hk']
      refine ⟨_, rfl, w.heap.size, k, vs, el, (0, 0), v, rfl, heap_alloc_new w _, by simpa using hv, hcr.mono hx, known_get hk hc, fun _ => ⟨by omega, by simpa using hl.symm, by omega⟩⟩)
  rw [boxOf_len] at H
  refine ⟨_, hx, fun i hi => by unfold rhoAdd; rw [if_neg (by simpa [hs] using hi)], H, w.heap.size, 0, rfl, fun k hk => ?_⟩
  rw [rhoAdd_in (by simpa [hs] using hk), hhs k hk, Nat.zero_add]
/-- A new row. -/
theorem HR.newRow {w0 : World} {A : List Nat} {W : WL} {U : Nat → Prop} {ρ : Rho} {F : Nat → AObj} {w w' : World} (h : HR w0 A W U ρ F w) (id : Nat) (own : Bool) (s : Sh) (xs : List s.T) (hd : Value) (b : Nat)
    (hid : U id) (g : w.grownBy w' (some b)) (hb : w0.heap.size ≤ b ∨ b ∈ W) (hba : w0.heap.size ≤ b ∨ b ∈ A) (hn : ∀ j, ¬ fp (F j) (ρ j) w b)
    (hbd : ∀ b', blk (some hd) = some b' → b' = b) (hr : RowRel own s xs hd w') :
    ∃ ρ', ext ρ ρ' ∧ (∀ i, i ≠ id → ρ' i = ρ i) ∧ HR w0 A W (fun i => U i ∧ i ≠ id) ρ' (upd F [(id, .row own s xs)]) w' ∧ CRel ρ' (.slc id) hd := by
  have hx : ext ρ (rhoAdd ρ id [hd]) := rhoAdd_ext fun i h1 h2 => by
    have : i = id := by simp at h2; omega
    subst this
    exact h.fre i hid
  have H := h.news (w' := w') id [.row own s xs] [hd] b rfl (fun i h1 h2 => by
    have : i = id := by simp at h2; omega
    exact this ▸ hid) g hb hba hn (fun k hk b' hbb => by
      have : k = 0 := by simp at hk; omega
      subst this
      exact hbd b' hbb) (fun k hk => by
      have : k = 0 := by simp at hk; omega
      subst this
      rfl) (.inl (by simp)) (fun k hk => by
      have : k = 0 := by simp at hk; omega
      subst this
      exact ⟨hd, rfl, hr⟩)
  have hrid : rhoAdd ρ id [hd] id = some hd := by have := rhoAdd_in (ρ := ρ) (id := id) (hs := [hd]) (k := 0) (by simp); simpa using this
  refine ⟨_, hx, fun i hi => by unfold rhoAdd; rw [if_neg (by simp; omega)], H.weak (fun i hi => ⟨hi.1, by simp; omega⟩), hrid, ?_⟩
  obtain ⟨a, cap, e, _⟩ := hr
  exact ⟨a, _, cap, e⟩
/-- A new object that lies in a block ars a whole. -/
theorem HR.newBlob {w0 : World} {A : List Nat} {W : WL} {U : Nat → Prop} {ρ : Rho} {F : Nat → AObj} {w w' : World} (h : HR w0 A W U ρ F w) (id : Nat) (own : Bool) (t : BT) (d : t.D) (hd : Value) (b : Nat)
    (hid : U id) (g : w.grownBy w' (some b)) (hb : w0.heap.size ≤ b ∨ b ∈ W) (hba : w0.heap.size ≤ b ∨ b ∈ A) (hn : ∀ j, ¬ fp (F j) (ρ j) w b) (hfl : t.flat = true)
    (hbd : ∀ b', blk (some hd) = some b' → b' = b) (hr : ∀ ρ', ext ρ ρ' → BlobRel ρ' own t d hd w') (hsh : (∃ r, hd = .map (some r) ∨ hd = .pointer (some ⟨r, 0, none⟩)) ∨ ∃ a n c, hd = .slice a n c) :
    ∃ ρ', ext ρ ρ' ∧ (∀ i, i ≠ id → ρ' i = ρ i) ∧ HR w0 A W (fun i => U i ∧ i ≠ id) ρ' (upd F [(id, .blob own t d)]) w' ∧ CRel ρ' (.mp id) hd := by
  have hx : ext ρ (rhoAdd ρ id [hd]) := rhoAdd_ext fun i h1 h2 => by
    have : i = id := by simp at h2; omega
    subst this
    exact h.fre i hid
  have H := h.news (w' := w') id [.blob own t d] [hd] b rfl (fun i h1 h2 => by
    have : i = id := by simp at h2; omega
    exact this ▸ hid) g hb hba hn (fun k hk b' hbb => by
      have : k = 0 := by simp at hk; omega
      subst this
      exact hbd b' hbb) (fun k hk => by
      have : k = 0 := by simp at hk; omega
      subst this
      exact hfl) (.inl (by simp)) (fun k hk => by
      have : k = 0 := by simp at hk; omega
      subst this
      exact ⟨hd, rfl, hr _ hx⟩)
  have hrid : rhoAdd ρ id [hd] id = some hd := by have := rhoAdd_in (ρ := ρ) (id := id) (hs := [hd]) (k := 0) (by simp); simpa using this
  exact ⟨_, hx, fun i hi => by unfold rhoAdd; rw [if_neg (by simp; omega)], H.weak (fun i hi => ⟨hi.1, by simp; omega⟩), hrid, hsh⟩
theorem RowRel.weak {o o' : Bool} {s : Sh} {xs : List s.T} {hd : Value} {w : World} (h : RowRel o s xs hd w) (ho : o' = true → o = true) : RowRel o' s xs hd w := by
  obtain ⟨a, cap, e, hl, hr⟩ := h
  refine ⟨a, cap, e, hl, ?_⟩
  cases a with
  | none => exact hr
  | some ad =>
    obtain ⟨hs, cs, el, fz, hh, hc, hw⟩ := hr
    exact ⟨hs, cs, el, fz, hh, hc, fun e => hw (ho e)⟩
theorem OutRel.weak {o o' : Bool} {sz n : Nat} {hd : Value} {w : World} (h : OutRel o sz n hd w) (ho : o' = true → o = true) : OutRel o' sz n hd w := by
  obtain ⟨a, cap, e, hl, hr⟩ := h
  refine ⟨a, cap, e, hl, ?_⟩
  cases a with
  | none => exact hr
  | some ad =>
    obtain ⟨hs, cs, el, fz, hh, hc, hw⟩ := hr
    exact ⟨hs, cs, el, fz, hh, hc, fun e => hw (ho e)⟩
theorem InnRel.weak {o o' : Bool} {s : Sh} {skip : Nat → Bool} {lo : Nat} {xss : List (List s.T)} {hd : Value} {w : World} (h : InnRel o s skip lo xss hd w) (ho : o' = true → o = true) : InnRel o' s skip lo xss hd w := by
  refine ⟨fun k xs hx hs => ?_, fun e => h.2 (ho e)⟩
  obtain ⟨v, hv, hr⟩ := h.1 k xs hx hs
  exact ⟨v, hv, hr.weak ho⟩
end Go.Proofs.YtiaagflfiphioaaDoorS
