/- What becomes of worlds and objects at an operation. -/
import Derived.Test.YtkaiidmnigpicaaGreatDoorSimC
namespace Go.Proofs.YtkaiidmnigpicaaGreatDoorS
open Go
set_option linter.unusedVariables false
set_option linter.unusedSimpArgs false

def upd (F : Nat → AObj) : List (Nat × AObj) → Nat → AObj
  | [] => F
  | (i, o) :: r => upd (fun j => if i = j then o else F j) r
theorem getF_setF (F : List (Nat × AObj)) (u : List (Nat × AObj)) : getF (setF F u) = upd (getF F) u := by
  induction u generalizing F with
  | nil => rfl
  | cons x r ih =>
    obtain ⟨i, o⟩ := x
    simp only [setF, upd]
    rw [ih]
    congr 1
    funext j
    by_cases h : i = j <;> simp [getF, h]
theorem upd_append (F : Nat → AObj) (u v : List (Nat × AObj)) : upd F (u ++ v) = upd (upd F u) v := by
  induction u generalizing F with
  | nil => rfl
  | cons x r ih => exact ih _
theorem upd_out (u : List (Nat × AObj)) (F : Nat → AObj) (j : Nat) (h : j ∉ u.map (·.1)) : upd F u j = F j := by
  induction u generalizing F with
  | nil => rfl
  | cons x r ih =>
    obtain ⟨i, o⟩ := x
    simp only [List.map_cons, List.mem_cons, not_or] at h
    simp only [upd]
    rw [ih _ h.2, if_neg (Ne.symm h.1)]
theorem ups_mem (os : List AObj) : ∀ (id j : Nat), j ∈ (ups id os).map (·.1) ↔ id ≤ j ∧ j < id + os.length := by
  induction os with
  | nil => intro id j; simp [ups]
  | cons o r ih =>
    intro id j
    simp only [ups, List.map_cons, List.mem_cons, ih, List.length_cons]
    omega
theorem upd_ups (os : List AObj) : ∀ (F : Nat → AObj) (id j : Nat), upd F (ups id os) j = if id ≤ j ∧ j < id + os.length then os.getD (j - id) .dead else F j := by
  induction os with
  | nil => intro F id j; simp only [ups, upd, List.length_nil]; rw [if_neg (by omega)]
  | cons o r ih =>
    intro F id j
    simp only [ups, upd]
    rw [ih]
    by_cases h : id + 1 ≤ j ∧ j < id + 1 + r.length
    · rw [if_pos h, if_pos (by simp; omega)]
      obtain ⟨m, hm⟩ : ∃ m, j - id = m + 1 := ⟨j - id - 1, by omega⟩
      rw [hm]
      have : j - (id + 1) = m := by omega
      rw [this]
      rfl
    · rw [if_neg h]
      by_cases h0 : id = j
      · subst h0
        rw [if_pos rfl, if_pos (by simp)]
        simp
      · rw [if_neg h0, if_neg (by simp; omega)]

theorem Fr.grown {w0 w w' : World} {W : WL} {row : Option Nat} (h : Fr w0 W w) (g : w.grownBy w' row) (hr : ∀ k, row = some k → w0.heap.size ≤ k ∨ k ∈ W) : Fr w0 W w' :=
  ⟨g.os.trans h.os, g.tape.trans h.tape, g.output.trans h.output, Nat.le_trans h.size g.size, fun b hb hn =>
    (g.block b (Nat.lt_of_lt_of_le hb h.size) (fun e => by rcases hr b e.symm with h1 | h1; omega; exact hn h1)).trans (h.block b hb hn), h.ok⟩
theorem Fr.drew {w0 w : World} {W : WL} (h : Fr w0 W w) (n : Nat) : Fr w0 W { w with drawn := n } := ⟨h.os, h.tape, h.output, h.size, h.block, h.ok⟩
theorem ORel.drew {ρ : Rho} {w : World} {o : AObj} {h : Option Value} (r : ORel ρ w o h) (n : Nat) : ORel ρ { w with drawn := n } o h := r.kept (ext.refl ρ) fun _ _ => rfl
theorem HR.drew {w0 : World} {A : List Nat} {W : WL} {U : Nat → Prop} {ρ : Rho} {F : Nat → AObj} {w : World} (h : HR w0 A W U ρ F w) (n : Nat) : HR w0 A W U ρ F { w with drawn := n } :=
  ⟨h.fr.drew n, h.fre, fun i => (h.obj i).drew n, h.sep, h.loc, h.locw⟩
theorem HR.weak {w0 : World} {A : List Nat} {W : WL} {U U' : Nat → Prop} {ρ : Rho} {F : Nat → AObj} {w : World} (h : HR w0 A W U ρ F w) (hu : ∀ i, U' i → U i) : HR w0 A W U' ρ F w :=
  ⟨h.fr, fun i hi => h.fre i (hu i hi), h.obj, h.sep, h.loc, h.locw⟩

/-- An object that keeps its number, its kind, and is not owned anew. -/
def MetaOk (a b : AObj) : Prop := b = .dead ∨ (∃ own k n c c', a = .cell own k n c ∧ b = .cell own k n c') ∨ (∃ own s xs own' s' xs', a = .row own s xs ∧ b = .row own' s' xs' ∧ (own' = true → own = true)) ∨ ∃ own t d own' t' d', a = .blob own t d ∧ b = .blob own' t' d' ∧ (own' = true → own = true)
theorem MetaOk.refl (a : AObj) : MetaOk a a := by
  cases a with
  | dead => exact .inl rfl
  | cell own k n c => exact .inr (.inl ⟨own, k, n, c, c, rfl, rfl⟩)
  | row own s xs => exact .inr (.inr (.inl ⟨own, s, xs, own, s, xs, rfl, rfl, id⟩))
  | blob own t d => exact .inr (.inr (.inr ⟨own, t, d, own, t, d, rfl, rfl, id⟩))
theorem MetaOk.live {a b : AObj} (h : MetaOk a b) (hl : b.live = true) : a.live = true := by
  rcases h with rfl | ⟨own, k, n, c, c', rfl, rfl⟩ | ⟨own, s, xs, own', s', xs', rfl, rfl, _⟩ | ⟨own, t, d, own', t', d', rfl, rfl, _⟩
  · simp [AObj.live] at hl
  · rfl
  · rfl
  · rfl
theorem MetaOk.own {a b : AObj} (h : MetaOk a b) (hl : b.own = true) : a.own = true := by
  rcases h with rfl | ⟨own, k, n, c, c', rfl, rfl⟩ | ⟨own, s, xs, own', s', xs', rfl, rfl, ho⟩ | ⟨own, t, d, own', t', d', rfl, rfl, ho⟩
  · simp [AObj.own] at hl
  · exact hl
  · exact ho hl
  · exact ho hl
theorem AObj.live_of_own {a : AObj} (h : a.own = true) : a.live = true := by cases a <;> simp_all [AObj.own, AObj.live]
/-- Objects turn in place: their blocks alone turn. -/
theorem HR.turn {w0 : World} {A : List Nat} {W : WL} {U : Nat → Prop} {ρ : Rho} {F F' : Nat → AObj} {w w' : World} {row : Option Nat} (h : HR w0 A W U ρ F w)
    (hm : ∀ i, MetaOk (F i) (F' i)) (g : w.grownBy w' row) (hr : ∀ k, row = some k → w0.heap.size ≤ k ∨ k ∈ W)
    (ho : ∀ i, (F' i).live = true → (∃ b, row = some b ∧ blk (ρ i) = some b) ∨ F' i ≠ F i → ORel ρ w' (F' i) (ρ i)) : HR w0 A W U ρ F' w' where
  fr := h.fr.grown g hr
  fre := h.fre
  obj := fun i => by
    by_cases hl : (F' i).live = true
    · by_cases hb : (∃ b, row = some b ∧ blk (ρ i) = some b) ∨ F' i ≠ F i
      · exact ho i hl hb
      · obtain ⟨h1, h2⟩ := not_or.1 hb
        have h2 := Classical.not_not.1 h2
        rw [h2] at hl ⊢
        exact (h.obj i).kept (ext.refl ρ) fun b hbb => g.block b (h.blt hl hbb) (fun e => h1 ⟨b, e.symm, hbb⟩)
    · cases hF : F' i with
      | dead => trivial
      | cell => rw [hF] at hl; simp [AObj.live] at hl
      | row => rw [hF] at hl; simp [AObj.live] at hl
      | blob => rw [hF] at hl; simp [AObj.live] at hl
  sep := fun i j hij hi hj b hb hb' => by
    obtain ⟨ki, kj, n, ci, cj, e1, e2, e3, e4⟩ := h.sep i j hij ((hm i).own hi) ((hm j).live hj) b hb hb'
    have m1 := hm i
    have m2 := hm j
    rw [e1] at m1
    rw [e2] at m2
    rcases m1 with m1 | ⟨own, k, n', c, c', q1, q2⟩ | ⟨own, s, xs, own', s', xs', q1, _⟩ | ⟨own, t, d, own', t', d', q1, _⟩
    · rw [m1] at hi; simp [AObj.own] at hi
    · cases q1
      rcases m2 with m2 | ⟨own2, k2, n2, c2, c2', q3, q4⟩ | ⟨own, s, xs, own', s', xs', q1, _⟩ | ⟨own, t, d, own', t', d', q1, _⟩
      · rw [m2] at hj; simp [AObj.live] at hj
      · cases q3
        exact ⟨ki, kj, n, c', c2', q2, q4, e3, e4⟩
      · cases q1
      · cases q1
    · cases q1
    · cases q1
  loc := fun i b hi hb => h.loc i b ((hm i).live hi) hb
  locw := fun i b hi hb => h.locw i b ((hm i).own hi) hb
theorem grownBy_self (w : World) (row : Option Nat) : w.grownBy w row := ⟨rfl, rfl, rfl, Nat.le_refl _, fun _ _ _ => rfl⟩
/-- Objects are let go, or are not owned any more: the world stays. -/
theorem HR.less {w0 : World} {A : List Nat} {W : WL} {U : Nat → Prop} {ρ : Rho} {F F' : Nat → AObj} {w : World} (h : HR w0 A W U ρ F w)
    (hm : ∀ i, MetaOk (F i) (F' i)) (ho : ∀ i, (F' i).live = true → F' i ≠ F i → ORel ρ w (F' i) (ρ i)) : HR w0 A W U ρ F' w :=
  h.turn hm (grownBy_self w none) (fun k e => by cases e) fun i hl hb => by
    rcases hb with ⟨b, e, _⟩ | hb
    · cases e
    · exact ho i hl hb
def rhoAdd (ρ : Rho) (id : Nat) (hs : List Value) : Rho := fun i => if id ≤ i ∧ i < id + hs.length then hs[i - id]? else ρ i
theorem rhoAdd_ext {ρ : Rho} {id : Nat} {hs : List Value} (hf : ∀ i, id ≤ i → i < id + hs.length → ρ i = none) : ext ρ (rhoAdd ρ id hs) := by
  intro i v hv
  unfold rhoAdd
  split
  · rename_i h; rw [hf i h.1 h.2] at hv; cases hv
  · exact hv
theorem rhoAdd_in {ρ : Rho} {id : Nat} {hs : List Value} {k : Nat} (h : k < hs.length) : rhoAdd ρ id hs (id + k) = hs[k]? := by
  unfold rhoAdd
  rw [if_pos (by omega)]
  congr 1
  omega
/-- New objects, all in one block where no object lies. -/
theorem HR.news {w0 : World} {A : List Nat} {W : WL} {U : Nat → Prop} {ρ : Rho} {F : Nat → AObj} {w w' : World} (h : HR w0 A W U ρ F w) (id : Nat) (os : List AObj) (hs : List Value) (b : Nat)
    (hlen : hs.length = os.length) (hid : ∀ i, id ≤ i → i < id + os.length → U i)
    (g : w.grownBy w' (some b)) (hb : w0.heap.size ≤ b ∨ b ∈ W) (hba : w0.heap.size ≤ b ∨ b ∈ A) (hn : ∀ j, (F j).live = true → blk (ρ j) ≠ some b)
    (hblk : ∀ k, k < os.length → ∀ b', blk hs[k]? = some b' → b' = b)
    (hone : os.length ≤ 1 ∨ ∀ k, k < os.length → ∃ c, os.getD k .dead = .cell true k os.length c)
    (ho : ∀ k, k < os.length → ORel (rhoAdd ρ id hs) w' (os.getD k .dead) hs[k]?) :
    HR w0 A W (fun i => U i ∧ ¬ (id ≤ i ∧ i < id + os.length)) (rhoAdd ρ id hs) (upd F (ups id os)) w' := by
  have hx : ext ρ (rhoAdd ρ id hs) := rhoAdd_ext fun i h1 h2 => h.fre i (hid i h1 (by omega))
  have hold : ∀ i, ¬ (id ≤ i ∧ i < id + os.length) → rhoAdd ρ id hs i = ρ i := fun i hi => by unfold rhoAdd; rw [if_neg (by omega)]
  have hnew : ∀ k, k < os.length → rhoAdd ρ id hs (id + k) = hs[k]? := fun k hk => rhoAdd_in (by omega)
  have hF : ∀ i, upd F (ups id os) i = if id ≤ i ∧ i < id + os.length then os.getD (i - id) .dead else F i := upd_ups os F id
  refine ⟨h.fr.grown g (fun k e => by cases e; exact hb), ?_, ?_, ?_, ?_, ?_⟩
  · intro i hi
    rw [hold i hi.2]
    exact h.fre i hi.1
  · intro i
    rw [hF]
    by_cases hi : id ≤ i ∧ i < id + os.length
    · rw [if_pos hi]
      obtain ⟨k, rfl⟩ : ∃ k, i = id + k := ⟨i - id, by omega⟩
      rw [hnew k (by omega)]
      have := ho k (by omega)
      rwa [Nat.add_sub_cancel_left]
    · rw [if_neg hi, hold i hi]
      by_cases hl : (F i).live = true
      · exact (h.obj i).kept hx fun b' hb' => g.block b' (h.blt hl hb') (fun e => by cases e; exact hn i hl hb')
      · cases hFi : F i with
        | dead => trivial
        | cell => rw [hFi] at hl; simp [AObj.live] at hl
        | row => rw [hFi] at hl; simp [AObj.live] at hl
        | blob => rw [hFi] at hl; simp [AObj.live] at hl
  · intro i j hij hi hj b' hb1 hb2
    rw [hF] at hi hj
    by_cases h1 : id ≤ i ∧ i < id + os.length
    · obtain ⟨k, rfl⟩ : ∃ k, i = id + k := ⟨i - id, by omega⟩
      rw [hnew k (by omega)] at hb1
      have e1 := hblk k (by omega) b' hb1
      subst e1
      by_cases h2 : id ≤ j ∧ j < id + os.length
      · obtain ⟨m, rfl⟩ : ∃ m, j = id + m := ⟨j - id, by omega⟩
        rcases hone with hone | hone
        · omega
        · obtain ⟨c1, q1⟩ := hone k (by omega)
          obtain ⟨c2, q2⟩ := hone m (by omega)
          refine ⟨k, m, os.length, c1, c2, ?_, ?_, by omega, by omega⟩
          · rw [hF, if_pos h1, Nat.add_sub_cancel_left, q1]
          · rw [hF, if_pos h2, Nat.add_sub_cancel_left, q2]
      · rw [if_neg h2] at hj
        rw [hold j h2] at hb2
        exact absurd hb2 (hn j hj)
    · rw [if_neg h1] at hi
      rw [hold i h1] at hb1
      by_cases h2 : id ≤ j ∧ j < id + os.length
      · obtain ⟨m, rfl⟩ : ∃ m, j = id + m := ⟨j - id, by omega⟩
        rw [hnew m (by omega)] at hb2
        have e2 := hblk m (by omega) b' hb2
        subst e2
        exact absurd hb1 (hn i (AObj.live_of_own hi))
      · rw [if_neg h2] at hj
        rw [hold j h2] at hb2
        obtain ⟨ki, kj, n, ci, cj, e1, e2, e3⟩ := h.sep i j hij hi hj b' hb1 hb2
        exact ⟨ki, kj, n, ci, cj, by rw [hF, if_neg h1, e1], by rw [hF, if_neg h2, e2], e3⟩
  · intro i b' hl hb'
    rw [hF] at hl
    by_cases h1 : id ≤ i ∧ i < id + os.length
    · obtain ⟨k, rfl⟩ : ∃ k, i = id + k := ⟨i - id, by omega⟩
      rw [hnew k (by omega)] at hb'
      rw [hblk k (by omega) b' hb']
      exact hba
    · rw [if_neg h1] at hl
      rw [hold i h1] at hb'
      exact h.loc i b' hl hb'
  · intro i b' hl hb'
    rw [hF] at hl
    by_cases h1 : id ≤ i ∧ i < id + os.length
    · obtain ⟨k, rfl⟩ : ∃ k, i = id + k := ⟨i - id, by omega⟩
      rw [hnew k (by omega)] at hb'
      rw [hblk k (by omega) b' hb']
      exact hb
    · rw [if_neg h1] at hl
      rw [hold i h1] at hb'
      exact h.locw i b' hl hb'
theorem boxOf_len (own : Bool) (n : Nat) : ∀ (cs : List Cell) (k : Nat), (boxOf own n k cs).length = cs.length
  | [], _ => rfl
  | _ :: r, k => by simp [boxOf, boxOf_len own n r]
theorem boxOf_get (own : Bool) (n : Nat) : ∀ (cs : List Cell) (k i : Nat) (c : Cell), cs[i]? = some c → (boxOf own n k cs).getD i .dead = .cell own (k + i) n c
  | [], _, _, _, h => by simp at h
  | x :: r, k, 0, c, h => by simp at h; subst h; rfl
  | x :: r, k, i + 1, c, h => by
    have := boxOf_get own n r (k + 1) i c (by simpa using h)
    simp only [boxOf, List.getD_cons_succ, this]
    congr 1
    omega
theorem known_get : ∀ {l : List Cell}, known l = true → ∀ {i : Nat} {c : Cell}, l[i]? = some c → c ≠ .unk
  | [], _, i, c, h => by simp at h
  | x :: r, hk, 0, c, h => by simp at h; subst h; exact (known_cons hk).1
  | x :: r, hk, i + 1, c, h => known_get (known_cons hk).2 (by simpa using h)
/-- A new box. -/
theorem HR.newBox {w0 : World} {A : List Nat} {W : WL} {U : Nat → Prop} {ρ : Rho} {F : Nat → AObj} {w : World} (h : HR w0 A W U ρ F w) (id : Nat) (cs : List Cell) (vs : Array Value) (el : TypeId)
    (hr : LRel ρ cs vs.toList) (hk : known cs = true) (hid : ∀ i, id ≤ i → i < id + cs.length → U i) :
    ∃ ρ', ext ρ ρ' ∧ (∀ i, ¬ (id ≤ i ∧ i < id + cs.length) → ρ' i = ρ i) ∧
      HR w0 A W (fun i => U i ∧ ¬ (id ≤ i ∧ i < id + cs.length)) ρ' (upd F (ups id (boxOf true cs.length 0 cs))) (w.alloc (.cells vs el)) ∧
      CRel ρ' (.ptr id cs.length) (.pointer (some ⟨w.heap.size, 0, none⟩)) := by
  have hl := hr.length
  let hs : List Value := (List.range cs.length).map fun k => .pointer (some ⟨w.heap.size, k, none⟩)
  have hhs : ∀ k, k < cs.length → hs[k]? = some (.pointer (some ⟨w.heap.size, k, none⟩)) := fun k hk => by simp [hs, hk]
  have hsl : hs.length = (boxOf true cs.length 0 cs).length := by simp [hs, boxOf_len]
  have hx : ext ρ (rhoAdd ρ id hs) := rhoAdd_ext fun i h1 h2 => h.fre i (hid i h1 (by simpa [hs] using h2))
  have H := h.news (w' := w.alloc (.cells vs el)) id (boxOf true cs.length 0 cs) hs w.heap.size hsl (by rw [boxOf_len]; exact hid) (World.grownBy_alloc w _ _) (.inl h.fr.size) (.inl h.fr.size)
    (fun j hj e => by have := h.blt hj e; omega)
    (fun k hk b' hb => by rw [boxOf_len] at hk; rw [hhs k hk] at hb; simp [blk] at hb; omega)
    (.inr fun k hk => by
      rw [boxOf_len] at hk ⊢
      obtain ⟨c, hc⟩ : ∃ c, cs[k]? = some c := ⟨cs[k], by simp [hk]⟩
      exact ⟨c, by rw [boxOf_get true cs.length cs 0 k c hc, Nat.zero_add]⟩)
    (fun k hk' => by
      rw [boxOf_len] at hk'
      obtain ⟨c, hc⟩ : ∃ c, cs[k]? = some c := ⟨cs[k], by simp [hk']⟩
      obtain ⟨v, hv, hcr⟩ := hr.get k c hc
      rw [boxOf_get true cs.length cs 0 k c hc, hhs k hk']
      refine ⟨_, rfl, w.heap.size, k, vs, el, (0, 0), v, rfl, heap_alloc_new w _, by simpa using hv, hcr.mono hx, known_get hk hc, fun _ => ⟨by omega, by simpa using hl.symm, by omega⟩⟩)
  rw [boxOf_len] at H
  refine ⟨_, hx, fun i hi => by unfold rhoAdd; rw [if_neg (by simpa [hs] using hi)], H, w.heap.size, 0, rfl, fun k hk => ?_⟩
  rw [rhoAdd_in (by simpa [hs] using hk), hhs k hk, Nat.zero_add]
/-- A new row. -/
theorem HR.newRow {w0 : World} {A : List Nat} {W : WL} {U : Nat → Prop} {ρ : Rho} {F : Nat → AObj} {w w' : World} (h : HR w0 A W U ρ F w) (id : Nat) (own : Bool) (s : Sh) (xs : List s.T) (hd : Value) (b : Nat)
    (hid : U id) (g : w.grownBy w' (some b)) (hb : w0.heap.size ≤ b ∨ b ∈ W) (hba : w0.heap.size ≤ b ∨ b ∈ A) (hn : ∀ j, (F j).live = true → blk (ρ j) ≠ some b)
    (hbd : ∀ b', blk (some hd) = some b' → b' = b) (hr : RowRel own s xs hd w') :
    ∃ ρ', ext ρ ρ' ∧ (∀ i, i ≠ id → ρ' i = ρ i) ∧ HR w0 A W (fun i => U i ∧ i ≠ id) ρ' (upd F [(id, .row own s xs)]) w' ∧ CRel ρ' (.slc id) hd := by
  have hx : ext ρ (rhoAdd ρ id [hd]) := rhoAdd_ext fun i h1 h2 => by
    have : i = id := by simp at h2; omega
    subst this
    exact h.fre i hid
  have H := h.news (w' := w') id [.row own s xs] [hd] b rfl (fun i h1 h2 => by
    have : i = id := by simp at h2; omega
    exact this ▸ hid) g hb hba hn (fun k hk b' hbb => by
      have : k = 0 := by simp at hk; omega
      subst this
      exact hbd b' hbb) (.inl (by simp)) (fun k hk => by
      have : k = 0 := by simp at hk; omega
      subst this
      exact ⟨hd, rfl, hr⟩)
  have hrid : rhoAdd ρ id [hd] id = some hd := by have := rhoAdd_in (ρ := ρ) (id := id) (hs := [hd]) (k := 0) (by simp); simpa using this
  refine ⟨_, hx, fun i hi => by unfold rhoAdd; rw [if_neg (by simp; omega)], H.weak (fun i hi => ⟨hi.1, by simp; omega⟩), hrid, ?_⟩
  obtain ⟨a, cap, e, _⟩ := hr
  exact ⟨a, _, cap, e⟩
/-- A new object that lies in a block ars a whole. -/
theorem HR.newBlob {w0 : World} {A : List Nat} {W : WL} {U : Nat → Prop} {ρ : Rho} {F : Nat → AObj} {w w' : World} (h : HR w0 A W U ρ F w) (id : Nat) (own : Bool) (t : BT) (d : t.D) (hd : Value) (b : Nat)
    (hid : U id) (g : w.grownBy w' (some b)) (hb : w0.heap.size ≤ b ∨ b ∈ W) (hba : w0.heap.size ≤ b ∨ b ∈ A) (hn : ∀ j, (F j).live = true → blk (ρ j) ≠ some b)
    (hbd : ∀ b', blk (some hd) = some b' → b' = b) (hr : BlobRel t d hd w') :
    ∃ ρ', ext ρ ρ' ∧ (∀ i, i ≠ id → ρ' i = ρ i) ∧ HR w0 A W (fun i => U i ∧ i ≠ id) ρ' (upd F [(id, .blob own t d)]) w' ∧ CRel ρ' (.mp id) hd := by
  have hx : ext ρ (rhoAdd ρ id [hd]) := rhoAdd_ext fun i h1 h2 => by
    have : i = id := by simp at h2; omega
    subst this
    exact h.fre i hid
  have H := h.news (w' := w') id [.blob own t d] [hd] b rfl (fun i h1 h2 => by
    have : i = id := by simp at h2; omega
    exact this ▸ hid) g hb hba hn (fun k hk b' hbb => by
      have : k = 0 := by simp at hk; omega
      subst this
      exact hbd b' hbb) (.inl (by simp)) (fun k hk => by
      have : k = 0 := by simp at hk; omega
      subst this
      exact ⟨hd, rfl, hr⟩)
  have hrid : rhoAdd ρ id [hd] id = some hd := by have := rhoAdd_in (ρ := ρ) (id := id) (hs := [hd]) (k := 0) (by simp); simpa using this
  refine ⟨_, hx, fun i hi => by unfold rhoAdd; rw [if_neg (by simp; omega)], H.weak (fun i hi => ⟨hi.1, by simp; omega⟩), hrid, ?_⟩
  obtain ⟨r, o, e, _⟩ := hr
  rw [e]
  exact t.mp_hd r
end Go.Proofs.YtkaiidmnigpicaaGreatDoorS
