/- Data renumbered; data that come back. -/
import Derived.Test.YtiaagflfiphioaaDoorSimO
namespace Go.Proofs.YtiaagflfiphioaaDoorS
open Go
set_option linter.unusedVariables false
set_option linter.unusedSimpArgs false

theorem unpack_len (t : Ty) : ∀ (d : t.D) (b n : Nat), (t.unpack d b n).2.length = t.cnt ∧ (t.unpack d b n).1.length = t.len := by
  induction t with
  | box own t ih =>
    intro d b n
    have := ih d b n
    simp only [Ty.unpack, Ty.cnt, Ty.len]
    generalize t.unpack d b n = p at this
    obtain ⟨cs, os⟩ := p
    simp only at this
    simp [boxOf_len, this.1, this.2]
  | clo f t ih =>
    intro d b n
    have := ih d b n
    simp only [Ty.unpack, Ty.cnt, Ty.len]
    generalize t.unpack d b n = p at this
    obtain ⟨cs, os⟩ := p
    simp only at this
    simp [this.1]
  | cons u v ihu ihv =>
    intro d b n
    have h1 := ihu d.1 b n
    simp only [Ty.unpack, Ty.cnt, Ty.len]
    generalize u.unpack d.1 b n = p at h1
    obtain ⟨cs, os⟩ := p
    have h2 := ihv d.2 b (n + os.length)
    dsimp only
    generalize v.unpack d.2 b (n + os.length) = q at h2
    obtain ⟨cs2, os2⟩ := q
    simp only at h1 h2
    simp [h1.1, h1.2, h2.1, h2.2]
  | _ => intro d b n; exact ⟨rfl, rfl⟩
/-- Boxes lie whole. -/
def Grp (os : List AObj) : Prop := ∀ (q : Nat) (own : Bool) (k n : Nat) (c : Cell), os[q]? = some (.cell own k n c) → k ≤ q ∧ q - k + n ≤ os.length
theorem Grp.append {o1 o2 : List AObj} (h1 : Grp o1) (h2 : Grp o2) : Grp (o1 ++ o2) := by
  intro q own k n c h
  by_cases hq : q < o1.length
  · rw [List.getElem?_append_left hq] at h
    have := h1 q own k n c h
    simp
    omega
  · rw [List.getElem?_append_right (by omega)] at h
    have := h2 _ own k n c h
    simp
    omega
theorem boxOf_cell {own : Bool} {n : Nat} {cs : List Cell} {q : Nat} {o : Bool} {k m : Nat} {c : Cell} (h : (boxOf own n 0 cs)[q]? = some (.cell o k m c)) : o = own ∧ k = q ∧ m = n ∧ cs[q]? = some c := by
  have hq : q < cs.length := by have := (List.getElem?_eq_some_iff.1 h).1; rwa [boxOf_len] at this
  have := boxOf_get own n cs 0 q cs[q] (by simp [hq])
  rw [List.getD_eq_getElem?_getD, h] at this
  simp at this
  obtain ⟨rfl, rfl, rfl, rfl⟩ := this
  exact ⟨rfl, rfl, rfl, by simp [hq]⟩
theorem unpack_grp (t : Ty) : ∀ (d : t.D) (b n : Nat), Grp (t.unpack d b n).2 := by
  have hnil : Grp [] := fun q own k n c h => by simp at h
  induction t with
  | slc own s => intro d b n q o k m c h; cases q <;> simp [Ty.unpack] at h
  | blob own t => intro d b n q o k m c h; cases q <;> simp [Ty.unpack] at h
  | box own t ih =>
    intro d b n
    have := ih d b n
    simp only [Ty.unpack]
    generalize t.unpack d b n = p at this
    obtain ⟨cs, os⟩ := p
    simp only at this ⊢
    refine this.append fun q o k m c h => ?_
    obtain ⟨rfl, rfl, rfl, hc⟩ := boxOf_cell h
    rw [boxOf_len]
    omega
  | clo f t ih =>
    intro d b n
    have := ih d b n
    simp only [Ty.unpack]
    generalize t.unpack d b n = p at this
    obtain ⟨cs, os⟩ := p
    exact this
  | cons u v ihu ihv =>
    intro d b n
    have h1 := ihu d.1 b n
    simp only [Ty.unpack]
    generalize u.unpack d.1 b n = p at h1
    obtain ⟨cs, os⟩ := p
    have h2 := ihv d.2 b (n + os.length)
    dsimp only
    generalize v.unpack d.2 b (n + os.length) = q at h2
    obtain ⟨cs2, os2⟩ := q
    exact h1.append h2
  | _ => intro d b n; exact hnil
def CM (ρx ρ' : Rho) (c c' : Cell) : Prop := (∀ v, CRel ρx c v → CRel ρ' c' v) ∧ (c ≠ .unk → c' ≠ .unk)
def LM (ρx ρ' : Rho) : List Cell → List Cell → Prop
  | [], [] => True
  | a :: ars, b :: bs => CM ρx ρ' a b ∧ LM ρx ρ' ars bs
  | _, _ => False
theorem LM.append {ρx ρ' : Rho} : ∀ {a b c d : List Cell}, LM ρx ρ' a b → LM ρx ρ' c d → LM ρx ρ' (a ++ c) (b ++ d)
  | [], [], _, _, _, h => h
  | _ :: _, _ :: _, _, _, ⟨g, h⟩, k => ⟨g, LM.append h k⟩
theorem LM.relP {ρx ρ' : Rho} : ∀ {a b : List Cell}, LM ρx ρ' a b → RelP ρx ρ' a b
  | [], [], _ => trivial
  | _ :: _, _ :: _, ⟨g, h⟩ => ⟨g.1, LM.relP h⟩
theorem LM.get {ρx ρ' : Rho} : ∀ {a b : List Cell} (_ : LM ρx ρ' a b) (i : Nat) (c c' : Cell), a[i]? = some c → b[i]? = some c' → CM ρx ρ' c c'
  | [], [], _, _, _, _, h, _ => by simp at h
  | _ :: _, _ :: _, ⟨g, _⟩, 0, c, c', h, h' => by simp at h h'; exact h ▸ h' ▸ g
  | _ :: _, _ :: _, ⟨_, h⟩, i + 1, c, c', e, e' => LM.get h i c c' (by simpa using e) (by simpa using e')
def NewL (ρx ρ' : Rho) : List AObj → List AObj → Prop
  | [], [] => True
  | a :: ars, b :: bs => NewAt ρx ρ' a b ∧ NewL ρx ρ' ars bs
  | _, _ => False
theorem NewL.append {ρx ρ' : Rho} : ∀ {a b c d : List AObj}, NewL ρx ρ' a b → NewL ρx ρ' c d → NewL ρx ρ' (a ++ c) (b ++ d)
  | [], [], _, _, _, h => h
  | _ :: _, _ :: _, _, _, ⟨g, h⟩, k => ⟨g, NewL.append h k⟩
theorem NewL.get {ρx ρ' : Rho} : ∀ {a b : List AObj} (_ : NewL ρx ρ' a b) (i : Nat), NewAt ρx ρ' (a.getD i .dead) (b.getD i .dead)
  | [], [], _, i => by simp; rfl
  | _ :: _, _ :: _, ⟨g, _⟩, 0 => by simpa using g
  | _ :: _, _ :: _, ⟨_, h⟩, i + 1 => by simpa using NewL.get h i
theorem boxOf_new {ρx ρ' : Rho} (own : Bool) (n : Nat) : ∀ {a b : List Cell} (k : Nat), LM ρx ρ' a b → NewL ρx ρ' (boxOf own n k a) (boxOf own n k b)
  | [], [], _, _ => trivial
  | a :: ars, b :: bs, k, ⟨g, h⟩ => ⟨⟨b, rfl, g.1, g.2⟩, boxOf_new own n (k + 1) h⟩
theorem LM.len {ρ ρ' : Rho} : ∀ {a b : List Cell}, LM ρ ρ' a b → b.length = a.length
  | [], [], _ => rfl
  | _ :: _, _ :: _, ⟨_, h⟩ => by simp [LM.len h]
/-- Cells that have the same form, renumbered. -/
def Same (ρx ρ' : Rho) : Cell → Cell → Prop
  | .ptr i n, .ptr i' n' => n = n' ∧ ∀ k v, k < n → ρx (i + k) = some v → ρ' (i' + k) = some v
  | .ptr _ _, _ => False
  | c, c' => (ptrsOf [c'] = [(0, 0)])
theorem Same.ptr {ρx ρ' : Rho} {c c' : Cell} (h : Same ρx ρ' c c') (v : Value) (p : PtrAt ρx ((ptrsOf [c]).headD (0, 0)).1 ((ptrsOf [c]).headD (0, 0)).2 v) : PtrAt ρ' ((ptrsOf [c']).headD (0, 0)).1 ((ptrsOf [c']).headD (0, 0)).2 v := by
  cases c with
  | ptr i n =>
    cases c' with
    | ptr i' n' =>
      obtain ⟨rfl, h⟩ := h
      obtain ⟨b, o, e, g⟩ := p
      exact ⟨b, o, e, fun k hk => h k _ hk (g k hk)⟩
    | _ => exact h.elim
  | _ =>
    have h : ptrsOf [c'] = [(0, 0)] := h
    rw [h]
    obtain ⟨b, o, e, _⟩ := p
    exact ⟨b, o, e, fun k hk => by simp at hk⟩
def SameL (ρx ρ' : Rho) : List Cell → List Cell → Prop
  | [], [] => True
  | a :: ars, b :: bs => Same ρx ρ' a b ∧ SameL ρx ρ' ars bs
  | _, _ => False
theorem SameL.append {ρx ρ' : Rho} : ∀ {a b c d : List Cell}, SameL ρx ρ' a b → SameL ρx ρ' c d → SameL ρx ρ' (a ++ c) (b ++ d)
  | [], [], _, _, _, h => h
  | _ :: _, _ :: _, _, _, ⟨g, h⟩, k => ⟨g, SameL.append h k⟩
theorem SameL.caps {ρx ρ' : Rho} : ∀ {a b : List Cell} {vs : List Value}, SameL ρx ρ' a b → CapsAt ρx (ptrsOf a) vs → CapsAt ρ' (ptrsOf b) vs
  | [], [], [], _, _ => trivial
  | [], [], _ :: _, _, h => h.elim
  | _ :: _, _ :: _, [], _, h => h.elim
  | a :: ars, b :: bs, v :: vs, ⟨h, hs⟩, ⟨g, gs⟩ => ⟨h.ptr v g, hs.caps gs⟩
/-- The same data under other numbers. -/
theorem unpack_shift {ρx ρ' : Rho} (N : Nat) (t : Ty) : ∀ (d : t.D) (b n b' n' : Nat), t.refB N = true → (∀ j v, j < N → ρx (b + j) = some v → ρ' (b' + j) = some v) → (∀ k v, k < t.cnt → ρx (n + k) = some v → ρ' (n' + k) = some v) →
    LM ρx ρ' (t.unpack d b n).1 (t.unpack d b' n').1 ∧ SameL ρx ρ' (t.unpack d b n).1 (t.unpack d b' n').1 ∧ NewL ρx ρ' (t.unpack d b n).2 (t.unpack d b' n').2 := by
  induction t with
  | unk => intro d b n b' n' _ _ _; exact ⟨⟨⟨fun _ h => h, fun h => h⟩, trivial⟩, ⟨rfl, trivial⟩, trivial⟩
  | any => intro d b n b' n' _ _ _; exact ⟨⟨⟨fun _ h => h, fun h => h⟩, trivial⟩, ⟨rfl, trivial⟩, trivial⟩
  | int k => intro d b n b' n' _ _ _; exact ⟨⟨⟨fun _ h => h, fun h => h⟩, trivial⟩, ⟨rfl, trivial⟩, trivial⟩
  | bool => intro d b n b' n' _ _ _; exact ⟨⟨⟨fun _ h => h, fun h => h⟩, trivial⟩, ⟨rfl, trivial⟩, trivial⟩
  | str => intro d b n b' n' _ _ _; exact ⟨⟨⟨fun _ h => h, fun h => h⟩, trivial⟩, ⟨rfl, trivial⟩, trivial⟩
  | blob own t =>
    intro d b n b' n' hr _ hn
    refine ⟨⟨⟨fun v h => ⟨?_, h.2⟩, fun h => by simp⟩, trivial⟩, ⟨rfl, trivial⟩, ⟨⟨rfl, hr⟩, trivial⟩⟩
    have := hn 0 v (by simp [Ty.cnt]) h.1
    exact this
  | slc own s =>
    intro d b n b' n' _ _ hn
    refine ⟨⟨⟨fun v h => ⟨?_, h.2⟩, fun h => by simp⟩, trivial⟩, ⟨rfl, trivial⟩, ⟨rfl, trivial⟩⟩
    have := hn 0 v (by simp [Ty.cnt]) h.1
    exact this
  | box own t ih =>
    intro d b n b' n' hr hb hn
    have h1 := ih d b n b' n' hr hb (fun k v hk h => hn k v (by simp only [Ty.cnt]; omega) h)
    obtain ⟨l1, l2⟩ := unpack_len t d b n
    obtain ⟨l3, l4⟩ := unpack_len t d b' n'
    revert h1 l1 l2 l3 l4
    simp only [Ty.unpack]
    generalize t.unpack d b n = p
    generalize t.unpack d b' n' = q
    obtain ⟨cs, os⟩ := p
    obtain ⟨cs', os'⟩ := q
    intro h1 l1 l2 l3 l4
    obtain ⟨a1, a2, a3⟩ := h1
    simp only at *
    have hk : ∀ k v, k < cs.length → ρx (n + os.length + k) = some v → ρ' (n' + os'.length + k) = some v := fun k v hk h => by
      have := hn (os.length + k) v (by simp only [Ty.cnt]; omega) (by rw [← Nat.add_assoc]; exact h)
      rw [l3, ← l1, Nat.add_assoc]
      exact this
    refine ⟨⟨⟨fun v h => ?_, fun h => by simp⟩, trivial⟩, ⟨⟨by omega, fun k v hk' h => hk k v hk' h⟩, trivial⟩, a3.append ?_⟩
    · obtain ⟨bb, o, e, g⟩ := h
      exact ⟨bb, o, e, fun k hk' => hk k _ (by omega) (g k (by omega))⟩
    · rw [show cs'.length = cs.length by omega]
      exact boxOf_new own _ 0 a1
  | ref j m =>
    intro d b n b' n' hr hb hn
    simp only [Ty.refB, decide_eq_true_eq] at hr
    have hk : ∀ k v, k < m → ρx (b + j + k) = some v → ρ' (b' + j + k) = some v := fun k v hk h => by
      have := hb (j + k) v (by omega) (by rw [← Nat.add_assoc]; exact h)
      rw [Nat.add_assoc]
      exact this
    refine ⟨⟨⟨fun v h => ?_, fun h => by simp [Ty.unpack]⟩, trivial⟩, ⟨⟨rfl, hk⟩, trivial⟩, trivial⟩
    obtain ⟨bb, o, e, g⟩ := h
    exact ⟨bb, o, e, fun k hk' => hk k _ hk' (g k hk')⟩
  | sref j =>
    intro d b n b' n' hr hb hn
    simp only [Ty.refB, decide_eq_true_eq] at hr
    exact ⟨⟨⟨fun v h => ⟨hb j v hr h.1, h.2⟩, fun h => by simp [Ty.unpack]⟩, trivial⟩, ⟨rfl, trivial⟩, trivial⟩
  | mref j =>
    intro d b n b' n' hr hb hn
    simp only [Ty.refB, decide_eq_true_eq] at hr
    exact ⟨⟨⟨fun v h => ⟨hb j v hr h.1, h.2⟩, fun h => by simp [Ty.unpack]⟩, trivial⟩, ⟨rfl, trivial⟩, trivial⟩
  | clo f t ih =>
    intro d b n b' n' hr hb hn
    have h1 := ih d b n b' n' hr hb hn
    revert h1
    simp only [Ty.unpack]
    generalize t.unpack d b n = p
    generalize t.unpack d b' n' = q
    obtain ⟨cs, os⟩ := p
    obtain ⟨cs', os'⟩ := q
    intro h1
    obtain ⟨a1, a2, a3⟩ := h1
    refine ⟨⟨⟨fun v h => ?_, fun h => by simp⟩, trivial⟩, ⟨rfl, trivial⟩, a3⟩
    obtain ⟨ars, e, g⟩ := h
    exact ⟨ars, e, a2.caps g⟩
  | nil => intro d b n b' n' _ _ _; exact ⟨trivial, trivial, trivial⟩
  | cons u v ihu ihv =>
    intro d b n b' n' hr hb hn
    simp only [Ty.refB, Bool.and_eq_true] at hr
    simp only [Ty.cnt] at hn
    have h1 := ihu d.1 b n b' n' hr.1 hb (fun k x hk h => hn k x (by omega) h)
    obtain ⟨l1, _⟩ := unpack_len u d.1 b n
    obtain ⟨l2, _⟩ := unpack_len u d.1 b' n'
    have h2 := ihv d.2 b (n + (u.unpack d.1 b n).2.length) b' (n' + (u.unpack d.1 b' n').2.length) hr.2 hb (fun k x hk h => by
      rw [l2, Nat.add_assoc]
      exact hn (u.cnt + k) x (by omega) (by rw [l1, Nat.add_assoc] at h; exact h))
    revert h1 h2
    simp only [Ty.unpack]
    generalize u.unpack d.1 b n = p
    generalize u.unpack d.1 b' n' = q
    obtain ⟨cs, os⟩ := p
    obtain ⟨cs', os'⟩ := q
    dsimp only
    generalize v.unpack d.2 b (n + os.length) = p2
    generalize v.unpack d.2 b' (n' + os'.length) = q2
    obtain ⟨cs2, os2⟩ := p2
    obtain ⟨cs2', os2'⟩ := q2
    intro h1 h2
    exact ⟨h1.1.append h2.1, h1.2.1.append h2.2.1, h1.2.2.append h2.2.2⟩
end Go.Proofs.YtiaagflfiphioaaDoorS
