/- How data without addresses stand to the model's worlds. -/
import Derived.Test.YtkaiidmnigpicaaGreatDoorSimB
import Derived.Test.YtkaiidmnigpicaaGreatDoorWI
import Derived.Below
import Derived.Laws.IdiomCopy
import Derived.Laws.IdiomStrings
import Derived.Laws.BytesString
import Derived.Laws.Append
import Derived.Laws.AppendOwn
import Derived.Laws.MakeOwn
import Derived.Laws.Slices
import Derived.Laws.Strings
import Derived.Laws.Small
import Derived.Laws.StructEq
import Derived.Laws.Build
namespace Go.Proofs.YtkaiidmnigpicaaGreatDoorS
open Go
set_option linter.unusedVariables false
set_option linter.unusedSimpArgs false

abbrev Rho := Nat → Option Value
def ext (ρ ρ' : Rho) : Prop := ∀ i v, ρ i = some v → ρ' i = some v
theorem ext.refl (ρ : Rho) : ext ρ ρ := fun _ _ h => h
theorem ext.trans {a b c : Rho} (h : ext a b) (h' : ext b c) : ext a c := fun i v e => h' i v (h i v e)

def PtrAt (ρ : Rho) (id n : Nat) (v : Value) : Prop := ∃ b o, v = .pointer (some ⟨b, o, none⟩) ∧ ∀ k, k < n → ρ (id + k) = some (.pointer (some ⟨b, o + k, none⟩))
def CapsAt (ρ : Rho) : List (Nat × Nat) → List Value → Prop
  | [], [] => True
  | (i, n) :: r, v :: vs => PtrAt ρ i n v ∧ CapsAt ρ r vs
  | _, _ => False
def CRel (ρ : Rho) : Cell → Value → Prop
  | .unk, _ => True
  | .int k n, v => v = .int k n
  | .bool b, v => v = .bool b
  | .str s, v => v = .string s
  | .ptr id n, v => PtrAt ρ id n v
  | .pel id i sz off, v => ∃ b o len cap, ρ id = some (.slice (some ⟨b, o, none⟩) len cap) ∧ i < len ∧ v = .pointer (some ⟨b, o + (i * sz + off), none⟩)
  | .slv id lo n sz, v => ∃ a len cap, ρ id = some (.slice a len cap) ∧ lo + n ≤ len ∧ v = .slice (if cap = lo then a else a.map (·.add (lo * sz))) n (cap - lo)
  | .slc id, v => ρ id = some v ∧ ∃ a n c, v = .slice a n c
  | .nils, v => v = .slice none 0 0
  | .nilp, v => v = .pointer none
  | .nilf, v => v = .nilFunc
  | .nili, v => v = .nilIface
  | .nilm, v => v = .map none
  | .clo f caps, v => ∃ cs, v = .func (.func f) #[] cs ∧ CapsAt ρ caps cs.toList
  | .mp id, v => ρ id = some v ∧ ∃ r, v = .map (some r) ∨ v = .pointer (some ⟨r, 0, none⟩)
def LRel (ρ : Rho) : List Cell → List Value → Prop
  | [], [] => True
  | c :: cs, v :: vs => CRel ρ c v ∧ LRel ρ cs vs
  | _, _ => False
def TRel (ρ : Rho) : List (Bool × List Cell) → List Value → Prop
  | [], [] => True
  | (a, cs) :: r, v :: vs => (if a then ∃ l, v = .agg l ∧ LRel ρ cs l.toList else ∃ c, cs = [c] ∧ CRel ρ c v) ∧ TRel ρ r vs
  | _, _ => False
def VRel (ρ : Rho) : AVal → Value → Prop
  | .c x, v => CRel ρ x v
  | .agg l, v => ∃ cs, v = .agg cs ∧ LRel ρ l cs.toList
  | .tup l, v => ∃ vs, v = .tuple vs ∧ TRel ρ l vs.toList

theorem PtrAt.mono {ρ ρ' : Rho} (h : ext ρ ρ') {i n : Nat} {v : Value} (p : PtrAt ρ i n v) : PtrAt ρ' i n v := by
  obtain ⟨b, o, e, f⟩ := p
  exact ⟨b, o, e, fun k hk => h _ _ (f k hk)⟩
theorem CapsAt.mono {ρ ρ' : Rho} (h : ext ρ ρ') : ∀ {l : List (Nat × Nat)} {vs : List Value}, CapsAt ρ l vs → CapsAt ρ' l vs
  | [], [], _ => trivial
  | (_, _) :: _, _ :: _, ⟨a, b⟩ => ⟨a.mono h, CapsAt.mono h b⟩
theorem CRel.mono {ρ ρ' : Rho} (h : ext ρ ρ') {c : Cell} {v : Value} (r : CRel ρ c v) : CRel ρ' c v := by
  cases c <;> simp only [CRel] at r ⊢ <;> first
    | exact r
    | exact r.mono h
    | (obtain ⟨b, o, len, cap, e, f⟩ := r; exact ⟨b, o, len, cap, h _ _ e, f⟩)
    | (obtain ⟨a, len, cap, e, f⟩ := r; exact ⟨a, len, cap, h _ _ e, f⟩)
    | exact ⟨h _ _ r.1, r.2⟩
    | (obtain ⟨cs, e, f⟩ := r; exact ⟨cs, e, f.mono h⟩)
theorem LRel.mono {ρ ρ' : Rho} (h : ext ρ ρ') : ∀ {l : List Cell} {vs : List Value}, LRel ρ l vs → LRel ρ' l vs
  | [], [], _ => trivial
  | _ :: _, _ :: _, ⟨a, b⟩ => ⟨a.mono h, LRel.mono h b⟩
theorem TRel.mono {ρ ρ' : Rho} (h : ext ρ ρ') : ∀ {l : List (Bool × List Cell)} {vs : List Value}, TRel ρ l vs → TRel ρ' l vs
  | [], [], _ => trivial
  | (a, cs) :: _, _ :: _, ⟨x, y⟩ => by
    refine ⟨?_, TRel.mono h y⟩
    cases a
    · obtain ⟨c, e, f⟩ := x; exact ⟨c, e, f.mono h⟩
    · obtain ⟨l, e, f⟩ := x; exact ⟨l, e, f.mono h⟩
theorem VRel.mono {ρ ρ' : Rho} (h : ext ρ ρ') {a : AVal} {v : Value} (r : VRel ρ a v) : VRel ρ' a v := by
  cases a <;> simp only [VRel] at r ⊢
  · exact r.mono h
  · obtain ⟨cs, e, f⟩ := r; exact ⟨cs, e, f.mono h⟩
  · obtain ⟨cs, e, f⟩ := r; exact ⟨cs, e, f.mono h⟩
theorem LRel.length {ρ : Rho} : ∀ {l : List Cell} {vs : List Value}, LRel ρ l vs → l.length = vs.length
  | [], [], _ => rfl
  | _ :: _, _ :: _, ⟨_, b⟩ => by simp [LRel.length b]
theorem LRel.append {ρ : Rho} : ∀ {a : List Cell} {x : List Value} {b : List Cell} {y : List Value}, LRel ρ a x → LRel ρ b y → LRel ρ (a ++ b) (x ++ y)
  | [], [], _, _, _, h => h
  | _ :: _, _ :: _, _, _, ⟨p, q⟩, h => ⟨p, LRel.append q h⟩
theorem LRel.split {ρ : Rho} : ∀ {a : List Cell} {b : List Cell} {v : List Value}, LRel ρ (a ++ b) v → ∃ x y, v = x ++ y ∧ LRel ρ a x ∧ LRel ρ b y
  | [], _, v, h => ⟨[], v, rfl, trivial, h⟩
  | _ :: a, _, [], h => h.elim
  | _ :: a, _, v :: vs, ⟨p, q⟩ => by
    obtain ⟨x, y, e, hx, hy⟩ := LRel.split q
    exact ⟨v :: x, y, by rw [e]; rfl, ⟨p, hx⟩, hy⟩
theorem LRel.take {ρ : Rho} : ∀ (n : Nat) {l : List Cell} {vs : List Value}, LRel ρ l vs → LRel ρ (l.take n) (vs.take n)
  | 0, _, _, _ => trivial
  | _ + 1, [], [], _ => trivial
  | n + 1, _ :: _, _ :: _, ⟨a, b⟩ => ⟨a, LRel.take n b⟩
theorem LRel.drop {ρ : Rho} : ∀ (n : Nat) {l : List Cell} {vs : List Value}, LRel ρ l vs → LRel ρ (l.drop n) (vs.drop n)
  | 0, _, _, h => h
  | _ + 1, [], [], _ => trivial
  | n + 1, _ :: _, _ :: _, ⟨_, b⟩ => LRel.drop n b
theorem LRel.get {ρ : Rho} : ∀ {l : List Cell} {vs : List Value} (_ : LRel ρ l vs) (i : Nat) (c : Cell), l[i]? = some c → ∃ v, vs[i]? = some v ∧ CRel ρ c v
  | [], [], _, _, _, h => by simp at h
  | _ :: _, v :: _, ⟨a, _⟩, 0, _, h => ⟨v, rfl, by simp at h; exact h ▸ a⟩
  | _ :: _, _ :: _, ⟨_, b⟩, i + 1, c, h => LRel.get b i c (by simpa using h)

theorem CRel.one {ρ : Rho} {c : Cell} {v : Value} (h : CRel ρ c v) (hk : c ≠ .unk) : v.oneCell' = true := by
  cases c <;> simp only [CRel] at h
  case unk => exact absurd rfl hk
  case ptr => obtain ⟨b, o, e, _⟩ := h; subst e; rfl
  case pel => obtain ⟨b, o, len, cap, _, _, e⟩ := h; subst e; rfl
  case slc => obtain ⟨_, a, n, c, e⟩ := h; subst e; rfl
  case slv => obtain ⟨a, len, cap, _, _, e⟩ := h; subst e; rfl
  case clo => obtain ⟨cs, e, _⟩ := h; subst e; rfl
  case mp => obtain ⟨_, r, e⟩ := h; rcases e with e | e <;> (subst e; rfl)
  all_goals (subst h; rfl)
theorem known_cons {c : Cell} {r : List Cell} (h : known (c :: r) = true) : c ≠ .unk ∧ known r = true := by
  cases c <;> simp_all [known]
theorem LRel.one {ρ : Rho} : ∀ {l : List Cell} {vs : List Value}, LRel ρ l vs → known l = true → ∀ v ∈ vs, v.oneCell' = true
  | [], [], _, _, _, h => by simp at h
  | c :: l, v :: vs, ⟨a, b⟩, hk, u, hu => by
    obtain ⟨h1, h2⟩ := known_cons hk
    rcases List.mem_cons.1 hu with rfl | hu
    · exact a.one h1
    · exact LRel.one b h2 u hu
/-- A value's cells. -/
theorem VRel.cells {ρ : Rho} {a : AVal} {v : Value} (h : VRel ρ a v) (ht : ∀ l, a ≠ .tup l) (hk : known a.cells = true) : LRel ρ a.cells v.cells.toList := by
  cases a with
  | c x =>
    have h1 := (known_cons hk).1
    have h2 := CRel.one (show CRel ρ x v from h) h1
    have : v.cells = #[v] := by cases v <;> first | rfl | simp [Value.oneCell'] at h2
    rw [this]
    exact ⟨h, trivial⟩
  | agg l => obtain ⟨cs, e, f⟩ := h; subst e; exact f
  | tup l => exact absurd rfl (ht l)

/-! ### Rows -/
def Sh.vals : (s : Sh) → s.T → List Value
  | .int k, n => [.int k n] | .bool, b => [.bool b] | .str, s => [.string s] | .unit, _ => [] | .pair a b, x => a.vals x.1 ++ b.vals x.2
/-- An element ars one value. -/
def Sh.val : (s : Sh) → s.T → Value
  | .int k, n => .int k n | .bool, b => .bool b | .str, s => .string s | .unit, _ => .agg #[] | .pair a b, x => .agg (a.vals x.1 ++ b.vals x.2).toArray
theorem Sh.vals_len : ∀ (s : Sh) (x : s.T), (s.vals x).length = s.sz
  | .int _, _ | .bool, _ | .str, _ | .unit, _ => rfl
  | .pair a b, x => by simp [Sh.vals, Sh.sz, Sh.vals_len a, Sh.vals_len b]
theorem Sh.cells_len : ∀ (s : Sh) (x : s.T), (s.cells x).length = s.sz
  | .int _, _ | .bool, _ | .str, _ | .unit, _ => rfl
  | .pair a b, x => by simp [Sh.cells, Sh.sz, Sh.cells_len a, Sh.cells_len b]
theorem Sh.rel (ρ : Rho) : ∀ (s : Sh) (x : s.T), LRel ρ (s.cells x) (s.vals x)
  | .int _, _ | .bool, _ | .str, _ => ⟨rfl, trivial⟩
  | .unit, _ => trivial
  | .pair a b, x => LRel.append (Sh.rel ρ a x.1) (Sh.rel ρ b x.2)
theorem Sh.one : ∀ (s : Sh) (x : s.T), ∀ v ∈ s.vals x, v.oneCell' = true
  | .int _, _, v, h | .bool, _, v, h | .str, _, v, h => by simp [Sh.vals] at h; subst h; rfl
  | .unit, _, v, h => by simp [Sh.vals] at h
  | .pair a b, x, v, h => by
    rcases List.mem_append.1 h with h | h
    · exact Sh.one a _ v h
    · exact Sh.one b _ v h
theorem Sh.of_unit (cs : List Cell) : Sh.unit.of cs = some ((), cs) := by cases cs <;> rfl
theorem Sh.of_pair (p q : Sh) (cs : List Cell) (x : (Sh.pair p q).T) (rest : List Cell) (h : (Sh.pair p q).of cs = some (x, rest)) :
    ∃ y z c1, p.of cs = some (y, c1) ∧ q.of c1 = some (z, rest) ∧ x = (y, z) := by
  have h' : (match p.of cs with | some (x, cs) => (match q.of cs with | some (y, cs) => some (((x, y) : p.T × q.T), cs) | none => none) | none => none) = some (x, rest) := by cases cs <;> exact h
  cases h1 : p.of cs with
  | none => rw [h1] at h'; cases h'
  | some y =>
    obtain ⟨y, c1⟩ := y
    rw [h1] at h'
    dsimp only at h'
    cases h2 : q.of c1 with
    | none => rw [h2] at h'; cases h'
    | some z =>
      obtain ⟨z, c2⟩ := z
      rw [h2] at h'
      dsimp only at h'
      cases h'
      exact ⟨y, z, c1, rfl, h2, rfl⟩
/-- What cells are read back ars has their values. -/
theorem Sh.of_rel {ρ : Rho} (s : Sh) : ∀ {cs : List Cell} {vs : List Value} {x : s.T} {rest : List Cell}, s.of cs = some (x, rest) → LRel ρ cs vs → ∃ r, vs = s.vals x ++ r ∧ LRel ρ rest r := by
  induction s with
  | int k =>
    intro cs vs x rest h hr
    cases cs with
    | nil => simp [Sh.of] at h
    | cons c cs =>
      cases vs with
      | nil => exact hr.elim
      | cons v vs =>
        obtain ⟨ha, hb⟩ := hr
        cases c <;> simp only [Sh.of] at h <;> try cases h
        rename_i k' n
        by_cases hk : k' = k
        · rw [if_pos hk] at h
          cases h
          subst hk
          simp only [CRel] at ha
          subst ha
          exact ⟨vs, rfl, hb⟩
        · rw [if_neg hk] at h; cases h
  | bool =>
    intro cs vs x rest h hr
    cases cs with
    | nil => simp [Sh.of] at h
    | cons c cs =>
      cases vs with
      | nil => exact hr.elim
      | cons v vs =>
        obtain ⟨ha, hb⟩ := hr
        cases c <;> simp only [Sh.of] at h <;> try cases h
        simp only [CRel] at ha
        subst ha
        exact ⟨vs, rfl, hb⟩
  | str =>
    intro cs vs x rest h hr
    cases cs with
    | nil => simp [Sh.of] at h
    | cons c cs =>
      cases vs with
      | nil => exact hr.elim
      | cons v vs =>
        obtain ⟨ha, hb⟩ := hr
        cases c <;> simp only [Sh.of] at h <;> try cases h
        simp only [CRel] at ha
        subst ha
        exact ⟨vs, rfl, hb⟩
  | unit =>
    intro cs vs x rest h hr
    rw [Sh.of_unit] at h
    cases h
    exact ⟨vs, rfl, hr⟩
  | pair p q ihp ihq =>
    intro cs vs x rest h hr
    obtain ⟨y, z, c1, h1, h2, rfl⟩ := Sh.of_pair p q cs x rest h
    obtain ⟨r1, e1, f1⟩ := ihp h1 hr
    obtain ⟨r2, e2, f2⟩ := ihq h2 f1
    exact ⟨r2, by rw [e1, e2]; simp [Sh.vals], f2⟩
def flat (s : Sh) (xs : List s.T) : List Value := xs.flatMap s.vals
theorem flat_cons (s : Sh) (x : s.T) (xs : List s.T) : flat s (x :: xs) = s.vals x ++ flat s xs := rfl
theorem flat_append (s : Sh) (xs ys : List s.T) : flat s (xs ++ ys) = flat s xs ++ flat s ys := by simp [flat]
theorem flat_len (s : Sh) : ∀ (xs : List s.T), (flat s xs).length = xs.length * s.sz
  | [] => by simp [flat]
  | x :: xs => by rw [flat_cons, List.length_append, Sh.vals_len, flat_len s xs, List.length_cons, Nat.succ_mul, Nat.add_comm]
theorem flat_one (s : Sh) (xs : List s.T) : ∀ v ∈ flat s xs, v.oneCell' = true := by
  intro v h
  obtain ⟨x, _, h⟩ := List.mem_flatMap.1 h
  exact Sh.one s x v h
theorem flat_get (s : Sh) : ∀ (xs : List s.T) (i : Nat), i < xs.length → ((flat s xs).drop (i * s.sz)).take s.sz = s.vals (xs.getD i s.dft)
  | [], i, h => by simp at h
  | x :: xs, 0, _ => by
    rw [flat_cons, Nat.zero_mul, List.drop_zero, List.take_append_of_le_length (by rw [Sh.vals_len]; exact Nat.le_refl _), List.take_of_length_le (by rw [Sh.vals_len]; exact Nat.le_refl _)]
    rfl
  | x :: xs, i + 1, h => by
    have hd : ((i + 1) * s.sz) = (s.vals x).length + i * s.sz := by rw [Sh.vals_len, Nat.succ_mul, Nat.add_comm]
    rw [flat_cons, hd, ← List.drop_drop, List.drop_left, flat_get s xs i (by simpa using h)]
    rfl
theorem flat_drop (s : Sh) (xs : List s.T) (i : Nat) : flat s (xs.drop i) = (flat s xs).drop (i * s.sz) := by
  induction xs generalizing i with
  | nil => simp [flat]
  | cons x xs ih =>
    cases i with
    | zero => simp
    | succ i =>
      have hd : ((i + 1) * s.sz) = (s.vals x).length + i * s.sz := by rw [Sh.vals_len, Nat.succ_mul, Nat.add_comm]
      rw [List.drop_succ_cons, ih, flat_cons, hd, ← List.drop_drop, List.drop_left]
theorem flat_take (s : Sh) (xs : List s.T) (i : Nat) : flat s (xs.take i) = (flat s xs).take (i * s.sz) := by
  induction xs generalizing i with
  | nil => simp [flat]
  | cons x xs ih =>
    cases i with
    | zero => simp [flat]
    | succ i =>
      have hd : ((i + 1) * s.sz) = (s.vals x).length + i * s.sz := by rw [Sh.vals_len, Nat.succ_mul, Nat.add_comm]
      rw [List.take_succ_cons, flat_cons, ih, flat_cons, hd, List.take_append]
      simp [Nat.add_sub_cancel_left, List.take_of_length_le]
theorem flat_set (s : Sh) (xs : List s.T) (i : Nat) (y : s.T) (h : i < xs.length) : flat s (xs.set i y) = (flat s xs).take (i * s.sz) ++ s.vals y ++ (flat s xs).drop ((i + 1) * s.sz) := by
  rw [List.set_eq_take_append_cons_drop, if_pos h, flat_append, flat_cons, flat_take, flat_drop, List.append_assoc]

/-! ### Objects -/
def RowRel (own : Bool) (s : Sh) (xs : List s.T) (hd : Value) (w : World) : Prop :=
  ∃ a cap, hd = .slice a xs.length cap ∧ xs.length ≤ cap ∧ match a with
    | none => xs = [] ∧ cap = 0
    | some ad => ad.spot = none ∧ ∃ cs el fz, w.heap[ad.block]? = some (.cells cs el fz) ∧ (cs.toList.drop ad.off).take (xs.length * s.sz) = flat s xs ∧
        (own = true → ad.off = 0 ∧ cs.size = cap * s.sz ∧ ∀ o, o < cs.size → ¬ (fz.1 ≤ o ∧ o < fz.2))
def CellRel (ρ : Rho) (own : Bool) (k n : Nat) (c : Cell) (hd : Value) (w : World) : Prop :=
  ∃ b o cs el fz v, hd = .pointer (some ⟨b, o, none⟩) ∧ w.heap[b]? = some (.cells cs el fz) ∧ cs[o]? = some v ∧ CRel ρ c v ∧ c ≠ .unk ∧
    (own = true → o = k ∧ cs.size = n ∧ ¬ (fz.1 ≤ o ∧ o < fz.2))
/-- The head of an object that lies in a block ars a whole, and the block. -/
def BT.hd : BT → Nat → Value
  | .iter, r => .pointer (some ⟨r, 0, none⟩)
  | .map _ _, r => .map (some r)
/-- The stamps of a map's entries. -/
def Born (l : List Nat) (clock : Nat) : Prop := (∀ b ∈ l, b < clock) ∧ l.Nodup
def BT.obj : (t : BT) → t.D → Obj → Prop
  | .iter, d, o => o = .stringIter d.1 d.2
  | .map k v, d, o => ∃ es clock, o = .map es clock ∧ es.toList.map (fun e => (e.key, e.val)) = List.map (fun x : k.T × v.T => (k.val x.1, v.val x.2)) d ∧ Born (es.toList.map (·.born)) clock
def BlobRel (t : BT) (d : t.D) (hd : Value) (w : World) : Prop := ∃ r o, hd = t.hd r ∧ w.heap[r]? = some o ∧ t.obj d o
def ORel (ρ : Rho) (w : World) : AObj → Option Value → Prop
  | .dead, _ => True
  | .cell own k n c, h => ∃ hd, h = some hd ∧ CellRel ρ own k n c hd w
  | .row own s xs, h => ∃ hd, h = some hd ∧ RowRel own s xs hd w
  | .blob own t d, h => ∃ hd, h = some hd ∧ BlobRel t d hd w
def blk : Option Value → Option Nat
  | some (.pointer (some a)) => some a.block
  | some (.slice (some a) _ _) => some a.block
  | some (.map (some r)) => some r
  | _ => none
def AObj.own : AObj → Bool
  | .dead => false | .cell o _ _ _ => o | .row o _ _ => o | .blob o _ _ => o
def AObj.live : AObj → Bool
  | .dead => false | _ => true
theorem BT.blk_hd (t : BT) (r : Nat) : blk (some (t.hd r)) = some r := by cases t <;> rfl
theorem BT.mp_hd (t : BT) (r : Nat) : ∃ r', t.hd r = .map (some r') ∨ t.hd r = .pointer (some ⟨r', 0, none⟩) := by
  cases t
  · exact ⟨r, .inr rfl⟩
  · exact ⟨r, .inl rfl⟩
/-- An owned object shares its block with no other, but for the cells of one box. -/
def SepAt (F : Nat → AObj) (ρ : Rho) (i j : Nat) : Prop :=
  i ≠ j → (F i).own = true → (F j).live = true → ∀ b, blk (ρ i) = some b → blk (ρ j) = some b →
    ∃ ki kj n ci cj, F i = .cell true ki n ci ∧ F j = .cell true kj n cj ∧ i + kj = j + ki ∧ ki ≠ kj
/-- Blocks that may be turned; the world in which the law was called (its blocks are never turned). -/
structure WL where
  l : List Nat
  w : World
  q : WI w
instance : Membership Nat WL := ⟨fun W b => b ∈ W.l⟩
theorem WL.mem {l : List Nat} {w : World} {q : WI w} {b : Nat} : b ∈ (⟨l, w, q⟩ : WL) ↔ b ∈ l := Iff.rfl
structure WOk (w0 : World) (W : WL) : Prop where
  size : W.w.heap.size ≤ w0.heap.size
  same : ∀ b, b < W.w.heap.size → w0.heap[b]? = W.w.heap[b]?
  own : ∀ b : Nat, b ∈ W → W.w.heap.size ≤ b
/-- Of the blocks below the begin's heap those of W alone may have turned. -/
structure Fr (w0 : World) (W : WL) (w : World) : Prop where
  os : w.os = w0.os
  tape : w.tape = w0.tape
  output : w.output = w0.output
  size : w0.heap.size ≤ w.heap.size
  block : ∀ b : Nat, b < w0.heap.size → b ∉ W → w.heap[b]? = w0.heap[b]?
  ok : WOk w0 W
theorem Fr.refl (w : World) (W : WL) (h : WOk w W) : Fr w W w := ⟨rfl, rfl, rfl, Nat.le_refl _, fun _ _ _ => rfl, h⟩
/-- What is known of the world in which the law was called, at a later one. -/
def WG (w : World) : Prop := ∃ v : World, WI v ∧ v.heap.size ≤ w.heap.size ∧ ∀ b, b < v.heap.size → w.heap[b]? = v.heap[b]?
theorem Fr.wok {w0 w : World} {W : WL} (h : Fr w0 W w) {l : List Nat} (hl : ∀ b ∈ l, w0.heap.size ≤ b ∨ b ∈ W) : WOk w ⟨l, W.w, W.q⟩ := by
  refine ⟨Nat.le_trans h.ok.size h.size, fun b hb => ?_, fun b hb => ?_⟩
  · have hb : b < W.w.heap.size := hb
    have h1 := h.ok.size
    rw [h.block b (by omega) fun hw => ?_]
    · exact h.ok.same b hb
    · have := h.ok.own b hw
      omega
  · rcases hl b hb with h1 | h1
    · exact Nat.le_trans h.ok.size h1
    · exact h.ok.own b h1
theorem Fr.wg {w0 w : World} {W : WL} (h : Fr w0 W w) : WG w := by
  have := h.wok (l := []) (by simp)
  exact ⟨W.w, W.q, this.size, this.same⟩
theorem World.cell_heap {w w' : World} {a : Addr} {v : Value} (hs : ∀ b, b < w.heap.size → w'.heap[b]? = w.heap[b]?) (h : w.cell? a = some v) : w'.cell? a = some v := by
  have hb : a.block < w.heap.size := by
    by_cases hb : a.block < w.heap.size
    · exact hb
    · unfold World.cell? at h
      rw [Array.getElem?_eq_none (by omega)] at h
      cases h
  unfold World.cell? at h ⊢
  rw [hs a.block hb]
  exact h
structure HR (w0 : World) (A : List Nat) (W : WL) (U : Nat → Prop) (ρ : Rho) (F : Nat → AObj) (w : World) : Prop where
  fr : Fr w0 W w
  fre : ∀ i, U i → ρ i = none
  obj : ∀ i, ORel ρ w (F i) (ρ i)
  sep : ∀ i j, SepAt F ρ i j
  loc : ∀ i b, (F i).live = true → blk (ρ i) = some b → w0.heap.size ≤ b ∨ b ∈ A
  locw : ∀ i b, (F i).own = true → blk (ρ i) = some b → w0.heap.size ≤ b ∨ b ∈ W
theorem BlobRel.lt {t : BT} {d : t.D} {hd : Value} {w : World} (h : BlobRel t d hd w) {b : Nat} (hb : blk (some hd) = some b) : b < w.heap.size := by
  obtain ⟨r, o, rfl, hh, _⟩ := h
  rw [t.blk_hd] at hb
  cases hb
  exact (Array.getElem?_eq_some_iff.1 hh).1
theorem HR.blt {w0 : World} {A : List Nat} {W : WL} {U : Nat → Prop} {ρ : Rho} {F : Nat → AObj} {w : World} (h : HR w0 A W U ρ F w) {i b : Nat} (hl : (F i).live = true) (hb : blk (ρ i) = some b) : b < w.heap.size := by
  have ho := h.obj i
  cases hF : F i with
  | dead => rw [hF] at hl; simp [AObj.live] at hl
  | cell own k n c =>
    rw [hF] at ho
    obtain ⟨hd, e, b', o, cs, el, fz, v, rfl, hh, _⟩ := ho
    rw [e] at hb
    simp [blk] at hb
    subst hb
    exact (Array.getElem?_eq_some_iff.1 hh).1
  | row own s xs =>
    rw [hF] at ho
    obtain ⟨hd, e, a, cap, rfl, _, r⟩ := ho
    rw [e] at hb
    cases a with
    | none => simp [blk] at hb
    | some ad =>
      simp [blk] at hb
      subst hb
      obtain ⟨_, cs, el, fz, hh, _⟩ := r
      exact (Array.getElem?_eq_some_iff.1 hh).1
  | blob own t d =>
    rw [hF] at ho
    obtain ⟨hd, e, r⟩ := ho
    rw [e] at hb
    exact r.lt hb
/-- An object reads ars it did where its block is ars it was. -/
theorem ORel.kept {ρ ρ' : Rho} {w w' : World} {o : AObj} {h : Option Value} (r : ORel ρ w o h) (hx : ext ρ ρ') (hb : ∀ b, blk h = some b → w'.heap[b]? = w.heap[b]?) : ORel ρ' w' o h := by
  cases o with
  | dead => trivial
  | cell own k n c =>
    obtain ⟨hd, e, b, o, cs, el, fz, v, rfl, hh, hc, hr, hk, ho⟩ := r
    subst e
    exact ⟨_, rfl, b, o, cs, el, fz, v, rfl, (hb b rfl).trans hh, hc, hr.mono hx, hk, ho⟩
  | row own s xs =>
    obtain ⟨hd, e, a, cap, rfl, hl, hr⟩ := r
    subst e
    refine ⟨_, rfl, a, cap, rfl, hl, ?_⟩
    cases a with
    | none => exact hr
    | some ad =>
      obtain ⟨hs, cs, el, fz, hh, hc, ho⟩ := hr
      exact ⟨hs, cs, el, fz, (hb ad.block rfl).trans hh, hc, ho⟩
  | blob own t d =>
    obtain ⟨hd, e, r, o, rfl, hh, hc⟩ := r
    subst e
    exact ⟨_, rfl, r, o, rfl, (hb r (t.blk_hd r)).trans hh, hc⟩

/-! ### States -/
def valAt (a : Act) (sh : Nat → Value) (t : Nat) : Value := if t < shadow then a.tmps.getD t undef else sh (t - shadow)
structure Sim (w0 : World) (A : List Nat) (W : WL) (nt : Nat) (sh : Nat → Value) (U : Nat → Prop) (ρ : Rho) (tm : Nat → AVal) (F : Nat → AObj) (a : Act) (w : World) : Prop extends HR w0 A W U ρ F w where
  tms : ∀ t, VRel ρ (tm t) (valAt a sh t)
  siz : a.tmps.size = nt
  nts : nt ≤ shadow
  dfr : a.defers = []
theorem VRel.unk (ρ : Rho) (v : Value) : VRel ρ (.c .unk) v := trivial
/-- Constants. -/
theorem ofVal_rel {ρ : Rho} {v : Value} {c : Cell} (h : ofVal v = some c) : CRel ρ c v := by
  unfold ofVal at h
  split at h <;> cases h <;> rfl
theorem ofVal_known {v : Value} {c : Cell} (h : ofVal v = some c) : c ≠ .unk := by
  unfold ofVal at h
  split at h <;> cases h <;> simp
theorem ofVals_rel {ρ : Rho} : ∀ {vs : List Value} {cs : List Cell}, ofVals vs = some cs → LRel ρ cs vs
  | [], cs, h => by simp [ofVals] at h; subst h; trivial
  | v :: vs, cs, h => by
    simp only [ofVals] at h
    split at h <;> try cases h
    rename_i c h1
    split at h <;> cases h
    rename_i r h2
    exact ⟨ofVal_rel h1, ofVals_rel h2⟩
theorem ofVals_known : ∀ {vs : List Value} {cs : List Cell}, ofVals vs = some cs → known cs = true
  | [], cs, h => by simp [ofVals] at h; subst h; rfl
  | v :: vs, cs, h => by
    simp only [ofVals] at h
    split at h <;> try cases h
    rename_i c h1
    split at h <;> cases h
    rename_i r h2
    have := ofVal_known h1
    have := ofVals_known h2
    cases c <;> simp_all [known]
end Go.Proofs.YtkaiidmnigpicaaGreatDoorS
