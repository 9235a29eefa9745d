/- How data without addresses stand to the model's worlds. -/
import Derived.Test.YtiaagflfiphioaaDoorSimB
import Derived.Test.YtiaagflfiphioaaDoorWI
import Derived.Below
import Derived.Laws.IdiomCopy
import Derived.Laws.IdiomStrings
import Derived.Laws.BytesString
import Derived.Laws.Append
import Derived.Laws.AppendOwn
import Derived.Laws.MakeOwn
import Derived.Laws.Slices
import Derived.Laws.Strings
import Derived.Laws.Small
import Derived.Laws.StructEq
import Derived.Laws.Build
namespace Go.Proofs.YtiaagflfiphioaaDoorS
open Go
set_option linter.unusedVariables false
set_option linter.unusedSimpArgs false

abbrev Rho := Nat → Option Value
def ext (ρ ρ' : Rho) : Prop := ∀ i v, ρ i = some v → ρ' i = some v
theorem ext.refl (ρ : Rho) : ext ρ ρ := fun _ _ h => h
theorem ext.trans {a b c : Rho} (h : ext a b) (h' : ext b c) : ext a c := fun i v e => h' i v (h i v e)

def PtrAt (ρ : Rho) (id n : Nat) (v : Value) : Prop := ∃ b o, v = .pointer (some ⟨b, o, none⟩) ∧ ∀ k, k < n → ρ (id + k) = some (.pointer (some ⟨b, o + k, none⟩))
def CapsAt (ρ : Rho) : List (Nat × Nat) → List Value → Prop
  | [], [] => True
  | (i, n) :: r, v :: vs => PtrAt ρ i n v ∧ CapsAt ρ r vs
  | _, _ => False
def CRel (ρ : Rho) : Cell → Value → Prop
  | .unk, _ => True
  | .any, v => v.oneCell' = true
  | .int k n, v => v = .int k n
  | .bool b, v => v = .bool b
  | .str s, v => v = .string s
  | .ptr id n, v => PtrAt ρ id n v
  | .pel id i sz off, v => ∃ b o len cap, ρ id = some (.slice (some ⟨b, o, none⟩) len cap) ∧ i < len ∧ v = .pointer (some ⟨b, o + (i * sz + off), none⟩)
  | .slv id lo n sz, v => ∃ a len cap, ρ id = some (.slice a len cap) ∧ lo + n ≤ len ∧ v = .slice (if cap = lo then a else a.map (·.add (lo * sz))) n (cap - lo)
  | .slc id, v => ρ id = some v ∧ ∃ a n c, v = .slice a n c
  | .nils, v => v = .slice none 0 0
  | .nilp, v => v = .pointer none
  | .nilf, v => v = .nilFunc
  | .nili, v => v = .nilIface
  | .nilm, v => v = .map none
  | .clo f caps, v => ∃ cs, v = .func (.func f) #[] cs ∧ CapsAt ρ caps cs.toList
  | .mp id, v => ρ id = some v ∧ ((∃ r, v = .map (some r) ∨ v = .pointer (some ⟨r, 0, none⟩)) ∨ ∃ a n c, v = .slice a n c)
def LRel (ρ : Rho) : List Cell → List Value → Prop
  | [], [] => True
  | c :: cs, v :: vs => CRel ρ c v ∧ LRel ρ cs vs
  | _, _ => False
def TRel (ρ : Rho) : List (Bool × List Cell) → List Value → Prop
  | [], [] => True
  | (a, cs) :: r, v :: vs => (if a then ∃ l, v = .agg l ∧ LRel ρ cs l.toList else ∃ c, cs = [c] ∧ CRel ρ c v) ∧ TRel ρ r vs
  | _, _ => False
def VRel (ρ : Rho) : AVal → Value → Prop
  | .c x, v => CRel ρ x v
  | .agg l, v => ∃ cs, v = .agg cs ∧ LRel ρ l cs.toList
  | .tup l, v => ∃ vs, v = .tuple vs ∧ TRel ρ l vs.toList

theorem PtrAt.mono {ρ ρ' : Rho} (h : ext ρ ρ') {i n : Nat} {v : Value} (p : PtrAt ρ i n v) : PtrAt ρ' i n v := by
  obtain ⟨b, o, e, f⟩ := p
  exact ⟨b, o, e, fun k hk => h _ _ (f k hk)⟩
theorem CapsAt.mono {ρ ρ' : Rho} (h : ext ρ ρ') : ∀ {l : List (Nat × Nat)} {vs : List Value}, CapsAt ρ l vs → CapsAt ρ' l vs
  | [], [], _ => trivial
  | (_, _) :: _, _ :: _, ⟨a, b⟩ => ⟨a.mono h, CapsAt.mono h b⟩
theorem CRel.mono {ρ ρ' : Rho} (h : ext ρ ρ') {c : Cell} {v : Value} (r : CRel ρ c v) : CRel ρ' c v := by
  cases c <;> simp only [CRel] at r ⊢ <;> first
    | exact r
    | exact r.mono h
    | (obtain ⟨b, o, len, cap, e, f⟩ := r; exact ⟨b, o, len, cap, h _ _ e, f⟩)
    | (obtain ⟨a, len, cap, e, f⟩ := r; exact ⟨a, len, cap, h _ _ e, f⟩)
    | exact ⟨h _ _ r.1, r.2⟩
    | (obtain ⟨cs, e, f⟩ := r; exact ⟨cs, e, f.mono h⟩)
theorem LRel.mono {ρ ρ' : Rho} (h : ext ρ ρ') : ∀ {l : List Cell} {vs : List Value}, LRel ρ l vs → LRel ρ' l vs
  | [], [], _ => trivial
  | _ :: _, _ :: _, ⟨a, b⟩ => ⟨a.mono h, LRel.mono h b⟩
theorem TRel.mono {ρ ρ' : Rho} (h : ext ρ ρ') : ∀ {l : List (Bool × List Cell)} {vs : List Value}, TRel ρ l vs → TRel ρ' l vs
  | [], [], _ => trivial
  | (a, cs) :: _, _ :: _, ⟨x, y⟩ => by
    refine ⟨?_, TRel.mono h y⟩
    cases a
    · obtain ⟨c, e, f⟩ := x; exact ⟨c, e, f.mono h⟩
    · obtain ⟨l, e, f⟩ := x; exact ⟨l, e, f.mono h⟩
theorem VRel.mono {ρ ρ' : Rho} (h : ext ρ ρ') {a : AVal} {v : Value} (r : VRel ρ a v) : VRel ρ' a v := by
  cases a <;> simp only [VRel] at r ⊢
  · exact r.mono h
  · obtain ⟨cs, e, f⟩ := r; exact ⟨cs, e, f.mono h⟩
  · obtain ⟨cs, e, f⟩ := r; exact ⟨cs, e, f.mono h⟩
theorem LRel.length {ρ : Rho} : ∀ {l : List Cell} {vs : List Value}, LRel ρ l vs → l.length = vs.length
  | [], [], _ => rfl
  | _ :: _, _ :: _, ⟨_, b⟩ => by simp [LRel.length b]
theorem LRel.append {ρ : Rho} : ∀ {a : List Cell} {x : List Value} {b : List Cell} {y : List Value}, LRel ρ a x → LRel ρ b y → LRel ρ (a ++ b) (x ++ y)
  | [], [], _, _, _, h => h
  | _ :: _, _ :: _, _, _, ⟨p, q⟩, h => ⟨p, LRel.append q h⟩
theorem LRel.split {ρ : Rho} : ∀ {a : List Cell} {b : List Cell} {v : List Value}, LRel ρ (a ++ b) v → ∃ x y, v = x ++ y ∧ LRel ρ a x ∧ LRel ρ b y
  | [], _, v, h => ⟨[], v, rfl, trivial, h⟩
  | _ :: a, _, [], h => h.elim
  | _ :: a, _, v :: vs, ⟨p, q⟩ => by
    obtain ⟨x, y, e, hx, hy⟩ := LRel.split q
    exact ⟨v :: x, y, by rw [e]; rfl, ⟨p, hx⟩, hy⟩
theorem LRel.take {ρ : Rho} : ∀ (n : Nat) {l : List Cell} {vs : List Value}, LRel ρ l vs → LRel ρ (l.take n) (vs.take n)
  | 0, _, _, _ => trivial
  | _ + 1, [], [], _ => trivial
  | n + 1, _ :: _, _ :: _, ⟨a, b⟩ => ⟨a, LRel.take n b⟩
theorem LRel.drop {ρ : Rho} : ∀ (n : Nat) {l : List Cell} {vs : List Value}, LRel ρ l vs → LRel ρ (l.drop n) (vs.drop n)
  | 0, _, _, h => h
  | _ + 1, [], [], _ => trivial
  | n + 1, _ :: _, _ :: _, ⟨_, b⟩ => LRel.drop n b
theorem LRel.get {ρ : Rho} : ∀ {l : List Cell} {vs : List Value} (_ : LRel ρ l vs) (i : Nat) (c : Cell), l[i]? = some c → ∃ v, vs[i]? = some v ∧ CRel ρ c v
  | [], [], _, _, _, h => by simp at h
  | _ :: _, v :: _, ⟨a, _⟩, 0, _, h => ⟨v, rfl, by simp at h; exact h ▸ a⟩
  | _ :: _, _ :: _, ⟨_, b⟩, i + 1, c, h => LRel.get b i c (by simpa using h)

theorem CRel.one {ρ : Rho} {c : Cell} {v : Value} (h : CRel ρ c v) (hk : c ≠ .unk) : v.oneCell' = true := by
  cases c <;> simp only [CRel] at h
  case unk => exact absurd rfl hk
  case any => exact h
  case ptr => obtain ⟨b, o, e, _⟩ := h; subst e; rfl
  case pel => obtain ⟨b, o, len, cap, _, _, e⟩ := h; subst e; rfl
  case slc => obtain ⟨_, a, n, c, e⟩ := h; subst e; rfl
  case slv => obtain ⟨a, len, cap, _, _, e⟩ := h; subst e; rfl
  case clo => obtain ⟨cs, e, _⟩ := h; subst e; rfl
  case mp => obtain ⟨_, e⟩ := h; rcases e with ⟨r, e | e⟩ | ⟨a, n, c, e⟩ <;> (subst e; rfl)
  all_goals (subst h; rfl)
theorem known_cons {c : Cell} {r : List Cell} (h : known (c :: r) = true) : c ≠ .unk ∧ known r = true := by
  cases c <;> simp_all [known]
theorem LRel.one {ρ : Rho} : ∀ {l : List Cell} {vs : List Value}, LRel ρ l vs → known l = true → ∀ v ∈ vs, v.oneCell' = true
  | [], [], _, _, _, h => by simp at h
  | c :: l, v :: vs, ⟨a, b⟩, hk, u, hu => by
    obtain ⟨h1, h2⟩ := known_cons hk
    rcases List.mem_cons.1 hu with rfl | hu
    · exact a.one h1
    · exact LRel.one b h2 u hu
/-- A value's cells. -/
theorem VRel.cells {ρ : Rho} {a : AVal} {v : Value} (h : VRel ρ a v) (ht : ∀ l, a ≠ .tup l) (hk : known a.cells = true) : LRel ρ a.cells v.cells.toList := by
  cases a with
  | c x =>
    have h1 := (known_cons hk).1
    have h2 := CRel.one (show CRel ρ x v from h) h1
    have : v.cells = #[v] := by cases v <;> first | rfl | simp [Value.oneCell'] at h2
    rw [this]
    exact ⟨h, trivial⟩
  | agg l => obtain ⟨cs, e, f⟩ := h; subst e; exact f
  | tup l => exact absurd rfl (ht l)

/-! ### Rows -/
def Sh.vals : (s : Sh) → s.T → List Value
  | .int k, n => [.int k n] | .bool, b => [.bool b] | .str, s => [.string s] | .unit, _ => [] | .pair a b, x => a.vals x.1 ++ b.vals x.2
/-- An element ars one value. -/
def Sh.val : (s : Sh) → s.T → Value
  | .int k, n => .int k n | .bool, b => .bool b | .str, s => .string s | .unit, _ => .agg #[] | .pair a b, x => .agg (a.vals x.1 ++ b.vals x.2).toArray
theorem Sh.vals_len : ∀ (s : Sh) (x : s.T), (s.vals x).length = s.sz
  | .int _, _ | .bool, _ | .str, _ | .unit, _ => rfl
  | .pair a b, x => by simp [Sh.vals, Sh.sz, Sh.vals_len a, Sh.vals_len b]
theorem Sh.cells_len : ∀ (s : Sh) (x : s.T), (s.cells x).length = s.sz
  | .int _, _ | .bool, _ | .str, _ | .unit, _ => rfl
  | .pair a b, x => by simp [Sh.cells, Sh.sz, Sh.cells_len a, Sh.cells_len b]
theorem Sh.rel (ρ : Rho) : ∀ (s : Sh) (x : s.T), LRel ρ (s.cells x) (s.vals x)
  | .int _, _ | .bool, _ | .str, _ => ⟨rfl, trivial⟩
  | .unit, _ => trivial
  | .pair a b, x => LRel.append (Sh.rel ρ a x.1) (Sh.rel ρ b x.2)
theorem Sh.one : ∀ (s : Sh) (x : s.T), ∀ v ∈ s.vals x, v.oneCell' = true
  | .int _, _, v, h | .bool, _, v, h | .str, _, v, h => by simp [Sh.vals] at h; subst h; rfl
  | .unit, _, v, h => by simp [Sh.vals] at h
  | .pair a b, x, v, h => by
    rcases List.mem_append.1 h with h | h
    · exact Sh.one a _ v h
    · exact Sh.one b _ v h
theorem Sh.of_unit (cs : List Cell) : Sh.unit.of cs = some ((), cs) := by cases cs <;> rfl
theorem Sh.of_pair (p q : Sh) (cs : List Cell) (x : (Sh.pair p q).T) (rest : List Cell) (h : (Sh.pair p q).of cs = some (x, rest)) :
    ∃ y z c1, p.of cs = some (y, c1) ∧ q.of c1 = some (z, rest) ∧ x = (y, z) := by
  have h' : (match p.of cs with | some (x, cs) => (match q.of cs with | some (y, cs) => some (((x, y) : p.T × q.T), cs) | none => none) | none => none) = some (x, rest) := by cases cs <;> exact h
  cases h1 : p.of cs with
  | none => rw [h1] at h'; cases h'
  | some y =>
    obtain ⟨y, c1⟩ := y
    rw [h1] at h'
    dsimp only at h'
    cases h2 : q.of c1 with
    | none => rw [h2] at h'; cases h'
    | some z =>
      obtain ⟨z, c2⟩ := z
      rw [h2] at h'
      dsimp only at h'
      cases h'
      exact ⟨y, z, c1, rfl, h2, rfl⟩
/-- What cells are read back ars has their values. -/
theorem Sh.of_rel {ρ : Rho} (s : Sh) : ∀ {cs : List Cell} {vs : List Value} {x : s.T} {rest : List Cell}, s.of cs = some (x, rest) → LRel ρ cs vs → ∃ r, vs = s.vals x ++ r ∧ LRel ρ rest r := by
  induction s with
  | int k =>
    intro cs vs x rest h hr
    cases cs with
    | nil => simp [Sh.of] at h
    | cons c cs =>
      cases vs with
      | nil => exact hr.elim
      | cons v vs =>
        obtain ⟨ha, hb⟩ := hr
        cases c <;> simp only [Sh.of] at h <;> try cases h
        rename_i k' n
        by_cases hk : k' = k
        · rw [if_pos hk] at h
          cases h
          subst hk
          simp only [CRel] at ha
          subst ha
          exact ⟨vs, rfl, hb⟩
        · rw [if_neg hk] at h; cases h
  | bool =>
    intro cs vs x rest h hr
    cases cs with
    | nil => simp [Sh.of] at h
    | cons c cs =>
      cases vs with
      | nil => exact hr.elim
      | cons v vs =>
        obtain ⟨ha, hb⟩ := hr
        cases c <;> simp only [Sh.of] at h <;> try cases h
        simp only [CRel] at ha
        subst ha
        exact ⟨vs, rfl, hb⟩
  | str =>
    intro cs vs x rest h hr
    cases cs with
    | nil => simp [Sh.of] at h
    | cons c cs =>
      cases vs with
      | nil => exact hr.elim
      | cons v vs =>
        obtain ⟨ha, hb⟩ := hr
        cases c <;> simp only [Sh.of] at h <;> try cases h
        simp only [CRel] at ha
        subst ha
        exact ⟨vs, rfl, hb⟩
  | unit =>
    intro cs vs x rest h hr
    rw [Sh.of_unit] at h
    cases h
    exact ⟨vs, rfl, hr⟩
  | pair p q ihp ihq =>
    intro cs vs x rest h hr
    obtain ⟨y, z, c1, h1, h2, rfl⟩ := Sh.of_pair p q cs x rest h
    obtain ⟨r1, e1, f1⟩ := ihp h1 hr
    obtain ⟨r2, e2, f2⟩ := ihq h2 f1
    exact ⟨r2, by rw [e1, e2]; simp [Sh.vals], f2⟩
def flat (s : Sh) (xs : List s.T) : List Value := xs.flatMap s.vals
theorem flat_cons (s : Sh) (x : s.T) (xs : List s.T) : flat s (x :: xs) = s.vals x ++ flat s xs := rfl
theorem flat_append (s : Sh) (xs ys : List s.T) : flat s (xs ++ ys) = flat s xs ++ flat s ys := by simp [flat]
theorem flat_len (s : Sh) : ∀ (xs : List s.T), (flat s xs).length = xs.length * s.sz
  | [] => by simp [flat]
  | x :: xs => by rw [flat_cons, List.length_append, Sh.vals_len, flat_len s xs, List.length_cons, Nat.succ_mul, Nat.add_comm]
theorem flat_one (s : Sh) (xs : List s.T) : ∀ v ∈ flat s xs, v.oneCell' = true := by
  intro v h
  obtain ⟨x, _, h⟩ := List.mem_flatMap.1 h
  exact Sh.one s x v h
theorem flat_get (s : Sh) : ∀ (xs : List s.T) (i : Nat), i < xs.length → ((flat s xs).drop (i * s.sz)).take s.sz = s.vals (xs.getD i s.dft)
  | [], i, h => by simp at h
  | x :: xs, 0, _ => by
    rw [flat_cons, Nat.zero_mul, List.drop_zero, List.take_append_of_le_length (by rw [Sh.vals_len]; exact Nat.le_refl _), List.take_of_length_le (by rw [Sh.vals_len]; exact Nat.le_refl _)]
    rfl
  | x :: xs, i + 1, h => by
    have hd : ((i + 1) * s.sz) = (s.vals x).length + i * s.sz := by rw [Sh.vals_len, Nat.succ_mul, Nat.add_comm]
    rw [flat_cons, hd, ← List.drop_drop, List.drop_left, flat_get s xs i (by simpa using h)]
    rfl
theorem flat_drop (s : Sh) (xs : List s.T) (i : Nat) : flat s (xs.drop i) = (flat s xs).drop (i * s.sz) := by
  induction xs generalizing i with
  | nil => simp [flat]
  | cons x xs ih =>
    cases i with
    | zero => simp
    | succ i =>
      have hd : ((i + 1) * s.sz) = (s.vals x).length + i * s.sz := by rw [Sh.vals_len, Nat.succ_mul, Nat.add_comm]
      rw [List.drop_succ_cons, ih, flat_cons, hd, ← List.drop_drop, List.drop_left]
theorem flat_take (s : Sh) (xs : List s.T) (i : Nat) : flat s (xs.take i) = (flat s xs).take (i * s.sz) := by
  induction xs generalizing i with
  | nil => simp [flat]
  | cons x xs ih =>
    cases i with
    | zero => simp [flat]
    | succ i =>
      have hd : ((i + 1) * s.sz) = (s.vals x).length + i * s.sz := by rw [Sh.vals_len, Nat.succ_mul, Nat.add_comm]
      rw [List.take_succ_cons, flat_cons, ih, flat_cons, hd, List.take_append]
      simp [Nat.add_sub_cancel_left, List.take_of_length_le]
theorem flat_set (s : Sh) (xs : List s.T) (i : Nat) (y : s.T) (h : i < xs.length) : flat s (xs.set i y) = (flat s xs).take (i * s.sz) ++ s.vals y ++ (flat s xs).drop ((i + 1) * s.sz) := by
  rw [List.set_eq_take_append_cons_drop, if_pos h, flat_append, flat_cons, flat_take, flat_drop, List.append_assoc]

/-! ### Objects -/
def RowRel (own : Bool) (s : Sh) (xs : List s.T) (hd : Value) (w : World) : Prop :=
  ∃ a cap, hd = .slice a xs.length cap ∧ xs.length ≤ cap ∧ match a with
    | none => xs = [] ∧ cap = 0
    | some ad => ad.spot = none ∧ ∃ cs el fz, w.heap[ad.block]? = some (.cells cs el fz) ∧ (cs.toList.drop ad.off).take (xs.length * s.sz) = flat s xs ∧
        (own = true → ad.off = 0 ∧ cs.size = cap * s.sz ∧ ∀ o, o < cs.size → ¬ (fz.1 ≤ o ∧ o < fz.2))
def CellRel (ρ : Rho) (own : Bool) (k n : Nat) (c : Cell) (hd : Value) (w : World) : Prop :=
  ∃ b o cs el fz v, hd = .pointer (some ⟨b, o, none⟩) ∧ w.heap[b]? = some (.cells cs el fz) ∧ cs[o]? = some v ∧ CRel ρ c v ∧ c ≠ .unk ∧
    (own = true → o = k ∧ cs.size = n ∧ ¬ (fz.1 ≤ o ∧ o < fz.2))
/-- The head of an object that lies in a block ars a whole, and the block. -/
def BT.hd : BT → Nat → Value
  | .map _ _, r => .map (some r)
  | _, r => .pointer (some ⟨r, 0, none⟩)
/-- The stamps of a map's entries. -/
def Born (l : List Nat) (clock : Nat) : Prop := (∀ b ∈ l, b < clock) ∧ l.Nodup
def BT.obj : (t : BT) → t.D → Obj → Prop
  | .iter, d, o => o = .stringIter d.1 d.2
  | .map k v, d, o => ∃ es clock, o = .map es clock ∧ es.toList.map (fun e => (e.key, e.val)) = List.map (fun x : k.T × v.T => (k.val x.1, v.val x.2)) d ∧ Born (es.toList.map (·.born)) clock
  | _, _, _ => False
/-- The values that an outer row holds. -/
def inn (hd : Value) (w : World) : List Value := match hd with
  | .slice (some ad) len _ => (match w.heap[ad.block]? with | some (.cells cs _ _) => (cs.toList.drop ad.off).take len | _ => [])
  | _ => []
def blk : Option Value → Option Nat
  | some (.pointer (some a)) => some a.block
  | some (.slice (some a) _ _) => some a.block
  | some (.map (some r)) => some r
  | _ => none
/-- Which inner rows an object reaches. -/
def BT.mine : (t : BT) → t.D → Nat → Bool
  | .rows _ _ _, _, _ => true
  | .hole _ _, d, k => !(k == d.1.1)
  | .tail _, d, k => decide (d.1 ≤ k)
  | _, _, _ => false
/-- The blocks of these. -/
def inr (t : BT) (d : t.D) (hd : Value) (w : World) (b : Nat) : Prop := ∃ k v, (inn hd w)[k]? = some v ∧ t.mine d k = true ∧ blk (some v) = some b
def OutRel (own : Bool) (sz n : Nat) (hd : Value) (w : World) : Prop :=
  ∃ a cap, hd = .slice a n cap ∧ n ≤ cap ∧ match a with
    | none => n = 0 ∧ cap = 0
    | some ad => ad.spot = none ∧ ∃ cs el fz, w.heap[ad.block]? = some (.cells cs el fz) ∧ ad.off + n * sz ≤ cs.size ∧
        (own = true → ad.off = 0 ∧ cs.size = cap * sz ∧ ∀ o, o < cs.size → ¬ (fz.1 ≤ o ∧ o < fz.2))
/-- Inner rows, from an index on. -/
def InnRel (own : Bool) (s : Sh) (skip : Nat → Bool) (lo : Nat) (xss : List (List s.T)) (hd : Value) (w : World) : Prop :=
  (∀ k xs, xss[k]? = some xs → skip (lo + k) = false → ∃ v, (inn hd w)[lo + k]? = some v ∧ RowRel own s xs v w) ∧
  (own = true → ∀ k k' v v' b, k ≠ k' → lo ≤ k → lo ≤ k' → skip k = false → skip k' = false → (inn hd w)[k]? = some v → (inn hd w)[k']? = some v' → blk (some v) = some b → blk (some v') ≠ some b)
/-- A slice of structs some of whose cells aren't told. -/
def RecRel (ρ : Rho) (cs : List (Option Sh)) : List (RecT cs) → List Value → Prop
  | [], vs => vs = []
  | x :: xs, vs => LRel ρ (recCells cs x) (vs.take cs.length) ∧ cs.length ≤ vs.length ∧ (∀ v ∈ vs.take cs.length, v.oneCell' = true) ∧ RecRel ρ cs xs (vs.drop cs.length)
def BlobRel (ρ : Rho) (own : Bool) (t : BT) (d : t.D) (hd : Value) (w : World) : Prop := match t, d with
  | .iter, d => ∃ r o, hd = BT.hd .iter r ∧ w.heap[r]? = some o ∧ BT.obj .iter d o
  | .map k v, d => ∃ r o, hd = BT.hd (.map k v) r ∧ w.heap[r]? = some o ∧ BT.obj (.map k v) d o
  | .rows oo io s, xss => OutRel (own && oo) 1 xss.length hd w ∧ InnRel (own && io) s (fun _ => false) 0 xss hd w ∧ (own = true → ∀ b, inr (.rows oo io s) xss hd w b → blk (some hd) ≠ some b)
  | .hole oo s, d => OutRel (own && oo) 1 d.2.length hd w ∧ InnRel own s (fun k => k == d.1.1) 0 d.2 hd w ∧ (own = true → ∀ b, inr (.hole oo s) d hd w b → blk (some hd) ≠ some b) ∧ d.1.1 < d.2.length ∧ ∃ v, (inn hd w)[d.1.1]? = some v ∧ ρ d.1.2 = some v
  | .tail s, d => OutRel false 1 (d.1 + d.2.length) hd w ∧ InnRel own s (fun _ => false) d.1 d.2 hd w ∧ (own = true → ∀ b, inr (.tail s) d hd w b → blk (some hd) ≠ some b)
  | .recs cs, xs => ∃ a cap, hd = .slice a (List.length xs) cap ∧ List.length xs ≤ cap ∧ match a with
    | none => xs = [] ∧ cap = 0
    | some ad => ad.spot = none ∧ ∃ vs el fz, w.heap[ad.block]? = some (.cells vs el fz) ∧ RecRel ρ cs xs ((vs.toList.drop ad.off).take (List.length xs * cs.length)) ∧
        (own = true → ad.off = 0 ∧ vs.size = cap * cs.length ∧ ∀ o, o < vs.size → ¬ (fz.1 ≤ o ∧ o < fz.2))
def ORel (ρ : Rho) (w : World) : AObj → Option Value → Prop
  | .dead, _ => True
  | .cell own k n c, h => ∃ hd, h = some hd ∧ CellRel ρ own k n c hd w
  | .row own s xs, h => ∃ hd, h = some hd ∧ RowRel own s xs hd w
  | .blob own t d, h => ∃ hd, h = some hd ∧ BlobRel ρ own t d hd w
/-- Is the primary block owned, if the object is; are the inner ones. -/
def BT.prim : BT → Bool
  | .rows oo _ _ => oo | .hole oo _ => oo | .tail _ => false | _ => true
def BT.deep : BT → Bool
  | .rows _ io _ => io | .hole _ _ => true | .tail _ => true | _ => false
def AObj.own : AObj → Bool
  | .dead => false | .cell o _ _ _ => o | .row o _ _ => o | .blob o t _ => o && t.prim
/-- The blocks that an object reads, those that it may write. -/
def fp (o : AObj) (h : Option Value) (w : World) (b : Nat) : Prop := match o with
  | .blob _ t d => blk h = some b ∨ ∃ hd, h = some hd ∧ inr t d hd w b
  | .dead => False
  | _ => blk h = some b
def fpw (o : AObj) (h : Option Value) (w : World) (b : Nat) : Prop := match o with
  | .blob own t d => ((own && t.prim) = true ∧ blk h = some b) ∨ ((own && t.deep) = true ∧ ∃ hd, h = some hd ∧ inr t d hd w b)
  | o => o.own = true ∧ blk h = some b
def AObj.live : AObj → Bool
  | .dead => false | _ => true
theorem BT.blk_hd (t : BT) (r : Nat) : blk (some (t.hd r)) = some r := by cases t <;> rfl
theorem BT.mp_hd (t : BT) (r : Nat) : ∃ r', t.hd r = .map (some r') ∨ t.hd r = .pointer (some ⟨r', 0, none⟩) := by
  cases t
  case map => exact ⟨r, .inl rfl⟩
  all_goals exact ⟨r, .inr rfl⟩
theorem fp_of {o : AObj} {h : Option Value} {w : World} {b : Nat} (hl : o.live = true) (hb : blk h = some b) : fp o h w b := by
  cases o with
  | dead => simp [AObj.live] at hl
  | cell => exact hb
  | row => exact hb
  | blob => exact .inl hb
theorem fpw_of {o : AObj} {h : Option Value} {w : World} {b : Nat} (ho : o.own = true) (hb : blk h = some b) : fpw o h w b := by
  cases o with
  | dead => simp [AObj.own] at ho
  | cell => exact ⟨ho, hb⟩
  | row => exact ⟨ho, hb⟩
  | blob => exact .inl ⟨ho, hb⟩
theorem fpw_fp {o : AObj} {h : Option Value} {w : World} {b : Nat} (hw : fpw o h w b) : fp o h w b := by
  cases o with
  | dead => simp [fpw, AObj.own] at hw
  | cell => exact hw.2
  | row => exact hw.2
  | blob => rcases hw with hw | hw; exact .inl hw.2; exact .inr hw.2
theorem fp_live {o : AObj} {h : Option Value} {w : World} {b : Nat} (hf : fp o h w b) : o.live = true := by
  cases o with
  | dead => exact hf.elim
  | cell => rfl
  | row => rfl
  | blob => rfl
/-- An owned object shares its block with no other, but for the cells of one box. -/
def SepAt (F : Nat → AObj) (ρ : Rho) (w : World) (i j : Nat) : Prop :=
  i ≠ j → ∀ b, fpw (F i) (ρ i) w b → fp (F j) (ρ j) w b →
    ∃ ki kj n ci cj, F i = .cell true ki n ci ∧ F j = .cell true kj n cj ∧ i + kj = j + ki ∧ ki ≠ kj
/-- Blocks that may be turned; the world in which the law was called (its blocks are never turned). -/
structure WL where
  l : List Nat
  w : World
  q : WI w
instance : Membership Nat WL := ⟨fun W b => b ∈ W.l⟩
theorem WL.mem {l : List Nat} {w : World} {q : WI w} {b : Nat} : b ∈ (⟨l, w, q⟩ : WL) ↔ b ∈ l := Iff.rfl
structure WOk (w0 : World) (W : WL) : Prop where
  size : W.w.heap.size ≤ w0.heap.size
  same : ∀ b, b < W.w.heap.size → w0.heap[b]? = W.w.heap[b]?
  own : ∀ b : Nat, b ∈ W → W.w.heap.size ≤ b
/-- Of the blocks below the begin's heap those of W alone may have turned. -/
structure Fr (w0 : World) (W : WL) (w : World) : Prop where
  os : w.os = w0.os
  tape : w.tape = w0.tape
  output : w.output = w0.output
  size : w0.heap.size ≤ w.heap.size
  block : ∀ b : Nat, b < w0.heap.size → b ∉ W → w.heap[b]? = w0.heap[b]?
  ok : WOk w0 W
theorem Fr.refl (w : World) (W : WL) (h : WOk w W) : Fr w W w := ⟨rfl, rfl, rfl, Nat.le_refl _, fun _ _ _ => rfl, h⟩
/-- What is known of the world in which the law was called, at a later one. -/
def WG (w : World) : Prop := ∃ v : World, WI v ∧ v.heap.size ≤ w.heap.size ∧ ∀ b, b < v.heap.size → w.heap[b]? = v.heap[b]?
theorem Fr.wok {w0 w : World} {W : WL} (h : Fr w0 W w) {l : List Nat} (hl : ∀ b ∈ l, w0.heap.size ≤ b ∨ b ∈ W) : WOk w ⟨l, W.w, W.q⟩ := by
  refine ⟨Nat.le_trans h.ok.size h.size, fun b hb => ?_, fun b hb => ?_⟩
  · have hb : b < W.w.heap.size := hb
    have h1 := h.ok.size
    rw [h.block b (by omega) fun hw => ?_]
    · exact h.ok.same b hb
    · have := h.ok.own b hw
      omega
  · rcases hl b hb with h1 | h1
    · exact Nat.le_trans h.ok.size h1
    · exact h.ok.own b h1
theorem Fr.wg {w0 w : World} {W : WL} (h : Fr w0 W w) : WG w := by
  have := h.wok (l := []) (by simp)
  exact ⟨W.w, W.q, this.size, this.same⟩
theorem World.cell_heap {w w' : World} {a : Addr} {v : Value} (hs : ∀ b, b < w.heap.size → w'.heap[b]? = w.heap[b]?) (h : w.cell? a = some v) : w'.cell? a = some v := by
  have hb : a.block < w.heap.size := by
    by_cases hb : a.block < w.heap.size
    · exact hb
    · unfold World.cell? at h
      rw [Array.getElem?_eq_none (by omega)] at h
      cases h
  unfold World.cell? at h ⊢
  rw [hs a.block hb]
  exact h
structure HR (w0 : World) (A : List Nat) (W : WL) (U : Nat → Prop) (ρ : Rho) (F : Nat → AObj) (w : World) : Prop where
  fr : Fr w0 W w
  fre : ∀ i, U i → ρ i = none
  obj : ∀ i, ORel ρ w (F i) (ρ i)
  sepf : ∀ i j, SepAt F ρ w i j
  locf : ∀ i b, fp (F i) (ρ i) w b → w0.heap.size ≤ b ∨ b ∈ A
  locfw : ∀ i b, fpw (F i) (ρ i) w b → w0.heap.size ≤ b ∨ b ∈ W
theorem HR.sep {w0 : World} {A : List Nat} {W : WL} {U : Nat → Prop} {ρ : Rho} {F : Nat → AObj} {w : World} (h : HR w0 A W U ρ F w) (i j : Nat) (hij : i ≠ j) (hi : (F i).own = true) (hj : (F j).live = true) (b : Nat) (hb : blk (ρ i) = some b) (hb' : blk (ρ j) = some b) :
    ∃ ki kj n ci cj, F i = .cell true ki n ci ∧ F j = .cell true kj n cj ∧ i + kj = j + ki ∧ ki ≠ kj := h.sepf i j hij b (fpw_of hi hb) (fp_of hj hb')
theorem HR.loc {w0 : World} {A : List Nat} {W : WL} {U : Nat → Prop} {ρ : Rho} {F : Nat → AObj} {w : World} (h : HR w0 A W U ρ F w) (i b : Nat) (hi : (F i).live = true) (hb : blk (ρ i) = some b) : w0.heap.size ≤ b ∨ b ∈ A := h.locf i b (fp_of hi hb)
theorem HR.locw {w0 : World} {A : List Nat} {W : WL} {U : Nat → Prop} {ρ : Rho} {F : Nat → AObj} {w : World} (h : HR w0 A W U ρ F w) (i b : Nat) (hi : (F i).own = true) (hb : blk (ρ i) = some b) : w0.heap.size ≤ b ∨ b ∈ W := h.locfw i b (fpw_of hi hb)
theorem heap_lt {w : World} {b : Nat} {o : Obj} (h : w.heap[b]? = some o) : b < w.heap.size := (Array.getElem?_eq_some_iff.1 h).1
theorem RowRel.lt {own : Bool} {s : Sh} {xs : List s.T} {hd : Value} {w : World} (h : RowRel own s xs hd w) {b : Nat} (hb : blk (some hd) = some b) : b < w.heap.size := by
  obtain ⟨a, cap, rfl, _, r⟩ := h
  cases a with
  | none => simp [blk] at hb
  | some ad =>
    simp [blk] at hb
    subst hb
    obtain ⟨_, cs, el, fz, hh, _⟩ := r
    exact heap_lt hh
theorem OutRel.lt {own : Bool} {sz n : Nat} {hd : Value} {w : World} (h : OutRel own sz n hd w) {b : Nat} (hb : blk (some hd) = some b) : b < w.heap.size := by
  obtain ⟨a, cap, rfl, _, r⟩ := h
  cases a with
  | none => simp [blk] at hb
  | some ad =>
    simp [blk] at hb
    subst hb
    obtain ⟨_, cs, el, fz, hh, _⟩ := r
    exact heap_lt hh
theorem inn_len {hd : Value} {w : World} {a : Option Addr} {n cap : Nat} (h : hd = .slice a n cap) : (inn hd w).length ≤ n := by
  subst h
  unfold inn
  split
  · rename_i heq
    cases heq
    split
    · rw [List.length_take]; omega
    · exact Nat.zero_le _
  · exact Nat.zero_le _
theorem OutRel.inn_lt {own : Bool} {sz n : Nat} {hd : Value} {w : World} (h : OutRel own sz n hd w) {k : Nat} {v : Value} (hv : (inn hd w)[k]? = some v) : k < n := by
  obtain ⟨a, cap, e, _⟩ := h
  have := inn_len (w := w) e
  have := (List.getElem?_eq_some_iff.1 hv).1
  omega
/-- An inner row's block is there. -/
theorem InnRel.lt {own : Bool} {s : Sh} {skip : Nat → Bool} {lo : Nat} {xss : List (List s.T)} {hd : Value} {w : World} (h : InnRel own s skip lo xss hd w) {k : Nat} {v : Value} (hk : lo ≤ k) (hl : k < lo + xss.length) (hs : skip k = false) (hv : (inn hd w)[k]? = some v) : ∃ xs, xss[k - lo]? = some xs ∧ RowRel own s xs v w := by
  have hx : xss[k - lo]? = some xss[k - lo] := List.getElem?_eq_getElem (by omega)
  have e : lo + (k - lo) = k := by omega
  obtain ⟨v', h1, h2⟩ := h.1 (k - lo) _ hx (by rw [e]; exact hs)
  rw [e, hv] at h1
  cases h1
  exact ⟨_, hx, h2⟩
/-- An inner row that an object reaches. -/
theorem BlobRel.inner {ρ : Rho} {own : Bool} {t : BT} {d : t.D} {hd : Value} {w : World} (h : BlobRel ρ own t d hd w) {k : Nat} {v : Value} (hv : (inn hd w)[k]? = some v) (hm : t.mine d k = true) : ∃ (s : Sh) (xs : List s.T), RowRel (own && t.deep) s xs v w := by
  cases t with
  | iter => simp [BT.mine] at hm
  | map => simp [BT.mine] at hm
  | recs => simp [BT.mine] at hm
  | rows oo io s =>
    obtain ⟨h1, h2, _⟩ := h
    have hk := h1.inn_lt hv
    obtain ⟨xs, _, hr⟩ := h2.lt (Nat.zero_le k) (by omega) rfl hv
    exact ⟨s, xs, hr⟩
  | hole oo s =>
    obtain ⟨h1, h2, _⟩ := h
    have hk := h1.inn_lt hv
    have hm : (!(k == d.1.1)) = true := hm
    obtain ⟨xs, _, hr⟩ := h2.lt (Nat.zero_le k) (by omega) (by simpa using hm) hv
    refine ⟨s, xs, ?_⟩
    rw [show (own && (BT.hole oo s).deep) = own by simp [BT.deep]]
    exact hr
  | tail s =>
    obtain ⟨h1, h2, _⟩ := h
    have hk := h1.inn_lt hv
    have hm : decide (d.1 ≤ k) = true := hm
    obtain ⟨xs, _, hr⟩ := h2.lt (by simpa using hm) hk rfl hv
    refine ⟨s, xs, ?_⟩
    rw [show (own && (BT.tail s).deep) = own by simp [BT.deep]]
    exact hr
theorem BlobRel.lt {ρ : Rho} {own : Bool} {t : BT} {d : t.D} {hd : Value} {w : World} (h : BlobRel ρ own t d hd w) {b : Nat} (hb : blk (some hd) = some b) : b < w.heap.size := by
  cases t with
  | iter =>
    obtain ⟨r, o, rfl, hh, _⟩ := h
    rw [BT.blk_hd] at hb
    cases hb
    exact heap_lt hh
  | map =>
    obtain ⟨r, o, rfl, hh, _⟩ := h
    rw [BT.blk_hd] at hb
    cases hb
    exact heap_lt hh
  | rows => exact h.1.lt hb
  | hole => exact h.1.lt hb
  | tail => exact h.1.lt hb
  | recs cs =>
    obtain ⟨a, cap, rfl, _, r⟩ := h
    cases a with
    | none => simp [blk] at hb
    | some ad =>
      simp [blk] at hb
      subst hb
      obtain ⟨_, cs, el, fz, hh, _⟩ := r
      exact heap_lt hh
theorem ORel.flt {ρ : Rho} {w : World} {o : AObj} {h : Option Value} (r : ORel ρ w o h) {b : Nat} (hf : fp o h w b) : b < w.heap.size := by
  cases o with
  | dead => exact hf.elim
  | cell own k n c =>
    obtain ⟨hd, e, b', o, cs, el, fz, v, rfl, hh, _⟩ := r
    have hf : blk h = some b := hf
    rw [e] at hf
    simp [blk] at hf
    subst hf
    exact heap_lt hh
  | row own s xs =>
    obtain ⟨hd, e, r⟩ := r
    have hf : blk h = some b := hf
    rw [e] at hf
    exact r.lt hf
  | blob own t d =>
    obtain ⟨hd, e, r⟩ := r
    rcases hf with hf | ⟨hd', e', k, v, hv, hm, hb⟩
    · rw [e] at hf
      exact r.lt hf
    · rw [e] at e'
      cases e'
      obtain ⟨s, xs, hr⟩ := r.inner hv hm
      exact hr.lt hb
theorem HR.flt {w0 : World} {A : List Nat} {W : WL} {U : Nat → Prop} {ρ : Rho} {F : Nat → AObj} {w : World} (h : HR w0 A W U ρ F w) {i b : Nat} (hf : fp (F i) (ρ i) w b) : b < w.heap.size := (h.obj i).flt hf
theorem HR.blt {w0 : World} {A : List Nat} {W : WL} {U : Nat → Prop} {ρ : Rho} {F : Nat → AObj} {w : World} (h : HR w0 A W U ρ F w) {i b : Nat} (hl : (F i).live = true) (hb : blk (ρ i) = some b) : b < w.heap.size := h.flt (fp_of hl hb)
theorem RowRel.kept {own : Bool} {s : Sh} {xs : List s.T} {hd : Value} {w w' : World} (h : RowRel own s xs hd w) (hb : ∀ b, blk (some hd) = some b → w'.heap[b]? = w.heap[b]?) : RowRel own s xs hd w' := by
  obtain ⟨a, cap, rfl, hl, hr⟩ := h
  refine ⟨a, cap, rfl, hl, ?_⟩
  cases a with
  | none => exact hr
  | some ad =>
    obtain ⟨hs, cs, el, fz, hh, hc, ho⟩ := hr
    exact ⟨hs, cs, el, fz, (hb ad.block rfl).trans hh, hc, ho⟩
theorem OutRel.kept {own : Bool} {sz n : Nat} {hd : Value} {w w' : World} (h : OutRel own sz n hd w) (hb : ∀ b, blk (some hd) = some b → w'.heap[b]? = w.heap[b]?) : OutRel own sz n hd w' := by
  obtain ⟨a, cap, rfl, hl, hr⟩ := h
  refine ⟨a, cap, rfl, hl, ?_⟩
  cases a with
  | none => exact hr
  | some ad =>
    obtain ⟨hs, cs, el, fz, hh, hc, ho⟩ := hr
    exact ⟨hs, cs, el, fz, (hb ad.block rfl).trans hh, hc, ho⟩
theorem inn_kept {hd : Value} {w w' : World} (hb : ∀ b, blk (some hd) = some b → w'.heap[b]? = w.heap[b]?) : inn hd w' = inn hd w := by
  unfold inn
  split
  · rename_i ad len cap
    rw [hb ad.block rfl]
  · rfl
theorem inr_kept {t : BT} {d : t.D} {hd : Value} {w w' : World} (hb : ∀ b, blk (some hd) = some b → w'.heap[b]? = w.heap[b]?) (b : Nat) : inr t d hd w' b ↔ inr t d hd w b := by
  unfold inr
  rw [inn_kept hb]
theorem InnRel.kept {own : Bool} {s : Sh} {skip : Nat → Bool} {lo : Nat} {xss : List (List s.T)} {hd : Value} {w w' : World} (h : InnRel own s skip lo xss hd w) (h1 : ∀ b, blk (some hd) = some b → w'.heap[b]? = w.heap[b]?)
    (h2 : ∀ k v b, lo ≤ k → skip k = false → (inn hd w)[k]? = some v → blk (some v) = some b → w'.heap[b]? = w.heap[b]?) : InnRel own s skip lo xss hd w' := by
  unfold InnRel
  rw [inn_kept h1]
  refine ⟨fun k xs hx hs => ?_, h.2⟩
  obtain ⟨v, hv, hr⟩ := h.1 k xs hx hs
  exact ⟨v, hv, hr.kept fun b hb => h2 _ v b (by omega) hs hv hb⟩
theorem RecRel.mono {ρ ρ' : Rho} (hx : ext ρ ρ') (cs : List (Option Sh)) : ∀ {xs : List (RecT cs)} {vs : List Value}, RecRel ρ cs xs vs → RecRel ρ' cs xs vs
  | [], _, h => h
  | _ :: _, _, ⟨a, b, c, d⟩ => ⟨a.mono hx, b, c, RecRel.mono hx cs d⟩
theorem BlobRel.kept {ρ ρ' : Rho} {own : Bool} {t : BT} {d : t.D} {hd : Value} {w w' : World} (h : BlobRel ρ own t d hd w) (hx : ext ρ ρ') (h1 : ∀ b, blk (some hd) = some b → w'.heap[b]? = w.heap[b]?) (h2 : ∀ b, inr t d hd w b → w'.heap[b]? = w.heap[b]?) : BlobRel ρ' own t d hd w' := by
  cases t with
  | iter =>
    obtain ⟨r, o, e, hh, hc⟩ := h
    exact ⟨r, o, e, (h1 r (by rw [e, BT.blk_hd])).trans hh, hc⟩
  | map =>
    obtain ⟨r, o, e, hh, hc⟩ := h
    exact ⟨r, o, e, (h1 r (by rw [e, BT.blk_hd])).trans hh, hc⟩
  | rows oo io s =>
    obtain ⟨p, q, r⟩ := h
    exact ⟨p.kept h1, q.kept h1 fun k v b _ _ hv hb => h2 b ⟨k, v, hv, rfl, hb⟩, fun ho b hb => r ho b ((inr_kept h1 b).1 hb)⟩
  | hole oo s =>
    obtain ⟨p, q, r, j, v, hv, hρ⟩ := h
    exact ⟨p.kept h1, q.kept h1 fun k v b _ hs hv hb => h2 b ⟨k, v, hv, by show (!(k == d.1.1)) = true; rw [show (k == d.1.1) = false from hs]; rfl, hb⟩, fun ho b hb => r ho b ((inr_kept h1 b).1 hb), j, v, by rw [inn_kept h1]; exact hv, hx _ _ hρ⟩
  | tail s =>
    obtain ⟨p, q, r⟩ := h
    exact ⟨p.kept h1, q.kept h1 fun k v b hk _ hv hb => h2 b ⟨k, v, hv, decide_eq_true hk, hb⟩, fun ho b hb => r ho b ((inr_kept h1 b).1 hb)⟩
  | recs cs =>
    obtain ⟨a, cap, rfl, hl, hr⟩ := h
    refine ⟨a, cap, rfl, hl, ?_⟩
    cases a with
    | none => exact hr
    | some ad =>
      obtain ⟨hs, vs, el, fz, hh, hc, ho⟩ := hr
      exact ⟨hs, vs, el, fz, (h1 ad.block rfl).trans hh, hc.mono hx, ho⟩
/-- An object reads ars it did where its blocks are ars they were. -/
theorem ORel.kept {ρ ρ' : Rho} {w w' : World} {o : AObj} {h : Option Value} (r : ORel ρ w o h) (hx : ext ρ ρ') (hb : ∀ b, fp o h w b → w'.heap[b]? = w.heap[b]?) : ORel ρ' w' o h := by
  cases o with
  | dead => trivial
  | cell own k n c =>
    obtain ⟨hd, e, b, o, cs, el, fz, v, rfl, hh, hc, hr, hk, ho⟩ := r
    subst e
    exact ⟨_, rfl, b, o, cs, el, fz, v, rfl, (hb b rfl).trans hh, hc, hr.mono hx, hk, ho⟩
  | row own s xs =>
    obtain ⟨hd, e, hr⟩ := r
    subst e
    exact ⟨_, rfl, hr.kept fun b h => hb b h⟩
  | blob own t d =>
    obtain ⟨hd, e, hr⟩ := r
    subst e
    exact ⟨_, rfl, hr.kept hx (fun b h => hb b (.inl h)) fun b h => hb b (.inr ⟨hd, rfl, h⟩)⟩
/-- Its blocks are the same then. -/
theorem fp_kept {w w' : World} {o : AObj} {h : Option Value} (hb : ∀ b, fp o h w b → w'.heap[b]? = w.heap[b]?) (b : Nat) : (fp o h w' b ↔ fp o h w b) ∧ (fpw o h w' b ↔ fpw o h w b) := by
  cases o with
  | dead => exact ⟨Iff.rfl, Iff.rfl⟩
  | cell => exact ⟨Iff.rfl, Iff.rfl⟩
  | row => exact ⟨Iff.rfl, Iff.rfl⟩
  | blob own t d =>
    have key : ∀ hd, h = some hd → (inr t d hd w' b ↔ inr t d hd w b) := fun hd e => inr_kept (fun b' h' => hb b' (.inl (by rw [e]; exact h'))) b
    constructor
    · constructor
      · rintro (q | ⟨hd, e, q⟩)
        · exact .inl q
        · exact .inr ⟨hd, e, (key hd e).1 q⟩
      · rintro (q | ⟨hd, e, q⟩)
        · exact .inl q
        · exact .inr ⟨hd, e, (key hd e).2 q⟩
    · constructor
      · rintro (q | ⟨o, hd, e, q⟩)
        · exact .inl q
        · exact .inr ⟨o, hd, e, (key hd e).1 q⟩
      · rintro (q | ⟨o, hd, e, q⟩)
        · exact .inl q
        · exact .inr ⟨o, hd, e, (key hd e).2 q⟩

/-! ### States -/
def valAt (a : Act) (sh : Nat → Value) (t : Nat) : Value := if t < shadow then a.tmps.getD t undef else sh (t - shadow)
structure Sim (w0 : World) (A : List Nat) (W : WL) (nt : Nat) (sh : Nat → Value) (U : Nat → Prop) (ρ : Rho) (tm : Nat → AVal) (F : Nat → AObj) (a : Act) (w : World) : Prop extends HR w0 A W U ρ F w where
  tms : ∀ t, VRel ρ (tm t) (valAt a sh t)
  siz : a.tmps.size = nt
  nts : nt ≤ shadow
  dfr : a.defers = []
theorem VRel.unk (ρ : Rho) (v : Value) : VRel ρ (.c .unk) v := trivial
/-- Constants. -/
theorem ofVal_rel {ρ : Rho} {v : Value} {c : Cell} (h : ofVal v = some c) : CRel ρ c v := by
  unfold ofVal at h
  split at h <;> cases h <;> rfl
theorem ofVal_known {v : Value} {c : Cell} (h : ofVal v = some c) : c ≠ .unk := by
  unfold ofVal at h
  split at h <;> cases h <;> simp
theorem ofVals_rel {ρ : Rho} : ∀ {vs : List Value} {cs : List Cell}, ofVals vs = some cs → LRel ρ cs vs
  | [], cs, h => by simp [ofVals] at h; subst h; trivial
  | v :: vs, cs, h => by
    simp only [ofVals] at h
    split at h <;> try cases h
    rename_i c h1
    split at h <;> cases h
    rename_i r h2
    exact ⟨ofVal_rel h1, ofVals_rel h2⟩
theorem ofVals_known : ∀ {vs : List Value} {cs : List Cell}, ofVals vs = some cs → known cs = true
  | [], cs, h => by simp [ofVals] at h; subst h; rfl
  | v :: vs, cs, h => by
    simp only [ofVals] at h
    split at h <;> try cases h
    rename_i c h1
    split at h <;> cases h
    rename_i r h2
    have := ofVal_known h1
    have := ofVals_known h2
    cases c <;> simp_all [known]
end Go.Proofs.YtiaagflfiphioaaDoorS
