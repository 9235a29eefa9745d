/- Plain facts for the laws: what an evaluation ends with, numbers, bytes, lists. -/
import Derived.Test.YtiaagflfiphioaaDoorSimFd
import Derived.Laws.BitsLemmas
namespace Go.Proofs.YtiaagflfiphioaaDoorS
open Go
set_option linter.unusedVariables false
set_option linter.unusedSimpArgs false

/-- An evaluation ends with a value. -/
def Ev {α : Type} (g : Nat → Option α) (r : α) : Prop := ∃ K, ∀ k, K ≤ k → g k = some r
theorem Ev.step {α : Type} {g h : Nat → Option α} {r : α} (e : ∀ k, g (k + 1) = h k) (H : Ev h r) : Ev g r := by
  obtain ⟨K, hK⟩ := H
  refine ⟨K + 1, fun k hk => ?_⟩
  obtain ⟨m, rfl⟩ : ∃ m, k = m + 1 := ⟨k - 1, by omega⟩
  rw [e]
  exact hK m (by omega)
theorem Ev.bind {α β : Type} {g : Nat → Option α} {h : Nat → α → Option β} {a : α} {r : β} (H1 : Ev g a) (H2 : Ev (fun k => h k a) r) : Ev (fun k => (g k).bind (h k)) r := by
  obtain ⟨K, hK⟩ := H1
  obtain ⟨L, hL⟩ := H2
  refine ⟨K + L, fun k hk => ?_⟩
  show (g k).bind (h k) = some r
  rw [hK k (by omega)]
  exact hL k (by omega)
theorem Ev.now {α : Type} (r : α) : Ev (fun _ => some r) r := ⟨0, fun _ _ => rfl⟩
theorem Ev.now' {α : Type} {a r : α} (h : a = r) : Ev (fun _ => some a) r := h ▸ Ev.now a
theorem Ev.yes {α : Type} {b : Bool} {g h : Nat → Option α} {r : α} (hb : b = true) (H : Ev g r) : Ev (fun k => cond b (g k) (h k)) r := by subst hb; exact H
theorem Ev.no {α : Type} {b : Bool} {g h : Nat → Option α} {r : α} (hb : b = false) (H : Ev h r) : Ev (fun k => cond b (g k) (h k)) r := by subst hb; exact H
theorem Ev.cond {α : Type} {b : Bool} {g h : Nat → Option α} {r : α} (H : b = true → Ev g r) (H' : b = false → Ev h r) : Ev (fun k => cond b (g k) (h k)) r := by
  cases b with
  | true => exact H rfl
  | false => exact H' rfl
theorem Ev.rounds {α : Type} {g : Nat → Option α} {r : α} (H : Ev g r) : ∃ k, g k = some r := by
  obtain ⟨K, h⟩ := H
  exact ⟨K, h K (Nat.le_refl _)⟩
theorem Ev.one {α : Type} {g : Nat → Option α} {a b : α} (H : Ev g a) (H' : Ev g b) : a = b := by
  obtain ⟨K, h⟩ := H
  obtain ⟨L, h'⟩ := H'
  have h1 := h (K + L) (by omega)
  have h2 := h' (K + L) (by omega)
  rw [h1] at h2
  exact Option.some.inj h2
theorem Ev.falseP {p : Prop} [Decidable p] (h : ¬ p) : Ev (fun _ => some false) (decide p) := Ev.now' (decide_eq_false h).symm
theorem Ev.decP {b : Bool} {p : Prop} [Decidable p] (h : b = true ↔ p) : Ev (fun _ => some b) (decide p) := Ev.now' (by
  cases b with
  | true => exact (decide_eq_true (h.1 rfl)).symm
  | false => exact (decide_eq_false fun e => by have := h.2 e; cases this).symm)
/-- A loop that looks for the first index of a kind. -/
theorem Ev.search {R : Type} {L : Nat → Int → Option R} {n : Nat} (P : Nat → Prop) (X : Nat → R) (Y : R) (hs : ∀ i : Nat, i < n → ¬ P i → ∀ r, Ev (fun k => L k ((i + 1 : Nat) : Int)) r → Ev (fun k => L k (i : Int)) r)
    (hx : ∀ i : Nat, i < n → P i → Ev (fun k => L k (i : Int)) (X i)) (he : Ev (fun k => L k (n : Int)) Y) : ∀ m i : Nat, i + m = n →
    ((∀ j, i ≤ j → j < n → ¬ P j) ∧ Ev (fun k => L k (i : Int)) Y) ∨ ∃ j, i ≤ j ∧ j < n ∧ P j ∧ (∀ l, i ≤ l → l < j → ¬ P l) ∧ Ev (fun k => L k (i : Int)) (X j)
  | 0, i, h => .inl ⟨fun j h1 h2 => by omega, by obtain rfl : i = n := by omega
                                                 exact he⟩
  | m + 1, i, h => by
    by_cases hp : P i
    · exact .inr ⟨i, Nat.le_refl _, by omega, hp, fun l h1 h2 => by omega, hx i (by omega) hp⟩
    · rcases Ev.search P X Y hs hx he m (i + 1) (by omega) with ⟨h1, h2⟩ | ⟨j, h1, h2, h3, h4, h5⟩
      · refine .inl ⟨fun j hj1 hj2 => ?_, hs i (by omega) hp _ h2⟩
        by_cases hji : j = i
        · exact hji ▸ hp
        · exact h1 j (by omega) hj2
      · refine .inr ⟨j, by omega, h2, h3, fun l hl1 hl2 => ?_, hs i (by omega) hp _ h5⟩
        by_cases hli : l = i
        · exact hli ▸ hp
        · exact h4 l (by omega) hl2
/-! ### Tests -/
def EvB (g : Nat → Option Bool) (P : Prop) : Prop := ∃ b, Ev g b ∧ (b = true ↔ P)
theorem EvB.step {g h : Nat → Option Bool} {P : Prop} (e : ∀ k, g (k + 1) = h k) (H : EvB h P) : EvB g P := by
  obtain ⟨b, h1, h2⟩ := H
  exact ⟨b, Ev.step e h1, h2⟩
theorem EvB.iff {g : Nat → Option Bool} {P Q : Prop} (H : EvB g P) (e : P ↔ Q) : EvB g Q := by
  obtain ⟨b, h1, h2⟩ := H
  exact ⟨b, h1, h2.trans e⟩
theorem EvB.val {b : Bool} {P : Prop} (h : b = true ↔ P) : EvB (fun _ => some b) P := ⟨b, Ev.now b, h⟩
theorem EvB.ret {g : Nat → Option Bool} {P : Prop} (H : EvB g P) : EvB (fun k => (g k).bind fun r => some r) P := by
  obtain ⟨b, h1, h2⟩ := H
  exact ⟨b, Ev.bind h1 (Ev.now b), h2⟩
theorem EvB.neg {g : Nat → Option Bool} {P : Prop} (H : EvB g P) : EvB (fun k => (g k).bind fun r => some (!r)) (¬ P) := by
  obtain ⟨b, h1, h2⟩ := H
  exact ⟨!b, Ev.bind h1 (Ev.now _), by rw [← h2]; cases b <;> simp⟩
theorem EvB.and {g h : Nat → Option Bool} {P Q : Prop} (H : EvB g P) (H' : P → EvB h Q) : EvB (fun k => (g k).bind fun r => cond r (h k) (some false)) (P ∧ Q) := by
  obtain ⟨b, h1, h2⟩ := H
  cases b with
  | true =>
    obtain ⟨c, h3, h4⟩ := H' (h2.1 rfl)
    exact ⟨c, Ev.bind h1 h3, h4.trans ⟨fun q => ⟨h2.1 rfl, q⟩, fun q => q.2⟩⟩
  | false => exact ⟨false, Ev.bind h1 (Ev.now _), by constructor; exact nofun; exact fun q => h2.2 q.1⟩
theorem EvB.and' {g h : Nat → Option Bool} {P Q : Prop} (H : EvB g P) (H' : P → EvB h Q) : EvB (fun k => (g k).bind fun r => cond (!r) (some false) (h k)) (P ∧ Q) := by
  obtain ⟨b, h1, h2⟩ := H
  cases b with
  | true =>
    obtain ⟨c, h3, h4⟩ := H' (h2.1 rfl)
    exact ⟨c, Ev.bind h1 h3, h4.trans ⟨fun q => ⟨h2.1 rfl, q⟩, fun q => q.2⟩⟩
  | false => exact ⟨false, Ev.bind h1 (Ev.now _), by constructor; exact nofun; exact fun q => h2.2 q.1⟩
theorem EvB.or' {g h : Nat → Option Bool} {P Q : Prop} (H : EvB g P) (H' : P → EvB h (¬ Q)) : EvB (fun k => (g k).bind fun r => cond (!r) (some true) (h k)) (¬ (P ∧ Q)) := by
  obtain ⟨b, h1, h2⟩ := H
  cases b with
  | true =>
    obtain ⟨c, h3, h4⟩ := H' (h2.1 rfl)
    exact ⟨c, Ev.bind h1 h3, h4.trans ⟨fun q e => q e.2, fun q e => q ⟨h2.1 rfl, e⟩⟩⟩
  | false => exact ⟨true, Ev.bind h1 (Ev.now _), by constructor; exact fun _ e => nomatch h2.2 e.1; exact fun _ => rfl⟩
theorem EvB.ifT {b : Bool} {h : Nat → Option Bool} {P Q : Prop} (hb : b = true ↔ P) (H' : P → EvB h Q) : EvB (fun k => cond b (h k) (some false)) (P ∧ Q) := by
  cases b with
  | true =>
    obtain ⟨c, h3, h4⟩ := H' (hb.1 rfl)
    exact ⟨c, h3, h4.trans ⟨fun q => ⟨hb.1 rfl, q⟩, fun q => q.2⟩⟩
  | false => exact ⟨false, Ev.now _, by constructor; exact nofun; exact fun q => hb.2 q.1⟩
theorem EvB.ifN {b : Bool} {h : Nat → Option Bool} {P Q : Prop} (hb : b = false ↔ P) (H' : P → EvB h Q) : EvB (fun k => cond b (some false) (h k)) (P ∧ Q) := by
  cases b with
  | false =>
    obtain ⟨c, h3, h4⟩ := H' (hb.1 rfl)
    exact ⟨c, h3, h4.trans ⟨fun q => ⟨hb.1 rfl, q⟩, fun q => q.2⟩⟩
  | true => exact ⟨false, Ev.now _, by constructor; exact nofun; exact fun q => nomatch hb.2 q.1⟩
theorem EvB.isT {g : Nat → Option Bool} {P : Prop} (H : EvB g P) (h : P) : Ev g true := by
  obtain ⟨b, h1, h2⟩ := H
  obtain rfl := h2.2 h
  exact h1
theorem EvB.isF {g : Nat → Option Bool} {P : Prop} (H : EvB g P) (h : ¬ P) : Ev g false := by
  obtain ⟨b, h1, h2⟩ := H
  cases b with
  | true => exact absurd (h2.1 rfl) h
  | false => exact h1
/-! ### Numbers -/
theorem w64_of {n : Int} (h : -9223372036854775808 ≤ n) (h' : n ≤ 9223372036854775807) : w64 n = n := by
  unfold w64
  rw [IntKind.wrap_i64]
  omega
theorem w8_eq (n : Int) : w8 n = n % 256 := IntKind.wrap_u8 n
theorem w8_of {n : Int} (h : 0 ≤ n) (h' : n ≤ 255) : w8 n = n := by rw [w8_eq]; omega
theorem inB_of {i : Int} {n : Nat} (h : 0 ≤ i) (h' : i < n) : inB i n = true := by unfold inB; simp [h, h']
theorem inB_nat {i n : Nat} (h : i < n) : inB (i : Int) n = true := inB_of (by omega) (by omega)
theorem lt_nat {i n : Nat} (h : i < n) : decide ((i : Int) < (n : Int)) = true := decide_eq_true (by omega)
theorem not_lt_nat {i n : Nat} (h : ¬ i < n) : decide ((i : Int) < (n : Int)) = false := decide_eq_false (by omega)
theorem w64_succ {i : Nat} (h : i < 9223372036854775807) : w64 ((i : Int) + 1) = ((i + 1 : Nat) : Int) := by rw [w64_of (by omega) (by omega)]; omega
theorem fits_of {n b : Nat} (h : n * b < 35184372088832) : fits n b = true := decide_eq_true h
theorem fitS_of {x y : ByteArray} (h : x.size + y.size < 4611686018427387904) : fitS x y = true := decide_eq_true h
theorem strEq_iff {x y : ByteArray} : strEq x y = true ↔ x = y := by
  unfold strEq
  rw [ByteArray.toList_eq, ByteArray.toList_eq, beq_iff_eq]
  constructor
  · intro h
    obtain ⟨⟨x⟩⟩ := x
    obtain ⟨⟨y⟩⟩ := y
    have h : x = y := h
    rw [h]
  · intro h
    rw [h]
theorem strEq_self (x : ByteArray) : strEq x x = true := by simp [strEq]
theorem neq_self (x : Int) : (x != x) = false := by simp
theorem bt_ge (s : ByteArray) (i : Nat) : 0 ≤ bt s i := by unfold bt; omega
theorem bt_lt (s : ByteArray) (i : Nat) : bt s i < 256 := by
  unfold bt
  have := (s.data.getD i 0).toNat_lt
  omega
theorem bt_at {s : ByteArray} {i : Nat} {c : UInt8} (h : s.data.toList[i]? = some c) : bt s i = (c.toNat : Int) := by
  unfold bt
  rw [Array.getElem?_toList] at h
  rw [Array.getD_eq_getD_getElem?, h]
  rfl
theorem size_list (s : ByteArray) : s.size = s.data.toList.length := by rw [Array.length_toList]; rfl
theorem tmod_of {n m : Int} (h : 0 ≤ n) (h' : n < m) : n.tmod m = n := Int.tmod_eq_of_lt h h'
theorem tmod_add {n m : Int} (h : 0 ≤ n) (h' : n < m) : (n + m).tmod m = n := by
  rw [Int.tmod_eq_emod_of_nonneg (by omega), Int.add_emod_right, Int.emod_eq_of_lt h h']
/-- A coordinate behind a step by one at most, joined at the edges. -/
def go1 (n m d : Int) : Int := if n + d = m then 0 else if n + d < 0 then m - 1 else n + d
theorem go1_range {n m d : Int} (h : 0 ≤ n) (h' : n < m) (h1 : -1 ≤ d) (h2 : d ≤ 1) : 0 ≤ go1 n m d ∧ go1 n m d < m := by
  unfold go1
  split
  · omega
  · split <;> omega
theorem go1_a {n m d : Int} (h : 0 ≤ n) (h' : n < m) (h1 : -1 ≤ d) (h2 : d ≤ 1) : (n + d + m).tmod m = go1 n m d := by
  unfold go1
  split
  · rename_i e
    rw [e, show m + m = m + m from rfl, Int.tmod_eq_emod_of_nonneg (by omega), Int.add_emod_right, Int.emod_self]
  · split
    · rw [show n + d + m = m - 1 by omega]
      exact tmod_of (by omega) (by omega)
    · exact tmod_add (by omega) (by omega)
theorem go1_b {n m d : Int} (h : 0 ≤ n) (h' : n < m) (h1 : -1 ≤ d) (h2 : d ≤ 1) : ((n + d).tmod m + m).tmod m = go1 n m d := by
  by_cases hd : n + d < 0
  · have e : n + d = -1 := by omega
    by_cases hm : m = 1
    · subst hm
      unfold go1
      rw [e]
      simp
    · have : (n + d).tmod m = -1 := by
        rw [e, Int.neg_tmod, tmod_of (by omega) (by omega)]
      rw [this, show (-1 : Int) + m = n + d + m by omega]
      exact go1_a h h' h1 h2
  · by_cases hm : n + d = m
    · rw [hm, Int.tmod_self, Int.zero_add, Int.tmod_self]
      unfold go1
      rw [if_pos hm]
    · rw [tmod_of (n := n + d) (by omega) (by omega)]
      exact go1_a h h' h1 h2
theorem cloneB_some {s : Sh} (b : Nat) (l : List s.T) (h : l.length * b ≤ 140737488355328) : cloneB (s := s) b l = some l := if_pos h
/-! ### Bytes -/
theorem toNat_ofNat8 {n : Nat} (h : n < 256) : (UInt8.ofNat n).toNat = n := by simp [UInt8.toNat_ofNat]; omega
theorem ofBytes_of (l : List UInt8) : ofBytes (l.map fun b => (b.toNat : Int)) = ⟨l.toArray⟩ := by
  unfold ofBytes
  rw [List.map_map]
  congr 1
  congr 1
  conv => rhs; rw [← List.map_id l]
  refine List.map_congr_left fun b _ => ?_
  simp
/-- A byte laid at an index: both ways of telling it. -/
def setByte (s : ByteArray) (i : Nat) (c : UInt8) : ByteArray := ⟨(s.data.toList.set i c).toArray⟩
theorem setByte_a (s : ByteArray) (i : Nat) (n : Int) : ofBytes ((bytesOf s).set i n) = setByte s i (UInt8.ofNat n.toNat) := by
  unfold ofBytes bytesOf setByte
  rw [List.map_set, List.map_map]
  congr 2
  congr 1
  conv => rhs; rw [← List.map_id s.data.toList]
  refine List.map_congr_left fun b _ => ?_
  simp
theorem ba_ext {x y : ByteArray} (h : x.data.toList = y.data.toList) : x = y := by
  obtain ⟨⟨x⟩⟩ := x
  obtain ⟨⟨y⟩⟩ := y
  simp at h
  rw [h]
theorem extract_list (s : ByteArray) (a b : Nat) : (s.extract a b).data.toList = (s.data.toList.take b).drop a := by
  rw [ByteArray.data_extract, Array.toList_extract]
  simp [List.extract_eq_take_drop, List.drop_take]
theorem append_list (x y : ByteArray) : (x ++ y).data.toList = x.data.toList ++ y.data.toList := by
  rw [ByteArray.data_append, Array.toList_append]
theorem setByte_b (s : ByteArray) (i : Nat) (n : Int) (h : i < s.size) : s.extract 0 i ++ ofBytes [n] ++ s.extract (i + 1) s.size = setByte s i (UInt8.ofNat n.toNat) := by
  apply ba_ext
  rw [append_list, append_list, extract_list, extract_list]
  have hl := size_list s
  unfold ofBytes setByte
  simp only [List.map_cons, List.map_nil, List.drop_zero]
  rw [hl, List.take_of_length_le (Nat.le_refl _), List.set_eq_take_append_cons_drop, if_pos (by omega)]
  simp
theorem setByte_size (s : ByteArray) (i : Nat) (c : UInt8) : (setByte s i c).size = s.size := by
  rw [size_list, size_list]
  simp [setByte]
/-! ### Lists -/
theorem getD_at {α : Type} [Inhabited α] {l : List α} {i : Nat} {x : α} (h : l[i]? = some x) : l.getD i default = x := by
  rw [List.getD_eq_getElem?_getD, h]
  rfl
theorem nat_list {α : Type} {l : List α} {i : Nat} (h : i < l.length) : ∃ x, l[i]? = some x := ⟨l[i], List.getElem?_eq_getElem h⟩
theorem pigeon : ∀ (n : Nat) (l : List Nat), l.Nodup → (∀ x ∈ l, x < n) → l.length ≤ n
  | 0, [], _, _ => Nat.le_refl _
  | 0, x :: l, _, h => by have := h x (by simp); omega
  | n + 1, l, hd, h => by
    have h1 := pigeon n (l.erase n) (hd.erase n) fun x hx => by
      have h2 := (List.Nodup.mem_erase_iff hd).1 hx
      have := h x h2.2
      have := h2.1
      omega
    rw [List.length_erase] at h1
    split at h1 <;> omega
theorem pigeon_mem {n : Nat} {l : List Nat} (hd : l.Nodup) (h : ∀ x ∈ l, x < n) (hl : l.length = n) {v : Nat} (hv : v < n) : v ∈ l := by
  by_cases hm : v ∈ l
  · exact hm
  · have := pigeon n (v :: l) (List.nodup_cons.2 ⟨hm, hd⟩) fun x hx => by
      rcases List.mem_cons.1 hx with rfl | hx
      · exact hv
      · exact h x hx
    simp at this
    omega
end Go.Proofs.YtiaagflfiphioaaDoorS
