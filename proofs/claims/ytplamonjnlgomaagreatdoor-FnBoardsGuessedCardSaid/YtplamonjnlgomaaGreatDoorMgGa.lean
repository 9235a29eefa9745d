/- Several texts in one: PuKit, PuBase, PuDigits, PuWo, PuGo, PuWorldOk, PuStep, PuColours, PuFilter, PuSize, PuPuzA, PuPzL, PuPuz1, PuPuz2, PuPuz3, PuDrop, PuHidden, PuHidA. -/
import Derived.Test.YtplamonjnlgomaaGreatDoorSimFd
import Derived.Laws.BitsLemmas
import Derived.Lib.Bytealg
import Derived.Test.YtplamonjnlgomaaGreatDoorEq0
import Derived.Test.YtplamonjnlgomaaGreatDoorEq1
import Derived.Test.YtplamonjnlgomaaGreatDoorEq2
namespace Go.Proofs.YtplamonjnlgomaaGreatDoorS
open Go
set_option linter.unusedVariables false
set_option linter.unusedSimpArgs false

/-- An evaluation ends with a value. -/
def Ev {α : Type} (g : Nat → Option α) (r : α) : Prop := ∃ K, ∀ k, K ≤ k → g k = some r
theorem Ev.step {α : Type} {g h : Nat → Option α} {r : α} (e : ∀ k, g (k + 1) = h k) (H : Ev h r) : Ev g r := by
  obtain ⟨K, hK⟩ := H
  refine ⟨K + 1, fun k hk => ?_⟩
  obtain ⟨m, rfl⟩ : ∃ m, k = m + 1 := ⟨k - 1, by omega⟩
  rw [e]
  exact hK m (by omega)
theorem Ev.bind {α β : Type} {g : Nat → Option α} {h : Nat → α → Option β} {a : α} {r : β} (H1 : Ev g a) (H2 : Ev (fun k => h k a) r) : Ev (fun k => (g k).bind (h k)) r := by
  obtain ⟨K, hK⟩ := H1
  obtain ⟨L, hL⟩ := H2
  refine ⟨K + L, fun k hk => ?_⟩
  show (g k).bind (h k) = some r
  rw [hK k (by omega)]
  exact hL k (by omega)
theorem Ev.now {α : Type} (r : α) : Ev (fun _ => some r) r := ⟨0, fun _ _ => rfl⟩
theorem Ev.now' {α : Type} {a r : α} (h : a = r) : Ev (fun _ => some a) r := h ▸ Ev.now a
theorem Ev.yes {α : Type} {b : Bool} {g h : Nat → Option α} {r : α} (hb : b = true) (H : Ev g r) : Ev (fun k => cond b (g k) (h k)) r := by subst hb; exact H
theorem Ev.no {α : Type} {b : Bool} {g h : Nat → Option α} {r : α} (hb : b = false) (H : Ev h r) : Ev (fun k => cond b (g k) (h k)) r := by subst hb; exact H
theorem Ev.cond {α : Type} {b : Bool} {g h : Nat → Option α} {r : α} (H : b = true → Ev g r) (H' : b = false → Ev h r) : Ev (fun k => cond b (g k) (h k)) r := by
  cases b with
  | true => exact H rfl
  | false => exact H' rfl
theorem Ev.rounds {α : Type} {g : Nat → Option α} {r : α} (H : Ev g r) : ∃ k, g k = some r := by
  obtain ⟨K, h⟩ := H
  exact ⟨K, h K (Nat.le_refl _)⟩
theorem Ev.one {α : Type} {g : Nat → Option α} {a b : α} (H : Ev g a) (H' : Ev g b) : a = b := by
  obtain ⟨K, h⟩ := H
  obtain ⟨L, h'⟩ := H'
  have h1 := h (K + L) (by omega)
  have h2 := h' (K + L) (by omega)
  rw [h1] at h2
  exact Option.some.inj h2
theorem Ev.falseP {p : Prop} [Decidable p] (h : ¬ p) : Ev (fun _ => some false) (decide p) := Ev.now' (decide_eq_false h).symm
theorem Ev.decP {b : Bool} {p : Prop} [Decidable p] (h : b = true ↔ p) : Ev (fun _ => some b) (decide p) := Ev.now' (by
  cases b with
  | true => exact (decide_eq_true (h.1 rfl)).symm
  | false => exact (decide_eq_false fun e => by have := h.2 e; cases this).symm)
/-- A loop that looks for the first index of a kind. -/
theorem Ev.search {R : Type} {L : Nat → Int → Option R} {n : Nat} (P : Nat → Prop) (X : Nat → R) (Y : R) (hs : ∀ i : Nat, i < n → ¬ P i → ∀ r, Ev (fun k => L k ((i + 1 : Nat) : Int)) r → Ev (fun k => L k (i : Int)) r)
    (hx : ∀ i : Nat, i < n → P i → Ev (fun k => L k (i : Int)) (X i)) (he : Ev (fun k => L k (n : Int)) Y) : ∀ m i : Nat, i + m = n →
    ((∀ j, i ≤ j → j < n → ¬ P j) ∧ Ev (fun k => L k (i : Int)) Y) ∨ ∃ j, i ≤ j ∧ j < n ∧ P j ∧ (∀ l, i ≤ l → l < j → ¬ P l) ∧ Ev (fun k => L k (i : Int)) (X j)
  | 0, i, h => .inl ⟨fun j h1 h2 => by omega, by obtain rfl : i = n := by omega
                                                 exact he⟩
  | m + 1, i, h => by
    by_cases hp : P i
    · exact .inr ⟨i, Nat.le_refl _, by omega, hp, fun l h1 h2 => by omega, hx i (by omega) hp⟩
    · rcases Ev.search P X Y hs hx he m (i + 1) (by omega) with ⟨h1, h2⟩ | ⟨j, h1, h2, h3, h4, h5⟩
      · refine .inl ⟨fun j hj1 hj2 => ?_, hs i (by omega) hp _ h2⟩
        by_cases hji : j = i
        · exact hji ▸ hp
        · exact h1 j (by omega) hj2
      · refine .inr ⟨j, by omega, h2, h3, fun l hl1 hl2 => ?_, hs i (by omega) hp _ h5⟩
        by_cases hli : l = i
        · exact hli ▸ hp
        · exact h4 l (by omega) hl2
/-! ### Tests -/
def EvB (g : Nat → Option Bool) (P : Prop) : Prop := ∃ b, Ev g b ∧ (b = true ↔ P)
theorem EvB.step {g h : Nat → Option Bool} {P : Prop} (e : ∀ k, g (k + 1) = h k) (H : EvB h P) : EvB g P := by
  obtain ⟨b, h1, h2⟩ := H
  exact ⟨b, Ev.step e h1, h2⟩
theorem EvB.iff {g : Nat → Option Bool} {P Q : Prop} (H : EvB g P) (e : P ↔ Q) : EvB g Q := by
  obtain ⟨b, h1, h2⟩ := H
  exact ⟨b, h1, h2.trans e⟩
theorem EvB.val {b : Bool} {P : Prop} (h : b = true ↔ P) : EvB (fun _ => some b) P := ⟨b, Ev.now b, h⟩
theorem EvB.ret {g : Nat → Option Bool} {P : Prop} (H : EvB g P) : EvB (fun k => (g k).bind fun r => some r) P := by
  obtain ⟨b, h1, h2⟩ := H
  exact ⟨b, Ev.bind h1 (Ev.now b), h2⟩
theorem EvB.neg {g : Nat → Option Bool} {P : Prop} (H : EvB g P) : EvB (fun k => (g k).bind fun r => some (!r)) (¬ P) := by
  obtain ⟨b, h1, h2⟩ := H
  exact ⟨!b, Ev.bind h1 (Ev.now _), by rw [← h2]; cases b <;> simp⟩
theorem EvB.and {g h : Nat → Option Bool} {P Q : Prop} (H : EvB g P) (H' : P → EvB h Q) : EvB (fun k => (g k).bind fun r => cond r (h k) (some false)) (P ∧ Q) := by
  obtain ⟨b, h1, h2⟩ := H
  cases b with
  | true =>
    obtain ⟨c, h3, h4⟩ := H' (h2.1 rfl)
    exact ⟨c, Ev.bind h1 h3, h4.trans ⟨fun q => ⟨h2.1 rfl, q⟩, fun q => q.2⟩⟩
  | false => exact ⟨false, Ev.bind h1 (Ev.now _), by constructor; exact nofun; exact fun q => h2.2 q.1⟩
theorem EvB.and' {g h : Nat → Option Bool} {P Q : Prop} (H : EvB g P) (H' : P → EvB h Q) : EvB (fun k => (g k).bind fun r => cond (!r) (some false) (h k)) (P ∧ Q) := by
  obtain ⟨b, h1, h2⟩ := H
  cases b with
  | true =>
    obtain ⟨c, h3, h4⟩ := H' (h2.1 rfl)
    exact ⟨c, Ev.bind h1 h3, h4.trans ⟨fun q => ⟨h2.1 rfl, q⟩, fun q => q.2⟩⟩
  | false => exact ⟨false, Ev.bind h1 (Ev.now _), by constructor; exact nofun; exact fun q => h2.2 q.1⟩
theorem EvB.or' {g h : Nat → Option Bool} {P Q : Prop} (H : EvB g P) (H' : P → EvB h (¬ Q)) : EvB (fun k => (g k).bind fun r => cond (!r) (some true) (h k)) (¬ (P ∧ Q)) := by
  obtain ⟨b, h1, h2⟩ := H
  cases b with
  | true =>
    obtain ⟨c, h3, h4⟩ := H' (h2.1 rfl)
    exact ⟨c, Ev.bind h1 h3, h4.trans ⟨fun q e => q e.2, fun q e => q ⟨h2.1 rfl, e⟩⟩⟩
  | false => exact ⟨true, Ev.bind h1 (Ev.now _), by constructor; exact fun _ e => nomatch h2.2 e.1; exact fun _ => rfl⟩
theorem EvB.ifT {b : Bool} {h : Nat → Option Bool} {P Q : Prop} (hb : b = true ↔ P) (H' : P → EvB h Q) : EvB (fun k => cond b (h k) (some false)) (P ∧ Q) := by
  cases b with
  | true =>
    obtain ⟨c, h3, h4⟩ := H' (hb.1 rfl)
    exact ⟨c, h3, h4.trans ⟨fun q => ⟨hb.1 rfl, q⟩, fun q => q.2⟩⟩
  | false => exact ⟨false, Ev.now _, by constructor; exact nofun; exact fun q => hb.2 q.1⟩
theorem EvB.ifN {b : Bool} {h : Nat → Option Bool} {P Q : Prop} (hb : b = false ↔ P) (H' : P → EvB h Q) : EvB (fun k => cond b (some false) (h k)) (P ∧ Q) := by
  cases b with
  | false =>
    obtain ⟨c, h3, h4⟩ := H' (hb.1 rfl)
    exact ⟨c, h3, h4.trans ⟨fun q => ⟨hb.1 rfl, q⟩, fun q => q.2⟩⟩
  | true => exact ⟨false, Ev.now _, by constructor; exact nofun; exact fun q => nomatch hb.2 q.1⟩
theorem EvB.isT {g : Nat → Option Bool} {P : Prop} (H : EvB g P) (h : P) : Ev g true := by
  obtain ⟨b, h1, h2⟩ := H
  obtain rfl := h2.2 h
  exact h1
theorem EvB.isF {g : Nat → Option Bool} {P : Prop} (H : EvB g P) (h : ¬ P) : Ev g false := by
  obtain ⟨b, h1, h2⟩ := H
  cases b with
  | true => exact absurd (h2.1 rfl) h
  | false => exact h1
/-! ### Numbers -/
theorem w64_of {n : Int} (h : -9223372036854775808 ≤ n) (h' : n ≤ 9223372036854775807) : w64 n = n := by
  unfold w64
  rw [IntKind.wrap_i64]
  omega
theorem w8_eq (n : Int) : w8 n = n % 256 := IntKind.wrap_u8 n
theorem w8_of {n : Int} (h : 0 ≤ n) (h' : n ≤ 255) : w8 n = n := by rw [w8_eq]; omega
theorem inB_of {i : Int} {n : Nat} (h : 0 ≤ i) (h' : i < n) : inB i n = true := by unfold inB; simp [h, h']
theorem inB_nat {i n : Nat} (h : i < n) : inB (i : Int) n = true := inB_of (by omega) (by omega)
theorem lt_nat {i n : Nat} (h : i < n) : decide ((i : Int) < (n : Int)) = true := decide_eq_true (by omega)
theorem not_lt_nat {i n : Nat} (h : ¬ i < n) : decide ((i : Int) < (n : Int)) = false := decide_eq_false (by omega)
theorem w64_succ {i : Nat} (h : i < 9223372036854775807) : w64 ((i : Int) + 1) = ((i + 1 : Nat) : Int) := by rw [w64_of (by omega) (by omega)]; omega
theorem fits_of {n b : Nat} (h : n * b < 35184372088832) : fits n b = true := decide_eq_true h
theorem fitS_of {x y : ByteArray} (h : x.size + y.size < 4611686018427387904) : fitS x y = true := decide_eq_true h
theorem strEq_iff {x y : ByteArray} : strEq x y = true ↔ x = y := by
  unfold strEq
  rw [ByteArray.toList_eq, ByteArray.toList_eq, beq_iff_eq]
  constructor
  · intro h
    obtain ⟨⟨x⟩⟩ := x
    obtain ⟨⟨y⟩⟩ := y
    have h : x = y := h
    rw [h]
  · intro h
    rw [h]
theorem strEq_self (x : ByteArray) : strEq x x = true := by simp [strEq]
theorem neq_self (x : Int) : (x != x) = false := by simp
theorem bt_ge (s : ByteArray) (i : Nat) : 0 ≤ bt s i := by unfold bt; omega
theorem bt_lt (s : ByteArray) (i : Nat) : bt s i < 256 := by
  unfold bt
  have := (s.data.getD i 0).toNat_lt
  omega
theorem bt_at {s : ByteArray} {i : Nat} {c : UInt8} (h : s.data.toList[i]? = some c) : bt s i = (c.toNat : Int) := by
  unfold bt
  rw [Array.getElem?_toList] at h
  rw [Array.getD_eq_getD_getElem?, h]
  rfl
theorem size_list (s : ByteArray) : s.size = s.data.toList.length := by rw [Array.length_toList]; rfl
theorem tmod_of {n m : Int} (h : 0 ≤ n) (h' : n < m) : n.tmod m = n := Int.tmod_eq_of_lt h h'
theorem tmod_add {n m : Int} (h : 0 ≤ n) (h' : n < m) : (n + m).tmod m = n := by
  rw [Int.tmod_eq_emod_of_nonneg (by omega), Int.add_emod_right, Int.emod_eq_of_lt h h']
/-- A coordinate behind a step by one at most, joined at the edges. -/
def go1 (n m d : Int) : Int := if n + d = m then 0 else if n + d < 0 then m - 1 else n + d
theorem go1_range {n m d : Int} (h : 0 ≤ n) (h' : n < m) (h1 : -1 ≤ d) (h2 : d ≤ 1) : 0 ≤ go1 n m d ∧ go1 n m d < m := by
  unfold go1
  split
  · omega
  · split <;> omega
theorem go1_a {n m d : Int} (h : 0 ≤ n) (h' : n < m) (h1 : -1 ≤ d) (h2 : d ≤ 1) : (n + d + m).tmod m = go1 n m d := by
  unfold go1
  split
  · rename_i e
    rw [e, show m + m = m + m from rfl, Int.tmod_eq_emod_of_nonneg (by omega), Int.add_emod_right, Int.emod_self]
  · split
    · rw [show n + d + m = m - 1 by omega]
      exact tmod_of (by omega) (by omega)
    · exact tmod_add (by omega) (by omega)
theorem go1_b {n m d : Int} (h : 0 ≤ n) (h' : n < m) (h1 : -1 ≤ d) (h2 : d ≤ 1) : ((n + d).tmod m + m).tmod m = go1 n m d := by
  by_cases hd : n + d < 0
  · have e : n + d = -1 := by omega
    by_cases hm : m = 1
    · subst hm
      unfold go1
      rw [e]
      simp
    · have : (n + d).tmod m = -1 := by
        rw [e, Int.neg_tmod, tmod_of (by omega) (by omega)]
      rw [this, show (-1 : Int) + m = n + d + m by omega]
      exact go1_a h h' h1 h2
  · by_cases hm : n + d = m
    · rw [hm, Int.tmod_self, Int.zero_add, Int.tmod_self]
      unfold go1
      rw [if_pos hm]
    · rw [tmod_of (n := n + d) (by omega) (by omega)]
      exact go1_a h h' h1 h2
theorem cloneB_some {s : Sh} (b : Nat) (l : List s.T) (h : l.length * b ≤ 140737488355328) : cloneB (s := s) b l = some l := if_pos h
/-! ### Bytes -/
theorem toNat_ofNat8 {n : Nat} (h : n < 256) : (UInt8.ofNat n).toNat = n := by simp [UInt8.toNat_ofNat]; omega
theorem ofBytes_of (l : List UInt8) : ofBytes (l.map fun b => (b.toNat : Int)) = ⟨l.toArray⟩ := by
  unfold ofBytes
  rw [List.map_map]
  congr 1
  congr 1
  conv => rhs; rw [← List.map_id l]
  refine List.map_congr_left fun b _ => ?_
  simp
/-- A byte laid at an index: both ways of telling it. -/
def setByte (s : ByteArray) (i : Nat) (c : UInt8) : ByteArray := ⟨(s.data.toList.set i c).toArray⟩
theorem setByte_a (s : ByteArray) (i : Nat) (n : Int) : ofBytes ((bytesOf s).set i n) = setByte s i (UInt8.ofNat n.toNat) := by
  unfold ofBytes bytesOf setByte
  rw [List.map_set, List.map_map]
  congr 2
  congr 1
  conv => rhs; rw [← List.map_id s.data.toList]
  refine List.map_congr_left fun b _ => ?_
  simp
theorem ba_ext {x y : ByteArray} (h : x.data.toList = y.data.toList) : x = y := by
  obtain ⟨⟨x⟩⟩ := x
  obtain ⟨⟨y⟩⟩ := y
  simp at h
  rw [h]
theorem extract_list (s : ByteArray) (a b : Nat) : (s.extract a b).data.toList = (s.data.toList.take b).drop a := by
  rw [ByteArray.data_extract, Array.toList_extract]
  simp [List.extract_eq_take_drop, List.drop_take]
theorem append_list (x y : ByteArray) : (x ++ y).data.toList = x.data.toList ++ y.data.toList := by
  rw [ByteArray.data_append, Array.toList_append]
theorem setByte_b (s : ByteArray) (i : Nat) (n : Int) (h : i < s.size) : s.extract 0 i ++ ofBytes [n] ++ s.extract (i + 1) s.size = setByte s i (UInt8.ofNat n.toNat) := by
  apply ba_ext
  rw [append_list, append_list, extract_list, extract_list]
  have hl := size_list s
  unfold ofBytes setByte
  simp only [List.map_cons, List.map_nil, List.drop_zero]
  rw [hl, List.take_of_length_le (Nat.le_refl _), List.set_eq_take_append_cons_drop, if_pos (by omega)]
  simp
theorem setByte_size (s : ByteArray) (i : Nat) (c : UInt8) : (setByte s i c).size = s.size := by
  rw [size_list, size_list]
  simp [setByte]
/-! ### Lists -/
theorem getD_at {α : Type} [Inhabited α] {l : List α} {i : Nat} {x : α} (h : l[i]? = some x) : l.getD i default = x := by
  rw [List.getD_eq_getElem?_getD, h]
  rfl
theorem nat_list {α : Type} {l : List α} {i : Nat} (h : i < l.length) : ∃ x, l[i]? = some x := ⟨l[i], List.getElem?_eq_getElem h⟩
theorem pigeon : ∀ (n : Nat) (l : List Nat), l.Nodup → (∀ x ∈ l, x < n) → l.length ≤ n
  | 0, [], _, _ => Nat.le_refl _
  | 0, x :: l, _, h => by have := h x (by simp); omega
  | n + 1, l, hd, h => by
    have h1 := pigeon n (l.erase n) (hd.erase n) fun x hx => by
      have h2 := (List.Nodup.mem_erase_iff hd).1 hx
      have := h x h2.2
      have := h2.1
      omega
    rw [List.length_erase] at h1
    split at h1 <;> omega
theorem pigeon_mem {n : Nat} {l : List Nat} (hd : l.Nodup) (h : ∀ x ∈ l, x < n) (hl : l.length = n) {v : Nat} (hv : v < n) : v ∈ l := by
  by_cases hm : v ∈ l
  · exact hm
  · have := pigeon n (v :: l) (List.nodup_cons.2 ⟨hm, hd⟩) fun x hx => by
      rcases List.mem_cons.1 hx with rfl | hx
      · exact hv
      · exact h x hx
    simp at this
    omega
theorem u8_eq {c : UInt8} {n : Nat} (hn : n < 256) : (((c.toNat : Int)) == (n : Int)) = true ↔ c = UInt8.ofNat n := by
  rw [beq_iff_eq]
  constructor
  · intro h
    apply UInt8.toNat_inj.1
    rw [toNat_ofNat8 hn]
    omega
  · intro h
    rw [h, toNat_ofNat8 hn]
theorem size_one {t : ByteArray} : t.size = 1 ↔ ∃ c, t.data.toList = [c] := by rw [size_list, List.length_eq_one_iff]
theorem mul_range {a b : Int} (h1 : 1 ≤ a) (h2 : a ≤ 9) (h3 : 1 ≤ b) (h4 : b ≤ 9) : 1 ≤ a * b ∧ a * b ≤ 81 := by
  have p := Int.mul_le_mul h2 h4 (by omega) (by omega)
  have q := Int.mul_pos (a := a) (b := b) (by omega) (by omega)
  omega
def CellsOk (ti : Int) (cs : ByteArray) : Prop := ∀ c ∈ cs.data.toList, 48 ≤ c.toNat ∧ (c.toNat : Int) ≤ 47 + ti
theorem byte_at {cs : ByteArray} {i : Nat} (h : i < cs.size) : ∃ c, cs.data.toList[i]? = some c := nat_list (by rw [← size_list]; exact h)
theorem num_of (c : UInt8) : w64 (w64 (c.toNat : Int) - 48) = (c.toNat : Int) - 48 := by
  have := c.toNat_lt
  rw [w64_of (n := (c.toNat : Int)) (by omega) (by omega), w64_of (by omega) (by omega)]
theorem at_range {x y w h : Int} (hx : 0 ≤ x ∧ x ≤ w - 1) (hy : 0 ≤ y ∧ y ≤ h - 1) (hw : 1 ≤ w ∧ w ≤ 9) (hh : 1 ≤ h ∧ h ≤ 9) : 0 ≤ y * w ∧ y * w ≤ 81 ∧ 0 ≤ y * w + x ∧ y * w + x < w * h := by
  have h1 := Int.mul_le_mul_of_nonneg_right (a := y) (b := h - 1) (c := w) hy.2 (by omega)
  rw [Int.sub_mul, Int.one_mul, Int.mul_comm h w] at h1
  have h2 := Int.mul_nonneg hy.1 (show (0 : Int) ≤ w by omega)
  have h3 := mul_range (a := w) (b := h) (by omega) (by omega) (by omega) (by omega)
  omega
def dxW (wy : Int) : Int := if wy = 1 then 1 else if wy = 3 then -1 else 0
def dyW (wy : Int) : Int := if wy = 0 then -1 else if wy = 2 then 1 else 0
theorem dW_range (wy : Int) : (-1 ≤ dxW wy ∧ dxW wy ≤ 1) ∧ (-1 ≤ dyW wy ∧ dyW wy ≤ 1) := by
  unfold dxW dyW
  constructor
  · split
    · omega
    · split <;> omega
  · split
    · omega
    · split <;> omega
theorem go1_zero {n m : Int} (h : 0 ≤ n ∧ n ≤ m - 1) : go1 n m 0 = n := by
  unfold go1
  rw [if_neg (by omega), if_neg (by omega)]
  omega
def quartersB (z : Int) : Int := if z = 76 then 3 else if z = 82 then 1 else if z = 85 then 2 else 0
theorem quartersB_range (z : Int) : 0 ≤ quartersB z ∧ quartersB z ≤ 3 := by
  unfold quartersB
  split
  · omega
  · split
    · omega
    · split <;> omega
theorem cells_set {ti : Int} {cs : ByteArray} (h : CellsOk ti cs) (i : Nat) {p : Int} (hp : 0 ≤ p ∧ p ≤ ti - 1) (hti : ti ≤ 9) : CellsOk ti (setByte cs i (UInt8.ofNat (48 + p).toNat)) := by
  intro c hc
  rcases List.mem_or_eq_of_mem_set hc with hc | rfl
  · exact h c hc
  · rw [toNat_ofNat8 (by omega)]
    omega
theorem within_ev (n lo hi : Int) : EvB (fun k => impl_within k (n, lo, hi)) (lo ≤ n ∧ n ≤ hi) :=
  EvB.step (fun k => impl_within.eq k n lo hi) (EvB.ifT decide_eq_true_iff fun _ => EvB.val decide_eq_true_iff)
theorem l1In_ev (n lo hi : Int) : EvB (fun k => spec_l1In k (n, lo, hi)) (lo ≤ n ∧ n ≤ hi) :=
  EvB.step (fun k => spec_l1In.eq k n lo hi) (EvB.ifT decide_eq_true_iff fun _ => EvB.val decide_eq_true_iff)
theorem areCells_ev (ti : Int) (hti : 1 ≤ ti ∧ ti ≤ 9) (cs : ByteArray) (hc : cs.size ≤ 9223372036854775807) (many : Int) : EvB (fun k => impl_areCells k (cs, many, ti)) (CellsOk ti cs ∧ (cs.size : Int) = many) := by
  have e1 : w64 (ti - 1) = ti - 1 := w64_of (by omega) (by omega)
  have step : ∀ (i : Nat) (c : UInt8), cs.data.toList[i]? = some c → ∀ r, Ev (fun k => (impl_within k ((c.toNat : Int) - 48, 0, ti - 1)).bind fun r1 => cond (!r1) (some (.inl false)) (impl_areCells_l k (cs, many, ti, (cs.size : Int), w64 ((i : Int) + 1)))) r → Ev (fun k => impl_areCells_l k (cs, many, ti, (cs.size : Int), (i : Int))) r := fun i c hx r H => by
    have hi : i < cs.size := by rw [size_list]; exact (List.getElem?_eq_some_iff.1 hx).1
    exact Ev.step (fun k => impl_areCells_l.eq k cs many ti (cs.size : Int) (i : Int)) (Ev.yes (lt_nat hi) (Ev.yes (inB_nat hi) (by rw [Int.toNat_natCast, bt_at hx, num_of, e1]; exact H)))
  have srch := Ev.search (L := fun k i => impl_areCells_l k (cs, many, ti, (cs.size : Int), i)) (n := cs.size) (fun i => ∃ c, cs.data.toList[i]? = some c ∧ ¬ (48 ≤ c.toNat ∧ (c.toNat : Int) ≤ 47 + ti)) (fun i => .inl false) (.inr (cs, many))
    (fun i hi hp r H => by
      obtain ⟨c, hx⟩ := byte_at hi
      have hr : 48 ≤ c.toNat ∧ (c.toNat : Int) ≤ 47 + ti := Classical.byContradiction fun hn => hp ⟨c, hx, hn⟩
      exact step i c hx r (Ev.bind ((within_ev _ _ _).isT (by omega)) (Ev.no rfl (by rw [w64_succ (by omega)]; exact H))))
    (fun i hi hp => by
      obtain ⟨c, hx, hn⟩ := hp
      exact step i c hx _ (Ev.bind ((within_ev _ _ _).isF (by omega)) (Ev.yes rfl (Ev.now _))))
    (Ev.step (fun k => impl_areCells_l.eq k cs many ti (cs.size : Int) (cs.size : Int)) (Ev.no (not_lt_nat (Nat.lt_irrefl _)) (Ev.now _))) cs.size 0 (by omega)
  refine EvB.step (fun k => impl_areCells.eq k cs many ti) ?_
  rcases srch with ⟨h1, h2⟩ | ⟨j, _, hj, ⟨x, hx, hn⟩, _, h2⟩
  · refine ⟨_, Ev.bind h2 (Ev.now _), ?_⟩
    rw [beq_iff_eq]
    refine ⟨fun h => ⟨fun c hm => ?_, h⟩, fun h => h.2⟩
    obtain ⟨i, hi⟩ := List.mem_iff_getElem?.1 hm
    exact Classical.byContradiction fun hn => h1 i (Nat.zero_le _) (by rw [size_list]; exact (List.getElem?_eq_some_iff.1 hi).1) ⟨c, hi, hn⟩
  · exact ⟨false, Ev.bind h2 (Ev.now _), ⟨nofun, fun h => absurd (h.1 x (List.mem_of_getElem? hx)) hn⟩⟩
theorem ahead_ev (wy : Int) (hwy : 0 ≤ wy ∧ wy ≤ 3) : Ev (fun k => impl_ahead k wy) (dxW wy, dyW wy) := by
  have : wy = 0 ∨ wy = 1 ∨ wy = 2 ∨ wy = 3 := by omega
  rcases this with rfl | rfl | rfl | rfl <;> exact Ev.step (fun k => impl_ahead.eq k _) (Ev.yes rfl (Ev.yes rfl (Ev.now' rfl)))
theorem gone_ev (rl : ByteArray) (w h : Int) (cs : ByteArray) (x y wy b : Int) (hw : 1 ≤ w ∧ w ≤ 9) (hh : 1 ≤ h ∧ h ≤ 9) (hx : 0 ≤ x ∧ x ≤ w - 1) (hy : 0 ≤ y ∧ y ≤ h - 1) (hwy : 0 ≤ wy ∧ wy ≤ 3) (hb : b = 1 ∨ b = -1) :
    Ev (fun k => impl_World_gone k ((rl, w, h, cs, x, y, wy), b)) (rl, w, h, cs, go1 x w (b * dxW wy), go1 y h (b * dyW wy), wy) := by
  obtain ⟨⟨d1, d2⟩, d3, d4⟩ := dW_range wy
  have hbx : -1 ≤ b * dxW wy ∧ b * dxW wy ≤ 1 := by rcases hb with rfl | rfl <;> omega
  have hby : -1 ≤ b * dyW wy ∧ b * dyW wy ≤ 1 := by rcases hb with rfl | rfl <;> omega
  refine Ev.step (fun k => impl_World_gone.eq k rl w h cs x y wy b) (Ev.bind (ahead_ev wy hwy) (Ev.yes (by rw [bne_iff_ne]; omega) (Ev.yes (by rw [bne_iff_ne]; omega) (Ev.now' ?_))))
  simp only
  rw [w64_of (n := b * dxW wy) (by omega) (by omega), w64_of (n := b * dyW wy) (by omega) (by omega), w64_of (n := x + b * dxW wy) (by omega) (by omega), w64_of (n := y + b * dyW wy) (by omega) (by omega),
    w64_of (n := x + b * dxW wy + w) (by omega) (by omega), w64_of (n := y + b * dyW wy + h) (by omega) (by omega), go1_a hx.1 (by omega) hbx.1 hbx.2, go1_a hy.1 (by omega) hby.1 hby.2]
theorem l1Mod_ev (n m d : Int) (h : 0 ≤ n ∧ n ≤ m - 1) (hm : 1 ≤ m ∧ m ≤ 9) (h1 : -1 ≤ d ∧ d ≤ 1) : Ev (fun k => spec_l1Mod k (n + d, m)) (go1 n m d) := by
  refine Ev.step (fun k => spec_l1Mod.eq k (n + d) m) (Ev.yes (by rw [bne_iff_ne]; omega) (Ev.yes (by rw [bne_iff_ne]; omega) (Ev.now' ?_)))
  rw [← go1_b h.1 (by omega) h1.1 h1.2]
  have a1 : (n + d).tmod m ≤ 9 ∧ -9 ≤ (n + d).tmod m := by
    have e1 := Int.tmod_lt_of_pos (n + d) (show (0 : Int) < m by omega)
    by_cases hd : 0 ≤ n + d
    · have e2 := Int.tmod_nonneg m hd
      omega
    · have e3 : n + d = -1 := by omega
      have e4 := Int.tmod_lt_of_pos 1 (show (0 : Int) < m by omega)
      have e5 := Int.tmod_nonneg m (show (0 : Int) ≤ 1 by omega)
      rw [e3, Int.neg_tmod] at e1 ⊢
      omega
  rw [w64_of (by omega) (by omega)]
theorem quarters_ev (z : Int) : Ev (fun k => impl_quarters k z) (quartersB z) := by
  refine Ev.step (fun k => impl_quarters.eq k z) (Ev.cond (fun h1 => Ev.now' ?_) fun h1 => Ev.cond (fun h2 => Ev.now' ?_) fun h2 => Ev.cond (fun h3 => Ev.now' ?_) fun h3 => Ev.now' ?_) <;>
    simp only [beq_iff_eq, beq_eq_false_iff_ne, ne_eq] at * <;> simp [quartersB, *]
theorem woTurn_ev (z : Int) : Ev (fun k => spec_woTurn k z) (quartersB z) := by
  refine Ev.step (fun k => spec_woTurn.eq k z) (Ev.cond (fun h1 => Ev.now' ?_) fun h1 => Ev.cond (fun h2 => Ev.now' ?_) fun h2 => Ev.cond (fun h3 => Ev.now' ?_) fun h3 => Ev.now' ?_) <;>
    simp only [beq_iff_eq, beq_eq_false_iff_ne, ne_eq] at * <;> simp [quartersB, *]
theorem l1Num_ev (n : Int) (h : 0 ≤ n ∧ n ≤ 9) : Ev (fun k => spec_l1Num k n) (ofBytes [48 + n]) :=
  Ev.step (fun k => spec_l1Num.eq k n) (Ev.yes (decide_eq_true (by omega)) (Ev.now' (by rw [w64_of (by omega) (by omega), w8_of (by omega) (by omega)])))
theorem painted_ev (cs : ByteArray) (i p : Int) (hi : 0 ≤ i ∧ i < cs.size) (hp : 0 ≤ p ∧ p ≤ 9) : Ev (fun k => impl_painted k (cs, i, p)) (setByte cs i.toNat (UInt8.ofNat (48 + p).toNat)) := by
  refine Ev.step (fun k => impl_painted.eq k cs i p) (Ev.yes (inB_of hi.1 (by unfold bytesOf; rw [List.length_map, ← size_list]; exact hi.2)) (Ev.now' ?_))
  rw [setByte_a, w64_of (by omega) (by omega), w8_of (by omega) (by omega)]
theorem colour_ev (rl : ByteArray) (w h : Int) (cs : ByteArray) (x y wy : Int) (hw : 1 ≤ w ∧ w ≤ 9) (hh : 1 ≤ h ∧ h ≤ 9) (hx : 0 ≤ x ∧ x ≤ w - 1) (hy : 0 ≤ y ∧ y ≤ h - 1) (hs : (cs.size : Int) = w * h) {c : UInt8} (hc : cs.data.toList[(y * w + x).toNat]? = some c) (h48 : 48 ≤ c.toNat) :
    Ev (fun k => impl_World_colour k (rl, w, h, cs, x, y, wy)) ((c.toNat : Int) - 48) := by
  obtain ⟨a1, a2, a3, a4⟩ := at_range hx hy hw hh
  have hlt := c.toNat_lt
  have e0 : w64 (w64 (y * w) + x) = y * w + x := by rw [w64_of (n := y * w) (by omega) (by omega), w64_of (by omega) (by omega)]
  refine Ev.step (fun k => impl_World_colour.eq k rl w h cs x y wy) (Ev.bind (Ev.step (fun k => impl_World_at.eq k rl w h cs x y wy) (Ev.now' e0)) (Ev.yes (inB_of a3 (by omega)) (Ev.now' ?_)))
  rw [bt_at hc, w8_of (by omega) (by omega), w64_of (by omega) (by omega)]
theorem isAnt_ev (w h x y wy : Int) (hw : 1 ≤ w ∧ w ≤ 9) (hh : 1 ≤ h ∧ h ≤ 9) : EvB (fun k => impl_isAnt k (w, h, x, y, wy)) ((0 ≤ x ∧ x ≤ w - 1) ∧ ((0 ≤ y ∧ y ≤ h - 1) ∧ (0 ≤ wy ∧ wy ≤ 3))) := by
  refine EvB.step (fun k => impl_isAnt.eq k w h x y wy) ?_
  rw [w64_of (n := w - 1) (by omega) (by omega), w64_of (n := h - 1) (by omega) (by omega)]
  exact EvB.and (within_ev x 0 (w - 1)) fun _ => EvB.and (within_ev y 0 (h - 1)) fun _ => (EvB.step (fun k => impl_isWay.eq k wy) (within_ev wy 0 3).ret).ret
/-! ### Rows of numbers and of texts -/

def extD (t : Nat) (s : ByteArray) : List ByteArray := (List.range t).map fun c : Nat => s ++ ofBytes [48 + (c : Int)]
def allD (t : Nat) : Nat → List ByteArray
  | 0 => [ByteArray.empty]
  | n + 1 => (allD t n).flatMap (extD t)
def lookD (t : Nat) : Nat → ByteArray → List ByteArray
  | 0, s => [s]
  | n + 1, s => (extD t s).flatMap (lookD t n)
theorem look_all (t : Nat) : ∀ (m k : Nat), (allD t k).flatMap (lookD t m) = allD t (k + m)
  | 0, k => by
    have : lookD t 0 = fun s => [s] := rfl
    rw [this, List.flatMap_singleton']
    rfl
  | m + 1, k => by
    have h := look_all t m (k + 1)
    rw [show k + (m + 1) = k + 1 + m by omega, ← h]
    show (allD t k).flatMap (fun s => (extD t s).flatMap (lookD t m)) = ((allD t k).flatMap (extD t)).flatMap (lookD t m)
    rw [List.flatMap_assoc]
theorem look_empty (t n : Nat) : lookD t n ByteArray.empty = allD t n := by
  have := look_all t n 0
  rw [Nat.zero_add] at this
  rw [← this]
  show _ = [ByteArray.empty].flatMap (lookD t n)
  simp
theorem digit_size (s : ByteArray) (c : Int) : (s ++ ofBytes [c]).size = s.size + 1 := by rw [ByteArray.size_append]; rfl
theorem digit_list (s : ByteArray) (c : Nat) (hc : c < 200) : (s ++ ofBytes [48 + (c : Int)]).data.toList = s.data.toList ++ [UInt8.ofNat (48 + c)] := by
  rw [append_list]
  show _ ++ [UInt8.ofNat (Int.toNat (48 + (c : Int)))] = _
  rw [show Int.toNat (48 + (c : Int)) = 48 + c by omega]
theorem cells_digit {t : Nat} {s : ByteArray} (h : CellsOk t s) {c : Nat} (hc : c < t) (ht : t ≤ 9) : CellsOk t (s ++ ofBytes [48 + (c : Int)]) := by
  intro b hb
  rw [digit_list s c (by omega)] at hb
  rcases List.mem_append.1 hb with hb | hb
  · exact h b hb
  · obtain rfl : b = UInt8.ofNat (48 + c) := by simpa using hb
    rw [toNat_ofNat8 (by omega)]
    omega
theorem mem_ext {t : Nat} {s x : ByteArray} : x ∈ extD t s ↔ ∃ c : Nat, c < t ∧ x = s ++ ofBytes [48 + (c : Int)] := by
  unfold extD
  rw [List.mem_map]
  constructor
  · rintro ⟨c, hc, rfl⟩; exact ⟨c, List.mem_range.1 hc, rfl⟩
  · rintro ⟨c, hc, rfl⟩; exact ⟨c, List.mem_range.2 hc, rfl⟩
theorem allD_ok {t : Nat} (ht : t ≤ 9) : ∀ (n : Nat) (s : ByteArray), s ∈ allD t n → s.size = n ∧ CellsOk t s
  | 0, s, h => by
    obtain rfl : s = ByteArray.empty := by simpa [allD] using h
    exact ⟨rfl, fun c hc => by cases hc⟩
  | n + 1, s, h => by
    obtain ⟨p, hp, hs⟩ := List.mem_flatMap.1 (show s ∈ (allD t n).flatMap (extD t) from h)
    obtain ⟨h1, h2⟩ := allD_ok ht n p hp
    obtain ⟨c, hc, rfl⟩ := mem_ext.1 hs
    exact ⟨by rw [digit_size, h1], cells_digit h2 hc ht⟩
theorem ext_len (t : Nat) (s : ByteArray) : (extD t s).length = t := by simp [extD]
theorem allD_len (t : Nat) : ∀ n, (allD t n).length = t ^ n
  | 0 => rfl
  | n + 1 => by
    show ((allD t n).flatMap (extD t)).length = _
    rw [List.length_flatMap]
    have : (allD t n).map (fun a => (extD t a).length) = List.replicate (allD t n).length t := by
      rw [List.eq_replicate_iff]
      refine ⟨by simp, fun b hb => ?_⟩
      obtain ⟨a, _, rfl⟩ := List.mem_map.1 hb
      exact ext_len t a
    rw [this, List.sum_replicate_nat, allD_len t n, Nat.pow_succ]
theorem pow_le_pow {t k n : Nat} (ht : 1 ≤ t) (h : k ≤ n) : t ^ k ≤ t ^ n := Nat.pow_le_pow_right ht h
/-! ### Rules -/
def SignC (c : UInt8) : Prop := c = 76 ∨ c = 82 ∨ c = 78 ∨ c = 85
def RuleOk (s : ByteArray) : Prop := (1 ≤ s.size ∧ s.size ≤ 6) ∧ ∀ c ∈ s.data.toList, SignC c
theorem woRuleR_ev (s : ByteArray) : EvB (fun k => spec_woRule k s) (RuleOk s) := by
  refine EvB.step (fun k => spec_woRule.eq k s) ?_
  have h1 : EvB (fun k => spec_l1In k ((s.size : Int), 1, 6)) (1 ≤ s.size ∧ s.size ≤ 6) := (l1In_ev _ _ _).iff (by omega)
  refine EvB.and' h1 fun hs => ?_
  have q : ∀ (c : UInt8) (n : Nat), n < 256 → (c = UInt8.ofNat n → ((c.toNat : Int) == (n : Int)) = true) ∧ (¬ c = UInt8.ofNat n → ((c.toNat : Int) == (n : Int)) = false) := fun c n hn => by
    refine ⟨(u8_eq hn).2, fun hc => ?_⟩
    cases hx : ((c.toNat : Int) == (n : Int)) with
    | false => rfl
    | true => exact absurd ((u8_eq hn).1 hx) hc
  have step : ∀ (i : Nat) (c : UInt8), s.data.toList[i]? = some c → ∀ r, Ev (fun k => cond ((c.toNat : Int) == 76) (spec_woRule_l k (s, w64 ((i : Int) + 1))) (cond ((c.toNat : Int) == 82) (spec_woRule_l k (s, w64 ((i : Int) + 1))) (cond ((c.toNat : Int) == 78) (spec_woRule_l k (s, w64 ((i : Int) + 1))) (cond ((c.toNat : Int) == 85) (spec_woRule_l k (s, w64 ((i : Int) + 1))) (some (.inl false)))))) r → Ev (fun k => spec_woRule_l k (s, (i : Int))) r := fun i c hx r H => by
    have hi : i < s.size := by rw [size_list]; exact (List.getElem?_eq_some_iff.1 hx).1
    exact Ev.step (fun k => spec_woRule_l.eq k s (i : Int)) (Ev.yes (lt_nat hi) (Ev.yes (inB_nat hi) (by rw [Int.toNat_natCast, bt_at hx]; exact H)))
  have srch := Ev.search (L := fun k i => spec_woRule_l k (s, i)) (n := s.size) (fun i => ∃ c, s.data.toList[i]? = some c ∧ ¬ SignC c) (fun i => .inl false) (.inr ())
    (fun i hi hp r H => by
      obtain ⟨c, hx⟩ := byte_at hi
      have hr : SignC c := Classical.byContradiction fun hn => hp ⟨c, hx, hn⟩
      have H' : Ev (fun k => spec_woRule_l k (s, w64 ((i : Int) + 1))) r := by rw [w64_succ (by omega)]; exact H
      refine step i c hx r ?_
      by_cases h1 : c = 76
      · exact Ev.yes ((q c 76 (by omega)).1 h1) H'
      · by_cases h2 : c = 82
        · exact Ev.no ((q c 76 (by omega)).2 h1) (Ev.yes ((q c 82 (by omega)).1 h2) H')
        · by_cases h3 : c = 78
          · exact Ev.no ((q c 76 (by omega)).2 h1) (Ev.no ((q c 82 (by omega)).2 h2) (Ev.yes ((q c 78 (by omega)).1 h3) H'))
          · have h4 : c = 85 := by
              rcases hr with h | h | h | h
              · exact absurd h h1
              · exact absurd h h2
              · exact absurd h h3
              · exact h
            exact Ev.no ((q c 76 (by omega)).2 h1) (Ev.no ((q c 82 (by omega)).2 h2) (Ev.no ((q c 78 (by omega)).2 h3) (Ev.yes ((q c 85 (by omega)).1 h4) H'))))
    (fun i hi hp => by
      obtain ⟨c, hx, hn⟩ := hp
      exact step i c hx _ (Ev.no ((q c 76 (by omega)).2 fun h => hn (.inl h)) (Ev.no ((q c 82 (by omega)).2 fun h => hn (.inr (.inl h))) (Ev.no ((q c 78 (by omega)).2 fun h => hn (.inr (.inr (.inl h)))) (Ev.no ((q c 85 (by omega)).2 fun h => hn (.inr (.inr (.inr h)))) (Ev.now _))))))
    (Ev.step (fun k => spec_woRule_l.eq k s (s.size : Int)) (Ev.no (not_lt_nat (Nat.lt_irrefl _)) (Ev.now _))) s.size 0 (by omega)
  rcases srch with ⟨h1, h2⟩ | ⟨j, _, hj, ⟨c, hx, hn⟩, _, h2⟩
  · refine ⟨true, Ev.bind h2 (Ev.now _), ⟨fun _ c hm => ?_, fun _ => rfl⟩⟩
    obtain ⟨i, hi⟩ := List.mem_iff_getElem?.1 hm
    exact Classical.byContradiction fun hn => h1 i (Nat.zero_le _) (by rw [size_list]; exact (List.getElem?_eq_some_iff.1 hi).1) ⟨c, hi, hn⟩
  · exact ⟨false, Ev.bind h2 (Ev.now _), ⟨nofun, fun h => absurd (h c (List.mem_of_getElem? hx)) hn⟩⟩
theorem dropWhile_nil {α : Type} (p : α → Bool) : ∀ l : List α, l.dropWhile p = [] ↔ l.all p = true
  | [] => by simp
  | x :: l => by
    by_cases h : p x = true
    · simp [List.dropWhile_cons, h, dropWhile_nil p l]
    · simp [List.dropWhile_cons, h]
theorem all_dropWhile {α : Type} (p : α → Bool) : ∀ l : List α, (l.dropWhile p).all p = true ↔ l.all p = true
  | [] => by simp
  | x :: l => by
    by_cases h : p x = true
    · simp [List.dropWhile_cons, h, all_dropWhile p l]
    · simp [List.dropWhile_cons, h]
theorem trimS_nil (l cs : List UInt8) : Lib.trimS l cs = [] ↔ l.all (fun c => cs.contains c) = true := by
  unfold Lib.trimS Lib.trimLeftS Lib.trimRightS
  rw [dropWhile_nil, List.all_reverse, all_dropWhile, List.all_reverse]
theorem isRuleR_ev (s : ByteArray) (hs : s.size ≤ 9223372036854775807) : EvB (fun k => impl_IsRule k s) (RuleOk s) := by
  have h1 : EvB (fun k => impl_within k ((s.size : Int), 1, 6)) (1 ≤ s.size ∧ s.size ≤ 6) := (within_ev _ _ _).iff (by omega)
  refine EvB.step (fun k => impl_IsRule.eq k s) (EvB.and h1 fun _ => ?_)
  have ht : strTrim s (bs [76, 82, 78, 85]) = some ⟨(Lib.trimS s.data.toList [76, 82, 78, 85]).toArray⟩ := if_pos ⟨hs, by decide, by decide⟩
  refine ⟨_, Ev.bind (Ev.step (fun k => (strings_Trim.eq k (s, bs [76, 82, 78, 85])).trans ht) (Ev.now _)) (Ev.now _), ?_⟩
  rw [strEq_iff]
  have e1 : (⟨(Lib.trimS s.data.toList [76, 82, 78, 85]).toArray⟩ : ByteArray) = ByteArray.empty ↔ Lib.trimS s.data.toList [76, 82, 78, 85] = [] := by
    constructor
    · intro h
      have := congrArg (fun b : ByteArray => b.data.toList) h
      simpa using this
    · intro h
      rw [h]
      rfl
  rw [e1, trimS_nil, List.all_eq_true]
  constructor
  · intro h c hc
    have := h c hc
    simp at this
    unfold SignC
    exact this
  · intro h c hc
    have := h c hc
    unfold SignC at this
    simp
    exact this

abbrev Wo := ByteArray × Int × Int × ByteArray × Int × Int × Int
abbrev Cl := Int × (Int × Int)
def WorldOk (rl : ByteArray) (w h : Int) (cs : ByteArray) (x y wy : Int) : Prop :=
  RuleOk rl ∧ (1 ≤ w ∧ w ≤ 9) ∧ (1 ≤ h ∧ h ≤ 9) ∧ (cs.size : Int) = w * h ∧ CellsOk (rl.size : Int) cs ∧ (0 ≤ x ∧ x ≤ w - 1) ∧ (0 ≤ y ∧ y ≤ h - 1) ∧ (0 ≤ wy ∧ wy ≤ 3)
theorem at64 {x y w h : Int} (hx : 0 ≤ x ∧ x ≤ w - 1) (hy : 0 ≤ y ∧ y ≤ h - 1) (hw : 1 ≤ w ∧ w ≤ 9) (hh : 1 ≤ h ∧ h ≤ 9) : w64 (w64 (y * w) + x) = y * w + x := by
  obtain ⟨a1, a2, a3, a4⟩ := at_range hx hy hw hh
  rw [w64_of (n := y * w) (by omega) (by omega), w64_of (by omega) (by omega)]
theorem go1_in {n m d : Int} (h : 0 ≤ n ∧ n ≤ m - 1) (h1 : -1 ≤ d ∧ d ≤ 1) : 0 ≤ go1 n m d ∧ go1 n m d ≤ m - 1 := by
  have := go1_range (n := n) (m := m) (d := d) h.1 (by omega) h1.1 h1.2
  omega
theorem woPaint_ev (rl : ByteArray) (w h : Int) (cs : ByteArray) (X Y Wy x y p : Int) (hw : 1 ≤ w ∧ w ≤ 9) (hh : 1 ≤ h ∧ h ≤ 9) (hx : 0 ≤ x ∧ x ≤ w - 1) (hy : 0 ≤ y ∧ y ≤ h - 1) (hs : (cs.size : Int) = w * h) (hp : 0 ≤ p ∧ p ≤ 9) :
    Ev (fun k => spec_woPaint k ((rl, w, h, cs, X, Y, Wy), x, y, p)) ((), (rl, w, h, setByte cs (y * w + x).toNat (UInt8.ofNat (48 + p).toNat), X, Y, Wy)) := by
  obtain ⟨a1, a2, a3, a4⟩ := at_range hx hy hw hh
  have e0 := at64 hx hy hw hh
  have e1 : w64 (y * w + x + 1) = y * w + x + 1 := w64_of (by omega) (by omega)
  have hm := mul_range (a := w) (b := h) (by omega) (by omega) (by omega) (by omega)
  refine Ev.step (fun k => spec_woPaint.eq k rl w h cs X Y Wy x y p) ?_
  rw [e0]
  refine Ev.yes (by rw [decide_eq_true (by omega), decide_eq_true (by omega)]; rfl) (Ev.bind (l1Num_ev p hp) ?_)
  rw [e1]
  have z1 : ∀ n : Int, (ofBytes [n]).size = 1 := fun n => rfl
  have z2 : ∀ a b, (cs.extract a b).size ≤ 81 := fun a b => by rw [ByteArray.size_extract]; omega
  have z3 := z2 0 (y * w + x).toNat
  have z4 := z2 (y * w + x + 1).toNat cs.size
  refine Ev.yes (fitS_of (by rw [z1]; omega)) (Ev.yes (by rw [decide_eq_true (by omega), decide_eq_true (by omega)]; rfl) (Ev.yes (fitS_of (by rw [ByteArray.size_append, z1]; omega)) (Ev.now' ?_)))
  rw [show (y * w + x + 1).toNat = (y * w + x).toNat + 1 by omega, setByte_b cs _ _ (by omega)]
theorem woGo_ev (rl : ByteArray) (w h : Int) (cs : ByteArray) (x y way : Int) (hw : 1 ≤ w ∧ w ≤ 9) (hh : 1 ≤ h ∧ h ≤ 9) (hx : 0 ≤ x ∧ x ≤ w - 1) (hy : 0 ≤ y ∧ y ≤ h - 1) (hway : 0 ≤ way ∧ way ≤ 3) :
    Ev (fun k => spec_woGo k ((rl, w, h, cs, x, y, way), 1)) ((), (rl, w, h, cs, go1 x w (1 * dxW way), go1 y h (1 * dyW way), way)) := by
  have e1 : w64 (y - 1) = y + -1 := by rw [w64_of (by omega) (by omega)]; omega
  have e2 : w64 (x + 1) = x + 1 := w64_of (by omega) (by omega)
  have e3 : w64 (y + 1) = y + 1 := w64_of (by omega) (by omega)
  have e4 : w64 (x - 1) = x + -1 := by rw [w64_of (by omega) (by omega)]; omega
  have : way = 0 ∨ way = 1 ∨ way = 2 ∨ way = 3 := by omega
  rcases this with rfl | rfl | rfl | rfl
  · refine Ev.step (fun k => spec_woGo.eq k rl w h cs x y 0 1) (Ev.yes rfl ?_)
    rw [e1]
    refine Ev.bind (l1Mod_ev y h (-1) hy hh (by omega)) (Ev.now' ?_)
    show ((), (rl, w, h, cs, x, go1 y h (-1), (0 : Int))) = ((), (rl, w, h, cs, go1 x w 0, go1 y h (-1), (0 : Int)))
    rw [go1_zero hx]
  · refine Ev.step (fun k => spec_woGo.eq k rl w h cs x y 1 1) (Ev.no rfl (Ev.yes rfl ?_))
    rw [e2]
    refine Ev.bind (l1Mod_ev x w 1 hx hw (by omega)) (Ev.now' ?_)
    show ((), (rl, w, h, cs, go1 x w 1, y, (1 : Int))) = ((), (rl, w, h, cs, go1 x w 1, go1 y h 0, (1 : Int)))
    rw [go1_zero hy]
  · refine Ev.step (fun k => spec_woGo.eq k rl w h cs x y 2 1) (Ev.no rfl (Ev.no rfl (Ev.yes rfl ?_)))
    rw [e3]
    refine Ev.bind (l1Mod_ev y h 1 hy hh (by omega)) (Ev.now' ?_)
    show ((), (rl, w, h, cs, x, go1 y h 1, (2 : Int))) = ((), (rl, w, h, cs, go1 x w 0, go1 y h 1, (2 : Int)))
    rw [go1_zero hx]
  · refine Ev.step (fun k => spec_woGo.eq k rl w h cs x y 3 1) (Ev.no rfl (Ev.no rfl (Ev.no rfl ?_)))
    rw [e4]
    refine Ev.bind (l1Mod_ev x w (-1) hx hw (by omega)) (Ev.now' ?_)
    show ((), (rl, w, h, cs, go1 x w (-1), y, (3 : Int))) = ((), (rl, w, h, cs, go1 x w (-1), go1 y h 0, (3 : Int)))
    rw [go1_zero hy]
theorem wstep_ev (rl : ByteArray) (w h : Int) (cs : ByteArray) (x y wy : Int) (H : WorldOk rl w h cs x y wy) : ∃ cs' x' y' wy', Ev (fun k => impl_World_step k (rl, w, h, cs, x, y, wy)) (rl, w, h, cs', x', y', wy') ∧
    Ev (fun k => spec_woStep k (rl, w, h, cs, x, y, wy)) (rl, w, h, cs', x', y', wy') ∧ WorldOk rl w h cs' x' y' wy' := by
  obtain ⟨hR, hw, hh, hs, hcs, hx, hy, hwy⟩ := H
  obtain ⟨hr6, hsg⟩ := id hR
  obtain ⟨a1, a2, a3, a4⟩ := at_range hx hy hw hh
  have hm := mul_range (a := w) (b := h) (by omega) (by omega) (by omega) (by omega)
  obtain ⟨c, hc⟩ := byte_at (cs := cs) (i := (y * w + x).toNat) (by omega)
  obtain ⟨c48, cti⟩ := hcs c (List.mem_of_getElem? hc)
  have hclt := c.toNat_lt
  obtain ⟨b, hb⟩ := byte_at (cs := rl) (i := ((c.toNat : Int) - 48).toNat) (by omega)
  have hbt : bt rl ((c.toNat : Int) - 48).toNat = (b.toNat : Int) := bt_at hb
  have eA := at64 hx hy hw hh
  have eC : w64 (w8 (bt cs (y * w + x).toNat - 48)) = (c.toNat : Int) - 48 := by rw [bt_at hc, w8_of (by omega) (by omega), w64_of (by omega) (by omega)]
  obtain ⟨q0, q3⟩ := quartersB_range (b.toNat : Int)
  have eW : (w64 (wy + quartersB (b.toNat : Int))).tmod 4 = (wy + quartersB (b.toNat : Int)) % 4 := by rw [w64_of (by omega) (by omega), Int.tmod_eq_emod_of_nonneg (by omega)]
  have hwz : 0 ≤ (wy + quartersB (b.toNat : Int)) % 4 ∧ (wy + quartersB (b.toNat : Int)) % 4 ≤ 3 := by omega
  generalize (wy + quartersB (b.toNat : Int)) % 4 = wz at eW hwz
  have hl0 : (0 : Int) < (rl.size : Int) := by omega
  have eP : (w64 ((c.toNat : Int) - 48 + 1)).tmod (rl.size : Int) = ((c.toNat : Int) - 48 + 1) % (rl.size : Int) := by rw [w64_of (by omega) (by omega), Int.tmod_eq_emod_of_nonneg (by omega)]
  have hP : 0 ≤ ((c.toNat : Int) - 48 + 1) % (rl.size : Int) ∧ ((c.toNat : Int) - 48 + 1) % (rl.size : Int) ≤ (rl.size : Int) - 1 := by
    have p1 := Int.emod_nonneg ((c.toNat : Int) - 48 + 1) (show (rl.size : Int) ≠ 0 by omega)
    have p2 := Int.emod_lt_of_pos ((c.toNat : Int) - 48 + 1) hl0
    omega
  generalize ((c.toNat : Int) - 48 + 1) % (rl.size : Int) = p at eP hP
  have hinA : inB (y * w + x) cs.size = true := inB_of a3 (by omega)
  have hinC : inB ((c.toNat : Int) - 48) rl.size = true := inB_of (by omega) (by omega)
  have hne : ((rl.size : Int) != 0) = true := by rw [bne_iff_ne]; omega
  obtain ⟨⟨d1, d2⟩, d3, d4⟩ := dW_range wz
  refine ⟨setByte cs (y * w + x).toNat (UInt8.ofNat (48 + p).toNat), go1 x w (1 * dxW wz), go1 y h (1 * dyW wz), wz, ?_, ?_, hR, hw, hh, by rw [setByte_size]; exact hs, cells_set hcs _ hP (by omega), go1_in hx (by omega), go1_in hy (by omega), hwz⟩
  · refine Ev.step (fun k => impl_World_step.eq k rl w h cs x y wy) (Ev.bind (colour_ev _ w h cs x y wy hw hh hx hy hs hc c48) (Ev.yes hinC ?_))
    rw [hbt]
    refine Ev.bind (quarters_ev _) ?_
    simp only [eW, eP]
    exact Ev.bind (Ev.step (fun k => impl_World_at.eq k rl w h cs x y wz) (Ev.now' eA)) (Ev.yes hne (Ev.bind (painted_ev cs _ p ⟨a3, by omega⟩ (by omega)) (Ev.bind (gone_ev _ w h _ x y wz 1 hw hh hx hy hwz (.inl rfl)) (Ev.now _))))
  · refine Ev.step (fun k => spec_woStep.eq k rl w h cs x y wy) (Ev.bind (a := (c.toNat : Int) - 48) (Ev.step (fun k => spec_woColour.eq k rl w h cs x y wy x y) (by rw [eA]; exact Ev.yes hinA (Ev.now' eC))) (Ev.yes hinC ?_))
    rw [hbt]
    refine Ev.bind (woTurn_ev _) ?_
    simp only [eW, eP]
    exact Ev.yes hne (Ev.bind (woPaint_ev rl w h cs x y wz x y p hw hh hx hy hs (by omega)) (Ev.bind (woGo_ev rl w h _ x y wz hw hh hx hy hwz) (Ev.now _)))

theorem go1_inv {n m M : Int} (hn : 0 ≤ n ∧ n ≤ M - 1) (hm : 0 ≤ m ∧ m ≤ M - 1) : (go1 n M (-1) = m ↔ n = go1 m M 1) ∧ (go1 n M 1 = m ↔ n = go1 m M (-1)) := by
  unfold go1
  constructor <;> split <;> first | omega | (split <;> first | omega | (split <;> first | omega | (split <;> omega)))
theorem back_go {n M d : Int} (h : 0 ≤ n ∧ n ≤ M - 1) (hd : d = 1 ∨ d = -1 ∨ d = 0) : go1 (go1 n M d) M (-d) = n := by
  have g1 := go1_in (d := 1) h (by omega)
  have g2 := go1_in (d := -1) h (by omega)
  rcases hd with rfl | rfl | rfl
  · exact ((go1_inv g1 h).1).2 rfl
  · exact ((go1_inv g2 h).2).2 rfl
  · rw [Int.neg_zero, go1_zero h, go1_zero h]
theorem dW_cases (wy : Int) : (dxW wy = 1 ∨ dxW wy = -1 ∨ dxW wy = 0) ∧ (dyW wy = 1 ∨ dyW wy = -1 ∨ dyW wy = 0) := by
  unfold dxW dyW
  constructor <;> split <;> first | omega | (split <;> omega)
theorem bt_set {s : ByteArray} {k : Nat} (j : Nat) (hk : k < s.size) (c : UInt8) : bt (setByte s k c) j = if j = k then (c.toNat : Int) else bt s j := by
  unfold bt setByte
  show ((((s.data.toList.set k c).toArray).getD j 0).toNat : Int) = _
  rw [Array.getD_eq_getD_getElem?, Array.getD_eq_getD_getElem?, List.getElem?_toArray, List.getElem?_set, ← Array.getElem?_toList]
  rw [size_list] at hk
  by_cases h : j = k
  · subst h
    have hk' : j < s.size := by rw [size_list]; exact hk
    simp [hk, hk']
  · rw [if_neg (fun e => h e.symm), if_neg h]
theorem set_twice {s : ByteArray} {k : Nat} {c d : UInt8} (h : s.data.toList[k]? = some d) : setByte (setByte s k c) k d = s := by
  apply ba_ext
  unfold setByte
  show ((s.data.toList.set k c).set k d) = s.data.toList
  rw [List.set_set]
  obtain ⟨h1, h2⟩ := List.getElem?_eq_some_iff.1 h
  rw [← h2, List.set_getElem_self]
theorem of_digit {c : UInt8} (h : 48 ≤ c.toNat) : UInt8.ofNat ((48 : Int) + ((c.toNat : Int) - 48)).toNat = c := by
  rw [show ((48 : Int) + ((c.toNat : Int) - 48)).toNat = c.toNat by omega]
  simp
theorem ba_beq (s : ByteArray) : (s == s) = true := by
  obtain ⟨d⟩ := s
  show (d == d) = true
  simp
theorem same7 (W : Wo) : (!((W.1 == W.1) && ((W.2.1 == W.2.1) && ((W.2.2.1 == W.2.2.1) && ((W.2.2.2.1 == W.2.2.2.1) && ((W.2.2.2.2.1 == W.2.2.2.2.1) && ((W.2.2.2.2.2.1 == W.2.2.2.2.2.1) && ((W.2.2.2.2.2.2 == W.2.2.2.2.2.2) && true)))))))) = false := by simp [ba_beq]
theorem sameB (b : Bool) : (!(b == b)) = false := by cases b <;> rfl
theorem sameS (s : ByteArray) : (!(strEq s s)) = false := by rw [strEq_self]; rfl
theorem good8 {x : Int} (h : (Sh.int IntKind.u8).good x) : 0 ≤ x ∧ x ≤ 255 := by
  have h : (Lit.int .u8 x).wf = true := h
  simp [Lit.wf, IntKind.min, IntKind.max, IntKind.bits, IntKind.signed] at h
  omega
theorem l1Mod_gen (n m : Int) (hm : 1 ≤ m ∧ m ≤ 1000000) (hn : -1000000000 ≤ n ∧ n ≤ 1000000000) : Ev (fun k => spec_l1Mod k (n, m)) (n % m) := by
  have h1 := Int.tmod_lt_of_pos n (show (0 : Int) < m by omega)
  have h2 : -m < n.tmod m := by
    by_cases h0 : 0 ≤ n
    · have := Int.tmod_nonneg m h0
      omega
    · have e : n.tmod m = -((-n).tmod m) := by rw [Int.neg_tmod, Int.neg_neg]
      have := Int.tmod_lt_of_pos (-n) (show (0 : Int) < m by omega)
      omega
  have e1 : w64 (n.tmod m + m) = n.tmod m + m := w64_of (by omega) (by omega)
  refine Ev.step (fun k => spec_l1Mod.eq k n m) (Ev.yes (by rw [bne_iff_ne]; omega) (Ev.yes (by rw [bne_iff_ne]; omega) (Ev.now' ?_)))
  rw [e1, Int.tmod_eq_emod_of_nonneg (by omega), Int.add_emod_right, Int.tmod_def, Int.sub_mul_emod_self_left]

section
variable (rl : ByteArray) (w h : Int) (cs : ByteArray) (x y wy : Int)
theorem isWorld_ev (hrl : rl.size ≤ 9223372036854775807) (hc : cs.size ≤ 9223372036854775807) : EvB (fun k => impl_IsWorld k (rl, w, h, cs, x, y, wy)) (WorldOk rl w h cs x y wy) := by
  have H : EvB (fun k => impl_IsWorld k (rl, w, h, cs, x, y, wy)) (RuleOk rl ∧ (((1 ≤ w ∧ w ≤ 9) ∧ (1 ≤ h ∧ h ≤ 9)) ∧ ((CellsOk (rl.size : Int) cs ∧ (cs.size : Int) = w * h) ∧ ((0 ≤ x ∧ x ≤ w - 1) ∧ ((0 ≤ y ∧ y ≤ h - 1) ∧ (0 ≤ wy ∧ wy ≤ 3)))))) := by
    refine EvB.step (fun k => impl_IsWorld.eq k rl w h cs x y wy) (EvB.and (isRuleR_ev rl hrl) fun hR => EvB.and (EvB.step (fun k => impl_isSize.eq k w h) (EvB.and (within_ev w 1 9) fun _ => (within_ev h 1 9).ret)) fun hs => ?_)
    have hm := mul_range (a := w) (b := h) (by omega) (by omega) (by omega) (by omega)
    have h6 := hR.1
    rw [w64_of (n := w * h) (by omega) (by omega)]
    exact EvB.and (areCells_ev (rl.size : Int) (by omega) cs hc (w * h)) fun _ => (isAnt_ev w h x y wy hs.1 hs.2).ret
  exact H.iff ⟨fun q => ⟨q.1, q.2.1.1, q.2.1.2, q.2.2.1.2, q.2.2.1.1, q.2.2.2.1, q.2.2.2.2.1, q.2.2.2.2.2⟩, fun q => ⟨q.1, ⟨q.2.1, q.2.2.1⟩, ⟨q.2.2.2.2.1, q.2.2.2.1⟩, q.2.2.2.2.2.1, q.2.2.2.2.2.2.1, q.2.2.2.2.2.2.2⟩⟩
theorem woGood_ev : EvB (fun k => spec_woGood k (rl, w, h, cs, x, y, wy)) (WorldOk rl w h cs x y wy) := by
  refine EvB.step (fun k => spec_woGood.eq k rl w h cs x y wy) (EvB.and' (woRuleR_ev rl) fun hR => EvB.and' (l1In_ev w 1 9) fun hw => EvB.and' (l1In_ev h 1 9) fun hh => ?_)
  have hm := mul_range (a := w) (b := h) (by omega) (by omega) (by omega) (by omega)
  have h6 := hR.1
  rw [w64_of (n := w * h) (by omega) (by omega)]
  refine EvB.ifN (P := (cs.size : Int) = w * h) (by rw [bne_eq_false_iff_eq]) fun _ => ?_
  have e1 : w64 ((rl.size : Int) - 1) = (rl.size : Int) - 1 := w64_of (by omega) (by omega)
  have step : ∀ (i : Nat) (c : UInt8), cs.data.toList[i]? = some c → ∀ r, Ev (fun k => (spec_l1In k ((c.toNat : Int) - 48, 0, (rl.size : Int) - 1)).bind fun r1 => cond (!r1) (some (.inl false)) (spec_woGood_l k ((rl, w, h, cs, x, y, wy), w64 ((i : Int) + 1)))) r → Ev (fun k => spec_woGood_l k ((rl, w, h, cs, x, y, wy), (i : Int))) r := fun i c hx r H => by
    have hi : i < cs.size := by rw [size_list]; exact (List.getElem?_eq_some_iff.1 hx).1
    exact Ev.step (fun k => spec_woGood_l.eq k rl w h cs x y wy (i : Int)) (Ev.yes (lt_nat hi) (Ev.yes (inB_nat hi) (by rw [Int.toNat_natCast, bt_at hx, num_of, e1]; exact H)))
  have srch := Ev.search (L := fun k i => spec_woGood_l k ((rl, w, h, cs, x, y, wy), i)) (n := cs.size) (fun i => ∃ c, cs.data.toList[i]? = some c ∧ ¬ (48 ≤ c.toNat ∧ (c.toNat : Int) ≤ 47 + (rl.size : Int))) (fun i => .inl false) (.inr (rl, w, h, cs, x, y, wy))
    (fun i hi hp r H => by
      obtain ⟨c, hx⟩ := byte_at hi
      have hr : 48 ≤ c.toNat ∧ (c.toNat : Int) ≤ 47 + (rl.size : Int) := Classical.byContradiction fun hn => hp ⟨c, hx, hn⟩
      exact step i c hx r (Ev.bind ((l1In_ev _ _ _).isT (by omega)) (Ev.no rfl (by rw [w64_succ (by omega)]; exact H))))
    (fun i hi hp => by
      obtain ⟨c, hx, hn⟩ := hp
      exact step i c hx _ (Ev.bind ((l1In_ev _ _ _).isF (by omega)) (Ev.yes rfl (Ev.now _))))
    (Ev.step (fun k => spec_woGood_l.eq k rl w h cs x y wy (cs.size : Int)) (Ev.no (not_lt_nat (Nat.lt_irrefl _)) (Ev.now _))) cs.size 0 (by omega)
  rcases srch with ⟨h1, h2⟩ | ⟨j, _, hj, ⟨c, hx, hn⟩, _, h2⟩
  · have hcs : CellsOk (rl.size : Int) cs := fun c hm => by
      obtain ⟨i, hi⟩ := List.mem_iff_getElem?.1 hm
      exact Classical.byContradiction fun hn => h1 i (Nat.zero_le _) (by rw [size_list]; exact (List.getElem?_eq_some_iff.1 hi).1) ⟨c, hi, hn⟩
    have rest : EvB (fun k => (spec_l1In k (x, 0, w64 (w - 1))).bind fun r7 => cond r7 ((spec_l1In k (y, 0, w64 (h - 1))).bind fun r8 => cond r8 ((spec_l1In k (wy, 0, 3)).bind fun r9 => some r9) (some false)) (some false)) ((0 ≤ x ∧ x ≤ w - 1) ∧ (0 ≤ y ∧ y ≤ h - 1) ∧ (0 ≤ wy ∧ wy ≤ 3)) := by
      rw [w64_of (n := w - 1) (by omega) (by omega), w64_of (n := h - 1) (by omega) (by omega)]
      exact EvB.and (l1In_ev _ _ _) fun _ => EvB.and (l1In_ev _ _ _) fun _ => (l1In_ev _ _ _).ret
    obtain ⟨b, q1, q2⟩ := rest
    exact ⟨b, Ev.bind h2 q1, q2.trans ⟨fun q => ⟨hcs, q⟩, fun q => q.2⟩⟩
  · exact ⟨false, Ev.bind h2 (Ev.now _), ⟨nofun, fun h => absurd (h.1 c (List.mem_of_getElem? hx)) hn⟩⟩
end

def OkO (W : Wo) : Prop := WorldOk W.1 W.2.1 W.2.2.1 W.2.2.2.1 W.2.2.2.2.1 W.2.2.2.2.2.1 W.2.2.2.2.2.2
abbrev zeroO : Wo := (ByteArray.empty, 0, 0, ByteArray.empty, 0, 0, 0)
def colB (w : Int) (cs : ByteArray) (x y : Int) : Int := bt cs (y * w + x).toNat - 48
def putB (w : Int) (cs : ByteArray) (x y p : Int) : ByteArray := setByte cs (y * w + x).toNat (UInt8.ofNat (48 + p).toNat)
def wayB (rl : ByteArray) (c wy : Int) : Int := (wy + quartersB (bt rl c.toNat)) % 4
def stepO : Wo → Wo
  | (rl, w, h, cs, x, y, wy) => (rl, w, h, putB w cs x y ((colB w cs x y + 1) % (rl.size : Int)), go1 x w (1 * dxW (wayB rl (colB w cs x y) wy)), go1 y h (1 * dyW (wayB rl (colB w cs x y) wy)), wayB rl (colB w cs x y) wy)
def preX (w x wy : Int) : Int := go1 x w (-1 * dxW wy)
def preY (h y wy : Int) : Int := go1 y h (-1 * dyW wy)
def preC (rl : ByteArray) (w h : Int) (cs : ByteArray) (x y wy : Int) : Int := (colB w cs (preX w x wy) (preY h y wy) - 1) % (rl.size : Int)
def backO : Wo → Wo
  | (rl, w, h, cs, x, y, wy) => (rl, w, h, putB w cs (preX w x wy) (preY h y wy) (preC rl w h cs x y wy), preX w x wy, preY h y wy, (wy - quartersB (bt rl (preC rl w h cs x y wy).toNat)) % 4)
section
variable {rl : ByteArray} {w h : Int} {cs : ByteArray} {x y wy : Int}
theorem cell_ex (hw : 1 ≤ w ∧ w ≤ 9) (hh : 1 ≤ h ∧ h ≤ 9) (hs : (cs.size : Int) = w * h) (hcs : CellsOk (rl.size : Int) cs) (hx : 0 ≤ x ∧ x ≤ w - 1) (hy : 0 ≤ y ∧ y ≤ h - 1) : ∃ c : UInt8, cs.data.toList[(y * w + x).toNat]? = some c ∧ colB w cs x y = (c.toNat : Int) - 48 ∧ 48 ≤ c.toNat ∧ (c.toNat : Int) ≤ 47 + (rl.size : Int) := by
  obtain ⟨a1, a2, a3, a4⟩ := at_range hx hy hw hh
  obtain ⟨c, hc⟩ := byte_at (cs := cs) (i := (y * w + x).toNat) (by omega)
  obtain ⟨c48, cti⟩ := hcs c (List.mem_of_getElem? hc)
  exact ⟨c, hc, by unfold colB; rw [bt_at hc], c48, cti⟩
theorem put_same (hw : 1 ≤ w ∧ w ≤ 9) (hh : 1 ≤ h ∧ h ≤ 9) (hs : (cs.size : Int) = w * h) (hcs : CellsOk (rl.size : Int) cs) (hx : 0 ≤ x ∧ x ≤ w - 1) (hy : 0 ≤ y ∧ y ≤ h - 1) (p : Int) (hp : 0 ≤ p ∧ p ≤ 9) : colB w (putB w cs x y p) x y = p ∧ putB w (putB w cs x y p) x y (colB w cs x y) = cs := by
  obtain ⟨c, hc, e, c48, _⟩ := cell_ex hw hh hs hcs hx hy
  obtain ⟨a1, a2, a3, a4⟩ := at_range hx hy hw hh
  constructor
  · unfold colB putB
    rw [bt_set _ (by omega), if_pos rfl, toNat_ofNat8 (by omega)]
    omega
  · unfold putB
    rw [e, of_digit c48]
    exact set_twice hc
end
theorem put_put (w : Int) (cs : ByteArray) (x y p q : Int) : putB w (putB w cs x y p) x y q = putB w cs x y q := by
  apply ba_ext
  unfold putB setByte
  show ((cs.data.toList.set _ _).set _ _) = cs.data.toList.set _ _
  rw [List.set_set]
theorem step_ev : ∀ W : Wo, OkO W → Ev (fun k => impl_World_step k W) (stepO W) ∧ Ev (fun k => spec_woStep k W) (stepO W) ∧ OkO (stepO W)
  | (rl, w, h, cs, x, y, wy), H => by
    obtain ⟨hR, hw, hh, hs, hcs, hx, hy, hwy⟩ : WorldOk rl w h cs x y wy := H
    obtain ⟨hr6, hsg⟩ := id hR
    obtain ⟨a1, a2, a3, a4⟩ := at_range hx hy hw hh
    have hm := mul_range (a := w) (b := h) (by omega) (by omega) (by omega) (by omega)
    obtain ⟨c, hc, eqc, c48, cti⟩ := cell_ex hw hh hs hcs hx hy
    have hclt := c.toNat_lt
    obtain ⟨b, hb⟩ := byte_at (cs := rl) (i := ((c.toNat : Int) - 48).toNat) (by omega)
    have hbt : bt rl ((c.toNat : Int) - 48).toNat = (b.toNat : Int) := bt_at hb
    have eA := at64 hx hy hw hh
    have eC : w64 (w8 (bt cs (y * w + x).toNat - 48)) = (c.toNat : Int) - 48 := by rw [bt_at hc, w8_of (by omega) (by omega), w64_of (by omega) (by omega)]
    obtain ⟨q0, q3⟩ := quartersB_range (b.toNat : Int)
    have eW : (w64 (wy + quartersB (b.toNat : Int))).tmod 4 = wayB rl (colB w cs x y) wy := by
      unfold wayB
      rw [eqc, hbt, w64_of (by omega) (by omega), Int.tmod_eq_emod_of_nonneg (by omega)]
    have hwz : 0 ≤ wayB rl (colB w cs x y) wy ∧ wayB rl (colB w cs x y) wy ≤ 3 := by unfold wayB; omega
    have hl0 : (0 : Int) < (rl.size : Int) := by omega
    have eP : (w64 ((c.toNat : Int) - 48 + 1)).tmod (rl.size : Int) = (colB w cs x y + 1) % (rl.size : Int) := by rw [eqc, w64_of (by omega) (by omega), Int.tmod_eq_emod_of_nonneg (by omega)]
    have hP : 0 ≤ (colB w cs x y + 1) % (rl.size : Int) ∧ (colB w cs x y + 1) % (rl.size : Int) ≤ (rl.size : Int) - 1 := by
      have p1 := Int.emod_nonneg (colB w cs x y + 1) (show (rl.size : Int) ≠ 0 by omega)
      have p2 := Int.emod_lt_of_pos (colB w cs x y + 1) hl0
      omega
    show Ev (fun k => impl_World_step k (rl, w, h, cs, x, y, wy)) (rl, w, h, putB w cs x y ((colB w cs x y + 1) % (rl.size : Int)), go1 x w (1 * dxW (wayB rl (colB w cs x y) wy)), go1 y h (1 * dyW (wayB rl (colB w cs x y) wy)), wayB rl (colB w cs x y) wy) ∧
      Ev (fun k => spec_woStep k (rl, w, h, cs, x, y, wy)) (rl, w, h, putB w cs x y ((colB w cs x y + 1) % (rl.size : Int)), go1 x w (1 * dxW (wayB rl (colB w cs x y) wy)), go1 y h (1 * dyW (wayB rl (colB w cs x y) wy)), wayB rl (colB w cs x y) wy) ∧
      WorldOk rl w h (putB w cs x y ((colB w cs x y + 1) % (rl.size : Int))) (go1 x w (1 * dxW (wayB rl (colB w cs x y) wy))) (go1 y h (1 * dyW (wayB rl (colB w cs x y) wy))) (wayB rl (colB w cs x y) wy)
    generalize wayB rl (colB w cs x y) wy = wz at eW hwz
    generalize (colB w cs x y + 1) % (rl.size : Int) = p at eP hP
    have hinA : inB (y * w + x) cs.size = true := inB_of a3 (by omega)
    have hinC : inB ((c.toNat : Int) - 48) rl.size = true := inB_of (by omega) (by omega)
    have hne : ((rl.size : Int) != 0) = true := by rw [bne_iff_ne]; omega
    obtain ⟨⟨d1, d2⟩, d3, d4⟩ := dW_range wz
    unfold putB
    refine ⟨?_, ?_, hR, hw, hh, by rw [setByte_size]; exact hs, cells_set hcs _ hP (by omega), go1_in hx (by omega), go1_in hy (by omega), hwz⟩
    · refine Ev.step (fun k => impl_World_step.eq k rl w h cs x y wy) (Ev.bind (colour_ev _ w h cs x y wy hw hh hx hy hs hc c48) (Ev.yes hinC ?_))
      rw [hbt]
      refine Ev.bind (quarters_ev _) ?_
      simp only [eW, eP]
      exact Ev.bind (Ev.step (fun k => impl_World_at.eq k rl w h cs x y wz) (Ev.now' eA)) (Ev.yes hne (Ev.bind (painted_ev cs _ p ⟨a3, by omega⟩ (by omega)) (Ev.bind (gone_ev _ w h _ x y wz 1 hw hh hx hy hwz (.inl rfl)) (Ev.now _))))
    · refine Ev.step (fun k => spec_woStep.eq k rl w h cs x y wy) (Ev.bind (a := (c.toNat : Int) - 48) (Ev.step (fun k => spec_woColour.eq k rl w h cs x y wy x y) (by rw [eA]; exact Ev.yes hinA (Ev.now' eC))) (Ev.yes hinC ?_))
      rw [hbt]
      refine Ev.bind (woTurn_ev _) ?_
      simp only [eW, eP]
      exact Ev.yes hne (Ev.bind (woPaint_ev rl w h cs x y wz x y p hw hh hx hy hs (by omega)) (Ev.bind (woGo_ev rl w h _ x y wz hw hh hx hy hwz) (Ev.now _)))
theorem pred_succ {c k : Int} (h : 0 ≤ c ∧ c ≤ k - 1) : ((c + 1) % k - 1) % k = c ∧ ((c - 1) % k + 1) % k = c := by
  constructor
  · rw [Int.sub_emod, Int.emod_emod, ← Int.sub_emod, show c + 1 - 1 = c by omega, Int.emod_eq_of_lt h.1 (by omega)]
  · rw [Int.add_emod, Int.emod_emod, ← Int.add_emod, show c - 1 + 1 = c by omega, Int.emod_eq_of_lt h.1 (by omega)]
theorem mod_range (c : Int) {k : Int} (hk : 1 ≤ k) : 0 ≤ c % k ∧ c % k ≤ k - 1 := by
  have p1 := Int.emod_nonneg c (show k ≠ 0 by omega)
  have p2 := Int.emod_lt_of_pos c (show 0 < k by omega)
  omega
theorem pre_in {n M d : Int} (h : 0 ≤ n ∧ n ≤ M - 1) (hd : d = 1 ∨ d = -1 ∨ d = 0) : 0 ≤ go1 n M (-1 * d) ∧ go1 n M (-1 * d) ≤ M - 1 := go1_in h (by omega)
theorem back_ok : ∀ W : Wo, OkO W → OkO (backO W)
  | (rl, w, h, cs, x, y, wy), H => by
    obtain ⟨hR, hw, hh, hs, hcs, hx, hy, hwy⟩ : WorldOk rl w h cs x y wy := H
    obtain ⟨d1, d2⟩ := dW_cases wy
    have hr6 := hR.1
    have hp := mod_range (colB w cs (preX w x wy) (preY h y wy) - 1) (k := (rl.size : Int)) (by omega)
    refine ⟨hR, hw, hh, ?_, cells_set hcs _ hp (by omega), pre_in hx d1, pre_in hy d2, ?_⟩
    · show ((setByte cs _ _).size : Int) = _
      rw [setByte_size]
      exact hs
    · show 0 ≤ (wy - _) % 4 ∧ (wy - _) % 4 ≤ 3
      omega
theorem back_step : ∀ W : Wo, OkO W → backO (stepO W) = W
  | (rl, w, h, cs, x, y, wy), H => by
    obtain ⟨hR, hw, hh, hs, hcs, hx, hy, hwy⟩ : WorldOk rl w h cs x y wy := H
    have hr6 := hR.1
    obtain ⟨c, hc, eqc, c48, cti⟩ := cell_ex hw hh hs hcs hx hy
    have hp := mod_range (colB w cs x y + 1) (k := (rl.size : Int)) (by omega)
    obtain ⟨p1, p2⟩ := put_same hw hh hs hcs hx hy ((colB w cs x y + 1) % (rl.size : Int)) (by omega)
    obtain ⟨d1, d2⟩ := dW_cases (wayB rl (colB w cs x y) wy)
    have ps := (pred_succ (c := colB w cs x y) (k := (rl.size : Int)) (by omega)).1
    have ex : preX w (go1 x w (1 * dxW (wayB rl (colB w cs x y) wy))) (wayB rl (colB w cs x y) wy) = x := by
      unfold preX
      rw [Int.one_mul, show -1 * dxW (wayB rl (colB w cs x y) wy) = -(dxW (wayB rl (colB w cs x y) wy)) by omega]
      exact back_go hx d1
    have ey : preY h (go1 y h (1 * dyW (wayB rl (colB w cs x y) wy))) (wayB rl (colB w cs x y) wy) = y := by
      unfold preY
      rw [Int.one_mul, show -1 * dyW (wayB rl (colB w cs x y) wy) = -(dyW (wayB rl (colB w cs x y) wy)) by omega]
      exact back_go hy d2
    show (rl, w, h, putB w _ _ _ _, _, _, _) = (rl, w, h, cs, x, y, wy)
    simp only [preC, ex, ey, p1, ps, p2]
    have : (wayB rl (colB w cs x y) wy - quartersB (bt rl (colB w cs x y).toNat)) % 4 = wy := by unfold wayB; omega
    rw [this]
theorem step_back : ∀ W : Wo, OkO W → stepO (backO W) = W
  | (rl, w, h, cs, x, y, wy), H => by
    obtain ⟨hR, hw, hh, hs, hcs, hx, hy, hwy⟩ : WorldOk rl w h cs x y wy := H
    have hr6 := hR.1
    obtain ⟨d1, d2⟩ := dW_cases wy
    have hx0 := pre_in hx d1
    have hy0 := pre_in hy d2
    obtain ⟨c, hc, eqc, c48, cti⟩ := cell_ex hw hh hs hcs hx0 hy0
    have hp := mod_range (colB w cs (preX w x wy) (preY h y wy) - 1) (k := (rl.size : Int)) (by omega)
    obtain ⟨p1, p2⟩ := put_same hw hh hs hcs hx0 hy0 (preC rl w h cs x y wy) (by unfold preC; omega)
    have p1 : colB w (putB w cs (preX w x wy) (preY h y wy) (preC rl w h cs x y wy)) (preX w x wy) (preY h y wy) = preC rl w h cs x y wy := p1
    have p2 : putB w (putB w cs (preX w x wy) (preY h y wy) (preC rl w h cs x y wy)) (preX w x wy) (preY h y wy) (colB w cs (preX w x wy) (preY h y wy)) = cs := p2
    have eqc : colB w cs (preX w x wy) (preY h y wy) = (c.toNat : Int) - 48 := eqc
    have ps := (pred_succ (c := colB w cs (preX w x wy) (preY h y wy)) (k := (rl.size : Int)) (by omega)).2
    have ew : wayB rl (preC rl w h cs x y wy) ((wy - quartersB (bt rl (preC rl w h cs x y wy).toNat)) % 4) = wy := by unfold wayB; omega
    have ex : go1 (preX w x wy) w (1 * dxW wy) = x := by
      unfold preX
      have := back_go (d := -1 * dxW wy) hx (by omega)
      rwa [show -(-1 * dxW wy) = 1 * dxW wy by omega] at this
    have ey : go1 (preY h y wy) h (1 * dyW wy) = y := by
      unfold preY
      have := back_go (d := -1 * dyW wy) hy (by omega)
      rwa [show -(-1 * dyW wy) = 1 * dyW wy by omega] at this
    show (rl, w, h, putB w _ _ _ _, _, _, _) = (rl, w, h, cs, x, y, wy)
    have ps' : (preC rl w h cs x y wy + 1) % (rl.size : Int) = colB w cs (preX w x wy) (preY h y wy) := ps
    rw [p1, ew, ps', p2, ex, ey]
/-! ### Many steps -/
def runO : Nat → Wo → Wo
  | 0, W => W
  | n + 1, W => runO n (stepO W)
def unrunO : Nat → Wo → Wo
  | 0, W => W
  | n + 1, W => unrunO n (backO W)
theorem step_ok (W : Wo) (H : OkO W) : OkO (stepO W) := (step_ev W H).2.2
theorem run_ok : ∀ (n : Nat) (W : Wo), OkO W → OkO (runO n W)
  | 0, W, H => H
  | n + 1, W, H => run_ok n (stepO W) (step_ok W H)
theorem unrun_ok : ∀ (n : Nat) (W : Wo), OkO W → OkO (unrunO n W)
  | 0, W, H => H
  | n + 1, W, H => unrun_ok n (backO W) (back_ok W H)
theorem run_succ : ∀ (n : Nat) (W : Wo), runO (n + 1) W = stepO (runO n W)
  | 0, W => rfl
  | n + 1, W => run_succ n (stepO W)
theorem unrun_run : ∀ (n : Nat) (W : Wo), OkO W → unrunO n (runO n W) = W
  | 0, W, H => rfl
  | n + 1, W, H => by
    rw [run_succ]
    show unrunO n (backO (stepO (runO n W))) = W
    rw [back_step _ (run_ok n W H)]
    exact unrun_run n W H
theorem run_unrun : ∀ (n : Nat) (W : Wo), OkO W → runO n (unrunO n W) = W
  | 0, W, H => rfl
  | n + 1, W, H => by
    rw [run_succ]
    show stepO (runO n (unrunO n (backO W))) = W
    rw [run_unrun n (backO W) (back_ok W H)]
    exact step_back W H
theorem okO_size {W : Wo} (H : OkO W) : W.1.size ≤ 6 ∧ W.2.2.2.1.size ≤ 81 := by
  obtain ⟨hR, hw, hh, hs, _⟩ := H
  have hr6 := hR.1
  have hm := mul_range (a := W.2.1) (b := W.2.2.1) (by omega) (by omega) (by omega) (by omega)
  omega
theorem goodW_ev (W : Wo) : EvB (fun k => spec_woGood k W) (OkO W) := woGood_ev W.1 W.2.1 W.2.2.1 W.2.2.2.1 W.2.2.2.2.1 W.2.2.2.2.2.1 W.2.2.2.2.2.2
section
variable (W : Wo) (hr : W.1.size ≤ 1048576) (hc : W.2.2.2.1.size ≤ 1048576)
include hr hc
theorem isW_ev : EvB (fun k => impl_IsWorld k W) (OkO W) := isWorld_ev W.1 W.2.1 W.2.2.1 W.2.2.2.1 W.2.2.2.2.1 W.2.2.2.2.2.1 W.2.2.2.2.2.2 (by omega) (by omega)
end
/-! ### The signs of the turns -/
def signO (W : Wo) : UInt8 := W.1.data.toList.getD (colB W.2.1 W.2.2.2.1 W.2.2.2.2.1 W.2.2.2.2.2.1).toNat 0
def turnsO : Nat → Wo → List UInt8
  | 0, _ => []
  | n + 1, W => signO W :: turnsO n (stepO W)
theorem turns_len : ∀ (n : Nat) (W : Wo), (turnsO n W).length = n
  | 0, _ => rfl
  | n + 1, W => by
    show (turnsO n (stepO W)).length + 1 = n + 1
    rw [turns_len n]

def wsum : Int → List Int → Int
  | _, [] => 0
  | a, x :: l => a * x + wsum (a + 1) l
def dsum (l : List UInt8) : Int := (l.map fun c => (c.toNat : Int) - 48).sum
theorem sum_set : ∀ (l : List Int) (i : Nat) (x v : Int), l[i]? = some x → (l.set i v).sum = l.sum - x + v
  | [], i, x, v, h => by simp at h
  | y :: l, 0, x, v, h => by
    obtain rfl : y = x := by simpa using h
    simp only [List.set_cons_zero, List.sum_cons]
    omega
  | y :: l, i + 1, x, v, h => by
    have := sum_set l i x v (by simpa using h)
    simp only [List.set_cons_succ, List.sum_cons]
    omega
theorem wsum_set : ∀ (l : List Int) (a : Int) (i : Nat) (x v : Int), l[i]? = some x → wsum a (l.set i v) = wsum a l + (a + (i : Int)) * (v - x)
  | [], a, i, x, v, h => by simp at h
  | y :: l, a, 0, x, v, h => by
    obtain rfl : y = x := by simpa using h
    simp only [List.set_cons_zero, wsum]
    rw [show a + ((0 : Nat) : Int) = a by omega, Int.mul_sub]
    omega
  | y :: l, a, i + 1, x, v, h => by
    have := wsum_set l (a + 1) i x v (by simpa using h)
    simp only [List.set_cons_succ, wsum]
    rw [this, show a + ((i + 1 : Nat) : Int) = a + 1 + (i : Int) by omega]
    omega
theorem wsum_zero : ∀ (n : Nat) (a : Int), wsum a (List.replicate n 0) = 0
  | 0, _ => rfl
  | n + 1, a => by
    rw [List.replicate_succ]
    show a * 0 + wsum (a + 1) (List.replicate n 0) = 0
    rw [wsum_zero n, Int.mul_zero]
    rfl
theorem sum_zero : ∀ n : Nat, (List.replicate n (0 : Int)).sum = 0
  | 0 => rfl
  | n + 1 => by rw [List.replicate_succ, List.sum_cons, sum_zero n]; rfl
theorem dsum_set (l : List UInt8) (i : Nat) (x v : UInt8) (h : l[i]? = some x) : dsum (l.set i v) = dsum l - ((x.toNat : Int) - 48) + ((v.toNat : Int) - 48) := by
  unfold dsum
  rw [List.map_set]
  exact sum_set _ i _ _ (by rw [List.getElem?_map, h]; rfl)
/-- The sum behind a step. -/
theorem dsum_step : ∀ W : Wo, OkO W → dsum (stepO W).2.2.2.1.data.toList % (W.1.size : Int) = (dsum W.2.2.2.1.data.toList % (W.1.size : Int) + 1) % (W.1.size : Int)
  | (rl, w, h, cs, x, y, wy), H => by
    obtain ⟨hR, hw, hh, hs, hcs, hx, hy, hwy⟩ : WorldOk rl w h cs x y wy := H
    have hr6 := hR.1
    obtain ⟨c, hc, eqc, c48, cti⟩ := cell_ex hw hh hs hcs hx hy
    have hp := mod_range (colB w cs x y + 1) (k := (rl.size : Int)) (by omega)
    show dsum (putB w cs x y ((colB w cs x y + 1) % (rl.size : Int))).data.toList % (rl.size : Int) = (dsum cs.data.toList % (rl.size : Int) + 1) % (rl.size : Int)
    unfold putB setByte
    rw [List.toList_toArray, dsum_set _ _ c _ hc, toNat_ofNat8 (by omega)]
    rw [show dsum cs.data.toList - ((c.toNat : Int) - 48) + (((48 + (colB w cs x y + 1) % (rl.size : Int)).toNat : Int) - 48) = dsum cs.data.toList - colB w cs x y + (colB w cs x y + 1) % (rl.size : Int) by omega]
    rw [Int.add_emod, Int.emod_emod, ← Int.add_emod, show dsum cs.data.toList - colB w cs x y + (colB w cs x y + 1) = dsum cs.data.toList + 1 by omega, Int.emod_add_emod]

structure Filt {α : Type} (p : α → Bool) (l s : List α) (i j : Nat) : Prop where
  len : s.length = l.length
  le : i ≤ j
  jle : j ≤ l.length
  drop : s.drop j = l.drop j
  take : s.take i = (l.take j).filter p
theorem take_next {α : Type} {l : List α} {j : Nat} {x : α} (h : l[j]? = some x) : l.take (j + 1) = l.take j ++ [x] := by
  rw [List.take_add_one, h]
  rfl
theorem Filt.get {α : Type} {p : α → Bool} {l s : List α} {i j : Nat} (h : Filt p l s i j) : s[j]? = l[j]? := by
  have := congrArg (fun r : List α => r[0]?) h.drop
  simpa using this
theorem drop_next {α : Type} {l s : List α} {j : Nat} (h : s.drop j = l.drop j) : s.drop (j + 1) = l.drop (j + 1) := by
  have := congrArg (List.drop 1) h
  rwa [List.drop_drop, List.drop_drop] at this
theorem Filt.skip {α : Type} {p : α → Bool} {l s : List α} {i j : Nat} (h : Filt p l s i j) {x : α} (hx : l[j]? = some x) (hp : p x = false) : Filt p l s i (j + 1) := by
  have hj := (List.getElem?_eq_some_iff.1 hx).1
  refine ⟨h.len, by have := h.le; omega, hj, drop_next h.drop, ?_⟩
  rw [take_next hx, List.filter_append, h.take]
  simp [hp]
theorem Filt.keep {α : Type} {p : α → Bool} {l s : List α} {i j : Nat} (h : Filt p l s i j) {x : α} (hx : l[j]? = some x) (hp : p x = true) : Filt p l (s.set i x) (i + 1) (j + 1) := by
  have hj := (List.getElem?_eq_some_iff.1 hx).1
  have hle := h.le
  have hi : i < s.length := by rw [h.len]; omega
  refine ⟨by rw [List.length_set]; exact h.len, by omega, hj, ?_, ?_⟩
  · rw [List.drop_set_of_lt (by omega)]
    exact drop_next h.drop
  · have hg : (s.set i x)[i]? = some x := List.getElem?_set_self hi
    rw [take_next hg, List.take_set_of_le (Nat.le_refl _), take_next hx, List.filter_append, h.take]
    simp [hp]
theorem Filt.first {α : Type} {p : α → Bool} {l : List α} {i : Nat} {x : α} (hx : l[i]? = some x) (hp : p x = false) (h : ∀ (m : Nat) (y : α), m < i → l[m]? = some y → p y = true) : Filt p l l i (i + 1) := by
  have hi := (List.getElem?_eq_some_iff.1 hx).1
  refine ⟨rfl, by omega, hi, rfl, ?_⟩
  rw [take_next hx, List.filter_append]
  have : (l.take i).filter p = l.take i := by
    rw [List.filter_eq_self]
    intro y hy
    obtain ⟨m, hm⟩ := List.mem_iff_getElem?.1 hy
    rw [List.getElem?_take] at hm
    split at hm
    · exact h m y (by assumption) hm
    · cases hm
  rw [this]
  simp [hp]
theorem Filt.done {α : Type} {p : α → Bool} {l s : List α} {i : Nat} (h : Filt p l s i l.length) : s.take i = l.filter p := by
  rw [h.take, List.take_of_length_le (Nat.le_refl _)]
theorem filter_all {α : Type} {p : α → Bool} {l : List α} (h : ∀ x ∈ l, p x = true) : l.filter p = l := List.filter_eq_self.2 h

def SizeOk (rl : ByteArray) (w h : Int) : Prop := RuleOk rl ∧ (1 ≤ w ∧ w ≤ 9) ∧ (1 ≤ h ∧ h ≤ 9) ∧ w * h ≤ 9 ∧ rl.size ^ (w * h).toNat ≤ 300
theorem natmul (a b : Nat) : (a : Int) * (b : Int) = ((a * b : Nat) : Int) := (Int.natCast_mul a b).symm
theorem power_ev (rl : ByteArray) (ht : 1 ≤ rl.size ∧ rl.size ≤ 6) (N : Nat) (hN : N ≤ 100) : ∃ r : Int, Ev (fun k => spec_pzPower k (rl, (N : Int))) r ∧ (r > 0 ↔ rl.size ^ N ≤ 300) := by
  have loop : ∀ (m n : Nat), m ≤ 100 → 1 ≤ n → n ≤ 300 → (Ev (fun k => spec_pzPower_l k (rl, (m : Int), (n : Int))) (.inl 0) ∧ 300 < n * rl.size ^ m) ∨ (∃ v : Nat, 0 < v ∧ Ev (fun k => spec_pzPower_l k (rl, (m : Int), (n : Int))) (.inr (v : Int)) ∧ n * rl.size ^ m ≤ 300) := by
    intro m
    induction m with
    | zero =>
      intro n _ h1 h2
      exact .inr ⟨n, h1, Ev.step (fun k => spec_pzPower_l.eq k rl 0 (n : Int)) (Ev.no rfl (Ev.now _)), by simpa using h2⟩
    | succ m ih =>
      intro n hm h1 h2
      have hb : n * rl.size ≤ 300 * 6 := Nat.mul_le_mul h2 ht.2
      have h0 : 1 * 1 ≤ n * rl.size := Nat.mul_le_mul h1 ht.1
      have e : w64 ((n : Int) * (rl.size : Int)) = ((n * rl.size : Nat) : Int) := by rw [natmul, w64_of (by omega) (by omega)]
      have hpow : n * rl.size ^ (m + 1) = n * rl.size * rl.size ^ m := by rw [Nat.pow_succ, Nat.mul_comm (rl.size ^ m) rl.size, Nat.mul_assoc]
      have hge : 1 ≤ rl.size ^ m := Nat.one_le_pow _ _ (by omega)
      have go : ∀ r, Ev (fun k => cond (decide (((n * rl.size : Nat) : Int) > 300)) (some (.inl 0)) (spec_pzPower_l k (rl, (m : Int), ((n * rl.size : Nat) : Int)))) r → Ev (fun k => spec_pzPower_l k (rl, ((m + 1 : Nat) : Int), (n : Int))) r := fun r Hr => by
        refine Ev.step (fun k => spec_pzPower_l.eq k rl ((m + 1 : Nat) : Int) (n : Int)) (Ev.yes (decide_eq_true (by omega)) ?_)
        rw [e, show w64 (((m + 1 : Nat) : Int) - 1) = (m : Int) by rw [w64_of (by omega) (by omega)]; omega]
        exact Hr
      by_cases hc : 300 < n * rl.size
      · refine .inl ⟨go _ (Ev.yes (decide_eq_true (by omega)) (Ev.now _)), ?_⟩
        rw [hpow]
        have := Nat.le_mul_of_pos_right (n * rl.size) (show 0 < rl.size ^ m by omega)
        omega
      · rcases ih (n * rl.size) (by omega) (by omega) (by omega) with ⟨i1, i2⟩ | ⟨v, v0, i1, i2⟩
        · exact .inl ⟨go _ (Ev.no (decide_eq_false (by omega)) i1), by rw [hpow]; exact i2⟩
        · exact .inr ⟨v, v0, go _ (Ev.no (decide_eq_false (by omega)) i1), by rw [hpow]; exact i2⟩
  rcases loop N 1 hN (by omega) (by omega) with ⟨i1, i2⟩ | ⟨v, v0, i1, i2⟩
  · exact ⟨0, Ev.step (fun k => spec_pzPower.eq k rl (N : Int)) (Ev.bind i1 (Ev.now _)), ⟨fun h => by omega, fun h => by omega⟩⟩
  · exact ⟨v, Ev.step (fun k => spec_pzPower.eq k rl (N : Int)) (Ev.bind i1 (Ev.now _)), ⟨fun _ => by omega, fun _ => by omega⟩⟩
theorem boards_ev (t N : Nat) (ht : 1 ≤ t ∧ t ≤ 6) (hN : N ≤ 100) : ∃ v : Nat, Ev (fun k => impl_boards k ((t : Int), (N : Int), 300)) (v : Int) ∧ (v ≤ 300 ↔ t ^ N ≤ 300) := by
  have loop : ∀ (m i all : Nat), i + m = N → ((t ^ i ≤ 300 ∧ all = t ^ i) ∨ (300 < t ^ i ∧ 300 < all ∧ all ≤ 301)) → ∃ v : Nat, Ev (fun k => impl_boards_l k ((t : Int), 300, (all : Int), (N : Int), (i : Int))) (v : Int) ∧ (v ≤ 300 ↔ t ^ N ≤ 300) := by
    intro m
    induction m with
    | zero =>
      intro i all hi h
      obtain rfl : i = N := by omega
      exact ⟨all, Ev.step (fun k => impl_boards_l.eq k (t : Int) 300 (all : Int) (i : Int) (i : Int)) (Ev.no (not_lt_nat (by omega)) (Ev.now _)), by omega⟩
    | succ m ih =>
      intro i all hi h
      have hall : all ≤ 301 := by omega
      have hb : all * t ≤ 301 * 6 := Nat.mul_le_mul hall ht.2
      have e : w64 ((all : Int) * (t : Int)) = ((all * t : Nat) : Int) := by rw [natmul, w64_of (by omega) (by omega)]
      have e3 : w64 (300 + 1) = 301 := rfl
      have hpow : t ^ (i + 1) = t ^ i * t := by rw [Nat.pow_succ]
      have hmono : t ^ i ≤ t ^ i * t := Nat.le_mul_of_pos_right _ (by omega)
      have hmono2 : all ≤ all * t := Nat.le_mul_of_pos_right _ (by omega)
      have go : ∀ r, Ev (fun k => impl_boards_l k ((t : Int), 300, (if (301 : Int) < ((all * t : Nat) : Int) then 301 else ((all * t : Nat) : Int)), (N : Int), ((i + 1 : Nat) : Int))) r → Ev (fun k => impl_boards_l k ((t : Int), 300, (all : Int), (N : Int), (i : Int))) r := fun r Hr => by
        refine Ev.step (fun k => impl_boards_l.eq k (t : Int) 300 (all : Int) (N : Int) (i : Int)) (Ev.yes (lt_nat (by omega)) ?_)
        rw [e, e3, w64_succ (by omega)]
        exact Hr
      by_cases hc : 301 < all * t
      · rw [if_pos (by omega)] at go
        obtain ⟨v, v1, v2⟩ := ih (i + 1) 301 (by omega) (.inr ⟨by
          rw [hpow]
          rcases h with ⟨h1, h2⟩ | ⟨h1, _⟩
          · rw [← h2]; omega
          · omega, by omega, by omega⟩)
        exact ⟨v, go _ v1, v2⟩
      · rw [if_neg (by omega)] at go
        obtain ⟨v, v1, v2⟩ := ih (i + 1) (all * t) (by omega) (by
          rcases h with ⟨h1, h2⟩ | ⟨h1, h2, h3⟩
          · rw [hpow, ← h2]
            omega
          · right
            omega)
        exact ⟨v, go _ v1, v2⟩
  obtain ⟨v, v1, v2⟩ := loop N 0 1 (by omega) (.inl ⟨by simp, by simp⟩)
  exact ⟨v, Ev.step (fun k => impl_boards.eq k (t : Int) (N : Int) 300) (Ev.bind v1 (Ev.now _)), v2⟩
section
variable (rl : ByteArray) (w h : Int) (hrl : rl.size ≤ 9223372036854775807)
theorem pzSize_ev : EvB (fun k => spec_pzSize k (rl, w, h)) (SizeOk rl w h) := by
  refine EvB.step (fun k => spec_pzSize.eq k rl w h) (EvB.and (woRuleR_ev rl) fun hR => EvB.and (l1In_ev w 1 9) fun hw => EvB.and (l1In_ev h 1 9) fun hh => ?_)
  have hm := mul_range (a := w) (b := h) (by omega) (by omega) (by omega) (by omega)
  have e64 : w64 (w * h) = w * h := w64_of (by omega) (by omega)
  rw [e64]
  refine EvB.ifT decide_eq_true_iff fun _ => ?_
  obtain ⟨r, r1, r2⟩ := power_ev rl hR.1 (w * h).toNat (by omega)
  rw [show (((w * h).toNat : Nat) : Int) = w * h by omega] at r1
  exact ⟨decide (r > 0), Ev.bind r1 (Ev.now _), by rw [decide_eq_true_iff]; exact r2⟩
include hrl
theorem countBoards_ev : ∃ (n : Int) (b : Bool), Ev (fun k => impl_CountBoards k (rl, w, h)) (n, b) ∧ (b = true ↔ SizeOk rl w h) := by
  have hid : EvB (fun k => impl_isHidden k (rl, w, h)) (RuleOk rl ∧ ((1 ≤ w ∧ w ≤ 9) ∧ (1 ≤ h ∧ h ≤ 9)) ∧ w * h ≤ 9) := by
    refine EvB.step (fun k => impl_isHidden.eq k rl w h) (EvB.and (isRuleR_ev rl hrl) fun hR => EvB.and (EvB.step (fun k => impl_isSize.eq k w h) (EvB.and (within_ev w 1 9) fun _ => (within_ev h 1 9).ret)) fun hs => ?_)
    have hm := mul_range (a := w) (b := h) (by omega) (by omega) (by omega) (by omega)
    rw [w64_of (by omega) (by omega)]
    exact EvB.val decide_eq_true_iff
  by_cases H : RuleOk rl ∧ ((1 ≤ w ∧ w ≤ 9) ∧ (1 ≤ h ∧ h ≤ 9)) ∧ w * h ≤ 9
  · have hm := mul_range (a := w) (b := h) (by omega) (by omega) (by omega) (by omega)
    have e64 : w64 (w * h) = (((w * h).toNat : Nat) : Int) := by rw [w64_of (by omega) (by omega)]; omega
    obtain ⟨v, v1, v2⟩ := boards_ev rl.size (w * h).toNat H.1.1 (by omega)
    have go : ∀ r, Ev (fun k => cond (decide ((v : Int) > 300)) (some ((0 : Int), false)) (some ((v : Int), true))) r → Ev (fun k => impl_CountBoards k (rl, w, h)) r := fun r Hr => by
      refine Ev.step (fun k => impl_CountBoards.eq k rl w h) (Ev.bind (hid.isT H) (Ev.no rfl ?_))
      rw [e64]
      exact Ev.bind v1 Hr
    by_cases hv : v ≤ 300
    · exact ⟨_, true, go _ (Ev.no (decide_eq_false (by omega)) (Ev.now _)), ⟨fun _ => ⟨H.1, H.2.1.1, H.2.1.2, H.2.2, v2.1 hv⟩, fun _ => rfl⟩⟩
    · exact ⟨_, false, go _ (Ev.yes (decide_eq_true (by omega)) (Ev.now _)), ⟨nofun, fun q => absurd (v2.2 q.2.2.2.2) hv⟩⟩
  · exact ⟨0, false, Ev.step (fun k => impl_CountBoards.eq k rl w h) (Ev.bind (hid.isF H) (Ev.yes rfl (Ev.now _))), ⟨nofun, fun q => absurd ⟨q.1, ⟨q.2.1, q.2.2.1⟩, q.2.2.2.1⟩ H⟩⟩
end
/-! ### Clues -/
def ClueOk (rl : ByteArray) (n : Int) (c : Cl) : Prop := (c.1 = 0 ∧ (0 ≤ c.2.1 ∧ c.2.1 ≤ n - 1) ∧ (0 ≤ c.2.2 ∧ c.2.2 ≤ (rl.size : Int) - 1)) ∨ (c.1 = 1 ∧ (0 ≤ c.2.1 ∧ c.2.1 ≤ 50) ∧ (0 ≤ c.2.2 ∧ c.2.2 ≤ n - 1)) ∨
  (c.1 = 2 ∧ (0 ≤ c.2.1 ∧ c.2.1 ≤ 50) ∧ (0 ≤ c.2.2 ∧ c.2.2 ≤ 3)) ∨ (c.1 = 3 ∧ (0 ≤ c.2.1 ∧ c.2.1 ≤ 50) ∧ (0 ≤ c.2.2 ∧ c.2.2 ≤ n)) ∨ (c.1 = 4 ∧ (0 ≤ c.2.1 ∧ c.2.1 ≤ 100) ∧ c.2.2 = 0)
theorem pzClue_ev (rl : ByteArray) (n : Int) (c : Cl) (hr : rl.size ≤ 100) (hn : 1 ≤ n ∧ n ≤ 100) : EvB (fun k => spec_pzClue k (rl, n, c)) (ClueOk rl n c) := by
  obtain ⟨kind, a, b⟩ := c
  refine EvB.step (fun k => spec_pzClue.eq k rl n kind a b) ?_
  have e1 : w64 (n - 1) = n - 1 := w64_of (by omega) (by omega)
  have e2 : w64 ((rl.size : Int) - 1) = (rl.size : Int) - 1 := w64_of (by omega) (by omega)
  rw [e1, e2]
  have no : ∀ {z : Int}, kind ≠ z → (kind == z) = false := fun {z} h => by rw [beq_eq_false_iff_ne]; exact h
  unfold ClueOk
  simp only
  by_cases k0 : kind = 0
  · obtain ⟨v, v1, v2⟩ := EvB.and (l1In_ev a 0 (n - 1)) fun _ => (l1In_ev b 0 ((rl.size : Int) - 1)).ret
    exact ⟨v, Ev.yes (beq_iff_eq.2 k0) v1, v2.trans (by constructor <;> intro <;> omega)⟩
  by_cases k1 : kind = 1
  · obtain ⟨v, v1, v2⟩ := EvB.and (l1In_ev a 0 50) fun _ => (l1In_ev b 0 (n - 1)).ret
    exact ⟨v, Ev.no (no k0) (Ev.yes (beq_iff_eq.2 k1) v1), v2.trans (by constructor <;> intro <;> omega)⟩
  by_cases k2 : kind = 2
  · obtain ⟨v, v1, v2⟩ := EvB.and (l1In_ev a 0 50) fun _ => (l1In_ev b 0 3).ret
    exact ⟨v, Ev.no (no k0) (Ev.no (no k1) (Ev.yes (beq_iff_eq.2 k2) v1)), v2.trans (by constructor <;> intro <;> omega)⟩
  by_cases k3 : kind = 3
  · obtain ⟨v, v1, v2⟩ := EvB.and (l1In_ev a 0 50) fun _ => (l1In_ev b 0 n).ret
    exact ⟨v, Ev.no (no k0) (Ev.no (no k1) (Ev.no (no k2) (Ev.yes (beq_iff_eq.2 k3) v1))), v2.trans (by constructor <;> intro <;> omega)⟩
  by_cases k4 : kind = 4
  · obtain ⟨v, v1, v2⟩ := EvB.and (l1In_ev a 0 100) fun _ => EvB.val (b := (b == 0)) (P := b = 0) beq_iff_eq
    exact ⟨v, Ev.no (no k0) (Ev.no (no k1) (Ev.no (no k2) (Ev.no (no k3) (Ev.yes (beq_iff_eq.2 k4) v1)))), v2.trans (by constructor <;> intro <;> omega)⟩
  · exact ⟨false, Ev.no (no k0) (Ev.no (no k1) (Ev.no (no k2) (Ev.no (no k3) (Ev.no (no k4) (Ev.now _))))), ⟨nofun, fun q => by omega⟩⟩
theorem isClue_ev (rl : ByteArray) (n : Int) (c : Cl) (hr : rl.size ≤ 9223372036854775807) : EvB (fun k => impl_IsClue k (rl, n, c)) (RuleOk rl ∧ (1 ≤ n ∧ n ≤ 9) ∧ ClueOk rl n c) := by
  obtain ⟨kind, a, b⟩ := c
  refine EvB.step (fun k => impl_IsClue.eq k rl n kind a b) (EvB.and' (isRuleR_ev rl hr) fun hR => EvB.and' (within_ev n 1 9) fun hn => ?_)
  have hr6 := hR.1.2
  have e1 : w64 (n - 1) = n - 1 := w64_of (by omega) (by omega)
  have e2 : w64 ((rl.size : Int) - 1) = (rl.size : Int) - 1 := w64_of (by omega) (by omega)
  rw [e1, e2]
  obtain ⟨b3, h3, q3⟩ := within_ev a 0 50
  have no : ∀ {z : Int}, kind ≠ z → (kind == z) = false := fun {z} h => by rw [beq_eq_false_iff_ne]; exact h
  unfold ClueOk
  simp only
  by_cases k0 : kind = 0
  · obtain ⟨v, v1, v2⟩ := EvB.and (within_ev a 0 (n - 1)) fun _ => (within_ev b 0 ((rl.size : Int) - 1)).ret
    exact ⟨v, Ev.bind h3 (Ev.yes (beq_iff_eq.2 k0) v1), v2.trans (by constructor <;> intro <;> omega)⟩
  by_cases k1 : kind = 1
  · obtain ⟨v, v1, v2⟩ := EvB.ifT q3 fun _ => (within_ev b 0 (n - 1)).ret
    exact ⟨v, Ev.bind h3 (Ev.no (no k0) (Ev.yes (beq_iff_eq.2 k1) v1)), v2.trans (by constructor <;> intro <;> omega)⟩
  by_cases k2 : kind = 2
  · obtain ⟨v, v1, v2⟩ := EvB.ifT q3 fun _ => EvB.ret (g := fun k => impl_isWay k b) (EvB.step (fun k => impl_isWay.eq k b) (within_ev b 0 3).ret)
    exact ⟨v, Ev.bind h3 (Ev.no (no k0) (Ev.no (no k1) (Ev.yes (beq_iff_eq.2 k2) v1))), v2.trans (by constructor <;> intro <;> omega)⟩
  by_cases k3 : kind = 3
  · obtain ⟨v, v1, v2⟩ := EvB.ifT q3 fun _ => (within_ev b 0 n).ret
    exact ⟨v, Ev.bind h3 (Ev.no (no k0) (Ev.no (no k1) (Ev.no (no k2) (Ev.yes (beq_iff_eq.2 k3) v1)))), v2.trans (by constructor <;> intro <;> omega)⟩
  by_cases k4 : kind = 4
  · obtain ⟨v, v1, v2⟩ := EvB.and (within_ev a 0 100) fun _ => EvB.val (b := (b == 0)) (P := b = 0) beq_iff_eq
    exact ⟨v, Ev.bind h3 (Ev.no (no k0) (Ev.no (no k1) (Ev.no (no k2) (Ev.no (no k3) (Ev.yes (beq_iff_eq.2 k4) v1))))), v2.trans (by constructor <;> intro <;> omega)⟩
  · exact ⟨false, Ev.bind h3 (Ev.no (no k0) (Ev.no (no k1) (Ev.no (no k2) (Ev.no (no k3) (Ev.no (no k4) (Ev.now _)))))), ⟨nofun, fun q => by omega⟩⟩
/-! ### Puzzles -/
def PuzOk (rl : ByteArray) (w h : Int) (cl : List Cl) : Prop := SizeOk rl w h ∧ cl.length ≤ 6 ∧ ∀ c ∈ cl, ClueOk rl (w * h) c
section
variable (rl : ByteArray) (w h : Int) (cl : List Cl) (hrl : rl.size ≤ 9223372036854775807)
theorem pzGood_ev : EvB (fun k => spec_pzGood k (rl, w, h, cl)) (PuzOk rl w h cl) := by
  refine EvB.step (fun k => spec_pzGood.eq k rl w h cl) (EvB.and' (pzSize_ev rl w h) fun hS => EvB.ifN (P := cl.length ≤ 6) (by rw [decide_eq_false_iff_not]; omega) fun hl => ?_)
  have hm := mul_range (a := w) (b := h) (by have := hS.2.1; omega) (by have := hS.2.1; omega) (by have := hS.2.2.1; omega) (by have := hS.2.2.1; omega)
  have e64 : w64 (w * h) = w * h := w64_of (by omega) (by omega)
  have test : ∀ c : Cl, EvB (fun k => spec_pzClue k (rl, w * h, c)) (ClueOk rl (w * h) c) := fun c => pzClue_ev rl (w * h) c (by have := hS.1.1; omega) (by omega)
  have step : ∀ (i : Nat) (c : Cl), cl[i]? = some c → ∀ r, Ev (fun k => (spec_pzClue k (rl, w * h, c)).bind fun r1 => cond (!r1) (some (.inl false)) (spec_pzGood_l k ((rl, w, h, cl), (), (cl.length : Int), w64 ((i : Int) + 1)))) r → Ev (fun k => spec_pzGood_l k ((rl, w, h, cl), (), (cl.length : Int), (i : Int))) r := fun i c hx r Hr => by
    have hi := (List.getElem?_eq_some_iff.1 hx).1
    exact Ev.step (fun k => spec_pzGood_l.eq k rl w h cl (cl.length : Int) (i : Int)) (Ev.yes (lt_nat hi) (Ev.yes (inB_nat hi) (by rw [Int.toNat_natCast, getD_at hx, e64]; exact Hr)))
  have srch := Ev.search (L := fun k i => spec_pzGood_l k ((rl, w, h, cl), (), (cl.length : Int), i)) (n := cl.length) (fun i => ∃ c, cl[i]? = some c ∧ ¬ ClueOk rl (w * h) c) (fun i => .inl false) (.inr ())
    (fun i hi hp r Hr => by
      obtain ⟨c, hx⟩ := nat_list hi
      have hf : ClueOk rl (w * h) c := Classical.byContradiction fun hn => hp ⟨c, hx, hn⟩
      exact step i c hx r (Ev.bind ((test c).isT hf) (Ev.no rfl (by rw [w64_succ (by omega)]; exact Hr))))
    (fun i hi hp => by
      obtain ⟨c, hx, hn⟩ := hp
      exact step i c hx _ (Ev.bind ((test c).isF hn) (Ev.yes rfl (Ev.now _))))
    (Ev.step (fun k => spec_pzGood_l.eq k rl w h cl (cl.length : Int) (cl.length : Int)) (Ev.no (not_lt_nat (Nat.lt_irrefl _)) (Ev.now _))) cl.length 0 (by omega)
  rcases srch with ⟨h1, h2⟩ | ⟨j, _, hj, ⟨c, hx, hn⟩, _, h2⟩
  · refine ⟨true, Ev.bind h2 (Ev.now _), ⟨fun _ c hm => ?_, fun _ => rfl⟩⟩
    obtain ⟨i, hi⟩ := List.mem_iff_getElem?.1 hm
    exact Classical.byContradiction fun hn => h1 i (Nat.zero_le _) (List.getElem?_eq_some_iff.1 hi).1 ⟨c, hi, hn⟩
  · exact ⟨false, Ev.bind h2 (Ev.now _), ⟨nofun, fun q => absurd (q c (List.mem_of_getElem? hx)) hn⟩⟩
include hrl
theorem isPuzzle_ev : EvB (fun k => impl_IsPuzzle k (rl, w, h, cl)) (PuzOk rl w h cl) := by
  obtain ⟨n, b, c1, c2⟩ := countBoards_ev rl w h hrl
  cases b with
  | false => exact ⟨false, Ev.step (fun k => impl_IsPuzzle.eq k rl w h cl) (Ev.bind c1 (Ev.yes rfl (Ev.now _))), ⟨nofun, fun q => by have := c2.2 q.1; cases this⟩⟩
  | true =>
    have hS := c2.1 rfl
    have hm := mul_range (a := w) (b := h) (by have := hS.2.1; omega) (by have := hS.2.1; omega) (by have := hS.2.2.1; omega) (by have := hS.2.2.1; omega)
    have e64 : w64 (w * h) = w * h := w64_of (by omega) (by omega)
    have body : EvB (fun k => cond (decide ((cl.length : Int) > 6)) (some false) ((slices_ContainsFunc k (cl, (rl, w, h, ()))).bind fun r2 => some (!r2))) (cl.length ≤ 6 ∧ ∀ c ∈ cl, ClueOk rl (w * h) c) := by
      refine EvB.ifN (P := cl.length ≤ 6) (by rw [decide_eq_false_iff_not]; omega) fun hl => ?_
      have test : ∀ c : Cl, EvB (fun k => impl_IsPuzzle_1 k (c, (rl, w, h, cl))) (¬ ClueOk rl (w * h) c) := fun c =>
        EvB.step (fun k => impl_IsPuzzle_1.eq k c.1 c.2.1 c.2.2 rl w h cl) (by
          rw [e64]
          exact (isClue_ev rl (w * h) c hrl).neg.iff ⟨fun q z => q ⟨hS.1, by have := hS.2.2.2.1; omega, z⟩, fun q z => q z.2.2⟩)
      have step : ∀ (i : Nat) (c : Cl), cl[i]? = some c → ∀ r, Ev (fun k => (impl_IsPuzzle_1 k (c, (rl, w, h, cl))).bind fun r1 => cond r1 (some (.inl (i : Int))) (slices_IndexFunc_l k (cl, (rl, w, h, ()), (cl.length : Int), w64 ((i : Int) + 1)))) r → Ev (fun k => slices_IndexFunc_l k (cl, (rl, w, h, ()), (cl.length : Int), (i : Int))) r := fun i c hx r Hr => by
        have hi := (List.getElem?_eq_some_iff.1 hx).1
        exact Ev.step (fun k => slices_IndexFunc_l.eq k cl rl w h (cl.length : Int) (i : Int)) (Ev.yes (lt_nat hi) (Ev.yes (inB_nat hi) (by rw [Int.toNat_natCast, getD_at hx]; exact Hr)))
      have srch := Ev.search (L := fun k i => slices_IndexFunc_l k (cl, (rl, w, h, ()), (cl.length : Int), i)) (n := cl.length) (fun i => ∃ c, cl[i]? = some c ∧ ¬ ClueOk rl (w * h) c) (fun i => .inl (i : Int)) (.inr ())
        (fun i hi hp r Hr => by
          obtain ⟨c, hx⟩ := nat_list hi
          have hf : ClueOk rl (w * h) c := Classical.byContradiction fun hn => hp ⟨c, hx, hn⟩
          exact step i c hx r (Ev.bind ((test c).isF fun q => q hf) (Ev.no rfl (by rw [w64_succ (by omega)]; exact Hr))))
        (fun i hi hp => by
          obtain ⟨c, hx, hn⟩ := hp
          exact step i c hx _ (Ev.bind ((test c).isT hn) (Ev.yes rfl (Ev.now _))))
        (Ev.step (fun k => slices_IndexFunc_l.eq k cl rl w h (cl.length : Int) (cl.length : Int)) (Ev.no (not_lt_nat (Nat.lt_irrefl _)) (Ev.now _))) cl.length 0 (by omega)
      have go : ∀ r, Ev (fun k => (slices_IndexFunc_l k (cl, (rl, w, h, ()), (cl.length : Int), ((0 : Nat) : Int))).bind fun r1 => r1.elim (fun r2 => some r2) (fun r3 => some (-1))) r → Ev (fun k => slices_ContainsFunc k (cl, (rl, w, h, ()))) (decide (r ≥ 0)) := fun r Hr =>
        Ev.step (fun k => slices_ContainsFunc.eq k cl rl w h) (Ev.bind (Ev.step (fun k => slices_IndexFunc.eq k cl rl w h) Hr) (Ev.now _))
      rcases srch with ⟨h1, h2⟩ | ⟨j, _, hj, ⟨c, hx, hn⟩, _, h2⟩
      · refine ⟨_, Ev.bind (go _ (Ev.bind h2 (Ev.now _))) (Ev.now _), ⟨fun _ c hm => ?_, fun _ => by simp⟩⟩
        obtain ⟨i, hi⟩ := List.mem_iff_getElem?.1 hm
        exact Classical.byContradiction fun hn => h1 i (Nat.zero_le _) (List.getElem?_eq_some_iff.1 hi).1 ⟨c, hi, hn⟩
      · refine ⟨_, Ev.bind (go _ (Ev.bind h2 (Ev.now _))) (Ev.now _), ⟨fun q => ?_, fun q => absurd (q c (List.mem_of_getElem? hx)) hn⟩⟩
        rw [decide_eq_true (by omega)] at q
        cases q
    obtain ⟨v, v1, v2⟩ := body
    exact ⟨v, Ev.step (fun k => impl_IsPuzzle.eq k rl w h cl) (Ev.bind c1 (Ev.no rfl v1)), v2.trans ⟨fun q => ⟨hS, q⟩, fun q => q.2⟩⟩
end

/-! ### The laws' helpers -/

/-! ### What a clue tells -/
theorem tsteps_ev (kind : Int) (rl : ByteArray) (w h : Int) (n : Nat) (hn : n ≤ 1000) : ∀ (m i : Nat) (cs : ByteArray) (x y wy : Int), WorldOk rl w h cs x y wy → i + m = n → ∃ cs' x' y' wy', WorldOk rl w h cs' x' y' wy' ∧
    Ev (fun k => impl_told_l_2 k (kind, (rl, w, h, cs, x, y, wy), (n : Int), (i : Int))) (kind, (rl, w, h, cs', x', y', wy')) ∧ Ev (fun k => spec_pzValue_l k (kind, (m : Int), (rl, w, h, cs, x, y, wy), 0, 0)) (kind, 0, (rl, w, h, cs', x', y', wy'), 0, 0)
  | 0, i, cs, x, y, wy, H, hi => ⟨cs, x, y, wy, H, Ev.step (fun k => impl_told_l_2.eq k kind rl w h cs x y wy (n : Int) (i : Int)) (Ev.no (not_lt_nat (by omega)) (Ev.now _)), Ev.step (fun k => spec_pzValue_l.eq k kind 0 rl w h cs x y wy 0 0) (Ev.no rfl (Ev.now _))⟩
  | m + 1, i, cs, x, y, wy, H, hi => by
    obtain ⟨cs1, x1, y1, wy1, p1, p2, H1⟩ := wstep_ev rl w h cs x y wy H
    obtain ⟨cs2, x2, y2, wy2, H2, q1, q2⟩ := tsteps_ev kind rl w h n hn m (i + 1) cs1 x1 y1 wy1 H1 (by omega)
    refine ⟨cs2, x2, y2, wy2, H2, ?_, ?_⟩
    · refine Ev.step (fun k => impl_told_l_2.eq k kind rl w h cs x y wy (n : Int) (i : Int)) (Ev.yes (lt_nat (by omega)) (Ev.bind p1 ?_))
      rw [w64_succ (by omega)]
      exact q1
    · refine Ev.step (fun k => spec_pzValue_l.eq k kind ((m + 1 : Nat) : Int) rl w h cs x y wy 0 0) (Ev.yes (decide_eq_true (by omega)) (Ev.bind p2 ?_))
      rw [show w64 (((m + 1 : Nat) : Int) - 1) = (m : Int) by rw [w64_of (by omega) (by omega)]; omega]
      exact q2
def sumD : List UInt8 → Int
  | [] => 0
  | c :: r => ((c.toNat : Int) - 48) + sumD r
theorem drop_at {cs : ByteArray} {i : Nat} {c : UInt8} (h : cs.data.toList[i]? = some c) : cs.data.toList.drop i = c :: cs.data.toList.drop (i + 1) := by
  obtain ⟨hlt, he⟩ := List.getElem?_eq_some_iff.1 h
  rw [List.drop_eq_getElem_cons hlt, he]
theorem sums_ev (kind a : Int) (rl : ByteArray) (w h : Int) (cs : ByteArray) (x y wy : Int) (hsz : cs.size ≤ 81) (hcs : CellsOk 9 cs) : ∀ (m i : Nat) (sum free : Int), i + m = cs.size → 0 ≤ sum → sum ≤ 9 * i → 0 ≤ free → free ≤ i →
    Ev (fun k => spec_pzValue_l_2 k (kind, a, (rl, w, h, cs, x, y, wy), sum, free, (i : Int))) (kind, a, (rl, w, h, cs, x, y, wy), sum + sumD (cs.data.toList.drop i), free + ((cs.data.toList.drop i).count 48 : Int))
  | 0, i, sum, free, hi, h0, h1, h2, h3 => Ev.step (fun k => spec_pzValue_l_2.eq k kind a rl w h cs x y wy sum free (i : Int)) (Ev.no (not_lt_nat (by omega)) (Ev.now' (by
      rw [List.drop_of_length_le (by rw [← size_list]; omega)]
      simp [sumD])))
  | m + 1, i, sum, free, hi, h0, h1, h2, h3 => by
    obtain ⟨c, hc⟩ := byte_at (cs := cs) (i := i) (by omega)
    obtain ⟨c48, c9⟩ := hcs c (List.mem_of_getElem? hc)
    have e1 : w64 (w8 ((c.toNat : Int) - 48)) = (c.toNat : Int) - 48 := by rw [w8_of (by omega) (by omega), w64_of (by omega) (by omega)]
    have e2 : w64 (sum + ((c.toNat : Int) - 48)) = sum + ((c.toNat : Int) - 48) := w64_of (by omega) (by omega)
    have e3 : w64 (free + 1) = free + 1 := w64_of (by omega) (by omega)
    have hB : inB (i : Int) cs.size = true := inB_nat (by omega)
    refine Ev.step (fun k => spec_pzValue_l_2.eq k kind a rl w h cs x y wy sum free (i : Int)) (Ev.yes (lt_nat (by omega)) (Ev.yes hB (Ev.yes hB ?_)))
    rw [Int.toNat_natCast, bt_at hc, e1, e2, e3, w64_succ (by omega), drop_at hc]
    by_cases h48 : c = 48
    · subst h48
      refine Ev.yes rfl ?_
      have := sums_ev kind a rl w h cs x y wy hsz hcs m (i + 1) (sum + (((48 : UInt8).toNat : Int) - 48)) (free + 1) (by omega) (by omega) (by omega) (by omega) (by omega)
      rw [List.count_cons_self, show sumD ((48 : UInt8) :: cs.data.toList.drop (i + 1)) = (((48 : UInt8).toNat : Int) - 48) + sumD (cs.data.toList.drop (i + 1)) from rfl, ← Int.add_assoc,
        show free + (((cs.data.toList.drop (i + 1)).count 48 + 1 : Nat) : Int) = free + 1 + ((cs.data.toList.drop (i + 1)).count 48 : Int) by omega]
      exact this
    · have hb : (((c.toNat : Int)) == 48) = false := by
        rw [beq_eq_false_iff_ne]
        intro e
        apply h48
        apply UInt8.toNat_inj.1
        show c.toNat = 48
        omega
      refine Ev.no hb ?_
      have := sums_ev kind a rl w h cs x y wy hsz hcs m (i + 1) (sum + ((c.toNat : Int) - 48)) free (by omega) (by omega) (by omega) (by omega) (by omega)
      rw [List.count_cons_of_ne h48, show sumD (c :: cs.data.toList.drop (i + 1)) = ((c.toNat : Int) - 48) + sumD (cs.data.toList.drop (i + 1)) from rfl, ← Int.add_assoc]
      exact this
theorem sumI_ev (cs : ByteArray) (hsz : cs.size ≤ 81) (hcs : CellsOk 9 cs) : ∀ (m i : Nat) (all : Int), i + m = cs.size → 0 ≤ all → all ≤ 9 * i → Ev (fun k => impl_told_l k (all, bytesOf cs, (cs.size : Int), (i : Int))) (all + sumD (cs.data.toList.drop i))
  | 0, i, all, hi, h0, h1 => Ev.step (fun k => impl_told_l.eq k all (bytesOf cs) (cs.size : Int) (i : Int)) (Ev.no (not_lt_nat (by omega)) (Ev.now' (by
      rw [List.drop_of_length_le (by rw [← size_list]; omega)]
      simp [sumD])))
  | m + 1, i, all, hi, h0, h1 => by
    obtain ⟨c, hc⟩ := byte_at (cs := cs) (i := i) (by omega)
    obtain ⟨c48, c9⟩ := hcs c (List.mem_of_getElem? hc)
    have e1 : w64 (w8 ((c.toNat : Int) - 48)) = (c.toNat : Int) - 48 := by rw [w8_of (by omega) (by omega), w64_of (by omega) (by omega)]
    have e2 : w64 (all + ((c.toNat : Int) - 48)) = all + ((c.toNat : Int) - 48) := w64_of (by omega) (by omega)
    have hbl : (bytesOf cs).length = cs.size := by unfold bytesOf; rw [List.length_map, ← size_list]
    have hbg : (bytesOf cs).getD i default = (c.toNat : Int) := getD_at (by unfold bytesOf; rw [List.getElem?_map, hc]; rfl)
    refine Ev.step (fun k => impl_told_l.eq k all (bytesOf cs) (cs.size : Int) (i : Int)) (Ev.yes (lt_nat (by omega)) (Ev.yes (inB_nat (by omega)) ?_))
    rw [Int.toNat_natCast, hbg, e1, e2, w64_succ (by omega), drop_at hc, show sumD (c :: cs.data.toList.drop (i + 1)) = ((c.toNat : Int) - 48) + sumD (cs.data.toList.drop (i + 1)) from rfl, ← Int.add_assoc]
    exact sumI_ev cs hsz hcs m (i + 1) _ (by omega) (by omega) (by omega)
theorem cells9 {t : Nat} (ht : t ≤ 9) {cs : ByteArray} (h : CellsOk (t : Int) cs) : CellsOk 9 cs := fun c hc => by
  have := h c hc
  omega
/-- The number that a clue tells: both ways. -/
theorem value_ev (rl : ByteArray) (w h : Int) (cs : ByteArray) (x y wy : Int) (H : WorldOk rl w h cs x y wy) (kind a : Int) (hk : (kind = 0 ∧ 0 ≤ a ∧ a < (cs.size : Int)) ∨ (kind = 4 ∧ a = 0) ∨ ((kind = 1 ∨ kind = 2 ∨ kind = 3) ∧ 0 ≤ a ∧ a ≤ 50)) :
    ∃ v, Ev (fun k => impl_told k (kind, a, (rl, w, h, cs, x, y, wy))) v ∧ Ev (fun k => spec_pzValue k (kind, a, (rl, w, h, cs, x, y, wy))) v := by
  obtain ⟨hR, hw, hh, hs, hcs, hx, hy, hwy⟩ := id H
  have hm := mul_range (a := w) (b := h) (by omega) (by omega) (by omega) (by omega)
  have hsz : cs.size ≤ 81 := by omega
  have h9 := cells9 (by have := hR.1; omega) hcs
  have sS := fun kind a => sums_ev kind a rl w h cs x y wy hsz h9 cs.size 0 0 0 (by omega) (by omega) (by omega) (by omega) (by omega)
  rw [List.drop_zero, Int.zero_add, Int.zero_add] at sS
  have hbl : (bytesOf cs).length = cs.size := by unfold bytesOf; rw [List.length_map, ← size_list]
  rcases hk with ⟨rfl, a0, a1⟩ | ⟨rfl, rfl⟩ | ⟨hk, a0, a1⟩
  · have hB : inB a cs.size = true := inB_of a0 a1
    exact ⟨_, Ev.step (fun k => impl_told.eq k 0 a rl w h cs x y wy) (Ev.yes rfl (Ev.yes hB (Ev.now _))), Ev.step (fun k => spec_pzValue.eq k 0 a rl w h cs x y wy) (Ev.no rfl (Ev.bind (sS 0 a) (Ev.yes rfl (Ev.yes hB (Ev.now _)))))⟩
  · have sI := sumI_ev cs hsz h9 cs.size 0 0 (by omega) (by omega) (by omega)
    rw [List.drop_zero, Int.zero_add] at sI
    refine ⟨sumD cs.data.toList, Ev.step (fun k => impl_told.eq k 4 0 rl w h cs x y wy) (Ev.no rfl (Ev.yes rfl ?_)), Ev.step (fun k => spec_pzValue.eq k 4 0 rl w h cs x y wy) (Ev.yes rfl (Ev.no rfl (Ev.bind (sS 4 0) (Ev.no rfl (Ev.no rfl (Ev.no rfl (Ev.no rfl (Ev.now _))))))))⟩
    rw [hbl]
    exact Ev.bind sI (Ev.now _)
  · obtain ⟨n, rfl⟩ := Int.eq_ofNat_of_zero_le a0
    obtain ⟨cs', x', y', wy', H', p1, p2⟩ := tsteps_ev kind rl w h n (by omega) n 0 cs x y wy H (by omega)
    obtain ⟨_, _, _, hs', hcs', hx', hy', hwy'⟩ := id H'
    have sS' := sums_ev kind 0 rl w h cs' x' y' wy' (by omega) (cells9 (by have := hR.1; omega) hcs') cs'.size 0 0 0 (by omega) (by omega) (by omega) (by omega) (by omega)
    rw [List.drop_zero, Int.zero_add, Int.zero_add] at sS'
    have g1 : decide (kind > 0) = true := decide_eq_true (by omega)
    have g2 : decide (kind < 4) = true := decide_eq_true (by omega)
    have g3 : (kind == 0) = false := by rw [beq_eq_false_iff_ne]; omega
    have g4 : (kind == 4) = false := by rw [beq_eq_false_iff_ne]; omega
    have goI : ∀ v, Ev (fun k => cond (kind == 1) ((impl_World_at k (rl, w, h, cs', x', y', wy')).bind fun r3 => some r3) (cond (kind == 2) (some wy') ((strings_Count k (cs', bs [48])).bind fun r4 => some r4))) v → Ev (fun k => impl_told k (kind, (n : Int), (rl, w, h, cs, x, y, wy))) v := fun v hv =>
      Ev.step (fun k => impl_told.eq k kind (n : Int) rl w h cs x y wy) (Ev.no g3 (Ev.no g4 (Ev.bind p1 hv)))
    have goS : ∀ v, Ev (fun k => cond (kind == 1) (some (w64 (w64 (y' * w) + x'))) (cond (kind == 2) (some wy') (cond (kind == 3) (some (cs'.data.toList.count 48 : Int)) (some (sumD cs'.data.toList))))) v → Ev (fun k => spec_pzValue k (kind, (n : Int), (rl, w, h, cs, x, y, wy))) v := fun v hv =>
      Ev.step (fun k => spec_pzValue.eq k kind (n : Int) rl w h cs x y wy) (Ev.yes g1 (Ev.yes g2 (Ev.bind p2 (Ev.bind sS' (Ev.no g3 hv)))))
    rcases hk with rfl | rfl | rfl
    · exact ⟨_, goI _ (Ev.yes rfl (Ev.bind (Ev.step (fun k => impl_World_at.eq k rl w h cs' x' y' wy') (Ev.now _)) (Ev.now _))), goS _ (Ev.yes rfl (Ev.now _))⟩
    · exact ⟨_, goI _ (Ev.no rfl (Ev.yes rfl (Ev.now _))), goS _ (Ev.no rfl (Ev.yes rfl (Ev.now _)))⟩
    · exact ⟨(cs'.data.toList.count 48 : Int), goI _ (Ev.no rfl (Ev.no rfl (Ev.bind (Ev.step (fun k => (strings_Count.eq k (cs', bs [48])).trans (show strCount1 cs' (bs [48]) = some (cs'.data.toList.count 48 : Int) from rfl)) (Ev.now _)) (Ev.now _)))), goS _ (Ev.no rfl (Ev.no rfl (Ev.yes rfl (Ev.now _))))⟩
/-! ### Clues -/
def Fit (c : Cl) (W : Wo) : Prop := Ev (fun k => spec_pzFits k (c, W)) true
theorem fits_ev (rl : ByteArray) (w h : Int) (cs : ByteArray) (x y wy : Int) (H : WorldOk rl w h cs x y wy) (c : Cl) (hc : ClueOk rl (w * h) c) : EvB (fun k => impl_Clue_fits k (c, (rl, w, h, cs, x, y, wy))) (Fit c (rl, w, h, cs, x, y, wy)) ∧ EvB (fun k => spec_pzFits k (c, (rl, w, h, cs, x, y, wy))) (Fit c (rl, w, h, cs, x, y, wy)) := by
  have hs := H.2.2.2.1
  obtain ⟨kind, a, b⟩ := c
  have key : ∃ v : Bool, Ev (fun k => impl_Clue_fits k ((kind, a, b), (rl, w, h, cs, x, y, wy))) v ∧ Ev (fun k => spec_pzFits k ((kind, a, b), (rl, w, h, cs, x, y, wy))) v := by
    unfold ClueOk at hc
    simp only at hc
    by_cases h4 : kind = 4
    · obtain ⟨v, v1, v2⟩ := value_ev rl w h cs x y wy H 4 0 (.inr (.inl ⟨rfl, rfl⟩))
      exact ⟨_, Ev.step (fun k => impl_Clue_fits.eq k kind a b rl w h cs x y wy) (Ev.yes (beq_iff_eq.2 h4) (Ev.bind v1 (Ev.now _))), Ev.step (fun k => spec_pzFits.eq k kind a b rl w h cs x y wy) (Ev.yes (beq_iff_eq.2 h4) (Ev.bind v2 (Ev.now _)))⟩
    · obtain ⟨v, v1, v2⟩ := value_ev rl w h cs x y wy H kind a (by omega)
      have g : (kind == 4) = false := by rw [beq_eq_false_iff_ne]; exact h4
      exact ⟨_, Ev.step (fun k => impl_Clue_fits.eq k kind a b rl w h cs x y wy) (Ev.no g (Ev.bind v1 (Ev.now _))), Ev.step (fun k => spec_pzFits.eq k kind a b rl w h cs x y wy) (Ev.no g (Ev.bind v2 (Ev.now _)))⟩
  obtain ⟨v, v1, v2⟩ := key
  have e : v = true ↔ Fit (kind, a, b) (rl, w, h, cs, x, y, wy) := ⟨fun e => by subst e; exact v2, fun f => Ev.one v2 f⟩
  exact ⟨⟨v, v1, e⟩, ⟨v, v2, e⟩⟩

/-! ### Digits in breadth -/
theorem ext_at {t c : Nat} {s : ByteArray} (h : c < t) : (extD t s)[c]? = some (s ++ ofBytes [48 + (c : Int)]) := by
  unfold extD
  rw [List.getElem?_map, List.getElem?_range h]
  rfl
theorem dig64 {c : Nat} (h : c < 10) : w8 (w64 (48 + (c : Int))) = 48 + (c : Int) := by rw [w64_of (by omega) (by omega), w8_of (by omega) (by omega)]
theorem digits3_ev (t : Nat) (ht : t ≤ 9) (s : ByteArray) (hs : s.size ≤ 100) (t11 t12 : Int) (t15 : List ByteArray) (t16 t17 : Int) : ∀ (m c : Nat) (next : List ByteArray), c + m = t → next.length + m ≤ 100000 →
    Ev (fun k => impl_digits_l_l_l k ((t : Int), next, s, t11, t12, t15, t16, t17, (t : Int), (c : Int))) ((t : Int), next ++ (extD t s).drop c, t11, t12, t15, t16, t17)
  | 0, c, next, h, hn => Ev.step (fun k => impl_digits_l_l_l.eq k (t : Int) next s t11 t12 t15 t16 t17 (t : Int) (c : Int)) (Ev.no (not_lt_nat (by omega)) (Ev.now' (by rw [List.drop_of_length_le (by rw [ext_len]; omega), List.append_nil])))
  | m + 1, c, next, h, hn => by
    have hx := ext_at (t := t) (c := c) (s := s) (by omega)
    obtain ⟨hlt, he⟩ := List.getElem?_eq_some_iff.1 hx
    refine Ev.step (fun k => impl_digits_l_l_l.eq k (t : Int) next s t11 t12 t15 t16 t17 (t : Int) (c : Int)) (Ev.yes (lt_nat (by omega)) ?_)
    rw [dig64 (by omega), w64_succ (by omega), List.drop_eq_getElem_cons hlt, he]
    have := digits3_ev t ht s hs t11 t12 t15 t16 t17 m (c + 1) (next ++ [s ++ ofBytes [48 + (c : Int)]]) (by omega) (by simp; omega)
    rw [List.append_assoc] at this
    exact Ev.yes (fitS_of (by show s.size + 1 < _; omega)) (Ev.yes (fits_of (by omega)) this)
theorem digits2_ev (t : Nat) (ht : t ≤ 9) (t11 t12 : Int) (out : List ByteArray) (ho : ∀ s ∈ out, s.size ≤ 100) (hl : out.length ≤ 1000) : ∀ (m i : Nat) (next : List ByteArray), i + m = out.length → next.length + m * 9 ≤ 100000 →
    Ev (fun k => impl_digits_l_l k ((t : Int), next, t11, t12, out, (out.length : Int), (i : Int))) ((t : Int), next ++ (out.drop i).flatMap (extD t), t11, t12)
  | 0, i, next, h, hn => Ev.step (fun k => impl_digits_l_l.eq k (t : Int) next t11 t12 out (out.length : Int) (i : Int)) (Ev.no (not_lt_nat (by omega)) (Ev.now' (by rw [List.drop_of_length_le (by omega)]; simp)))
  | m + 1, i, next, h, hn => by
    obtain ⟨s, hx⟩ := nat_list (l := out) (i := i) (by omega)
    obtain ⟨hlt, he⟩ := List.getElem?_eq_some_iff.1 hx
    have h3 := digits3_ev t ht s (ho s (List.mem_of_getElem? hx)) t11 t12 out (out.length : Int) (i : Int) t 0 next (by omega) (by omega)
    rw [List.drop_zero] at h3
    refine Ev.step (fun k => impl_digits_l_l.eq k (t : Int) next t11 t12 out (out.length : Int) (i : Int)) (Ev.yes (lt_nat (by omega)) (Ev.yes (inB_nat (by omega)) ?_))
    rw [Int.toNat_natCast, getD_at hx]
    refine Ev.bind h3 ?_
    have := digits2_ev t ht t11 t12 out ho hl m (i + 1) (next ++ extD t s) (by omega) (by rw [List.length_append, ext_len]; omega)
    rw [List.append_assoc] at this
    rw [List.drop_eq_getElem_cons hlt, he, List.flatMap_cons]
    show Ev (fun k => impl_digits_l_l k ((t : Int), next ++ extD t s, t11, t12, out, (out.length : Int), w64 ((i : Int) + 1))) _
    rw [w64_succ (by omega)]
    exact this
theorem digits_ev (t N : Nat) (ht : 1 ≤ t ∧ t ≤ 6) (hN : N ≤ 9) (hp : t ^ N ≤ 300) : Ev (fun k => impl_digits k ((t : Int), (N : Int))) (allD t N) := by
  have loop : ∀ (m i : Nat), i + m = N → Ev (fun k => impl_digits_l k ((t : Int), allD t i, (N : Int), (i : Int))) (allD t N) := by
    intro m
    induction m with
    | zero =>
      intro i hi
      obtain rfl : i = N := by omega
      exact Ev.step (fun k => impl_digits_l.eq k (t : Int) (allD t i) (i : Int) (i : Int)) (Ev.no (not_lt_nat (by omega)) (Ev.now _))
    | succ m ih =>
      intro i hi
      have hle : t ^ i ≤ 300 := Nat.le_trans (pow_le_pow ht.1 (by omega)) hp
      have hlen : (allD t i).length ≤ 300 := by rw [allD_len]; exact hle
      have h2 := digits2_ev t (by omega) (N : Int) (i : Int) (allD t i) (fun s hs => by have := (allD_ok (by omega) i s hs).1; omega) (by omega) (allD t i).length 0 [] (by omega) (by simp; omega)
      rw [List.drop_zero, List.nil_append] at h2
      refine Ev.step (fun k => impl_digits_l.eq k (t : Int) (allD t i) (N : Int) (i : Int)) (Ev.yes (lt_nat (by omega)) (Ev.bind h2 ?_))
      show Ev (fun k => impl_digits_l k ((t : Int), allD t (i + 1), (N : Int), w64 ((i : Int) + 1))) _
      rw [w64_succ (by omega)]
      exact ih (i + 1) (by omega)
  exact Ev.step (fun k => impl_digits.eq k (t : Int) (N : Int)) (Ev.bind (loop N 0 (by omega)) (Ev.now _))
/-! ### Which boards fit -/
open Classical in
noncomputable def keepC (rl : ByteArray) (w h : Int) (cl : List Cl) (s : ByteArray) : Bool := decide (∀ c ∈ cl, Fit c (rl, w, h, s, 0, 0, 0))
open Classical in
theorem keepC_iff {rl : ByteArray} {w h : Int} {cl : List Cl} {s : ByteArray} : keepC rl w h cl s = true ↔ ∀ c ∈ cl, Fit c (rl, w, h, s, 0, 0, 0) := by
  unfold keepC
  exact decide_eq_true_iff
theorem board_ok {rl : ByteArray} {w h : Int} (H : SizeOk rl w h) {s : ByteArray} (hs : (s.size : Int) = w * h) (hc : CellsOk (rl.size : Int) s) : WorldOk rl w h s 0 0 0 := by
  obtain ⟨hR, hw, hh, _⟩ := H
  exact ⟨hR, hw, hh, hs, hc, by omega, by omega, by omega⟩
theorem lookD_len (t : Nat) : ∀ (m : Nat) (s : ByteArray), (lookD t m s).length = t ^ m
  | 0, s => rfl
  | m + 1, s => by
    show ((extD t s).flatMap (lookD t m)).length = _
    rw [List.length_flatMap]
    have : (extD t s).map (fun a => (lookD t m a).length) = List.replicate (extD t s).length (t ^ m) := by
      rw [List.eq_replicate_iff]
      refine ⟨by simp, fun b hb => ?_⟩
      obtain ⟨a, _, rfl⟩ := List.mem_map.1 hb
      exact lookD_len t m a
    rw [this, List.sum_replicate_nat, ext_len, Nat.pow_succ, Nat.mul_comm]
section
variable (rl : ByteArray) (w h : Int) (H : SizeOk rl w h) (cl : List Cl) (hl : cl.length ≤ 6) (hcl : ∀ c ∈ cl, ClueOk rl (w * h) c)
include H hl hcl
/-- One board: fits it all clues? The reference's way. -/
theorem lookFits_ev (s : ByteArray) (hs : (s.size : Int) = w * h) (hc : CellsOk (rl.size : Int) s) (out : List ByteArray) : (keepC rl w h cl s = true ∧ Ev (fun k => spec_pzLook_l k (s, out, (rl, w, h, s, 0, 0, 0), cl, (cl.length : Int), 0, ())) (.inr (s, out, ()))) ∨
    (keepC rl w h cl s = false ∧ Ev (fun k => spec_pzLook_l k (s, out, (rl, w, h, s, 0, 0, 0), cl, (cl.length : Int), 0, ())) (.inl out)) := by
  have W := board_ok H hs hc
  have step : ∀ (i : Nat) (c : Cl), cl[i]? = some c → ∀ r, Ev (fun k => (spec_pzFits k (c, (rl, w, h, s, 0, 0, 0))).bind fun r1 => cond (!r1) (some (.inl out)) (spec_pzLook_l k (s, out, (rl, w, h, s, 0, 0, 0), cl, (cl.length : Int), w64 ((i : Int) + 1), ()))) r → Ev (fun k => spec_pzLook_l k (s, out, (rl, w, h, s, 0, 0, 0), cl, (cl.length : Int), (i : Int), ())) r := fun i c hx r Hr => by
    have hi := (List.getElem?_eq_some_iff.1 hx).1
    exact Ev.step (fun k => spec_pzLook_l.eq k s out rl w h s 0 0 0 cl (cl.length : Int) (i : Int)) (Ev.yes (lt_nat hi) (Ev.yes (inB_nat hi) (by rw [Int.toNat_natCast, getD_at hx]; exact Hr)))
  have srch := Ev.search (L := fun k i => spec_pzLook_l k (s, out, (rl, w, h, s, 0, 0, 0), cl, (cl.length : Int), i, ())) (n := cl.length) (fun i => ∃ c, cl[i]? = some c ∧ ¬ Fit c (rl, w, h, s, 0, 0, 0)) (fun i => .inl out) (.inr (s, out, ()))
    (fun i hi hp r Hr => by
      obtain ⟨c, hx⟩ := nat_list hi
      have hf : Fit c (rl, w, h, s, 0, 0, 0) := Classical.byContradiction fun hn => hp ⟨c, hx, hn⟩
      exact step i c hx r (Ev.bind ((fits_ev rl w h s 0 0 0 W c (hcl c (List.mem_of_getElem? hx))).2.isT hf) (Ev.no rfl (by rw [w64_succ (by omega)]; exact Hr))))
    (fun i hi hp => by
      obtain ⟨c, hx, hn⟩ := hp
      exact step i c hx _ (Ev.bind ((fits_ev rl w h s 0 0 0 W c (hcl c (List.mem_of_getElem? hx))).2.isF hn) (Ev.yes rfl (Ev.now _))))
    (Ev.step (fun k => spec_pzLook_l.eq k s out rl w h s 0 0 0 cl (cl.length : Int) (cl.length : Int)) (Ev.no (not_lt_nat (Nat.lt_irrefl _)) (Ev.now _))) cl.length 0 (by omega)
  rcases srch with ⟨h1, h2⟩ | ⟨j, _, hj, ⟨c, hx, hn⟩, _, h2⟩
  · refine .inl ⟨keepC_iff.2 fun c hm => ?_, h2⟩
    obtain ⟨i, hi⟩ := List.mem_iff_getElem?.1 hm
    exact Classical.byContradiction fun hn => h1 i (Nat.zero_le _) (List.getElem?_eq_some_iff.1 hi).1 ⟨c, hi, hn⟩
  · refine .inr ⟨?_, h2⟩
    cases hk : keepC rl w h cl s with
    | false => rfl
    | true => exact absurd (keepC_iff.1 hk c (List.mem_of_getElem? hx)) hn
theorem look_ev : ∀ (m : Nat) (s : ByteArray) (out : List ByteArray), (s.size : Int) + m = w * h → CellsOk (rl.size : Int) s → out.length + rl.size ^ m ≤ 1000 →
    Ev (fun k => spec_pzLook k ((rl, w, h, cl), s, out)) ((), out ++ (lookD rl.size m s).filter (keepC rl w h cl)) := by
  have hR := H.1
  have hw := H.2.1
  have hh := H.2.2.1
  have hwh := H.2.2.2.1
  have hm := mul_range (a := w) (b := h) (by omega) (by omega) (by omega) (by omega)
  have e64 : w64 (w * h) = w * h := w64_of (by omega) (by omega)
  intro m
  induction m with
  | zero =>
    intro s out hs hc ho
    have hs' : (s.size : Int) = w * h := by omega
    refine Ev.step (fun k => spec_pzLook.eq k rl w h cl s out) ?_
    rw [e64]
    refine Ev.yes (beq_iff_eq.2 hs') ?_
    have hld : lookD rl.size 0 s = [s] := rfl
    rw [hld]
    rcases lookFits_ev rl w h H cl hl hcl s hs' hc out with ⟨k1, k2⟩ | ⟨k1, k2⟩
    · rw [show [s].filter (keepC rl w h cl) = [s] by simp [k1]]
      exact Ev.bind k2 (Ev.yes (fits_of (by show (out.length + 1) * 16 < _; omega)) (Ev.now _))
    · rw [show [s].filter (keepC rl w h cl) = [] by simp [k1], List.append_nil]
      exact Ev.bind k2 (Ev.now _)
  | succ m ih =>
    intro s out hs hc ho
    have hne : ((s.size : Int) == w * h) = false := by rw [beq_eq_false_iff_ne]; omega
    refine Ev.step (fun k => spec_pzLook.eq k rl w h cl s out) ?_
    rw [e64]
    refine Ev.no hne ?_
    have loop : ∀ (j c : Nat) (out : List ByteArray), c + j = rl.size → out.length + j * rl.size ^ m ≤ 1000 → Ev (fun k => spec_pzLook_l_2 k (s, out, (rl, w, h, cl), (rl.size : Int), (c : Int), ())) (out ++ (((extD rl.size s).drop c).flatMap (lookD rl.size m)).filter (keepC rl w h cl)) := by
      intro j
      induction j with
      | zero =>
        intro c out hc' ho
        exact Ev.step (fun k => spec_pzLook_l_2.eq k s out rl w h cl (rl.size : Int) (c : Int)) (Ev.no (not_lt_nat (by omega)) (Ev.now' (by rw [List.drop_of_length_le (by rw [ext_len]; omega)]; simp)))
      | succ j ihj =>
        intro c out hc' ho
        rw [Nat.succ_mul] at ho
        have hx := ext_at (t := rl.size) (c := c) (s := s) (by omega)
        obtain ⟨hlt, he⟩ := List.getElem?_eq_some_iff.1 hx
        have h6 := hR.1.2
        have h1 := ih (s ++ ofBytes [48 + (c : Int)]) out (by rw [digit_size]; omega) (cells_digit hc (by omega) (by omega)) (by omega)
        have hfl := List.length_filter_le (keepC rl w h cl) (lookD rl.size m (s ++ ofBytes [48 + (c : Int)]))
        rw [lookD_len] at hfl
        have h2 := ihj (c + 1) (out ++ (lookD rl.size m (s ++ ofBytes [48 + (c : Int)])).filter (keepC rl w h cl)) (by omega) (by rw [List.length_append]; omega)
        refine Ev.step (fun k => spec_pzLook_l_2.eq k s out rl w h cl (rl.size : Int) (c : Int)) (Ev.yes (lt_nat (by omega)) (Ev.bind (l1Num_ev (c : Int) (by omega)) (Ev.yes (fitS_of (by show s.size + 1 < _; omega)) (Ev.bind h1 ?_))))
        rw [w64_succ (by omega), List.drop_eq_getElem_cons hlt, he, List.flatMap_cons, List.filter_append, ← List.append_assoc]
        exact h2
    have := loop rl.size 0 out (by omega) (by rw [Nat.pow_succ, Nat.mul_comm] at ho; exact ho)
    rw [List.drop_zero] at this
    exact Ev.bind this (Ev.now _)
noncomputable def solC (rl : ByteArray) (w h : Int) (cl : List Cl) : List ByteArray := (allD rl.size (w * h).toNat).filter (keepC rl w h cl)
theorem pzAll_ev : Ev (fun k => spec_pzAll k (rl, w, h, cl)) (solC rl w h cl) := by
  have hm := mul_range (a := w) (b := h) (by have := H.2.1; omega) (by have := H.2.1; omega) (by have := H.2.2.1; omega) (by have := H.2.2.1; omega)
  have := look_ev rl w h H cl hl hcl (w * h).toNat ByteArray.empty [] (by show (0 : Int) + _ = _; omega) (fun c hc => by cases hc) (by have := H.2.2.2.2; simp; omega)
  rw [List.nil_append, look_empty] at this
  exact Ev.step (fun k => spec_pzAll.eq k rl w h cl) (Ev.bind this (Ev.now _))
/-- One board: is it taken out? The program's way. -/
theorem taken_ev (s : ByteArray) (hs : (s.size : Int) = w * h) (hc : CellsOk (rl.size : Int) s) : EvB (fun k => slices_ContainsFunc_2 k (cl, (rl, w, h, s, 0, 0, 0))) (¬ keepC rl w h cl s = true) := by
  have W := board_ok H hs hc
  have test : ∀ c ∈ cl, EvB (fun k => impl_Puzzle_with_1_1 k (c, (rl, w, h, s, 0, 0, 0))) (¬ Fit c (rl, w, h, s, 0, 0, 0)) := fun c hm =>
    EvB.step (fun k => impl_Puzzle_with_1_1.eq k c.1 c.2.1 c.2.2 rl w h s 0 0 0) (fits_ev rl w h s 0 0 0 W c (hcl c hm)).1.neg
  have step : ∀ (i : Nat) (c : Cl), cl[i]? = some c → ∀ r, Ev (fun k => (impl_Puzzle_with_1_1 k (c, (rl, w, h, s, 0, 0, 0))).bind fun r1 => cond r1 (some (.inl (i : Int))) (slices_IndexFunc_3_l k (cl, (rl, w, h, s, 0, 0, 0), (cl.length : Int), w64 ((i : Int) + 1)))) r → Ev (fun k => slices_IndexFunc_3_l k (cl, (rl, w, h, s, 0, 0, 0), (cl.length : Int), (i : Int))) r := fun i c hx r Hr => by
    have hi := (List.getElem?_eq_some_iff.1 hx).1
    exact Ev.step (fun k => slices_IndexFunc_3_l.eq k cl rl w h s 0 0 0 (cl.length : Int) (i : Int)) (Ev.yes (lt_nat hi) (Ev.yes (inB_nat hi) (by rw [Int.toNat_natCast, getD_at hx]; exact Hr)))
  have srch := Ev.search (L := fun k i => slices_IndexFunc_3_l k (cl, (rl, w, h, s, 0, 0, 0), (cl.length : Int), i)) (n := cl.length) (fun i => ∃ c, cl[i]? = some c ∧ ¬ Fit c (rl, w, h, s, 0, 0, 0)) (fun i => .inl (i : Int)) (.inr ())
    (fun i hi hp r Hr => by
      obtain ⟨c, hx⟩ := nat_list hi
      have hf : Fit c (rl, w, h, s, 0, 0, 0) := Classical.byContradiction fun hn => hp ⟨c, hx, hn⟩
      exact step i c hx r (Ev.bind ((test c (List.mem_of_getElem? hx)).isF fun q => q hf) (Ev.no rfl (by rw [w64_succ (by omega)]; exact Hr))))
    (fun i hi hp => by
      obtain ⟨c, hx, hn⟩ := hp
      exact step i c hx _ (Ev.bind ((test c (List.mem_of_getElem? hx)).isT hn) (Ev.yes rfl (Ev.now _))))
    (Ev.step (fun k => slices_IndexFunc_3_l.eq k cl rl w h s 0 0 0 (cl.length : Int) (cl.length : Int)) (Ev.no (not_lt_nat (Nat.lt_irrefl _)) (Ev.now _))) cl.length 0 (by omega)
  have go : ∀ r, Ev (fun k => (slices_IndexFunc_3_l k (cl, (rl, w, h, s, 0, 0, 0), (cl.length : Int), ((0 : Nat) : Int))).bind fun r1 => r1.elim (fun r2 => some r2) (fun r3 => some (-1))) r → Ev (fun k => slices_ContainsFunc_2 k (cl, (rl, w, h, s, 0, 0, 0))) (decide (r ≥ 0)) := fun r Hr =>
    Ev.step (fun k => slices_ContainsFunc_2.eq k cl rl w h s 0 0 0) (Ev.bind (Ev.step (fun k => slices_IndexFunc_3.eq k cl rl w h s 0 0 0) Hr) (Ev.now _))
  rcases srch with ⟨h1, h2⟩ | ⟨j, _, hj, ⟨c, hx, hn⟩, _, h2⟩
  · refine ⟨_, go _ (Ev.bind h2 (Ev.now _)), ⟨fun h => by simp at h, fun h => absurd (keepC_iff.2 fun c hm => ?_) h⟩⟩
    obtain ⟨i, hi⟩ := List.mem_iff_getElem?.1 hm
    exact Classical.byContradiction fun hn => h1 i (Nat.zero_le _) (List.getElem?_eq_some_iff.1 hi).1 ⟨c, hi, hn⟩
  · exact ⟨_, go _ (Ev.bind h2 (Ev.now _)), ⟨fun _ h => hn (keepC_iff.1 h c (List.mem_of_getElem? hx)), fun _ => decide_eq_true (by omega)⟩⟩
theorem impl_Puzzle_with_ev (pc : List Cl) : Ev (fun k => impl_Puzzle_with_2 k ((rl, w, h, pc), cl)) (solC rl w h cl) := by
  have hm := mul_range (a := w) (b := h) (by have := H.2.1; omega) (by have := H.2.1; omega) (by have := H.2.2.1; omega) (by have := H.2.2.1; omega)
  have e64 : w64 (w * h) = (((w * h).toNat : Nat) : Int) := by rw [w64_of (by omega) (by omega)]; omega
  have hd := digits_ev rl.size (w * h).toNat H.1.1 (by have := H.2.2.2.1; omega) H.2.2.2.2
  have hall : ∀ s ∈ allD rl.size (w * h).toNat, (s.size : Int) = w * h ∧ CellsOk (rl.size : Int) s := fun s hs => by
    have := allD_ok (t := rl.size) (by have := H.1.1; omega) _ s hs
    exact ⟨by omega, this.2⟩
  have hlen : (allD rl.size (w * h).toNat).length ≤ 300 := by rw [allD_len]; exact H.2.2.2.2
  unfold solC
  generalize allD rl.size (w * h).toNat = l at hd hall hlen
  have test : ∀ s ∈ l, EvB (fun k => impl_Puzzle_with_1_2 k (s, (rl, w, h, pc), cl)) (¬ keepC rl w h cl s = true) := fun s hs =>
    EvB.step (fun k => impl_Puzzle_with_1_2.eq k s rl w h pc cl) (taken_ev rl w h H cl hl hcl s (hall s hs).1 (hall s hs).2).ret
  have kf : ∀ {s : ByteArray}, ¬ keepC rl w h cl s = true → keepC rl w h cl s = false := fun {s} hn => by
    cases hk : keepC rl w h cl s with
    | false => rfl
    | true => exact absurd hk hn
  have step : ∀ (i : Nat) (x : ByteArray), l[i]? = some x → ∀ r, Ev (fun k => (impl_Puzzle_with_1_2 k (x, (rl, w, h, pc), cl)).bind fun r1 => cond r1 (some (.inl (i : Int))) (slices_IndexFunc_4_l k (l, ((rl, w, h, pc), cl), (l.length : Int), w64 ((i : Int) + 1)))) r → Ev (fun k => slices_IndexFunc_4_l k (l, ((rl, w, h, pc), cl), (l.length : Int), (i : Int))) r := fun i x hx r Hr => by
    have hi := (List.getElem?_eq_some_iff.1 hx).1
    exact Ev.step (fun k => slices_IndexFunc_4_l.eq k l rl w h pc cl (l.length : Int) (i : Int)) (Ev.yes (lt_nat hi) (Ev.yes (inB_nat hi) (by rw [Int.toNat_natCast, getD_at hx]; exact Hr)))
  have srch := Ev.search (L := fun k i => slices_IndexFunc_4_l k (l, ((rl, w, h, pc), cl), (l.length : Int), i)) (n := l.length) (fun i => ∃ x, l[i]? = some x ∧ ¬ keepC rl w h cl x = true) (fun i => .inl (i : Int)) (.inr ())
    (fun i hi hp r Hr => by
      obtain ⟨x, hx⟩ := nat_list hi
      have hk : keepC rl w h cl x = true := Classical.byContradiction fun hn => hp ⟨x, hx, hn⟩
      exact step i x hx r (Ev.bind ((test x (List.mem_of_getElem? hx)).isF fun q => q hk) (Ev.no rfl (by rw [w64_succ (by omega)]; exact Hr))))
    (fun i hi hp => by
      obtain ⟨x, hx, hn⟩ := hp
      exact step i x hx _ (Ev.bind ((test x (List.mem_of_getElem? hx)).isT hn) (Ev.yes rfl (Ev.now _))))
    (Ev.step (fun k => slices_IndexFunc_4_l.eq k l rl w h pc cl (l.length : Int) (l.length : Int)) (Ev.no (not_lt_nat (Nat.lt_irrefl _)) (Ev.now _))) l.length 0 (by omega)
  have goI : ∀ r, Ev (fun k => (slices_IndexFunc_4_l k (l, ((rl, w, h, pc), cl), (l.length : Int), ((0 : Nat) : Int))).bind fun r1 => r1.elim (fun r2 => some r2) (fun r3 => some (-1))) r → Ev (fun k => slices_IndexFunc_4 k (l, ((rl, w, h, pc), cl))) r := fun r Hr => Ev.step (fun k => slices_IndexFunc_4.eq k l rl w h pc cl) Hr
  suffices hdel : Ev (fun k => slices_DeleteFunc_2 k (l, ((rl, w, h, pc), cl))) (l.filter (keepC rl w h cl)) by
    refine Ev.step (fun k => impl_Puzzle_with_2.eq k rl w h pc cl) ?_
    rw [e64]
    exact Ev.bind hd (Ev.bind hdel (Ev.now _))
  rcases srch with ⟨h1, h2⟩ | ⟨i, _, hi, ⟨x, hx, hn⟩, h1, h2⟩
  · rw [filter_all fun s hs => Classical.byContradiction fun hn => by
      obtain ⟨i, hi⟩ := List.mem_iff_getElem?.1 hs
      exact h1 i (Nat.zero_le _) (List.getElem?_eq_some_iff.1 hi).1 ⟨s, hi, hn⟩]
    exact Ev.step (fun k => slices_DeleteFunc_2.eq k l rl w h pc cl) (Ev.bind (goI _ (Ev.bind h2 (Ev.now _))) (Ev.yes rfl (Ev.now _)))
  · have F0 : Filt (keepC rl w h cl) l l i (i + 1) := Filt.first hx (kf hn) fun m y hm hy => Classical.byContradiction fun hk => h1 m (Nat.zero_le _) hm ⟨y, hy, hk⟩
    have loop : ∀ (m : Nat) (s : List ByteArray) (i j : Nat), Filt (keepC rl w h cl) l s i j → j + m = l.length → ∃ (s' : List ByteArray) (i' : Nat), Ev (fun k => slices_DeleteFunc_2_l k (s, ((rl, w, h, pc), cl), (i : Int), (j : Int))) (s', (i' : Int)) ∧ Filt (keepC rl w h cl) l s' i' l.length := by
      intro m
      induction m with
      | zero =>
        intro s i j F hj
        obtain rfl : j = l.length := by omega
        exact ⟨s, i, Ev.step (fun k => slices_DeleteFunc_2_l.eq k s rl w h pc cl (i : Int) (l.length : Int)) (Ev.no (decide_eq_false (by rw [F.len]; omega)) (Ev.now _)), F⟩
      | succ m ih =>
        intro s i j F hj
        obtain ⟨x, hx⟩ := nat_list (l := l) (i := j) (by omega)
        have hsx : s[j]? = some x := F.get.trans hx
        have hle := F.le
        have hlen' := F.len
        have go : ∀ r, Ev (fun k => (impl_Puzzle_with_1_2 k (x, (rl, w, h, pc), cl)).bind fun r1 => cond (!r1) (cond (inB (i : Int) s.length) (slices_DeleteFunc_2_l k (s.set i x, ((rl, w, h, pc), cl), w64 ((i : Int) + 1), w64 ((j : Int) + 1))) none) (slices_DeleteFunc_2_l k (s, ((rl, w, h, pc), cl), (i : Int), w64 ((j : Int) + 1)))) r → Ev (fun k => slices_DeleteFunc_2_l k (s, ((rl, w, h, pc), cl), (i : Int), (j : Int))) r := fun r Hr =>
          Ev.step (fun k => slices_DeleteFunc_2_l.eq k s rl w h pc cl (i : Int) (j : Int)) (Ev.yes (lt_nat (by omega)) (Ev.yes (inB_nat (by omega)) (by rw [Int.toNat_natCast, Int.toNat_natCast, getD_at hsx]; exact Hr)))
        rw [w64_succ (by omega), w64_succ (by omega)] at go
        cases hk : keepC rl w h cl x with
        | true =>
          obtain ⟨s', i', e1, e2⟩ := ih (s.set i x) (i + 1) (j + 1) (F.keep hx hk) (by omega)
          exact ⟨s', i', go _ (Ev.bind ((test x (List.mem_of_getElem? hx)).isF fun q => q hk) (Ev.yes rfl (Ev.yes (inB_nat (by omega)) e1))), e2⟩
        | false =>
          obtain ⟨s', i', e1, e2⟩ := ih s i (j + 1) (F.skip hx hk) (by omega)
          exact ⟨s', i', go _ (Ev.bind ((test x (List.mem_of_getElem? hx)).isT (by rw [hk]; exact nofun)) (Ev.no rfl e1)), e2⟩
    obtain ⟨s', i', e1, e2⟩ := loop (l.length - (i + 1)) l i (i + 1) F0 (by omega)
    have hle := e2.le
    have hlen' := e2.len
    refine Ev.step (fun k => slices_DeleteFunc_2.eq k l rl w h pc cl) (Ev.bind (goI _ (Ev.bind h2 (Ev.now _))) (Ev.no (by rw [beq_eq_false_iff_ne]; omega) ?_))
    rw [w64_succ (by omega)]
    refine Ev.bind e1 ?_
    simp only [Int.toNat_natCast]
    refine Ev.yes (by rw [decide_eq_true (by omega), decide_eq_true (by omega)]; rfl) (Ev.yes ?_ (Ev.now' ?_))
    · rw [decide_eq_true (by omega), decide_eq_true (by simp; omega)]
      rfl
    · rw [← e2.done, List.append_assoc, List.take_append_of_le_length (by simp; omega), List.take_take, Nat.min_self]
theorem impl_Puzzle_with_2_ev : Ev (fun k => impl_Puzzle_with k ((rl, w, h, cl), ())) (solC rl w h cl) := by
  have hm := mul_range (a := w) (b := h) (by have := H.2.1; omega) (by have := H.2.1; omega) (by have := H.2.2.1; omega) (by have := H.2.2.1; omega)
  have e64 : w64 (w * h) = (((w * h).toNat : Nat) : Int) := by rw [w64_of (by omega) (by omega)]; omega
  have hd := digits_ev rl.size (w * h).toNat H.1.1 (by have := H.2.2.2.1; omega) H.2.2.2.2
  have hall : ∀ s ∈ allD rl.size (w * h).toNat, (s.size : Int) = w * h ∧ CellsOk (rl.size : Int) s := fun s hs => by
    have := allD_ok (t := rl.size) (by have := H.1.1; omega) _ s hs
    exact ⟨by omega, this.2⟩
  have hlen : (allD rl.size (w * h).toNat).length ≤ 300 := by rw [allD_len]; exact H.2.2.2.2
  unfold solC
  generalize allD rl.size (w * h).toNat = l at hd hall hlen
  have test : ∀ s ∈ l, EvB (fun k => impl_Puzzle_with_1 k (s, (rl, w, h, cl), ())) (¬ keepC rl w h cl s = true) := fun s hs =>
    EvB.step (fun k => impl_Puzzle_with_1.eq k s rl w h cl ) (taken_ev rl w h H cl hl hcl s (hall s hs).1 (hall s hs).2).ret
  have kf : ∀ {s : ByteArray}, ¬ keepC rl w h cl s = true → keepC rl w h cl s = false := fun {s} hn => by
    cases hk : keepC rl w h cl s with
    | false => rfl
    | true => exact absurd hk hn
  have step : ∀ (i : Nat) (x : ByteArray), l[i]? = some x → ∀ r, Ev (fun k => (impl_Puzzle_with_1 k (x, (rl, w, h, cl), ())).bind fun r1 => cond r1 (some (.inl (i : Int))) (slices_IndexFunc_2_l k (l, ((rl, w, h, cl), ()), (l.length : Int), w64 ((i : Int) + 1)))) r → Ev (fun k => slices_IndexFunc_2_l k (l, ((rl, w, h, cl), ()), (l.length : Int), (i : Int))) r := fun i x hx r Hr => by
    have hi := (List.getElem?_eq_some_iff.1 hx).1
    exact Ev.step (fun k => slices_IndexFunc_2_l.eq k l rl w h cl  (l.length : Int) (i : Int)) (Ev.yes (lt_nat hi) (Ev.yes (inB_nat hi) (by rw [Int.toNat_natCast, getD_at hx]; exact Hr)))
  have srch := Ev.search (L := fun k i => slices_IndexFunc_2_l k (l, ((rl, w, h, cl), ()), (l.length : Int), i)) (n := l.length) (fun i => ∃ x, l[i]? = some x ∧ ¬ keepC rl w h cl x = true) (fun i => .inl (i : Int)) (.inr ())
    (fun i hi hp r Hr => by
      obtain ⟨x, hx⟩ := nat_list hi
      have hk : keepC rl w h cl x = true := Classical.byContradiction fun hn => hp ⟨x, hx, hn⟩
      exact step i x hx r (Ev.bind ((test x (List.mem_of_getElem? hx)).isF fun q => q hk) (Ev.no rfl (by rw [w64_succ (by omega)]; exact Hr))))
    (fun i hi hp => by
      obtain ⟨x, hx, hn⟩ := hp
      exact step i x hx _ (Ev.bind ((test x (List.mem_of_getElem? hx)).isT hn) (Ev.yes rfl (Ev.now _))))
    (Ev.step (fun k => slices_IndexFunc_2_l.eq k l rl w h cl  (l.length : Int) (l.length : Int)) (Ev.no (not_lt_nat (Nat.lt_irrefl _)) (Ev.now _))) l.length 0 (by omega)
  have goI : ∀ r, Ev (fun k => (slices_IndexFunc_2_l k (l, ((rl, w, h, cl), ()), (l.length : Int), ((0 : Nat) : Int))).bind fun r1 => r1.elim (fun r2 => some r2) (fun r3 => some (-1))) r → Ev (fun k => slices_IndexFunc_2 k (l, ((rl, w, h, cl), ()))) r := fun r Hr => Ev.step (fun k => slices_IndexFunc_2.eq k l rl w h cl ) Hr
  suffices hdel : Ev (fun k => slices_DeleteFunc k (l, ((rl, w, h, cl), ()))) (l.filter (keepC rl w h cl)) by
    refine Ev.step (fun k => impl_Puzzle_with.eq k rl w h cl ) ?_
    rw [e64]
    exact Ev.bind hd (Ev.bind hdel (Ev.now _))
  rcases srch with ⟨h1, h2⟩ | ⟨i, _, hi, ⟨x, hx, hn⟩, h1, h2⟩
  · rw [filter_all fun s hs => Classical.byContradiction fun hn => by
      obtain ⟨i, hi⟩ := List.mem_iff_getElem?.1 hs
      exact h1 i (Nat.zero_le _) (List.getElem?_eq_some_iff.1 hi).1 ⟨s, hi, hn⟩]
    exact Ev.step (fun k => slices_DeleteFunc.eq k l rl w h cl ) (Ev.bind (goI _ (Ev.bind h2 (Ev.now _))) (Ev.yes rfl (Ev.now _)))
  · have F0 : Filt (keepC rl w h cl) l l i (i + 1) := Filt.first hx (kf hn) fun m y hm hy => Classical.byContradiction fun hk => h1 m (Nat.zero_le _) hm ⟨y, hy, hk⟩
    have loop : ∀ (m : Nat) (s : List ByteArray) (i j : Nat), Filt (keepC rl w h cl) l s i j → j + m = l.length → ∃ (s' : List ByteArray) (i' : Nat), Ev (fun k => slices_DeleteFunc_l k (s, ((rl, w, h, cl), ()), (i : Int), (j : Int))) (s', (i' : Int)) ∧ Filt (keepC rl w h cl) l s' i' l.length := by
      intro m
      induction m with
      | zero =>
        intro s i j F hj
        obtain rfl : j = l.length := by omega
        exact ⟨s, i, Ev.step (fun k => slices_DeleteFunc_l.eq k s rl w h cl  (i : Int) (l.length : Int)) (Ev.no (decide_eq_false (by rw [F.len]; omega)) (Ev.now _)), F⟩
      | succ m ih =>
        intro s i j F hj
        obtain ⟨x, hx⟩ := nat_list (l := l) (i := j) (by omega)
        have hsx : s[j]? = some x := F.get.trans hx
        have hle := F.le
        have hlen' := F.len
        have go : ∀ r, Ev (fun k => (impl_Puzzle_with_1 k (x, (rl, w, h, cl), ())).bind fun r1 => cond (!r1) (cond (inB (i : Int) s.length) (slices_DeleteFunc_l k (s.set i x, ((rl, w, h, cl), ()), w64 ((i : Int) + 1), w64 ((j : Int) + 1))) none) (slices_DeleteFunc_l k (s, ((rl, w, h, cl), ()), (i : Int), w64 ((j : Int) + 1)))) r → Ev (fun k => slices_DeleteFunc_l k (s, ((rl, w, h, cl), ()), (i : Int), (j : Int))) r := fun r Hr =>
          Ev.step (fun k => slices_DeleteFunc_l.eq k s rl w h cl  (i : Int) (j : Int)) (Ev.yes (lt_nat (by omega)) (Ev.yes (inB_nat (by omega)) (by rw [Int.toNat_natCast, Int.toNat_natCast, getD_at hsx]; exact Hr)))
        rw [w64_succ (by omega), w64_succ (by omega)] at go
        cases hk : keepC rl w h cl x with
        | true =>
          obtain ⟨s', i', e1, e2⟩ := ih (s.set i x) (i + 1) (j + 1) (F.keep hx hk) (by omega)
          exact ⟨s', i', go _ (Ev.bind ((test x (List.mem_of_getElem? hx)).isF fun q => q hk) (Ev.yes rfl (Ev.yes (inB_nat (by omega)) e1))), e2⟩
        | false =>
          obtain ⟨s', i', e1, e2⟩ := ih s i (j + 1) (F.skip hx hk) (by omega)
          exact ⟨s', i', go _ (Ev.bind ((test x (List.mem_of_getElem? hx)).isT (by rw [hk]; exact nofun)) (Ev.no rfl e1)), e2⟩
    obtain ⟨s', i', e1, e2⟩ := loop (l.length - (i + 1)) l i (i + 1) F0 (by omega)
    have hle := e2.le
    have hlen' := e2.len
    refine Ev.step (fun k => slices_DeleteFunc.eq k l rl w h cl ) (Ev.bind (goI _ (Ev.bind h2 (Ev.now _))) (Ev.no (by rw [beq_eq_false_iff_ne]; omega) ?_))
    rw [w64_succ (by omega)]
    refine Ev.bind e1 ?_
    simp only [Int.toNat_natCast]
    refine Ev.yes (by rw [decide_eq_true (by omega), decide_eq_true (by omega)]; rfl) (Ev.yes ?_ (Ev.now' ?_))
    · rw [decide_eq_true (by omega), decide_eq_true (by simp; omega)]
      rfl
    · rw [← e2.done, List.append_assoc, List.take_append_of_le_length (by simp; omega), List.take_take, Nat.min_self]
end

/-! ### Solutions -/
section
variable (rl : ByteArray) (w h : Int) (cl : List Cl) (hrl : rl.size ≤ 9223372036854775807)
include hrl
theorem solutions_ev : (PuzOk rl w h cl ∧ (solC rl w h cl).length ≤ 300 ∧ Ev (fun k => impl_Solutions k (rl, w, h, cl)) (solC rl w h cl, true) ∧ Ev (fun k => spec_pzGood k (rl, w, h, cl)) true ∧ Ev (fun k => spec_pzAll k (rl, w, h, cl)) (solC rl w h cl)) ∨
    (¬ PuzOk rl w h cl ∧ Ev (fun k => impl_Solutions k (rl, w, h, cl)) ([], false) ∧ Ev (fun k => spec_pzGood k (rl, w, h, cl)) false) := by
  have a1 := isPuzzle_ev rl w h cl hrl
  have a2 := pzGood_ev rl w h cl
  by_cases H : PuzOk rl w h cl
  · obtain ⟨h1, h2, h3⟩ := id H
    refine .inl ⟨H, ?_, Ev.step (fun k => impl_Solutions.eq k rl w h cl) (Ev.bind (a1.isT H) (Ev.no rfl (Ev.bind (impl_Puzzle_with_2_ev rl w h h1 cl h2 h3) (Ev.now _)))), a2.isT H, pzAll_ev rl w h h1 cl h2 h3⟩
    unfold solC
    have := List.length_filter_le (keepC rl w h cl) (allD rl.size (w * h).toNat)
    rw [allD_len] at this
    exact Nat.le_trans this h1.2.2.2.2
  · exact .inr ⟨H, Ev.step (fun k => impl_Solutions.eq k rl w h cl) (Ev.bind (a1.isF H) (Ev.yes rfl (Ev.now _))), a2.isF H⟩
end
def woC (cl : List Cl) (k : Nat) : List Cl := cl.take k ++ cl.drop (k + 1)
theorem woC_len {cl : List Cl} {k : Nat} (h : k < cl.length) : (woC cl k).length + 1 = cl.length := by
  unfold woC
  rw [List.length_append, List.length_take, List.length_drop]
  omega
theorem woC_mem {cl : List Cl} {k : Nat} {c : Cl} (h : c ∈ woC cl k) : c ∈ cl := by
  rcases List.mem_append.1 h with h | h
  · exact List.mem_of_mem_take h
  · exact List.mem_of_mem_drop h
theorem pzWithout_ev (cl : List Cl) (hl : cl.length ≤ 1000) (i : Nat) (hi : i < cl.length) : Ev (fun k => spec_pzWithout k (cl, (i : Int))) (woC cl i) := by
  have e1 : w64 ((i : Int) + 1) = ((i + 1 : Nat) : Int) := w64_succ (by omega)
  refine Ev.step (fun k => spec_pzWithout.eq k cl (i : Int)) ?_
  rw [e1]
  simp only [Int.toNat_natCast, List.nil_append]
  have t1 : (cl.take i).length ≤ 1000 := by rw [List.length_take]; omega
  have t2 : ((cl.drop (i + 1)).take (cl.length - (i + 1))) = cl.drop (i + 1) := List.take_of_length_le (by rw [List.length_drop]; omega)
  rw [t2]
  have t3 : (cl.drop (i + 1)).length ≤ 1000 := by rw [List.length_drop]; omega
  exact Ev.yes (by rw [decide_eq_true (by omega), decide_eq_true (by omega)]; rfl) (Ev.yes (fits_of (by omega)) (Ev.yes (by rw [decide_eq_true (by omega), decide_eq_true (by omega)]; rfl) (Ev.yes (fits_of (by omega)) (Ev.now _))))
theorem dropped_ev (cl : List Cl) (hl : cl.length ≤ 1000) (i : Nat) (hi : i < cl.length) : Ev (fun k => impl_dropped k (cl, (i : Int))) (woC cl i) := by
  have e1 : w64 ((i : Int) + 1) = ((i + 1 : Nat) : Int) := w64_succ (by omega)
  have hc : Ev (fun k => slices_Clone k cl) cl := Ev.step (fun k => (slices_Clone.eq k cl).trans (cloneB_some (s := .pair (.int .i64) (.pair (.int .i64) (.int .i64))) 24 cl (by show List.length (α := Cl) cl * 24 ≤ _; omega))) (Ev.now _)
  have hd : Ev (fun k => slices_Delete k (cl, (i : Int), ((i + 1 : Nat) : Int))) (woC cl i) := by
    refine Ev.step (fun k => (slices_Delete.eq k (cl, (i : Int), ((i + 1 : Nat) : Int))).trans (?_ : _ = some (woC cl i))) (Ev.now _)
    show delB (s := .pair (.int .i64) (.pair (.int .i64) (.int .i64))) cl (i : Int) ((i + 1 : Nat) : Int) = _
    unfold delB
    rw [if_pos ⟨by omega, by omega, by show ((i + 1 : Nat) : Int) ≤ ((List.length (α := Cl) cl : Nat) : Int); omega, by show List.length (α := Cl) cl ≤ _; omega⟩]
    simp only [Int.toNat_natCast]
    rfl
  refine Ev.step (fun k => impl_dropped.eq k cl (i : Int)) ?_
  rw [e1]
  exact Ev.bind hc (Ev.bind hd (Ev.now _))

def HidOk (rl : ByteArray) (w h : Int) (cs : ByteArray) (x y wy : Int) : Prop := SizeOk rl w h ∧ WorldOk rl w h cs x y wy ∧ x = 0 ∧ y = 0 ∧ wy = 0
section
variable (rl : ByteArray) (w h : Int) (cs : ByteArray) (x y wy : Int)
theorem pzHidden_ev : EvB (fun k => spec_pzHidden k (rl, w, h, cs, x, y, wy)) (HidOk rl w h cs x y wy) := by
  have H : EvB (fun k => spec_pzHidden k (rl, w, h, cs, x, y, wy)) (WorldOk rl w h cs x y wy ∧ (x = 0 ∧ (y = 0 ∧ (wy = 0 ∧ SizeOk rl w h)))) :=
    EvB.step (fun k => spec_pzHidden.eq k rl w h cs x y wy) (EvB.and (woGood_ev rl w h cs x y wy) fun _ => EvB.ifT beq_iff_eq fun _ => EvB.ifT beq_iff_eq fun _ => EvB.ifT beq_iff_eq fun _ => (pzSize_ev rl w h).ret)
  exact H.iff ⟨fun q => ⟨q.2.2.2.2, q.1, q.2.1, q.2.2.1, q.2.2.2.1⟩, fun q => ⟨q.2.1, q.2.2.1, q.2.2.2.1, q.2.2.2.2, q.1⟩⟩
theorem isHidden_ev (hrl : rl.size ≤ 9223372036854775807) (hc : cs.size ≤ 9223372036854775807) : EvB (fun k => impl_isHiddenWorld k (rl, w, h, cs, x, y, wy)) (HidOk rl w h cs x y wy) := by
  obtain ⟨n, b, c1, c2⟩ := countBoards_ev rl w h hrl
  cases b with
  | false => exact ⟨false, Ev.step (fun k => impl_isHiddenWorld.eq k rl w h cs x y wy) (Ev.bind c1 (Ev.yes rfl (Ev.now _))), ⟨nofun, fun q => by have := c2.2 q.1; cases this⟩⟩
  | true =>
    have body : EvB (fun k => (impl_IsWorld k (rl, w, h, cs, x, y, wy)).bind fun r2 => cond r2 ((impl_World_at k (rl, w, h, cs, x, y, wy)).bind fun r3 => cond (r3 == 0) (some (wy == 0)) (some false)) (some false)) (WorldOk rl w h cs x y wy ∧ (x = 0 ∧ y = 0) ∧ wy = 0) := by
      refine EvB.and (isWorld_ev rl w h cs x y wy hrl hc) fun hW => ?_
      obtain ⟨_, hw, hh, _, _, hx, hy, _⟩ := hW
      obtain ⟨a1, a2, a3, a4⟩ := at_range hx hy hw hh
      have hz : y * w + x = 0 ↔ x = 0 ∧ y = 0 := by
        constructor
        · intro e
          have e1 : x = 0 := by omega
          have e2 : y * w = 0 := by omega
          rcases Int.mul_eq_zero.1 e2 with e3 | e3
          · exact ⟨e1, e3⟩
          · omega
        · rintro ⟨rfl, rfl⟩
          simp
      obtain ⟨v, v1, v2⟩ := EvB.ifT (b := (y * w + x == 0)) (P := x = 0 ∧ y = 0) (h := fun _ => some (wy == 0)) (Q := wy = 0) (by rw [beq_iff_eq]; exact hz) fun _ => EvB.val beq_iff_eq
      exact ⟨v, Ev.bind (Ev.step (fun k => impl_World_at.eq k rl w h cs x y wy) (Ev.now' (at64 hx hy hw hh))) v1, v2⟩
    obtain ⟨v, v1, v2⟩ := body
    exact ⟨v, Ev.step (fun k => impl_isHiddenWorld.eq k rl w h cs x y wy) (Ev.bind c1 (Ev.no rfl v1)), v2.trans ⟨fun q => ⟨c2.1 rfl, q.1, q.2.1.1, q.2.1.2, q.2.2⟩, fun q => ⟨q.2.1, ⟨q.2.2.1, q.2.2.2.1⟩, q.2.2.2.2⟩⟩⟩
end

theorem filter_sub {α : Type} {p q : α → Bool} (h : ∀ x, p x = true → q x = true) : ∀ l : List α, (l.filter p).Sublist (l.filter q)
  | [] => List.Sublist.refl _
  | a :: l => by
    by_cases hp : p a = true
    · rw [List.filter_cons_of_pos hp, List.filter_cons_of_pos (h a hp)]
      exact (filter_sub h l).cons_cons a
    · rw [List.filter_cons_of_neg hp]
      by_cases hq : q a = true
      · rw [List.filter_cons_of_pos hq]
        exact (filter_sub h l).cons a
      · rw [List.filter_cons_of_neg hq]
        exact filter_sub h l
theorem solC_sub (rl : ByteArray) (w h : Int) {q p : List Cl} (hs : ∀ c ∈ p, c ∈ q) : (solC rl w h q).Sublist (solC rl w h p) :=
  filter_sub (fun x hx => keepC_iff.2 fun c hc => keepC_iff.1 hx c (hs c hc)) _
theorem mem_allD (t : Nat) (ht : t ≤ 9) : ∀ (n : Nat) (s : ByteArray), s.size = n → CellsOk (t : Int) s → s ∈ allD t n
  | 0, s, hs, _ => by
    have : s = ByteArray.empty := ba_ext (by
      have := size_list s
      rw [hs] at this
      exact (List.length_eq_zero_iff.1 this.symm))
    rw [this]
    exact List.mem_singleton.2 rfl
  | n + 1, s, hs, hc => by
    have hl := size_list s
    rw [hs] at hl
    obtain ⟨L, c, hL⟩ : ∃ L c, s.data.toList = L ++ [c] := by
      have hne : s.data.toList ≠ [] := by intro e; rw [e] at hl; simp at hl
      exact ⟨_, _, (List.dropLast_concat_getLast hne).symm⟩
    have hc1 := hc c (by rw [hL]; simp)
    have hb : bs L ++ ofBytes [48 + ((c.toNat - 48 : Nat) : Int)] = s := by
      apply ba_ext
      rw [digit_list _ _ (by have := c.toNat_lt; omega), hL]
      show L ++ [UInt8.ofNat (48 + (c.toNat - 48))] = L ++ [c]
      rw [show 48 + (c.toNat - 48) = c.toNat by omega]
      simp
    have hin : bs L ∈ allD t n := mem_allD t ht n (bs L) (by
      show L.length = n
      rw [hL] at hl
      simp at hl
      omega) (fun d hd => hc d (by rw [hL]; exact List.mem_append_left _ hd))
    show s ∈ (allD t n).flatMap (extD t)
    exact List.mem_flatMap.2 ⟨bs L, hin, mem_ext.2 ⟨c.toNat - 48, by omega, hb.symm⟩⟩
theorem sumD_range : ∀ l : List UInt8, (∀ c ∈ l, 48 ≤ c.toNat ∧ c.toNat ≤ 57) → 0 ≤ sumD l ∧ sumD l ≤ 9 * (l.length : Int)
  | [], _ => ⟨Int.le_refl _, Int.le_refl _⟩
  | c :: l, h => by
    have h1 := h c (by simp)
    have h2 := sumD_range l fun d hd => h d (List.mem_cons_of_mem _ hd)
    show 0 ≤ ((c.toNat : Int) - 48) + sumD l ∧ ((c.toNat : Int) - 48) + sumD l ≤ 9 * ((l.length + 1 : Nat) : Int)
    omega
/-! ### What a clue tells of a world some steps on -/
def zerosO (W : Wo) : Nat := W.2.2.2.1.data.toList.count 48
def placeO (W : Wo) : Int := W.2.2.2.2.2.1 * W.2.1 + W.2.2.2.2.1
theorem valueRun_l_ev (kind : Int) : ∀ (m : Nat) (W : Wo), OkO W → m ≤ 1000 → Ev (fun k => spec_pzValue_l k (kind, (m : Int), W, 0, 0)) (kind, 0, runO m W, 0, 0)
  | 0, (rl, w, h, cs, x, y, wy), H, hm => Ev.step (fun k => spec_pzValue_l.eq k kind 0 rl w h cs x y wy 0 0) (Ev.no rfl (Ev.now _))
  | m + 1, W, H, hm => by
    have s := (step_ev W H).2.1
    have ih := valueRun_l_ev kind m (stepO W) (step_ok W H) (by omega)
    obtain ⟨rl, w, h, cs, x, y, wy⟩ := W
    refine Ev.step (fun k => spec_pzValue_l.eq k kind ((m + 1 : Nat) : Int) rl w h cs x y wy 0 0) (Ev.yes (decide_eq_true (by omega)) (Ev.bind s ?_))
    rw [show w64 (((m + 1 : Nat) : Int) - 1) = (m : Int) by rw [w64_of (by omega) (by omega)]; omega]
    exact ih
theorem place_range {W : Wo} (H : OkO W) : 0 ≤ placeO W ∧ placeO W ≤ W.2.1 * W.2.2.1 - 1 ∧ w64 (w64 (W.2.2.2.2.2.1 * W.2.1) + W.2.2.2.2.1) = placeO W := by
  obtain ⟨rl, w, h, cs, x, y, wy⟩ := W
  obtain ⟨hR, hw, hh, hs, hcs, hx, hy, hwy⟩ := H
  obtain ⟨a1, a2, a3, a4⟩ := at_range hx hy hw hh
  simp only at a3 a4
  refine ⟨a3, ?_, at64 hx hy hw hh⟩
  show y * w + x ≤ w * h - 1
  omega
theorem valueRun_ev (W : Wo) (H : OkO W) (n : Nat) (hn : n ≤ 50) : Ev (fun k => spec_pzValue k (1, (n : Int), W)) (placeO (runO n W)) ∧ Ev (fun k => spec_pzValue k (2, (n : Int), W)) (runO n W).2.2.2.2.2.2 ∧ Ev (fun k => spec_pzValue k (3, (n : Int), W)) (zerosO (runO n W) : Int) := by
  have hr := fun kind => valueRun_l_ev kind n W H (by omega)
  have HR := run_ok n W H
  have pr := (place_range HR).2.2
  obtain ⟨rl, w, h, cs, x, y, wy⟩ := W
  have hsz := (okO_size HR).2
  obtain ⟨hR', _, _, hs', hcs', _⟩ := id HR
  have h9 := cells9 (by have := hR'.1; omega) hcs'
  unfold zerosO
  generalize runO n (rl, w, h, cs, x, y, wy) = V at *
  obtain ⟨rl', w', h', cs', x', y', wy'⟩ := V
  have sS := fun kind => sums_ev kind 0 rl' w' h' cs' x' y' wy' hsz h9 cs'.size 0 0 0 (by omega) (by omega) (by omega) (by omega) (by omega)
  rw [List.drop_zero, Int.zero_add, Int.zero_add] at sS
  refine ⟨?_, ?_, ?_⟩
  · refine Ev.step (fun k => spec_pzValue.eq k 1 (n : Int) rl w h cs x y wy) (Ev.yes rfl (Ev.yes rfl (Ev.bind (hr 1) (Ev.bind (sS 1) (Ev.no rfl (Ev.yes rfl (Ev.now' ?_)))))))
    exact pr
  · exact Ev.step (fun k => spec_pzValue.eq k 2 (n : Int) rl w h cs x y wy) (Ev.yes rfl (Ev.yes rfl (Ev.bind (hr 2) (Ev.bind (sS 2) (Ev.no rfl (Ev.no rfl (Ev.yes rfl (Ev.now _))))))))
  · exact Ev.step (fun k => spec_pzValue.eq k 3 (n : Int) rl w h cs x y wy) (Ev.yes rfl (Ev.yes rfl (Ev.bind (hr 3) (Ev.bind (sS 3) (Ev.no rfl (Ev.no rfl (Ev.no rfl (Ev.yes rfl (Ev.now _)))))))))
theorem run_same : ∀ (n : Nat) (W : Wo), (runO n W).1 = W.1 ∧ (runO n W).2.1 = W.2.1 ∧ (runO n W).2.2.1 = W.2.2.1
  | 0, W => ⟨rfl, rfl, rfl⟩
  | n + 1, W => by
    obtain ⟨a, b, c⟩ := run_same n (stepO W)
    obtain ⟨rl, w, h, cs, x, y, wy⟩ := W
    exact ⟨a, b, c⟩
theorem zeros_range {W : Wo} (H : OkO W) : (zerosO W : Int) ≤ W.2.1 * W.2.2.1 := by
  obtain ⟨_, _, _, hs, _⟩ := H
  have := List.count_le_length (a := (48 : UInt8)) (l := W.2.2.2.1.data.toList)
  rw [← size_list] at this
  unfold zerosO
  omega
/-- The number that a clue tells lies in its bounds. -/
theorem value_range (W : Wo) (H : OkO W) (h9 : W.2.1 * W.2.2.1 ≤ 9) (kd a v : Int) (hv : Ev (fun k => spec_pzValue k (kd, a, W)) v) :
    ((kd = 0 ∧ 0 ≤ a ∧ a < (W.2.2.2.1.size : Int)) ∨ ((kd = 1 ∨ kd = 2 ∨ kd = 3) ∧ 0 ≤ a ∧ a ≤ 50) → ClueOk W.1 (W.2.1 * W.2.2.1) (kd, a, v) ∧ Fit (kd, a, v) W) ∧ (kd = 4 ∧ a = 0 → ClueOk W.1 (W.2.1 * W.2.2.1) (4, v, 0) ∧ Fit (4, v, 0) W) := by
  have fit : (kd == 4) = false → Fit (kd, a, v) W := fun hk => by
    obtain ⟨rl, w, h, cs, x, y, wy⟩ := W
    exact Ev.step (fun k => spec_pzFits.eq k kd a v rl w h cs x y wy) (Ev.no hk (Ev.bind hv (Ev.now' (beq_iff_eq.2 rfl))))
  constructor
  · intro hk
    have hk4 : (kd == 4) = false := by rw [beq_eq_false_iff_ne]; omega
    refine ⟨?_, fit hk4⟩
    rcases hk with ⟨rfl, a0, a1⟩ | ⟨hk, a0, a1⟩
    · obtain ⟨rl, w, h, cs, x, y, wy⟩ := W
      obtain ⟨hR, hw, hh, hs, hcs, hx, hy, hwy⟩ := H
      simp only at a1 h9 hs
      have hsz : cs.size ≤ 81 := by omega
      have c9 := cells9 (by have := hR.1; omega) hcs
      have sS := sums_ev 0 a rl w h cs x y wy hsz c9 cs.size 0 0 0 (by omega) (by omega) (by omega) (by omega) (by omega)
      have hB : inB a cs.size = true := inB_of a0 a1
      obtain ⟨c, hc⟩ := byte_at (cs := cs) (i := a.toNat) (by omega)
      obtain ⟨c48, cti⟩ := hcs c (List.mem_of_getElem? hc)
      have hv' : Ev (fun k => spec_pzValue k (0, a, (rl, w, h, cs, x, y, wy))) ((c.toNat : Int) - 48) := Ev.step (fun k => spec_pzValue.eq k 0 a rl w h cs x y wy) (Ev.no rfl (Ev.bind sS (Ev.yes rfl (Ev.yes hB (Ev.now' (by
        rw [bt_at hc, w8_of (by omega) (by have := hR.1; omega), w64_of (by omega) (by have := hR.1; omega)]))))))
      obtain rfl := Ev.one hv hv'
      refine .inl ⟨rfl, ⟨a0, ?_⟩, ?_, ?_⟩
      · show a ≤ w * h - 1
        omega
      · show 0 ≤ (c.toNat : Int) - 48
        omega
      · show (c.toNat : Int) - 48 ≤ (rl.size : Int) - 1
        have cti : (c.toNat : Int) ≤ 47 + (rl.size : Int) := cti
        omega
    · obtain ⟨n, rfl⟩ := Int.eq_ofNat_of_zero_le a0
      obtain ⟨v1, v2, v3⟩ := valueRun_ev W H n (by omega)
      have HR := run_ok n W H
      obtain ⟨s1, s2, s3⟩ := run_same n W
      rcases hk with rfl | rfl | rfl
      · obtain rfl := Ev.one hv v1
        obtain ⟨p1, p2, _⟩ := place_range HR
        rw [s2, s3] at p2
        exact .inr (.inl ⟨rfl, ⟨a0, a1⟩, p1, p2⟩)
      · obtain rfl := Ev.one hv v2
        have := HR.2.2.2.2.2.2.2
        exact .inr (.inr (.inl ⟨rfl, ⟨a0, a1⟩, this⟩))
      · obtain rfl := Ev.one hv v3
        have := zeros_range HR
        rw [s2, s3] at this
        exact .inr (.inr (.inr (.inl ⟨rfl, ⟨a0, a1⟩, by show (0 : Int) ≤ (_ : Nat); omega, this⟩)))
  · rintro ⟨rfl, rfl⟩
    obtain ⟨rl, w, h, cs, x, y, wy⟩ := W
    refine ⟨?_, Ev.step (fun k => spec_pzFits.eq k 4 v 0 rl w h cs x y wy) (Ev.yes rfl (Ev.bind hv (Ev.now' (beq_iff_eq.2 rfl))))⟩
    obtain ⟨hR, hw, hh, hs, hcs, hx, hy, hwy⟩ := H
    simp only at h9 hs
    have hsz : cs.size ≤ 81 := by omega
    have c9 := cells9 (by have := hR.1; omega) hcs
    have sS := sums_ev 4 0 rl w h cs x y wy hsz c9 cs.size 0 0 0 (by omega) (by omega) (by omega) (by omega) (by omega)
    rw [List.drop_zero, Int.zero_add, Int.zero_add] at sS
    have hv' : Ev (fun k => spec_pzValue k (4, 0, (rl, w, h, cs, x, y, wy))) (sumD cs.data.toList) := Ev.step (fun k => spec_pzValue.eq k 4 0 rl w h cs x y wy) (Ev.yes rfl (Ev.no rfl (Ev.bind sS (Ev.no rfl (Ev.no rfl (Ev.no rfl (Ev.no rfl (Ev.now _))))))))
    obtain rfl := Ev.one hv hv'
    obtain ⟨r1, r2⟩ := sumD_range cs.data.toList fun c hc => by
      have := hcs c hc
      have := hR.1
      omega
    rw [← size_list] at r2
    exact .inr (.inr (.inr (.inr ⟨rfl, ⟨r1, by show sumD cs.data.toList ≤ 100; omega⟩, rfl⟩)))
/-! ### The first count of colours -/
end Go.Proofs.YtplamonjnlgomaaGreatDoorS
