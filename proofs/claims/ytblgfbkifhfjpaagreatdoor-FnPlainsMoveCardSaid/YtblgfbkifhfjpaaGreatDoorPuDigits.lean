/- All texts of so many digits, told twice: in breadth and in depth; rules. -/
import Derived.Test.YtblgfbkifhfjpaaGreatDoorPuBase
namespace Go.Proofs.YtblgfbkifhfjpaaGreatDoorS
open Go
set_option linter.unusedVariables false
set_option linter.unusedSimpArgs false

def extD (t : Nat) (s : ByteArray) : List ByteArray := (List.range t).map fun c : Nat => s ++ ofBytes [48 + (c : Int)]
def allD (t : Nat) : Nat → List ByteArray
  | 0 => [ByteArray.empty]
  | n + 1 => (allD t n).flatMap (extD t)
def lookD (t : Nat) : Nat → ByteArray → List ByteArray
  | 0, s => [s]
  | n + 1, s => (extD t s).flatMap (lookD t n)
theorem look_all (t : Nat) : ∀ (m k : Nat), (allD t k).flatMap (lookD t m) = allD t (k + m)
  | 0, k => by
    have : lookD t 0 = fun s => [s] := rfl
    rw [this, List.flatMap_singleton']
    rfl
  | m + 1, k => by
    have h := look_all t m (k + 1)
    rw [show k + (m + 1) = k + 1 + m by omega, ← h]
    show (allD t k).flatMap (fun s => (extD t s).flatMap (lookD t m)) = ((allD t k).flatMap (extD t)).flatMap (lookD t m)
    rw [List.flatMap_assoc]
theorem look_empty (t n : Nat) : lookD t n ByteArray.empty = allD t n := by
  have := look_all t n 0
  rw [Nat.zero_add] at this
  rw [← this]
  show _ = [ByteArray.empty].flatMap (lookD t n)
  simp
theorem digit_size (s : ByteArray) (c : Int) : (s ++ ofBytes [c]).size = s.size + 1 := by rw [ByteArray.size_append]; rfl
theorem digit_list (s : ByteArray) (c : Nat) (hc : c < 200) : (s ++ ofBytes [48 + (c : Int)]).data.toList = s.data.toList ++ [UInt8.ofNat (48 + c)] := by
  rw [append_list]
  show _ ++ [UInt8.ofNat (Int.toNat (48 + (c : Int)))] = _
  rw [show Int.toNat (48 + (c : Int)) = 48 + c by omega]
theorem cells_digit {t : Nat} {s : ByteArray} (h : CellsOk t s) {c : Nat} (hc : c < t) (ht : t ≤ 9) : CellsOk t (s ++ ofBytes [48 + (c : Int)]) := by
  intro b hb
  rw [digit_list s c (by omega)] at hb
  rcases List.mem_append.1 hb with hb | hb
  · exact h b hb
  · obtain rfl : b = UInt8.ofNat (48 + c) := by simpa using hb
    rw [toNat_ofNat8 (by omega)]
    omega
theorem mem_ext {t : Nat} {s x : ByteArray} : x ∈ extD t s ↔ ∃ c : Nat, c < t ∧ x = s ++ ofBytes [48 + (c : Int)] := by
  unfold extD
  rw [List.mem_map]
  constructor
  · rintro ⟨c, hc, rfl⟩; exact ⟨c, List.mem_range.1 hc, rfl⟩
  · rintro ⟨c, hc, rfl⟩; exact ⟨c, List.mem_range.2 hc, rfl⟩
theorem allD_ok {t : Nat} (ht : t ≤ 9) : ∀ (n : Nat) (s : ByteArray), s ∈ allD t n → s.size = n ∧ CellsOk t s
  | 0, s, h => by
    obtain rfl : s = ByteArray.empty := by simpa [allD] using h
    exact ⟨rfl, fun c hc => by cases hc⟩
  | n + 1, s, h => by
    obtain ⟨p, hp, hs⟩ := List.mem_flatMap.1 (show s ∈ (allD t n).flatMap (extD t) from h)
    obtain ⟨h1, h2⟩ := allD_ok ht n p hp
    obtain ⟨c, hc, rfl⟩ := mem_ext.1 hs
    exact ⟨by rw [digit_size, h1], cells_digit h2 hc ht⟩
theorem ext_len (t : Nat) (s : ByteArray) : (extD t s).length = t := by simp [extD]
theorem allD_len (t : Nat) : ∀ n, (allD t n).length = t ^ n
  | 0 => rfl
  | n + 1 => by
    show ((allD t n).flatMap (extD t)).length = _
    rw [List.length_flatMap]
    have : (allD t n).map (fun a => (extD t a).length) = List.replicate (allD t n).length t := by
      rw [List.eq_replicate_iff]
      refine ⟨by simp, fun b hb => ?_⟩
      obtain ⟨a, _, rfl⟩ := List.mem_map.1 hb
      exact ext_len t a
    rw [this, List.sum_replicate_nat, allD_len t n, Nat.pow_succ]
theorem pow_le_pow {t k n : Nat} (ht : 1 ≤ t) (h : k ≤ n) : t ^ k ≤ t ^ n := Nat.pow_le_pow_right ht h
/-! ### Rules -/
def SignC (c : UInt8) : Prop := c = 76 ∨ c = 82 ∨ c = 78 ∨ c = 85
def RuleOk (s : ByteArray) : Prop := (1 ≤ s.size ∧ s.size ≤ 6) ∧ ∀ c ∈ s.data.toList, SignC c
theorem woRuleR_ev (s : ByteArray) : EvB (fun k => spec_woRule k s) (RuleOk s) := by
  refine EvB.step (fun k => spec_woRule.eq k s) ?_
  have h1 : EvB (fun k => spec_l1In k ((s.size : Int), 1, 6)) (1 ≤ s.size ∧ s.size ≤ 6) := (l1In_ev _ _ _).iff (by omega)
  refine EvB.and' h1 fun hs => ?_
  have q : ∀ (c : UInt8) (n : Nat), n < 256 → (c = UInt8.ofNat n → ((c.toNat : Int) == (n : Int)) = true) ∧ (¬ c = UInt8.ofNat n → ((c.toNat : Int) == (n : Int)) = false) := fun c n hn => by
    refine ⟨(u8_eq hn).2, fun hc => ?_⟩
    cases hx : ((c.toNat : Int) == (n : Int)) with
    | false => rfl
    | true => exact absurd ((u8_eq hn).1 hx) hc
  have step : ∀ (i : Nat) (c : UInt8), s.data.toList[i]? = some c → ∀ r, Ev (fun k => cond ((c.toNat : Int) == 76) (spec_woRule_l k (s, w64 ((i : Int) + 1))) (cond ((c.toNat : Int) == 82) (spec_woRule_l k (s, w64 ((i : Int) + 1))) (cond ((c.toNat : Int) == 78) (spec_woRule_l k (s, w64 ((i : Int) + 1))) (cond ((c.toNat : Int) == 85) (spec_woRule_l k (s, w64 ((i : Int) + 1))) (some (.inl false)))))) r → Ev (fun k => spec_woRule_l k (s, (i : Int))) r := fun i c hx r H => by
    have hi : i < s.size := by rw [size_list]; exact (List.getElem?_eq_some_iff.1 hx).1
    exact Ev.step (fun k => spec_woRule_l.eq k s (i : Int)) (Ev.yes (lt_nat hi) (Ev.yes (inB_nat hi) (by rw [Int.toNat_natCast, bt_at hx]; exact H)))
  have srch := Ev.search (L := fun k i => spec_woRule_l k (s, i)) (n := s.size) (fun i => ∃ c, s.data.toList[i]? = some c ∧ ¬ SignC c) (fun i => .inl false) (.inr ())
    (fun i hi hp r H => by
      obtain ⟨c, hx⟩ := byte_at hi
      have hr : SignC c := Classical.byContradiction fun hn => hp ⟨c, hx, hn⟩
      have H' : Ev (fun k => spec_woRule_l k (s, w64 ((i : Int) + 1))) r := by rw [w64_succ (by omega)]; exact H
      refine step i c hx r ?_
      by_cases h1 : c = 76
      · exact Ev.yes ((q c 76 (by omega)).1 h1) H'
      · by_cases h2 : c = 82
        · exact Ev.no ((q c 76 (by omega)).2 h1) (Ev.yes ((q c 82 (by omega)).1 h2) H')
        · by_cases h3 : c = 78
          · exact Ev.no ((q c 76 (by omega)).2 h1) (Ev.no ((q c 82 (by omega)).2 h2) (Ev.yes ((q c 78 (by omega)).1 h3) H'))
          · have h4 : c = 85 := by
              rcases hr with h | h | h | h
              · exact absurd h h1
              · exact absurd h h2
              · exact absurd h h3
              · exact h
            exact Ev.no ((q c 76 (by omega)).2 h1) (Ev.no ((q c 82 (by omega)).2 h2) (Ev.no ((q c 78 (by omega)).2 h3) (Ev.yes ((q c 85 (by omega)).1 h4) H'))))
    (fun i hi hp => by
      obtain ⟨c, hx, hn⟩ := hp
      exact step i c hx _ (Ev.no ((q c 76 (by omega)).2 fun h => hn (.inl h)) (Ev.no ((q c 82 (by omega)).2 fun h => hn (.inr (.inl h))) (Ev.no ((q c 78 (by omega)).2 fun h => hn (.inr (.inr (.inl h)))) (Ev.no ((q c 85 (by omega)).2 fun h => hn (.inr (.inr (.inr h)))) (Ev.now _))))))
    (Ev.step (fun k => spec_woRule_l.eq k s (s.size : Int)) (Ev.no (not_lt_nat (Nat.lt_irrefl _)) (Ev.now _))) s.size 0 (by omega)
  rcases srch with ⟨h1, h2⟩ | ⟨j, _, hj, ⟨c, hx, hn⟩, _, h2⟩
  · refine ⟨true, Ev.bind h2 (Ev.now _), ⟨fun _ c hm => ?_, fun _ => rfl⟩⟩
    obtain ⟨i, hi⟩ := List.mem_iff_getElem?.1 hm
    exact Classical.byContradiction fun hn => h1 i (Nat.zero_le _) (by rw [size_list]; exact (List.getElem?_eq_some_iff.1 hi).1) ⟨c, hi, hn⟩
  · exact ⟨false, Ev.bind h2 (Ev.now _), ⟨nofun, fun h => absurd (h c (List.mem_of_getElem? hx)) hn⟩⟩
theorem dropWhile_nil {α : Type} (p : α → Bool) : ∀ l : List α, l.dropWhile p = [] ↔ l.all p = true
  | [] => by simp
  | x :: l => by
    by_cases h : p x = true
    · simp [List.dropWhile_cons, h, dropWhile_nil p l]
    · simp [List.dropWhile_cons, h]
theorem all_dropWhile {α : Type} (p : α → Bool) : ∀ l : List α, (l.dropWhile p).all p = true ↔ l.all p = true
  | [] => by simp
  | x :: l => by
    by_cases h : p x = true
    · simp [List.dropWhile_cons, h, all_dropWhile p l]
    · simp [List.dropWhile_cons, h]
theorem trimS_nil (l cs : List UInt8) : Lib.trimS l cs = [] ↔ l.all (fun c => cs.contains c) = true := by
  unfold Lib.trimS Lib.trimLeftS Lib.trimRightS
  rw [dropWhile_nil, List.all_reverse, all_dropWhile, List.all_reverse]
theorem isRuleR_ev (s : ByteArray) (hs : s.size ≤ 9223372036854775807) : EvB (fun k => impl_IsRule k s) (RuleOk s) := by
  have h1 : EvB (fun k => impl_within k ((s.size : Int), 1, 6)) (1 ≤ s.size ∧ s.size ≤ 6) := (within_ev _ _ _).iff (by omega)
  refine EvB.step (fun k => impl_IsRule.eq k s) (EvB.and h1 fun _ => ?_)
  have ht : strTrim s (bs [76, 82, 78, 85]) = some ⟨(Lib.trimS s.data.toList [76, 82, 78, 85]).toArray⟩ := if_pos ⟨hs, by decide, by decide⟩
  refine ⟨_, Ev.bind (Ev.step (fun k => (strings_Trim.eq k (s, bs [76, 82, 78, 85])).trans ht) (Ev.now _)) (Ev.now _), ?_⟩
  rw [strEq_iff]
  have e1 : (⟨(Lib.trimS s.data.toList [76, 82, 78, 85]).toArray⟩ : ByteArray) = ByteArray.empty ↔ Lib.trimS s.data.toList [76, 82, 78, 85] = [] := by
    constructor
    · intro h
      have := congrArg (fun b : ByteArray => b.data.toList) h
      simpa using this
    · intro h
      rw [h]
      rfl
  rw [e1, trimS_nil, List.all_eq_true]
  constructor
  · intro h c hc
    have := h c hc
    simp at this
    unfold SignC
    exact this
  · intro h c hc
    have := h c hc
    unfold SignC at this
    simp
    exact this
end Go.Proofs.YtblgfbkifhfjpaaGreatDoorS
