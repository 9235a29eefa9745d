/- Several texts in one: PuDigits, PuText, PuParse, PuFields. -/
import Derived.Test.YtcmebphcoamohaaGreatDoorPuBase
import Derived.Test.YtcmebphcoamohaaGreatDoorSimFt
import Derived.Lib.SplitLaws
import Derived.Lib.AtoiTie
import Derived.Lib.Join
import Derived.Lib.ItoaNum
import Derived.Lib.ItoaMem
import Derived.Lib.RuneCount
import Derived.Laws.RangeString
namespace Go.Proofs.YtcmebphcoamohaaGreatDoorS
open Go
set_option linter.unusedVariables false
set_option linter.unusedSimpArgs false

def extD (t : Nat) (s : ByteArray) : List ByteArray := (List.range t).map fun c : Nat => s ++ ofBytes [48 + (c : Int)]
def allD (t : Nat) : Nat → List ByteArray
  | 0 => [ByteArray.empty]
  | n + 1 => (allD t n).flatMap (extD t)
def lookD (t : Nat) : Nat → ByteArray → List ByteArray
  | 0, s => [s]
  | n + 1, s => (extD t s).flatMap (lookD t n)
theorem look_all (t : Nat) : ∀ (m k : Nat), (allD t k).flatMap (lookD t m) = allD t (k + m)
  | 0, k => by
    have : lookD t 0 = fun s => [s] := rfl
    rw [this, List.flatMap_singleton']
    rfl
  | m + 1, k => by
    have h := look_all t m (k + 1)
    rw [show k + (m + 1) = k + 1 + m by omega, ← h]
    show (allD t k).flatMap (fun s => (extD t s).flatMap (lookD t m)) = ((allD t k).flatMap (extD t)).flatMap (lookD t m)
    rw [List.flatMap_assoc]
theorem look_empty (t n : Nat) : lookD t n ByteArray.empty = allD t n := by
  have := look_all t n 0
  rw [Nat.zero_add] at this
  rw [← this]
  show _ = [ByteArray.empty].flatMap (lookD t n)
  simp
theorem digit_size (s : ByteArray) (c : Int) : (s ++ ofBytes [c]).size = s.size + 1 := by rw [ByteArray.size_append]; rfl
theorem digit_list (s : ByteArray) (c : Nat) (hc : c < 200) : (s ++ ofBytes [48 + (c : Int)]).data.toList = s.data.toList ++ [UInt8.ofNat (48 + c)] := by
  rw [append_list]
  show _ ++ [UInt8.ofNat (Int.toNat (48 + (c : Int)))] = _
  rw [show Int.toNat (48 + (c : Int)) = 48 + c by omega]
theorem cells_digit {t : Nat} {s : ByteArray} (h : CellsOk t s) {c : Nat} (hc : c < t) (ht : t ≤ 9) : CellsOk t (s ++ ofBytes [48 + (c : Int)]) := by
  intro b hb
  rw [digit_list s c (by omega)] at hb
  rcases List.mem_append.1 hb with hb | hb
  · exact h b hb
  · obtain rfl : b = UInt8.ofNat (48 + c) := by simpa using hb
    rw [toNat_ofNat8 (by omega)]
    omega
theorem mem_ext {t : Nat} {s x : ByteArray} : x ∈ extD t s ↔ ∃ c : Nat, c < t ∧ x = s ++ ofBytes [48 + (c : Int)] := by
  unfold extD
  rw [List.mem_map]
  constructor
  · rintro ⟨c, hc, rfl⟩; exact ⟨c, List.mem_range.1 hc, rfl⟩
  · rintro ⟨c, hc, rfl⟩; exact ⟨c, List.mem_range.2 hc, rfl⟩
theorem allD_ok {t : Nat} (ht : t ≤ 9) : ∀ (n : Nat) (s : ByteArray), s ∈ allD t n → s.size = n ∧ CellsOk t s
  | 0, s, h => by
    obtain rfl : s = ByteArray.empty := by simpa [allD] using h
    exact ⟨rfl, fun c hc => by cases hc⟩
  | n + 1, s, h => by
    obtain ⟨p, hp, hs⟩ := List.mem_flatMap.1 (show s ∈ (allD t n).flatMap (extD t) from h)
    obtain ⟨h1, h2⟩ := allD_ok ht n p hp
    obtain ⟨c, hc, rfl⟩ := mem_ext.1 hs
    exact ⟨by rw [digit_size, h1], cells_digit h2 hc ht⟩
theorem ext_len (t : Nat) (s : ByteArray) : (extD t s).length = t := by simp [extD]
theorem allD_len (t : Nat) : ∀ n, (allD t n).length = t ^ n
  | 0 => rfl
  | n + 1 => by
    show ((allD t n).flatMap (extD t)).length = _
    rw [List.length_flatMap]
    have : (allD t n).map (fun a => (extD t a).length) = List.replicate (allD t n).length t := by
      rw [List.eq_replicate_iff]
      refine ⟨by simp, fun b hb => ?_⟩
      obtain ⟨a, _, rfl⟩ := List.mem_map.1 hb
      exact ext_len t a
    rw [this, List.sum_replicate_nat, allD_len t n, Nat.pow_succ]
theorem pow_le_pow {t k n : Nat} (ht : 1 ≤ t) (h : k ≤ n) : t ^ k ≤ t ^ n := Nat.pow_le_pow_right ht h
/-! ### Rules -/
def SignC (c : UInt8) : Prop := c = 76 ∨ c = 82 ∨ c = 78 ∨ c = 85
def RuleOk (s : ByteArray) : Prop := (1 ≤ s.size ∧ s.size ≤ 6) ∧ ∀ c ∈ s.data.toList, SignC c
theorem dropWhile_nil {α : Type} (p : α → Bool) : ∀ l : List α, l.dropWhile p = [] ↔ l.all p = true
  | [] => by simp
  | x :: l => by
    by_cases h : p x = true
    · simp [List.dropWhile_cons, h, dropWhile_nil p l]
    · simp [List.dropWhile_cons, h]
theorem all_dropWhile {α : Type} (p : α → Bool) : ∀ l : List α, (l.dropWhile p).all p = true ↔ l.all p = true
  | [] => by simp
  | x :: l => by
    by_cases h : p x = true
    · simp [List.dropWhile_cons, h, all_dropWhile p l]
    · simp [List.dropWhile_cons, h]
theorem trimS_nil (l cs : List UInt8) : Lib.trimS l cs = [] ↔ l.all (fun c => cs.contains c) = true := by
  unfold Lib.trimS Lib.trimLeftS Lib.trimRightS
  rw [dropWhile_nil, List.all_reverse, all_dropWhile, List.all_reverse]

def decS (n : Nat) : ByteArray := ⟨(Lib.decDigits n).toArray⟩
theorem decS_list (n : Nat) : (decS n).data.toList = Lib.decDigits n := rfl
theorem dec_small {n : Nat} (h : n < 10) : Lib.decDigits n = [UInt8.ofNat (48 + n)] := by rw [Lib.decDigits, dif_pos h]
theorem dec_more {n : Nat} (h : ¬ n < 10) : Lib.decDigits n = Lib.decDigits (n / 10) ++ [UInt8.ofNat (48 + n % 10)] := by rw [Lib.decDigits, dif_neg h]
theorem dec_len : ∀ (k n : Nat), n < 10 ^ (k + 1) → 1 ≤ (Lib.decDigits n).length ∧ (Lib.decDigits n).length ≤ k + 1
  | 0, n, h => by rw [dec_small (by simpa using h)]; simp
  | k + 1, n, h => by
    by_cases hn : n < 10
    · rw [dec_small hn]; simp
    · rw [dec_more hn]
      have := dec_len k (n / 10) (by rw [Nat.pow_succ] at h; omega)
      simp
      omega
theorem decS_size {n : Nat} (h : n ≤ 999999999) : 1 ≤ (decS n).size ∧ (decS n).size ≤ 9 := by
  have := dec_len 8 n (by omega)
  rw [size_list, decS_list]
  exact this
def stp (a : Nat) (c : UInt8) : Nat := a * 10 + (c.toNat - 48)
theorem stp_eq (a : Nat) (c : UInt8) : stp a c = a * 10 + (c.toNat - 48) := by unfold stp; rfl
def valF (a : Nat) (l : List UInt8) : Nat := l.foldl stp a
theorem valF_append (l m : List UInt8) (a : Nat) : valF a (l ++ m) = valF (valF a l) m := List.foldl_append
theorem valF_cons (a : Nat) (c : UInt8) (l : List UInt8) : valF a (c :: l) = valF (stp a c) l := List.foldl_cons ..
theorem valF_one (a : Nat) (c : UInt8) : valF a [c] = a * 10 + (c.toNat - 48) := by rw [valF_cons, ← stp_eq]; rfl
def Digs (l : List UInt8) : Prop := ∀ c ∈ l, 48 ≤ c.toNat ∧ c.toNat ≤ 57
theorem digit_of {d : Nat} (h : d < 10) : (UInt8.ofNat (48 + d)).toNat = 48 + d := toNat_ofNat8 (by omega)
theorem dec_canon : ∀ n : Nat, Digs (Lib.decDigits n) ∧ valF 0 (Lib.decDigits n) = n ∧ (1 ≤ n → ∀ c, (Lib.decDigits n).head? = some c → c.toNat ≠ 48) := by
  intro n
  induction n using Nat.strongRecOn with
  | ind n ih =>
    by_cases hn : n < 10
    · rw [dec_small hn]
      refine ⟨fun c hc => ?_, ?_, fun h1 c hc => ?_⟩
      · obtain rfl : c = _ := List.mem_singleton.1 hc
        rw [digit_of hn]; omega
      · rw [valF_one, digit_of hn]; omega
      · obtain rfl : _ = c := Option.some.inj hc
        rw [digit_of hn]; omega
    · obtain ⟨h1, h2, h3⟩ := ih (n / 10) (by omega)
      have hd : n % 10 < 10 := by omega
      rw [dec_more hn]
      refine ⟨fun c hc => ?_, ?_, fun _ c hc => ?_⟩
      · rcases List.mem_append.1 hc with hc | hc
        · exact h1 c hc
        · obtain rfl : c = _ := List.mem_singleton.1 hc
          rw [digit_of hd]; omega
      · rw [valF_append, h2]
        rw [valF_one, digit_of hd]; omega
      · refine h3 (by omega) c ?_
        have hl := (dec_len (n / 10) (n / 10) (Nat.lt_of_lt_of_le (Nat.lt_pow_self (by omega)) (Nat.pow_le_pow_right (by omega) (Nat.le_succ _)))).1
        cases hx : Lib.decDigits (n / 10) with
        | nil => rw [hx] at hl; simp at hl
        | cons a r => rw [hx] at hc; simpa using hc
theorem val_dec : ∀ (k : Nat) (l : List UInt8), l.length = k → l ≠ [] → Digs l → (2 ≤ l.length → ∀ c, l.head? = some c → c.toNat ≠ 48) → Lib.decDigits (valF 0 l) = l := by
  intro k
  induction k with
  | zero => intro l h hne; exact absurd (List.eq_nil_of_length_eq_zero h) hne
  | succ k ih =>
    intro l h hne hd h0
    obtain ⟨m, c, rfl⟩ : ∃ m c, l = m ++ [c] := ⟨l.dropLast, l.getLast hne, (List.dropLast_concat_getLast hne).symm⟩
    have hc := hd c (by simp)
    have hb : UInt8.ofNat (48 + (c.toNat - 48)) = c := by
      apply UInt8.toNat_inj.1
      rw [digit_of (by omega)]; omega
    rw [valF_append, valF_one]
    by_cases hm : m = []
    · subst hm
      rw [List.nil_append]
      have e0 : valF 0 [] * 10 + (c.toNat - 48) = c.toNat - 48 := by
        have : valF 0 [] = 0 := rfl
        omega
      rw [e0, dec_small (by omega), hb]
    · have hlm : m.length = k := by simpa using h
      have h2 : 2 ≤ (m ++ [c]).length := by
        cases m with
        | nil => exact absurd rfl hm
        | cons a r => simp
      have hhd : ∀ a, m.head? = some a → a.toNat ≠ 48 := fun a ha => h0 h2 a (by
        cases m with
        | nil => exact absurd rfl hm
        | cons b r => simpa using ha)
      have e := ih m hlm hm (fun a ha => hd a (List.mem_append_left _ ha)) fun _ => hhd
      have hv : 1 ≤ valF 0 m := by
        by_cases hv : valF 0 m = 0
        · rw [hv, dec_small (by omega)] at e
          exact absurd rfl (hhd (UInt8.ofNat (48 + 0)) (by rw [← e]; rfl))
        · omega
      rw [dec_more (by omega), show (valF 0 m * 10 + (c.toNat - 48)) / 10 = valF 0 m by omega, show (valF 0 m * 10 + (c.toNat - 48)) % 10 = c.toNat - 48 by omega, e, hb]
theorem dec_inj {a b : Nat} (h : Lib.decDigits a = Lib.decDigits b) : a = b := by
  have h1 := (dec_canon a).2.1
  rw [h, (dec_canon b).2.1] at h1
  exact h1.symm
theorem decFrom_cons (a : Nat) (c : UInt8) (l : List UInt8) (h : 48 ≤ c.toNat ∧ c.toNat ≤ 57) : Lib.decFrom a (c :: l) = Lib.decFrom (a * 10 + (c.toNat - 48)) l := by
  have e : Lib.digitVal c = some (c.toNat - 48) := by
    unfold Lib.digitVal
    rw [if_pos h]
  generalize c.toNat - 48 = d at e
  show (match Lib.digitVal c with | some d => Lib.decFrom (a * 10 + d) l | none => none) = _
  rw [e]
theorem decFrom_val (l : List UInt8) : ∀ a : Nat, Digs l → Lib.decFrom a l = some (valF a l) := by
  induction l with
  | nil => intro a _; rfl
  | cons c l ih =>
    intro a h
    rw [decFrom_cons a c l (h c List.mem_cons_self), valF_cons, stp_eq]
    exact ih _ fun x hx => h x (List.mem_cons_of_mem _ hx)
theorem atoi_dec {n : Nat} (h : n ≤ 999999999) : Lib.atoiAll (Lib.decDigits n) = .ok (n : Int) := by
  obtain ⟨h1, h2⟩ := dec_len 8 n (by omega)
  obtain ⟨c1, c2, _⟩ := dec_canon n
  rw [Lib.atoiAll_short _ (by omega)]
  generalize Lib.decDigits n = l at h1 c1 c2
  cases l with
  | nil => simp at h1
  | cons c r =>
    have hc := c1 c (by simp)
    have e1 : Lib.atoi (c :: r) = (Lib.decNat (c :: r)).map fun (m : Nat) => (m : Int) := by
      simp only [Lib.atoi]
      have n45 : ¬ (c == 45) = true := fun e => by rw [beq_iff_eq.1 e] at hc; exact absurd hc.1 (by decide)
      have n43 : ¬ (c == 43) = true := fun e => by rw [beq_iff_eq.1 e] at hc; exact absurd hc.1 (by decide)
      rw [if_neg n45, if_neg n43]
    have e2 : Lib.decNat (c :: r) = some n := by
      unfold Lib.decNat
      rw [decFrom_val _ _ c1, c2]
      rfl
    rw [e1, e2]
    rfl
/-- A number of a text: the two ways. -/
theorem numB_dec (s : ByteArray) (most : Int) (h : s.size ≤ 281474976710656) (hm : most ≤ 999999999) : (∃ n : Nat, (n : Int) ≤ most ∧ s = decS n ∧ numB s most = some ((n : Int), true)) ∨ ((∀ n : Nat, (n : Int) ≤ most → s ≠ decS n) ∧ numB s most = some (0, false)) := by
  have no : ∀ v, (∀ n : Nat, (n : Int) ≤ most → s = decS n → Lib.atoiAll s.data.toList = .ok v → False) → (∀ n : Nat, (n : Int) ≤ most → Lib.atoiAll s.data.toList ≠ .ok v → True) := fun _ _ _ _ _ => trivial
  have key : ∀ n : Nat, (n : Int) ≤ most → s = decS n → Lib.atoiAll s.data.toList = .ok (n : Int) := fun n hn e => by
    rw [e, decS_list]
    exact atoi_dec (by omega)
  unfold numB
  rw [if_pos h]
  cases ha : Lib.atoiAll s.data.toList with
  | ok v =>
    simp only
    by_cases hc : Lib.itoa v = s.data.toList ∧ 0 ≤ v ∧ v ≤ most
    · obtain ⟨c1, c2, c3⟩ := hc
      obtain ⟨n, rfl⟩ := Int.eq_ofNat_of_zero_le c2
      refine .inl ⟨n, c3, ba_ext ?_, by rw [if_pos ⟨c1, c2, c3⟩]⟩
      rw [decS_list, ← c1]
      exact Lib.itoa_nonneg n
    · refine .inr ⟨fun n hn e => hc ?_, by rw [if_neg hc]⟩
      have := key n hn e
      rw [ha] at this
      obtain rfl : v = (n : Int) := by injection this
      exact ⟨by rw [e, decS_list]; exact Lib.itoa_nonneg n, by omega, hn⟩
  | range => exact .inr ⟨fun n hn e => (by have := key n hn e; rw [ha] at this; cases this), rfl⟩
  | _ => exact .inr ⟨fun n hn e => (by have := key n hn e; rw [ha] at this; cases this), rfl⟩
/-! ### Pieces -/
def splitL (c : UInt8) : List UInt8 → List (List UInt8)
  | [] => [[]]
  | b :: r => if b = c then [] :: splitL c r else match splitL c r with
    | x :: xs => (b :: x) :: xs
    | [] => [[b]]
theorem splitL_ne (c : UInt8) : ∀ l, splitL c l ≠ []
  | [] => by simp [splitL]
  | b :: r => by
    unfold splitL
    split
    · simp
    · split <;> simp
theorem index_one_eq (c : UInt8) (r : List UInt8) : Lib.index (c :: r) [c] = 0 := by simp [Lib.index, List.isPrefixOf]
theorem index_one_ne {b c : UInt8} (h : b ≠ c) (r : List UInt8) : Lib.index (b :: r) [c] = if Lib.index r [c] == -1 then -1 else Lib.index r [c] + 1 := by
  have : ([c] : List UInt8).isPrefixOf (b :: r) = false := by simp [List.isPrefixOf]; exact fun e => h e.symm
  rw [Lib.index, this]
  rfl
theorem splitK_pieces (c : UInt8) : ∀ s : List UInt8, Lib.splitK [c] 0 (Lib.count s [c]) s = splitL c s
  | [] => by
    have : Lib.index ([] : List UInt8) [c] = -1 := by simp [Lib.index]
    rw [Lib.count_miss this]
    rfl
  | b :: r => by
    have ih := splitK_pieces c r
    by_cases hb : b = c
    · subst hb
      have h0 : Lib.index (b :: r) [b] = ((0 : Nat) : Int) := index_one_eq b r
      have hcnt : Lib.count (b :: r) [b] = 1 + Lib.count r [b] := by have := Lib.count_hit (s := b :: r) (sub := [b]) (by simp) h0; simpa using this
      rw [hcnt, Nat.add_comm, Lib.splitK, h0, if_neg (by decide)]
      unfold splitL
      rw [if_pos rfl]
      simp only [Int.toNat_natCast, Nat.add_zero, List.take_zero, List.length_singleton, Nat.zero_add, List.drop_succ_cons, List.drop_zero]
      rw [ih]
    · have h1 := index_one_ne hb r
      unfold splitL
      rw [if_neg hb]
      by_cases hm : Lib.index r [c] = -1
      · rw [hm] at h1
        have h1 : Lib.index (b :: r) [c] = -1 := h1
        rw [Lib.count_miss h1]
        rw [Lib.count_miss hm] at ih
        rw [← ih]
        rfl
      · have hge := Lib.index_ge r [c]
        obtain ⟨i, hi⟩ := Int.eq_ofNat_of_zero_le (show 0 ≤ Lib.index r [c] by omega)
        rw [hi] at h1
        have h1 : Lib.index (b :: r) [c] = ((i + 1 : Nat) : Int) := by
          rw [h1, if_neg (fun e => by have := beq_iff_eq.1 e; omega)]
          omega
        have hc1 : Lib.count (b :: r) [c] = 1 + Lib.count (r.drop (i + 1)) [c] := by have := Lib.count_hit (s := b :: r) (sub := [c]) (by simp) h1; simpa using this
        have hc2 : Lib.count r [c] = 1 + Lib.count (r.drop (i + 1)) [c] := by have := Lib.count_hit (s := r) (sub := [c]) (by simp) hi; simpa using this
        rw [hc2, Nat.add_comm, Lib.splitK, hi, if_neg (fun e => by have := beq_iff_eq.1 e; omega)] at ih
        simp only [Int.toNat_natCast, Nat.add_zero, List.length_singleton] at ih
        rw [hc1, Nat.add_comm, Lib.splitK, h1, if_neg (fun e => by have := beq_iff_eq.1 e; omega), ← ih]
        simp only [Int.toNat_natCast, Nat.add_zero, List.length_singleton, List.take_succ_cons, List.drop_succ_cons]
def mkS (l : List UInt8) : ByteArray := ⟨l.toArray⟩
theorem mkS_list (l : List UInt8) : (mkS l).data.toList = l := rfl
def splitS (c : UInt8) (s : ByteArray) : List ByteArray := (splitL c s.data.toList).map mkS
theorem strSplit_pieces (s : ByteArray) (c : UInt8) (h : s.size < 4294967281) : strSplit1 s (bs [c]) = some (splitS c s) := by
  unfold strSplit1
  rw [if_pos ⟨h, rfl⟩]
  congr 1
  have h1 := Lib.splitB_data (bs [c]) 0 (Lib.countB s (bs [c])) s
  have h2 : Lib.countB s (bs [c]) = Lib.count s.data.toList [c] := rfl
  have h3 : (bs [c]).data.toList = [c] := rfl
  rw [h2, h3, splitK_pieces] at h1
  unfold splitS
  rw [← h1, List.map_map, h2]
  conv => lhs; rw [← List.map_id (Lib.splitB _ _ _ _)]
  exact List.map_congr_left fun x _ => by apply ba_ext; rfl
/-! ### Numbers told -/
theorem ofBytes_one {n : Int} {c : UInt8} (h : UInt8.ofNat n.toNat = c) : ofBytes [n] = mkS [c] := by
  apply ba_ext
  rw [mkS_list, ← h]
  rfl
theorem l1Num_dec : ∀ n : Nat, n ≤ 999999999 → Ev (fun k => spec_l1Num k (n : Int)) (decS n) := by
  intro n
  induction n using Nat.strongRecOn with
  | ind n ih =>
    intro hn
    have digit : ∀ d : Nat, d < 10 → ofBytes [w8 (w64 (48 + (d : Int)))] = mkS [UInt8.ofNat (48 + d)] := fun d hd => by
      rw [w64_of (by omega) (by omega), w8_of (by omega) (by omega)]
      exact ofBytes_one (by rw [show (48 + (d : Int)).toNat = 48 + d by omega])
    by_cases h : n < 10
    · refine Ev.step (fun k => spec_l1Num.eq k (n : Int)) (Ev.yes (decide_eq_true (by omega)) (Ev.now' ?_))
      rw [digit n h]
      apply ba_ext
      rw [decS_list, dec_small h]
      rfl
    · have e1 : w64 ((n : Int).tdiv 10) = ((n / 10 : Nat) : Int) := by
        rw [Int.tdiv_eq_ediv_of_nonneg (by omega), w64_of (by omega) (by omega)]
        omega
      have e2 : (n : Int).tmod 10 = ((n % 10 : Nat) : Int) := by
        rw [Int.tmod_eq_emod_of_nonneg (by omega)]
        omega
      have hs := decS_size (n := n / 10) (by omega)
      refine Ev.step (fun k => spec_l1Num.eq k (n : Int)) (Ev.no (decide_eq_false (by omega)) ?_)
      rw [e1, e2]
      refine Ev.bind (ih (n / 10) (by omega) (by omega)) ?_
      rw [digit (n % 10) (by omega)]
      refine Ev.yes (fitS_of (by show _ + 1 < _; omega)) (Ev.now' ?_)
      apply ba_ext
      rw [append_list, decS_list, decS_list, dec_more h]
      rfl
theorem itoa_ev (n : Nat) (h : n ≤ 999999999) : Ev (fun k => strconv_Itoa k (n : Int)) (decS n) := by
  have e : itoaAll (n : Int) = some (decS n) := by
    unfold itoaAll
    rw [if_pos (by omega), Lib.itoa_nonneg]
    rfl
  exact Ev.step (fun k => (strconv_Itoa.eq k (n : Int)).trans e) (Ev.now _)
/-! ### Lists told -/
def joinB (l : List ByteArray) (sep : ByteArray) : ByteArray := mkS (Lib.join (l.map (·.data.toList)) sep.data.toList)
theorem joinB_nil (sep : ByteArray) : joinB [] sep = ByteArray.empty := rfl
theorem joinB_one (x sep : ByteArray) : joinB [x] sep = x := by
  apply ba_ext
  show Lib.join [x.data.toList] sep.data.toList = x.data.toList
  exact Lib.join_one _ _
theorem joinB_snoc (l : List ByteArray) (x sep : ByteArray) (h : l ≠ []) : joinB (l ++ [x]) sep = joinB l sep ++ sep ++ x := by
  cases l with
  | nil => exact absurd rfl h
  | cons a r =>
    apply ba_ext
    rw [append_list, append_list]
    show Lib.join (List.map _ (a :: (r ++ [x]))) _ = Lib.join (List.map _ (a :: r)) _ ++ _ ++ _
    rw [List.map_cons, List.map_cons, Lib.join_cons, Lib.join_cons, List.map_append]
    simp [Lib.joinTail]
theorem joinB_size (sep : ByteArray) (b : Nat) : ∀ (l : List ByteArray), (∀ x ∈ l, x.size + sep.size ≤ b) → (joinB l sep).size ≤ b * l.length
  | [], _ => Nat.zero_le _
  | x :: r, h => by
    have h1 : (joinB (x :: r) sep).size = x.size + (Lib.joinTail sep.data.toList (r.map (·.data.toList))).length := by
      rw [size_list]
      show (Lib.join (List.map _ (x :: r)) _).length = _
      rw [List.map_cons, Lib.join_cons, List.length_append, ← size_list]
    have h2 : ∀ r : List ByteArray, (∀ x ∈ r, x.size + sep.size ≤ b) → (Lib.joinTail sep.data.toList (r.map (·.data.toList))).length ≤ b * r.length := by
      intro r
      induction r with
      | nil => intro _; exact Nat.zero_le _
      | cons y r ih =>
        intro h
        have := ih fun z hz => h z (List.mem_cons_of_mem _ hz)
        have hy := h y (by simp)
        have e : Lib.joinTail sep.data.toList ((y :: r).map (·.data.toList)) = sep.data.toList ++ y.data.toList ++ Lib.joinTail sep.data.toList (r.map (·.data.toList)) := by simp [Lib.joinTail]
        rw [e, List.length_append, List.length_append, ← size_list, ← size_list, List.length_cons, Nat.mul_succ]
        omega
    have := h2 r fun z hz => h z (List.mem_cons_of_mem _ hz)
    have hx := h x (by simp)
    rw [h1, List.length_cons, Nat.mul_succ]
    omega
theorem join_ev (l : List ByteArray) (sep : ByteArray) (h1 : l.length ≤ 1000000) (h2 : (joinB l sep).size ≤ 100000000) : Ev (fun k => strings_Join k (l, sep)) (joinB l sep) := by
  have e : joinS l sep = some (joinB l sep) := by
    unfold joinS
    have : (Lib.join (l.map (·.data.toList)) sep.data.toList).length = (joinB l sep).size := by rw [size_list]; rfl
    rw [if_pos ⟨by omega, by omega⟩]
    rfl
  exact Ev.step (fun k => (strings_Join.eq k (l, sep)).trans e) (Ev.now _)
theorem listText_l_ev (b : ByteArray) (l : List Int) (hl : l.length ≤ 100) (hd : ∀ n ∈ l, 0 ≤ n ∧ n ≤ 999999999) : ∀ (m i : Nat) (parts : List ByteArray), i + m = l.length → parts.length = i → Ev (fun k => impl_listText_l k (b, parts, l, (l.length : Int), (i : Int))) (b, parts ++ (l.drop i).map fun n => decS n.toNat)
  | 0, i, parts, h, hp => Ev.step (fun k => impl_listText_l.eq k b parts l (l.length : Int) (i : Int)) (Ev.no (not_lt_nat (by omega)) (Ev.now' (by rw [List.drop_of_length_le (by omega)]; simp)))
  | m + 1, i, parts, h, hp => by
    obtain ⟨n, hn⟩ := nat_list (l := l) (i := i) (by omega)
    obtain ⟨hlt, he⟩ := List.getElem?_eq_some_iff.1 hn
    obtain ⟨hn0, hn1⟩ := hd n (List.mem_of_getElem? hn)
    refine Ev.step (fun k => impl_listText_l.eq k b parts l (l.length : Int) (i : Int)) (Ev.yes (lt_nat (by omega)) (Ev.yes (inB_nat (by omega)) ?_))
    rw [Int.toNat_natCast, getD_at hn, w64_succ (by omega)]
    have ih := listText_l_ev b l hl hd m (i + 1) (parts ++ [decS n.toNat]) (by omega) (by simp [hp])
    rw [List.append_assoc] at ih
    have hi := itoa_ev n.toNat (by omega)
    rw [Int.toNat_of_nonneg hn0] at hi
    refine Ev.bind hi (Ev.yes (fits_of (by omega)) ?_)
    rw [List.drop_eq_getElem_cons hlt, he, List.map_cons]
    exact ih
theorem listText_ev (b : ByteArray) (l : List Int) (hl : l.length ≤ 100) (hb : b.size ≤ 100) (hd : ∀ n ∈ l, 0 ≤ n ∧ n ≤ 999999999) : Ev (fun k => impl_listText k (b, l)) (joinB (l.map fun n => decS n.toNat) b) := by
  have h := listText_l_ev b l hl hd l.length 0 [] (by omega) rfl
  rw [List.drop_zero, List.nil_append] at h
  have hs := joinB_size b 200 (l.map fun n => decS n.toNat) (fun x hx => by
    obtain ⟨n, hn, rfl⟩ := List.mem_map.1 hx
    have := decS_size (n := n.toNat) (by have := hd n hn; omega)
    omega)
  rw [List.length_map] at hs
  have hj := join_ev (l.map fun n => decS n.toNat) b (by rw [List.length_map]; omega) (by omega)
  exact Ev.step (fun k => impl_listText.eq k b l) (Ev.bind h (Ev.bind hj (Ev.now _)))
/-! ### Pieces -/
def glue (p : List UInt8) : List (List UInt8) → List (List UInt8)
  | x :: xs => (p ++ x) :: xs
  | [] => [p]
theorem splitL_glue (c : UInt8) (b : UInt8) (r p : List UInt8) : glue p (splitL c (b :: r)) = if b = c then p :: splitL c r else glue (p ++ [b]) (splitL c r) := by
  rw [splitL]
  by_cases h : b = c
  · rw [if_pos h, if_pos h]
    simp [glue]
  · rw [if_neg h, if_neg h]
    cases hs : splitL c r with
    | nil => exact absurd hs (splitL_ne c r)
    | cons x xs => simp [glue]
theorem glue_nil {l : List (List UInt8)} (h : l ≠ []) : glue [] l = l := by
  cases l with
  | nil => exact absurd rfl h
  | cons x xs => rfl
theorem splitL_len (c : UInt8) : ∀ l, (splitL c l).length ≤ l.length + 1
  | [] => by simp [splitL]
  | b :: r => by
    have := splitL_len c r
    rw [splitL]
    split
    · simp; omega
    · split
      · rename_i x xs h
        rw [h] at this
        simp at this ⊢
        omega
      · simp
theorem splitL_join (c : UInt8) : ∀ l, Lib.join (splitL c l) [c] = l
  | [] => by simp [splitL, Lib.join_one]
  | b :: r => by
    have ih := splitL_join c r
    rw [splitL]
    cases hs : splitL c r with
    | nil => exact absurd hs (splitL_ne c r)
    | cons x xs =>
      rw [hs, Lib.join_cons] at ih
      split
      · rename_i h
        rw [Lib.join_cons, h]
        simp only [Lib.joinTail, List.map_cons, List.flatten_cons, List.nil_append]
        have e : [c] ++ x ++ (List.map (fun y => [c] ++ y) xs).flatten = c :: (x ++ Lib.joinTail [c] xs) := by simp [Lib.joinTail]
        rw [e, ih]
      · rw [Lib.join_cons, List.cons_append, ih]
theorem splitS_join (c : UInt8) (s : ByteArray) : joinB (splitS c s) (mkS [c]) = s := by
  apply ba_ext
  show Lib.join ((splitS c s).map (·.data.toList)) [c] = _
  have : (splitS c s).map (·.data.toList) = splitL c s.data.toList := by
    unfold splitS
    rw [List.map_map]
    conv => rhs; rw [← List.map_id (splitL c s.data.toList)]
    rfl
  rw [this]
  exact splitL_join c _
theorem splitS_len (c : UInt8) (s : ByteArray) : (splitS c s).length ≤ s.size + 1 := by
  unfold splitS
  rw [List.length_map, size_list]
  exact splitL_len c _
theorem splitL_piece (c : UInt8) : ∀ l x, x ∈ splitL c l → x.length ≤ l.length
  | [], x, h => by
    rw [splitL, List.mem_singleton] at h
    rw [h]
    exact Nat.le_refl _
  | b :: r, x, h => by
    rw [splitL] at h
    split at h
    · rcases List.mem_cons.1 h with h | h
      · rw [h]; exact Nat.zero_le _
      · have := splitL_piece c r x h
        rw [List.length_cons]; omega
    · split at h
      · rename_i y ys hy
        rcases List.mem_cons.1 h with h | h
        · have := splitL_piece c r y (by rw [hy]; simp)
          rw [h, List.length_cons, List.length_cons]; omega
        · have := splitL_piece c r x (by rw [hy]; exact List.mem_cons_of_mem _ h)
          rw [List.length_cons]; omega
      · rw [List.mem_singleton] at h
        rw [h]
        simp
theorem splitS_piece (c : UInt8) (s x : ByteArray) (h : x ∈ splitS c s) : x.size ≤ s.size := by
  obtain ⟨l, hl, rfl⟩ := List.mem_map.1 h
  rw [size_list, size_list, mkS_list]
  exact splitL_piece c _ l hl
theorem l1Split_ev (s : ByteArray) (c : UInt8) (hs : s.size ≤ 1048576) : Ev (fun k => spec_l1Split k (s, (c.toNat : Int))) (splitS c s) := by
  have hsl := size_list s
  have ext : ∀ f i : Nat, f ≤ i → i ≤ s.size → s.extract f i = mkS ((s.data.toList.take i).drop f) := fun f i h1 h2 => by
    apply ba_ext
    rw [extract_list, mkS_list]
  have loop : ∀ (m i f : Nat) (out : List ByteArray), i + m = s.size → f ≤ i → out.length ≤ i → ∃ (out' : List ByteArray) (f' : Nat), f' ≤ s.size ∧ out'.length ≤ s.size ∧ Ev (fun k => spec_l1Split_l k (s, (c.toNat : Int), out, (f : Int), (i : Int))) (s, out', (f' : Int)) ∧
      out' ++ [mkS (s.data.toList.drop f')] = out ++ (glue ((s.data.toList.take i).drop f) (splitL c (s.data.toList.drop i))).map mkS := by
    intro m
    induction m with
    | zero =>
      intro i f out hi hf ho
      refine ⟨out, f, by omega, by omega, Ev.step (fun k => spec_l1Split_l.eq k s _ out f i) (Ev.no (not_lt_nat (by omega)) (Ev.now _)), ?_⟩
      rw [List.drop_of_length_le (i := i) (by omega), List.take_of_length_le (i := i) (by omega)]
      simp [splitL, glue]
    | succ m ih =>
      intro i f out hi hf ho
      obtain ⟨b, hb⟩ := byte_at (cs := s) (i := i) (by omega)
      obtain ⟨hlt, he⟩ := List.getElem?_eq_some_iff.1 hb
      have hdrop : s.data.toList.drop i = b :: s.data.toList.drop (i + 1) := by rw [List.drop_eq_getElem_cons hlt, he]
      have htake : s.data.toList.take (i + 1) = s.data.toList.take i ++ [b] := by rw [List.take_add_one, hb]; rfl
      rw [hdrop, splitL_glue]
      by_cases hbc : b = c
      · obtain ⟨out', f', h1, h2, h3, h4⟩ := ih (i + 1) (i + 1) (out ++ [s.extract f i]) (by omega) (Nat.le_refl _) (by simp; omega)
        refine ⟨out', f', h1, h2, ?_, ?_⟩
        · refine Ev.step (fun k => spec_l1Split_l.eq k s _ out f i) (Ev.yes (lt_nat (by omega)) (Ev.yes (inB_nat (by omega)) ?_))
          rw [Int.toNat_natCast, bt_at hb, w64_succ (by omega)]
          refine Ev.yes (by rw [hbc]; exact beq_iff_eq.2 rfl) (Ev.yes (by rw [decide_eq_true (by omega), decide_eq_true (by omega), decide_eq_true (by omega), decide_eq_true (by omega)]; rfl) (Ev.yes (fits_of (by omega)) ?_))
          rw [Int.toNat_natCast]
          exact h3
        · rw [h4, if_pos hbc, ext f i hf (by omega)]
          have e0 : (s.data.toList.take (i + 1)).drop (i + 1) = [] := List.drop_of_length_le (by rw [List.length_take]; omega)
          rw [e0, glue_nil (splitL_ne c _)]
          simp
      · obtain ⟨out', f', h1, h2, h3, h4⟩ := ih (i + 1) f out (by omega) (by omega) (by omega)
        refine ⟨out', f', h1, h2, ?_, ?_⟩
        · refine Ev.step (fun k => spec_l1Split_l.eq k s _ out f i) (Ev.yes (lt_nat (by omega)) (Ev.yes (inB_nat (by omega)) ?_))
          rw [Int.toNat_natCast, bt_at hb, w64_succ (by omega)]
          exact Ev.no (beq_eq_false_iff_ne.2 fun e => hbc (UInt8.toNat_inj.1 (by omega))) h3
        · rw [h4, if_neg hbc, htake]
          congr 3
          rw [List.drop_append_of_le_length (by rw [List.length_take]; omega)]
  obtain ⟨out', f', h1, h2, h3, h4⟩ := loop s.size 0 0 [] (by omega) (Nat.le_refl _) (by simp)
  have e4 : out' ++ [mkS (s.data.toList.drop f')] = splitS c s := by
    rw [h4]
    simp only [List.take_zero, List.drop_nil, List.drop_zero, List.nil_append]
    rw [glue_nil (splitL_ne c _)]
    rfl
  refine Ev.step (fun k => spec_l1Split.eq k s _) (Ev.bind h3 (Ev.yes (by dsimp only; rw [decide_eq_true (by omega), decide_eq_true (by omega)]; rfl) (Ev.yes (fits_of (by dsimp only; omega)) (Ev.now' ?_))))
  rw [← e4]
  dsimp only
  rw [Int.toNat_natCast, ext f' s.size h1 (Nat.le_refl _), List.take_of_length_le (by omega)]
/-! ### Numbers -/
theorem valF_lt : ∀ (l : List UInt8) (a : Nat), Digs l → valF a l < (a + 1) * 10 ^ l.length := by
  intro l
  induction l with
  | nil => intro a _; show a < (a + 1) * 1; omega
  | cons c l ih =>
    intro a h
    have hc := h c List.mem_cons_self
    have := ih (stp a c) fun x hx => h x (List.mem_cons_of_mem _ hx)
    rw [valF_cons, List.length_cons, Nat.pow_succ]
    have h2 : stp a c + 1 ≤ (a + 1) * 10 := by rw [stp_eq]; omega
    have h3 := Nat.mul_le_mul_right (10 ^ l.length) h2
    rw [show (a + 1) * (10 ^ l.length * 10) = (a + 1) * 10 * 10 ^ l.length by rw [Nat.mul_comm (10 ^ l.length), Nat.mul_assoc]]
    omega
def IsNum (s : ByteArray) (v : Int) : Prop := (∃ n : Nat, n ≤ 999999 ∧ s = decS n ∧ v = n) ∨ ((∀ n : Nat, n ≤ 999999 → s ≠ decS n) ∧ v = -1)
theorem decS_inj {a b : Nat} (h : decS a = decS b) : a = b := dec_inj (by rw [← decS_list, ← decS_list, h])
theorem l1Read_ev (s : ByteArray) (hs : s.size ≤ 1048576) : ∃ v, Ev (fun k => spec_l1Read k s) v ∧ IsNum s v := by
  have hsl := size_list s
  by_cases h16 : (1 : Int) ≤ (s.size : Int) ∧ (s.size : Int) ≤ 6
  rotate_left
  · refine ⟨-1, Ev.step (fun k => spec_l1Read.eq k s) (Ev.bind ((l1In_ev _ 1 6).isF h16) (Ev.yes rfl (Ev.now _))), .inr ⟨fun n hn e => h16 ?_, rfl⟩⟩
    have := dec_len 5 n (by omega)
    rw [← decS_list, ← e, ← hsl] at this
    omega
  have loop : ∀ (m i : Nat), i + m = s.size → (∀ (j : Nat) (c : UInt8), j < i → s.data.toList[j]? = some c → 48 ≤ c.toNat ∧ c.toNat ≤ 57) → (∃ (j : Nat) (c : UInt8), s.data.toList[j]? = some c ∧ ¬ (48 ≤ c.toNat ∧ c.toNat ≤ 57)) ∧ Ev (fun k => spec_l1Read_l k (s, (valF 0 (s.data.toList.take i) : Int), (i : Int))) (.inl (-1)) ∨
      Digs s.data.toList ∧ Ev (fun k => spec_l1Read_l k (s, (valF 0 (s.data.toList.take i) : Int), (i : Int))) (.inr (valF 0 s.data.toList : Int)) := by
    intro m
    induction m with
    | zero =>
      intro i hi hd
      refine .inr ⟨fun c hc => ?_, Ev.step (fun k => spec_l1Read_l.eq k s _ _) (Ev.no (not_lt_nat (by omega)) (Ev.now' (by rw [List.take_of_length_le (by omega)])))⟩
      obtain ⟨j, hj⟩ := List.mem_iff_getElem?.1 hc
      exact hd j c (by have := (List.getElem?_eq_some_iff.1 hj).1; omega) hj
    | succ m ih =>
      intro i hi hd
      obtain ⟨c, hc⟩ := byte_at (cs := s) (i := i) (by omega)
      have hlt := c.toNat_lt
      have hb := bt_at hc
      have htake : s.data.toList.take (i + 1) = s.data.toList.take i ++ [c] := by rw [List.take_add_one, hc]; rfl
      have hv : valF 0 (s.data.toList.take (i + 1)) = valF 0 (s.data.toList.take i) * 10 + (c.toNat - 48) := by rw [htake, valF_append, valF_one]
      have hvl : valF 0 (s.data.toList.take i) < 1000000 := by
        have := valF_lt (s.data.toList.take i) 0 fun x hx => by
          obtain ⟨j, hj⟩ := List.mem_iff_getElem?.1 hx
          rw [List.getElem?_take] at hj
          split at hj
          · exact hd j x (by omega) hj
          · cases hj
        have h5 : 10 ^ (s.data.toList.take i).length ≤ 10 ^ 6 := Nat.pow_le_pow_right (by omega) (by rw [List.length_take]; omega)
        omega
      have go : ∀ r, Ev (fun k => cond (decide ((c.toNat : Int) < 48)) (some (.inl (-1))) (cond (inB (i : Int) s.size) (cond (decide ((c.toNat : Int) > 57)) (some (.inl (-1))) (cond (inB (i : Int) s.size) (spec_l1Read_l k (s, w64 (w64 (10 * (valF 0 (s.data.toList.take i) : Int)) + w64 (w8 ((c.toNat : Int) - 48))), ((i + 1 : Nat) : Int))) none)) none)) r → Ev (fun k => spec_l1Read_l k (s, (valF 0 (s.data.toList.take i) : Int), (i : Int))) r := fun r hr => by
        refine Ev.step (fun k => spec_l1Read_l.eq k s _ _) (Ev.yes (lt_nat (by omega)) (Ev.yes (inB_nat (by omega)) ?_))
        rw [Int.toNat_natCast, hb, w64_succ (by omega)]
        exact hr
      by_cases c1 : c.toNat < 48
      · exact .inl ⟨⟨i, c, hc, by omega⟩, go _ (Ev.yes (decide_eq_true (by omega)) (Ev.now _))⟩
      by_cases c2 : c.toNat > 57
      · exact .inl ⟨⟨i, c, hc, by omega⟩, go _ (Ev.no (decide_eq_false (by omega)) (Ev.yes (inB_nat (by omega)) (Ev.yes (decide_eq_true (by omega)) (Ev.now _))))⟩
      have e : w64 (w64 (10 * (valF 0 (s.data.toList.take i) : Int)) + w64 (w8 ((c.toNat : Int) - 48))) = (valF 0 (s.data.toList.take (i + 1)) : Int) := by
        rw [hv, w8_of (by omega) (by omega), w64_of (n := (c.toNat : Int) - 48) (by omega) (by omega), w64_of (n := 10 * _) (by omega) (by omega), w64_of (by omega) (by omega)]
        omega
      have hd' : ∀ j x, j < i + 1 → s.data.toList[j]? = some x → 48 ≤ x.toNat ∧ x.toNat ≤ 57 := fun j x hj hx => by
        by_cases hji : j = i
        · subst hji
          rw [hc] at hx
          cases hx
          omega
        · exact hd j x (by omega) hx
      rcases ih (i + 1) (by omega) hd' with ⟨g1, g2⟩ | ⟨g1, g2⟩
      · exact .inl ⟨g1, go _ (Ev.no (decide_eq_false (by omega)) (Ev.yes (inB_nat (by omega)) (Ev.no (decide_eq_false (by omega)) (Ev.yes (inB_nat (by omega)) (by rw [e]; exact g2)))))⟩
      · exact .inr ⟨g1, go _ (Ev.no (decide_eq_false (by omega)) (Ev.yes (inB_nat (by omega)) (Ev.no (decide_eq_false (by omega)) (Ev.yes (inB_nat (by omega)) (by rw [e]; exact g2)))))⟩
  obtain ⟨c0, hc0⟩ := byte_at (cs := s) (i := 0) (by omega)
  have hb0 := bt_at hc0
  have hne : s.data.toList ≠ [] := fun e => by rw [e] at hc0; cases hc0
  have hhead : s.data.toList.head? = some c0 := by rw [List.head?_eq_getElem?]; exact hc0
  -- the two ways of the loop
  have fin : (2 ≤ s.size → c0.toNat ≠ 48) → ∃ v, Ev (fun k => (spec_l1Read_l k (s, 0, 0)).bind fun r2 => r2.elim (fun r3 => some r3) (fun r4 => some r4)) v ∧ IsNum s v := fun hz => by
    rcases loop s.size 0 (by omega) (fun j c hj => by omega) with ⟨⟨j, c, g1, g2⟩, g3⟩ | ⟨g1, g2⟩
    · refine ⟨-1, Ev.bind g3 (Ev.now _), .inr ⟨fun n hn e => g2 ?_, rfl⟩⟩
      have := (dec_canon n).1 c
      rw [← decS_list, ← e] at this
      exact this (List.mem_of_getElem? g1)
    · refine ⟨_, Ev.bind g2 (Ev.now _), .inl ⟨valF 0 s.data.toList, ?_, ?_, rfl⟩⟩
      · have := valF_lt s.data.toList 0 g1
        have h5 : 10 ^ s.data.toList.length ≤ 10 ^ 6 := Nat.pow_le_pow_right (by omega) (by omega)
        omega
      · apply ba_ext
        rw [decS_list]
        refine (val_dec _ s.data.toList rfl hne g1 fun h2 c hc => ?_).symm
        rw [hhead] at hc
        cases hc
        exact hz (by omega)
  refine (?_ : ∃ v, Ev (fun k => cond (bt s 0 == 48) (cond (decide ((s.size : Int) > 1)) (some (-1)) ((spec_l1Read_l k (s, 0, 0)).bind fun r2 => r2.elim (fun r3 => some r3) (fun r4 => some r4))) ((spec_l1Read_l k (s, 0, 0)).bind fun r5 => r5.elim (fun r6 => some r6) (fun r7 => some r7))) v ∧ IsNum s v).imp fun v hv => ⟨Ev.step (fun k => spec_l1Read.eq k s) (Ev.bind ((l1In_ev _ 1 6).isT h16) (Ev.no rfl (Ev.yes (inB_of (by omega) (by omega)) hv.1))), hv.2⟩
  rw [hb0]
  by_cases z : c0.toNat = 48
  · by_cases z1 : s.size > 1
    · refine ⟨-1, Ev.yes (by rw [beq_iff_eq]; omega) (Ev.yes (decide_eq_true (by omega)) (Ev.now _)), .inr ⟨fun n hn e => ?_, rfl⟩⟩
      have d := dec_canon n
      by_cases hn0 : n = 0
      · have : s.data.toList.length = 1 := by rw [e, decS_list, hn0, dec_small (by omega)]; rfl
        omega
      · exact d.2.2 (by omega) c0 (by rw [← decS_list, ← e]; exact hhead) z
    · obtain ⟨v, h1, h2⟩ := fin fun h => by omega
      exact ⟨v, Ev.yes (by rw [beq_iff_eq]; omega) (Ev.no (decide_eq_false (by omega)) h1), h2⟩
  · obtain ⟨v, h1, h2⟩ := fin fun _ => z
    exact ⟨v, Ev.no (by rw [beq_eq_false_iff_ne]; omega) h1, h2⟩
def NumsOk (c : UInt8) (s : ByteArray) (many : Nat) (most : Int) (ns : List Nat) : Prop := ns.length = many ∧ (∀ n ∈ ns, (n : Int) ≤ most) ∧ splitS c s = ns.map decS
theorem numbers_ev (s : ByteArray) (c : UInt8) (many : Nat) (most : Int) (hs : s.size ≤ 1048576) (hm : many ≤ 100) (hmost : most ≤ 999999) : (∃ ns, NumsOk c s many most ns ∧ Ev (fun k => impl_numbers k (s, bs [c], (many : Int), most)) (ns.map fun n : Nat => (n : Int), true)) ∨
    ((∀ ns, ¬ NumsOk c s many most ns) ∧ Ev (fun k => impl_numbers k (s, bs [c], (many : Int), most)) (List.replicate many 0, false)) := by
  have hsp : Ev (fun k => strings_Split k (s, bs [c])) (splitS c s) := Ev.step (fun k => (strings_Split.eq k (s, bs [c])).trans (strSplit_pieces s c (by omega))) (Ev.now _)
  have hlen := splitS_len c s
  have hpc : ∀ x ∈ splitS c s, x.size ≤ s.size := fun x hx => splitS_piece c s x hx
  unfold NumsOk
  generalize splitS c s = L at hsp hlen hpc
  have hrep : (((decide ((0 : Int) ≤ (many : Int))) && (decide ((many : Int) ≤ (many : Int)))) && (fits (many : Int).toNat 8)) = true := by
    rw [decide_eq_true (by omega), decide_eq_true (by omega), fits_of (by omega)]; rfl
  have loop : ∀ (m i : Nat) (ns : List Nat), i + m = L.length → ns.length = i → (∀ n ∈ ns, (n : Int) ≤ most) → L.take i = ns.map decS →
      (∃ ns' : List Nat, (∀ n ∈ ns', (n : Int) ≤ most) ∧ L = ns'.map decS ∧ Ev (fun k => impl_numbers_l k ((many : Int), most, ns.map (fun n : Nat => (n : Int)), L, (L.length : Int), (i : Int))) (.inr ((many : Int), ns'.map fun n : Nat => (n : Int)))) ∨
      ((∃ x ∈ L, ∀ n : Nat, (n : Int) ≤ most → x ≠ decS n) ∧ Ev (fun k => impl_numbers_l k ((many : Int), most, ns.map (fun n : Nat => (n : Int)), L, (L.length : Int), (i : Int))) (.inl (List.replicate many 0, false))) := by
    intro m
    induction m with
    | zero =>
      intro i ns hi hl hn ht
      refine .inl ⟨ns, hn, by rwa [List.take_of_length_le (by omega)] at ht, Ev.step (fun k => impl_numbers_l.eq k _ _ _ L _ _) (Ev.no (not_lt_nat (by omega)) (Ev.now _))⟩
    | succ m ih =>
      intro i ns hi hl hn ht
      obtain ⟨x, hx⟩ := nat_list (l := L) (i := i) (by omega)
      have hxm := List.mem_of_getElem? hx
      have go : ∀ r v b, numB x most = some (v, b) → Ev (fun k => cond (!b) (cond (((decide ((0 : Int) ≤ (many : Int))) && (decide ((many : Int) ≤ (many : Int)))) && (fits (many : Int).toNat 8)) (some (.inl ((List.replicate (many : Int).toNat 0), false))) none) (cond (fits ((ns.map (fun n : Nat => (n : Int))).length + 1) 8) (impl_numbers_l k ((many : Int), most, (ns.map (fun n : Nat => (n : Int)) ++ [v]), L, (L.length : Int), ((i + 1 : Nat) : Int))) none)) r → Ev (fun k => impl_numbers_l k ((many : Int), most, ns.map (fun n : Nat => (n : Int)), L, (L.length : Int), (i : Int))) r := fun r v b hb hr => by
        refine Ev.step (fun k => impl_numbers_l.eq k _ _ _ L _ _) (Ev.yes (lt_nat (by omega)) (Ev.yes (inB_nat (by omega)) ?_))
        rw [Int.toNat_natCast, getD_at hx, w64_succ (by omega)]
        exact Ev.bind (Ev.step (fun k => (impl_number.eq k (x, most)).trans hb) (Ev.now _)) hr
      have hxs := hpc x hxm
      rcases numB_dec x most (by omega) (by omega) with ⟨n, g1, g2, g3⟩ | ⟨g1, g2⟩
      · have hmap : (ns.map (fun n : Nat => (n : Int)) ++ [(n : Int)]) = (ns ++ [n]).map fun n : Nat => (n : Int) := by simp
        have hf : fits ((ns.map (fun n : Nat => (n : Int))).length + 1) 8 = true := fits_of (by rw [List.length_map]; omega)
        have st := fun r hr => go r (n : Int) true g3 (Ev.no rfl (Ev.yes hf hr))
        rw [hmap] at st
        rcases ih (i + 1) (ns ++ [n]) (by omega) (by simp [hl]) (fun q hq => by
          rcases List.mem_append.1 hq with hq | hq
          · exact hn q hq
          · rw [List.mem_singleton.1 hq]; exact g1) (by rw [List.take_add_one, hx, ht, g2]; simp) with ⟨ns', q1, q2, q3⟩ | ⟨q1, q2⟩
        · exact .inl ⟨ns', q1, q2, st _ q3⟩
        · exact .inr ⟨q1, st _ q2⟩
      · exact .inr ⟨⟨x, hxm, g1⟩, go _ 0 false g2 (Ev.yes rfl (Ev.yes hrep (Ev.now _)))⟩
  rcases loop L.length 0 [] (by omega) rfl (by simp) (by simp) with ⟨ns', q1, q2, q3⟩ | ⟨⟨x, q1, q2⟩, q3⟩
  · have hll : (ns'.map fun n : Nat => (n : Int)).length = ns'.length := List.length_map ..
    by_cases hc : ns'.length = many
    · refine .inl ⟨ns', ⟨hc, q1, q2⟩, Ev.step (fun k => impl_numbers.eq k s (bs [c]) many most) (Ev.bind hsp (Ev.bind q3 (Ev.no ?_ (Ev.now _))))⟩
      rw [bne_eq_false_iff_eq, hll]
      omega
    · refine .inr ⟨fun ns h => hc ?_, Ev.step (fun k => impl_numbers.eq k s (bs [c]) many most) (Ev.bind hsp (Ev.bind q3 (Ev.yes ?_ (Ev.yes hrep (Ev.now _)))))⟩
      · have e : ns.length = ns'.length := by
          have := congrArg List.length (h.2.2.symm.trans q2)
          rwa [List.length_map, List.length_map] at this
        rw [← e]
        exact h.1
      · rw [bne_iff_ne, hll]
        omega
  · refine .inr ⟨fun ns h => ?_, Ev.step (fun k => impl_numbers.eq k s (bs [c]) many most) (Ev.bind hsp (Ev.bind q3 (Ev.now _)))⟩
    rw [h.2.2] at q1
    obtain ⟨n, hn, rfl⟩ := List.mem_map.1 q1
    exact q2 n (h.2.1 n hn) rfl
/-! ### Joins cut up again -/
theorem splitL_free (c : UInt8) : ∀ x : List UInt8, c ∉ x → splitL c x = [x]
  | [], _ => by simp [splitL]
  | b :: x, h => by
    have hb : b ≠ c := fun e => h (by rw [e]; exact List.mem_cons_self)
    rw [splitL, if_neg hb, splitL_free c x fun hx => h (List.mem_cons_of_mem _ hx)]
theorem splitL_cut (c : UInt8) (r : List UInt8) : ∀ x : List UInt8, c ∉ x → splitL c (x ++ c :: r) = x :: splitL c r
  | [], _ => by simp [splitL]
  | b :: x, h => by
    have hb : b ≠ c := fun e => h (by rw [e]; exact List.mem_cons_self)
    rw [List.cons_append, splitL, if_neg hb, splitL_cut c r x fun hx => h (List.mem_cons_of_mem _ hx)]
theorem splitL_joined (c : UInt8) : ∀ (T : List (List UInt8)), T ≠ [] → (∀ x ∈ T, c ∉ x) → splitL c (Lib.join T [c]) = T
  | [], h, _ => absurd rfl h
  | [x], _, h => by rw [Lib.join_one]; exact splitL_free c x (h x (by simp))
  | x :: y :: r, _, h => by
    have ih := splitL_joined c (y :: r) (by simp) fun z hz => h z (List.mem_cons_of_mem _ hz)
    rw [Lib.join_cons] at ih
    rw [Lib.join_cons]
    have e : x ++ Lib.joinTail [c] (y :: r) = x ++ c :: (y ++ Lib.joinTail [c] r) := by simp [Lib.joinTail]
    rw [e, splitL_cut c _ x (h x (by simp)), ih]
theorem splitS_joined (c : UInt8) (T : List ByteArray) (hT : T ≠ []) (h : ∀ x ∈ T, c ∉ x.data.toList) : splitS c (joinB T (bs [c])) = T := by
  unfold splitS
  have e : (joinB T (bs [c])).data.toList = Lib.join (T.map (·.data.toList)) [c] := rfl
  rw [e, splitL_joined c _ (by simpa using hT) (by intro x hx; obtain ⟨y, hy, rfl⟩ := List.mem_map.1 hx; exact h y hy), List.map_map]
  conv => rhs; rw [← List.map_id T]
  rfl
theorem dec_free (n : Nat) (c : UInt8) (h : ¬ (48 ≤ c.toNat ∧ c.toNat ≤ 57)) : c ∉ (decS n).data.toList := fun hc => h ((dec_canon n).1 c hc)
-- @end
end Go.Proofs.YtcmebphcoamohaaGreatDoorS
