/- Several texts in one: PuText, PuPuz4, PuGuA, PuGuB, PuParse, PuFields, PuGuP, PuCur, PuWorldDraw, PuGuD. -/
import Derived.Test.YtplamonjnlgomaaGreatDoorMgGa
import Derived.Test.YtplamonjnlgomaaGreatDoorSimFt
import Derived.Lib.SplitLaws
import Derived.Lib.AtoiTie
import Derived.Lib.Join
import Derived.Lib.ItoaNum
import Derived.Lib.ItoaMem
import Derived.Lib.RuneCount
import Derived.Laws.RangeString
namespace Go.Proofs.YtplamonjnlgomaaGreatDoorS
open Go
set_option linter.unusedVariables false
set_option linter.unusedSimpArgs false

def decS (n : Nat) : ByteArray := ⟨(Lib.decDigits n).toArray⟩
theorem decS_list (n : Nat) : (decS n).data.toList = Lib.decDigits n := rfl
theorem dec_small {n : Nat} (h : n < 10) : Lib.decDigits n = [UInt8.ofNat (48 + n)] := by rw [Lib.decDigits, dif_pos h]
theorem dec_more {n : Nat} (h : ¬ n < 10) : Lib.decDigits n = Lib.decDigits (n / 10) ++ [UInt8.ofNat (48 + n % 10)] := by rw [Lib.decDigits, dif_neg h]
theorem dec_len : ∀ (k n : Nat), n < 10 ^ (k + 1) → 1 ≤ (Lib.decDigits n).length ∧ (Lib.decDigits n).length ≤ k + 1
  | 0, n, h => by rw [dec_small (by simpa using h)]; simp
  | k + 1, n, h => by
    by_cases hn : n < 10
    · rw [dec_small hn]; simp
    · rw [dec_more hn]
      have := dec_len k (n / 10) (by rw [Nat.pow_succ] at h; omega)
      simp
      omega
theorem decS_size {n : Nat} (h : n ≤ 999999999) : 1 ≤ (decS n).size ∧ (decS n).size ≤ 9 := by
  have := dec_len 8 n (by omega)
  rw [size_list, decS_list]
  exact this
def stp (a : Nat) (c : UInt8) : Nat := a * 10 + (c.toNat - 48)
theorem stp_eq (a : Nat) (c : UInt8) : stp a c = a * 10 + (c.toNat - 48) := by unfold stp; rfl
def valF (a : Nat) (l : List UInt8) : Nat := l.foldl stp a
theorem valF_append (l m : List UInt8) (a : Nat) : valF a (l ++ m) = valF (valF a l) m := List.foldl_append
theorem valF_cons (a : Nat) (c : UInt8) (l : List UInt8) : valF a (c :: l) = valF (stp a c) l := List.foldl_cons ..
theorem valF_one (a : Nat) (c : UInt8) : valF a [c] = a * 10 + (c.toNat - 48) := by rw [valF_cons, ← stp_eq]; rfl
def Digs (l : List UInt8) : Prop := ∀ c ∈ l, 48 ≤ c.toNat ∧ c.toNat ≤ 57
theorem digit_of {d : Nat} (h : d < 10) : (UInt8.ofNat (48 + d)).toNat = 48 + d := toNat_ofNat8 (by omega)
theorem dec_canon : ∀ n : Nat, Digs (Lib.decDigits n) ∧ valF 0 (Lib.decDigits n) = n ∧ (1 ≤ n → ∀ c, (Lib.decDigits n).head? = some c → c.toNat ≠ 48) := by
  intro n
  induction n using Nat.strongRecOn with
  | ind n ih =>
    by_cases hn : n < 10
    · rw [dec_small hn]
      refine ⟨fun c hc => ?_, ?_, fun h1 c hc => ?_⟩
      · obtain rfl : c = _ := List.mem_singleton.1 hc
        rw [digit_of hn]; omega
      · rw [valF_one, digit_of hn]; omega
      · obtain rfl : _ = c := Option.some.inj hc
        rw [digit_of hn]; omega
    · obtain ⟨h1, h2, h3⟩ := ih (n / 10) (by omega)
      have hd : n % 10 < 10 := by omega
      rw [dec_more hn]
      refine ⟨fun c hc => ?_, ?_, fun _ c hc => ?_⟩
      · rcases List.mem_append.1 hc with hc | hc
        · exact h1 c hc
        · obtain rfl : c = _ := List.mem_singleton.1 hc
          rw [digit_of hd]; omega
      · rw [valF_append, h2]
        rw [valF_one, digit_of hd]; omega
      · refine h3 (by omega) c ?_
        have hl := (dec_len (n / 10) (n / 10) (Nat.lt_of_lt_of_le (Nat.lt_pow_self (by omega)) (Nat.pow_le_pow_right (by omega) (Nat.le_succ _)))).1
        cases hx : Lib.decDigits (n / 10) with
        | nil => rw [hx] at hl; simp at hl
        | cons a r => rw [hx] at hc; simpa using hc
theorem val_dec : ∀ (k : Nat) (l : List UInt8), l.length = k → l ≠ [] → Digs l → (2 ≤ l.length → ∀ c, l.head? = some c → c.toNat ≠ 48) → Lib.decDigits (valF 0 l) = l := by
  intro k
  induction k with
  | zero => intro l h hne; exact absurd (List.eq_nil_of_length_eq_zero h) hne
  | succ k ih =>
    intro l h hne hd h0
    obtain ⟨m, c, rfl⟩ : ∃ m c, l = m ++ [c] := ⟨l.dropLast, l.getLast hne, (List.dropLast_concat_getLast hne).symm⟩
    have hc := hd c (by simp)
    have hb : UInt8.ofNat (48 + (c.toNat - 48)) = c := by
      apply UInt8.toNat_inj.1
      rw [digit_of (by omega)]; omega
    rw [valF_append, valF_one]
    by_cases hm : m = []
    · subst hm
      rw [List.nil_append]
      have e0 : valF 0 [] * 10 + (c.toNat - 48) = c.toNat - 48 := by
        have : valF 0 [] = 0 := rfl
        omega
      rw [e0, dec_small (by omega), hb]
    · have hlm : m.length = k := by simpa using h
      have h2 : 2 ≤ (m ++ [c]).length := by
        cases m with
        | nil => exact absurd rfl hm
        | cons a r => simp
      have hhd : ∀ a, m.head? = some a → a.toNat ≠ 48 := fun a ha => h0 h2 a (by
        cases m with
        | nil => exact absurd rfl hm
        | cons b r => simpa using ha)
      have e := ih m hlm hm (fun a ha => hd a (List.mem_append_left _ ha)) fun _ => hhd
      have hv : 1 ≤ valF 0 m := by
        by_cases hv : valF 0 m = 0
        · rw [hv, dec_small (by omega)] at e
          exact absurd rfl (hhd (UInt8.ofNat (48 + 0)) (by rw [← e]; rfl))
        · omega
      rw [dec_more (by omega), show (valF 0 m * 10 + (c.toNat - 48)) / 10 = valF 0 m by omega, show (valF 0 m * 10 + (c.toNat - 48)) % 10 = c.toNat - 48 by omega, e, hb]
theorem dec_inj {a b : Nat} (h : Lib.decDigits a = Lib.decDigits b) : a = b := by
  have h1 := (dec_canon a).2.1
  rw [h, (dec_canon b).2.1] at h1
  exact h1.symm
theorem decFrom_cons (a : Nat) (c : UInt8) (l : List UInt8) (h : 48 ≤ c.toNat ∧ c.toNat ≤ 57) : Lib.decFrom a (c :: l) = Lib.decFrom (a * 10 + (c.toNat - 48)) l := by
  have e : Lib.digitVal c = some (c.toNat - 48) := by
    unfold Lib.digitVal
    rw [if_pos h]
  generalize c.toNat - 48 = d at e
  show (match Lib.digitVal c with | some d => Lib.decFrom (a * 10 + d) l | none => none) = _
  rw [e]
theorem decFrom_val (l : List UInt8) : ∀ a : Nat, Digs l → Lib.decFrom a l = some (valF a l) := by
  induction l with
  | nil => intro a _; rfl
  | cons c l ih =>
    intro a h
    rw [decFrom_cons a c l (h c List.mem_cons_self), valF_cons, stp_eq]
    exact ih _ fun x hx => h x (List.mem_cons_of_mem _ hx)
theorem atoi_dec {n : Nat} (h : n ≤ 999999999) : Lib.atoiAll (Lib.decDigits n) = .ok (n : Int) := by
  obtain ⟨h1, h2⟩ := dec_len 8 n (by omega)
  obtain ⟨c1, c2, _⟩ := dec_canon n
  rw [Lib.atoiAll_short _ (by omega)]
  generalize Lib.decDigits n = l at h1 c1 c2
  cases l with
  | nil => simp at h1
  | cons c r =>
    have hc := c1 c (by simp)
    have e1 : Lib.atoi (c :: r) = (Lib.decNat (c :: r)).map fun (m : Nat) => (m : Int) := by
      simp only [Lib.atoi]
      have n45 : ¬ (c == 45) = true := fun e => by rw [beq_iff_eq.1 e] at hc; exact absurd hc.1 (by decide)
      have n43 : ¬ (c == 43) = true := fun e => by rw [beq_iff_eq.1 e] at hc; exact absurd hc.1 (by decide)
      rw [if_neg n45, if_neg n43]
    have e2 : Lib.decNat (c :: r) = some n := by
      unfold Lib.decNat
      rw [decFrom_val _ _ c1, c2]
      rfl
    rw [e1, e2]
    rfl
/-- A number of a text: the two ways. -/
theorem numB_dec (s : ByteArray) (most : Int) (h : s.size ≤ 281474976710656) (hm : most ≤ 999999999) : (∃ n : Nat, (n : Int) ≤ most ∧ s = decS n ∧ numB s most = some ((n : Int), true)) ∨ ((∀ n : Nat, (n : Int) ≤ most → s ≠ decS n) ∧ numB s most = some (0, false)) := by
  have no : ∀ v, (∀ n : Nat, (n : Int) ≤ most → s = decS n → Lib.atoiAll s.data.toList = .ok v → False) → (∀ n : Nat, (n : Int) ≤ most → Lib.atoiAll s.data.toList ≠ .ok v → True) := fun _ _ _ _ _ => trivial
  have key : ∀ n : Nat, (n : Int) ≤ most → s = decS n → Lib.atoiAll s.data.toList = .ok (n : Int) := fun n hn e => by
    rw [e, decS_list]
    exact atoi_dec (by omega)
  unfold numB
  rw [if_pos h]
  cases ha : Lib.atoiAll s.data.toList with
  | ok v =>
    simp only
    by_cases hc : Lib.itoa v = s.data.toList ∧ 0 ≤ v ∧ v ≤ most
    · obtain ⟨c1, c2, c3⟩ := hc
      obtain ⟨n, rfl⟩ := Int.eq_ofNat_of_zero_le c2
      refine .inl ⟨n, c3, ba_ext ?_, by rw [if_pos ⟨c1, c2, c3⟩]⟩
      rw [decS_list, ← c1]
      exact Lib.itoa_nonneg n
    · refine .inr ⟨fun n hn e => hc ?_, by rw [if_neg hc]⟩
      have := key n hn e
      rw [ha] at this
      obtain rfl : v = (n : Int) := by injection this
      exact ⟨by rw [e, decS_list]; exact Lib.itoa_nonneg n, by omega, hn⟩
  | «syntax» => exact .inr ⟨fun n hn e => (by have := key n hn e; rw [ha] at this; cases this), rfl⟩
  | range => exact .inr ⟨fun n hn e => (by have := key n hn e; rw [ha] at this; cases this), rfl⟩
/-! ### Pieces -/
def splitL (c : UInt8) : List UInt8 → List (List UInt8)
  | [] => [[]]
  | b :: r => if b = c then [] :: splitL c r else match splitL c r with
    | x :: xs => (b :: x) :: xs
    | [] => [[b]]
theorem splitL_ne (c : UInt8) : ∀ l, splitL c l ≠ []
  | [] => by simp [splitL]
  | b :: r => by
    unfold splitL
    split
    · simp
    · split <;> simp
theorem index_one_eq (c : UInt8) (r : List UInt8) : Lib.index (c :: r) [c] = 0 := by simp [Lib.index, List.isPrefixOf]
theorem index_one_ne {b c : UInt8} (h : b ≠ c) (r : List UInt8) : Lib.index (b :: r) [c] = if Lib.index r [c] == -1 then -1 else Lib.index r [c] + 1 := by
  have : ([c] : List UInt8).isPrefixOf (b :: r) = false := by simp [List.isPrefixOf]; exact fun e => h e.symm
  rw [Lib.index, this]
  rfl
theorem splitK_pieces (c : UInt8) : ∀ s : List UInt8, Lib.splitK [c] 0 (Lib.count s [c]) s = splitL c s
  | [] => by
    have : Lib.index ([] : List UInt8) [c] = -1 := by simp [Lib.index]
    rw [Lib.count_miss this]
    rfl
  | b :: r => by
    have ih := splitK_pieces c r
    by_cases hb : b = c
    · subst hb
      have h0 : Lib.index (b :: r) [b] = ((0 : Nat) : Int) := index_one_eq b r
      have hcnt : Lib.count (b :: r) [b] = 1 + Lib.count r [b] := by have := Lib.count_hit (s := b :: r) (sub := [b]) (by simp) h0; simpa using this
      rw [hcnt, Nat.add_comm, Lib.splitK, h0, if_neg (by decide)]
      unfold splitL
      rw [if_pos rfl]
      simp only [Int.toNat_natCast, Nat.add_zero, List.take_zero, List.length_singleton, Nat.zero_add, List.drop_succ_cons, List.drop_zero]
      rw [ih]
    · have h1 := index_one_ne hb r
      unfold splitL
      rw [if_neg hb]
      by_cases hm : Lib.index r [c] = -1
      · rw [hm] at h1
        have h1 : Lib.index (b :: r) [c] = -1 := h1
        rw [Lib.count_miss h1]
        rw [Lib.count_miss hm] at ih
        rw [← ih]
        rfl
      · have hge := Lib.index_ge r [c]
        obtain ⟨i, hi⟩ := Int.eq_ofNat_of_zero_le (show 0 ≤ Lib.index r [c] by omega)
        rw [hi] at h1
        have h1 : Lib.index (b :: r) [c] = ((i + 1 : Nat) : Int) := by
          rw [h1, if_neg (fun e => by have := beq_iff_eq.1 e; omega)]
          omega
        have hc1 : Lib.count (b :: r) [c] = 1 + Lib.count (r.drop (i + 1)) [c] := by have := Lib.count_hit (s := b :: r) (sub := [c]) (by simp) h1; simpa using this
        have hc2 : Lib.count r [c] = 1 + Lib.count (r.drop (i + 1)) [c] := by have := Lib.count_hit (s := r) (sub := [c]) (by simp) hi; simpa using this
        rw [hc2, Nat.add_comm, Lib.splitK, hi, if_neg (fun e => by have := beq_iff_eq.1 e; omega)] at ih
        simp only [Int.toNat_natCast, Nat.add_zero, List.length_singleton] at ih
        rw [hc1, Nat.add_comm, Lib.splitK, h1, if_neg (fun e => by have := beq_iff_eq.1 e; omega), ← ih]
        simp only [Int.toNat_natCast, Nat.add_zero, List.length_singleton, List.take_succ_cons, List.drop_succ_cons]
def mkS (l : List UInt8) : ByteArray := ⟨l.toArray⟩
theorem mkS_list (l : List UInt8) : (mkS l).data.toList = l := rfl
def splitS (c : UInt8) (s : ByteArray) : List ByteArray := (splitL c s.data.toList).map mkS
theorem strSplit_pieces (s : ByteArray) (c : UInt8) (h : s.size < 4294967281) : strSplit1 s (bs [c]) = some (splitS c s) := by
  unfold strSplit1
  rw [if_pos ⟨h, rfl⟩]
  congr 1
  have h1 := Lib.splitB_data (bs [c]) 0 (Lib.countB s (bs [c])) s
  have h2 : Lib.countB s (bs [c]) = Lib.count s.data.toList [c] := rfl
  have h3 : (bs [c]).data.toList = [c] := rfl
  rw [h2, h3, splitK_pieces] at h1
  unfold splitS
  rw [← h1, List.map_map, h2]
  conv => lhs; rw [← List.map_id (Lib.splitB _ _ _ _)]
  exact List.map_congr_left fun x _ => by apply ba_ext; rfl
/-! ### Numbers told -/
theorem ofBytes_one {n : Int} {c : UInt8} (h : UInt8.ofNat n.toNat = c) : ofBytes [n] = mkS [c] := by
  apply ba_ext
  rw [mkS_list, ← h]
  rfl
theorem l1Num_dec : ∀ n : Nat, n ≤ 999999999 → Ev (fun k => spec_l1Num k (n : Int)) (decS n) := by
  intro n
  induction n using Nat.strongRecOn with
  | ind n ih =>
    intro hn
    have digit : ∀ d : Nat, d < 10 → ofBytes [w8 (w64 (48 + (d : Int)))] = mkS [UInt8.ofNat (48 + d)] := fun d hd => by
      rw [w64_of (by omega) (by omega), w8_of (by omega) (by omega)]
      exact ofBytes_one (by rw [show (48 + (d : Int)).toNat = 48 + d by omega])
    by_cases h : n < 10
    · refine Ev.step (fun k => spec_l1Num.eq k (n : Int)) (Ev.yes (decide_eq_true (by omega)) (Ev.now' ?_))
      rw [digit n h]
      apply ba_ext
      rw [decS_list, dec_small h]
      rfl
    · have e1 : w64 ((n : Int).tdiv 10) = ((n / 10 : Nat) : Int) := by
        rw [Int.tdiv_eq_ediv_of_nonneg (by omega), w64_of (by omega) (by omega)]
        omega
      have e2 : (n : Int).tmod 10 = ((n % 10 : Nat) : Int) := by
        rw [Int.tmod_eq_emod_of_nonneg (by omega)]
        omega
      have hs := decS_size (n := n / 10) (by omega)
      refine Ev.step (fun k => spec_l1Num.eq k (n : Int)) (Ev.no (decide_eq_false (by omega)) ?_)
      rw [e1, e2]
      refine Ev.bind (ih (n / 10) (by omega) (by omega)) ?_
      rw [digit (n % 10) (by omega)]
      refine Ev.yes (fitS_of (by show _ + 1 < _; omega)) (Ev.now' ?_)
      apply ba_ext
      rw [append_list, decS_list, decS_list, dec_more h]
      rfl
theorem itoa_ev (n : Nat) (h : n ≤ 999999999) : Ev (fun k => strconv_Itoa k (n : Int)) (decS n) := by
  have e : itoaAll (n : Int) = some (decS n) := by
    unfold itoaAll
    rw [if_pos (by omega), Lib.itoa_nonneg]
    rfl
  exact Ev.step (fun k => (strconv_Itoa.eq k (n : Int)).trans e) (Ev.now _)
/-! ### Lists told -/
def joinB (l : List ByteArray) (sep : ByteArray) : ByteArray := mkS (Lib.join (l.map (·.data.toList)) sep.data.toList)
theorem joinB_nil (sep : ByteArray) : joinB [] sep = ByteArray.empty := rfl
theorem joinB_one (x sep : ByteArray) : joinB [x] sep = x := by
  apply ba_ext
  show Lib.join [x.data.toList] sep.data.toList = x.data.toList
  exact Lib.join_one _ _
theorem joinB_snoc (l : List ByteArray) (x sep : ByteArray) (h : l ≠ []) : joinB (l ++ [x]) sep = joinB l sep ++ sep ++ x := by
  cases l with
  | nil => exact absurd rfl h
  | cons a r =>
    apply ba_ext
    rw [append_list, append_list]
    show Lib.join (List.map _ (a :: (r ++ [x]))) _ = Lib.join (List.map _ (a :: r)) _ ++ _ ++ _
    rw [List.map_cons, List.map_cons, Lib.join_cons, Lib.join_cons, List.map_append]
    simp [Lib.joinTail]
theorem joinB_size (sep : ByteArray) (b : Nat) : ∀ (l : List ByteArray), (∀ x ∈ l, x.size + sep.size ≤ b) → (joinB l sep).size ≤ b * l.length
  | [], _ => Nat.zero_le _
  | x :: r, h => by
    have h1 : (joinB (x :: r) sep).size = x.size + (Lib.joinTail sep.data.toList (r.map (·.data.toList))).length := by
      rw [size_list]
      show (Lib.join (List.map _ (x :: r)) _).length = _
      rw [List.map_cons, Lib.join_cons, List.length_append, ← size_list]
    have h2 : ∀ r : List ByteArray, (∀ x ∈ r, x.size + sep.size ≤ b) → (Lib.joinTail sep.data.toList (r.map (·.data.toList))).length ≤ b * r.length := by
      intro r
      induction r with
      | nil => intro _; exact Nat.zero_le _
      | cons y r ih =>
        intro h
        have := ih fun z hz => h z (List.mem_cons_of_mem _ hz)
        have hy := h y (by simp)
        have e : Lib.joinTail sep.data.toList ((y :: r).map (·.data.toList)) = sep.data.toList ++ y.data.toList ++ Lib.joinTail sep.data.toList (r.map (·.data.toList)) := by simp [Lib.joinTail]
        rw [e, List.length_append, List.length_append, ← size_list, ← size_list, List.length_cons, Nat.mul_succ]
        omega
    have := h2 r fun z hz => h z (List.mem_cons_of_mem _ hz)
    have hx := h x (by simp)
    rw [h1, List.length_cons, Nat.mul_succ]
    omega
theorem join_ev (l : List ByteArray) (sep : ByteArray) (h1 : l.length ≤ 1000000) (h2 : (joinB l sep).size ≤ 100000000) : Ev (fun k => strings_Join k (l, sep)) (joinB l sep) := by
  have e : joinS l sep = some (joinB l sep) := by
    unfold joinS
    have : (Lib.join (l.map (·.data.toList)) sep.data.toList).length = (joinB l sep).size := by rw [size_list]; rfl
    rw [if_pos ⟨by omega, by omega⟩]
    rfl
  exact Ev.step (fun k => (strings_Join.eq k (l, sep)).trans e) (Ev.now _)
theorem listText_l_ev (b : ByteArray) (l : List Int) (hl : l.length ≤ 100) (hd : ∀ n ∈ l, 0 ≤ n ∧ n ≤ 999999999) : ∀ (m i : Nat) (parts : List ByteArray), i + m = l.length → parts.length = i → Ev (fun k => impl_listText_l k (b, parts, l, (l.length : Int), (i : Int))) (b, parts ++ (l.drop i).map fun n => decS n.toNat)
  | 0, i, parts, h, hp => Ev.step (fun k => impl_listText_l.eq k b parts l (l.length : Int) (i : Int)) (Ev.no (not_lt_nat (by omega)) (Ev.now' (by rw [List.drop_of_length_le (by omega)]; simp)))
  | m + 1, i, parts, h, hp => by
    obtain ⟨n, hn⟩ := nat_list (l := l) (i := i) (by omega)
    obtain ⟨hlt, he⟩ := List.getElem?_eq_some_iff.1 hn
    obtain ⟨hn0, hn1⟩ := hd n (List.mem_of_getElem? hn)
    refine Ev.step (fun k => impl_listText_l.eq k b parts l (l.length : Int) (i : Int)) (Ev.yes (lt_nat (by omega)) (Ev.yes (inB_nat (by omega)) ?_))
    rw [Int.toNat_natCast, getD_at hn, w64_succ (by omega)]
    have ih := listText_l_ev b l hl hd m (i + 1) (parts ++ [decS n.toNat]) (by omega) (by simp [hp])
    rw [List.append_assoc] at ih
    have hi := itoa_ev n.toNat (by omega)
    rw [Int.toNat_of_nonneg hn0] at hi
    refine Ev.bind hi (Ev.yes (fits_of (by omega)) ?_)
    rw [List.drop_eq_getElem_cons hlt, he, List.map_cons]
    exact ih
theorem listText_ev (b : ByteArray) (l : List Int) (hl : l.length ≤ 100) (hb : b.size ≤ 100) (hd : ∀ n ∈ l, 0 ≤ n ∧ n ≤ 999999999) : Ev (fun k => impl_listText k (b, l)) (joinB (l.map fun n => decS n.toNat) b) := by
  have h := listText_l_ev b l hl hd l.length 0 [] (by omega) rfl
  rw [List.drop_zero, List.nil_append] at h
  have hs := joinB_size b 200 (l.map fun n => decS n.toNat) (fun x hx => by
    obtain ⟨n, hn, rfl⟩ := List.mem_map.1 hx
    have := decS_size (n := n.toNat) (by have := hd n hn; omega)
    omega)
  rw [List.length_map] at hs
  have hj := join_ev (l.map fun n => decS n.toNat) b (by rw [List.length_map]; omega) (by omega)
  exact Ev.step (fun k => impl_listText.eq k b l) (Ev.bind h (Ev.bind hj (Ev.now _)))
def clueT (c : Cl) : ByteArray := decS c.1.toNat ++ bs [46] ++ decS c.2.1.toNat ++ bs [46] ++ decS c.2.2.toNat
theorem clueOk_range {rl : ByteArray} {n : Int} {c : Cl} (h : ClueOk rl n c) (hr : rl.size ≤ 6) (hn : n ≤ 9) : (0 ≤ c.1 ∧ c.1 ≤ 4) ∧ (0 ≤ c.2.1 ∧ c.2.1 ≤ 100) ∧ (0 ≤ c.2.2 ∧ c.2.2 ≤ 100) := by
  unfold ClueOk at h
  omega
theorem clueT_size {c : Cl} (h : (0 ≤ c.1 ∧ c.1 ≤ 4) ∧ (0 ≤ c.2.1 ∧ c.2.1 ≤ 100) ∧ (0 ≤ c.2.2 ∧ c.2.2 ≤ 100)) : (clueT c).size ≤ 29 := by
  have h1 := decS_size (n := c.1.toNat) (by omega)
  have h2 := decS_size (n := c.2.1.toNat) (by omega)
  have h3 := decS_size (n := c.2.2.toNat) (by omega)
  have z : (bs [46]).size = 1 := rfl
  unfold clueT
  simp only [ByteArray.size_append, z]
  omega
def puzT (rl : ByteArray) (w h : Int) (cl : List Cl) : ByteArray := (rl ++ bs [58] ++ decS w.toNat ++ bs [120] ++ decS h.toNat ++ bs [58]) ++ joinB (cl.map clueT) (bs [44])
theorem puzText_ev (rl : ByteArray) (w h : Int) (cl : List Cl) (H : PuzOk rl w h cl) : Ev (fun k => spec_pzText k (rl, w, h, cl)) (puzT rl w h cl) ∧ Ev (fun k => impl_puzzleText k (rl, w, h, cl)) (puzT rl w h cl) := by
  obtain ⟨h1, h2, h3⟩ := id H
  have hm := mul_range (a := w) (b := h) (by have := h1.2.1; omega) (by have := h1.2.1; omega) (by have := h1.2.2.1; omega) (by have := h1.2.2.1; omega)
  have hw := h1.2.1
  have hh := h1.2.2.1
  have hr := h1.1.1
  have hR : ∀ c ∈ cl, (0 ≤ c.1 ∧ c.1 ≤ 4) ∧ (0 ≤ c.2.1 ∧ c.2.1 ≤ 100) ∧ (0 ≤ c.2.2 ∧ c.2.2 ≤ 100) := fun c hc => clueOk_range (h3 c hc) (by omega) h1.2.2.2.1
  have z46 : (bs [46]).size = 1 := rfl
  have z44 : (bs [44]).size = 1 := rfl
  have z58 : (bs [58]).size = 1 := rfl
  have z120 : (bs [120]).size = 1 := rfl
  have num : ∀ n : Int, 0 ≤ n → n ≤ 999999999 → Ev (fun k => spec_l1Num k n) (decS n.toNat) := fun n h0 h1 => by
    have := l1Num_dec n.toNat (by omega)
    rwa [Int.toNat_of_nonneg h0] at this
  have nI : ∀ n : Int, 0 ≤ n → n ≤ 999999999 → Ev (fun k => strconv_Itoa k n) (decS n.toNat) := fun n h0 h1 => by
    have := itoa_ev n.toNat (by omega)
    rwa [Int.toNat_of_nonneg h0] at this
  have sw := decS_size (n := w.toNat) (by omega)
  have sh := decS_size (n := h.toNat) (by omega)
  have jsz : ∀ i, (joinB ((cl.map clueT).take i) (bs [44])).size ≤ 30 * 6 := fun i => by
    have := joinB_size (bs [44]) 30 ((cl.map clueT).take i) (fun x hx => by
      obtain ⟨c, hc, rfl⟩ := List.mem_map.1 (List.mem_of_mem_take hx)
      have := clueT_size (hR c hc)
      omega)
    have hl : ((cl.map clueT).take i).length ≤ 6 := by rw [List.length_take, List.length_map]; omega
    exact Nat.le_trans this (Nat.mul_le_mul_left _ hl)
  have loopS : ∀ (m i : Nat) (pre : ByteArray), pre.size ≤ 100 → i + m = cl.length → Ev (fun k => spec_pzText_l k (pre ++ joinB ((cl.map clueT).take i) (bs [44]), cl, (cl.length : Int), (i : Int))) (pre ++ joinB (cl.map clueT) (bs [44])) := by
    intro m
    induction m with
    | zero =>
      intro i pre hp hi
      exact Ev.step (fun k => spec_pzText_l.eq k _ cl _ _) (Ev.no (not_lt_nat (by omega)) (Ev.now' (by rw [List.take_of_length_le (by rw [List.length_map]; omega)])))
    | succ m ih =>
      intro i pre hp hi
      obtain ⟨c, hc⟩ := nat_list (l := cl) (i := i) (by omega)
      obtain ⟨r1, r2, r3⟩ := hR c (List.mem_of_getElem? hc)
      have d1 := decS_size (n := c.1.toNat) (by omega)
      have d2 := decS_size (n := c.2.1.toNat) (by omega)
      have d3 := decS_size (n := c.2.2.toNat) (by omega)
      have hct := clueT_size (hR c (List.mem_of_getElem? hc))
      have ih' := ih (i + 1) pre hp (by omega)
      have htk : (cl.map clueT).take (i + 1) = (cl.map clueT).take i ++ [clueT c] := by
        rw [List.take_add_one, List.getElem?_map, hc]
        rfl
      have jz := jsz i
      refine Ev.step (fun k => spec_pzText_l.eq k _ cl _ _) (Ev.yes (lt_nat (by omega)) (Ev.yes (inB_nat (by omega)) ?_))
      rw [Int.toNat_natCast, getD_at hc, w64_succ (by omega)]
      by_cases h0 : i = 0
      · subst h0
        have e0 : joinB ((cl.map clueT).take 0) (bs [44]) = ByteArray.empty := by rw [List.take_zero]; exact joinB_nil _
        have e1 : joinB ((cl.map clueT).take (0 + 1)) (bs [44]) = clueT c := by rw [htk, List.take_zero, List.nil_append]; exact joinB_one _ _
        rw [e1] at ih'
        rw [e0]
        have ee : pre ++ ByteArray.empty = pre := by apply ba_ext; rw [append_list]; simp
        rw [ee]
        refine Ev.no rfl (Ev.bind (num c.1 (by omega) (by omega)) (Ev.yes (fitS_of (by omega)) (Ev.bind (num c.2.1 (by omega) (by omega)) ?_)))
        refine Ev.yes (fitS_of (by simp only [ByteArray.size_append]; omega)) (Ev.yes (fitS_of (by simp only [ByteArray.size_append]; omega)) (Ev.bind (num c.2.2 (by omega) (by omega)) ?_))
        refine Ev.yes (fitS_of (by simp only [ByteArray.size_append]; omega)) (Ev.yes (fitS_of (by simp only [ByteArray.size_append]; omega)) ?_)
        exact ih'
      · have e1 : joinB ((cl.map clueT).take (i + 1)) (bs [44]) = joinB ((cl.map clueT).take i) (bs [44]) ++ bs [44] ++ clueT c := by
          rw [htk]
          refine joinB_snoc _ _ _ fun e => ?_
          have := congrArg List.length e
          rw [List.length_take, List.length_map, List.length_nil] at this
          omega
        rw [e1] at ih'
        have ee : pre ++ (joinB ((cl.map clueT).take i) (bs [44]) ++ bs [44] ++ clueT c) = pre ++ joinB ((cl.map clueT).take i) (bs [44]) ++ bs [44] ++ clueT c := by
          apply ba_ext
          simp only [append_list, List.append_assoc]
        rw [ee] at ih'
        refine Ev.yes (decide_eq_true (by omega)) (Ev.yes (fitS_of (by simp only [ByteArray.size_append]; omega)) (Ev.bind (num c.1 (by omega) (by omega)) (Ev.yes (fitS_of (by omega)) (Ev.bind (num c.2.1 (by omega) (by omega)) ?_))))
        refine Ev.yes (fitS_of (by simp only [ByteArray.size_append]; omega)) (Ev.yes (fitS_of (by simp only [ByteArray.size_append]; omega)) (Ev.bind (num c.2.2 (by omega) (by omega)) ?_))
        refine Ev.yes (fitS_of (by simp only [ByteArray.size_append]; omega)) (Ev.yes (fitS_of (by simp only [ByteArray.size_append]; omega)) ?_)
        exact ih'
  have loopI : ∀ (m i : Nat), i + m = cl.length → Ev (fun k => impl_puzzleText_l k ((rl, w, h, cl), (cl.map clueT).take i, (), (cl.length : Int), (i : Int))) ((rl, w, h, cl), cl.map clueT) := by
    intro m
    induction m with
    | zero =>
      intro i hi
      exact Ev.step (fun k => impl_puzzleText_l.eq k rl w h cl _ _ _) (Ev.no (not_lt_nat (by omega)) (Ev.now' (by rw [List.take_of_length_le (by rw [List.length_map]; omega)])))
    | succ m ih =>
      intro i hi
      obtain ⟨c, hc⟩ := nat_list (l := cl) (i := i) (by omega)
      obtain ⟨r1, r2, r3⟩ := hR c (List.mem_of_getElem? hc)
      have ih' := ih (i + 1) (by omega)
      rw [List.take_add_one, List.getElem?_map, hc] at ih'
      have lt := listText_ev (bs [46]) [c.1, c.2.1, c.2.2] (by simp) (by rw [z46]; omega) (by intro n hn; simp at hn; omega)
      have el : joinB ([c.1, c.2.1, c.2.2].map fun n => decS n.toNat) (bs [46]) = clueT c := by
        have e1 := joinB_snoc [decS c.1.toNat, decS c.2.1.toNat] (decS c.2.2.toNat) (bs [46]) (by simp)
        have e2 := joinB_snoc [decS c.1.toNat] (decS c.2.1.toNat) (bs [46]) (by simp)
        have e3 := joinB_one (decS c.1.toNat) (bs [46])
        have e2' : joinB [decS c.1.toNat, decS c.2.1.toNat] (bs [46]) = joinB [decS c.1.toNat] (bs [46]) ++ bs [46] ++ decS c.2.1.toNat := e2
        show joinB ([decS c.1.toNat, decS c.2.1.toNat] ++ [decS c.2.2.toNat]) (bs [46]) = _
        rw [e1, e2', e3]
        rfl
      rw [el] at lt
      refine Ev.step (fun k => impl_puzzleText_l.eq k rl w h cl _ _ _) (Ev.yes (lt_nat (by omega)) (Ev.yes (inB_nat (by omega)) ?_))
      rw [Int.toNat_natCast, getD_at hc, w64_succ (by omega)]
      exact Ev.bind lt (Ev.yes (fits_of (by rw [List.length_take, List.length_map]; omega)) ih')
  have jall := jsz cl.length
  rw [List.take_of_length_le (by rw [List.length_map]; exact Nat.le_refl _)] at jall
  have preS : (rl ++ bs [58] ++ decS w.toNat ++ bs [120] ++ decS h.toNat ++ bs [58]).size ≤ 100 := by
    simp only [ByteArray.size_append]
    omega
  constructor
  · have ls := loopS cl.length 0 _ preS (by omega)
    have e0 : joinB ((cl.map clueT).take 0) (bs [44]) = ByteArray.empty := by rw [List.take_zero]; exact joinB_nil _
    rw [e0] at ls
    have ee : ∀ p : ByteArray, p ++ ByteArray.empty = p := fun p => by apply ba_ext; rw [append_list]; simp
    rw [ee] at ls
    refine Ev.step (fun k => spec_pzText.eq k rl w h cl) (Ev.yes (fitS_of (by omega)) (Ev.bind (num w (by omega) (by omega)) ?_))
    refine Ev.yes (fitS_of (by simp only [ByteArray.size_append]; omega)) (Ev.yes (fitS_of (by simp only [ByteArray.size_append]; omega)) (Ev.bind (num h (by omega) (by omega)) ?_))
    exact Ev.yes (fitS_of (by simp only [ByteArray.size_append]; omega)) (Ev.yes (fitS_of (by simp only [ByteArray.size_append]; omega)) (Ev.bind ls (Ev.now _)))
  · have li := loopI cl.length 0 (by omega)
    rw [List.take_zero] at li
    refine Ev.step (fun k => impl_puzzleText.eq k rl w h cl) (Ev.bind li ?_)
    dsimp only
    refine Ev.yes (fitS_of (by omega)) (Ev.bind (nI w (by omega) (by omega)) ?_)
    refine Ev.yes (fitS_of (by simp only [ByteArray.size_append]; omega)) (Ev.yes (fitS_of (by simp only [ByteArray.size_append]; omega)) (Ev.bind (nI h (by omega) (by omega)) ?_))
    refine Ev.yes (fitS_of (by simp only [ByteArray.size_append]; omega)) (Ev.yes (fitS_of (by simp only [ByteArray.size_append]; omega)) (Ev.bind (join_ev (cl.map clueT) (bs [44]) (by rw [List.length_map]; omega) (by omega)) ?_))
    exact Ev.yes (fitS_of (by simp only [ByteArray.size_append] at preS ⊢; omega)) (Ev.now _)

theorem guSolutions_ev (rl : ByteArray) (w h : Int) (cl : List Cl) (hrl : rl.size ≤ 9223372036854775807) : (PuzOk rl w h cl ∧ (solC rl w h cl).length ≤ 300 ∧ Ev (fun k => impl_Solutions k (rl, w, h, cl)) (solC rl w h cl, true) ∧ Ev (fun k => spec_Solutions k (rl, w, h, cl)) (solC rl w h cl, true) ∧ Ev (fun k => impl_CountSolutions k (rl, w, h, cl)) (((solC rl w h cl).length : Int), true) ∧ Ev (fun k => spec_CountSolutions k (rl, w, h, cl)) (((solC rl w h cl).length : Int), true) ∧ Ev (fun k => impl_IsSolved k (rl, w, h, cl)) ((((solC rl w h cl).length : Int) == 1), true) ∧ Ev (fun k => spec_IsSolved k (rl, w, h, cl)) ((((solC rl w h cl).length : Int) == 1), true)) ∨
    (¬ PuzOk rl w h cl ∧ Ev (fun k => impl_Solutions k (rl, w, h, cl)) ([], false) ∧ Ev (fun k => spec_Solutions k (rl, w, h, cl)) ([], false) ∧ Ev (fun k => impl_CountSolutions k (rl, w, h, cl)) (0, false) ∧ Ev (fun k => spec_CountSolutions k (rl, w, h, cl)) (0, false) ∧ Ev (fun k => impl_IsSolved k (rl, w, h, cl)) (false, false) ∧ Ev (fun k => spec_IsSolved k (rl, w, h, cl)) (false, false)) := by
  rcases solutions_ev rl w h cl hrl with ⟨H, hl, i, g, s⟩ | ⟨H, i, g⟩
  · exact .inl ⟨H, hl, i, Ev.step (fun k => spec_Solutions.eq k rl w h cl) (Ev.bind g (Ev.no rfl (Ev.bind s (Ev.now _)))), Ev.step (fun k => impl_CountSolutions.eq k rl w h cl) (Ev.bind i (Ev.now _)), Ev.step (fun k => spec_CountSolutions.eq k rl w h cl) (Ev.bind g (Ev.no rfl (Ev.bind s (Ev.now _)))),
      Ev.step (fun k => impl_IsSolved.eq k rl w h cl) (Ev.bind (Ev.step (fun k => impl_CountSolutions.eq k rl w h cl) (Ev.bind i (Ev.now _))) (Ev.now _)),
      Ev.step (fun k => spec_IsSolved.eq k rl w h cl) (Ev.bind g (Ev.no rfl (Ev.bind (Ev.step (fun k => spec_pzSolved.eq k rl w h cl) (Ev.bind (Ev.step (fun k => spec_pzWith.eq k rl w h cl) (Ev.now _)) (Ev.bind s (Ev.now _)))) (Ev.now _))))⟩
  · exact .inr ⟨H, i, Ev.step (fun k => spec_Solutions.eq k rl w h cl) (Ev.bind g (Ev.yes rfl (Ev.now _))), Ev.step (fun k => impl_CountSolutions.eq k rl w h cl) (Ev.bind i (Ev.now _)), Ev.step (fun k => spec_CountSolutions.eq k rl w h cl) (Ev.bind g (Ev.yes rfl (Ev.now _))),
      Ev.step (fun k => impl_IsSolved.eq k rl w h cl) (Ev.bind (Ev.step (fun k => impl_CountSolutions.eq k rl w h cl) (Ev.bind i (Ev.now _))) (Ev.now _)),
      Ev.step (fun k => spec_IsSolved.eq k rl w h cl) (Ev.bind g (Ev.yes rfl (Ev.now _)))⟩
theorem guFirst_ev (rl : ByteArray) (w h : Int) (cl : List Cl) (hrl : rl.size ≤ 9223372036854775807) : (PuzOk rl w h cl → ∀ f, (solC rl w h cl)[0]? = some f → Ev (fun k => impl_FirstSolution k (rl, w, h, cl)) (f, true) ∧ Ev (fun k => spec_FirstSolution k (rl, w, h, cl)) (f, true)) ∧
    (¬ (PuzOk rl w h cl ∧ 0 < (solC rl w h cl).length) → Ev (fun k => impl_FirstSolution k (rl, w, h, cl)) (ByteArray.empty, false) ∧ Ev (fun k => spec_FirstSolution k (rl, w, h, cl)) (ByteArray.empty, false)) := by
  rcases solutions_ev rl w h cl hrl with ⟨H, _, i, g, s⟩ | ⟨H, i, g⟩
  · revert i s
    generalize solC rl w h cl = l
    intro i s
    constructor
    · intro _ f hf
      have hlt := (List.getElem?_eq_some_iff.1 hf).1
      have n0 : ((l.length : Int) == 0) = false := by rw [beq_eq_false_iff_ne]; omega
      have b0 : inB 0 l.length = true := inB_of (by omega) (by omega)
      have e : l.getD ((0 : Int).toNat) default = f := getD_at hf
      constructor
      · refine Ev.step (fun k => impl_FirstSolution.eq k rl w h cl) (Ev.bind i (Ev.no n0 (Ev.yes b0 (Ev.now' ?_))))
        show (l.getD ((0 : Int).toNat) default, true) = _
        rw [e]
      · refine Ev.step (fun k => spec_FirstSolution.eq k rl w h cl) (Ev.bind g (Ev.no rfl (Ev.bind s (Ev.no n0 (Ev.yes b0 (Ev.now' ?_))))))
        show (l.getD ((0 : Int).toNat) default, true) = _
        rw [e]
    · intro h0
      have h0 : l.length = 0 := by
        have : ¬ 0 < l.length := fun q => h0 ⟨H, q⟩
        omega
      exact ⟨Ev.step (fun k => impl_FirstSolution.eq k rl w h cl) (Ev.bind i (Ev.yes (by rw [beq_iff_eq]; show (l.length : Int) = 0; omega) (Ev.now _))), Ev.step (fun k => spec_FirstSolution.eq k rl w h cl) (Ev.bind g (Ev.no rfl (Ev.bind s (Ev.yes (by rw [beq_iff_eq]; show (l.length : Int) = 0; omega) (Ev.now _)))))⟩
  · exact ⟨fun q => absurd q H, fun _ => ⟨Ev.step (fun k => impl_FirstSolution.eq k rl w h cl) (Ev.bind i (Ev.yes rfl (Ev.now _))), Ev.step (fun k => spec_FirstSolution.eq k rl w h cl) (Ev.bind g (Ev.yes rfl (Ev.now _)))⟩⟩
theorem guLeft_ev (rl : ByteArray) (w h : Int) (cl : List Cl) (hrl : rl.size ≤ 9223372036854775807) : (PuzOk rl w h cl → ∃ v : List Int, v.length = cl.length + 1 ∧ (∀ j, j ≤ cl.length → v[j]? = some ((solC rl w h (cl.take j)).length : Int)) ∧ Ev (fun k => spec_LeftByClues k (rl, w, h, cl)) (v, true) ∧ Ev (fun k => impl_LeftByClues k (rl, w, h, cl)) (v, true)) ∧
    (¬ PuzOk rl w h cl → Ev (fun k => spec_LeftByClues k (rl, w, h, cl)) ([], false) ∧ Ev (fun k => impl_LeftByClues k (rl, w, h, cl)) ([], false)) := by
  have a1 := isPuzzle_ev rl w h cl hrl
  have a2 := pzGood_ev rl w h cl
  constructor
  rotate_left
  · intro H
    exact ⟨Ev.step (fun k => spec_LeftByClues.eq k rl w h cl) (Ev.bind (a2.isF H) (Ev.yes rfl (Ev.now _))), Ev.step (fun k => impl_LeftByClues.eq k rl w h cl) (Ev.bind (a1.isF H) (Ev.yes rfl (Ev.now _)))⟩
  intro H
  obtain ⟨h1, h2, h3⟩ := id H
  have loop : ∀ (m i : Nat) (out : List Int), i + m = cl.length + 1 → out.length = i → (∀ j, j < i → out[j]? = some ((solC rl w h (cl.take j)).length : Int)) → ∃ v : List Int, (v.length = cl.length + 1 ∧ ∀ j, j ≤ cl.length → v[j]? = some ((solC rl w h (cl.take j)).length : Int)) ∧ Ev (fun k => spec_LeftByClues_l k ((rl, w, h, cl), out, (i : Int))) v ∧ Ev (fun k => impl_LeftByClues_l k ((rl, w, h, cl), out, ((cl.length + 1 : Nat) : Int), (i : Int))) v := by
    intro m
    induction m with
    | zero =>
      intro i out hi ho hj
      exact ⟨out, ⟨by omega, fun j h => hj j (by omega)⟩, Ev.step (fun k => spec_LeftByClues_l.eq k rl w h cl out (i : Int)) (Ev.no (decide_eq_false (by omega)) (Ev.now _)), Ev.step (fun k => impl_LeftByClues_l.eq k rl w h cl out ((cl.length + 1 : Nat) : Int) (i : Int)) (Ev.no (not_lt_nat (by omega)) (Ev.now _))⟩
    | succ m ih =>
      intro i out hi ho hj
      have hsub : ∀ c ∈ cl.take i, ClueOk rl (w * h) c := fun c hc => h3 c (List.mem_of_mem_take hc)
      have hsl : (cl.take i).length ≤ 6 := by rw [List.length_take]; omega
      have wS := pzAll_ev rl w h h1 (cl.take i) hsl hsub
      have wI := impl_Puzzle_with_ev rl w h h1 (cl.take i) hsl hsub cl
      have hb : ((decide ((0 : Int) ≤ (i : Int))) && (decide ((i : Int) ≤ (cl.length : Int)))) = true := by
        rw [decide_eq_true (by omega), decide_eq_true (by omega)]
        rfl
      obtain ⟨v, v0, v1, v2⟩ := ih (i + 1) (out ++ [((solC rl w h (cl.take i)).length : Int)]) (by omega) (by simp; omega) (fun j hj' => by
        by_cases e : j < i
        · rw [List.getElem?_append_left (by omega)]; exact hj j e
        · obtain rfl : j = i := by omega
          rw [List.getElem?_append_right (by omega), ho, Nat.sub_self]
          rfl)
      refine ⟨v, v0, ?_, ?_⟩
      · refine Ev.step (fun k => spec_LeftByClues_l.eq k rl w h cl out (i : Int)) (Ev.yes (decide_eq_true (by omega)) (Ev.yes hb ?_))
        rw [Int.toNat_natCast, w64_succ (by omega)]
        exact Ev.bind (Ev.step (fun k => spec_pzWith_2.eq k rl w h cl (cl.take i)) (Ev.now _)) (Ev.bind wS (Ev.yes (fits_of (by omega)) v1))
      · refine Ev.step (fun k => impl_LeftByClues_l.eq k rl w h cl out ((cl.length + 1 : Nat) : Int) (i : Int)) (Ev.yes (lt_nat (by omega)) (Ev.yes hb ?_))
        rw [Int.toNat_natCast, w64_succ (by omega)]
        exact Ev.bind wI (Ev.yes (fits_of (by omega)) v2)
  obtain ⟨v, v0, v1, v2⟩ := loop (cl.length + 1) 0 [] (by omega) (by simp) (fun j h => by omega)
  refine ⟨v, v0.1, v0.2, Ev.step (fun k => spec_LeftByClues.eq k rl w h cl) (Ev.bind (a2.isT H) (Ev.no rfl (Ev.bind v1 (Ev.now _)))), Ev.step (fun k => impl_LeftByClues.eq k rl w h cl) (Ev.bind (a1.isT H) (Ev.no rfl ?_))⟩
  rw [w64_succ (by omega)]
  exact Ev.bind v2 (Ev.now _)
theorem guSub_ok {rl : ByteArray} {n : Int} {cl l : List Cl} (h : ∀ c ∈ cl, ClueOk rl n c) (hs : ∀ c ∈ l, c ∈ cl) : ∀ c ∈ l, ClueOk rl n c := fun c hc => h c (hs c hc)
theorem guBest_ev (rl : ByteArray) (w h : Int) (cl : List Cl) (hrl : rl.size ≤ 9223372036854775807) : (PuzOk rl w h cl ∧ 0 < cl.length → ∃ v : Int, (0 ≤ v ∧ v < (cl.length : Int)) ∧ Ev (fun k => spec_BestClue k (rl, w, h, cl)) (v, true) ∧ Ev (fun k => impl_BestClue k (rl, w, h, cl)) (v, true)) ∧
    (¬ (PuzOk rl w h cl ∧ 0 < cl.length) → Ev (fun k => spec_BestClue k (rl, w, h, cl)) (0, false) ∧ Ev (fun k => impl_BestClue k (rl, w, h, cl)) (0, false)) := by
  have a1 := isPuzzle_ev rl w h cl hrl
  have a2 := pzGood_ev rl w h cl
  by_cases H : PuzOk rl w h cl
  rotate_left
  · exact ⟨fun q => absurd q.1 H, fun _ => ⟨Ev.step (fun k => spec_BestClue.eq k rl w h cl) (Ev.bind (a2.isF H) (Ev.yes rfl (Ev.now _))), Ev.step (fun k => impl_BestClue.eq k rl w h cl) (Ev.bind (a1.isF H) (Ev.yes rfl (Ev.now _)))⟩⟩
  obtain ⟨h1, h2, h3⟩ := id H
  by_cases h0 : cl.length = 0
  · have e0 : ((cl.length : Int) == 0) = true := by rw [beq_iff_eq]; omega
    exact ⟨fun q => by omega, fun _ => ⟨Ev.step (fun k => spec_BestClue.eq k rl w h cl) (Ev.bind (a2.isT H) (Ev.no rfl (Ev.yes e0 (Ev.now _)))), Ev.step (fun k => impl_BestClue.eq k rl w h cl) (Ev.bind (a1.isT H) (Ev.no rfl (Ev.yes e0 (Ev.now _))))⟩⟩
  have e0 : ((cl.length : Int) == 0) = false := by rw [beq_eq_false_iff_ne]; omega
  have loop : ∀ (m i : Nat) (best fewest least : Int), i + m = cl.length → (i = 0 ∧ fewest = -1 ∧ least = 0) ∨ (0 < i ∧ fewest = least ∧ 0 ≤ least) → 0 ≤ best ∧ best < (cl.length : Int) → ∃ v, (0 ≤ v ∧ v < (cl.length : Int)) ∧ Ev (fun k => spec_BestClue_l k ((rl, w, h, cl), best, least, (cl.length : Int), (i : Int))) v ∧ Ev (fun k => impl_BestClue_l k ((rl, w, h, cl), best, fewest, (cl.length : Int), (i : Int))) v := by
    intro m
    induction m with
    | zero =>
      intro i best fewest least hi _ hb0
      exact ⟨best, hb0, Ev.step (fun k => spec_BestClue_l.eq k rl w h cl best least (cl.length : Int) (i : Int)) (Ev.no (not_lt_nat (by omega)) (Ev.now _)), Ev.step (fun k => impl_BestClue_l.eq k rl w h cl best fewest (cl.length : Int) (i : Int)) (Ev.no (not_lt_nat (by omega)) (Ev.now _))⟩
    | succ m ih =>
      intro i best fewest least hi hst hb0
      have e1 : w64 ((i : Int) + 1) = ((i + 1 : Nat) : Int) := w64_succ (by omega)
      have hb : (((decide ((0 : Int) ≤ (((i + 1 : Nat) : Int)))) && (decide ((((i + 1 : Nat) : Int)) ≤ (cl.length : Int)))) && ((decide ((0 : Int) ≤ (i : Int))) && (decide ((i : Int) ≤ (((i + 1 : Nat) : Int)))))) = true := by
        rw [decide_eq_true (by omega), decide_eq_true (by omega), decide_eq_true (by omega), decide_eq_true (by omega)]
        rfl
      obtain ⟨sub, hsubE⟩ : ∃ sub, sub = (cl.drop i).take (i + 1 - i) := ⟨_, rfl⟩
      have hsub : ∀ c ∈ sub, ClueOk rl (w * h) c := guSub_ok h3 fun c hc => by
        rw [hsubE] at hc
        exact List.mem_of_mem_drop (List.mem_of_mem_take hc)
      have hsl : sub.length ≤ 6 := by rw [hsubE, List.length_take, List.length_drop]; omega
      have wS := pzAll_ev rl w h h1 sub hsl hsub
      have wI := impl_Puzzle_with_ev rl w h h1 sub hsl hsub cl
      have S : ∀ r, Ev (fun k => cond ((i : Int) == 0) (spec_BestClue_l k ((rl, w, h, cl), (i : Int), ((solC rl w h sub).length : Int), (cl.length : Int), ((i + 1 : Nat) : Int))) (cond (decide (((solC rl w h sub).length : Int) < least)) (spec_BestClue_l k ((rl, w, h, cl), (i : Int), ((solC rl w h sub).length : Int), (cl.length : Int), ((i + 1 : Nat) : Int))) (spec_BestClue_l k ((rl, w, h, cl), best, least, (cl.length : Int), ((i + 1 : Nat) : Int))))) r → Ev (fun k => spec_BestClue_l k ((rl, w, h, cl), best, least, (cl.length : Int), (i : Int))) r := fun r Hr => by
        refine Ev.step (fun k => spec_BestClue_l.eq k rl w h cl best least (cl.length : Int) (i : Int)) (Ev.yes (lt_nat (by omega)) ?_)
        rw [e1]
        refine Ev.yes hb ?_
        rw [Int.toNat_natCast, Int.toNat_natCast, ← hsubE]
        exact Ev.bind (Ev.step (fun k => spec_pzWith_2.eq k rl w h cl sub) (Ev.now _)) (Ev.bind wS Hr)
      have I : ∀ r, Ev (fun k => cond (decide (fewest < 0)) (impl_BestClue_l k ((rl, w, h, cl), (i : Int), ((solC rl w h sub).length : Int), (cl.length : Int), ((i + 1 : Nat) : Int))) (cond (decide (((solC rl w h sub).length : Int) < fewest)) (impl_BestClue_l k ((rl, w, h, cl), (i : Int), ((solC rl w h sub).length : Int), (cl.length : Int), ((i + 1 : Nat) : Int))) (impl_BestClue_l k ((rl, w, h, cl), best, fewest, (cl.length : Int), ((i + 1 : Nat) : Int))))) r → Ev (fun k => impl_BestClue_l k ((rl, w, h, cl), best, fewest, (cl.length : Int), (i : Int))) r := fun r Hr => by
        refine Ev.step (fun k => impl_BestClue_l.eq k rl w h cl best fewest (cl.length : Int) (i : Int)) (Ev.yes (lt_nat (by omega)) ?_)
        rw [e1]
        refine Ev.yes hb ?_
        rw [Int.toNat_natCast, Int.toNat_natCast, ← hsubE]
        exact Ev.bind wI Hr
      have hn : (0 : Int) ≤ ((solC rl w h sub).length : Int) := by omega
      revert S I hn
      generalize ((solC rl w h sub).length : Int) = z
      intro S I hn
      rcases hst with ⟨i0, f0, l0⟩ | ⟨i0, f0, l0⟩
      · obtain ⟨v, v0, v1, v2⟩ := ih (i + 1) (i : Int) z z (by omega) (.inr ⟨by omega, rfl, hn⟩) (by omega)
        exact ⟨v, v0, S _ (Ev.yes (by rw [beq_iff_eq]; omega) v1), I _ (Ev.yes (decide_eq_true (by omega)) v2)⟩
      · have hi0 : ((i : Int) == 0) = false := by rw [beq_eq_false_iff_ne]; omega
        by_cases hz : z < least
        · obtain ⟨v, v0, v1, v2⟩ := ih (i + 1) (i : Int) z z (by omega) (.inr ⟨by omega, rfl, hn⟩) (by omega)
          exact ⟨v, v0, S _ (Ev.no hi0 (Ev.yes (decide_eq_true hz) v1)), I _ (Ev.no (decide_eq_false (by omega)) (Ev.yes (decide_eq_true (by omega)) v2))⟩
        · obtain ⟨v, v0, v1, v2⟩ := ih (i + 1) best fewest least (by omega) (.inr ⟨by omega, f0, l0⟩) hb0
          exact ⟨v, v0, S _ (Ev.no hi0 (Ev.no (decide_eq_false hz) v1)), I _ (Ev.no (decide_eq_false (by omega)) (Ev.no (decide_eq_false (by omega)) v2))⟩
  obtain ⟨v, v0, v1, v2⟩ := loop cl.length 0 0 (-1) 0 (by omega) (.inl ⟨rfl, rfl, rfl⟩) (by omega)
  refine ⟨fun _ => ⟨v, v0, Ev.step (fun k => spec_BestClue.eq k rl w h cl) (Ev.bind (a2.isT H) (Ev.no rfl (Ev.no e0 (Ev.bind v1 (Ev.now _))))), Ev.step (fun k => impl_BestClue.eq k rl w h cl) (Ev.bind (a1.isT H) (Ev.no rfl (Ev.no e0 (Ev.bind v2 (Ev.now _)))))⟩, fun q => absurd ⟨H, by omega⟩ q⟩
theorem guNeed_ev (rl : ByteArray) (w h : Int) (cl : List Cl) (hrl : rl.size ≤ 9223372036854775807) : (PuzOk rl w h cl → ∃ v : List Int, v.length ≤ cl.length ∧ (∀ j, j < cl.length → ((j : Int) ∈ v ↔ (solC rl w h (woC cl j)).length = (solC rl w h cl).length)) ∧ Ev (fun k => spec_NeedlessClues k (rl, w, h, cl)) (v, true) ∧ Ev (fun k => impl_NeedlessClues k (rl, w, h, cl)) (v, true)) ∧
    (¬ PuzOk rl w h cl → Ev (fun k => spec_NeedlessClues k (rl, w, h, cl)) ([], false) ∧ Ev (fun k => impl_NeedlessClues k (rl, w, h, cl)) ([], false)) := by
  rcases solutions_ev rl w h cl hrl with ⟨H, hsl, q1, q2, q3⟩ | ⟨H, q1, q2⟩
  rotate_left
  · exact ⟨fun q => absurd q H, fun _ => ⟨Ev.step (fun k => spec_NeedlessClues.eq k rl w h cl) (Ev.bind q2 (Ev.yes rfl (Ev.now _))), Ev.step (fun k => impl_NeedlessClues.eq k rl w h cl) (Ev.bind (Ev.step (fun k => impl_CountSolutions.eq k rl w h cl) (Ev.bind q1 (Ev.now _))) (Ev.yes rfl (Ev.now _)))⟩⟩
  obtain ⟨h1, h2, h3⟩ := id H
  have fin : ∀ many : Int, ∃ v : List Int, (v.length ≤ cl.length ∧ (∀ j, j < cl.length → ((j : Int) ∈ v ↔ ((solC rl w h (woC cl j)).length : Int) = many))) ∧ Ev (fun k => spec_NeedlessClues_l k ((rl, w, h, cl), [], many, (cl.length : Int), 0)) v ∧ Ev (fun k => impl_NeedlessClues_l k ((rl, w, h, cl), many, [], (cl.length : Int), 0)) v := by
   intro many
   have loop : ∀ (m i : Nat) (out : List Int), i + m = cl.length → out.length ≤ i → (∀ z ∈ out, z < (i : Int)) → (∀ j, j < i → ((j : Int) ∈ out ↔ ((solC rl w h (woC cl j)).length : Int) = many)) → ∃ v : List Int, (v.length ≤ cl.length ∧ (∀ j, j < cl.length → ((j : Int) ∈ v ↔ ((solC rl w h (woC cl j)).length : Int) = many))) ∧ Ev (fun k => spec_NeedlessClues_l k ((rl, w, h, cl), out, many, (cl.length : Int), (i : Int))) v ∧ Ev (fun k => impl_NeedlessClues_l k ((rl, w, h, cl), many, out, (cl.length : Int), (i : Int))) v := by
     intro m
     induction m with
     | zero =>
       intro i out hi ho hz hj
       exact ⟨out, ⟨by omega, fun j h => hj j (by omega)⟩, Ev.step (fun k => spec_NeedlessClues_l.eq k rl w h cl out many (cl.length : Int) (i : Int)) (Ev.no (not_lt_nat (by omega)) (Ev.now _)), Ev.step (fun k => impl_NeedlessClues_l.eq k rl w h cl many out (cl.length : Int) (i : Int)) (Ev.no (not_lt_nat (by omega)) (Ev.now _))⟩
     | succ m ih =>
       intro i out hi ho hz hj
       have hn : i < cl.length := by omega
       have hwl := woC_len hn
       have hsub : ∀ c ∈ woC cl i, ClueOk rl (w * h) c := fun c hc => h3 c (woC_mem hc)
       have wS := pzAll_ev rl w h h1 (woC cl i) (by omega) hsub
       have wI := impl_Puzzle_with_ev rl w h h1 (woC cl i) (by omega) hsub cl
       have pS := pzWithout_ev cl (by omega) i hn
       have pI := dropped_ev cl (by omega) i hn
       have goS : ∀ r, Ev (fun k => cond (((solC rl w h (woC cl i)).length : Int) == many) (cond (fits (out.length + 1) 8) (spec_NeedlessClues_l k ((rl, w, h, cl), out ++ [(i : Int)], many, (cl.length : Int), ((i + 1 : Nat) : Int))) none) (spec_NeedlessClues_l k ((rl, w, h, cl), out, many, (cl.length : Int), ((i + 1 : Nat) : Int)))) r → Ev (fun k => spec_NeedlessClues_l k ((rl, w, h, cl), out, many, (cl.length : Int), (i : Int))) r := fun r hr => by
         refine Ev.step (fun k => spec_NeedlessClues_l.eq k rl w h cl out many (cl.length : Int) (i : Int)) (Ev.yes (lt_nat hn) (Ev.bind pS (Ev.bind (Ev.step (fun k => spec_pzWith_2.eq k rl w h cl (woC cl i)) (Ev.now _)) (Ev.bind wS ?_))))
         rw [w64_succ (by omega)]
         exact hr
       have goI : ∀ r, Ev (fun k => cond (((solC rl w h (woC cl i)).length : Int) == many) (cond (fits (out.length + 1) 8) (impl_NeedlessClues_l k ((rl, w, h, cl), many, out ++ [(i : Int)], (cl.length : Int), ((i + 1 : Nat) : Int))) none) (impl_NeedlessClues_l k ((rl, w, h, cl), many, out, (cl.length : Int), ((i + 1 : Nat) : Int)))) r → Ev (fun k => impl_NeedlessClues_l k ((rl, w, h, cl), many, out, (cl.length : Int), (i : Int))) r := fun r hr => by
         refine Ev.step (fun k => impl_NeedlessClues_l.eq k rl w h cl many out (cl.length : Int) (i : Int)) (Ev.yes (lt_nat hn) (Ev.bind pI (Ev.bind wI ?_)))
         rw [w64_succ (by omega)]
         exact hr
       have hf : fits (out.length + 1) 8 = true := fits_of (by omega)
       cases hc : (((solC rl w h (woC cl i)).length : Int) == many) with
       | true =>
         obtain ⟨v, v0, v1, v2⟩ := ih (i + 1) (out ++ [(i : Int)]) (by omega) (by simp; omega) (fun z hzm => by
           rcases List.mem_append.1 hzm with q | q
           · have := hz z q; omega
           · have := List.mem_singleton.1 q; omega) (fun j hj' => by
           by_cases e : j < i
           · rw [List.mem_append, hj j e, List.mem_singleton]
             exact ⟨fun q => q.elim id fun q => by omega, .inl⟩
           · obtain rfl : j = i := by omega
             exact ⟨fun _ => beq_iff_eq.1 hc, fun _ => List.mem_append_right _ (List.mem_singleton.2 rfl)⟩)
         exact ⟨v, v0, goS _ (Ev.yes hc (Ev.yes hf v1)), goI _ (Ev.yes hc (Ev.yes hf v2))⟩
       | false =>
         obtain ⟨v, v0, v1, v2⟩ := ih (i + 1) out (by omega) (by omega) (fun z hzm => by have := hz z hzm; omega) (fun j hj' => by
           by_cases e : j < i
           · exact hj j e
           · obtain rfl : j = i := by omega
             exact ⟨fun q => by have := hz _ q; omega, fun q => absurd q (beq_eq_false_iff_ne.1 hc)⟩)
         exact ⟨v, v0, goS _ (Ev.no hc v1), goI _ (Ev.no hc v2)⟩
   exact loop cl.length 0 [] (by omega) (by simp) (by simp) (fun j h => by omega)
  obtain ⟨v, v0, v1, v2⟩ := fin ((solC rl w h cl).length : Int)
  refine ⟨fun _ => ⟨v, v0.1, fun j h => by rw [v0.2 j h]; omega, Ev.step (fun k => spec_NeedlessClues.eq k rl w h cl) (Ev.bind q2 (Ev.no rfl (Ev.bind q3 (Ev.bind v1 (Ev.now _))))), Ev.step (fun k => impl_NeedlessClues.eq k rl w h cl) (Ev.bind (Ev.step (fun k => impl_CountSolutions.eq k rl w h cl) (Ev.bind q1 (Ev.now _))) (Ev.no rfl (Ev.bind v2 (Ev.now _))))⟩, fun q => absurd H q⟩
theorem guText_ev (rl : ByteArray) (w h : Int) (cl : List Cl) (hrl : rl.size ≤ 9223372036854775807) : (PuzOk rl w h cl → Ev (fun k => impl_PuzzleText k (rl, w, h, cl)) (puzT rl w h cl, true) ∧ Ev (fun k => spec_PuzzleText k (rl, w, h, cl)) (puzT rl w h cl, true)) ∧
    (¬ PuzOk rl w h cl → Ev (fun k => impl_PuzzleText k (rl, w, h, cl)) (ByteArray.empty, false) ∧ Ev (fun k => spec_PuzzleText k (rl, w, h, cl)) (ByteArray.empty, false)) := by
  have a1 := isPuzzle_ev rl w h cl hrl
  have a2 := pzGood_ev rl w h cl
  constructor
  · intro H
    obtain ⟨t1, t2⟩ := puzText_ev rl w h cl H
    exact ⟨Ev.step (fun k => impl_PuzzleText.eq k rl w h cl) (Ev.bind (a1.isT H) (Ev.no rfl (Ev.bind t2 (Ev.now _)))), Ev.step (fun k => spec_PuzzleText.eq k rl w h cl) (Ev.bind (a2.isT H) (Ev.no rfl (Ev.bind t1 (Ev.now _))))⟩
  · intro H
    exact ⟨Ev.step (fun k => impl_PuzzleText.eq k rl w h cl) (Ev.bind (a1.isF H) (Ev.yes rfl (Ev.now _))), Ev.step (fun k => spec_PuzzleText.eq k rl w h cl) (Ev.bind (a2.isF H) (Ev.yes rfl (Ev.now _)))⟩
theorem guSub_one {cs : ByteArray} {i : Nat} {c : UInt8} (h : cs.data.toList[i]? = some c) : cs.extract i (i + 1) = ofBytes [(c.toNat : Int)] := by
  apply ba_ext
  obtain ⟨hlt, he⟩ := List.getElem?_eq_some_iff.1 h
  rw [extract_list, List.drop_take, show i + 1 - i = 1 by omega, List.drop_eq_getElem_cons hlt, he]
  show [c] = [UInt8.ofNat (Int.toNat (c.toNat : Int))]
  rw [Int.toNat_natCast]
  simp
theorem guOfBytes_append (a : List Int) (n : Int) : ofBytes a ++ ofBytes [n] = ofBytes (a ++ [n]) := by
  apply ba_ext
  rw [append_list]
  unfold ofBytes
  simp
theorem guOne_inj {c d : UInt8} : strEq (ofBytes [(c.toNat : Int)]) (ofBytes [(d.toNat : Int)]) = true ↔ c = d := by
  rw [strEq_iff]
  constructor
  · intro h
    have h := congrArg (fun b : ByteArray => b.data.toList) h
    have h : [UInt8.ofNat (Int.toNat (c.toNat : Int))] = [UInt8.ofNat (Int.toNat (d.toNat : Int))] := h
    rw [Int.toNat_natCast, Int.toNat_natCast] at h
    simpa using h
  · intro h
    rw [h]
def Dj (l : List ByteArray) (f : ByteArray) (j q : Nat) : Prop := ∃ (t : Nat) (s : ByteArray) (c d : UInt8), t < j ∧ l[t]? = some s ∧ s.data.toList[q]? = some c ∧ f.data.toList[q]? = some d ∧ c ≠ d
open Classical in
noncomputable def valI (l : List ByteArray) (f : ByteArray) (j q : Nat) : Int := if Dj l f j q then 63 else bt f q
open Classical in
theorem valI_yes {l : List ByteArray} {f : ByteArray} {j q : Nat} (h : Dj l f j q) : valI l f j q = 63 := if_pos h
open Classical in
theorem valI_no {l : List ByteArray} {f : ByteArray} {j q : Nat} (h : ¬ Dj l f j q) : valI l f j q = bt f q := if_neg h
section
variable (l : List ByteArray) (f : ByteArray) (n : Nat) (hf : l[0]? = some f) (hn : ∀ s ∈ l, s.size = n) (hl : l.length ≤ 300) (hn9 : n ≤ 100)
include hf hn hl hn9
theorem guFsize : f.size = n := by
  have := hl
  have := hn9
  exact hn f (List.mem_of_getElem? hf)
theorem guG0 : l.getD ((0 : Int).toNat) default = f := by
  have := hl
  have := hn9
  have := hn
  exact getD_at hf
theorem guG0b : l.getD 0 default = f := by
  have := hl
  have := hn9
  have := hn
  exact getD_at hf
theorem guSpecIn_ev (rl : ByteArray) (w h : Int) (cl : List Cl) (out : ByteArray) (q : Nat) (hq : q < n) : Ev (fun k => spec_SureCells_l_l k ((rl, w, h, cl), l, out, (q : Int), f.extract q (q + 1), (), (l.length : Int), 0)) ((rl, w, h, cl), l, out, (q : Int), ofBytes [valI l f l.length q]) := by
  have hfs := guFsize l f n hf hn hl hn9
  obtain ⟨d, hd⟩ := nat_list (l := f.data.toList) (i := q) (by rw [← size_list]; omega)
  have hbd := bt_at hd
  rw [guSub_one hd]
  have e1 : w64 ((q : Int) + 1) = ((q + 1 : Nat) : Int) := w64_succ (by omega)
  have step : ∀ (i : Nat) (s : ByteArray) (c : UInt8), l[i]? = some s → s.data.toList[q]? = some c → ∀ r, Ev (fun k => cond (!(strEq (ofBytes [(c.toNat : Int)]) (ofBytes [(d.toNat : Int)]))) (some ((rl, w, h, cl), l, out, (q : Int), bs [63])) (spec_SureCells_l_l k ((rl, w, h, cl), l, out, (q : Int), ofBytes [(d.toNat : Int)], (), (l.length : Int), w64 ((i : Int) + 1)))) r →
      Ev (fun k => spec_SureCells_l_l k ((rl, w, h, cl), l, out, (q : Int), ofBytes [(d.toNat : Int)], (), (l.length : Int), (i : Int))) r := fun i s c hs hc r Hr => by
    have hi := (List.getElem?_eq_some_iff.1 hs).1
    have hsz := hn s (List.mem_of_getElem? hs)
    refine Ev.step (fun k => spec_SureCells_l_l.eq k rl w h cl l out (q : Int) (ofBytes [(d.toNat : Int)]) (l.length : Int) (i : Int)) (Ev.yes (lt_nat hi) (Ev.yes (inB_nat hi) ?_))
    rw [e1, Int.toNat_natCast, getD_at hs, Int.toNat_natCast, Int.toNat_natCast, guSub_one hc]
    exact Ev.yes (by rw [decide_eq_true (by omega), decide_eq_true (by omega), decide_eq_true (by omega), decide_eq_true (by omega)]; rfl) Hr
  have byte : ∀ (i : Nat) (s : ByteArray), l[i]? = some s → ∃ c, s.data.toList[q]? = some c := fun i s hs => nat_list (by rw [← size_list, hn s (List.mem_of_getElem? hs)]; exact hq)
  have srch := Ev.search (L := fun k i => spec_SureCells_l_l k ((rl, w, h, cl), l, out, (q : Int), ofBytes [(d.toNat : Int)], (), (l.length : Int), i)) (n := l.length) (fun i => ∃ s c, l[i]? = some s ∧ s.data.toList[q]? = some c ∧ c ≠ d) (fun i => ((rl, w, h, cl), l, out, (q : Int), bs [63])) ((rl, w, h, cl), l, out, (q : Int), ofBytes [(d.toNat : Int)])
    (fun i hi hp r Hr => by
      obtain ⟨s, hs⟩ := nat_list hi
      obtain ⟨c, hc⟩ := byte i s hs
      have hcd : c = d := Classical.byContradiction fun hne => hp ⟨s, c, hs, hc, hne⟩
      refine step i s c hs hc r (Ev.no (by rw [guOne_inj.2 hcd]; rfl) ?_)
      rw [w64_succ (by omega)]
      exact Hr)
    (fun i hi hp => by
      obtain ⟨s, c, hs, hc, hne⟩ := hp
      refine step i s c hs hc _ (Ev.yes ?_ (Ev.now _))
      cases hx : strEq (ofBytes [(c.toNat : Int)]) (ofBytes [(d.toNat : Int)]) with
      | false => rfl
      | true => exact absurd (guOne_inj.1 hx) hne)
    (Ev.step (fun k => spec_SureCells_l_l.eq k rl w h cl l out (q : Int) (ofBytes [(d.toNat : Int)]) (l.length : Int) (l.length : Int)) (Ev.no (not_lt_nat (Nat.lt_irrefl _)) (Ev.now _))) l.length 0 (by omega)
  rcases srch with ⟨h1, h2⟩ | ⟨j, _, hj, ⟨s, c, hs, hc, hne⟩, _, h2⟩
  · have hno : ¬ Dj l f l.length q := by
      rintro ⟨t, s, c, d', ht, hs, hc, hd', hne⟩
      rw [hd] at hd'
      cases hd'
      exact h1 t (Nat.zero_le _) ht ⟨s, c, hs, hc, hne⟩
    rw [valI_no hno, hbd]
    exact h2
  · rw [valI_yes ⟨j, s, c, d, hj, hs, hc, hd, hne⟩]
    exact h2
theorem guSpecOut_ev (rl : ByteArray) (w h : Int) (cl : List Cl) (hwh : w64 (w * h) = (n : Int)) (hl0 : 0 < l.length) : ∀ (m q : Nat), q + m = n → Ev (fun k => spec_SureCells_l k ((rl, w, h, cl), l, ofBytes ((List.range q).map (valI l f l.length)), (q : Int))) (ofBytes ((List.range n).map (valI l f l.length))) := by
  have hfs := guFsize l f n hf hn hl hn9
  intro m
  induction m with
  | zero =>
    intro q hq
    obtain rfl : q = n := by omega
    exact Ev.step (fun k => spec_SureCells_l.eq k rl w h cl l _ (q : Int)) (Ev.no (by rw [hwh]; exact not_lt_nat (Nat.lt_irrefl _)) (Ev.now _))
  | succ m ih =>
    intro q hq
    have e1 : w64 ((q : Int) + 1) = ((q + 1 : Nat) : Int) := w64_succ (by omega)
    refine Ev.step (fun k => spec_SureCells_l.eq k rl w h cl l _ (q : Int)) (Ev.yes (by rw [hwh]; exact lt_nat (by omega)) (Ev.yes (inB_of (by omega) (by omega)) ?_))
    rw [e1, guG0b l f n hf hn hl hn9, Int.toNat_natCast, Int.toNat_natCast]
    refine Ev.yes (by rw [decide_eq_true (by omega), decide_eq_true (by omega), decide_eq_true (by omega), decide_eq_true (by omega)]; rfl) (Ev.bind (guSpecIn_ev l f n hf hn hl hn9 rl w h cl _ q (by omega)) ?_)
    have hsz : (ofBytes ((List.range q).map (valI l f l.length))).size = q := by rw [size_list]; unfold ofBytes; simp
    refine Ev.yes (fitS_of (by show (ofBytes ((List.range q).map (valI l f l.length))).size + 1 < _; omega)) ?_
    show Ev (fun k => spec_SureCells_l k ((rl, w, h, cl), l, ofBytes ((List.range q).map (valI l f l.length)) ++ ofBytes [valI l f l.length q], w64 ((q : Int) + 1))) _
    rw [e1, guOfBytes_append]
    have := ih (q + 1) (by omega)
    rw [List.range_succ, List.map_append] at this
    exact this
theorem guImplIn_ev (j : Nat) (s : ByteArray) (hs : l[j]? = some s) (t23 : Int) : ∀ (m q : Nat), q + m = n → Ev (fun k => impl_SureCells_l_l k (l, (List.range n).map (fun p => if p < q then valI l f (j + 1) p else valI l f j p), s, (), t23, (j : Int), (n : Int), (q : Int))) (l, (List.range n).map (valI l f (j + 1)), (), t23, (j : Int)) := by
  have hfs := guFsize l f n hf hn hl hn9
  have hsz := hn s (List.mem_of_getElem? hs)
  have hl0 : 0 < l.length := (List.getElem?_eq_some_iff.1 hf).1
  intro m
  induction m with
  | zero =>
    intro q hq
    obtain rfl : q = n := by omega
    refine Ev.step (fun k => impl_SureCells_l_l.eq k l _ s t23 (j : Int) (q : Int) (q : Int)) (Ev.no (not_lt_nat (Nat.lt_irrefl _)) (Ev.now' ?_))
    have : (List.range q).map (fun p => if p < q then valI l f (j + 1) p else valI l f j p) = (List.range q).map (valI l f (j + 1)) := List.map_congr_left fun p hp => by rw [if_pos (List.mem_range.1 hp)]
    rw [this]
  | succ m ih =>
    intro q hq
    obtain ⟨c, hc⟩ := nat_list (l := s.data.toList) (i := q) (by rw [← size_list]; omega)
    obtain ⟨d, hd⟩ := nat_list (l := f.data.toList) (i := q) (by rw [← size_list]; omega)
    have step : ∀ (out : List Int), out.length = n → ∀ r, Ev (fun k => cond ((c.toNat : Int) != (d.toNat : Int)) (impl_SureCells_l_l k (l, out.set q 63, s, (), t23, (j : Int), (n : Int), ((q + 1 : Nat) : Int))) (impl_SureCells_l_l k (l, out, s, (), t23, (j : Int), (n : Int), ((q + 1 : Nat) : Int)))) r → Ev (fun k => impl_SureCells_l_l k (l, out, s, (), t23, (j : Int), (n : Int), (q : Int))) r := fun out ho r Hr => by
      refine Ev.step (fun k => impl_SureCells_l_l.eq k l out s t23 (j : Int) (n : Int) (q : Int)) (Ev.yes (lt_nat (by omega)) (Ev.yes (inB_nat (by omega)) (Ev.yes (inB_of (by omega) (by omega)) ?_)))
      rw [guG0b l f n hf hn hl hn9, Int.toNat_natCast, bt_at hc, bt_at hd, w64_succ (by omega)]
      refine Ev.yes (inB_nat (by omega)) ?_
      have hio : inB (q : Int) out.length = true := inB_nat (by omega)
      simp only [hio, cond_true]
      exact Hr
    have next := ih (q + 1) (by omega)
    by_cases hcd : c = d
    · have hne : ((c.toNat : Int) != (d.toNat : Int)) = false := by rw [hcd]; exact neq_self _
      refine step _ (by simp) _ (Ev.no hne ?_)
      have : (List.range n).map (fun p => if p < q then valI l f (j + 1) p else valI l f j p) = (List.range n).map (fun p => if p < q + 1 then valI l f (j + 1) p else valI l f j p) := List.map_congr_left fun p hp => by
        by_cases hpq : p = q
        · subst hpq
          rw [if_neg (by omega), if_pos (by omega)]
          by_cases hD : Dj l f j p
          · obtain ⟨t, s', c', d', ht, hs', hc', hd', hne'⟩ := hD
            rw [valI_yes ⟨t, s', c', d', ht, hs', hc', hd', hne'⟩, valI_yes ⟨t, s', c', d', by omega, hs', hc', hd', hne'⟩]
          · have hD' : ¬ Dj l f (j + 1) p := by
              rintro ⟨t, s', c', d', ht, hs', hc', hd', hne'⟩
              by_cases htj : t = j
              · subst htj
                rw [hs] at hs'
                cases hs'
                rw [hc] at hc'
                rw [hd] at hd'
                cases hc'
                cases hd'
                exact hne' hcd
              · exact hD ⟨t, s', c', d', by omega, hs', hc', hd', hne'⟩
            rw [valI_no hD, valI_no hD']
        · by_cases hlt : p < q
          · rw [if_pos hlt, if_pos (by omega)]
          · rw [if_neg hlt, if_neg (by omega)]
      rw [this]
      exact next
    · have hne : ((c.toNat : Int) != (d.toNat : Int)) = true := by
        rw [bne_iff_ne]
        intro e
        exact hcd (UInt8.toNat_inj.1 (by omega))
      refine step _ (by simp) _ (Ev.yes hne ?_)
      have : ((List.range n).map (fun p => if p < q then valI l f (j + 1) p else valI l f j p)).set q 63 = (List.range n).map (fun p => if p < q + 1 then valI l f (j + 1) p else valI l f j p) := by
        apply List.ext_getElem?
        intro p
        rw [List.getElem?_set, List.getElem?_map, List.getElem?_map]
        by_cases hp : p < n
        · rw [List.getElem?_range hp]
          by_cases hpq : q = p
          · subst hpq
            rw [if_pos rfl, if_pos (by simp; omega), Option.map_some, if_pos (by omega), valI_yes ⟨j, s, c, d, by omega, hs, hc, hd, hcd⟩]
          · rw [if_neg hpq, Option.map_some, Option.map_some]
            by_cases hlt : p < q
            · rw [if_pos hlt, if_pos (by omega)]
            · rw [if_neg hlt, if_neg (by omega)]
        · rw [List.getElem?_eq_none (by simp; omega)]
          by_cases hpq : q = p
          · omega
          · rw [if_neg hpq]
            rfl
      rw [this]
      exact next
theorem guImplOut_ev : ∀ (m j : Nat), j + m = l.length → Ev (fun k => impl_SureCells_l k (l, (List.range n).map (valI l f j), (), (l.length : Int), (j : Int))) ((List.range n).map (valI l f l.length)) := by
  intro m
  induction m with
  | zero =>
    intro j hj
    obtain rfl : j = l.length := by omega
    exact Ev.step (fun k => impl_SureCells_l.eq k l _ (l.length : Int) (l.length : Int)) (Ev.no (not_lt_nat (Nat.lt_irrefl _)) (Ev.now _))
  | succ m ih =>
    intro j hj
    obtain ⟨s, hs⟩ := nat_list (l := l) (i := j) (by omega)
    have h1 := guImplIn_ev l f n hf hn hl hn9 j s hs (l.length : Int) n 0 (by omega)
    have e0 : (List.range n).map (fun p => if p < 0 then valI l f (j + 1) p else valI l f j p) = (List.range n).map (valI l f j) := List.map_congr_left fun p hp => by rw [if_neg (by omega)]
    rw [e0] at h1
    refine Ev.step (fun k => impl_SureCells_l.eq k l _ (l.length : Int) (j : Int)) (Ev.yes (lt_nat (by omega)) (Ev.yes (inB_nat (by omega)) ?_))
    rw [Int.toNat_natCast, getD_at hs, show (((List.range n).map (valI l f j)).length : Int) = (n : Int) by simp]
    refine Ev.bind h1 ?_
    show Ev (fun k => impl_SureCells_l k (l, (List.range n).map (valI l f (j + 1)), (), (l.length : Int), w64 ((j : Int) + 1))) _
    rw [w64_succ (by omega)]
    exact ih (j + 1) (by omega)
theorem guStart : bytesOf f = (List.range n).map (valI l f 0) := by
  have hfs := guFsize l f n hf hn hl hn9
  apply List.ext_getElem?
  intro p
  unfold bytesOf
  rw [List.getElem?_map, List.getElem?_map]
  by_cases hp : p < n
  · obtain ⟨d, hd⟩ := nat_list (l := f.data.toList) (i := p) (by rw [← size_list]; omega)
    have hno : ¬ Dj l f 0 p := by
      rintro ⟨t, _, _, _, ht, _⟩
      omega
    rw [List.getElem?_range hp, hd, Option.map_some, Option.map_some, valI_no hno, bt_at hd]
  · rw [List.getElem?_eq_none (by rw [← size_list]; omega), List.getElem?_eq_none (by simp; omega)]
    rfl
end
theorem guSure_ev (rl : ByteArray) (w h : Int) (cl : List Cl) (hrl : rl.size ≤ 9223372036854775807) : (PuzOk rl w h cl → ∀ f, (solC rl w h cl)[0]? = some f → ∃ v : ByteArray, v.size = (w * h).toNat ∧ ((solC rl w h cl).length = 1 → v = f) ∧ (∀ s ∈ solC rl w h cl, ∀ q, q < (w * h).toNat → bt v q = 63 ∨ bt v q = bt s q) ∧ Ev (fun k => impl_SureCells k (rl, w, h, cl)) (v, true) ∧ Ev (fun k => spec_SureCells k (rl, w, h, cl)) (v, true)) ∧
    (¬ (PuzOk rl w h cl ∧ 0 < (solC rl w h cl).length) → Ev (fun k => impl_SureCells k (rl, w, h, cl)) (ByteArray.empty, false) ∧ Ev (fun k => spec_SureCells k (rl, w, h, cl)) (ByteArray.empty, false)) := by
  rcases solutions_ev rl w h cl hrl with ⟨H, hl3, i, g, s⟩ | ⟨H, i, g⟩
  · have hS := H.1
    have hm := mul_range (a := w) (b := h) (by have := hS.2.1; omega) (by have := hS.2.1; omega) (by have := hS.2.2.1; omega) (by have := hS.2.2.1; omega)
    have hwh : w64 (w * h) = (((w * h).toNat : Nat) : Int) := by rw [w64_of (by omega) (by omega)]; omega
    have hn : ∀ s ∈ solC rl w h cl, s.size = (w * h).toNat := fun s hs => by
      unfold solC at hs
      exact (allD_ok (t := rl.size) (by have := hS.1.1; omega) _ s (List.mem_filter.1 hs).1).1
    revert i s hl3 hn
    generalize solC rl w h cl = l
    intro hl3 i s hn
    constructor
    · intro _ f hf
      have hlt := (List.getElem?_eq_some_iff.1 hf).1
      have n0 : ((l.length : Int) == 0) = false := by rw [beq_eq_false_iff_ne]; omega
      have b0 : inB 0 l.length = true := inB_of (by omega) (by omega)
      have h9 : (w * h).toNat ≤ 100 := by omega
      have eS := guSpecOut_ev l f _ hf hn hl3 h9 rl w h cl hwh (by omega) (w * h).toNat 0 (by omega)
      have eI := guImplOut_ev l f _ hf hn hl3 h9 l.length 0 (by omega)
      have hst := guStart l f _ hf hn hl3 h9
      rw [← hst] at eI
      refine ⟨ofBytes ((List.range (w * h).toNat).map (valI l f l.length)), ?_, ?_, ?_, ?_, Ev.step (fun k => spec_SureCells.eq k rl w h cl) (Ev.bind g (Ev.no rfl (Ev.bind s (Ev.no n0 (Ev.bind eS (Ev.now _))))))⟩
      · rw [size_list]
        unfold ofBytes
        simp
      · intro h1
        have hno : ∀ q, ¬ Dj l f l.length q := by
          rintro q ⟨t, s', c, d, ht, hs', hc, hd, hne⟩
          obtain rfl : t = 0 := by omega
          rw [hf] at hs'
          cases hs'
          rw [hc] at hd
          exact hne (Option.some.inj hd)
        have e : (List.range (w * h).toNat).map (valI l f l.length) = bytesOf f := by
          rw [hst]
          refine List.map_congr_left fun q _ => ?_
          rw [valI_no (hno q), valI_no (by rintro ⟨t, _, _, _, ht, _⟩; omega)]
        rw [e]
        unfold bytesOf
        rw [ofBytes_of]
      · intro s' hs' q hq
        have hv : bt (ofBytes ((List.range (w * h).toNat).map (valI l f l.length))) q = valI l f l.length q := by
          have hr : 0 ≤ valI l f l.length q ∧ valI l f l.length q ≤ 255 := by
            by_cases hd : Dj l f l.length q
            · rw [valI_yes hd]
              omega
            · rw [valI_no hd]
              have := bt_ge f q
              have := bt_lt f q
              omega
          have hg : (ofBytes ((List.range (w * h).toNat).map (valI l f l.length))).data.toList[q]? = some (UInt8.ofNat (valI l f l.length q).toNat) := by
            unfold ofBytes
            rw [List.toList_toArray, List.getElem?_map, List.getElem?_map, List.getElem?_range hq]
            rfl
          rw [bt_at hg, toNat_ofNat8 (by omega)]
          omega
        rw [hv]
        by_cases hd : Dj l f l.length q
        · exact .inl (valI_yes hd)
        · refine .inr ?_
          rw [valI_no hd]
          obtain ⟨t, ht⟩ := List.mem_iff_getElem?.1 hs'
          have htl := (List.getElem?_eq_some_iff.1 ht).1
          have hsz := hn s' hs'
          have hfz := hn f (List.mem_of_getElem? hf)
          obtain ⟨c, hc⟩ := nat_list (l := s'.data.toList) (i := q) (by rw [← size_list]; omega)
          obtain ⟨d, hd'⟩ := nat_list (l := f.data.toList) (i := q) (by rw [← size_list]; omega)
          have hcd : c = d := Classical.byContradiction fun hne => hd ⟨t, s', c, d, htl, ht, hc, hd', hne⟩
          rw [bt_at hc, bt_at hd', hcd]
      · refine Ev.step (fun k => impl_SureCells.eq k rl w h cl) (Ev.bind i (Ev.no n0 (Ev.yes b0 ?_)))
        show Ev (fun k => (impl_SureCells_l k (l, bytesOf (l.getD 0 default), (), (l.length : Int), 0)).bind fun r2 => some (ofBytes r2, true)) _
        rw [guG0b l f _ hf hn hl3 h9]
        exact Ev.bind eI (Ev.now _)
    · intro h0
      have h0 : l.length = 0 := by
        have : ¬ 0 < l.length := fun q => h0 ⟨H, q⟩
        omega
      exact ⟨Ev.step (fun k => impl_SureCells.eq k rl w h cl) (Ev.bind i (Ev.yes (by rw [beq_iff_eq]; show (l.length : Int) = 0; omega) (Ev.now _))), Ev.step (fun k => spec_SureCells.eq k rl w h cl) (Ev.bind g (Ev.no rfl (Ev.bind s (Ev.yes (by rw [beq_iff_eq]; omega) (Ev.now _)))))⟩
  · exact ⟨fun q => absurd q H, fun _ => ⟨Ev.step (fun k => impl_SureCells.eq k rl w h cl) (Ev.bind i (Ev.yes rfl (Ev.now _))), Ev.step (fun k => spec_SureCells.eq k rl w h cl) (Ev.bind g (Ev.yes rfl (Ev.now _)))⟩⟩

def nx (z : Int) : Int := (z * 151 + 2083).tmod 10007
theorem nx_range {z : Int} (h : 0 ≤ z ∧ z ≤ 10006) : 0 ≤ nx z ∧ nx z ≤ 10006 := by
  unfold nx
  rw [Int.tmod_eq_emod_of_nonneg (by omega)]
  omega
theorem makeS_l_ev (rl : ByteArray) (w h : Int) (cs : ByteArray) (x y wy : Int) (H : WorldOk rl w h cs x y wy) (h9 : w * h ≤ 9) (n : Nat) (hn : n ≤ 6) (t6 : ByteArray × Int × Int × List Cl) : ∀ (m i : Nat) (p : List Cl) (z : Int), i + m = n → p.length = i → 0 ≤ z ∧ z ≤ 10006 → (∀ c ∈ p, ClueOk rl (w * h) c ∧ Fit c (rl, w, h, cs, x, y, wy)) →
    ∃ P : List Cl, P.length = n ∧ (∀ c ∈ P, ClueOk rl (w * h) c ∧ Fit c (rl, w, h, cs, x, y, wy)) ∧ Ev (fun k => spec_MakePuzzle_l k ((m : Int), (rl, w, h, cs, x, y, wy), t6, (rl, w, h, p), z)) (t6, (rl, w, h, P))
  | 0, i, p, z, hi, hp, hz, hq => ⟨p, by omega, hq, Ev.step (fun k => spec_MakePuzzle_l.eq k _ rl w h cs x y wy t6.1 t6.2.1 t6.2.2.1 t6.2.2.2 rl w h p z) (Ev.no rfl (Ev.now _))⟩
  | m + 1, i, p, z, hi, hp, hz, hq => by
    have ap : ∀ c : Cl, ClueOk rl (w * h) c ∧ Fit c (rl, w, h, cs, x, y, wy) → ∀ d ∈ p ++ [c], ClueOk rl (w * h) d ∧ Fit d (rl, w, h, cs, x, y, wy) := fun c hc d hd => (List.mem_append.1 hd).elim (hq d) fun h => List.mem_singleton.1 h ▸ hc
    obtain ⟨hR, hw, hh, hs, _⟩ := id H
    have hm := mul_range (a := w) (b := h) (by omega) (by omega) (by omega) (by omega)
    have nS : ∀ z : Int, 0 ≤ z ∧ z ≤ 10006 → Ev (fun k => spec_pzNext k z) (nx z) := fun z hz => Ev.step (fun k => spec_pzNext.eq k z) (Ev.now' (by
      unfold nx
      rw [w64_of (n := 151 * z) (by omega) (by omega), w64_of (by omega) (by omega), Int.mul_comm]))
    have r1 := nx_range hz
    have s1 := nS z hz
    generalize nx z = z1 at r1 s1
    have r2 := nx_range r1
    have s2 := nS z1 r1
    generalize nx z1 = z2 at r2 s2
    obtain ⟨kd, ekd⟩ : ∃ kd, z1.tmod 5 = kd := ⟨_, rfl⟩
    have hkd : 0 ≤ kd ∧ kd ≤ 4 := by rw [← ekd, Int.tmod_eq_emod_of_nonneg (by omega)]; omega
    have hne : ((cs.size : Int) != 0) = true := by rw [bne_iff_ne]; omega
    have hf : fits (p.length + 1) 24 = true := fits_of (by omega)
    have e1 : w64 (((m + 1 : Nat) : Int) - 1) = (m : Int) := by rw [w64_of (by omega) (by omega)]; omega
    have e2 : w64 ((i : Int) + 1) = ((i + 1 : Nat) : Int) := w64_succ (by omega)
    have goS : ∀ r, Ev (fun k => cond (decide (kd < 4))
   ((spec_pzNext k z1).bind fun r2 =>
    cond (kd == 0)
    (cond ((cs.size : Int) != 0)
     ((spec_pzOf k (kd, (r2.tmod (cs.size : Int)), (rl, w, h, cs, x, y, wy))).bind fun r3 =>
      cond (fits (p.length + 1) 24)
      (spec_MakePuzzle_l k ((m : Int), (rl, w, h, cs, x, y, wy), t6, (rl, w, h, (p ++ [r3])), r2))
      (none))
     (none))
    ((spec_pzOf k (kd, (r2.tmod 51), (rl, w, h, cs, x, y, wy))).bind fun r4 =>
     cond (fits (p.length + 1) 24)
     (spec_MakePuzzle_l k ((m : Int), (rl, w, h, cs, x, y, wy), t6, (rl, w, h, (p ++ [r4])), r2))
     (none)))
   ((spec_pzOf k (kd, 0, (rl, w, h, cs, x, y, wy))).bind fun r5 =>
    cond (fits (p.length + 1) 24)
    (spec_MakePuzzle_l k ((m : Int), (rl, w, h, cs, x, y, wy), t6, (rl, w, h, (p ++ [r5])), z1))
    (none))) r → Ev (fun k => spec_MakePuzzle_l k (((m + 1 : Nat) : Int), (rl, w, h, cs, x, y, wy), t6, (rl, w, h, p), z)) r := fun r hr => by
      refine Ev.step (fun k => spec_MakePuzzle_l.eq k _ rl w h cs x y wy t6.1 t6.2.1 t6.2.2.1 t6.2.2.2 rl w h p z) (Ev.yes (decide_eq_true (by omega)) (Ev.bind s1 ?_))
      rw [ekd, e1]
      exact hr
    clear ekd
    have ofN : ∀ (kd a v : Int), (kd == 4) = false → Ev (fun k => spec_pzValue k (kd, a, (rl, w, h, cs, x, y, wy))) v → Ev (fun k => spec_pzOf k (kd, a, (rl, w, h, cs, x, y, wy))) (kd, a, v) := fun kd a v hk hv => Ev.step (fun k => spec_pzOf.eq k kd a rl w h cs x y wy) (Ev.no hk (Ev.bind hv (Ev.now _)))
    have : kd = 0 ∨ kd = 1 ∨ kd = 2 ∨ kd = 3 ∨ kd = 4 := by omega
    have m1 : 0 ≤ z2.tmod (cs.size : Int) ∧ z2.tmod (cs.size : Int) < (cs.size : Int) := by
      rw [Int.tmod_eq_emod_of_nonneg (by omega)]
      exact ⟨Int.emod_nonneg _ (by omega), Int.emod_lt_of_pos _ (by omega)⟩
    have m2 : 0 ≤ z2.tmod 51 ∧ z2.tmod 51 ≤ 50 := by
      rw [Int.tmod_eq_emod_of_nonneg (by omega)]
      omega
    rcases this with rfl | rfl | rfl | rfl | rfl
    · obtain ⟨v, v1, v2⟩ := value_ev rl w h cs x y wy H 0 (z2.tmod (cs.size : Int)) (.inl ⟨rfl, m1.1, m1.2⟩)
      obtain ⟨P, hP, hQ, q1⟩ := makeS_l_ev rl w h cs x y wy H h9 n hn t6 m (i + 1) (p ++ [(0, z2.tmod (cs.size : Int), v)]) z2 (by omega) (by simp; omega) r2 (ap _ ((value_range (rl, w, h, cs, x, y, wy) H h9 0 _ v v2).1 (.inl ⟨rfl, m1.1, m1.2⟩)))
      exact ⟨P, hP, hQ, goS _ (Ev.yes rfl (Ev.bind s2 (Ev.yes rfl (Ev.yes hne (Ev.bind (ofN _ _ _ rfl v2) (Ev.yes hf q1))))))⟩
    · obtain ⟨v, v1, v2⟩ := value_ev rl w h cs x y wy H 1 (z2.tmod 51) (.inr (.inr ⟨.inl rfl, m2.1, m2.2⟩))
      obtain ⟨P, hP, hQ, q1⟩ := makeS_l_ev rl w h cs x y wy H h9 n hn t6 m (i + 1) (p ++ [(1, z2.tmod 51, v)]) z2 (by omega) (by simp; omega) r2 (ap _ ((value_range (rl, w, h, cs, x, y, wy) H h9 1 _ v v2).1 (.inr ⟨.inl rfl, m2⟩)))
      exact ⟨P, hP, hQ, goS _ (Ev.yes rfl (Ev.bind s2 (Ev.no rfl (Ev.bind (ofN _ _ _ rfl v2) (Ev.yes hf q1)))))⟩
    · obtain ⟨v, v1, v2⟩ := value_ev rl w h cs x y wy H 2 (z2.tmod 51) (.inr (.inr ⟨.inr (.inl rfl), m2.1, m2.2⟩))
      obtain ⟨P, hP, hQ, q1⟩ := makeS_l_ev rl w h cs x y wy H h9 n hn t6 m (i + 1) (p ++ [(2, z2.tmod 51, v)]) z2 (by omega) (by simp; omega) r2 (ap _ ((value_range (rl, w, h, cs, x, y, wy) H h9 2 _ v v2).1 (.inr ⟨.inr (.inl rfl), m2⟩)))
      exact ⟨P, hP, hQ, goS _ (Ev.yes rfl (Ev.bind s2 (Ev.no rfl (Ev.bind (ofN _ _ _ rfl v2) (Ev.yes hf q1)))))⟩
    · obtain ⟨v, v1, v2⟩ := value_ev rl w h cs x y wy H 3 (z2.tmod 51) (.inr (.inr ⟨.inr (.inr rfl), m2.1, m2.2⟩))
      obtain ⟨P, hP, hQ, q1⟩ := makeS_l_ev rl w h cs x y wy H h9 n hn t6 m (i + 1) (p ++ [(3, z2.tmod 51, v)]) z2 (by omega) (by simp; omega) r2 (ap _ ((value_range (rl, w, h, cs, x, y, wy) H h9 3 _ v v2).1 (.inr ⟨.inr (.inr rfl), m2⟩)))
      exact ⟨P, hP, hQ, goS _ (Ev.yes rfl (Ev.bind s2 (Ev.no rfl (Ev.bind (ofN _ _ _ rfl v2) (Ev.yes hf q1)))))⟩
    · obtain ⟨v, v1, v2⟩ := value_ev rl w h cs x y wy H 4 0 (.inr (.inl ⟨rfl, rfl⟩))
      obtain ⟨P, hP, hQ, q1⟩ := makeS_l_ev rl w h cs x y wy H h9 n hn t6 m (i + 1) (p ++ [(4, v, 0)]) z1 (by omega) (by simp; omega) r1 (ap _ ((value_range (rl, w, h, cs, x, y, wy) H h9 4 0 v v2).2 ⟨rfl, rfl⟩))
      have of4 : Ev (fun k => spec_pzOf k (4, 0, (rl, w, h, cs, x, y, wy))) (4, v, 0) := Ev.step (fun k => spec_pzOf.eq k 4 0 rl w h cs x y wy) (Ev.yes rfl (Ev.bind v2 (Ev.now _)))
      exact ⟨P, hP, hQ, goS _ (Ev.no rfl (Ev.bind of4 (Ev.yes hf q1)))⟩
abbrev zeroP : ByteArray × Int × Int × List Cl := (ByteArray.empty, 0, 0, [])
def HidO (W : Wo) : Prop := HidOk W.1 W.2.1 W.2.2.1 W.2.2.2.1 W.2.2.2.2.1 W.2.2.2.2.2.1 W.2.2.2.2.2.2
theorem makeS_ev (W : Wo) (n z : Int) (H : HidO W) (hN : 0 ≤ n ∧ n ≤ 6) (hZ : 0 ≤ z ∧ z ≤ 9999) : ∃ P : List Cl, (P.length : Int) = n ∧ Ev (fun k => spec_MakePuzzle k (W, n, z)) ((W.1, W.2.1, W.2.2.1, P), true) ∧ PuzOk W.1 W.2.1 W.2.2.1 P := by
  obtain ⟨rl, w, h, cs, x, y, wy⟩ := W
  have a2 := pzHidden_ev rl w h cs x y wy
  have H : HidOk rl w h cs x y wy := H
  obtain ⟨N, rfl⟩ := Int.eq_ofNat_of_zero_le hN.1
  obtain ⟨P, hP, hQ, q1⟩ := makeS_l_ev rl w h cs x y wy H.2.1 H.1.2.2.2.1 N (by omega) zeroP N 0 [] z (by omega) rfl (by omega) (fun c hc => by cases hc)
  exact ⟨P, by omega, Ev.step (fun k => spec_MakePuzzle.eq k rl w h cs x y wy N z) (Ev.bind (a2.isT H) (Ev.no rfl (Ev.bind ((l1In_ev N 0 6).isT hN) (Ev.no rfl (Ev.bind ((l1In_ev z 0 9999).isT hZ) (Ev.no rfl (Ev.bind q1 (Ev.now _)))))))), H.1, by show P.length ≤ 6; omega, fun c hc => (hQ c hc).1⟩
/-! ### Does a clue fit; a clue dropped; how many boards -/
theorem guFit_ev (c : Cl) (W : Wo) (H : HidO W) (hC : ClueOk W.1 (W.2.1 * W.2.2.1) c) (hF : Fit c W) : Ev (fun k => impl_DoesFit k (c, W)) (true, true) := by
  obtain ⟨rl, w, h, cs, x, y, wy⟩ := W
  obtain ⟨kd, a, b⟩ := c
  have H : HidOk rl w h cs x y wy := H
  obtain ⟨hS, hW, _⟩ := id H
  have hsz := hW.2.2.2.1
  have hm := mul_range (a := w) (b := h) (by have := hS.2.1; omega) (by have := hS.2.1; omega) (by have := hS.2.2.1; omega) (by have := hS.2.2.1; omega)
  have h9 := hS.2.2.2.1
  have h6 := hS.1.1
  have a1 := isHidden_ev rl w h cs x y wy (by omega) (by omega)
  have c1 : EvB (fun k => impl_IsClue k (rl, (cs.size : Int), (kd, a, b))) (ClueOk rl (w * h) (kd, a, b)) := (isClue_ev rl (cs.size : Int) (kd, a, b) (by omega)).iff ⟨fun q => hsz ▸ q.2.2, fun q => ⟨hS.1, by omega, hsz.symm ▸ q⟩⟩
  obtain ⟨f1, _⟩ := fits_ev rl w h cs x y wy hW (kd, a, b) hC
  exact Ev.step (fun k => impl_DoesFit.eq k kd a b rl w h cs x y wy) (Ev.bind (a1.isT H) (Ev.no rfl (Ev.bind (c1.isT hC) (Ev.no rfl (Ev.bind (f1.isT hF) (Ev.now _))))))
theorem guDrop_ev (rl : ByteArray) (w h : Int) (cl : List Cl) (hrl : rl.size ≤ 1048576) (H : PuzOk rl w h cl) (n : Nat) (hn : n < cl.length) : Ev (fun k => impl_DropClue k ((rl, w, h, cl), (n : Int))) ((rl, w, h, woC cl n), true) := by
  have a1 := isPuzzle_ev rl w h cl (by omega)
  have hl := H.2.1
  have e1 : w64 ((cl.length : Int) - 1) = (cl.length : Int) - 1 := w64_of (by omega) (by omega)
  refine Ev.step (fun k => impl_DropClue.eq k rl w h cl n) (Ev.bind (a1.isT H) (Ev.no rfl ?_))
  rw [e1]
  exact Ev.bind ((within_ev _ 0 _).isT (by omega)) (Ev.no rfl (Ev.bind (dropped_ev cl (by omega) n hn) (Ev.bind (Ev.step (fun k => impl_Puzzle_changed.eq k rl w h cl (woC cl n)) (Ev.now _)) (Ev.now _))))
theorem pow_step {t N : Nat} (ht : 1 ≤ t) (h : t ^ N ≤ 300) {i : Nat} (hi : i ≤ N) : t ^ i ≤ 300 := Nat.le_trans (Nat.pow_le_pow_right ht hi) h
theorem boardsV_ev (t : Nat) (ht : 1 ≤ t ∧ t ≤ 6) (N : Nat) (hp : t ^ N ≤ 300) (hN : N ≤ 100) : Ev (fun k => impl_boards k ((t : Int), (N : Int), 300)) ((t ^ N : Nat) : Int) := by
  have loop : ∀ (m i : Nat), i + m = N → Ev (fun k => impl_boards_l k ((t : Int), 300, ((t ^ i : Nat) : Int), (N : Int), (i : Int))) ((t ^ N : Nat) : Int) := by
    intro m
    induction m with
    | zero =>
      intro i hi
      obtain rfl : i = N := by omega
      exact Ev.step (fun k => impl_boards_l.eq k (t : Int) 300 _ _ _) (Ev.no (not_lt_nat (by omega)) (Ev.now _))
    | succ m ih =>
      intro i hi
      have h1 := pow_step ht.1 hp (i := i) (by omega)
      have h2 := pow_step ht.1 hp (i := i + 1) (by omega)
      have e : w64 (((t ^ i : Nat) : Int) * (t : Int)) = ((t ^ (i + 1) : Nat) : Int) := by rw [natmul, show t ^ i * t = t ^ (i + 1) from rfl, w64_of (by omega) (by omega)]
      refine Ev.step (fun k => impl_boards_l.eq k (t : Int) 300 _ _ _) (Ev.yes (lt_nat (by omega)) ?_)
      rw [e, show w64 (300 + 1) = 301 from rfl, if_neg (by omega), w64_succ (by omega)]
      exact ih (i + 1) (by omega)
  have := loop N 0 (by omega)
  rw [Nat.pow_zero] at this
  exact Ev.step (fun k => impl_boards.eq k (t : Int) (N : Int) 300) (Ev.bind this (Ev.now _))
theorem guCount_ev (rl : ByteArray) (w h : Int) (H : SizeOk rl w h) : Ev (fun k => impl_CountBoards k (rl, w, h)) (((rl.size ^ (w * h).toNat : Nat) : Int), true) := by
  obtain ⟨hR, hw, hh, h9, hp⟩ := id H
  have hR1 := hR.1
  have hid : EvB (fun k => impl_isHidden k (rl, w, h)) (RuleOk rl ∧ ((1 ≤ w ∧ w ≤ 9) ∧ (1 ≤ h ∧ h ≤ 9)) ∧ w * h ≤ 9) := by
    refine EvB.step (fun k => impl_isHidden.eq k rl w h) (EvB.and (isRuleR_ev rl (by omega)) fun hR => EvB.and (EvB.step (fun k => impl_isSize.eq k w h) (EvB.and (within_ev w 1 9) fun _ => (within_ev h 1 9).ret)) fun hs => ?_)
    have hm := mul_range (a := w) (b := h) (by omega) (by omega) (by omega) (by omega)
    rw [w64_of (by omega) (by omega)]
    exact EvB.val decide_eq_true_iff
  have hm := mul_range (a := w) (b := h) (by omega) (by omega) (by omega) (by omega)
  have e64 : w64 (w * h) = (((w * h).toNat : Nat) : Int) := by rw [w64_of (by omega) (by omega)]; omega
  refine Ev.step (fun k => impl_CountBoards.eq k rl w h) (Ev.bind (hid.isT ⟨hR, ⟨hw, hh⟩, h9⟩) (Ev.no rfl ?_))
  rw [e64]
  exact Ev.bind (boardsV_ev rl.size hR.1 _ hp (by omega)) (Ev.no (decide_eq_false (by omega)) (Ev.now _))
/-! ### The order of boards -/
theorem less_same : ∀ p a b : List UInt8, Op.bytesLess (p ++ a) (p ++ b) = Op.bytesLess a b
  | [], a, b => rfl
  | x :: p, a, b => by
    show (decide (x < x) || (x == x && Op.bytesLess (p ++ a) (p ++ b))) = _
    rw [less_same p a b]
    simp
theorem less_snoc : ∀ p q a b : List UInt8, p.length = q.length → Op.bytesLess p q = true → Op.bytesLess (p ++ a) (q ++ b) = true
  | [], [], a, b, _, h => nomatch h
  | [], y :: q, a, b, h, _ => nomatch h
  | x :: p, [], a, b, h, _ => nomatch h
  | x :: p, y :: q, a, b, hl, h => by
    have h : (decide (x < y) || (x == y && Op.bytesLess p q)) = true := h
    show (decide (x < y) || (x == y && Op.bytesLess (p ++ a) (q ++ b))) = true
    rw [Bool.or_eq_true, Bool.and_eq_true] at h ⊢
    exact h.imp id fun k => ⟨k.1, less_snoc p q a b (by simpa using hl) k.2⟩
theorem strLess_eq (x y : ByteArray) : strLess x y = Op.bytesLess x.data.toList y.data.toList := by
  unfold strLess
  rw [ByteArray.toList_eq, ByteArray.toList_eq]
theorem digitList (s : ByteArray) (c : Nat) (hc : c < 10) : (s ++ ofBytes [48 + (c : Int)]).data.toList = s.data.toList ++ [UInt8.ofNat (48 + c)] := by
  rw [append_list]
  show _ ++ [UInt8.ofNat (48 + (c : Int)).toNat] = _
  rw [show (48 + (c : Int)).toNat = 48 + c by omega]
theorem allD_sorted (t : Nat) (ht : t ≤ 9) : ∀ n : Nat, (allD t n).Pairwise fun a b => strLess a b = true
  | 0 => List.pairwise_singleton _ _
  | n + 1 => by
    show ((allD t n).flatMap (extD t)).Pairwise _
    rw [List.pairwise_flatMap]
    constructor
    · intro s hs
      unfold extD
      rw [List.pairwise_map, List.pairwise_iff_getElem]
      intro i j hi hj hij
      rw [List.length_range] at hi hj
      rw [List.getElem_range, List.getElem_range, strLess_eq, digitList _ _ (by omega), digitList _ _ (by omega), less_same]
      show (decide (UInt8.ofNat (48 + i) < UInt8.ofNat (48 + j)) || _) = true
      rw [decide_eq_true (by rw [UInt8.lt_iff_toNat_lt, toNat_ofNat8 (by omega), toNat_ofNat8 (by omega)]; omega), Bool.true_or]
    · refine (List.Pairwise.and_mem.1 (allD_sorted t ht n)).imp fun {a b} hab => ?_
      obtain ⟨ha, hb, hab⟩ := hab
      intro x hx y hy
      obtain ⟨c, hc, rfl⟩ := mem_ext.1 hx
      obtain ⟨d, hd, rfl⟩ := mem_ext.1 hy
      rw [strLess_eq, digitList _ _ (by omega), digitList _ _ (by omega)]
      rw [strLess_eq] at hab
      refine less_snoc _ _ _ _ ?_ hab
      rw [← size_list, ← size_list, (allD_ok ht n a ha).1, (allD_ok ht n b hb).1]
theorem solC_sorted (rl : ByteArray) (w h : Int) (cl : List Cl) (hr : rl.size ≤ 9) : (solC rl w h cl).Pairwise fun a b => strLess a b = true := (allD_sorted rl.size hr _).filter _
/-! ### The law's helpers -/
theorem dPuzzle_ev (p : ByteArray × Int × Int × List Cl) (hl : p.2.2.2.length ≤ 1048576) : Ev (fun k => laws_dPuzzle k (p, p)) true := by
  obtain ⟨rl, w, h, cl⟩ := p
  simp only at hl
  have loop : ∀ m i : Nat, i + m = cl.length → Ev (fun k => laws_dPuzzle_l k ((rl, w, h, cl), (rl, w, h, cl), (cl.length : Int), (i : Int))) (.inr ()) := by
    intro m
    induction m with
    | zero =>
      intro i hi
      exact Ev.step (fun k => laws_dPuzzle_l.eq k rl w h cl rl w h cl _ _) (Ev.no (not_lt_nat (by omega)) (Ev.now _))
    | succ m ih =>
      intro i hi
      refine Ev.step (fun k => laws_dPuzzle_l.eq k rl w h cl rl w h cl _ _) (Ev.yes (lt_nat (by omega)) (Ev.yes (inB_nat (by omega)) (Ev.yes (inB_nat (by omega)) (Ev.no (by simp) ?_))))
      rw [w64_succ (by omega)]
      exact ih (i + 1) (by omega)
  exact Ev.step (fun k => laws_dPuzzle.eq k rl w h cl rl w h cl) (Ev.no (sameS _) (Ev.no (neq_self _) (Ev.no (neq_self _) (Ev.no (neq_self _) (Ev.bind (loop cl.length 0 (by omega)) (Ev.now _))))))
theorem dTexts_ev (a : List ByteArray) (hl : a.length ≤ 1048576) : Ev (fun k => laws_dTexts k (a, a)) true := by
  have loop : ∀ m i : Nat, i + m = a.length → Ev (fun k => laws_dTexts_l k (a, a, (a.length : Int), (i : Int))) (.inr ()) := by
    intro m
    induction m with
    | zero =>
      intro i hi
      exact Ev.step (fun k => laws_dTexts_l.eq k a a _ _) (Ev.no (not_lt_nat (by omega)) (Ev.now _))
    | succ m ih =>
      intro i hi
      refine Ev.step (fun k => laws_dTexts_l.eq k a a _ _) (Ev.yes (lt_nat (by omega)) (Ev.yes (inB_nat (by omega)) (Ev.yes (inB_nat (by omega)) (Ev.no (sameS _) ?_))))
      rw [w64_succ (by omega)]
      exact ih (i + 1) (by omega)
  exact Ev.step (fun k => laws_dTexts.eq k a a) (Ev.no (neq_self _) (Ev.bind (loop a.length 0 (by omega)) (Ev.now _)))
theorem guSame_ev (a : List Int) (hl : a.length ≤ 1048576) : Ev (fun k => laws_dSame k (a, a)) true := by
  have h : ∀ (m i : Nat), i + m = a.length → Ev (fun k => laws_dSame_l k (a, a, (a.length : Int), (i : Int))) (.inr ()) := by
    intro m
    induction m with
    | zero => intro i h; exact Ev.step (fun k => laws_dSame_l.eq k a a (a.length : Int) i) (Ev.no (not_lt_nat (by omega)) (Ev.now _))
    | succ m ih =>
      intro i h
      refine Ev.step (fun k => laws_dSame_l.eq k a a (a.length : Int) i) (Ev.yes (lt_nat (by omega)) (Ev.yes (inB_nat (by omega)) (Ev.yes (inB_nat (by omega)) (Ev.no (neq_self _) ?_))))
      rw [w64_succ (by omega)]
      exact ih (i + 1) (by omega)
  exact Ev.step (fun k => laws_dSame.eq k a a) (Ev.no (neq_self _) (Ev.bind (h a.length 0 (by omega)) (Ev.now _)))
theorem guHas_ev (a : List Int) (hl : a.length ≤ 1048576) (v : Int) : EvB (fun k => laws_dHas k (a, v)) (v ∈ a) := by
  have srch := Ev.search (L := fun k i => laws_dHas_l k (v, a, (a.length : Int), i)) (n := a.length) (fun i => a[i]? = some v) (fun i => .inl true) (.inr ())
    (fun i hi hp r H => by
      obtain ⟨x, hx⟩ := nat_list (l := a) (i := i) hi
      refine Ev.step (fun k => laws_dHas_l.eq k v a (a.length : Int) (i : Int)) (Ev.yes (lt_nat hi) (Ev.yes (inB_nat hi) ?_))
      rw [Int.toNat_natCast, getD_at hx, w64_succ (by omega)]
      exact Ev.no (beq_eq_false_iff_ne.2 fun e => hp (by rw [hx, e])) H)
    (fun i hi hp => by
      refine Ev.step (fun k => laws_dHas_l.eq k v a (a.length : Int) (i : Int)) (Ev.yes (lt_nat hi) (Ev.yes (inB_nat hi) ?_))
      rw [Int.toNat_natCast, getD_at hp]
      exact Ev.yes (beq_iff_eq.2 rfl) (Ev.now _))
    (Ev.step (fun k => laws_dHas_l.eq k v a (a.length : Int) (a.length : Int)) (Ev.no (not_lt_nat (Nat.lt_irrefl _)) (Ev.now _))) a.length 0 (by omega)
  rcases srch with ⟨h1, h2⟩ | ⟨j, _, hj, h3, _, h4⟩
  · refine ⟨false, Ev.step (fun k => laws_dHas.eq k a v) (Ev.bind h2 (Ev.now _)), nofun, fun q => ?_⟩
    obtain ⟨i, hi⟩ := List.mem_iff_getElem?.1 q
    exact absurd hi (h1 i (by omega) (List.getElem?_eq_some_iff.1 hi).1)
  · exact ⟨true, Ev.step (fun k => laws_dHas.eq k a v) (Ev.bind h4 (Ev.now _)), fun _ => List.mem_of_getElem? h3, fun _ => rfl⟩
/-! ### Pieces -/
def glue (p : List UInt8) : List (List UInt8) → List (List UInt8)
  | x :: xs => (p ++ x) :: xs
  | [] => [p]
theorem splitL_glue (c : UInt8) (b : UInt8) (r p : List UInt8) : glue p (splitL c (b :: r)) = if b = c then p :: splitL c r else glue (p ++ [b]) (splitL c r) := by
  rw [splitL]
  by_cases h : b = c
  · rw [if_pos h, if_pos h]
    simp [glue]
  · rw [if_neg h, if_neg h]
    cases hs : splitL c r with
    | nil => exact absurd hs (splitL_ne c r)
    | cons x xs => simp [glue]
theorem glue_nil {l : List (List UInt8)} (h : l ≠ []) : glue [] l = l := by
  cases l with
  | nil => exact absurd rfl h
  | cons x xs => rfl
theorem splitL_len (c : UInt8) : ∀ l, (splitL c l).length ≤ l.length + 1
  | [] => by simp [splitL]
  | b :: r => by
    have := splitL_len c r
    rw [splitL]
    split
    · simp; omega
    · split
      · rename_i x xs h
        rw [h] at this
        simp at this ⊢
        omega
      · simp
theorem splitL_join (c : UInt8) : ∀ l, Lib.join (splitL c l) [c] = l
  | [] => by simp [splitL, Lib.join_one]
  | b :: r => by
    have ih := splitL_join c r
    rw [splitL]
    cases hs : splitL c r with
    | nil => exact absurd hs (splitL_ne c r)
    | cons x xs =>
      rw [hs, Lib.join_cons] at ih
      split
      · rename_i h
        rw [Lib.join_cons, h]
        simp only [Lib.joinTail, List.map_cons, List.flatten_cons, List.nil_append]
        have e : [c] ++ x ++ (List.map (fun y => [c] ++ y) xs).flatten = c :: (x ++ Lib.joinTail [c] xs) := by simp [Lib.joinTail]
        rw [e, ih]
      · rw [Lib.join_cons, List.cons_append, ih]
theorem splitS_join (c : UInt8) (s : ByteArray) : joinB (splitS c s) (mkS [c]) = s := by
  apply ba_ext
  show Lib.join ((splitS c s).map (·.data.toList)) [c] = _
  have : (splitS c s).map (·.data.toList) = splitL c s.data.toList := by
    unfold splitS
    rw [List.map_map]
    conv => rhs; rw [← List.map_id (splitL c s.data.toList)]
    rfl
  rw [this]
  exact splitL_join c _
theorem splitS_len (c : UInt8) (s : ByteArray) : (splitS c s).length ≤ s.size + 1 := by
  unfold splitS
  rw [List.length_map, size_list]
  exact splitL_len c _
theorem splitL_piece (c : UInt8) : ∀ l x, x ∈ splitL c l → x.length ≤ l.length
  | [], x, h => by
    rw [splitL, List.mem_singleton] at h
    rw [h]
    exact Nat.le_refl _
  | b :: r, x, h => by
    rw [splitL] at h
    split at h
    · rcases List.mem_cons.1 h with h | h
      · rw [h]; exact Nat.zero_le _
      · have := splitL_piece c r x h
        rw [List.length_cons]; omega
    · split at h
      · rename_i y ys hy
        rcases List.mem_cons.1 h with h | h
        · have := splitL_piece c r y (by rw [hy]; simp)
          rw [h, List.length_cons, List.length_cons]; omega
        · have := splitL_piece c r x (by rw [hy]; exact List.mem_cons_of_mem _ h)
          rw [List.length_cons]; omega
      · rw [List.mem_singleton] at h
        rw [h]
        simp
theorem splitS_piece (c : UInt8) (s x : ByteArray) (h : x ∈ splitS c s) : x.size ≤ s.size := by
  obtain ⟨l, hl, rfl⟩ := List.mem_map.1 h
  rw [size_list, size_list, mkS_list]
  exact splitL_piece c _ l hl
theorem l1Split_ev (s : ByteArray) (c : UInt8) (hs : s.size ≤ 1048576) : Ev (fun k => spec_l1Split k (s, (c.toNat : Int))) (splitS c s) := by
  have hsl := size_list s
  have ext : ∀ f i : Nat, f ≤ i → i ≤ s.size → s.extract f i = mkS ((s.data.toList.take i).drop f) := fun f i h1 h2 => by
    apply ba_ext
    rw [extract_list, mkS_list]
  have loop : ∀ (m i f : Nat) (out : List ByteArray), i + m = s.size → f ≤ i → out.length ≤ i → ∃ (out' : List ByteArray) (f' : Nat), f' ≤ s.size ∧ out'.length ≤ s.size ∧ Ev (fun k => spec_l1Split_l k (s, (c.toNat : Int), out, (f : Int), (i : Int))) (s, out', (f' : Int)) ∧
      out' ++ [mkS (s.data.toList.drop f')] = out ++ (glue ((s.data.toList.take i).drop f) (splitL c (s.data.toList.drop i))).map mkS := by
    intro m
    induction m with
    | zero =>
      intro i f out hi hf ho
      refine ⟨out, f, by omega, by omega, Ev.step (fun k => spec_l1Split_l.eq k s _ out f i) (Ev.no (not_lt_nat (by omega)) (Ev.now _)), ?_⟩
      rw [List.drop_of_length_le (i := i) (by omega), List.take_of_length_le (i := i) (by omega)]
      simp [splitL, glue]
    | succ m ih =>
      intro i f out hi hf ho
      obtain ⟨b, hb⟩ := byte_at (cs := s) (i := i) (by omega)
      obtain ⟨hlt, he⟩ := List.getElem?_eq_some_iff.1 hb
      have hdrop : s.data.toList.drop i = b :: s.data.toList.drop (i + 1) := by rw [List.drop_eq_getElem_cons hlt, he]
      have htake : s.data.toList.take (i + 1) = s.data.toList.take i ++ [b] := by rw [List.take_add_one, hb]; rfl
      rw [hdrop, splitL_glue]
      by_cases hbc : b = c
      · obtain ⟨out', f', h1, h2, h3, h4⟩ := ih (i + 1) (i + 1) (out ++ [s.extract f i]) (by omega) (Nat.le_refl _) (by simp; omega)
        refine ⟨out', f', h1, h2, ?_, ?_⟩
        · refine Ev.step (fun k => spec_l1Split_l.eq k s _ out f i) (Ev.yes (lt_nat (by omega)) (Ev.yes (inB_nat (by omega)) ?_))
          rw [Int.toNat_natCast, bt_at hb, w64_succ (by omega)]
          refine Ev.yes (by rw [hbc]; exact beq_iff_eq.2 rfl) (Ev.yes (by rw [decide_eq_true (by omega), decide_eq_true (by omega), decide_eq_true (by omega), decide_eq_true (by omega)]; rfl) (Ev.yes (fits_of (by omega)) ?_))
          rw [Int.toNat_natCast]
          exact h3
        · rw [h4, if_pos hbc, ext f i hf (by omega)]
          have e0 : (s.data.toList.take (i + 1)).drop (i + 1) = [] := List.drop_of_length_le (by rw [List.length_take]; omega)
          rw [e0, glue_nil (splitL_ne c _)]
          simp
      · obtain ⟨out', f', h1, h2, h3, h4⟩ := ih (i + 1) f out (by omega) (by omega) (by omega)
        refine ⟨out', f', h1, h2, ?_, ?_⟩
        · refine Ev.step (fun k => spec_l1Split_l.eq k s _ out f i) (Ev.yes (lt_nat (by omega)) (Ev.yes (inB_nat (by omega)) ?_))
          rw [Int.toNat_natCast, bt_at hb, w64_succ (by omega)]
          exact Ev.no (beq_eq_false_iff_ne.2 fun e => hbc (UInt8.toNat_inj.1 (by omega))) h3
        · rw [h4, if_neg hbc, htake]
          congr 3
          rw [List.drop_append_of_le_length (by rw [List.length_take]; omega)]
  obtain ⟨out', f', h1, h2, h3, h4⟩ := loop s.size 0 0 [] (by omega) (Nat.le_refl _) (by simp)
  have e4 : out' ++ [mkS (s.data.toList.drop f')] = splitS c s := by
    rw [h4]
    simp only [List.take_zero, List.drop_nil, List.drop_zero, List.nil_append]
    rw [glue_nil (splitL_ne c _)]
    rfl
  refine Ev.step (fun k => spec_l1Split.eq k s _) (Ev.bind h3 (Ev.yes (by dsimp only; rw [decide_eq_true (by omega), decide_eq_true (by omega)]; rfl) (Ev.yes (fits_of (by dsimp only; omega)) (Ev.now' ?_))))
  rw [← e4]
  dsimp only
  rw [Int.toNat_natCast, ext f' s.size h1 (Nat.le_refl _), List.take_of_length_le (by omega)]
/-! ### Numbers -/
theorem valF_lt : ∀ (l : List UInt8) (a : Nat), Digs l → valF a l < (a + 1) * 10 ^ l.length := by
  intro l
  induction l with
  | nil => intro a _; show a < (a + 1) * 1; omega
  | cons c l ih =>
    intro a h
    have hc := h c List.mem_cons_self
    have := ih (stp a c) fun x hx => h x (List.mem_cons_of_mem _ hx)
    rw [valF_cons, List.length_cons, Nat.pow_succ]
    have h2 : stp a c + 1 ≤ (a + 1) * 10 := by rw [stp_eq]; omega
    have h3 := Nat.mul_le_mul_right (10 ^ l.length) h2
    rw [show (a + 1) * (10 ^ l.length * 10) = (a + 1) * 10 * 10 ^ l.length by rw [Nat.mul_comm (10 ^ l.length), Nat.mul_assoc]]
    omega
def IsNum (s : ByteArray) (v : Int) : Prop := (∃ n : Nat, n ≤ 999999 ∧ s = decS n ∧ v = n) ∨ ((∀ n : Nat, n ≤ 999999 → s ≠ decS n) ∧ v = -1)
theorem decS_inj {a b : Nat} (h : decS a = decS b) : a = b := dec_inj (by rw [← decS_list, ← decS_list, h])
theorem l1Read_ev (s : ByteArray) (hs : s.size ≤ 1048576) : ∃ v, Ev (fun k => spec_l1Read k s) v ∧ IsNum s v := by
  have hsl := size_list s
  by_cases h16 : (1 : Int) ≤ (s.size : Int) ∧ (s.size : Int) ≤ 6
  rotate_left
  · refine ⟨-1, Ev.step (fun k => spec_l1Read.eq k s) (Ev.bind ((l1In_ev _ 1 6).isF h16) (Ev.yes rfl (Ev.now _))), .inr ⟨fun n hn e => h16 ?_, rfl⟩⟩
    have := dec_len 5 n (by omega)
    rw [← decS_list, ← e, ← hsl] at this
    omega
  have loop : ∀ (m i : Nat), i + m = s.size → (∀ (j : Nat) (c : UInt8), j < i → s.data.toList[j]? = some c → 48 ≤ c.toNat ∧ c.toNat ≤ 57) → (∃ (j : Nat) (c : UInt8), s.data.toList[j]? = some c ∧ ¬ (48 ≤ c.toNat ∧ c.toNat ≤ 57)) ∧ Ev (fun k => spec_l1Read_l k (s, (valF 0 (s.data.toList.take i) : Int), (i : Int))) (.inl (-1)) ∨
      Digs s.data.toList ∧ Ev (fun k => spec_l1Read_l k (s, (valF 0 (s.data.toList.take i) : Int), (i : Int))) (.inr (valF 0 s.data.toList : Int)) := by
    intro m
    induction m with
    | zero =>
      intro i hi hd
      refine .inr ⟨fun c hc => ?_, Ev.step (fun k => spec_l1Read_l.eq k s _ _) (Ev.no (not_lt_nat (by omega)) (Ev.now' (by rw [List.take_of_length_le (by omega)])))⟩
      obtain ⟨j, hj⟩ := List.mem_iff_getElem?.1 hc
      exact hd j c (by have := (List.getElem?_eq_some_iff.1 hj).1; omega) hj
    | succ m ih =>
      intro i hi hd
      obtain ⟨c, hc⟩ := byte_at (cs := s) (i := i) (by omega)
      have hlt := c.toNat_lt
      have hb := bt_at hc
      have htake : s.data.toList.take (i + 1) = s.data.toList.take i ++ [c] := by rw [List.take_add_one, hc]; rfl
      have hv : valF 0 (s.data.toList.take (i + 1)) = valF 0 (s.data.toList.take i) * 10 + (c.toNat - 48) := by rw [htake, valF_append, valF_one]
      have hvl : valF 0 (s.data.toList.take i) < 1000000 := by
        have := valF_lt (s.data.toList.take i) 0 fun x hx => by
          obtain ⟨j, hj⟩ := List.mem_iff_getElem?.1 hx
          rw [List.getElem?_take] at hj
          split at hj
          · exact hd j x (by omega) hj
          · cases hj
        have h5 : 10 ^ (s.data.toList.take i).length ≤ 10 ^ 6 := Nat.pow_le_pow_right (by omega) (by rw [List.length_take]; omega)
        omega
      have go : ∀ r, Ev (fun k => cond (decide ((c.toNat : Int) < 48)) (some (.inl (-1))) (cond (inB (i : Int) s.size) (cond (decide ((c.toNat : Int) > 57)) (some (.inl (-1))) (cond (inB (i : Int) s.size) (spec_l1Read_l k (s, w64 (w64 (10 * (valF 0 (s.data.toList.take i) : Int)) + w64 (w8 ((c.toNat : Int) - 48))), ((i + 1 : Nat) : Int))) none)) none)) r → Ev (fun k => spec_l1Read_l k (s, (valF 0 (s.data.toList.take i) : Int), (i : Int))) r := fun r hr => by
        refine Ev.step (fun k => spec_l1Read_l.eq k s _ _) (Ev.yes (lt_nat (by omega)) (Ev.yes (inB_nat (by omega)) ?_))
        rw [Int.toNat_natCast, hb, w64_succ (by omega)]
        exact hr
      by_cases c1 : c.toNat < 48
      · exact .inl ⟨⟨i, c, hc, by omega⟩, go _ (Ev.yes (decide_eq_true (by omega)) (Ev.now _))⟩
      by_cases c2 : c.toNat > 57
      · exact .inl ⟨⟨i, c, hc, by omega⟩, go _ (Ev.no (decide_eq_false (by omega)) (Ev.yes (inB_nat (by omega)) (Ev.yes (decide_eq_true (by omega)) (Ev.now _))))⟩
      have e : w64 (w64 (10 * (valF 0 (s.data.toList.take i) : Int)) + w64 (w8 ((c.toNat : Int) - 48))) = (valF 0 (s.data.toList.take (i + 1)) : Int) := by
        rw [hv, w8_of (by omega) (by omega), w64_of (n := (c.toNat : Int) - 48) (by omega) (by omega), w64_of (n := 10 * _) (by omega) (by omega), w64_of (by omega) (by omega)]
        omega
      have hd' : ∀ j x, j < i + 1 → s.data.toList[j]? = some x → 48 ≤ x.toNat ∧ x.toNat ≤ 57 := fun j x hj hx => by
        by_cases hji : j = i
        · subst hji
          rw [hc] at hx
          cases hx
          omega
        · exact hd j x (by omega) hx
      rcases ih (i + 1) (by omega) hd' with ⟨g1, g2⟩ | ⟨g1, g2⟩
      · exact .inl ⟨g1, go _ (Ev.no (decide_eq_false (by omega)) (Ev.yes (inB_nat (by omega)) (Ev.no (decide_eq_false (by omega)) (Ev.yes (inB_nat (by omega)) (by rw [e]; exact g2)))))⟩
      · exact .inr ⟨g1, go _ (Ev.no (decide_eq_false (by omega)) (Ev.yes (inB_nat (by omega)) (Ev.no (decide_eq_false (by omega)) (Ev.yes (inB_nat (by omega)) (by rw [e]; exact g2)))))⟩
  obtain ⟨c0, hc0⟩ := byte_at (cs := s) (i := 0) (by omega)
  have hb0 := bt_at hc0
  have hne : s.data.toList ≠ [] := fun e => by rw [e] at hc0; cases hc0
  have hhead : s.data.toList.head? = some c0 := by rw [List.head?_eq_getElem?]; exact hc0
  -- the two ways of the loop
  have fin : (2 ≤ s.size → c0.toNat ≠ 48) → ∃ v, Ev (fun k => (spec_l1Read_l k (s, 0, 0)).bind fun r2 => r2.elim (fun r3 => some r3) (fun r4 => some r4)) v ∧ IsNum s v := fun hz => by
    rcases loop s.size 0 (by omega) (fun j c hj => by omega) with ⟨⟨j, c, g1, g2⟩, g3⟩ | ⟨g1, g2⟩
    · refine ⟨-1, Ev.bind g3 (Ev.now _), .inr ⟨fun n hn e => g2 ?_, rfl⟩⟩
      have := (dec_canon n).1 c
      rw [← decS_list, ← e] at this
      exact this (List.mem_of_getElem? g1)
    · refine ⟨_, Ev.bind g2 (Ev.now _), .inl ⟨valF 0 s.data.toList, ?_, ?_, rfl⟩⟩
      · have := valF_lt s.data.toList 0 g1
        have h5 : 10 ^ s.data.toList.length ≤ 10 ^ 6 := Nat.pow_le_pow_right (by omega) (by omega)
        omega
      · apply ba_ext
        rw [decS_list]
        refine (val_dec _ s.data.toList rfl hne g1 fun h2 c hc => ?_).symm
        rw [hhead] at hc
        cases hc
        exact hz (by omega)
  refine (?_ : ∃ v, Ev (fun k => cond (bt s 0 == 48) (cond (decide ((s.size : Int) > 1)) (some (-1)) ((spec_l1Read_l k (s, 0, 0)).bind fun r2 => r2.elim (fun r3 => some r3) (fun r4 => some r4))) ((spec_l1Read_l k (s, 0, 0)).bind fun r5 => r5.elim (fun r6 => some r6) (fun r7 => some r7))) v ∧ IsNum s v).imp fun v hv => ⟨Ev.step (fun k => spec_l1Read.eq k s) (Ev.bind ((l1In_ev _ 1 6).isT h16) (Ev.no rfl (Ev.yes (inB_of (by omega) (by omega)) hv.1))), hv.2⟩
  rw [hb0]
  by_cases z : c0.toNat = 48
  · by_cases z1 : s.size > 1
    · refine ⟨-1, Ev.yes (by rw [beq_iff_eq]; omega) (Ev.yes (decide_eq_true (by omega)) (Ev.now _)), .inr ⟨fun n hn e => ?_, rfl⟩⟩
      have d := dec_canon n
      by_cases hn0 : n = 0
      · have : s.data.toList.length = 1 := by rw [e, decS_list, hn0, dec_small (by omega)]; rfl
        omega
      · exact d.2.2 (by omega) c0 (by rw [← decS_list, ← e]; exact hhead) z
    · obtain ⟨v, h1, h2⟩ := fin fun h => by omega
      exact ⟨v, Ev.yes (by rw [beq_iff_eq]; omega) (Ev.no (decide_eq_false (by omega)) h1), h2⟩
  · obtain ⟨v, h1, h2⟩ := fin fun _ => z
    exact ⟨v, Ev.no (by rw [beq_eq_false_iff_ne]; omega) h1, h2⟩
def NumsOk (c : UInt8) (s : ByteArray) (many : Nat) (most : Int) (ns : List Nat) : Prop := ns.length = many ∧ (∀ n ∈ ns, (n : Int) ≤ most) ∧ splitS c s = ns.map decS
theorem numbers_ev (s : ByteArray) (c : UInt8) (many : Nat) (most : Int) (hs : s.size ≤ 1048576) (hm : many ≤ 100) (hmost : most ≤ 999999) : (∃ ns, NumsOk c s many most ns ∧ Ev (fun k => impl_numbers k (s, bs [c], (many : Int), most)) (ns.map fun n : Nat => (n : Int), true)) ∨
    ((∀ ns, ¬ NumsOk c s many most ns) ∧ Ev (fun k => impl_numbers k (s, bs [c], (many : Int), most)) (List.replicate many 0, false)) := by
  have hsp : Ev (fun k => strings_Split k (s, bs [c])) (splitS c s) := Ev.step (fun k => (strings_Split.eq k (s, bs [c])).trans (strSplit_pieces s c (by omega))) (Ev.now _)
  have hlen := splitS_len c s
  have hpc : ∀ x ∈ splitS c s, x.size ≤ s.size := fun x hx => splitS_piece c s x hx
  unfold NumsOk
  generalize splitS c s = L at hsp hlen hpc
  have hrep : (((decide ((0 : Int) ≤ (many : Int))) && (decide ((many : Int) ≤ (many : Int)))) && (fits (many : Int).toNat 8)) = true := by
    rw [decide_eq_true (by omega), decide_eq_true (by omega), fits_of (by omega)]; rfl
  have loop : ∀ (m i : Nat) (ns : List Nat), i + m = L.length → ns.length = i → (∀ n ∈ ns, (n : Int) ≤ most) → L.take i = ns.map decS →
      (∃ ns' : List Nat, (∀ n ∈ ns', (n : Int) ≤ most) ∧ L = ns'.map decS ∧ Ev (fun k => impl_numbers_l k ((many : Int), most, ns.map (fun n : Nat => (n : Int)), L, (L.length : Int), (i : Int))) (.inr ((many : Int), ns'.map fun n : Nat => (n : Int)))) ∨
      ((∃ x ∈ L, ∀ n : Nat, (n : Int) ≤ most → x ≠ decS n) ∧ Ev (fun k => impl_numbers_l k ((many : Int), most, ns.map (fun n : Nat => (n : Int)), L, (L.length : Int), (i : Int))) (.inl (List.replicate many 0, false))) := by
    intro m
    induction m with
    | zero =>
      intro i ns hi hl hn ht
      refine .inl ⟨ns, hn, by rwa [List.take_of_length_le (by omega)] at ht, Ev.step (fun k => impl_numbers_l.eq k _ _ _ L _ _) (Ev.no (not_lt_nat (by omega)) (Ev.now _))⟩
    | succ m ih =>
      intro i ns hi hl hn ht
      obtain ⟨x, hx⟩ := nat_list (l := L) (i := i) (by omega)
      have hxm := List.mem_of_getElem? hx
      have go : ∀ r v b, numB x most = some (v, b) → Ev (fun k => cond (!b) (cond (((decide ((0 : Int) ≤ (many : Int))) && (decide ((many : Int) ≤ (many : Int)))) && (fits (many : Int).toNat 8)) (some (.inl ((List.replicate (many : Int).toNat 0), false))) none) (cond (fits ((ns.map (fun n : Nat => (n : Int))).length + 1) 8) (impl_numbers_l k ((many : Int), most, (ns.map (fun n : Nat => (n : Int)) ++ [v]), L, (L.length : Int), ((i + 1 : Nat) : Int))) none)) r → Ev (fun k => impl_numbers_l k ((many : Int), most, ns.map (fun n : Nat => (n : Int)), L, (L.length : Int), (i : Int))) r := fun r v b hb hr => by
        refine Ev.step (fun k => impl_numbers_l.eq k _ _ _ L _ _) (Ev.yes (lt_nat (by omega)) (Ev.yes (inB_nat (by omega)) ?_))
        rw [Int.toNat_natCast, getD_at hx, w64_succ (by omega)]
        exact Ev.bind (Ev.step (fun k => (impl_number.eq k (x, most)).trans hb) (Ev.now _)) hr
      have hxs := hpc x hxm
      rcases numB_dec x most (by omega) (by omega) with ⟨n, g1, g2, g3⟩ | ⟨g1, g2⟩
      · have hmap : (ns.map (fun n : Nat => (n : Int)) ++ [(n : Int)]) = (ns ++ [n]).map fun n : Nat => (n : Int) := by simp
        have hf : fits ((ns.map (fun n : Nat => (n : Int))).length + 1) 8 = true := fits_of (by rw [List.length_map]; omega)
        have st := fun r hr => go r (n : Int) true g3 (Ev.no rfl (Ev.yes hf hr))
        rw [hmap] at st
        rcases ih (i + 1) (ns ++ [n]) (by omega) (by simp [hl]) (fun q hq => by
          rcases List.mem_append.1 hq with hq | hq
          · exact hn q hq
          · rw [List.mem_singleton.1 hq]; exact g1) (by rw [List.take_add_one, hx, ht, g2]; simp) with ⟨ns', q1, q2, q3⟩ | ⟨q1, q2⟩
        · exact .inl ⟨ns', q1, q2, st _ q3⟩
        · exact .inr ⟨q1, st _ q2⟩
      · exact .inr ⟨⟨x, hxm, g1⟩, go _ 0 false g2 (Ev.yes rfl (Ev.yes hrep (Ev.now _)))⟩
  rcases loop L.length 0 [] (by omega) rfl (by simp) (by simp) with ⟨ns', q1, q2, q3⟩ | ⟨⟨x, q1, q2⟩, q3⟩
  · have hll : (ns'.map fun n : Nat => (n : Int)).length = ns'.length := List.length_map ..
    by_cases hc : ns'.length = many
    · refine .inl ⟨ns', ⟨hc, q1, q2⟩, Ev.step (fun k => impl_numbers.eq k s (bs [c]) many most) (Ev.bind hsp (Ev.bind q3 (Ev.no ?_ (Ev.now _))))⟩
      rw [bne_eq_false_iff_eq, hll]
      omega
    · refine .inr ⟨fun ns h => hc ?_, Ev.step (fun k => impl_numbers.eq k s (bs [c]) many most) (Ev.bind hsp (Ev.bind q3 (Ev.yes ?_ (Ev.yes hrep (Ev.now _)))))⟩
      · have e : ns.length = ns'.length := by
          have := congrArg List.length (h.2.2.symm.trans q2)
          rwa [List.length_map, List.length_map] at this
        rw [← e]
        exact h.1
      · rw [bne_iff_ne, hll]
        omega
  · refine .inr ⟨fun ns h => ?_, Ev.step (fun k => impl_numbers.eq k s (bs [c]) many most) (Ev.bind hsp (Ev.bind q3 (Ev.now _)))⟩
    rw [h.2.2] at q1
    obtain ⟨n, hn, rfl⟩ := List.mem_map.1 q1
    exact q2 n (h.2.1 n hn) rfl
/-! ### Joins cut up again -/
theorem splitL_free (c : UInt8) : ∀ x : List UInt8, c ∉ x → splitL c x = [x]
  | [], _ => by simp [splitL]
  | b :: x, h => by
    have hb : b ≠ c := fun e => h (by rw [e]; exact List.mem_cons_self)
    rw [splitL, if_neg hb, splitL_free c x fun hx => h (List.mem_cons_of_mem _ hx)]
theorem splitL_cut (c : UInt8) (r : List UInt8) : ∀ x : List UInt8, c ∉ x → splitL c (x ++ c :: r) = x :: splitL c r
  | [], _ => by simp [splitL]
  | b :: x, h => by
    have hb : b ≠ c := fun e => h (by rw [e]; exact List.mem_cons_self)
    rw [List.cons_append, splitL, if_neg hb, splitL_cut c r x fun hx => h (List.mem_cons_of_mem _ hx)]
theorem splitL_joined (c : UInt8) : ∀ (T : List (List UInt8)), T ≠ [] → (∀ x ∈ T, c ∉ x) → splitL c (Lib.join T [c]) = T
  | [], h, _ => absurd rfl h
  | [x], _, h => by rw [Lib.join_one]; exact splitL_free c x (h x (by simp))
  | x :: y :: r, _, h => by
    have ih := splitL_joined c (y :: r) (by simp) fun z hz => h z (List.mem_cons_of_mem _ hz)
    rw [Lib.join_cons] at ih
    rw [Lib.join_cons]
    have e : x ++ Lib.joinTail [c] (y :: r) = x ++ c :: (y ++ Lib.joinTail [c] r) := by simp [Lib.joinTail]
    rw [e, splitL_cut c _ x (h x (by simp)), ih]
theorem splitS_joined (c : UInt8) (T : List ByteArray) (hT : T ≠ []) (h : ∀ x ∈ T, c ∉ x.data.toList) : splitS c (joinB T (bs [c])) = T := by
  unfold splitS
  have e : (joinB T (bs [c])).data.toList = Lib.join (T.map (·.data.toList)) [c] := rfl
  rw [e, splitL_joined c _ (by simpa using hT) (by intro x hx; obtain ⟨y, hy, rfl⟩ := List.mem_map.1 hx; exact h y hy), List.map_map]
  conv => rhs; rw [← List.map_id T]
  rfl
theorem dec_free (n : Nat) (c : UInt8) (h : ¬ (48 ≤ c.toNat ∧ c.toNat ≤ 57)) : c ∉ (decS n).data.toList := fun hc => h ((dec_canon n).1 c hc)
/-! ### FieldsFunc -/
theorem xor_neg {n : Int} (h0 : 0 ≤ n) (h1 : n ≤ 4294967296) : xorI .i64 (-1) n = -n - 1 := by
  unfold xorI
  have e : BitVec.ofInt IntKind.i64.bits (-1) = BitVec.allOnes IntKind.i64.bits := by decide
  rw [e, BitVec.allOnes_xor, BitVec.toNat_not]
  have e2 : (BitVec.ofInt IntKind.i64.bits n).toNat = n.toNat := by
    rw [BitVec.toNat_ofInt]
    show (n % (2 ^ 64 : Nat)).toNat = n.toNat
    rw [Int.emod_eq_of_lt h0 (by omega)]
  rw [e2]
  have e3 : ((2 ^ IntKind.i64.bits - 1 - n.toNat : Nat) : Int) = 18446744073709551615 - n := by
    show ((2 ^ 64 - 1 - n.toNat : Nat) : Int) = _
    omega
  rw [e3]
  unfold IntKind.wrap
  show (if (true && decide ((18446744073709551615 - n) % 2 ^ 64 ≥ 2 ^ (64 - 1))) = true then (18446744073709551615 - n) % 2 ^ 64 - 2 ^ 64 else _) = _
  rw [if_pos (by simp; omega)]
  omega
def SpOk (s : ByteArray) (sp : List (Int × Int)) : Prop := ∀ p ∈ sp, 0 ≤ p.1 ∧ p.1 ≤ p.2 ∧ p.2 ≤ (s.size : Int)
theorem SpOk.snoc {s : ByteArray} {sp : List (Int × Int)} (h : SpOk s sp) {a b : Int} (hab : 0 ≤ a ∧ a ≤ b ∧ b ≤ (s.size : Int)) : SpOk s (sp ++ [(a, b)]) := fun p hp => by
  rcases List.mem_append.1 hp with hp | hp
  · exact h p hp
  · rw [List.mem_singleton.1 hp]; exact hab
def cutS (s : ByteArray) (p : Int × Int) : ByteArray := s.extract p.1.toNat p.2.toNat
def finS (s : ByteArray) (sp : List (Int × Int)) (st : Int) : List (Int × Int) := if st ≥ 0 then sp ++ [(st, (s.size : Int))] else sp
-- @if impl_ParsePuzzle_1 strings_FieldsFunc
theorem comma_ev (r : Int) : Ev (fun k => impl_ParsePuzzle_1 k r) (r == 44) := Ev.step (fun k => impl_ParsePuzzle_1.eq k r) (Ev.now _)
theorem rune_pos {s : ByteArray} {i : Nat} (h : i < s.size) : i + 1 ≤ runeEnd s i := by
  have := Lib.decode_width_pos s i h
  unfold runeEnd
  omega
theorem rune_one {s : ByteArray} {i : Nat} {c : UInt8} (h : s.data.toList[i]? = some c) (hc : c.toNat < 128) : runeAt s i = (c.toNat : Int) ∧ runeEnd s i = i + 1 := by
  obtain ⟨hlt, he⟩ := List.getElem?_eq_some_iff.1 h
  have hi : i < s.size := by rw [size_list]; exact hlt
  have hg : s[i]'hi = c := by
    rw [← he]
    simp [ByteArray.getElem_eq_getElem_data]
  unfold runeEnd runeAt
  rw [decode_ascii s i hi (by rw [hg]; exact hc), hg]
  exact ⟨rfl, rfl⟩
theorem fieldsG (s : ByteArray) (hs : s.size ≤ 1048576) : ∀ (m i : Nat) (sp : List (Int × Int)) (st : Int), s.size ≤ i + m → SpOk s sp → sp.length ≤ i → sp.length ≤ s.size → (-4294967296 ≤ st ∧ st ≤ (s.size : Int)) → st ≤ (i : Int) →
    ∃ (sp' : List (Int × Int)) (st' : Int), Ev (fun k => strings_FieldsFunc_l k (s, (), sp, st, (s, i))) (s, sp', st') ∧ SpOk s sp' ∧ sp'.length ≤ s.size ∧ (-4294967296 ≤ st' ∧ st' ≤ (s.size : Int)) := by
  intro m
  induction m with
  | zero =>
    intro i sp st hm h1 h2 h3 h4 h5
    exact ⟨sp, st, Ev.step (fun k => strings_FieldsFunc_l.eq k s sp st s i) (Ev.no (decide_eq_false (by omega)) (Ev.now _)), h1, h3, h4⟩
  | succ m ih =>
    intro i sp st hm h1 h2 h3 h4 h5
    by_cases hi : i < s.size
    rotate_left
    · exact ⟨sp, st, Ev.step (fun k => strings_FieldsFunc_l.eq k s sp st s i) (Ev.no (decide_eq_false (by omega)) (Ev.now _)), h1, h3, h4⟩
    have hr := rune_pos hi
    have st0 := fun r h => (Ev.step (fun k => strings_FieldsFunc_l.eq k s sp st s i) (Ev.yes (decide_eq_true hi) (Ev.bind (comma_ev (runeAt s i)) h)) : Ev (fun k => strings_FieldsFunc_l k (s, (), sp, st, (s, i))) r)
    by_cases hc : (runeAt s i == 44) = true
    · by_cases hst : st ≥ 0
      · have e := xor_neg hst (by omega)
        obtain ⟨sp', st', g, g2⟩ := ih (runeEnd s i) (sp ++ [(st, (i : Int))]) (-st - 1) (by omega) (h1.snoc ⟨hst, h5, by omega⟩) (by simp; omega) (by simp; omega) (by omega) (by omega)
        rw [← e] at g
        exact ⟨sp', st', st0 _ (Ev.yes hc (Ev.yes (decide_eq_true hst) (Ev.yes (fits_of (by omega)) g))), g2⟩
      · obtain ⟨sp', st', g, g2⟩ := ih (runeEnd s i) sp st (by omega) h1 (by omega) h3 h4 (by omega)
        exact ⟨sp', st', st0 _ (Ev.yes hc (Ev.no (decide_eq_false hst) g)), g2⟩
    · have hc : (runeAt s i == 44) = false := by simpa using hc
      by_cases hst : st < 0
      · obtain ⟨sp', st', g, g2⟩ := ih (runeEnd s i) sp (i : Int) (by omega) h1 (by omega) h3 (by omega) (by omega)
        exact ⟨sp', st', st0 _ (Ev.no hc (Ev.yes (decide_eq_true hst) g)), g2⟩
      · obtain ⟨sp', st', g, g2⟩ := ih (runeEnd s i) sp st (by omega) h1 (by omega) h3 h4 (by omega)
        exact ⟨sp', st', st0 _ (Ev.no hc (Ev.no (decide_eq_false hst) g)), g2⟩
theorem fields_l2 (s : ByteArray) (sp : List (Int × Int)) (hok : SpOk s sp) (hlen : sp.length ≤ 1048577) : ∀ (m i : Nat), i + m = sp.length → Ev (fun k => strings_FieldsFunc_l_2 k (s, (sp.take i).map (cutS s) ++ List.replicate m ByteArray.empty, sp, (sp.length : Int), (i : Int))) (sp.map (cutS s)) := by
  intro m
  induction m with
  | zero =>
    intro i hi
    exact Ev.step (fun k => strings_FieldsFunc_l_2.eq k s _ sp _ _) (Ev.no (not_lt_nat (by omega)) (Ev.now' (by rw [List.take_of_length_le (by omega)]; simp)))
  | succ m ih =>
    intro i hi
    obtain ⟨p, hp⟩ := nat_list (l := sp) (i := i) (by omega)
    obtain ⟨a1, a2, a3⟩ := hok p (List.mem_of_getElem? hp)
    have ih' := ih (i + 1) (by omega)
    have hl : ((sp.take i).map (cutS s)).length = i := by rw [List.length_map, List.length_take]; omega
    have e : ((sp.take i).map (cutS s) ++ List.replicate (m + 1) ByteArray.empty).set i (cutS s p) = (sp.take (i + 1)).map (cutS s) ++ List.replicate m ByteArray.empty := by
      rw [List.set_append_right _ _ (by omega), hl, Nat.sub_self, List.take_add_one, hp, List.replicate_succ]
      simp
    refine Ev.step (fun k => strings_FieldsFunc_l_2.eq k s _ sp _ _) (Ev.yes (lt_nat (by omega)) (Ev.yes (inB_nat (by omega)) ?_))
    rw [Int.toNat_natCast, getD_at hp, w64_succ (by omega)]
    refine Ev.yes (by rw [decide_eq_true (by omega), decide_eq_true (by omega), decide_eq_true (by omega), decide_eq_true (by omega)]; rfl) (Ev.yes (inB_nat (by rw [List.length_append, hl, List.length_replicate]; omega)) ?_)
    rw [← e] at ih'
    exact ih'
theorem fields_of (s : ByteArray) (hs : s.size ≤ 1048576) (sp : List (Int × Int)) (st : Int) (h : Ev (fun k => strings_FieldsFunc_l k (s, (), [], -1, (s, 0))) (s, sp, st)) (hok : SpOk s sp) (hlen : sp.length ≤ s.size) (hst : st ≤ (s.size : Int)) : Ev (fun k => strings_FieldsFunc k (s, ())) ((finS s sp st).map (cutS s)) := by
  refine Ev.step (fun k => strings_FieldsFunc.eq k s) (Ev.yes (fits_of (by omega)) (Ev.bind h ?_))
  have go : ∀ q : List (Int × Int), SpOk s q → q.length ≤ 1048577 → ∀ (f : Nat → Option (List ByteArray)), (∀ k, f k = cond (((decide ((0 : Int) ≤ (q.length : Int))) && (decide ((q.length : Int) ≤ (q.length : Int)))) && (fits (q.length : Int).toNat 16)) ((strings_FieldsFunc_l_2 k (s, (List.replicate (q.length : Int).toNat ByteArray.empty), q, (q.length : Int), 0)).bind fun r2 => some r2) none) → Ev f (q.map (cutS s)) := fun q hq hl f hf => by
    have e : f = fun k => _ := funext hf
    rw [e]
    have l2 := fields_l2 s q hq hl q.length 0 (by omega)
    rw [List.take_zero, List.map_nil, List.nil_append] at l2
    refine Ev.yes (by rw [decide_eq_true (by omega), decide_eq_true (by omega), fits_of (by omega)]; rfl) ?_
    rw [Int.toNat_natCast]
    exact Ev.bind l2 (Ev.now _)
  unfold finS
  by_cases hs0 : st ≥ 0
  · rw [if_pos hs0]
    exact Ev.yes (decide_eq_true hs0) (Ev.yes (fits_of (by dsimp only; omega)) (go _ (hok.snoc ⟨hs0, hst, by omega⟩) (by simp; omega) _ fun k => rfl))
  · rw [if_neg hs0]
    exact Ev.no (decide_eq_false hs0) (go _ hok (by omega) _ fun k => rfl)
theorem fields_any (s : ByteArray) (hs : s.size ≤ 1048576) : ∃ l : List ByteArray, Ev (fun k => strings_FieldsFunc k (s, ())) l ∧ l.length ≤ s.size + 1 ∧ ∀ x ∈ l, x.size ≤ s.size := by
  obtain ⟨sp, st, h1, h2, h3, h4⟩ := fieldsG s hs s.size 0 [] (-1) (by omega) (fun p hp => by cases hp) (by simp) (by simp) (by omega) (by omega)
  refine ⟨_, fields_of s hs sp st h1 h2 h3 h4.2, ?_, fun x hx => ?_⟩
  · unfold finS
    split <;> simp <;> omega
  · obtain ⟨p, _, rfl⟩ := List.mem_map.1 hx
    unfold cutS
    rw [size_list, extract_list, List.length_drop, List.length_take, size_list]
    omega
def GoodP (x : ByteArray) : Prop := 1 ≤ x.size ∧ ∀ c ∈ x.data.toList, c.toNat < 128 ∧ c.toNat ≠ 44
theorem fields_stay (s : ByteArray) (sp : List (Int × Int)) (st : Int) (hst : 0 ≤ st) (e : Nat) (r : ByteArray × List (Int × Int) × Int) (hr : Ev (fun k => strings_FieldsFunc_l k (s, (), sp, st, (s, e))) r) : ∀ (m j : Nat), j + m = e → (∀ q, j ≤ q → q < e → ∃ c : UInt8, s.data.toList[q]? = some c ∧ c.toNat < 128 ∧ c.toNat ≠ 44) → Ev (fun k => strings_FieldsFunc_l k (s, (), sp, st, (s, j))) r := by
  intro m
  induction m with
  | zero =>
    intro j hj _
    have : j = e := by omega
    rw [this]
    exact hr
  | succ m ih =>
    intro j hj hb
    obtain ⟨c, hc, h1, h2⟩ := hb j (Nat.le_refl _) (by omega)
    have hlt : j < s.size := by rw [size_list]; exact (List.getElem?_eq_some_iff.1 hc).1
    obtain ⟨r1, r2⟩ := rune_one hc h1
    have ih' := ih (j + 1) (by omega) fun q h3 h4 => hb q (by omega) h4
    rw [← r2] at ih'
    refine Ev.step (fun k => strings_FieldsFunc_l.eq k s sp st s j) (Ev.yes (decide_eq_true hlt) (Ev.bind (comma_ev _) (Ev.no ?_ (Ev.no (decide_eq_false (by omega)) ih'))))
    rw [r1, beq_eq_false_iff_ne]
    omega
theorem fieldsE (s : ByteArray) (hs : s.size ≤ 1048576) : ∀ (T : List ByteArray), (∀ x ∈ T, GoodP x) → ∀ (i : Nat) (sp : List (Int × Int)) (st : Int), st < 0 → SpOk s sp → i ≤ s.size → sp.length ≤ i → s.data.toList.drop i = Lib.join (T.map (·.data.toList)) [44] →
    ∃ (sp' : List (Int × Int)) (st' : Int), Ev (fun k => strings_FieldsFunc_l k (s, (), sp, st, (s, i))) (s, sp', st') ∧ SpOk s sp' ∧ sp'.length ≤ s.size ∧ st' ≤ (s.size : Int) ∧ (finS s sp' st').map (cutS s) = sp.map (cutS s) ++ T := by
  intro T
  have hsl := size_list s
  -- one piece x from i on: the loop comes to its end with start i
  have piece : ∀ (x : ByteArray) (t : List UInt8) (i : Nat) (sp : List (Int × Int)) (st : Int) (r : ByteArray × List (Int × Int) × Int), GoodP x → st < 0 → s.data.toList.drop i = x.data.toList ++ t → Ev (fun k => strings_FieldsFunc_l k (s, (), sp, (i : Int), (s, i + x.size))) r → Ev (fun k => strings_FieldsFunc_l k (s, (), sp, st, (s, i))) r ∧ i + x.size ≤ s.size ∧ cutS s ((i : Int), ((i + x.size : Nat) : Int)) = x := by
    intro x t i sp st r hx hst hd hr
    have hxl := size_list x
    have hlen := congrArg List.length hd
    rw [List.length_drop, List.length_append] at hlen
    have hx1 := hx.1
    have byte : ∀ q, i ≤ q → q < i + x.size → ∃ c : UInt8, s.data.toList[q]? = some c ∧ c.toNat < 128 ∧ c.toNat ≠ 44 := fun q h1 h2 => by
      have hq : q - i < x.data.toList.length := by omega
      refine ⟨x.data.toList[q - i], ?_, hx.2 _ (List.getElem_mem hq)⟩
      have := congrArg (fun l => l[q - i]?) hd
      simp only [List.getElem?_drop] at this
      rw [show i + (q - i) = q by omega, List.getElem?_append_left hq, List.getElem?_eq_getElem hq] at this
      exact this
    obtain ⟨c, hc, h1, h2⟩ := byte i (Nat.le_refl _) (by omega)
    obtain ⟨r1, r2⟩ := rune_one hc h1
    have hi : i < s.size := by omega
    have go := fields_stay s sp (i : Int) (by omega) (i + x.size) r hr (x.size - 1) (i + 1) (by omega) fun q h3 h4 => byte q (by omega) h4
    rw [← r2] at go
    refine ⟨Ev.step (fun k => strings_FieldsFunc_l.eq k s sp st s i) (Ev.yes (decide_eq_true hi) (Ev.bind (comma_ev _) (Ev.no ?_ (Ev.yes (decide_eq_true hst) go)))), by omega, ?_⟩
    · rw [r1, beq_eq_false_iff_ne]
      omega
    · apply ba_ext
      unfold cutS
      rw [extract_list]
      dsimp only
      rw [Int.toNat_natCast, Int.toNat_natCast, List.drop_take, hd, show i + x.size - i = x.size by omega, hxl, List.take_left]
  induction T with
  | nil =>
    intro _ i sp st hst hok hi hl hd
    have hn : s.data.toList.length ≤ i := by
      have := congrArg List.length hd
      rw [List.length_drop] at this
      simp [Lib.join] at this
      omega
    refine ⟨sp, st, Ev.step (fun k => strings_FieldsFunc_l.eq k s sp st s i) (Ev.no (decide_eq_false (by omega)) (Ev.now _)), hok, by omega, by omega, ?_⟩
    unfold finS
    rw [if_neg (by omega), List.append_nil]
  | cons x T ih =>
    intro hT i sp st hst hok hi hl hd
    have hx := hT x List.mem_cons_self
    cases T with
    | nil =>
      have hd' : s.data.toList.drop i = x.data.toList ++ [] := by rw [hd, List.map_cons, List.map_nil, Lib.join_one, List.append_nil]
      have hlen := congrArg List.length hd'
      rw [List.length_drop, List.length_append, List.length_nil] at hlen
      have hxl := size_list x
      have e : i + x.size = s.size := by omega
      obtain ⟨g1, g2, g3⟩ := piece x [] i sp st (s, sp, (i : Int)) hx hst hd' (by rw [e]; exact Ev.step (fun k => strings_FieldsFunc_l.eq k s sp _ s _) (Ev.no (decide_eq_false (by omega)) (Ev.now _)))
      refine ⟨sp, (i : Int), g1, hok, by omega, by omega, ?_⟩
      unfold finS
      rw [if_pos (by omega), List.map_append, List.map_cons, List.map_nil, ← g3, e]
    | cons y r =>
      have hd' : s.data.toList.drop i = x.data.toList ++ 44 :: Lib.join ((y :: r).map (·.data.toList)) [44] := by
        rw [hd]
        simp only [List.map_cons, Lib.join_cons]
        simp [Lib.joinTail]
      have hxl := size_list x
      have hx1 := hx.1
      have hdrop : s.data.toList.drop (i + x.size) = 44 :: Lib.join ((y :: r).map (·.data.toList)) [44] := by
        rw [← List.drop_drop, hd', hxl, List.drop_left]
      have hcm : s.data.toList[i + x.size]? = some 44 := by
        have := congrArg (fun l => l[0]?) hdrop
        simpa [List.getElem?_drop] using this
      have hlt : i + x.size < s.size := by rw [hsl]; exact (List.getElem?_eq_some_iff.1 hcm).1
      obtain ⟨r1, r2⟩ := rune_one hcm (by decide)
      have hdrop2 : s.data.toList.drop (i + x.size + 1) = Lib.join ((y :: r).map (·.data.toList)) [44] := by
        rw [← List.drop_drop, hdrop]
        rfl
      obtain ⟨sp', st', g1, g2, g3, g4, g5⟩ := ih (fun z hz => hT z (List.mem_cons_of_mem _ hz)) (i + x.size + 1) (sp ++ [((i : Int), ((i + x.size : Nat) : Int))]) (-(i : Int) - 1) (by omega) (hok.snoc (by omega)) (by omega) (by simp; omega) hdrop2
      rw [← xor_neg (by omega) (by omega), ← r2] at g1
      have here : Ev (fun k => strings_FieldsFunc_l k (s, (), sp, (i : Int), (s, i + x.size))) (s, sp', st') :=
        Ev.step (fun k => strings_FieldsFunc_l.eq k s sp (i : Int) s (i + x.size)) (Ev.yes (decide_eq_true hlt) (Ev.bind (comma_ev _) (Ev.yes (by rw [r1]; rfl) (Ev.yes (decide_eq_true (by omega)) (Ev.yes (fits_of (by omega)) g1)))))
      obtain ⟨q1, q2, q3⟩ := piece x _ i sp st _ hx hst hd' here
      refine ⟨sp', st', q1, g2, g3, g4, ?_⟩
      rw [g5, List.map_append, List.map_cons, List.map_nil, q3, List.append_assoc]
      rfl
theorem fields_exact (s : ByteArray) (hs : s.size ≤ 1048576) (T : List ByteArray) (hT : ∀ x ∈ T, GoodP x) (hj : s = joinB T (bs [44])) : Ev (fun k => strings_FieldsFunc k (s, ())) T := by
  obtain ⟨sp, st, h1, h2, h3, h4, h5⟩ := fieldsE s hs T hT 0 [] (-1) (by omega) (fun p hp => by cases hp) (by omega) (by simp) (by rw [List.drop_zero, hj]; rfl)
  have := fields_of s hs sp st h1 h2 h3 h4
  rw [h5] at this
  exact this
-- @end

abbrev Pz := ByteArray × Int × Int × List Cl
abbrev guZero : Pz := (ByteArray.empty, 0, 0, [])
theorem guThree {α : Type} {l : List α} (h : l.length = 3) : ∃ a b c, l = [a, b, c] := by
  match l, h with
  | [a, b, c], _ => exact ⟨a, b, c, rfl⟩
theorem guTwo {α : Type} {l : List α} (h : l.length = 2) : ∃ a b, l = [a, b] := by
  match l, h with
  | [a, b], _ => exact ⟨a, b, rfl⟩
theorem guLen_ne {n m : Nat} (h : n ≠ m) : ((n : Int) != (m : Int)) = true := by rw [bne_iff_ne]; omega
theorem guIsNum_dec {n : Nat} {v : Int} (hn : n ≤ 999999) (h : IsNum (decS n) v) : v = n := by
  rcases h with ⟨m, _, h1, h2⟩ | ⟨h, _⟩
  · rw [h2, decS_inj h1]
  · exact absurd rfl (h n hn)
theorem guStrEq_ne {x y : ByteArray} (h : x ≠ y) : strEq x y = false := by
  cases e : strEq x y
  · rfl
  · exact absurd (strEq_iff.1 e) h
abbrev GuR (c : Cl) : Prop := (0 ≤ c.1 ∧ c.1 ≤ 4) ∧ (0 ≤ c.2.1 ∧ c.2.1 ≤ 100) ∧ (0 ≤ c.2.2 ∧ c.2.2 ≤ 100)
theorem clueT_join (c : Cl) : clueT c = joinB [decS c.1.toNat, decS c.2.1.toNat, decS c.2.2.toNat] (bs [46]) := by
  apply ba_ext
  unfold clueT
  simp only [joinB, mkS_list, append_list, List.map_cons, List.map_nil, Lib.join_cons, Lib.joinTail, decS_list]
  simp [bs]
theorem clueT_split (c : Cl) : splitS 46 (clueT c) = [decS c.1.toNat, decS c.2.1.toNat, decS c.2.2.toNat] := by
  rw [clueT_join]
  refine splitS_joined 46 _ (by simp) fun x hx => ?_
  simp only [List.mem_cons, List.not_mem_nil, or_false] at hx
  rcases hx with rfl | rfl | rfl <;> exact dec_free _ 46 (by decide)
theorem clueT_byte (c : Cl) : ∀ b ∈ (clueT c).data.toList, b.toNat = 46 ∨ (48 ≤ b.toNat ∧ b.toNat ≤ 57) := by
  intro b hb
  unfold clueT at hb
  simp only [append_list, List.mem_append] at hb
  have d : ∀ n, b ∈ (decS n).data.toList → (48 ≤ b.toNat ∧ b.toNat ≤ 57) := fun n h => (dec_canon n).1 b h
  have p : b ∈ (bs [46]).data.toList → b.toNat = 46 := fun h => by
    have h : b ∈ ([46] : List UInt8) := h
    rw [List.mem_singleton.1 h]
    rfl
  rcases hb with (((h | h) | h) | h) | h
  · exact .inr (d _ h)
  · exact .inl (p h)
  · exact .inr (d _ h)
  · exact .inl (p h)
  · exact .inr (d _ h)
theorem clueT_good (c : Cl) : GoodP (clueT c) := by
  refine ⟨?_, fun b hb => by have := clueT_byte c b hb; omega⟩
  have : (bs [46]).size = 1 := rfl
  unfold clueT
  simp only [ByteArray.size_append, this]
  omega
theorem guJoin_mem (c : UInt8) : ∀ (T : List (List UInt8)) (b : UInt8), b ∈ Lib.join T [c] → b = c ∨ ∃ x ∈ T, b ∈ x
  | [], b, h => by simp [Lib.join] at h
  | [x], b, h => by rw [Lib.join_one] at h; exact .inr ⟨x, by simp, h⟩
  | x :: y :: r, b, h => by
    have e : Lib.join (x :: y :: r) [c] = x ++ c :: Lib.join (y :: r) [c] := by
      rw [Lib.join_cons, Lib.join_cons]
      simp [Lib.joinTail]
    rw [e, List.mem_append, List.mem_cons] at h
    rcases h with h | h | h
    · exact .inr ⟨x, by simp, h⟩
    · exact .inl h
    · rcases guJoin_mem c (y :: r) b h with h | ⟨z, hz, h⟩
      · exact .inl h
      · exact .inr ⟨z, List.mem_cons_of_mem _ hz, h⟩
/-! ### The text of a puzzle, cut up -/
theorem puzT_split (rl : ByteArray) (w h : Int) (cl : List Cl) (H : PuzOk rl w h cl) : splitS 58 (puzT rl w h cl) = [rl, decS w.toNat ++ bs [120] ++ decS h.toNat, joinB (cl.map clueT) (bs [44])] := by
  have e : puzT rl w h cl = joinB [rl, decS w.toNat ++ bs [120] ++ decS h.toNat, joinB (cl.map clueT) (bs [44])] (bs [58]) := by
    apply ba_ext
    unfold puzT
    simp only [append_list]
    generalize (joinB (cl.map clueT) (bs [44])) = J
    simp only [joinB, mkS_list, append_list, List.map_cons, List.map_nil, Lib.join_cons, Lib.joinTail, decS_list]
    simp [bs]
  rw [e]
  refine splitS_joined 58 _ (by simp) fun x hx hc => ?_
  simp only [List.mem_cons, List.not_mem_nil, or_false] at hx
  rcases hx with rfl | rfl | rfl
  · rcases H.1.1.2 _ hc with q | q | q | q <;> exact absurd q (by decide)
  · simp only [append_list, List.mem_append] at hc
    rcases hc with (hc | hc) | hc
    · exact dec_free _ 58 (by decide) hc
    · have hc : (58 : UInt8) ∈ ([120] : List UInt8) := hc
      exact absurd hc (by decide)
    · exact dec_free _ 58 (by decide) hc
  · have hc : (58 : UInt8) ∈ Lib.join ((cl.map clueT).map (·.data.toList)) [44] := hc
    rcases guJoin_mem 44 _ _ hc with q | ⟨x, hx, q⟩
    · exact absurd q (by decide)
    · obtain ⟨y, hy, rfl⟩ := List.mem_map.1 hx
      obtain ⟨c, _, rfl⟩ := List.mem_map.1 hy
      have := clueT_byte c _ q
      revert this
      decide
theorem mid_split (w h : Nat) : splitS 120 (decS w ++ bs [120] ++ decS h) = [decS w, decS h] := by
  have e : decS w ++ bs [120] ++ decS h = joinB [decS w, decS h] (bs [120]) := by
    apply ba_ext
    simp only [joinB, mkS_list, append_list, List.map_cons, List.map_nil, Lib.join_cons, Lib.joinTail, decS_list]
    simp [bs]
  rw [e]
  refine splitS_joined 120 _ (by simp) fun x hx => ?_
  simp only [List.mem_cons, List.not_mem_nil, or_false] at hx
  rcases hx with rfl | rfl <;> exact dec_free _ 120 (by decide)
theorem clues_split (cl : List Cl) (hne : cl ≠ []) : splitS 44 (joinB (cl.map clueT) (bs [44])) = cl.map clueT := by
  refine splitS_joined 44 _ (by simpa using hne) fun x hx hc => ?_
  obtain ⟨c, _, rfl⟩ := List.mem_map.1 hx
  have := clueT_byte c _ hc
  revert this
  decide
theorem puzT_size (rl : ByteArray) (w h : Int) (cl : List Cl) (H : PuzOk rl w h cl) : (puzT rl w h cl).size ≤ 100 ∧ ∀ c ∈ cl, GuR c := by
  obtain ⟨h1, h2, h3⟩ := id H
  have hr := h1.1.1
  have hR : ∀ c ∈ cl, GuR c := fun c hc => clueOk_range (h3 c hc) (by omega) h1.2.2.2.1
  refine ⟨?_, hR⟩
  have d1 : ∀ n : Nat, n < 10 → (decS n).size = 1 := fun n hn => by rw [size_list, decS_list, dec_small hn]; rfl
  have d3 : ∀ n : Nat, n < 1000 → (decS n).size ≤ 3 := fun n hn => by rw [size_list, decS_list]; exact (dec_len 2 n hn).2
  have z46 : (bs [46]).size = 1 := rfl
  have z44 : (bs [44]).size = 1 := rfl
  have z58 : (bs [58]).size = 1 := rfl
  have z120 : (bs [120]).size = 1 := rfl
  have hw := h1.2.1
  have hh := h1.2.2.1
  have hb := d1 w.toNat (by omega)
  have hb2 := d1 h.toNat (by omega)
  have js := joinB_size (bs [44]) 10 (cl.map clueT) fun x hx => by
    obtain ⟨c, hc, rfl⟩ := List.mem_map.1 hx
    obtain ⟨q1, q2, q3⟩ := hR c hc
    have e1 := d1 c.1.toNat (by omega)
    have e2 := d3 c.2.1.toNat (by omega)
    have e3 := d3 c.2.2.toNat (by omega)
    unfold clueT
    simp only [ByteArray.size_append, z46, z44]
    omega
  rw [List.length_map] at js
  unfold puzT
  simp only [ByteArray.size_append, z58, z120]
  omega
/-! ### The implementation -/
theorem guNums_any (x : ByteArray) (c : UInt8) (many : Nat) (most : Int) (hs : x.size ≤ 1048576) (hm : many ≤ 100) (hmost : most ≤ 999999) : ∃ (l : List Int) (b : Bool), l.length = many ∧ Ev (fun k => impl_numbers k (x, bs [c], (many : Int), most)) (l, b) ∧
    ∀ ns : List Nat, ns.length = many → (∀ n ∈ ns, (n : Int) ≤ most) → splitS c x = ns.map decS → l = ns.map (fun n : Nat => (n : Int)) ∧ b = true := by
  rcases numbers_ev x c many most hs hm hmost with ⟨ns, g1, g2⟩ | ⟨g1, g2⟩
  · refine ⟨_, _, by rw [List.length_map]; exact g1.1, g2, fun ns' q1 q2 q3 => ⟨?_, rfl⟩⟩
    have e : ns.map decS = ns'.map decS := g1.2.2.symm.trans q3
    have e2 : ns = ns' := by
      have : ∀ (a b : List Nat), a.map decS = b.map decS → a = b := by
        intro a
        induction a with
        | nil => intro b hb; cases b with
          | nil => rfl
          | cons y b => cases hb
        | cons y a ih => intro b hb; cases b with
          | nil => cases hb
          | cons z b =>
            rw [List.map_cons, List.map_cons, List.cons.injEq] at hb
            rw [decS_inj hb.1, ih b hb.2]
      exact this _ _ e
    rw [e2]
  · exact ⟨_, _, by simp, g2, fun ns' q1 q2 q3 => absurd ⟨q1, q2, q3⟩ (g1 ns')⟩
theorem guImplLoop (s rl : ByteArray) (w h : Int) (L : List ByteArray) (hL : ∀ x ∈ L, x.size ≤ 1048576) (hl : L.length ≤ 1048577) : ∀ (m i : Nat) (ok : Bool) (cl : List Cl), i + m = L.length → cl.length = i →
    ∃ (ok' : Bool) (cl' : List Cl), Ev (fun k => impl_ParsePuzzle_l k (s, guZero, ok, (rl, w, h, cl), L, (L.length : Int), (i : Int))) (s, guZero, ok', (rl, w, h, cl')) ∧ cl'.length = L.length ∧ ∀ cl0 : List Cl, L.drop i = cl0.map clueT → (∀ c ∈ cl0, GuR c) → ok' = ok ∧ cl' = cl ++ cl0 := by
  intro m
  induction m with
  | zero =>
    intro i ok cl hi hc
    refine ⟨ok, cl, Ev.step (fun k => impl_ParsePuzzle_l.eq k s _ _ _ _ ok rl w h cl L _ _) (Ev.no (not_lt_nat (by omega)) (Ev.now _)), by omega, fun cl0 e _ => ⟨rfl, ?_⟩⟩
    rw [List.drop_of_length_le (by omega)] at e
    have : cl0 = [] := List.map_eq_nil_iff.1 e.symm
    rw [this, List.append_nil]
  | succ m ih =>
    intro i ok cl hi hc
    obtain ⟨x, hx⟩ := nat_list (l := L) (i := i) (by omega)
    obtain ⟨l, b, z, g, gx⟩ := guNums_any x 46 3 100 (hL x (List.mem_of_getElem? hx)) (by omega) (by omega)
    obtain ⟨u1, u2, u3, rfl⟩ := guThree z
    obtain ⟨ok', cl', g1, g2, g3⟩ := ih (i + 1) (ok && b) (cl ++ [(u1, (u2, u3))]) (by omega) (by simp [hc])
    refine ⟨ok', cl', ?_, g2, fun cl0 e hr => ?_⟩
    · refine Ev.step (fun k => impl_ParsePuzzle_l.eq k s _ _ _ _ ok rl w h cl L _ _) (Ev.yes (lt_nat (by omega)) (Ev.yes (inB_nat (by omega)) ?_))
      rw [Int.toNat_natCast, getD_at hx, w64_succ (by omega)]
      refine Ev.bind g (Ev.yes rfl (Ev.yes rfl (Ev.yes rfl (Ev.yes (fits_of (by omega)) ?_))))
      cases ok
      · exact Ev.no rfl g1
      · exact Ev.yes rfl g1
    · cases cl0 with
      | nil =>
        have := congrArg List.length e
        rw [List.length_drop, List.length_map, List.length_nil] at this
        omega
      | cons c cl0 =>
        obtain ⟨hlt, he⟩ := List.getElem?_eq_some_iff.1 hx
        rw [List.drop_eq_getElem_cons hlt, he, List.map_cons, List.cons.injEq] at e
        obtain ⟨r1, r2, r3⟩ := hr c List.mem_cons_self
        obtain ⟨j1, j2⟩ := gx [c.1.toNat, c.2.1.toNat, c.2.2.toNat] rfl (fun n hn => by simp only [List.mem_cons, List.not_mem_nil, or_false] at hn; omega) (by rw [e.1]; exact clueT_split c)
        obtain ⟨j3, j4⟩ := g3 cl0 e.2 fun d hd => hr d (List.mem_cons_of_mem _ hd)
        simp only [List.map_cons, List.map_nil, List.cons.injEq, and_true] at j1
        refine ⟨by rw [j3, j2, Bool.and_true], ?_⟩
        rw [j4, List.append_assoc]
        have : (u1, (u2, u3)) = c := by
          obtain ⟨c1, c2, c3⟩ := c
          dsimp only at j1 r1 r2 r3
          rw [j1.1, j1.2.1, j1.2.2, Int.toNat_of_nonneg r1.1, Int.toNat_of_nonneg r2.1, Int.toNat_of_nonneg r3.1]
        rw [this]
        rfl
theorem guImpl_ev (s : ByteArray) (hs : s.size ≤ 1048576) : (∀ (rl : ByteArray) (w h : Int) (cl : List Cl), PuzOk rl w h cl → s = puzT rl w h cl → Ev (fun k => impl_ParsePuzzle k s) ((rl, w, h, cl), true)) ∧
    ((∀ (rl : ByteArray) (w h : Int) (cl : List Cl), PuzOk rl w h cl → s ≠ puzT rl w h cl) → Ev (fun k => impl_ParsePuzzle k s) (guZero, false)) := by
  have hsp : Ev (fun k => strings_Split k (s, bs [58])) (splitS 58 s) := Ev.step (fun k => (strings_Split.eq k (s, bs [58])).trans (strSplit_pieces s 58 (by omega))) (Ev.now _)
  have hpc := splitS_piece 58 s
  have fin : ∀ (rl mid J : ByteArray) (l : List Int) (b : Bool) (F : List ByteArray) (ok' : Bool) (cl' : List Cl) (r : Pz × Bool), splitS 58 s = [rl, mid, J] → l.length = 2 → Ev (fun k => impl_numbers k (mid, bs [120], 2, 9)) (l, b) → Ev (fun k => strings_FieldsFunc k (J, ())) F →
      Ev (fun k => impl_ParsePuzzle_l k (s, guZero, b, (rl, l.getD 0 default, l.getD 1 default, []), F, (F.length : Int), 0)) (s, guZero, ok', (rl, l.getD 0 default, l.getD 1 default, cl')) →
      Ev (fun k => cond (!ok') (some (guZero, false)) ((impl_IsPuzzle k (rl, l.getD 0 default, l.getD 1 default, cl')).bind fun r5 => cond (!r5) (some (guZero, false)) ((impl_puzzleText k (rl, l.getD 0 default, l.getD 1 default, cl')).bind fun r6 => cond (!(strEq r6 s)) (some (guZero, false)) (some ((rl, l.getD 0 default, l.getD 1 default, cl'), true))))) r → Ev (fun k => impl_ParsePuzzle k s) r := by
    intro rl mid J l b F ok' cl' r e z g1 g2 g3 g4
    rw [e] at hsp
    obtain ⟨u1, u2, rfl⟩ := guTwo z
    exact Ev.step (fun k => impl_ParsePuzzle.eq k s) (Ev.bind hsp (Ev.no rfl (Ev.yes rfl (Ev.bind g1 (Ev.yes rfl (Ev.yes rfl (Ev.yes rfl (Ev.yes rfl (Ev.bind g2 (Ev.bind g3 g4))))))))))
  refine ⟨fun rl w h cl H e => ?_, fun N => ?_⟩
  · have e58 := puzT_split rl w h cl H
    rw [← e] at e58
    have hmz := hpc (decS w.toNat ++ bs [120] ++ decS h.toNat) (by rw [e58]; simp)
    have hJz := hpc (joinB (cl.map clueT) (bs [44])) (by rw [e58]; simp)
    have hw := H.1.2.1
    have hh := H.1.2.2.1
    have hrl := H.1.1.1
    have hR := (puzT_size rl w h cl H).2
    obtain ⟨l, b, z, g, gx⟩ := guNums_any (decS w.toNat ++ bs [120] ++ decS h.toNat) 120 2 9 (by omega) (by omega) (by omega)
    obtain ⟨j1, j2⟩ := gx [w.toNat, h.toNat] rfl (fun n hn => by simp only [List.mem_cons, List.not_mem_nil, or_false] at hn; omega) (mid_split _ _)
    have e2 : l = [w, h] := by
      rw [j1, List.map_cons, List.map_cons, List.map_nil, Int.toNat_of_nonneg (by omega), Int.toNat_of_nonneg (by omega)]
    rw [e2, j2] at g
    have F := fields_exact (joinB (cl.map clueT) (bs [44])) (by omega) (cl.map clueT) (fun x hx => by obtain ⟨c, _, rfl⟩ := List.mem_map.1 hx; exact clueT_good c) rfl
    obtain ⟨ok', cl', g1, g2, g3⟩ := guImplLoop s rl w h (cl.map clueT) (fun x hx => by
      obtain ⟨c, hc, rfl⟩ := List.mem_map.1 hx
      have := clueT_size (hR c hc)
      omega) (by rw [List.length_map]; have := H.2.1; omega) _ 0 true [] (Nat.zero_add _) rfl
    obtain ⟨j3, j4⟩ := g3 cl (List.drop_zero ..) hR
    rw [List.nil_append] at j4
    rw [j3, j4] at g1
    have I := isPuzzle_ev rl w h cl (by omega)
    have T := (puzText_ev rl w h cl H).2
    rw [← e] at T
    exact fin rl _ _ [w, h] true (cl.map clueT) true cl _ e58 rfl g F g1 (Ev.no rfl (Ev.bind (I.isT H) (Ev.no rfl (Ev.bind T (Ev.no (by rw [strEq_self]; rfl) (Ev.now _))))))
  · by_cases h3 : (splitS 58 s).length = 3
    rotate_left
    · exact Ev.step (fun k => impl_ParsePuzzle.eq k s) (Ev.bind hsp (Ev.yes (guLen_ne h3) (Ev.now _)))
    obtain ⟨rl, mid, J, e⟩ := guThree h3
    have hmz := hpc mid (by rw [e]; simp)
    have hJz := hpc J (by rw [e]; simp)
    have hrl := hpc rl (by rw [e]; simp)
    obtain ⟨l, b, z, g, _⟩ := guNums_any mid 120 2 9 (by omega) (by omega) (by omega)
    obtain ⟨F, f1, f2, f3⟩ := fields_any J (by omega)
    obtain ⟨ok', cl', g1, g2, _⟩ := guImplLoop s rl (l.getD 0 default) (l.getD 1 default) F (fun x hx => by have := f3 x hx; omega) (by omega) _ 0 b [] (Nat.zero_add _) rfl
    refine fin rl mid J l b F ok' cl' _ e z g f1 g1 ?_
    cases ok'
    · exact Ev.yes rfl (Ev.now _)
    refine Ev.no rfl ?_
    have I := isPuzzle_ev rl (l.getD 0 default) (l.getD 1 default) cl' (by omega)
    by_cases H : PuzOk rl (l.getD 0 default) (l.getD 1 default) cl'
    · exact Ev.bind (I.isT H) (Ev.no rfl (Ev.bind (puzText_ev rl _ _ cl' H).2 (Ev.yes (by rw [guStrEq_ne fun q => N _ _ _ _ H q.symm]; rfl) (Ev.now _))))
    · exact Ev.bind (I.isF H) (Ev.yes rfl (Ev.now _))
/-! ### The model -/
theorem guSpecLoop (s rl : ByteArray) (w h : Int) (L : List ByteArray) (hL : ∀ x ∈ L, x.size ≤ 1048576) (hl : L.length ≤ 1048577) : ∀ (m i : Nat) (cl : List Cl), i + m = L.length → cl.length = i →
    (∃ cl' : List Cl, Ev (fun k => spec_pzParse_l k (s, guZero, (rl, w, h, cl), L, (L.length : Int), (i : Int))) (.inr (s, guZero, (rl, w, h, cl'))) ∧ ∀ cl0 : List Cl, L.drop i = cl0.map clueT → (∀ c ∈ cl0, GuR c) → cl' = cl ++ cl0) ∨
    (Ev (fun k => spec_pzParse_l k (s, guZero, (rl, w, h, cl), L, (L.length : Int), (i : Int))) (.inl (guZero, false)) ∧ ∀ cl0 : List Cl, L.drop i ≠ cl0.map clueT) := by
  intro m
  induction m with
  | zero =>
    intro i cl hi hc
    refine .inl ⟨cl, Ev.step (fun k => spec_pzParse_l.eq k s _ _ _ _ rl w h cl L _ _) (Ev.no (not_lt_nat (by omega)) (Ev.now _)), fun cl0 e _ => ?_⟩
    rw [List.drop_of_length_le (by omega)] at e
    have : cl0 = [] := List.map_eq_nil_iff.1 e.symm
    rw [this, List.append_nil]
  | succ m ih =>
    intro i cl hi hc
    obtain ⟨x, hx⟩ := nat_list (l := L) (i := i) (by omega)
    obtain ⟨hlt, he⟩ := List.getElem?_eq_some_iff.1 hx
    have hxz := hL x (List.mem_of_getElem? hx)
    have hpc := splitS_piece 46 x
    have S := l1Split_ev x 46 hxz
    have hd : ∀ cl0 : List Cl, L.drop i = cl0.map clueT → ∃ c r, cl0 = c :: r ∧ x = clueT c ∧ L.drop (i + 1) = r.map clueT := fun cl0 e => by
      rw [List.drop_eq_getElem_cons hlt, he] at e
      cases cl0 with
      | nil => cases e
      | cons c r =>
        rw [List.map_cons, List.cons.injEq] at e
        exact ⟨c, r, rfl, e.1, e.2⟩
    have st : ∀ r, Ev (fun k => (spec_l1Split k (x, 46)).bind fun r1 => cond ((r1.length : Int) != 3) (some (.inl (guZero, false))) (cond (inB 0 r1.length) ((spec_l1Read k (r1.getD 0 default)).bind fun r2 => cond (inB 1 r1.length) ((spec_l1Read k (r1.getD 1 default)).bind fun r3 => cond (inB 2 r1.length) ((spec_l1Read k (r1.getD 2 default)).bind fun r4 => cond (fits (cl.length + 1) 24) (spec_pzParse_l k (s, guZero, (rl, w, h, (cl ++ [(r2, (r3, r4))])), L, (L.length : Int), ((i + 1 : Nat) : Int))) none) none) none) none)) r →
        Ev (fun k => spec_pzParse_l k (s, guZero, (rl, w, h, cl), L, (L.length : Int), (i : Int))) r := fun r q => by
      refine Ev.step (fun k => spec_pzParse_l.eq k s _ _ _ _ rl w h cl L _ _) (Ev.yes (lt_nat (by omega)) (Ev.yes (inB_nat (by omega)) ?_))
      rw [Int.toNat_natCast, getD_at hx, w64_succ (by omega)]
      exact q
    by_cases h3 : (splitS 46 x).length = 3
    rotate_left
    · refine .inr ⟨st _ (Ev.bind S (Ev.yes (guLen_ne h3) (Ev.now _))), fun cl0 e => ?_⟩
      obtain ⟨c, r, _, q, _⟩ := hd cl0 e
      rw [q, clueT_split] at h3
      exact h3 rfl
    obtain ⟨u1, u2, u3, e3⟩ := guThree h3
    rw [e3] at S hpc
    obtain ⟨v1, r1, i1⟩ := l1Read_ev u1 (by have := hpc u1 (by simp); omega)
    obtain ⟨v2, r2, i2⟩ := l1Read_ev u2 (by have := hpc u2 (by simp); omega)
    obtain ⟨v3, r3, i3⟩ := l1Read_ev u3 (by have := hpc u3 (by simp); omega)
    have st2 : ∀ r, Ev (fun k => spec_pzParse_l k (s, guZero, (rl, w, h, (cl ++ [(v1, (v2, v3))])), L, (L.length : Int), ((i + 1 : Nat) : Int))) r → Ev (fun k => spec_pzParse_l k (s, guZero, (rl, w, h, cl), L, (L.length : Int), (i : Int))) r := fun r q =>
      st r (Ev.bind S (Ev.no rfl (Ev.yes rfl (Ev.bind r1 (Ev.yes rfl (Ev.bind r2 (Ev.yes rfl (Ev.bind r3 (Ev.yes (fits_of (by omega)) q)))))))))
    rcases ih (i + 1) (cl ++ [(v1, (v2, v3))]) (by omega) (by simp [hc]) with ⟨cl', g1, g2⟩ | ⟨g1, g2⟩
    · refine .inl ⟨cl', st2 _ g1, fun cl0 e hr => ?_⟩
      obtain ⟨c, r, rfl, q, q2⟩ := hd cl0 e
      obtain ⟨t1, t2, t3⟩ := hr c List.mem_cons_self
      rw [q, clueT_split] at e3
      simp only [List.cons.injEq, and_true] at e3
      obtain ⟨rfl, rfl, rfl⟩ := e3
      rw [g2 r q2 fun d hd => hr d (List.mem_cons_of_mem _ hd), List.append_assoc]
      have : (v1, (v2, v3)) = c := by
        rw [guIsNum_dec (by omega) i1, guIsNum_dec (by omega) i2, guIsNum_dec (by omega) i3, Int.toNat_of_nonneg t1.1, Int.toNat_of_nonneg t2.1, Int.toNat_of_nonneg t3.1]
      rw [this]
      rfl
    · refine .inr ⟨st2 _ g1, fun cl0 e => ?_⟩
      obtain ⟨c, r, rfl, q, q2⟩ := hd cl0 e
      exact g2 r q2
theorem guSpec_ev (s : ByteArray) (hs : s.size ≤ 1048576) : (∀ (rl : ByteArray) (w h : Int) (cl : List Cl), PuzOk rl w h cl → s = puzT rl w h cl → Ev (fun k => spec_ParsePuzzle k s) ((rl, w, h, cl), true)) ∧
    ((∀ (rl : ByteArray) (w h : Int) (cl : List Cl), PuzOk rl w h cl → s ≠ puzT rl w h cl) → Ev (fun k => spec_ParsePuzzle k s) (guZero, false)) := by
  have outT : ∀ w : Pz, Ev (fun k => spec_pzParse k s) (w, true) → Ev (fun k => spec_ParsePuzzle k s) (w, true) := fun w h => Ev.step (fun k => spec_ParsePuzzle.eq k s) (Ev.bind h (Ev.no rfl (Ev.now _)))
  have outF : (∃ w : Pz, Ev (fun k => spec_pzParse k s) (w, false)) → Ev (fun k => spec_ParsePuzzle k s) (guZero, false) := fun ⟨w, h⟩ => Ev.step (fun k => spec_ParsePuzzle.eq k s) (Ev.bind h (Ev.yes rfl (Ev.now _)))
  have hsp := l1Split_ev s 58 hs
  have hpc := splitS_piece 58 s
  have last : ∀ (p : Pz) (r : Pz × Bool), Ev (fun k => (spec_pzGood k p).bind fun r9 => cond r9 ((spec_pzText k p).bind fun r10 => some (p, strEq r10 s)) (some (p, false))) r → Ev (fun k => (spec_pzGood k p).bind fun r9 => cond r9 ((spec_pzText k p).bind fun r10 => some (p, strEq r10 s)) (some (p, false))) r := fun p r h => h
  have endF : ∀ (rl : ByteArray) (w h : Int) (cl : List Cl), (∀ (rl : ByteArray) (w h : Int) (cl : List Cl), PuzOk rl w h cl → s ≠ puzT rl w h cl) → Ev (fun k => (spec_pzGood k (rl, w, h, cl)).bind fun r9 => cond r9 ((spec_pzText k (rl, w, h, cl)).bind fun r10 => some ((rl, w, h, cl), strEq r10 s)) (some ((rl, w, h, cl), false))) ((rl, w, h, cl), false) := fun rl w h cl N => by
    have G := pzGood_ev rl w h cl
    by_cases H : PuzOk rl w h cl
    · exact Ev.bind (G.isT H) (Ev.bind (puzText_ev rl w h cl H).1 (Ev.now' (by rw [guStrEq_ne fun q => N _ _ _ _ H q.symm])))
    · exact Ev.bind (G.isF H) (Ev.now _)
  have endT : ∀ (rl : ByteArray) (w h : Int) (cl : List Cl), PuzOk rl w h cl → s = puzT rl w h cl → Ev (fun k => (spec_pzGood k (rl, w, h, cl)).bind fun r9 => cond r9 ((spec_pzText k (rl, w, h, cl)).bind fun r10 => some ((rl, w, h, cl), strEq r10 s)) (some ((rl, w, h, cl), false))) ((rl, w, h, cl), true) := fun rl w h cl H e => by
    have T := (puzText_ev rl w h cl H).1
    rw [← e] at T
    exact Ev.bind ((pzGood_ev rl w h cl).isT H) (Ev.bind T (Ev.now' (by rw [strEq_self])))
  -- the way to the clues
  have way : ∀ (rl mid J u1 u2 : ByteArray) (w h : Int) (r : Pz × Bool), ¬ (s.size : Int) > 100 → splitS 58 s = [rl, mid, J] → splitS 120 mid = [u1, u2] → Ev (fun k => spec_l1Read k u1) w → Ev (fun k => spec_l1Read k u2) h →
      Ev (fun k => cond (decide ((J.size : Int) > 0)) ((spec_l1Split k (J, 44)).bind fun r5 => (spec_pzParse_l k (s, guZero, (rl, w, h, []), r5, (r5.length : Int), 0)).bind fun r6 => r6.elim (fun r7 => some r7) (fun r8 => (spec_pzGood k r8.2.2).bind fun r9 => cond r9 ((spec_pzText k r8.2.2).bind fun r10 => some (r8.2.2, (strEq r10 r8.1))) (some (r8.2.2, false))))
        ((spec_pzGood k (rl, w, h, [])).bind fun r11 => cond r11 ((spec_pzText k (rl, w, h, [])).bind fun r12 => some ((rl, w, h, []), strEq r12 s)) (some ((rl, w, h, []), false)))) r → Ev (fun k => spec_pzParse k s) r := by
    intro rl mid J u1 u2 w h r hb e e2 q1 q2 q
    rw [e] at hsp
    have hm := l1Split_ev mid 120 (by have := hpc mid (by rw [e]; simp); omega)
    rw [e2] at hm
    refine Ev.step (fun k => spec_pzParse.eq k s) (Ev.no (decide_eq_false hb) (Ev.bind hsp (Ev.no rfl (Ev.yes rfl (Ev.bind hm (Ev.no rfl (Ev.yes rfl (Ev.yes rfl (Ev.bind q1 (Ev.yes rfl (Ev.bind q2 (Ev.yes rfl ?_))))))))))))
    exact q
  refine ⟨fun rl w h cl H e => outT _ ?_, fun N => outF ?_⟩
  · obtain ⟨hz, hR⟩ := puzT_size rl w h cl H
    have e58 := puzT_split rl w h cl H
    rw [← e] at e58 hz
    have hw := H.1.2.1
    have hh := H.1.2.2.1
    obtain ⟨v1, r1, i1⟩ := l1Read_ev (decS w.toNat) (by have := (decS_size (n := w.toNat) (by omega)).2; omega)
    obtain ⟨v2, r2, i2⟩ := l1Read_ev (decS h.toNat) (by have := (decS_size (n := h.toNat) (by omega)).2; omega)
    rw [guIsNum_dec (by omega) i1, Int.toNat_of_nonneg (by omega)] at r1
    rw [guIsNum_dec (by omega) i2, Int.toNat_of_nonneg (by omega)] at r2
    have hJz := hpc (joinB (cl.map clueT) (bs [44])) (by rw [e58]; simp)
    refine way rl _ _ _ _ w h _ (by omega) e58 (mid_split _ _) r1 r2 ?_
    by_cases hne : cl = []
    · subst hne
      exact Ev.no rfl (endT rl w h [] H e)
    · have hcs := clues_split cl hne
      have hJ : 0 < (joinB (cl.map clueT) (bs [44])).size := by
        rcases Nat.eq_zero_or_pos (joinB (cl.map clueT) (bs [44])).size with h0 | h0
        · obtain ⟨c, r, rfl⟩ := List.exists_cons_of_ne_nil hne
          exfalso
          have hc := splitS_piece 44 (joinB ((c :: r).map clueT) (bs [44])) (clueT c) (by rw [hcs]; simp)
          have := (clueT_good c).1
          omega
        · exact h0
      have hS := l1Split_ev (joinB (cl.map clueT) (bs [44])) 44 (by omega)
      rw [hcs] at hS
      refine Ev.yes (decide_eq_true (by omega)) (Ev.bind hS ?_)
      rcases guSpecLoop s rl w h (cl.map clueT) (fun x hx => by
        obtain ⟨c, hc, rfl⟩ := List.mem_map.1 hx
        have := clueT_size (hR c hc)
        omega) (by rw [List.length_map]; have := H.2.1; omega) _ 0 [] (Nat.zero_add _) rfl with ⟨cl', g1, g2⟩ | ⟨_, g2⟩
      · have q := g2 cl (List.drop_zero ..) hR
        rw [List.nil_append] at q
        rw [q] at g1
        exact Ev.bind g1 (endT rl w h cl H e)
      · exact absurd (List.drop_zero ..) (g2 cl)
  · by_cases hb : (s.size : Int) > 100
    · exact ⟨guZero, Ev.step (fun k => spec_pzParse.eq k s) (Ev.yes (decide_eq_true hb) (Ev.now _))⟩
    by_cases h3 : (splitS 58 s).length = 3
    rotate_left
    · exact ⟨guZero, Ev.step (fun k => spec_pzParse.eq k s) (Ev.no (decide_eq_false hb) (Ev.bind hsp (Ev.yes (guLen_ne h3) (Ev.now _))))⟩
    obtain ⟨rl, mid, J, e⟩ := guThree h3
    have hmz := hpc mid (by rw [e]; simp)
    have hJz := hpc J (by rw [e]; simp)
    have hm := l1Split_ev mid 120 (by omega)
    by_cases h2 : (splitS 120 mid).length = 2
    rotate_left
    · rw [e] at hsp
      exact ⟨guZero, Ev.step (fun k => spec_pzParse.eq k s) (Ev.no (decide_eq_false hb) (Ev.bind hsp (Ev.no rfl (Ev.yes rfl (Ev.bind hm (Ev.yes (guLen_ne h2) (Ev.now _)))))))⟩
    obtain ⟨u1, u2, e2⟩ := guTwo h2
    have hpm := splitS_piece 120 mid
    rw [e2] at hpm
    obtain ⟨v1, r1, _⟩ := l1Read_ev u1 (by have := hpm u1 (by simp); omega)
    obtain ⟨v2, r2, _⟩ := l1Read_ev u2 (by have := hpm u2 (by simp); omega)
    by_cases hJ : (J.size : Int) > 0
    rotate_left
    · exact ⟨_, way rl mid J u1 u2 v1 v2 _ hb e e2 r1 r2 (Ev.no (decide_eq_false hJ) (endF rl v1 v2 [] N))⟩
    have hS := l1Split_ev J 44 (by omega)
    have hpJ := splitS_piece 44 J
    have hlJ := splitS_len 44 J
    rcases guSpecLoop s rl v1 v2 (splitS 44 J) (fun x hx => by have := hpJ x hx; omega) (by omega) _ 0 [] (Nat.zero_add _) rfl with ⟨cl', g1, _⟩ | ⟨g1, _⟩
    · exact ⟨_, way rl mid J u1 u2 v1 v2 _ hb e e2 r1 r2 (Ev.yes (decide_eq_true hJ) (Ev.bind hS (Ev.bind g1 (endF rl v1 v2 cl' N))))⟩
    · exact ⟨_, way rl mid J u1 u2 v1 v2 _ hb e e2 r1 r2 (Ev.yes (decide_eq_true hJ) (Ev.bind hS (Ev.bind g1 (Ev.now _))))⟩

abbrev CurT : Type := List Int × Int × Int
def CurOk (n : Nat) (c : CurT) : Prop := (∀ x ∈ c.1, 0 ≤ x ∧ x ≤ 255) ∧ (0 ≤ c.2.1 ∧ c.2.1 ≤ n) ∧ n ≤ 1099511627776
theorem CurOk.start {code : List Int} (h : ∀ x ∈ code, 0 ≤ x ∧ x ≤ 255) : CurOk 0 (code, 0, 0) := ⟨h, ⟨by show (0 : Int) ≤ 0; omega, by show (0 : Int) ≤ ((0 : Nat) : Int); omega⟩, by omega⟩
theorem and255 (x : Int) : 0 ≤ w64 (andI .u64 x 255) ∧ w64 (andI .u64 x 255) ≤ 255 := by
  have h : andI .u64 x 255 = ((BitVec.ofInt 64 x &&& BitVec.ofInt 64 255).toNat : Int) % 18446744073709551616 := by
    unfold andI
    simp only [IntKind.wrap, IntKind.bits, IntKind.signed]
    rfl
  have h2 : (BitVec.ofInt 64 x &&& BitVec.ofInt 64 255).toNat ≤ 255 := by
    rw [BitVec.toNat_and]
    exact Nat.and_le_right
  rw [h, Int.emod_eq_of_lt (by omega) (by omega), w64_of (by omega) (by omega)]
  omega
theorem next_ev (n : Nat) (c : CurT) (H : CurOk n c) (hn : n + 10 ≤ 1099511627776) : ∃ b c', Ev (fun k => spec_l1Cur_next k c) (b, c') ∧ (0 ≤ b ∧ b ≤ 255) ∧ CurOk (n + 1) c' := by
  obtain ⟨code, at_, seed⟩ := c
  obtain ⟨h1, ⟨h2, h3⟩, h4⟩ := H
  simp only at h1 h2 h3
  have e1 : w64 (at_ + 1) = at_ + 1 := w64_of (by omega) (by omega)
  have ok : ∀ z : Int, CurOk (n + 1) (code, w64 (at_ + 1), z) := fun z => ⟨h1, ⟨by show 0 ≤ w64 (at_ + 1); omega, by show w64 (at_ + 1) ≤ ((n + 1 : Nat) : Int); omega⟩, by omega⟩
  by_cases c1 : at_ < (code.length : Int)
  · have hi : inB at_ code.length = true := inB_of h2 c1
    obtain ⟨x, hx⟩ := nat_list (l := code) (i := at_.toNat) (by omega)
    have hg : code.getD at_.toNat default = x := getD_at hx
    obtain ⟨x0, x1⟩ := h1 x (List.mem_of_getElem? hx)
    exact ⟨w64 (code.getD at_.toNat default), _, Ev.step (fun k => spec_l1Cur_next.eq k code at_ seed) (Ev.yes (decide_eq_true c1) (Ev.yes hi (Ev.yes (decide_eq_true (by omega)) (Ev.now _)))), by rw [hg, w64_of (by omega) (by omega)]; exact ⟨x0, x1⟩, ok _⟩
  · exact ⟨_, _, Ev.step (fun k => spec_l1Cur_next.eq k code at_ seed) (Ev.no (decide_eq_false c1) (Ev.no (decide_eq_false (by omega)) (Ev.now _))), and255 _, ok _⟩
section
variable (n : Nat) (c : CurT) (H : CurOk n c) (hn : n + 40 ≤ 1099511627776)
include H hn
theorem pick_ev (m : Int) : ∃ r c', Ev (fun k => spec_l1Cur_pick k (c, m)) (r, c') ∧ 0 ≤ r ∧ (1 ≤ m → r < m) ∧ CurOk (n + 2) c' := by
  obtain ⟨b, c1, e1, ⟨b0, b1⟩, H1⟩ := next_ev n c H (by omega)
  obtain ⟨d, c2, e2, ⟨d0, d1⟩, H2⟩ := next_ev (n + 1) c1 H1 (by omega)
  obtain ⟨code, at_, seed⟩ := c
  have ok1 : ∀ {c : CurT}, CurOk (n + 1) c → CurOk (n + 2) c := fun ⟨h1, ⟨h2, h3⟩, h4⟩ => ⟨h1, ⟨h2, by omega⟩, by omega⟩
  by_cases c1' : m ≤ 1
  · exact ⟨0, _, Ev.step (fun k => spec_l1Cur_pick.eq k code at_ seed m) (Ev.yes (decide_eq_true c1') (Ev.now _)), by omega, fun _ => by omega, by obtain ⟨h1, ⟨h2, h3⟩, h4⟩ := H; exact ⟨h1, ⟨h2, by omega⟩, by omega⟩⟩
  · have hne : (m != 0) = true := by rw [bne_iff_ne]; omega
    by_cases c2' : m > 200
    · have e3 : w64 (w64 (b * 256) + d) = b * 256 + d := by rw [w64_of (n := b * 256) (by omega) (by omega), w64_of (by omega) (by omega)]
      refine ⟨_, c2, Ev.step (fun k => spec_l1Cur_pick.eq k code at_ seed m) (Ev.no (decide_eq_false c1') (Ev.bind e1 (Ev.yes (decide_eq_true c2') (Ev.bind e2 (Ev.yes hne (Ev.now _)))))), ?_, fun _ => ?_, H2⟩
      · show 0 ≤ (w64 (w64 (b * 256) + d)).tmod m
        rw [e3]
        exact Int.tmod_nonneg _ (by omega)
      · exact Int.tmod_lt_of_pos _ (by omega)
    · refine ⟨_, c1, Ev.step (fun k => spec_l1Cur_pick.eq k code at_ seed m) (Ev.no (decide_eq_false c1') (Ev.bind e1 (Ev.no (decide_eq_false c2') (Ev.yes hne (Ev.now _))))), ?_, fun _ => ?_, ok1 H1⟩
      · exact Int.tmod_nonneg _ b0
      · exact Int.tmod_lt_of_pos _ (by omega)
theorem one_ev (m : Int) : ∃ b c', Ev (fun k => spec_l1Cur_one k (c, m)) (b, c') ∧ CurOk (n + 2) c' := by
  obtain ⟨r, c', e, _, _, h⟩ := pick_ev n c H hn m
  obtain ⟨code, at_, seed⟩ := c
  exact ⟨_, c', Ev.step (fun k => spec_l1Cur_one.eq k code at_ seed m) (Ev.bind e (Ev.now _)), h⟩
theorem of_ev (l : List ByteArray) (hl : 1 ≤ l.length) : ∃ s c', Ev (fun k => spec_l1Cur_of k (c, l)) (s, c') ∧ s ∈ l ∧ CurOk (n + 2) c' := by
  obtain ⟨r, c', e, r0, r1, h⟩ := pick_ev n c H hn (l.length : Int)
  have r1 := r1 (by omega)
  obtain ⟨code, at_, seed⟩ := c
  obtain ⟨x, hx⟩ := nat_list (l := l) (i := r.toNat) (by omega)
  exact ⟨_, c', Ev.step (fun k => spec_l1Cur_of.eq k code at_ seed l) (Ev.bind e (Ev.yes (inB_of r0 r1) (Ev.now _))), by show l.getD r.toNat default ∈ l; rw [getD_at hx]; exact List.mem_of_getElem? hx, h⟩
theorem among_ev (l : List Int) (hl : 1 ≤ l.length) : ∃ s c', Ev (fun k => spec_l1Cur_among k (c, l)) (s, c') ∧ s ∈ l ∧ CurOk (n + 2) c' := by
  obtain ⟨r, c', e, r0, r1, h⟩ := pick_ev n c H hn (l.length : Int)
  have r1 := r1 (by omega)
  obtain ⟨code, at_, seed⟩ := c
  obtain ⟨x, hx⟩ := nat_list (l := l) (i := r.toNat) (by omega)
  exact ⟨_, c', Ev.step (fun k => spec_l1Cur_among.eq k code at_ seed l) (Ev.bind e (Ev.yes (inB_of r0 r1) (Ev.now _))), by show l.getD r.toNat default ∈ l; rw [getD_at hx]; exact List.mem_of_getElem? hx, h⟩
end
theorem spoilt_l_ev (wt : ByteArray) (hw : 1 ≤ wt.size) : ∀ (m n : Nat) (c : CurT) (t : ByteArray), CurOk n c → n + 6 * m + 40 ≤ 1099511627776 → t.size + m ≤ 1099511627776 → ∃ t' c', Ev (fun k => spec_l1Cur_spoilt_l k (c, t, wt, (m : Int), ())) (t', c') ∧ t'.size ≤ t.size + m ∧ CurOk (n + 6 * m) c'
  | 0, n, c, t, H, hn, ht => by
    obtain ⟨code, at_, seed⟩ := c
    exact ⟨t, _, Ev.step (fun k => spec_l1Cur_spoilt_l.eq k code at_ seed t wt 0) (Ev.no rfl (Ev.now _)), by omega, H⟩
  | m + 1, n, c, t, H, hn, ht => by
    have em : w64 (((m + 1 : Nat) : Int) - 1) = (m : Int) := by rw [w64_of (by omega) (by omega)]; omega
    have hpos : decide (((m + 1 : Nat) : Int) > 0) = true := decide_eq_true (by omega)
    obtain ⟨r, c1, e1, r0, r1, H1⟩ := pick_ev n c H (by omega) (t.size : Int)
    obtain ⟨s, c2, e2, s0, s1, H2⟩ := pick_ev _ c1 H1 (by omega) (wt.size : Int)
    obtain ⟨q, c3, e3, q0, q1, H3⟩ := pick_ev _ c2 H2 (by omega) 3
    have ih := fun t' h => spoilt_l_ev wt hw m (n + 6) c3 t' H3 (by omega) h
    have s1 := s1 (by omega)
    obtain ⟨code, at_, seed⟩ := c
    by_cases hz : (t.size : Int) > 0
    · have r1 := r1 (by omega)
      have i1 : inB s wt.size = true := inB_of s0 s1
      have a1 : ((decide ((0 : Int) ≤ r)) && (decide (r ≤ (t.size : Int)))) = true := by rw [decide_eq_true r0, decide_eq_true (by omega)]; rfl
      have er : w64 (r + 1) = r + 1 := w64_of (by omega) (by omega)
      have a2 : ((decide ((0 : Int) ≤ w64 (r + 1))) && (decide (w64 (r + 1) ≤ (t.size : Int)))) = true := by rw [er, decide_eq_true (by omega), decide_eq_true (by omega)]; rfl
      have z1 : ∀ n : Int, (ofBytes [n]).size = 1 := fun n => rfl
      have x1 : (t.extract 0 r.toNat).size = r.toNat := by rw [ByteArray.size_extract]; omega
      have x2 : (t.extract r.toNat t.size).size = t.size - r.toNat := by rw [ByteArray.size_extract]; omega
      have x3 : (t.extract (w64 (r + 1)).toNat t.size).size = t.size - (r.toNat + 1) := by rw [er, ByteArray.size_extract]; omega
      have f1 : ∀ z, fitS (t.extract 0 r.toNat) (ofBytes [z]) = true := fun z => fitS_of (by rw [z1, x1]; omega)
      by_cases q00 : q = 0
      · obtain ⟨t', c', g1, g2, g3⟩ := ih (((t.extract 0 r.toNat) ++ (ofBytes [(bt wt s.toNat)])) ++ (t.extract r.toNat t.size)) (by rw [ByteArray.size_append, ByteArray.size_append, x1, x2, z1]; omega)
        rw [ByteArray.size_append, ByteArray.size_append, x1, x2, z1] at g2
        refine ⟨t', c', Ev.step (fun k => spec_l1Cur_spoilt_l.eq k code at_ seed t wt ((m + 1 : Nat) : Int)) (Ev.yes hpos (Ev.yes (decide_eq_true hz) (Ev.bind e1 (Ev.bind e2 (Ev.yes i1 (Ev.bind e3 (Ev.yes (beq_iff_eq.2 q00) (Ev.yes a1 (Ev.yes (f1 _) (Ev.yes a1 (Ev.yes (fitS_of ?_) ?_))))))))))), by omega, by rw [show n + 6 * (m + 1) = n + 6 + 6 * m by omega]; exact g3⟩
        · show (_ ++ _ : ByteArray).size + _ < _
          rw [ByteArray.size_append, x1, x2, z1]
          omega
        · rw [em]
          exact g1
      · have qn : (q == 0) = false := beq_eq_false_iff_ne.2 q00
        by_cases q11 : q = 1
        · obtain ⟨t', c', g1, g2, g3⟩ := ih (((t.extract 0 r.toNat) ++ (ofBytes [(bt wt s.toNat)])) ++ (t.extract (w64 (r + 1)).toNat t.size)) (by rw [ByteArray.size_append, ByteArray.size_append, x1, x3, z1]; omega)
          rw [ByteArray.size_append, ByteArray.size_append, x1, x3, z1] at g2
          refine ⟨t', c', Ev.step (fun k => spec_l1Cur_spoilt_l.eq k code at_ seed t wt ((m + 1 : Nat) : Int)) (Ev.yes hpos (Ev.yes (decide_eq_true hz) (Ev.bind e1 (Ev.bind e2 (Ev.yes i1 (Ev.bind e3 (Ev.no qn (Ev.yes (beq_iff_eq.2 q11) (Ev.yes a1 (Ev.yes (f1 _) (Ev.yes a2 (Ev.yes (fitS_of ?_) ?_)))))))))))), by omega, by rw [show n + 6 * (m + 1) = n + 6 + 6 * m by omega]; exact g3⟩
          · show (_ ++ _ : ByteArray).size + _ < _
            rw [ByteArray.size_append, x1, x3, z1]
            omega
          · rw [em]
            exact g1
        · obtain ⟨t', c', g1, g2, g3⟩ := ih ((t.extract 0 r.toNat) ++ (t.extract (w64 (r + 1)).toNat t.size)) (by rw [ByteArray.size_append, x1, x3]; omega)
          rw [ByteArray.size_append, x1, x3] at g2
          refine ⟨t', c', Ev.step (fun k => spec_l1Cur_spoilt_l.eq k code at_ seed t wt ((m + 1 : Nat) : Int)) (Ev.yes hpos (Ev.yes (decide_eq_true hz) (Ev.bind e1 (Ev.bind e2 (Ev.yes i1 (Ev.bind e3 (Ev.no qn (Ev.no (beq_eq_false_iff_ne.2 q11) (Ev.yes a1 (Ev.yes a2 (Ev.yes (fitS_of ?_) ?_))))))))))), by omega, by rw [show n + 6 * (m + 1) = n + 6 + 6 * m by omega]; exact g3⟩
          · rw [x1, x3]
            omega
          · rw [em]
            exact g1
    · refine ⟨t, _, Ev.step (fun k => spec_l1Cur_spoilt_l.eq k code at_ seed t wt ((m + 1 : Nat) : Int)) (Ev.yes hpos (Ev.no (decide_eq_false hz) (Ev.now _))), by omega, ?_⟩
      obtain ⟨h1, ⟨h2, h3⟩, h4⟩ := H
      exact ⟨h1, ⟨h2, by omega⟩, by omega⟩
theorem spoilt_ev (n : Nat) (c : CurT) (t wt : ByteArray) (H : CurOk n c) (hn : n + 100 ≤ 1099511627776) (ht : t.size + 2 ≤ 1099511627776) (hw : 1 ≤ wt.size) : ∃ t' c', Ev (fun k => spec_l1Cur_spoilt k (c, t, wt)) (t', c') ∧ t'.size ≤ t.size + 2 ∧ CurOk (n + 14) c' := by
  obtain ⟨r, c1, e1, r0, r1, H1⟩ := pick_ev n c H (by omega) 2
  have r1 := r1 (by omega)
  obtain ⟨m, hm⟩ : ∃ m : Nat, 1 + r = (m : Int) := ⟨(1 + r).toNat, by omega⟩
  obtain ⟨t', c2, e2, h2, H2⟩ := spoilt_l_ev wt hw m (n + 2) c1 t H1 (by omega) (by omega)
  obtain ⟨code, at_, seed⟩ := c
  refine ⟨t', c2, Ev.step (fun k => spec_l1Cur_spoilt.eq k code at_ seed t wt) (Ev.bind e1 (Ev.bind ?_ (Ev.now _))), by omega, ?_⟩
  · show Ev (fun k => spec_l1Cur_spoilt_l k (c1, t, wt, w64 (1 + r), ())) _
    rw [w64_of (by omega) (by omega), hm]
    exact e2
  · obtain ⟨h1, ⟨h2, h3⟩, h4⟩ := H2
    exact ⟨h1, ⟨h2, by omega⟩, by omega⟩
theorem big_ev (code more : List Int) (h1 : code.length ≤ 9223372036854775807) (h2 : more.length ≤ 9223372036854775807) : ∃ b, Ev (fun k => laws_big k (code, more)) b ∧ (b = false → code.length ≤ 1048576 ∧ more.length ≤ 1048576) := by
  by_cases c1 : (code.length : Int) > 1048576
  · exact ⟨true, Ev.step (fun k => laws_big.eq k code more) (Ev.yes (decide_eq_true c1) (Ev.now _)), nofun⟩
  · have e1 := w64_of (n := 1048576 - (code.length : Int)) (by omega) (by omega)
    refine ⟨_, Ev.step (fun k => laws_big.eq k code more) (Ev.no (decide_eq_false c1) (Ev.now _)), fun h => ?_⟩
    have := of_decide_eq_false h
    rw [e1] at this
    omega

theorem CurOk.mono {n m : Nat} {c : CurT} (h : CurOk n c) (hm : n ≤ m) (h' : m ≤ 1099511627776) : CurOk m c := by
  obtain ⟨h1, ⟨h2, h3⟩, h4⟩ := h
  exact ⟨h1, ⟨h2, by omega⟩, h'⟩
theorem sureRule_l_ev : ∀ (m n : Nat) (c : CurT) (out : ByteArray), CurOk n c → n + 2 * m + 100 ≤ 1099511627776 → out.size + m ≤ 1000 → (∀ b ∈ out.data.toList, SignC b) → ∃ s c', Ev (fun k => spec_l1Cur_sureRule_l k (c, out, (m : Int), ())) (s, c') ∧ s.size = out.size + m ∧ (∀ b ∈ s.data.toList, SignC b) ∧ CurOk (n + 2 * m) c'
  | 0, n, c, out, H, hn, ho, hs => by
    obtain ⟨code, at_, seed⟩ := c
    exact ⟨out, _, Ev.step (fun k => spec_l1Cur_sureRule_l.eq k code at_ seed out 0) (Ev.no rfl (Ev.now _)), rfl, hs, H⟩
  | m + 1, n, c, out, H, hn, ho, hs => by
    obtain ⟨t, c1, e1, ht, H1⟩ := of_ev n c H (by omega) [(bs [76]), (bs [82]), (bs [76]), (bs [82]), (bs [78]), (bs [85])] (by decide)
    have h2 : t.size = 1 ∧ ∀ b ∈ t.data.toList, SignC b := by
      simp only [List.mem_cons, List.not_mem_nil, or_false] at ht
      rcases ht with rfl | rfl | rfl | rfl | rfl | rfl <;> exact ⟨rfl, fun b hb => by simp [bs] at hb; subst hb; simp [SignC]⟩
    have hz : (out ++ t).size = out.size + 1 := by rw [ByteArray.size_append, h2.1]
    obtain ⟨s, c2, e2, s1, s2, H2⟩ := sureRule_l_ev m (n + 2) c1 (out ++ t) H1 (by omega) (by omega) (fun b hb => by
      rw [append_list] at hb
      rcases List.mem_append.1 hb with hb | hb
      · exact hs b hb
      · exact h2.2 b hb)
    obtain ⟨code, at_, seed⟩ := c
    refine ⟨s, c2, Ev.step (fun k => spec_l1Cur_sureRule_l.eq k code at_ seed out ((m + 1 : Nat) : Int)) (Ev.yes (decide_eq_true (by omega)) (Ev.bind e1 (Ev.yes (fitS_of (by show out.size + t.size < _; omega)) ?_))), by omega, s2, by rw [show n + 2 * (m + 1) = n + 2 + 2 * m by omega]; exact H2⟩
    rw [show w64 (((m + 1 : Nat) : Int) - 1) = (m : Int) by rw [w64_of (by omega) (by omega)]; omega]
    exact e2
theorem sureRule_ev (n : Nat) (c : CurT) (H : CurOk n c) (hn : n + 200 ≤ 1099511627776) : ∃ s c', Ev (fun k => spec_l1Cur_sureRule k c) (s, c') ∧ RuleOk s ∧ s.size ≤ 4 ∧ CurOk (n + 20) c' := by
  obtain ⟨b, c1, e1, H1⟩ := one_ev n c H (by omega) 3
  obtain ⟨r, c2, e2, r0, r1, H2⟩ := pick_ev _ c1 H1 (by omega) 4
  have r1 := r1 (by omega)
  obtain ⟨m, hm⟩ : ∃ m : Nat, 1 + r = (m : Int) := ⟨(1 + r).toNat, by omega⟩
  obtain ⟨s, c3, e3, s1, s2, H3⟩ := sureRule_l_ev m _ c2 ByteArray.empty H2 (by omega) (by show 0 + m ≤ _; omega) (fun b hb => by cases hb)
  have e4 : w64 (1 + r) = (m : Int) := by rw [w64_of (by omega) (by omega), hm]
  have s1 : s.size = 0 + m := s1
  obtain ⟨code, at_, seed⟩ := c
  cases b with
  | true => exact ⟨_, _, Ev.step (fun k => spec_l1Cur_sureRule.eq k code at_ seed) (Ev.bind e1 (Ev.yes rfl (Ev.now _))), ⟨by decide, fun b hb => by simp [bs] at hb; rcases hb with rfl | rfl <;> simp [SignC]⟩, by decide, H1.mono (by omega) (by omega)⟩
  | false =>
    refine ⟨s, c3, Ev.step (fun k => spec_l1Cur_sureRule.eq k code at_ seed) (Ev.bind e1 (Ev.no rfl (Ev.bind e2 ?_))), ⟨by omega, s2⟩, by omega, H3.mono (by omega) (by omega)⟩
    simp only [e4]
    exact Ev.bind e3 (Ev.now _)
theorem rule_ev (n : Nat) (c : CurT) (H : CurOk n c) (hn : n + 300 ≤ 1099511627776) : ∃ s c', Ev (fun k => spec_l1Cur_rule k c) (s, c') ∧ s.size ≤ 10 ∧ CurOk (n + 30) c' := by
  obtain ⟨b, c1, e1, H1⟩ := one_ev n c H (by omega) 12
  obtain ⟨t, c2, e2, ht, H2⟩ := of_ev _ c1 H1 (by omega) [ByteArray.empty, (bs [76, 82, 76, 82, 76, 82, 76]), (bs [88]), (bs [108, 114]), (bs [76, 32, 82])] (by decide)
  obtain ⟨s, c3, e3, _, s4, H3⟩ := sureRule_ev _ c1 H1 (by omega)
  have h2 : t.size ≤ 10 := by
    simp only [List.mem_cons, List.not_mem_nil, or_false] at ht
    rcases ht with rfl | rfl | rfl | rfl | rfl <;> decide
  obtain ⟨code, at_, seed⟩ := c
  cases b with
  | true => exact ⟨t, _, Ev.step (fun k => spec_l1Cur_rule.eq k code at_ seed) (Ev.bind e1 (Ev.yes rfl (Ev.bind e2 (Ev.now _)))), h2, H2.mono (by omega) (by omega)⟩
  | false => exact ⟨s, _, Ev.step (fun k => spec_l1Cur_rule.eq k code at_ seed) (Ev.bind e1 (Ev.no rfl (Ev.bind e3 (Ev.now _)))), by omega, H3.mono (by omega) (by omega)⟩

theorem pow_le {t N a b : Nat} (ht : t ≤ a) (ha : 1 ≤ a) (hN : N ≤ b) (h : a ^ b ≤ 300) : t ^ N ≤ 300 := Nat.le_trans (Nat.pow_le_pow_left ht N) (Nat.le_trans (Nat.pow_le_pow_right ha hN) h)
theorem hidden_l_ev (rl : ByteArray) (w h : Int) (hr : 1 ≤ rl.size ∧ rl.size ≤ 6) (hw : 1 ≤ w ∧ w ≤ 9) (hh : 1 ≤ h ∧ h ≤ 9) : ∀ (m n : Nat) (c : CurT) (cs : ByteArray), CurOk n c → n + 2 * m + 200 ≤ 1099511627776 → ((cs.size + m : Nat) : Int) = w * h → CellsOk (rl.size : Int) cs →
    ∃ cs' c', Ev (fun k => spec_l1Cur_hidden_l k (c, zeroO, (rl, w, h, cs, 0, 0, 0), ())) (zeroO, (rl, w, h, cs', 0, 0, 0), c') ∧ (cs'.size : Int) = w * h ∧ CellsOk (rl.size : Int) cs' ∧ CurOk (n + 2 * m) c'
  | 0, n, c, cs, H, hn, hs, hc => by
    have hm := mul_range (a := w) (b := h) (by omega) (by omega) (by omega) (by omega)
    have e64 : w64 (w * h) = w * h := w64_of (by omega) (by omega)
    obtain ⟨code, at_, seed⟩ := c
    refine ⟨cs, _, Ev.step (fun k => spec_l1Cur_hidden_l.eq k code at_ seed ByteArray.empty 0 0 ByteArray.empty 0 0 0 rl w h cs 0 0 0) ?_, by omega, hc, H⟩
    rw [e64]
    exact Ev.no (decide_eq_false (by omega)) (Ev.now _)
  | m + 1, n, c, cs, H, hn, hs, hc => by
    have hm := mul_range (a := w) (b := h) (by omega) (by omega) (by omega) (by omega)
    have e64 : w64 (w * h) = w * h := w64_of (by omega) (by omega)
    obtain ⟨r, c1, e1, r0, r1, H1⟩ := pick_ev n c H (by omega) (rl.size : Int)
    have r1 := r1 (by omega)
    obtain ⟨d, rfl⟩ := Int.eq_ofNat_of_zero_le r0
    have zn : (ofBytes [48 + (d : Int)]).size = 1 := rfl
    obtain ⟨cs', c', g1, g2, g3, g4⟩ := hidden_l_ev rl w h hr hw hh m (n + 2) c1 (cs ++ ofBytes [48 + (d : Int)]) H1 (by omega) (by rw [ByteArray.size_append, zn]; omega) (cells_digit hc (by omega) (by omega))
    obtain ⟨code, at_, seed⟩ := c
    refine ⟨cs', c', Ev.step (fun k => spec_l1Cur_hidden_l.eq k code at_ seed ByteArray.empty 0 0 ByteArray.empty 0 0 0 rl w h cs 0 0 0) ?_, g2, g3, by rw [show n + 2 * (m + 1) = n + 2 + 2 * m by omega]; exact g4⟩
    rw [e64]
    exact Ev.yes (decide_eq_true (by omega)) (Ev.bind e1 (Ev.bind (l1Num_ev _ (by omega)) (Ev.yes (fitS_of (by rw [zn]; omega)) g1)))
theorem hidden_ev (n : Nat) (c : CurT) (H : CurOk n c) (hn : n + 1000 ≤ 1099511627776) : ∃ W c', Ev (fun k => spec_l1Cur_hidden k c) (W, c') ∧ HidO W ∧ CurOk (n + 200) c' := by
  obtain ⟨rl, c1, e1, hrl, H1⟩ := of_ev n c H (by omega) [(bs [76, 82]), (bs [76, 82]), (bs [82, 76]), (bs [76, 82, 78]), (bs [76, 85]), (bs [78]), (bs [76, 76, 82, 82]), (bs [82, 76, 85])] (by decide)
  obtain ⟨a, c2, e2, a0, a1, H2⟩ := pick_ev _ c1 H1 (by omega) 2
  obtain ⟨b, c3, e3, b0, b1, H3⟩ := pick_ev _ c2 H2 (by omega) 2
  obtain ⟨o, c4, e4, H4⟩ := one_ev _ c3 H3 (by omega) 3
  have a1 := a1 (by omega)
  have b1 := b1 (by omega)
  have ea : w64 (1 + a) = 1 + a := w64_of (by omega) (by omega)
  have eb : w64 (1 + b) = 1 + b := w64_of (by omega) (by omega)
  have hR : RuleOk rl ∧ rl.size ≤ 4 := by
    simp only [List.mem_cons, List.not_mem_nil, or_false] at hrl
    rcases hrl with rfl | rfl | rfl | rfl | rfl | rfl | rfl | rfl <;> exact ⟨⟨by decide, by unfold SignC; decide⟩, by decide⟩
  obtain ⟨hR, hR4⟩ := hR
  have hR1 := hR.1
  have key : ∀ w h : Int, (1 ≤ w ∧ w ≤ 3) → (1 ≤ h ∧ h ≤ 2) → (w ≤ 2 ∨ rl.size ≤ 2) → ∃ W c', Ev (fun k => spec_l1Cur_hidden_l k (c4, zeroO, (rl, w, h, ByteArray.empty, 0, 0, 0), ())) (zeroO, W, c') ∧ HidO W ∧ CurOk (n + 200) c' := by
    intro w h hw hh hor
    have hm := mul_range (a := w) (b := h) (by omega) (by omega) (by omega) (by omega)
    have hm6 : w * h ≤ 6 ∧ (w ≤ 2 → w * h ≤ 4) := by
      have : h = 1 ∨ h = 2 := by omega
      rcases this with rfl | rfl <;> omega
    have z0 : ByteArray.empty.size = 0 := rfl
    obtain ⟨cs', c', g1, g2, g3, g4⟩ := hidden_l_ev rl w h hR1 (by omega) (by omega) (w * h).toNat _ c4 ByteArray.empty H4 (by omega) (by rw [z0]; omega) (fun c hc => by cases hc)
    refine ⟨(rl, w, h, cs', 0, 0, 0), c', g1, ⟨⟨hR, by show 1 ≤ w ∧ w ≤ 9; omega, by show 1 ≤ h ∧ h ≤ 9; omega, by show w * h ≤ 9; omega, ?_⟩, ⟨hR, by show 1 ≤ w ∧ w ≤ 9; omega, by show 1 ≤ h ∧ h ≤ 9; omega, g2, g3, by show (0 : Int) ≤ 0 ∧ (0 : Int) ≤ w - 1; omega, by show (0 : Int) ≤ 0 ∧ (0 : Int) ≤ h - 1; omega, by show (0 : Int) ≤ 0 ∧ (0 : Int) ≤ 3; omega⟩, rfl, rfl, rfl⟩, g4.mono (by omega) (by omega)⟩
    show rl.size ^ (w * h).toNat ≤ 300
    rcases hor with hor | hor
    · exact pow_le (a := 4) (b := 4) hR4 (by omega) (by have := hm6.2 hor; omega) (by decide)
    · exact pow_le (a := 2) (b := 6) hor (by omega) (by omega) (by decide)
  obtain ⟨W1, d1, f1, k1, K1⟩ := key (1 + a) (1 + b) (by omega) (by omega) (.inl (by omega))
  obtain ⟨code, at_, seed⟩ := c
  cases o with
  | false =>
    refine ⟨W1, d1, Ev.step (fun k => spec_l1Cur_hidden.eq k code at_ seed) (Ev.bind e1 (Ev.bind e2 (Ev.bind e3 (Ev.bind e4 (Ev.no rfl ?_))))), k1, K1⟩
    rw [ea, eb]
    exact Ev.bind f1 (Ev.now _)
  | true =>
    by_cases h3 : rl.size ≤ 2
    · obtain ⟨W2, d2, f2, k2, K2⟩ := key 3 (1 + b) (by omega) (by omega) (.inr h3)
      refine ⟨W2, d2, Ev.step (fun k => spec_l1Cur_hidden.eq k code at_ seed) (Ev.bind e1 (Ev.bind e2 (Ev.bind e3 (Ev.bind e4 (Ev.yes rfl (Ev.yes (decide_eq_true (by show (rl.size : Int) < 3; omega)) ?_)))))), k2, K2⟩
      rw [eb]
      exact Ev.bind f2 (Ev.now _)
    · refine ⟨W1, d1, Ev.step (fun k => spec_l1Cur_hidden.eq k code at_ seed) (Ev.bind e1 (Ev.bind e2 (Ev.bind e3 (Ev.bind e4 (Ev.yes rfl (Ev.no (decide_eq_false (by show ¬ (rl.size : Int) < 3; omega)) ?_)))))), k1, K1⟩
      rw [ea, eb]
      exact Ev.bind f1 (Ev.now _)
theorem hid_size {W : Wo} (H : HidO W) : W.1.size ≤ 6 ∧ W.2.2.2.1.size ≤ 9 ∧ OkO W := by
  obtain ⟨hS, hW, _⟩ := H
  have := hS.2.2.2.1
  have := hW.2.2.2.1
  exact ⟨hS.1.1.2, by omega, hW⟩
theorem clue_ev (n : Nat) (c : CurT) (H : CurOk n c) (hn : n + 1000 ≤ 1099511627776) : ∃ x c', Ev (fun k => spec_l1Cur_clue k c) (x, c') ∧ CurOk (n + 100) c' := by
  obtain ⟨r1, c1, e1, _, _, H1⟩ := pick_ev n c H (by omega) 5
  obtain ⟨r2, c2, e2, _, _, H2⟩ := pick_ev _ c1 H1 (by omega) 9
  obtain ⟨r3, c3, e3, _, _, H3⟩ := pick_ev _ c2 H2 (by omega) 4
  obtain ⟨r4, c4, e4, _, _, H4⟩ := pick_ev _ c3 H3 (by omega) 9
  obtain ⟨r5, c5, e5, _, _, H5⟩ := pick_ev _ c4 H4 (by omega) 4
  obtain ⟨r6, c6, e6, _, _, H6⟩ := pick_ev _ c5 H5 (by omega) 9
  obtain ⟨b, c7, e7, H7⟩ := one_ev _ c6 H6 (by omega) 6
  obtain ⟨code, at_, seed⟩ := c
  have M6 := H6.mono (m := n + 100) (by omega) (by omega)
  have M7 := H7.mono (m := n + 100) (by omega) (by omega)
  cases e : (w64 (r1 + (w64 (r2.tdiv 8)))) == 4 with
  | false => exact ⟨_, _, Ev.step (fun k => spec_l1Cur_clue.eq k code at_ seed) (Ev.bind e1 (Ev.bind e2 (Ev.bind e3 (Ev.bind e4 (Ev.bind e5 (Ev.bind e6 (Ev.no e (Ev.now _)))))))), M6⟩
  | true =>
    cases b with
    | false => exact ⟨_, _, Ev.step (fun k => spec_l1Cur_clue.eq k code at_ seed) (Ev.bind e1 (Ev.bind e2 (Ev.bind e3 (Ev.bind e4 (Ev.bind e5 (Ev.bind e6 (Ev.yes e (Ev.bind e7 (Ev.yes rfl (Ev.now _)))))))))), M7⟩
    | true => exact ⟨_, _, Ev.step (fun k => spec_l1Cur_clue.eq k code at_ seed) (Ev.bind e1 (Ev.bind e2 (Ev.bind e3 (Ev.bind e4 (Ev.bind e5 (Ev.bind e6 (Ev.yes e (Ev.bind e7 (Ev.no rfl (Ev.now _)))))))))), M7⟩
theorem surePz_ev (n : Nat) (c : CurT) (H : CurOk n c) (hn : n + 1000 ≤ 1099511627776) : ∃ p c', Ev (fun k => spec_l1Cur_surePuzzle k (c, 5)) (p, c') ∧ (p.1.size ≤ 10 ∧ p.2.2.2.length ≤ 6) ∧ CurOk (n + 300) c' := by
  obtain ⟨W, c1, e1, hW, H1⟩ := hidden_ev n c H (by omega)
  obtain ⟨a, c2, e2, a0, a1, H2⟩ := pick_ev _ c1 H1 (by omega) 6
  obtain ⟨z, c3, e3, z0, z1, H3⟩ := pick_ev _ c2 H2 (by omega) 10000
  have a1 := a1 (by omega)
  have z1 := z1 (by omega)
  obtain ⟨P, p1, p2, p3⟩ := makeS_ev W a z hW (by omega) (by omega)
  obtain ⟨h1, _⟩ := hid_size hW
  obtain ⟨code, at_, seed⟩ := c
  exact ⟨(W.1, W.2.1, W.2.2.1, P), _, Ev.step (fun k => spec_l1Cur_surePuzzle.eq k code at_ seed 5) (Ev.bind e1 (Ev.bind e2 (Ev.bind e3 (Ev.bind p2 (Ev.now _))))), ⟨by show W.1.size ≤ 10; omega, by show P.length ≤ 6; omega⟩, H3.mono (by omega) (by omega)⟩
theorem surePz4_ev (n : Nat) (c : CurT) (H : CurOk n c) (hn : n + 1000 ≤ 1099511627776) : ∃ p c', Ev (fun k => spec_l1Cur_surePuzzle k (c, 4)) (p, c') ∧ PuzOk p.1 p.2.1 p.2.2.1 p.2.2.2 ∧ CurOk (n + 300) c' := by
  obtain ⟨W, c1, e1, hW, H1⟩ := hidden_ev n c H (by omega)
  obtain ⟨a, c2, e2, a0, a1, H2⟩ := pick_ev _ c1 H1 (by omega) 5
  obtain ⟨z, c3, e3, z0, z1, H3⟩ := pick_ev _ c2 H2 (by omega) 10000
  have a1 := a1 (by omega)
  have z1 := z1 (by omega)
  obtain ⟨P, p1, p2, p3⟩ := makeS_ev W a z hW (by omega) (by omega)
  obtain ⟨h1, _⟩ := hid_size hW
  obtain ⟨code, at_, seed⟩ := c
  exact ⟨(W.1, W.2.1, W.2.2.1, P), _, Ev.step (fun k => spec_l1Cur_surePuzzle.eq k code at_ seed 4) (Ev.bind e1 (Ev.bind e2 (Ev.bind e3 (Ev.bind p2 (Ev.now _))))), p3, H3.mono (by omega) (by omega)⟩
theorem many_l_ev : ∀ (m n : Nat) (c : CurT) (p : Pz), CurOk n c → n + 2 * m + 200 ≤ 1099511627776 → 8 ≤ p.2.2.2.length + m → p.2.2.2.length ≤ 8 → ∃ p' c', Ev (fun k => spec_l1Cur_puzzle_l k (c, zeroP, p, ())) (zeroP, p', c') ∧ (p'.1 = p.1 ∧ p'.2.2.2.length ≤ 8) ∧ CurOk (n + 2 * m + 2) c'
  | 0, n, c, (rl, w, h, cl), H, hn, hm, hp => by
    obtain ⟨r, c1, e1, r0, r1, H1⟩ := pick_ev n c H (by omega) 2
    have r1 := r1 (by omega)
    simp only at hm hp
    obtain ⟨code, at_, seed⟩ := c
    exact ⟨(rl, w, h, cl), _, Ev.step (fun k => spec_l1Cur_puzzle_l.eq k code at_ seed ByteArray.empty 0 0 [] rl w h cl) (Ev.bind e1 (Ev.no (decide_eq_false (by rw [w64_of (by omega) (by omega)]; omega)) (Ev.now _))), ⟨rfl, hp⟩, H1⟩
  | m + 1, n, c, (rl, w, h, cl), H, hn, hm, hp => by
    obtain ⟨r, c1, e1, r0, r1, H1⟩ := pick_ev n c H (by omega) 2
    have r1 := r1 (by omega)
    simp only at hm hp
    by_cases hc : (cl.length : Int) < 6 + r
    · obtain ⟨p', c', g1, ⟨g2, g3⟩, g4⟩ := many_l_ev m (n + 2) c1 (rl, w, h, cl ++ [(4, (1, 0))]) H1 (by omega) (by show 8 ≤ (cl ++ [(4, (1, 0))] : List Cl).length + m; rw [List.length_append, List.length_singleton]; omega) (by show (cl ++ [(4, (1, 0))] : List Cl).length ≤ 8; rw [List.length_append, List.length_singleton]; omega)
      obtain ⟨code, at_, seed⟩ := c
      exact ⟨p', c', Ev.step (fun k => spec_l1Cur_puzzle_l.eq k code at_ seed ByteArray.empty 0 0 [] rl w h cl) (Ev.bind e1 (Ev.yes (decide_eq_true (by rw [w64_of (by omega) (by omega)]; exact hc)) (Ev.yes (fits_of (by omega)) g1))), ⟨g2, g3⟩, by rw [show n + 2 * (m + 1) + 2 = n + 2 + 2 * m + 2 by omega]; exact g4⟩
    · obtain ⟨code, at_, seed⟩ := c
      exact ⟨(rl, w, h, cl), _, Ev.step (fun k => spec_l1Cur_puzzle_l.eq k code at_ seed ByteArray.empty 0 0 [] rl w h cl) (Ev.bind e1 (Ev.no (decide_eq_false (by rw [w64_of (by omega) (by omega)]; exact hc)) (Ev.now _))), ⟨rfl, hp⟩, H1.mono (by omega) (by omega)⟩
theorem puzzle_ev (n : Nat) (c : CurT) (H : CurOk n c) (hn : n + 2000 ≤ 1099511627776) : ∃ p c', Ev (fun k => spec_l1Cur_puzzle k c) (p, c') ∧ (p.1.size ≤ 10 ∧ p.2.2.2.length ≤ 8) ∧ CurOk (n + 500) c' := by
  obtain ⟨p, c1, e1, ⟨z1, z2⟩, H1⟩ := surePz_ev n c H (by omega)
  obtain ⟨r, c2, e2, _, _, H2⟩ := pick_ev _ c1 H1 (by omega) 12
  obtain ⟨x, c3, e3, _, H3⟩ := among_ev _ c2 H2 (by omega) [0, 1, 3, 9, 10, 4611686018427387904] (by decide)
  obtain ⟨d, c4, e4, H4⟩ := clue_ev _ c2 H2 (by omega)
  obtain ⟨q, c5, e5, ⟨q1, q2⟩, H5⟩ := many_l_ev 8 _ c2 p H2 (by omega) (by omega) (by omega)
  obtain ⟨u, c6, e6, hu, H6⟩ := rule_ev _ c2 H2 (by omega)
  obtain ⟨code, at_, seed⟩ := c
  have M2 := H2.mono (m := n + 500) (by omega) (by omega)
  have M3 := H3.mono (m := n + 500) (by omega) (by omega)
  have M4 := H4.mono (m := n + 500) (by omega) (by omega)
  have M5 := H5.mono (m := n + 500) (by omega) (by omega)
  have M6 := H6.mono (m := n + 500) (by omega) (by omega)
  cases r0 : r == 0 with
  | true => exact ⟨_, _, Ev.step (fun k => spec_l1Cur_puzzle.eq k code at_ seed) (Ev.bind e1 (Ev.bind e2 (Ev.yes r0 (Ev.bind e3 (Ev.now _))))), ⟨by show p.1.size ≤ 10; omega, by show p.2.2.2.length ≤ 8; omega⟩, M3⟩
  | false =>
  cases r1 : r == 1 with
  | true => exact ⟨_, _, Ev.step (fun k => spec_l1Cur_puzzle.eq k code at_ seed) (Ev.bind e1 (Ev.bind e2 (Ev.no r0 (Ev.yes r1 (Ev.bind e4 (Ev.yes (fits_of (by show (p.2.2.2.length + 1) * 24 < _; omega)) (Ev.now _))))))), ⟨by show p.1.size ≤ 10; omega, by show (p.2.2.2 ++ [d]).length ≤ 8; rw [List.length_append, List.length_singleton]; omega⟩, M4⟩
  | false =>
  cases r2 : r == 2 with
  | true => exact ⟨_, _, Ev.step (fun k => spec_l1Cur_puzzle.eq k code at_ seed) (Ev.bind e1 (Ev.bind e2 (Ev.no r0 (Ev.no r1 (Ev.yes r2 (Ev.bind e5 (Ev.now _))))))), ⟨by show q.1.size ≤ 10; rw [q1]; omega, q2⟩, M5⟩
  | false =>
  cases r3 : r == 3 with
  | true => exact ⟨_, _, Ev.step (fun k => spec_l1Cur_puzzle.eq k code at_ seed) (Ev.bind e1 (Ev.bind e2 (Ev.no r0 (Ev.no r1 (Ev.no r2 (Ev.yes r3 (Ev.bind e6 (Ev.now _)))))))), ⟨hu, by show p.2.2.2.length ≤ 8; omega⟩, M6⟩
  | false => exact ⟨_, _, Ev.step (fun k => spec_l1Cur_puzzle.eq k code at_ seed) (Ev.bind e1 (Ev.bind e2 (Ev.no r0 (Ev.no r1 (Ev.no r2 (Ev.no r3 (Ev.now _))))))), ⟨by show p.1.size ≤ 10; omega, by show p.2.2.2.length ≤ 8; omega⟩, M2⟩
section
variable (code : List Int) (hc : ∀ x ∈ code, 0 ≤ x ∧ x ≤ 255)
include hc
theorem guDrawSol_ev : ∃ p, Ev (fun k => spec_DrawSolutions k code) p ∧ p.1.size ≤ 10 ∧ p.2.2.2.length ≤ 8 := by
  obtain ⟨p, c1, e1, ⟨z1, z2⟩, H1⟩ := puzzle_ev 0 (code, 0, 0) (CurOk.start hc) (by omega)
  exact ⟨p, Ev.step (fun k => spec_DrawSolutions.eq k code) (Ev.bind (Ev.step (fun k => spec_DrawIsPuzzle.eq k code) (Ev.bind e1 (Ev.now _))) (Ev.now _)), z1, z2⟩
theorem guDrawParse_ev : ∃ s, Ev (fun k => spec_DrawParsePuzzle k code) s ∧ s.size ≤ 200 := by
  obtain ⟨p, c1, e1, hp, H1⟩ := surePz4_ev 0 (code, 0, 0) (CurOk.start hc) (by omega)
  obtain ⟨rl, w, h, cl⟩ := p
  have t1 := (puzText_ev rl w h cl hp).1
  have hz := (puzT_size rl w h cl hp).1
  obtain ⟨b, c2, e2, H2⟩ := one_ev _ c1 H1 (by omega) 3
  cases b with
  | true =>
    obtain ⟨t', c3, e3, hz3, H3⟩ := spoilt_ev _ c2 (puzT rl w h cl) (bs [48, 49, 50, 51, 52, 53, 54, 46, 44, 58, 76, 82, 120]) H2 (by omega) (by omega) (by decide)
    exact ⟨t', Ev.step (fun k => spec_DrawParsePuzzle.eq k code) (Ev.bind e1 (Ev.bind t1 (Ev.bind e2 (Ev.yes rfl (Ev.bind e3 (Ev.now _)))))), by omega⟩
  | false => exact ⟨_, Ev.step (fun k => spec_DrawParsePuzzle.eq k code) (Ev.bind e1 (Ev.bind t1 (Ev.bind e2 (Ev.no rfl (Ev.now _))))), by omega⟩
end
end Go.Proofs.YtplamonjnlgomaaGreatDoorS
