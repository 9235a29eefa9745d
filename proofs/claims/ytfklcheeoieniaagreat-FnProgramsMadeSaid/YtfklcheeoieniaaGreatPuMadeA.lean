/- Programs joined, grown; the signs of a text counted. -/
import Derived.Test.YtfklcheeoieniaaGreatPuProgs
namespace Go.Proofs.YtfklcheeoieniaaGreatS
open Go
set_option linter.unusedVariables false
set_option linter.unusedSimpArgs false

theorem rune_ascii' {s : ByteArray} {i : Nat} {c : UInt8} (h : s.data.toList[i]? = some c) (hc : c.toNat < 128) : runeEnd s i = i + 1 := by
  obtain ⟨hlt, he⟩ := List.getElem?_eq_some_iff.1 h
  have hi : i < s.size := by rw [size_list]; exact hlt
  have hg : s[i]'hi = c := by
    rw [← he]
    simp [ByteArray.getElem_eq_getElem_data]
  unfold runeEnd
  rw [decode_ascii s i hi (by rw [hg]; exact hc)]
theorem enc_ascii {P : List Pa} (hP : ∀ p ∈ P, PaOk p) : ∀ c ∈ (enc P).data.toList, c.toNat < 128 := by
  have key : ∀ Q : List Pa, (∀ p ∈ Q, PaOk p) → ∀ c ∈ encL Q, c.toNat < 128 := by
    intro Q
    induction Q with
    | nil => intro _ c hc; cases hc
    | cons q Q ih =>
      intro hq c hc
      have h1 := hq q (by simp)
      rcases List.mem_cons.1 hc with rfl | hc
      · have := h1.1
        rw [toNat_ofNat8 (by omega)]
        omega
      · rcases List.mem_cons.1 hc with rfl | hc
        · rcases h1.2 with e | e | e | e <;> rw [e] <;> decide
        · exact ih (fun x hx => hq x (List.mem_cons_of_mem _ hx)) c hc
  exact key P hP
theorem around_l_ev (more : List Int) (s : ByteArray) (hs : s.size ≤ 1000) (ha : ∀ c ∈ s.data.toList, c.toNat < 128) (a b : Int) : ∀ (m i cnt : Nat), i + m = s.size → cnt ≤ i →
    Ev (fun k => laws_FnProgramsMade_l k (more, s, a, b, (cnt : Int), (s, i))) (more, a, b, ((cnt + (s.data.toList.drop i).count 85 : Nat) : Int))
  | 0, i, cnt, h, hc => Ev.step (fun k => laws_FnProgramsMade_l.eq k more s a b _ s i) (Ev.no (decide_eq_false (by omega)) (Ev.now' (by rw [List.drop_eq_nil_of_le (by rw [← size_list]; omega)]; rfl)))
  | m + 1, i, cnt, h, hc => by
    obtain ⟨c, hci⟩ := byte_at (cs := s) (i := i) (by omega)
    have hr := rune_ascii' hci (ha c (List.mem_of_getElem? hci))
    have hdrop : s.data.toList.drop i = c :: s.data.toList.drop (i + 1) := by
      obtain ⟨hlt, he⟩ := List.getElem?_eq_some_iff.1 hci
      rw [List.drop_eq_getElem_cons hlt, he]
    refine Ev.step (fun k => laws_FnProgramsMade_l.eq k more s a b _ s i) (Ev.yes (decide_eq_true (by omega)) (Ev.yes (inB_nat (by omega)) ?_))
    rw [Int.toNat_natCast, bt_at hci, hr, hdrop, List.count_cons]
    by_cases e : c = 85
    · subst e
      refine Ev.yes rfl ?_
      rw [w64_succ (by omega), show cnt + ((s.data.toList.drop (i + 1)).count 85 + if ((85 : UInt8) == 85) = true then 1 else 0) = cnt + 1 + (s.data.toList.drop (i + 1)).count 85 by rw [show ((85 : UInt8) == 85) = true from rfl, if_pos rfl]; omega]
      exact around_l_ev more s hs ha a b m (i + 1) (cnt + 1) (by omega) (by omega)
    · have e1 : (c == (85 : UInt8)) = false := beq_eq_false_iff_ne.2 e
      have e2 : ((c.toNat : Int) == 85) = false := by
        rw [beq_eq_false_iff_ne]
        intro h'
        exact e (UInt8.toNat_inj.1 (by show c.toNat = 85; omega))
      rw [e1, show cnt + ((s.data.toList.drop (i + 1)).count 85 + if false = true then 1 else 0) = cnt + (s.data.toList.drop (i + 1)).count 85 by rw [if_neg (by decide)]; omega]
      exact Ev.no e2 (around_l_ev more s hs ha a b m (i + 1) cnt (by omega) (by omega))
theorem around_ev (more : List Int) (P : List Pa) (hl : P.length ≤ 9) (hP : ∀ p ∈ P, PaOk p) (a b : Int) : Ev (fun k => laws_FnProgramsMade_l k (more, enc P, a, b, 0, (enc P, 0))) (more, a, b, (cntP 85 P : Int)) := by
  have := around_l_ev more (enc P) (by rw [enc_size]; omega) (enc_ascii hP) a b (enc P).size 0 0 (by omega) (by omega)
  rw [List.drop_zero, show (enc P).data.toList = encL P from rfl, encL_count 85 (.inr (.inr (.inr rfl))) P hP, Nat.zero_add] at this
  exact this
/-! ### Joined -/
section
variable (s t : ByteArray) (hs : s.size ≤ 1048576) (ht : t.size ≤ 1048576)
include hs ht
theorem join_ev : (ProgOk s ∧ ProgOk t ∧ ProgOk (s ++ t) → Ev (fun k => impl_JoinPrograms k (s, t)) (s ++ t, true) ∧ Ev (fun k => spec_JoinPrograms k (s, t)) (s ++ t, true)) ∧
    (¬ (ProgOk s ∧ ProgOk t ∧ ProgOk (s ++ t)) → Ev (fun k => impl_JoinPrograms k (s, t)) (ByteArray.empty, false) ∧ Ev (fun k => spec_JoinPrograms k (s, t)) (ByteArray.empty, false)) := by
  have hf : fitS s t = true := fitS_of (by omega)
  have hz : (s ++ t).size ≤ 9223372036854775807 := by rw [ByteArray.size_append]; omega
  have i1 := isProgram_ev s (by omega)
  have i2 := isProgram_ev t (by omega)
  have i3 := isProgram_ev (s ++ t) hz
  have g1 := tuGood_ev s (by omega)
  have g2 := tuGood_ev t (by omega)
  have g3 := tuGood_ev (s ++ t) hz
  refine ⟨fun ⟨h1, h2, h3⟩ => ⟨?_, ?_⟩, fun h => ?_⟩
  · exact Ev.step (fun k => impl_JoinPrograms.eq k s t) (Ev.bind (i1.isT h1) (Ev.no rfl (Ev.bind (i2.isT h2) (Ev.no rfl (Ev.yes hf (Ev.bind (i3.isT h3) (Ev.no rfl (Ev.yes hf (Ev.now _)))))))))
  · exact Ev.step (fun k => spec_JoinPrograms.eq k s t) (Ev.bind (g1.isT h1) (Ev.no rfl (Ev.bind (g2.isT h2) (Ev.no rfl (Ev.yes hf (Ev.bind (g3.isT h3) (Ev.no rfl (Ev.yes hf (Ev.now _)))))))))
  · by_cases h1 : ProgOk s
    · by_cases h2 : ProgOk t
      · have h3 : ¬ ProgOk (s ++ t) := fun h3 => h ⟨h1, h2, h3⟩
        exact ⟨Ev.step (fun k => impl_JoinPrograms.eq k s t) (Ev.bind (i1.isT h1) (Ev.no rfl (Ev.bind (i2.isT h2) (Ev.no rfl (Ev.yes hf (Ev.bind (i3.isF h3) (Ev.yes rfl (Ev.now _)))))))),
          Ev.step (fun k => spec_JoinPrograms.eq k s t) (Ev.bind (g1.isT h1) (Ev.no rfl (Ev.bind (g2.isT h2) (Ev.no rfl (Ev.yes hf (Ev.bind (g3.isF h3) (Ev.yes rfl (Ev.now _))))))))⟩
      · exact ⟨Ev.step (fun k => impl_JoinPrograms.eq k s t) (Ev.bind (i1.isT h1) (Ev.no rfl (Ev.bind (i2.isF h2) (Ev.yes rfl (Ev.now _))))),
          Ev.step (fun k => spec_JoinPrograms.eq k s t) (Ev.bind (g1.isT h1) (Ev.no rfl (Ev.bind (g2.isF h2) (Ev.yes rfl (Ev.now _)))))⟩
    · exact ⟨Ev.step (fun k => impl_JoinPrograms.eq k s t) (Ev.bind (i1.isF h1) (Ev.yes rfl (Ev.now _))), Ev.step (fun k => spec_JoinPrograms.eq k s t) (Ev.bind (g1.isF h1) (Ev.yes rfl (Ev.now _)))⟩
end
/-! ### Grown -/
theorem dat_append (P Q : List Pa) : dat (P ++ Q) = dat P ++ dat Q := by unfold dat; rw [List.map_append]
theorem growP_len (K : Nat) (P : List Pa) : (growP K P).length = P.length := by unfold growP; rw [List.length_map]
theorem growI_l_ev (P : List Pa) (hl : P.length ≤ 9) (hP : ∀ p ∈ P, PaOk p) (K : Nat) (hK : 1 ≤ K ∧ K ≤ 9) : ∀ (m j : Nat), j + m = P.length →
    ((∀ p ∈ P.drop j, p.1 * K ≤ 9) → Ev (fun k => impl_GrowProgram_l k ((K : Int), dat (growP K (P.take j) ++ P.drop j), (P.length : Int), (j : Int))) (.inr (dat (growP K P)))) ∧
    (¬ (∀ p ∈ P.drop j, p.1 * K ≤ 9) → Ev (fun k => impl_GrowProgram_l k ((K : Int), dat (growP K (P.take j) ++ P.drop j), (P.length : Int), (j : Int))) (.inl (ByteArray.empty, false)))
  | 0, j, h => by
    have e : P.drop j = [] := List.drop_eq_nil_of_le (by omega)
    refine ⟨fun _ => ?_, fun h' => absurd (fun p hp => by rw [e] at hp; cases hp) h'⟩
    exact Ev.step (fun k => impl_GrowProgram_l.eq k _ _ _ _) (Ev.no (not_lt_nat (by omega)) (Ev.now' (by rw [e, List.append_nil, List.take_of_length_le (by omega)])))
  | m + 1, j, h => by
    obtain ⟨p, hp⟩ := nat_list (l := P) (i := j) (by omega)
    have hpo := (hP p (List.mem_of_getElem? hp)).1
    have hdrop : P.drop j = p :: P.drop (j + 1) := by
      obtain ⟨hlt, he⟩ := List.getElem?_eq_some_iff.1 hp
      rw [List.drop_eq_getElem_cons hlt, he]
    have hA : (dat (growP K (P.take j))).length = j := by unfold dat; rw [List.length_map, growP_len, List.length_take]; omega
    have eL : dat (growP K (P.take j) ++ P.drop j) = dat (growP K (P.take j)) ++ ((p.1 : Int), (p.2.toNat : Int)) :: dat (P.drop (j + 1)) := by rw [dat_append, hdrop]; rfl
    have hlen : (dat (growP K (P.take j) ++ P.drop j)).length = P.length := by unfold dat; rw [List.length_map, List.length_append, growP_len, List.length_take, List.length_drop]; omega
    have g1 : (dat (growP K (P.take j) ++ P.drop j)).getD j default = ((p.1 : Int), (p.2.toNat : Int)) := getD_at (by rw [eL, List.getElem?_append_right (by omega), hA, Nat.sub_self]; rfl)
    have pK : p.1 * K ≤ 81 := by have := Nat.mul_le_mul hpo hK.2; omega
    have e1 : w64 ((p.1 : Int) * (K : Int)) = ((p.1 * K : Nat) : Int) := by rw [show (p.1 : Int) * (K : Int) = ((p.1 * K : Nat) : Int) by rw [Int.natCast_mul], w64_of (by omega) (by omega)]
    have s1 : (dat (growP K (P.take j) ++ P.drop j)).set j (((p.1 * K : Nat) : Int), (p.2.toNat : Int)) = dat (growP K (P.take (j + 1)) ++ P.drop (j + 1)) := by
      rw [eL, List.set_append_right _ _ (by omega), hA, Nat.sub_self, List.set_cons_zero, List.take_add_one, hp, dat_append]
      unfold growP dat
      rw [Option.toList_some, List.map_append, List.map_append, List.append_assoc]
      rfl
    have hlen2 : (dat (growP K (P.take (j + 1)) ++ P.drop (j + 1))).length = P.length := by rw [← s1, List.length_set, hlen]
    have g2 : (dat (growP K (P.take (j + 1)) ++ P.drop (j + 1))).getD j default = (((p.1 * K : Nat) : Int), (p.2.toNat : Int)) := getD_at (by rw [← s1, List.getElem?_set_self (by omega)])
    obtain ⟨ih1, ih2⟩ := growI_l_ev P hl hP K hK m (j + 1) (by omega)
    have walk : ∀ r, Ev (fun k => cond (decide (((p.1 * K : Nat) : Int) > 9)) (some (.inl (ByteArray.empty, false))) (impl_GrowProgram_l k ((K : Int), dat (growP K (P.take (j + 1)) ++ P.drop (j + 1)), (P.length : Int), ((j + 1 : Nat) : Int)))) r →
        Ev (fun k => impl_GrowProgram_l k ((K : Int), dat (growP K (P.take j) ++ P.drop j), (P.length : Int), (j : Int))) r := fun r H => by
      refine Ev.step (fun k => impl_GrowProgram_l.eq k _ _ _ _) (Ev.yes (lt_nat (by omega)) (Ev.yes (inB_nat (by omega)) (Ev.yes (inB_nat (by omega)) ?_)))
      rw [Int.toNat_natCast, g1]
      dsimp only
      rw [e1, s1, g2, w64_succ (by omega)]
      exact Ev.yes (inB_nat (by omega)) H
    constructor
    · intro h'
      have hh := h' p (by rw [hdrop]; simp)
      exact walk _ (Ev.no (decide_eq_false (by omega)) (ih1 fun q hq => h' q (by rw [hdrop]; exact List.mem_cons_of_mem _ hq)))
    · intro h'
      by_cases hh : p.1 * K ≤ 9
      · refine walk _ (Ev.no (decide_eq_false (by omega)) (ih2 fun h2 => h' fun q hq => ?_))
        rw [hdrop] at hq
        rcases List.mem_cons.1 hq with rfl | hq
        · exact hh
        · exact h2 q hq
      · exact walk _ (Ev.yes (decide_eq_true (by omega)) (Ev.now _))
theorem growP_ok {K : Nat} {P : List Pa} (hP : ∀ p ∈ P, PaOk p) (h : ∀ p ∈ P, p.1 * K ≤ 9) : ∀ p ∈ growP K P, PaOk p := fun p hp => by
  unfold growP at hp
  obtain ⟨q, hq, rfl⟩ := List.mem_map.1 hp
  exact ⟨h q hq, (hP q hq).2⟩
theorem growS_l_ev (P : List Pa) (hl : P.length ≤ 9) (hP : ∀ p ∈ P, PaOk p) (K : Nat) (hK : 1 ≤ K ∧ K ≤ 9) : ∀ (m j : Nat), j + m = P.length →
    ((∀ p ∈ P.drop j, p.1 * K ≤ 9) → Ev (fun k => spec_GrowProgram_l k (enc P, (K : Int), enc (growP K (P.take j)), ((2 * j : Nat) : Int))) (.inr (enc (growP K P)))) ∧
    (¬ (∀ p ∈ P.drop j, p.1 * K ≤ 9) → Ev (fun k => spec_GrowProgram_l k (enc P, (K : Int), enc (growP K (P.take j)), ((2 * j : Nat) : Int))) (.inl (ByteArray.empty, false)))
  | 0, j, h => by
    have hz := enc_size P
    have e : P.drop j = [] := List.drop_eq_nil_of_le (by omega)
    refine ⟨fun _ => ?_, fun h' => absurd (fun p hp => by rw [e] at hp; cases hp) h'⟩
    exact Ev.step (fun k => spec_GrowProgram_l.eq k _ _ _ _) (Ev.no (decide_eq_false (by omega)) (Ev.now' (by rw [List.take_of_length_le (by omega)])))
  | m + 1, j, h => by
    have hz := enc_size P
    obtain ⟨p, hp⟩ := nat_list (l := P) (i := j) (by omega)
    have hpo := (hP p (List.mem_of_getElem? hp)).1
    have hdrop : P.drop j = p :: P.drop (j + 1) := by
      obtain ⟨hlt, he⟩ := List.getElem?_eq_some_iff.1 hp
      rw [List.drop_eq_getElem_cons hlt, he]
    obtain ⟨g1, g2⟩ := encL_get P j p hp
    have g1 : (enc P).data.toList[2 * j]? = some (UInt8.ofNat (48 + p.1)) := g1
    have g2 : (enc P).data.toList[2 * j + 1]? = some p.2 := g2
    have pK : p.1 * K ≤ 81 := by have := Nat.mul_le_mul hpo hK.2; omega
    have e1 : w64 (((2 * j : Nat) : Int) + 1) = ((2 * j + 1 : Nat) : Int) := by rw [w64_of (by omega) (by omega)]; omega
    have e2 : w64 (((2 * j : Nat) : Int) + 2) = ((2 * j + 1 + 1 : Nat) : Int) := by rw [w64_of (by omega) (by omega)]; omega
    have e3 : w64 (w64 (w8 (((UInt8.ofNat (48 + p.1)).toNat : Int) - 48)) * (K : Int)) = ((p.1 * K : Nat) : Int) := by
      rw [toNat_ofNat8 (by omega), w8_of (by omega) (by omega), w64_of (n := ((48 + p.1 : Nat) : Int) - 48) (by omega) (by omega), show ((48 + p.1 : Nat) : Int) - 48 = (p.1 : Int) by omega, show (p.1 : Int) * (K : Int) = ((p.1 * K : Nat) : Int) by rw [Int.natCast_mul], w64_of (by omega) (by omega)]
    obtain ⟨ih1, ih2⟩ := growS_l_ev P hl hP K hK m (j + 1) (by omega)
    have hg : (growP K (P.take j)).length = j := by rw [growP_len, List.length_take]; omega
    have walk : ∀ r, Ev (fun k => cond (decide (((p.1 * K : Nat) : Int) > 9)) (some (.inl (ByteArray.empty, false))) ((spec_l1Num k ((p.1 * K : Nat) : Int)).bind fun r1 => cond (((decide ((0 : Int) ≤ ((2 * j + 1 + 1 : Nat) : Int))) && (decide (((2 * j + 1 + 1 : Nat) : Int) ≤ ((enc P).size : Int)))) && ((decide ((0 : Int) ≤ ((2 * j + 1 : Nat) : Int))) && (decide (((2 * j + 1 : Nat) : Int) ≤ ((2 * j + 1 + 1 : Nat) : Int)))))
        (cond (fitS r1 (bs [p.2])) (cond (fitS (enc (growP K (P.take j))) (r1 ++ bs [p.2])) (spec_GrowProgram_l k (enc P, (K : Int), enc (growP K (P.take j)) ++ (r1 ++ bs [p.2]), ((2 * j + 1 + 1 : Nat) : Int))) none) none) none)) r →
        Ev (fun k => spec_GrowProgram_l k (enc P, (K : Int), enc (growP K (P.take j)), ((2 * j : Nat) : Int))) r := fun r H => by
      refine Ev.step (fun k => spec_GrowProgram_l.eq k _ _ _ _) (Ev.yes (decide_eq_true (by omega)) (Ev.yes (inB_nat (by omega)) ?_))
      rw [e1, e2, Int.toNat_natCast, Int.toNat_natCast, Int.toNat_natCast, bt_at g1, e3, cut2 g2]
      exact H
    have walk2 : p.1 * K ≤ 9 → ∀ r, Ev (fun k => spec_GrowProgram_l k (enc P, (K : Int), enc (growP K (P.take (j + 1))), ((2 * (j + 1) : Nat) : Int))) r → Ev (fun k => spec_GrowProgram_l k (enc P, (K : Int), enc (growP K (P.take j)), ((2 * j : Nat) : Int))) r := fun hh r H => by
      refine walk r (Ev.no (decide_eq_false (by omega)) (Ev.bind (l1Num_ev _ (by omega)) (Ev.yes (by rw [decide_eq_true (by omega), decide_eq_true (by omega), decide_eq_true (by omega), decide_eq_true (by omega)]; rfl) (Ev.yes (fitS_of (by show 1 + 1 < _; omega)) (Ev.yes (fitS_of ?_) ?_)))))
      · rw [enc_size, hg]
        show _ + 2 < _
        omega
      · have eo : ofBytes [48 + ((p.1 * K : Nat) : Int)] = bs [UInt8.ofNat (48 + p.1 * K)] := by
          have := ofBytes_of [UInt8.ofNat (48 + p.1 * K)]
          rw [List.map_cons, List.map_nil, toNat_ofNat8 (by omega)] at this
          rw [show 48 + ((p.1 * K : Nat) : Int) = ((48 + p.1 * K : Nat) : Int) by omega]
          exact this
        have ea : enc (growP K (P.take j)) ++ (bs [UInt8.ofNat (48 + p.1 * K)] ++ bs [p.2]) = enc (growP K (P.take (j + 1))) := by
          apply ba_ext
          rw [append_list, append_list, List.take_add_one, hp]
          unfold growP
          rw [Option.toList_some, List.map_append]
          show encL _ ++ ([UInt8.ofNat (48 + p.1 * K)] ++ [p.2]) = encL _
          rw [encL_append]
          rfl
        rw [eo, ea]
        exact H
    constructor
    · intro h'
      exact walk2 (h' p (by rw [hdrop]; simp)) _ (ih1 fun q hq => h' q (by rw [hdrop]; exact List.mem_cons_of_mem _ hq))
    · intro h'
      by_cases hh : p.1 * K ≤ 9
      · refine walk2 hh _ (ih2 fun h2 => h' fun q hq => ?_)
        rw [hdrop] at hq
        rcases List.mem_cons.1 hq with rfl | hq
        · exact hh
        · exact h2 q hq
      · exact walk _ (Ev.yes (decide_eq_true (by omega)) (Ev.now _))
theorem grow_ev (P : List Pa) (h9 : 1 ≤ P.length ∧ P.length ≤ 9) (hP : ∀ p ∈ P, PaOk p) (K : Nat) (hK : 1 ≤ K ∧ K ≤ 9) :
    ((∀ p ∈ P, p.1 * K ≤ 9) → Ev (fun k => impl_GrowProgram k (enc P, (K : Int))) (enc (growP K P), true) ∧ Ev (fun k => spec_GrowProgram k (enc P, (K : Int))) (enc (growP K P), true)) ∧
    (¬ (∀ p ∈ P, p.1 * K ≤ 9) → Ev (fun k => impl_GrowProgram k (enc P, (K : Int))) (ByteArray.empty, false) ∧ Ev (fun k => spec_GrowProgram k (enc P, (K : Int))) (ByteArray.empty, false)) := by
  obtain ⟨a1, a2⟩ := growI_l_ev P h9.2 hP K hK P.length 0 (by omega)
  obtain ⟨b1, b2⟩ := growS_l_ev P h9.2 hP K hK P.length 0 (by omega)
  have eI : dat (growP K (P.take 0) ++ P.drop 0) = dat P := rfl
  have eS : enc (growP K (P.take 0)) = ByteArray.empty := rfl
  rw [eI, List.drop_zero] at a1 a2
  rw [eS, List.drop_zero] at b1 b2
  have hdl : (dat P).length = P.length := by unfold dat; rw [List.length_map]
  have wI := (within_ev (K : Int) 1 9).isT (by omega)
  have wS := (l1In_ev (K : Int) 1 9).isT (by omega)
  have pI := parts_ev P (by omega) hP
  refine ⟨fun h => ⟨?_, ?_⟩, fun h => ⟨?_, ?_⟩⟩
  · refine Ev.step (fun k => impl_GrowProgram.eq k _ _) (Ev.bind (isP_ev P h9 hP) (Ev.no rfl (Ev.bind wI (Ev.no rfl (Ev.bind pI ?_)))))
    rw [hdl]
    exact Ev.bind (a1 h) (Ev.bind (text_ev (growP K P) (by rw [growP_len]; omega) (growP_ok hP h)) (Ev.now _))
  · exact Ev.step (fun k => spec_GrowProgram.eq k _ _) (Ev.bind (goodP_ev P h9 hP) (Ev.no rfl (Ev.bind wS (Ev.no rfl (Ev.bind (b1 h) (Ev.now _))))))
  · refine Ev.step (fun k => impl_GrowProgram.eq k _ _) (Ev.bind (isP_ev P h9 hP) (Ev.no rfl (Ev.bind wI (Ev.no rfl (Ev.bind pI ?_)))))
    rw [hdl]
    exact Ev.bind (a2 h) (Ev.now _)
  · exact Ev.step (fun k => spec_GrowProgram.eq k _ _) (Ev.bind (goodP_ev P h9 hP) (Ev.no rfl (Ev.bind wS (Ev.no rfl (Ev.bind (b2 h) (Ev.now _))))))
theorem grow_no (s : ByteArray) (hs : s.size ≤ 1048576) (n : Int) (h : ¬ (ProgOk s ∧ 1 ≤ n ∧ n ≤ 9)) : Ev (fun k => impl_GrowProgram k (s, n)) (ByteArray.empty, false) ∧ Ev (fun k => spec_GrowProgram k (s, n)) (ByteArray.empty, false) := by
  have i1 := isProgram_ev s (by omega)
  have g1 := tuGood_ev s (by omega)
  by_cases h1 : ProgOk s
  · have h2 : ¬ (1 ≤ n ∧ n ≤ 9) := fun h2 => h ⟨h1, h2⟩
    exact ⟨Ev.step (fun k => impl_GrowProgram.eq k s n) (Ev.bind (i1.isT h1) (Ev.no rfl (Ev.bind ((within_ev n 1 9).isF h2) (Ev.yes rfl (Ev.now _))))), Ev.step (fun k => spec_GrowProgram.eq k s n) (Ev.bind (g1.isT h1) (Ev.no rfl (Ev.bind ((l1In_ev n 1 9).isF h2) (Ev.yes rfl (Ev.now _)))))⟩
  · exact ⟨Ev.step (fun k => impl_GrowProgram.eq k s n) (Ev.bind (i1.isF h1) (Ev.yes rfl (Ev.now _))), Ev.step (fun k => spec_GrowProgram.eq k s n) (Ev.bind (g1.isF h1) (Ev.yes rfl (Ev.now _)))⟩
end Go.Proofs.YtfklcheeoieniaaGreatS
