/- Programs: what is one. -/
import Derived.Test.YtfklcheeoieniaaGreatPuDigits
namespace Go.Proofs.YtfklcheeoieniaaGreatS
open Go
set_option linter.unusedVariables false
set_option linter.unusedSimpArgs false

def DigC (c : UInt8) : Prop := 48 ≤ c.toNat ∧ c.toNat ≤ 57
def PartC (i : Nat) (c : UInt8) : Prop := (i % 2 = 0 → DigC c) ∧ (i % 2 = 1 → SignC c)
def ProgOk (s : ByteArray) : Prop := s.size % 2 = 0 ∧ (1 ≤ s.size / 2 ∧ s.size / 2 ≤ 9) ∧ ∀ i c, s.data.toList[i]? = some c → PartC i c
theorem sign_not_dig {c : UInt8} (h : SignC c) : ¬ DigC c := by
  rcases h with rfl | rfl | rfl | rfl <;> (unfold DigC; decide)
theorem sub_oneP {cs : ByteArray} {i : Nat} {c : UInt8} (h : cs.data.toList[i]? = some c) : (cs.extract i (i + 1)).data.toList = [c] := by
  obtain ⟨hlt, he⟩ := List.getElem?_eq_some_iff.1 h
  rw [extract_list, List.drop_take, show i + 1 - i = 1 by omega, List.drop_eq_getElem_cons hlt, he]
  rfl
theorem ruleOk_one {t : ByteArray} {c : UInt8} (h : t.data.toList = [c]) : RuleOk t ↔ SignC c := by
  have hs : t.size = 1 := size_one.2 ⟨c, h⟩
  unfold RuleOk
  rw [h, hs]
  simp
theorem par0 {i : Nat} (h : i % 2 = 0) : ((i : Int).tmod 2 == 0) = true := by
  rw [Int.tmod_eq_emod_of_nonneg (by omega), beq_iff_eq]; omega
theorem par1 {i : Nat} (h : i % 2 = 1) : ((i : Int).tmod 2 == 0) = false := by
  rw [Int.tmod_eq_emod_of_nonneg (by omega), beq_eq_false_iff_ne]; omega
theorem containsP_ev {t : ByteArray} {c : UInt8} (h : t.data.toList = [c]) : EvB (fun k => strings_Contains k (bs [76, 82, 78, 85], t)) (SignC c) := by
  refine EvB.step (fun k => strings_Contains.eq k (bs [76, 82, 78, 85], t)) ?_
  show EvB (fun _ => strContains1 (bs [76, 82, 78, 85]) t) _
  have e : strContains1 (bs [76, 82, 78, 85]) t = some (decide (0 ≤ Lib.indexByte [76, 82, 78, 85] c)) := by
    unfold strContains1
    rw [h]
    rfl
  rw [e]
  refine EvB.val ?_
  unfold SignC
  rw [decide_eq_true_iff]
  simp only [Lib.indexByte]
  by_cases h1 : (76 : UInt8) = c
  · subst h1; simp
  · by_cases h2 : (82 : UInt8) = c
    · subst h2; simp
    · by_cases h3 : (78 : UInt8) = c
      · subst h3; simp
      · by_cases h4 : (85 : UInt8) = c
        · subst h4; simp
        · simp [h1, h2, h3, h4, Ne.symm h1, Ne.symm h2, Ne.symm h3, Ne.symm h4]
theorem isProgram_ev (s : ByteArray) (hs : s.size ≤ 9223372036854775807) : EvB (fun k => impl_IsProgram k s) (ProgOk s) := by
  refine EvB.step (fun k => impl_IsProgram.eq k s) ?_
  have wi : ∀ c : UInt8, EvB (fun k => impl_within k (w64 (c.toNat : Int), 48, 57)) (DigC c) := fun c => (within_ev _ _ _).iff (by
    have := c.toNat_lt
    rw [w64_of (by omega) (by omega)]
    unfold DigC
    omega)
  have bd : ∀ i : Nat, i < s.size → (((decide ((0 : Int) ≤ ((i + 1 : Nat) : Int))) && (decide (((i + 1 : Nat) : Int) ≤ (s.size : Int)))) && ((decide ((0 : Int) ≤ (i : Int))) && (decide ((i : Int) ≤ ((i + 1 : Nat) : Int))))) = true := fun i hi => by
    rw [decide_eq_true (by omega), decide_eq_true (by omega), decide_eq_true (by omega), decide_eq_true (by omega)]
    rfl
  have srch := Ev.search (L := fun k i => impl_IsProgram_l k (s, (s.size : Int), i)) (n := s.size) (fun i => ∃ c, s.data.toList[i]? = some c ∧ ¬ PartC i c) (fun i => .inl false) (.inr s)
    (fun i hi hp r H => by
      obtain ⟨c, hx⟩ := byte_at hi
      have hr : PartC i c := Classical.byContradiction fun hn => hp ⟨c, hx, hn⟩
      refine Ev.step (fun k => impl_IsProgram_l.eq k s _ _) (Ev.yes (lt_nat hi) (Ev.yes (inB_nat hi) ?_))
      rw [Int.toNat_natCast, bt_at hx, w64_succ (by omega), Int.toNat_natCast]
      rcases Nat.mod_two_eq_zero_or_one i with e | e
      · refine Ev.bind ((wi c).isT (hr.1 e)) ?_
        rw [par0 e]
        exact Ev.no rfl (Ev.no rfl H)
      · refine Ev.bind ((wi c).isF (sign_not_dig (hr.2 e))) ?_
        rw [par1 e]
        exact Ev.no rfl (Ev.yes rfl (Ev.yes (bd i hi) (Ev.bind ((containsP_ev (sub_oneP hx)).isT (hr.2 e)) (Ev.no rfl H)))))
    (fun i hi hp => by
      obtain ⟨c, hx, hn⟩ := hp
      refine Ev.step (fun k => impl_IsProgram_l.eq k s _ _) (Ev.yes (lt_nat hi) (Ev.yes (inB_nat hi) ?_))
      rw [Int.toNat_natCast, bt_at hx, w64_succ (by omega), Int.toNat_natCast]
      rcases Nat.mod_two_eq_zero_or_one i with e | e
      · have hd : ¬ DigC c := fun h => hn ⟨fun _ => h, fun e' => by omega⟩
        refine Ev.bind ((wi c).isF hd) ?_
        rw [par0 e]
        exact Ev.yes rfl (Ev.now _)
      · have hd : ¬ SignC c := fun h => hn ⟨fun e' => by omega, fun _ => h⟩
        by_cases hg : DigC c
        · refine Ev.bind ((wi c).isT hg) ?_
          rw [par1 e]
          exact Ev.yes rfl (Ev.now _)
        · refine Ev.bind ((wi c).isF hg) ?_
          rw [par1 e]
          exact Ev.no rfl (Ev.yes rfl (Ev.yes (bd i hi) (Ev.bind ((containsP_ev (sub_oneP hx)).isF hd) (Ev.yes rfl (Ev.now _))))))
    (Ev.step (fun k => impl_IsProgram_l.eq k s (s.size : Int) (s.size : Int)) (Ev.no (not_lt_nat (Nat.lt_irrefl _)) (Ev.now _))) s.size 0 (by omega)
  have hq : (w64 ((s.size : Int).tdiv 2)) = ((s.size / 2 : Nat) : Int) := by
    rw [Int.tdiv_eq_ediv_of_nonneg (by omega), w64_of (by omega) (by omega)]; omega
  rcases srch with ⟨h1, h2⟩ | ⟨j, _, hj, ⟨c, hx, hn⟩, _, h2⟩
  · have hall : ∀ i c, s.data.toList[i]? = some c → PartC i c := fun i c hc => Classical.byContradiction fun hn => h1 i (Nat.zero_le _) (by rw [size_list]; exact (List.getElem?_eq_some_iff.1 hc).1) ⟨c, hc, hn⟩
    by_cases he : s.size % 2 = 0
    · obtain ⟨b, q1, q2⟩ := (within_ev (w64 ((s.size : Int).tdiv 2)) 1 9)
      refine ⟨b, Ev.bind h2 (Ev.yes (par0 he) (Ev.bind q1 (Ev.now _))), q2.trans ?_⟩
      rw [hq]
      exact ⟨fun q => ⟨he, by omega, hall⟩, fun q => by have := q.2.1; omega⟩
    · exact ⟨false, Ev.bind h2 (Ev.no (par1 (by omega)) (Ev.now _)), ⟨nofun, fun q => absurd q.1 he⟩⟩
  · exact ⟨false, Ev.bind h2 (Ev.now _), ⟨nofun, fun q => absurd (q.2.2 j c hx) hn⟩⟩
theorem tuGood_ev (s : ByteArray) (hs : s.size ≤ 9223372036854775807) : EvB (fun k => spec_tuGood k s) (ProgOk s) := by
  refine EvB.step (fun k => spec_tuGood.eq k s) ?_
  by_cases he : s.size % 2 = 0
  rotate_left
  · have : (((s.size : Int).tmod 2) != 0) = true := by
      rw [bne_iff_ne, Int.tmod_eq_emod_of_nonneg (by omega)]; omega
    exact ⟨false, Ev.yes this (Ev.now _), ⟨nofun, fun q => absurd q.1 he⟩⟩
  have hne : (((s.size : Int).tmod 2) != 0) = false := by
    rw [bne_eq_false_iff_eq, Int.tmod_eq_emod_of_nonneg (by omega)]; omega
  have hq : (w64 ((s.size : Int).tdiv 2)) = ((s.size / 2 : Nat) : Int) := by
    rw [Int.tdiv_eq_ediv_of_nonneg (by omega), w64_of (by omega) (by omega)]; omega
  have hin : EvB (fun k => spec_l1In k (w64 ((s.size : Int).tdiv 2), 1, 9)) (1 ≤ s.size / 2 ∧ s.size / 2 ≤ 9) := (l1In_ev _ _ _).iff (by rw [hq]; omega)
  by_cases hn : 1 ≤ s.size / 2 ∧ s.size / 2 ≤ 9
  rotate_left
  · exact ⟨false, Ev.no hne (Ev.bind (hin.isF hn) (Ev.yes rfl (Ev.now _))), ⟨nofun, fun q => absurd q.2.1 hn⟩⟩
  have hlen := size_list s
  have srch := Ev.search (L := fun k i => spec_tuGood_l k (s, 2 * i)) (n := s.size / 2) (fun i => ∃ c d, s.data.toList[2 * i]? = some c ∧ s.data.toList[2 * i + 1]? = some d ∧ ¬ (DigC c ∧ SignC d)) (fun i => .inl false) (.inr ())
    (fun i hi hp r H => by
      obtain ⟨c, hx⟩ := byte_at (cs := s) (i := 2 * i) (by omega)
      obtain ⟨d, hy⟩ := byte_at (cs := s) (i := 2 * i + 1) (by omega)
      have hr : DigC c ∧ SignC d := Classical.byContradiction fun hn => hp ⟨c, d, hx, hy, hn⟩
      obtain ⟨⟨r1, r2⟩, r3⟩ := hr
      have hE : Ev (fun k => spec_tuGood_l k (s, ((2 * i : Nat) : Int))) r := by
        refine Ev.step (fun k => spec_tuGood_l.eq k s _) (Ev.yes (lt_nat (by omega)) (Ev.yes (inB_nat (by omega)) ?_))
        rw [Int.toNat_natCast, bt_at hx]
        refine Ev.no (decide_eq_false (by omega)) (Ev.yes (inB_nat (by omega)) (Ev.no (decide_eq_false (by omega)) ?_))
        have e2 : w64 (((2 * i : Nat) : Int) + 2) = ((2 * i + 1 + 1 : Nat) : Int) := by rw [w64_of (by omega) (by omega)]; omega
        have e1 : w64 (((2 * i : Nat) : Int) + 1) = ((2 * i + 1 : Nat) : Int) := by rw [w64_of (by omega) (by omega)]; omega
        rw [e1, e2]
        refine Ev.yes (by rw [decide_eq_true (by omega), decide_eq_true (by omega), decide_eq_true (by omega), decide_eq_true (by omega)]; rfl) ?_
        rw [Int.toNat_natCast, Int.toNat_natCast]
        refine Ev.bind ((woRuleR_ev _).isT ((ruleOk_one (sub_oneP hy)).2 r3)) (Ev.no rfl ?_)
        rw [show ((2 * i + 1 + 1 : Nat) : Int) = 2 * ((i + 1 : Nat) : Int) by omega]
        exact H
      rw [show ((2 * i : Nat) : Int) = 2 * (i : Int) by omega] at hE
      exact hE)
    (fun i hi hp => by
      obtain ⟨c, d, hx, hy, hn⟩ := hp
      have hE : Ev (fun k => spec_tuGood_l k (s, ((2 * i : Nat) : Int))) (.inl false) := by
        refine Ev.step (fun k => spec_tuGood_l.eq k s _) (Ev.yes (lt_nat (by omega)) (Ev.yes (inB_nat (by omega)) ?_))
        rw [Int.toNat_natCast, bt_at hx]
        by_cases c1 : (c.toNat : Int) < 48
        · exact Ev.yes (decide_eq_true c1) (Ev.now _)
        refine Ev.no (decide_eq_false c1) (Ev.yes (inB_nat (by omega)) ?_)
        by_cases c2 : (c.toNat : Int) > 57
        · exact Ev.yes (decide_eq_true c2) (Ev.now _)
        refine Ev.no (decide_eq_false c2) ?_
        have e2 : w64 (((2 * i : Nat) : Int) + 2) = ((2 * i + 1 + 1 : Nat) : Int) := by rw [w64_of (by omega) (by omega)]; omega
        have e1 : w64 (((2 * i : Nat) : Int) + 1) = ((2 * i + 1 : Nat) : Int) := by rw [w64_of (by omega) (by omega)]; omega
        rw [e1, e2]
        refine Ev.yes (by rw [decide_eq_true (by omega), decide_eq_true (by omega), decide_eq_true (by omega), decide_eq_true (by omega)]; rfl) ?_
        rw [Int.toNat_natCast, Int.toNat_natCast]
        have hS : ¬ SignC d := fun h => hn ⟨⟨by omega, by omega⟩, h⟩
        exact Ev.bind ((woRuleR_ev _).isF fun h => hS ((ruleOk_one (sub_oneP hy)).1 h)) (Ev.yes rfl (Ev.now _))
      rw [show ((2 * i : Nat) : Int) = 2 * (i : Int) by omega] at hE
      exact hE)
    (Ev.step (fun k => spec_tuGood_l.eq k s _) (Ev.no (decide_eq_false (by omega)) (Ev.now _))) (s.size / 2) 0 (by omega)
  rcases srch with ⟨h1, h2⟩ | ⟨j, _, hj, ⟨c, d, hx, hy, hb⟩, _, h2⟩
  · refine ⟨true, Ev.no hne (Ev.bind (hin.isT hn) (Ev.no rfl (Ev.bind h2 (Ev.now _)))), ⟨fun _ => ⟨he, hn, fun i c hc => ?_⟩, fun _ => rfl⟩⟩
    have hlt : i < s.size := by rw [hlen]; exact (List.getElem?_eq_some_iff.1 hc).1
    rcases Nat.mod_two_eq_zero_or_one i with e | e
    · obtain ⟨j, rfl⟩ : ∃ j, i = 2 * j := ⟨i / 2, by omega⟩
      obtain ⟨d, hy⟩ := byte_at (cs := s) (i := 2 * j + 1) (by omega)
      have := Classical.byContradiction fun hn => h1 j (Nat.zero_le _) (by omega) ⟨c, d, hc, hy, hn⟩
      exact ⟨fun _ => this.1, fun e' => by omega⟩
    · obtain ⟨j, rfl⟩ : ∃ j, i = 2 * j + 1 := ⟨i / 2, by omega⟩
      obtain ⟨d, hy⟩ := byte_at (cs := s) (i := 2 * j) (by omega)
      have := Classical.byContradiction fun hn => h1 j (Nat.zero_le _) (by omega) ⟨d, c, hy, hc, hn⟩
      exact ⟨fun e' => by omega, fun _ => this.2⟩
  · refine ⟨false, Ev.no hne (Ev.bind (hin.isT hn) (Ev.no rfl (Ev.bind h2 (Ev.now _)))), ⟨nofun, fun q => ?_⟩⟩
    exact absurd ⟨(q.2.2 _ _ hx).1 (by omega), (q.2.2 _ _ hy).2 (by omega)⟩ hb
end Go.Proofs.YtfklcheeoieniaaGreatS
