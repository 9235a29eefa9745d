/- Left and right exchanged. -/
import Derived.Test.YtfklcheeoieniaaGreatPuDigits
namespace Go.Proofs.YtfklcheeoieniaaGreatS
open Go
set_option linter.unusedVariables false
set_option linter.unusedSimpArgs false

def othC (c : UInt8) : UInt8 := if c = 76 then 82 else if c = 82 then 76 else c
def oth (s : ByteArray) : ByteArray := swapS (swp (76 : UInt8).toNat (82 : UInt8).toNat) s
theorem othC_eq (c : UInt8) : UInt8.ofNat (swp (76 : UInt8).toNat (82 : UInt8).toNat c.toNat) = othC c := by
  unfold othC swp swU
  by_cases h1 : c = 76
  · subst h1
    rfl
  · by_cases h2 : c = 82
    · subst h2
      rfl
    · rw [if_neg (fun e => h1 (UInt8.toNat_inj.1 e)), if_neg (fun e => h2 (UInt8.toNat_inj.1 e)), if_neg h1, if_neg h2]
      simp
theorem othC_othC (c : UInt8) : othC (othC c) = c := by
  unfold othC
  by_cases h1 : c = 76
  · subst h1
    rfl
  · by_cases h2 : c = 82
    · subst h2
      rfl
    · rw [if_neg h1, if_neg h2, if_neg h1, if_neg h2]
theorem oth_list (s : ByteArray) : (oth s).data.toList = s.data.toList.map othC := by
  show (s.data.toList.map fun c => UInt8.ofNat (swp (76 : UInt8).toNat (82 : UInt8).toNat c.toNat)).toArray.toList = _
  rw [List.toList_toArray]
  exact List.map_congr_left fun c _ => othC_eq c
theorem oth_size (s : ByteArray) : (oth s).size = s.size := by
  rw [size_list, size_list, oth_list, List.length_map]
theorem oth_oth (s : ByteArray) : oth (oth s) = s := by
  apply ba_ext
  rw [oth_list, oth_list, List.map_map]
  conv => rhs; rw [← List.map_id s.data.toList]
  exact List.map_congr_left fun c _ => othC_othC c
theorem signC_oth {c : UInt8} (h : SignC c) : SignC (othC c) := by
  unfold othC
  by_cases h1 : c = 76
  · subst h1
    simp [SignC]
  · by_cases h2 : c = 82
    · subst h2
      simp [SignC]
    · rw [if_neg h1, if_neg h2]
      exact h
theorem ruleOk_oth {s : ByteArray} (h : RuleOk s) : RuleOk (oth s) := by
  refine ⟨by rw [oth_size]; exact h.1, fun c hc => ?_⟩
  rw [oth_list] at hc
  obtain ⟨d, hd, rfl⟩ := List.mem_map.1 hc
  exact signC_oth (h.2 d hd)
theorem other_ev (s : ByteArray) (h : s.size ≤ 1048576) : Ev (fun k => impl_other k s) (oth s) :=
  Ev.step (fun k => (impl_other.eq k s).trans (show otherB 76 82 s = some (oth s) from if_pos (by omega))) (Ev.now _)
theorem cut_one {cs : ByteArray} {i : Nat} {c : UInt8} (h : cs.data.toList[i]? = some c) : cs.extract i (i + 1) = bs [c] := by
  apply ba_ext
  obtain ⟨hlt, he⟩ := List.getElem?_eq_some_iff.1 h
  rw [extract_list, List.drop_take, show i + 1 - i = 1 by omega, List.drop_eq_getElem_cons hlt, he]
  rfl
theorem woOther_l_ev (s : ByteArray) (hs : s.size ≤ 1048576) : ∀ (m i : Nat), i + m = s.size → Ev (fun k => spec_woOther_l k (s, bs ((s.data.toList.take i).map othC), (i : Int))) (oth s)
  | 0, i, hi => Ev.step (fun k => spec_woOther_l.eq k s _ i) (Ev.no (not_lt_nat (by omega)) (Ev.now' (by
      apply ba_ext
      rw [oth_list, List.take_of_length_le (by rw [← size_list]; omega)]
      rfl)))
  | m + 1, i, hi => by
    obtain ⟨c, hc⟩ := byte_at (cs := s) (i := i) (by omega)
    have ih := woOther_l_ev s hs m (i + 1) (by omega)
    have hz : (bs ((s.data.toList.take i).map othC)).size = i := by
      rw [size_list]
      simp only [bs, List.toList_toArray, List.length_map, List.length_take]
      rw [← size_list]
      omega
    have e1 : w64 ((i : Int) + 1) = ((i + 1 : Nat) : Int) := w64_succ (by omega)
    have ef : ∀ d : UInt8, fitS (bs ((s.data.toList.take i).map othC)) (bs [d]) = true := fun d => fitS_of (by rw [hz]; show i + 1 < _; omega)
    have ea : ∀ d : UInt8, d = othC c → bs ((s.data.toList.take i).map othC) ++ bs [d] = bs ((s.data.toList.take (i + 1)).map othC) := fun d hd => by
      apply ba_ext
      rw [append_list, List.take_add_one, hc, List.map_append]
      subst hd
      rfl
    refine Ev.step (fun k => spec_woOther_l.eq k s _ i) (Ev.yes (lt_nat (by omega)) (Ev.yes (inB_nat (by omega)) ?_))
    rw [Int.toNat_natCast, bt_at hc, e1]
    by_cases h1 : c = 76
    · refine Ev.yes (by rw [h1]; rfl) (Ev.yes (ef 82) ?_)
      rw [ea 82 (by rw [h1]; rfl)]
      exact ih
    · have n1 : ((c.toNat : Int) == 76) = false := by
        rw [beq_eq_false_iff_ne]
        intro e
        exact h1 (UInt8.toNat_inj.1 (by show c.toNat = 76; omega))
      refine Ev.no n1 ?_
      by_cases h2 : c = 82
      · refine Ev.yes (by rw [h2]; rfl) (Ev.yes (ef 76) ?_)
        rw [ea 76 (by rw [h2]; rfl)]
        exact ih
      · have n2 : ((c.toNat : Int) == 82) = false := by
          rw [beq_eq_false_iff_ne]
          intro e
          exact h2 (UInt8.toNat_inj.1 (by show c.toNat = 82; omega))
        rw [Int.toNat_natCast, cut_one hc]
        refine Ev.no n2 (Ev.yes (by rw [decide_eq_true (by omega), decide_eq_true (by omega), decide_eq_true (by omega), decide_eq_true (by omega)]; rfl) (Ev.yes (ef c) ?_))
        rw [ea c (by unfold othC; rw [if_neg h1, if_neg h2])]
        exact ih
theorem woOther_ev (s : ByteArray) (hs : s.size ≤ 1048576) : Ev (fun k => spec_woOther k s) (oth s) := Ev.step (fun k => spec_woOther.eq k s) (Ev.bind (woOther_l_ev s hs s.size 0 (by omega)) (Ev.now _))
end Go.Proofs.YtfklcheeoieniaaGreatS
