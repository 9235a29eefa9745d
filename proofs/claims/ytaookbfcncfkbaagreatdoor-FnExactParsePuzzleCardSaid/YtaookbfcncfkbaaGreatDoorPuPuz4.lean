/- Puzzles: their texts. -/
import Derived.Test.YtaookbfcncfkbaaGreatDoorPuPuzA
import Derived.Test.YtaookbfcncfkbaaGreatDoorPuPzL
import Derived.Test.YtaookbfcncfkbaaGreatDoorPuText
namespace Go.Proofs.YtaookbfcncfkbaaGreatDoorS
open Go
set_option linter.unusedVariables false
set_option linter.unusedSimpArgs false
def clueT (c : Cl) : ByteArray := decS c.1.toNat ++ bs [46] ++ decS c.2.1.toNat ++ bs [46] ++ decS c.2.2.toNat
theorem clueOk_range {rl : ByteArray} {n : Int} {c : Cl} (h : ClueOk rl n c) (hr : rl.size ≤ 6) (hn : n ≤ 9) : (0 ≤ c.1 ∧ c.1 ≤ 4) ∧ (0 ≤ c.2.1 ∧ c.2.1 ≤ 100) ∧ (0 ≤ c.2.2 ∧ c.2.2 ≤ 100) := by
  unfold ClueOk at h
  omega
theorem clueT_size {c : Cl} (h : (0 ≤ c.1 ∧ c.1 ≤ 4) ∧ (0 ≤ c.2.1 ∧ c.2.1 ≤ 100) ∧ (0 ≤ c.2.2 ∧ c.2.2 ≤ 100)) : (clueT c).size ≤ 29 := by
  have h1 := decS_size (n := c.1.toNat) (by omega)
  have h2 := decS_size (n := c.2.1.toNat) (by omega)
  have h3 := decS_size (n := c.2.2.toNat) (by omega)
  have z : (bs [46]).size = 1 := rfl
  unfold clueT
  simp only [ByteArray.size_append, z]
  omega
def puzT (rl : ByteArray) (w h : Int) (cl : List Cl) : ByteArray := (rl ++ bs [58] ++ decS w.toNat ++ bs [120] ++ decS h.toNat ++ bs [58]) ++ joinB (cl.map clueT) (bs [44])
theorem puzText_ev (rl : ByteArray) (w h : Int) (cl : List Cl) (H : PuzOk rl w h cl) : Ev (fun k => spec_pzText k (rl, w, h, cl)) (puzT rl w h cl) ∧ Ev (fun k => impl_puzzleText k (rl, w, h, cl)) (puzT rl w h cl) := by
  obtain ⟨h1, h2, h3⟩ := id H
  have hm := mul_range (a := w) (b := h) (by have := h1.2.1; omega) (by have := h1.2.1; omega) (by have := h1.2.2.1; omega) (by have := h1.2.2.1; omega)
  have hw := h1.2.1
  have hh := h1.2.2.1
  have hr := h1.1.1
  have hR : ∀ c ∈ cl, (0 ≤ c.1 ∧ c.1 ≤ 4) ∧ (0 ≤ c.2.1 ∧ c.2.1 ≤ 100) ∧ (0 ≤ c.2.2 ∧ c.2.2 ≤ 100) := fun c hc => clueOk_range (h3 c hc) (by omega) h1.2.2.2.1
  have z46 : (bs [46]).size = 1 := rfl
  have z44 : (bs [44]).size = 1 := rfl
  have z58 : (bs [58]).size = 1 := rfl
  have z120 : (bs [120]).size = 1 := rfl
  have num : ∀ n : Int, 0 ≤ n → n ≤ 999999999 → Ev (fun k => spec_l1Num k n) (decS n.toNat) := fun n h0 h1 => by
    have := l1Num_dec n.toNat (by omega)
    rwa [Int.toNat_of_nonneg h0] at this
  have nI : ∀ n : Int, 0 ≤ n → n ≤ 999999999 → Ev (fun k => strconv_Itoa k n) (decS n.toNat) := fun n h0 h1 => by
    have := itoa_ev n.toNat (by omega)
    rwa [Int.toNat_of_nonneg h0] at this
  have sw := decS_size (n := w.toNat) (by omega)
  have sh := decS_size (n := h.toNat) (by omega)
  have jsz : ∀ i, (joinB ((cl.map clueT).take i) (bs [44])).size ≤ 30 * 6 := fun i => by
    have := joinB_size (bs [44]) 30 ((cl.map clueT).take i) (fun x hx => by
      obtain ⟨c, hc, rfl⟩ := List.mem_map.1 (List.mem_of_mem_take hx)
      have := clueT_size (hR c hc)
      omega)
    have hl : ((cl.map clueT).take i).length ≤ 6 := by rw [List.length_take, List.length_map]; omega
    exact Nat.le_trans this (Nat.mul_le_mul_left _ hl)
  have loopS : ∀ (m i : Nat) (pre : ByteArray), pre.size ≤ 100 → i + m = cl.length → Ev (fun k => spec_pzText_l k (pre ++ joinB ((cl.map clueT).take i) (bs [44]), cl, (cl.length : Int), (i : Int))) (pre ++ joinB (cl.map clueT) (bs [44])) := by
    intro m
    induction m with
    | zero =>
      intro i pre hp hi
      exact Ev.step (fun k => spec_pzText_l.eq k _ cl _ _) (Ev.no (not_lt_nat (by omega)) (Ev.now' (by rw [List.take_of_length_le (by rw [List.length_map]; omega)])))
    | succ m ih =>
      intro i pre hp hi
      obtain ⟨c, hc⟩ := nat_list (l := cl) (i := i) (by omega)
      obtain ⟨r1, r2, r3⟩ := hR c (List.mem_of_getElem? hc)
      have d1 := decS_size (n := c.1.toNat) (by omega)
      have d2 := decS_size (n := c.2.1.toNat) (by omega)
      have d3 := decS_size (n := c.2.2.toNat) (by omega)
      have hct := clueT_size (hR c (List.mem_of_getElem? hc))
      have ih' := ih (i + 1) pre hp (by omega)
      have htk : (cl.map clueT).take (i + 1) = (cl.map clueT).take i ++ [clueT c] := by
        rw [List.take_add_one, List.getElem?_map, hc]
        rfl
      have jz := jsz i
      refine Ev.step (fun k => spec_pzText_l.eq k _ cl _ _) (Ev.yes (lt_nat (by omega)) (Ev.yes (inB_nat (by omega)) ?_))
      rw [Int.toNat_natCast, getD_at hc, w64_succ (by omega)]
      by_cases h0 : i = 0
      · subst h0
        have e0 : joinB ((cl.map clueT).take 0) (bs [44]) = ByteArray.empty := by rw [List.take_zero]; exact joinB_nil _
        have e1 : joinB ((cl.map clueT).take (0 + 1)) (bs [44]) = clueT c := by rw [htk, List.take_zero, List.nil_append]; exact joinB_one _ _
        rw [e1] at ih'
        rw [e0]
        have ee : pre ++ ByteArray.empty = pre := by apply ba_ext; rw [append_list]; simp
        rw [ee]
        refine Ev.no rfl (Ev.bind (num c.1 (by omega) (by omega)) (Ev.yes (fitS_of (by omega)) (Ev.bind (num c.2.1 (by omega) (by omega)) ?_)))
        refine Ev.yes (fitS_of (by simp only [ByteArray.size_append]; omega)) (Ev.yes (fitS_of (by simp only [ByteArray.size_append]; omega)) (Ev.bind (num c.2.2 (by omega) (by omega)) ?_))
        refine Ev.yes (fitS_of (by simp only [ByteArray.size_append]; omega)) (Ev.yes (fitS_of (by simp only [ByteArray.size_append]; omega)) ?_)
        exact ih'
      · have e1 : joinB ((cl.map clueT).take (i + 1)) (bs [44]) = joinB ((cl.map clueT).take i) (bs [44]) ++ bs [44] ++ clueT c := by
          rw [htk]
          refine joinB_snoc _ _ _ fun e => ?_
          have := congrArg List.length e
          rw [List.length_take, List.length_map, List.length_nil] at this
          omega
        rw [e1] at ih'
        have ee : pre ++ (joinB ((cl.map clueT).take i) (bs [44]) ++ bs [44] ++ clueT c) = pre ++ joinB ((cl.map clueT).take i) (bs [44]) ++ bs [44] ++ clueT c := by
          apply ba_ext
          simp only [append_list, List.append_assoc]
        rw [ee] at ih'
        refine Ev.yes (decide_eq_true (by omega)) (Ev.yes (fitS_of (by simp only [ByteArray.size_append]; omega)) (Ev.bind (num c.1 (by omega) (by omega)) (Ev.yes (fitS_of (by omega)) (Ev.bind (num c.2.1 (by omega) (by omega)) ?_))))
        refine Ev.yes (fitS_of (by simp only [ByteArray.size_append]; omega)) (Ev.yes (fitS_of (by simp only [ByteArray.size_append]; omega)) (Ev.bind (num c.2.2 (by omega) (by omega)) ?_))
        refine Ev.yes (fitS_of (by simp only [ByteArray.size_append]; omega)) (Ev.yes (fitS_of (by simp only [ByteArray.size_append]; omega)) ?_)
        exact ih'
  have loopI : ∀ (m i : Nat), i + m = cl.length → Ev (fun k => impl_puzzleText_l k ((rl, w, h, cl), (cl.map clueT).take i, (), (cl.length : Int), (i : Int))) ((rl, w, h, cl), cl.map clueT) := by
    intro m
    induction m with
    | zero =>
      intro i hi
      exact Ev.step (fun k => impl_puzzleText_l.eq k rl w h cl _ _ _) (Ev.no (not_lt_nat (by omega)) (Ev.now' (by rw [List.take_of_length_le (by rw [List.length_map]; omega)])))
    | succ m ih =>
      intro i hi
      obtain ⟨c, hc⟩ := nat_list (l := cl) (i := i) (by omega)
      obtain ⟨r1, r2, r3⟩ := hR c (List.mem_of_getElem? hc)
      have ih' := ih (i + 1) (by omega)
      rw [List.take_add_one, List.getElem?_map, hc] at ih'
      have lt := listText_ev (bs [46]) [c.1, c.2.1, c.2.2] (by simp) (by rw [z46]; omega) (by intro n hn; simp at hn; omega)
      have el : joinB ([c.1, c.2.1, c.2.2].map fun n => decS n.toNat) (bs [46]) = clueT c := by
        have e1 := joinB_snoc [decS c.1.toNat, decS c.2.1.toNat] (decS c.2.2.toNat) (bs [46]) (by simp)
        have e2 := joinB_snoc [decS c.1.toNat] (decS c.2.1.toNat) (bs [46]) (by simp)
        have e3 := joinB_one (decS c.1.toNat) (bs [46])
        have e2' : joinB [decS c.1.toNat, decS c.2.1.toNat] (bs [46]) = joinB [decS c.1.toNat] (bs [46]) ++ bs [46] ++ decS c.2.1.toNat := e2
        show joinB ([decS c.1.toNat, decS c.2.1.toNat] ++ [decS c.2.2.toNat]) (bs [46]) = _
        rw [e1, e2', e3]
        rfl
      rw [el] at lt
      refine Ev.step (fun k => impl_puzzleText_l.eq k rl w h cl _ _ _) (Ev.yes (lt_nat (by omega)) (Ev.yes (inB_nat (by omega)) ?_))
      rw [Int.toNat_natCast, getD_at hc, w64_succ (by omega)]
      exact Ev.bind lt (Ev.yes (fits_of (by rw [List.length_take, List.length_map]; omega)) ih')
  have jall := jsz cl.length
  rw [List.take_of_length_le (by rw [List.length_map]; exact Nat.le_refl _)] at jall
  have preS : (rl ++ bs [58] ++ decS w.toNat ++ bs [120] ++ decS h.toNat ++ bs [58]).size ≤ 100 := by
    simp only [ByteArray.size_append]
    omega
  constructor
  · have ls := loopS cl.length 0 _ preS (by omega)
    have e0 : joinB ((cl.map clueT).take 0) (bs [44]) = ByteArray.empty := by rw [List.take_zero]; exact joinB_nil _
    rw [e0] at ls
    have ee : ∀ p : ByteArray, p ++ ByteArray.empty = p := fun p => by apply ba_ext; rw [append_list]; simp
    rw [ee] at ls
    refine Ev.step (fun k => spec_pzText.eq k rl w h cl) (Ev.yes (fitS_of (by omega)) (Ev.bind (num w (by omega) (by omega)) ?_))
    refine Ev.yes (fitS_of (by simp only [ByteArray.size_append]; omega)) (Ev.yes (fitS_of (by simp only [ByteArray.size_append]; omega)) (Ev.bind (num h (by omega) (by omega)) ?_))
    exact Ev.yes (fitS_of (by simp only [ByteArray.size_append]; omega)) (Ev.yes (fitS_of (by simp only [ByteArray.size_append]; omega)) (Ev.bind ls (Ev.now _)))
  · have li := loopI cl.length 0 (by omega)
    rw [List.take_zero] at li
    refine Ev.step (fun k => impl_puzzleText.eq k rl w h cl) (Ev.bind li ?_)
    dsimp only
    refine Ev.yes (fitS_of (by omega)) (Ev.bind (nI w (by omega) (by omega)) ?_)
    refine Ev.yes (fitS_of (by simp only [ByteArray.size_append]; omega)) (Ev.yes (fitS_of (by simp only [ByteArray.size_append]; omega)) (Ev.bind (nI h (by omega) (by omega)) ?_))
    refine Ev.yes (fitS_of (by simp only [ByteArray.size_append]; omega)) (Ev.yes (fitS_of (by simp only [ByteArray.size_append]; omega)) (Ev.bind (join_ev (cl.map clueT) (bs [44]) (by rw [List.length_map]; omega) (by omega)) ?_))
    exact Ev.yes (fitS_of (by simp only [ByteArray.size_append] at preS ⊢; omega)) (Ev.now _)
end Go.Proofs.YtaookbfcncfkbaaGreatDoorS
