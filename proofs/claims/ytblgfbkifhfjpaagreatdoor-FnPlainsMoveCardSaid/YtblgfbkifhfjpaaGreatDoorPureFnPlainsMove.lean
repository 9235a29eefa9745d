/- The plain law FnPlainsMove. -/
import Derived.Test.YtblgfbkifhfjpaaGreatDoorOk
import Derived.Test.YtblgfbkifhfjpaaGreatDoorMgPr
namespace Go.Proofs.YtblgfbkifhfjpaaGreatDoor.fnPlainsMove
open Go Go.Proofs Go.Proofs.YtblgfbkifhfjpaaGreatDoorS
set_option linter.unusedVariables false
set_option linter.unusedSimpArgs false
theorem dSame_ev (a : List Int) (hl : a.length ≤ 1048576) : Ev (fun k => laws_dSame k (a, a)) true := by
  have h : ∀ (m i : Nat), i + m = a.length → Ev (fun k => laws_dSame_l k (a, a, (a.length : Int), (i : Int))) (.inr ()) := by
    intro m
    induction m with
    | zero => intro i h; exact Ev.step (fun k => laws_dSame_l.eq k a a (a.length : Int) i) (Ev.no (not_lt_nat (by omega)) (Ev.now _))
    | succ m ih =>
      intro i h
      refine Ev.step (fun k => laws_dSame_l.eq k a a (a.length : Int) i) (Ev.yes (lt_nat (by omega)) (Ev.yes (inB_nat (by omega)) (Ev.yes (inB_nat (by omega)) (Ev.no (neq_self _) ?_))))
      rw [w64_succ (by omega)]
      exact ih (i + 1) (by omega)
  exact Ev.step (fun k => laws_dSame.eq k a a) (Ev.no (neq_self _) (Ev.bind (h a.length 0 (by omega)) (Ev.now _)))
theorem zeroNo (S : PlS) : ¬ OkP ByteArray.empty S := fun h => by
  have := h.1.1.1
  exact absurd this (by decide)
/-! ### The boxes and the pictures -/
theorem spots_ev (more : List Int) (rl : ByteArray) (S : PlS) (hsp : S.1.length ≤ 1048576) (b : Bx) (hb : ∀ s ∈ S.1, InB b s.1 s.2.1) (picture : ByteArray) (five : Bool) : ∀ (m i : Nat), i + m = S.1.length → Ev (fun k => laws_FnPlainsMove_c_c_c_l k (more, (rl, S), bl b, picture, five, (), (S.1.length : Int), (i : Int))) (.inr (more, (rl, S), bl b, picture, five)) := by
  obtain ⟨sp, X, Y, wy⟩ := S
  intro m
  induction m with
  | zero =>
    intro i hi
    exact Ev.step (fun k => laws_FnPlainsMove_c_c_c_l.eq k more rl sp X Y wy (bl b) picture five _ _) (Ev.no (not_lt_nat (by omega)) (Ev.now _))
  | succ m ih =>
    intro i hi
    simp only at hi hsp hb
    obtain ⟨s, hs⟩ := nat_list (l := sp) (i := i) (by omega)
    obtain ⟨⟨h1, h2⟩, h3, h4⟩ := hb s (List.mem_of_getElem? hs)
    have q := ih (i + 1) (by simp only; omega)
    refine Ev.step (fun k => laws_FnPlainsMove_c_c_c_l.eq k more rl sp X Y wy (bl b) picture five _ _) (Ev.yes (lt_nat (by simp only; omega)) (Ev.yes (inB_nat (by omega)) (Ev.yes rfl ?_)))
    rw [Int.toNat_natCast, getD_at hs, w64_succ (by omega)]
    exact Ev.no (decide_eq_false (show ¬ s.1 < b.1 by omega)) (Ev.yes rfl (Ev.no (decide_eq_false (show ¬ s.1 > b.2.1 by omega)) (Ev.yes rfl (Ev.no (decide_eq_false (show ¬ s.2.1 < b.2.2.1 by omega)) (Ev.yes rfl (Ev.no (decide_eq_false (show ¬ s.2.1 > b.2.2.2 by omega)) q))))))
theorem bt_of {l : List Int} {j : Nat} {v : Int} (h : l[j]? = some v) (h0 : 0 ≤ v ∧ v < 256) : bt (ofBytes l) j = v := by
  have e : (ofBytes l).data.toList[j]? = some (UInt8.ofNat v.toNat) := by
    unfold ofBytes
    show (l.map fun n => UInt8.ofNat n.toNat)[j]? = _
    rw [List.getElem?_map, h]
    rfl
  rw [bt_at e, toNat_ofNat8 (by omega)]
  omega
theorem pc_range {rl : ByteArray} {S : PlS} (H : OkP rl S) (b0 : Int) (W : Nat) (b2 : Int) : ∀ (n : Nat) (v : Int), v ∈ pcL b0 W b2 S.1 n → 0 ≤ v ∧ v < 256
  | 0, v, h => absurd h List.not_mem_nil
  | n + 1, v, h => by
    have hR1 := H.1.1
    have h : v ∈ (if n = 0 then [] else pcL b0 W b2 S.1 n ++ [47]) ++ rowL b0 W S.1 (b2 + (n : Int)) := h
    rcases List.mem_append.1 h with h | h
    · split at h
      · exact absurd h List.not_mem_nil
      · rcases List.mem_append.1 h with h | h
        · exact pc_range H b0 W b2 n v h
        · rw [List.mem_singleton.1 h]
          omega
    · unfold rowL at h
      obtain ⟨k, _, rfl⟩ := List.mem_map.1 h
      have := col_range (x := b0 + (k : Int)) (y := b2 + (n : Int)) (show (1 : Int) ≤ (rl.size : Int) by omega) H.2.2.2.2
      omega
theorem picSpots_ev (more : List Int) {rl : ByteArray} {S : PlS} (H : OkP rl S) {W n : Nat} (hW : (W : Int) = (boxF S).2.1 - (boxF S).1 + 1) (hn : ((n + 1 : Nat) : Int) = (boxF S).2.2.2 - (boxF S).2.2.1 + 1) (h40 : W ≤ 40 ∧ n + 1 ≤ 40) : ∀ (m i : Nat), i + m = S.1.length →
    Ev (fun k => laws_FnPlainsMove_c_c_c_c_l k (more, bl (boxF S), ofBytes (pcL (boxF S).1 W (boxF S).2.2.1 S.1 (n + 1)), ((W + 1 : Nat) : Int), S.1, (S.1.length : Int), (i : Int))) (.inr more) := by
  have hsp := H.2.1
  have hR1 := H.1.1
  have hS := H.2.2.2.2
  obtain ⟨⟨⟨f1, f2⟩, f3, f4⟩, hb, _⟩ := boxF_facts H
  unfold Far at f1 f2 f3 f4
  intro m
  induction m with
  | zero =>
    intro i hi
    exact Ev.step (fun k => laws_FnPlainsMove_c_c_c_c_l.eq k more _ _ _ _ _ _) (Ev.no (not_lt_nat (by omega)) (Ev.now _))
  | succ m ih =>
    intro i hi
    obtain ⟨s, hs⟩ := nat_list (l := S.1) (i := i) (by omega)
    have hm := List.mem_of_getElem? hs
    obtain ⟨⟨h1, h2⟩, h3, h4⟩ := hb s hm
    have hc := (hS.1 s hm).2
    have q := ih (i + 1) (by omega)
    obtain ⟨kx, ex⟩ : ∃ kx : Nat, s.1 = (boxF S).1 + (kx : Int) := ⟨(s.1 - (boxF S).1).toNat, by omega⟩
    obtain ⟨jy, ey⟩ : ∃ jy : Nat, s.2.1 = (boxF S).2.2.1 + (jy : Int) := ⟨(s.2.1 - (boxF S).2.2.1).toNat, by omega⟩
    have hg := pcL_get (boxF S).1 (b2 := (boxF S).2.2.1) (W := W) S.1 (k := kx) (by omega) (n + 1) jy (by omega)
    rw [← ex, ← ey] at hg
    have hcol : colF s.1 s.2.1 S.1 = s.2.2 := col_mem hS.2 hm
    rw [hcol] at hg
    have hlt := (List.getElem?_eq_some_iff.1 hg).1
    have hbt := bt_of hg (by omega)
    have hjl : jy * (W + 1) ≤ 40 * 41 := Nat.mul_le_mul (by omega) (by omega)
    have eidx : w64 (w64 (w64 (w64 (s.2.1 - (boxF S).2.2.1) * ((W + 1 : Nat) : Int)) + s.1) - (boxF S).1) = ((jy * (W + 1) + kx : Nat) : Int) := by
      have e1 : s.2.1 - (boxF S).2.2.1 = (jy : Int) := by omega
      rw [e1, w64_of (n := (jy : Int)) (by omega) (by omega), ← Int.natCast_mul, w64_of (n := ((jy * (W + 1) : Nat) : Int)) (by omega) (by omega), w64_of (n := ((jy * (W + 1) : Nat) : Int) + s.1) (by omega) (by omega), w64_of (by omega) (by omega)]
      omega
    refine Ev.step (fun k => laws_FnPlainsMove_c_c_c_c_l.eq k more _ _ _ _ _ _) (Ev.yes (lt_nat (by omega)) (Ev.yes (inB_nat (by omega)) (Ev.yes rfl (Ev.yes rfl ?_))))
    rw [Int.toNat_natCast, getD_at hs, w64_succ (by omega)]
    have eb2 : (bl (boxF S)).getD 2 default = (boxF S).2.2.1 := rfl
    have eb0 : (bl (boxF S)).getD 0 default = (boxF S).1 := rfl
    rw [eb2, eb0]
    rw [eidx, Int.toNat_natCast, hbt]
    refine Ev.yes (inB_nat (by rw [ofBytes_len]; exact hlt)) (Ev.no ?_ q)
    rw [bne_eq_false_iff_eq, w64_of (n := 48 + s.2.2) (by omega) (by omega), w64_of (by omega) (by omega)]
    omega
theorem pics_ev (more : List Int) {rl : ByteArray} {S : PlS} (H : OkP rl S) (picture : ByteArray) (five : Bool) (h1 : ¬ PicSmall S → five = false) (h2 : PicSmall S → ∃ W n : Nat, (W : Int) = (boxF S).2.1 - (boxF S).1 + 1 ∧ ((n + 1 : Nat) : Int) = (boxF S).2.2.2 - (boxF S).2.2.1 + 1 ∧ picture = ofBytes (pcL (boxF S).1 W (boxF S).2.2.1 S.1 (n + 1)) ∧ five = true) :
    Ev (fun k => laws_FnPlainsMove_c_c_c_c k (more, (rl, S), bl (boxF S), picture, five)) (.inr more) := by
  have hsp := H.2.1
  obtain ⟨⟨⟨f1, f2⟩, f3, f4⟩, hb, ⟨x1, x2⟩, y1, y2⟩ := boxF_facts H
  unfold Far at f1 f2 f3 f4
  have ex : w64 ((boxF S).2.1 - (boxF S).1) = (boxF S).2.1 - (boxF S).1 := w64_of (by omega) (by omega)
  have ey : w64 ((boxF S).2.2.2 - (boxF S).2.2.1) = (boxF S).2.2.2 - (boxF S).2.2.1 := w64_of (by omega) (by omega)
  by_cases hx : (boxF S).2.1 - (boxF S).1 < 40
  rotate_left
  · have hf := h1 fun h => hx h.1
    subst hf
    have t1 : decide (w64 ((boxF S).2.1 - (boxF S).1) < 40) = false := by rw [ex]; exact decide_eq_false hx
    exact Ev.step (fun k => laws_FnPlainsMove_c_c_c_c.eq k more rl S.1 S.2.1 S.2.2.1 S.2.2.2 (bl (boxF S)) picture false) (Ev.yes rfl (Ev.yes rfl (Ev.no t1 (Ev.no rfl (Ev.no rfl (Ev.now _))))))
  have t1 : decide (w64 ((boxF S).2.1 - (boxF S).1) < 40) = true := by rw [ex]; exact decide_eq_true hx
  by_cases hy : (boxF S).2.2.2 - (boxF S).2.2.1 < 40
  rotate_left
  · have hf := h1 fun h => hy h.2
    subst hf
    have u1 : (!(false == decide (w64 ((boxF S).2.2.2 - (boxF S).2.2.1) < 40))) = false := by rw [ey, decide_eq_false hy]; rfl
    exact Ev.step (fun k => laws_FnPlainsMove_c_c_c_c.eq k more rl S.1 S.2.1 S.2.2.1 S.2.2.2 (bl (boxF S)) picture false) (Ev.yes rfl (Ev.yes rfl (Ev.yes t1 (Ev.yes rfl (Ev.yes rfl (Ev.no u1 (Ev.no rfl (Ev.now _))))))))
  obtain ⟨W, n, hW, hn, rfl, rfl⟩ := h2 ⟨hx, hy⟩
  have u1 : (!(true == decide (w64 ((boxF S).2.2.2 - (boxF S).2.2.1) < 40))) = false := by rw [ey, decide_eq_true hy]; rfl
  have hl := pcL_len (boxF S).1 W (boxF S).2.2.1 S.1 n
  have hl2 : (n + 1) * (W + 1) ≤ 40 * 41 := Nat.mul_le_mul (by omega) (by omega)
  have hl3 : (((n + 1) * (W + 1) : Nat) : Int) = ((W + 1 : Nat) : Int) * ((n + 1 : Nat) : Int) := by rw [Int.natCast_mul, Int.mul_comm]
  have ew : w64 (w64 ((boxF S).2.1 - (boxF S).1) + 2) = ((W + 1 : Nat) : Int) := by rw [ex, w64_of (by omega) (by omega)]; omega
  have eh : w64 (w64 ((boxF S).2.2.2 - (boxF S).2.2.1) + 1) = ((n + 1 : Nat) : Int) := by rw [ey, w64_of (by omega) (by omega)]; omega
  have c1 : (((ofBytes (pcL (boxF S).1 W (boxF S).2.2.1 S.1 (n + 1))).size : Int) != w64 (w64 (w64 (w64 ((boxF S).2.1 - (boxF S).1) + 2) * w64 (w64 ((boxF S).2.2.2 - (boxF S).2.2.1) + 1)) - 1)) = false := by
    rw [bne_eq_false_iff_eq, ew, eh, ofBytes_len, ← hl3, w64_of (n := (((n + 1) * (W + 1) : Nat) : Int)) (by omega) (by omega), w64_of (by omega) (by omega)]
    omega
  have dc := dCount_ev (ofBytes (pcL (boxF S).1 W (boxF S).2.2.1 S.1 (n + 1))) (pcL (boxF S).1 W (boxF S).2.2.1 S.1 (n + 1)) (by rw [ofBytes_len]; omega) (fun i hi => by
    rw [ofBytes_len] at hi
    obtain ⟨v, hv⟩ := nat_list hi
    rw [bt_of hv (pc_range H _ _ _ _ _ (List.mem_of_getElem? hv))]
    exact hv) (ofBytes_len _).symm
  rw [pic_count H hW hn] at dc
  have c2 : (w64 (((n + S.1.length : Nat) : Int) - w64 ((boxF S).2.2.2 - (boxF S).2.2.1)) != (S.1.length : Int)) = false := by
    rw [bne_eq_false_iff_eq, ey, w64_of (by omega) (by omega)]
    omega
  have lp := picSpots_ev more H hW hn (by omega) S.1.length 0 (by omega)
  rw [← ew] at lp
  exact Ev.step (fun k => laws_FnPlainsMove_c_c_c_c.eq k more rl S.1 S.2.1 S.2.2.1 S.2.2.2 (bl (boxF S)) _ true) (Ev.yes rfl (Ev.yes rfl (Ev.yes t1 (Ev.yes rfl (Ev.yes rfl (Ev.no u1 (Ev.yes rfl (Ev.yes rfl (Ev.yes rfl (Ev.yes rfl (Ev.yes rfl (Ev.no c1 (Ev.bind dc (Ev.yes rfl (Ev.yes rfl (Ev.no c2 (Ev.bind lp (Ev.now _))))))))))))))))))
/-! ### The symmetries -/
theorem four_ev (more : List Int) {rl : ByteArray} {S : PlS} (hrl : rl.size ≤ 1048576) (H : OkP rl S) (tu mi : Pl) (box : List Int) (picture : ByteArray) (five : Bool) : Ev (fun k => laws_FnPlainsMove_c_l k (more, (rl, S), tu, mi, box, picture, five, (rl, S), 0)) (.inr (more, (rl, S), tu, mi, box, picture, five, (rl, S))) := by
  obtain ⟨A, PA, HA, eA, _⟩ := turnP_ev rl S hrl H
  obtain ⟨B, PB, HB, eB, _⟩ := turnP_ev rl A hrl HA
  obtain ⟨C, PC, HC, eC, _⟩ := turnP_ev rl B hrl HB
  obtain ⟨D, PD, HD, eD, _⟩ := turnP_ev rl C hrl HC
  obtain rfl := turn_four H.2.2.2.2.2 H.2.2.2.1 PA PB PC PD
  have go : ∀ (X Y : PlS) (t : Int) r, 0 ≤ t ∧ t ≤ 3 → Ev (fun k => impl_TurnPlain k (rl, X)) ((rl, Y), true) → Ev (fun k => laws_FnPlainsMove_c_l k (more, (rl, D), tu, mi, box, picture, five, (rl, Y), t + 1)) r → Ev (fun k => laws_FnPlainsMove_c_l k (more, (rl, D), tu, mi, box, picture, five, (rl, X), t)) r := fun X Y t r ht hX hr => by
    refine Ev.step (fun k => laws_FnPlainsMove_c_l.eq k more rl D.1 D.2.1 D.2.2.1 D.2.2.2 tu.1 tu.2.1 tu.2.2.1 tu.2.2.2.1 tu.2.2.2.2 mi.1 mi.2.1 mi.2.2.1 mi.2.2.2.1 mi.2.2.2.2 box picture five rl X.1 X.2.1 X.2.2.1 X.2.2.2 t) (Ev.yes (decide_eq_true (by omega)) (Ev.bind hX (Ev.no rfl ?_)))
    rw [w64_of (n := t + 1) (by omega) (by omega)]
    exact hr
  exact go D A 0 _ (by omega) eA (go A B 1 _ (by omega) eB (go B C 2 _ (by omega) eC (go C D 3 _ (by omega) eD (Ev.step (fun k => laws_FnPlainsMove_c_l.eq k more rl D.1 D.2.1 D.2.2.1 D.2.2.2 tu.1 tu.2.1 tu.2.2.1 tu.2.2.2.1 tu.2.2.2.2 mi.1 mi.2.1 mi.2.2.1 mi.2.2.2.1 mi.2.2.2.2 box picture five rl D.1 D.2.1 D.2.2.1 D.2.2.2 4) (Ev.no rfl (Ev.now _))))))
theorem sym_ev (more : List Int) {rl : ByteArray} {S T M : PlS} (hrl : rl.size ≤ 1048576) (H : OkP rl S) (HT : OkP rl T) (HM : OkP (oth rl) M) (PT : PPic tnP S T) (PM : PPic miP S M) (picture : ByteArray) (five : Bool) (h1 : ¬ PicSmall S → five = false) (h2 : PicSmall S → ∃ W n : Nat, (W : Int) = (boxF S).2.1 - (boxF S).1 + 1 ∧ ((n + 1 : Nat) : Int) = (boxF S).2.2.2 - (boxF S).2.2.1 + 1 ∧ picture = ofBytes (pcL (boxF S).1 W (boxF S).2.2.1 S.1 (n + 1)) ∧ five = true) :
    Ev (fun k => laws_FnPlainsMove_c_c k (more, (rl, S), (rl, T), (oth rl, M), bl (boxF S), picture, five, (rl, S), (rl, S), true)) (.inr more) := by
  have hsp := H.2.1
  have hro : (oth rl).size ≤ 1048576 := by rw [oth_size]; exact hrl
  have dS := dPlain_ev (rl, S) (by show S.1.length ≤ _; omega)
  have lT := ppic_len PT
  have lM := ppic_len PM
  have bx := (boxF_facts H).2.1
  have lp := spots_ev more rl S (by omega) (boxF S) bx picture five S.1.length 0 (by omega)
  have pc := pics_ev more H picture five h1 h2
  have cT : ((T.1.length : Int) != (S.1.length : Int)) = false := by rw [bne_eq_false_iff_eq, lT]
  have cM : ((M.1.length : Int) != (S.1.length : Int)) = false := by rw [bne_eq_false_iff_eq, lM]
  obtain ⟨r1, r2⟩ := afterI_ev rl S hrl (by omega) H 7 (by omega)
  obtain ⟨s1, s2⟩ := afterI_ev rl T hrl (by have := HT.2.1; omega) HT 7 (by omega)
  obtain ⟨t1, t2⟩ := afterI_ev (oth rl) M hro (by have := HM.2.1; omega) HM 7 (by omega)
  obtain ⟨u1, u2⟩ := ppic_run tnP_ok rl 7 S T H PT
  obtain ⟨v1, v2⟩ := ppic_run miP_ok rl 7 S M H PM
  have go : ∀ (a b c d e : Pl × Bool) r, Ev (fun k => impl_PlainAfter k ((rl, S), 7)) a → Ev (fun k => impl_PlainAfter k ((rl, T), 7)) b → Ev (fun k => impl_PlainAfter k ((oth rl, M), 7)) c → Ev (fun k => impl_TurnPlain k a.1) d → Ev (fun k => impl_MirrorPlain k a.1) e →
      Ev (fun k => laws_FnPlainsMove_c_c_c k (more, (rl, S), bl (boxF S), picture, five, a.2, b.1, b.2, c.1, c.2, d.1, d.2, e.1, e.2)) (.inr r) → Ev (fun k => laws_FnPlainsMove_c_c k (more, (rl, S), (rl, T), (oth rl, M), bl (boxF S), picture, five, (rl, S), (rl, S), true)) (.inr r) := fun a b c d e r ha hb hc hd he hr =>
    Ev.step (fun k => laws_FnPlainsMove_c_c.eq k more rl S.1 S.2.1 S.2.2.1 S.2.2.2 rl T.1 T.2.1 T.2.2.1 T.2.2.2 (oth rl) M.1 M.2.1 M.2.2.1 M.2.2.2 (bl (boxF S)) picture five rl S.1 S.2.1 S.2.2.1 S.2.2.2 rl S.1 S.2.1 S.2.2.1 S.2.2.2 true) (Ev.bind dS (Ev.no rfl (Ev.no rfl (Ev.bind dS (Ev.no rfl (Ev.no cT (Ev.no cM (Ev.no rfl (Ev.bind ha (Ev.bind hb (Ev.bind hc (Ev.bind hd (Ev.bind he (Ev.bind hr (Ev.now _)))))))))))))))
  have last : ∀ (a b c d e : Pl × Bool), b.2 = a.2 → c.2 = a.2 → d.2 = a.2 → e.2 = a.2 → (a.2 = true → b.1 = d.1 ∧ c.1 = e.1 ∧ b.1.2.1.length ≤ 1048576 ∧ c.1.2.1.length ≤ 1048576) → Ev (fun k => laws_FnPlainsMove_c_c_c k (more, (rl, S), bl (boxF S), picture, five, a.2, b.1, b.2, c.1, c.2, d.1, d.2, e.1, e.2)) (.inr more) := fun a b c d e hb hc hd he hs => by
    rw [hb, hc, hd, he]
    have sb : (!(a.2 == a.2)) = false := by cases a.2 <;> rfl
    refine Ev.step (fun k => laws_FnPlainsMove_c_c_c.eq k more rl S.1 S.2.1 S.2.2.1 S.2.2.2 (bl (boxF S)) picture five a.2 b.1.1 b.1.2.1 b.1.2.2.1 b.1.2.2.2.1 b.1.2.2.2.2 a.2 c.1.1 c.1.2.1 c.1.2.2.1 c.1.2.2.2.1 c.1.2.2.2.2 a.2 d.1.1 d.1.2.1 d.1.2.2.1 d.1.2.2.2.1 d.1.2.2.2.2 a.2 e.1.1 e.1.2.1 e.1.2.2.1 e.1.2.2.2.1 e.1.2.2.2.2 a.2) (Ev.no sb (Ev.no sb (Ev.no sb (Ev.no sb ?_))))
    cases ha : a.2 with
    | false => exact Ev.no rfl (Ev.bind lp (Ev.bind pc (Ev.now _)))
    | true =>
      obtain ⟨e1, e2, l1, l2⟩ := hs ha
      rw [← e1, ← e2]
      exact Ev.yes rfl (Ev.bind (dPlain_ev b.1 l1) (Ev.no rfl (Ev.bind (dPlain_ev c.1 l2) (Ev.no rfl (Ev.bind lp (Ev.bind pc (Ev.now _)))))))
  cases hr : runF rl 7 S with
  | none =>
    have e1 := u2 hr
    have e2 := v2 hr
    have e1 : runF rl 7 T = none := e1
    have e2 : runF (oth rl) 7 M = none := e2
    obtain ⟨n1, _, n3, _⟩ := noTurn ByteArray.empty ([], 0, 0, 0) (by decide) (Nat.zero_le _) (zeroNo _)
    exact go (zeroP, false) (zeroP, false) (zeroP, false) (zeroP, false) (zeroP, false) more (r2 hr) (s2 e1) (t2 e2) n1 n3 (last _ _ _ _ _ rfl rfl rfl rfl fun h => Bool.noConfusion h)
  | some q =>
    obtain ⟨l, A⟩ := q
    obtain ⟨l1, B, e1, PB⟩ := u1 l A hr
    obtain ⟨l2, C, e2, PC⟩ := v1 l A hr
    have e1 : runF rl 7 T = some (l1, B) := e1
    have e2 : runF (oth rl) 7 M = some (l2, C) := e2
    have HA := (run_facts rl 7 S l A H hr).1
    have HB := (run_facts rl 7 T l1 B HT e1).1
    have HC := (run_facts (oth rl) 7 M l2 C HM e2).1
    obtain ⟨D, PD, HD, dI, _⟩ := turnP_ev rl A hrl HA
    obtain ⟨E, PE, HE, eI, _⟩ := mirrorP_ev rl A hrl HA
    obtain rfl := ppic_unique PB PD
    obtain rfl := ppic_unique PC PE
    exact go ((rl, A), true) ((rl, B), true) ((oth rl, C), true) ((rl, B), true) ((oth rl, C), true) more (r1 l A hr) (s1 l1 B e1) (t1 l2 C e2) dI eI (last _ _ _ _ _ rfl rfl rfl rfl fun _ => ⟨rfl, rfl, by show B.1.length ≤ _; have := HB.2.1; omega, by show C.1.length ≤ _; have := HC.2.1; omega⟩)
/-! ### The law's end -/
theorem end5 (W : Wo) (hr : W.1.size ≤ 1048576) (hc : W.2.2.2.1.size ≤ 1048576) (l : Pl × Bool) (h1 : OkO W → l = (laidP W, true)) (h2 : ¬ OkO W → l = (zeroP, false)) : Ev (fun k => laws_FnPlainsMove_c_c_2_c_c_c_c k (W, l.1, l.2)) true := by
  by_cases H : OkO W
  rotate_left
  · rw [h2 H]
    exact Ev.step (fun k => laws_FnPlainsMove_c_c_2_c_c_c_c.eq k W.1 W.2.1 W.2.2.1 W.2.2.2.1 W.2.2.2.2.1 W.2.2.2.2.2.1 W.2.2.2.2.2.2 ByteArray.empty [] 0 0 0 false) (Ev.no rfl (Ev.bind (Ev.step (fun k => laws_FnPlainsMove_c_c_2_c_c_c_c_c.eq k W.1 W.2.1 W.2.2.1 W.2.2.2.1 W.2.2.2.2.1 W.2.2.2.2.2.1 W.2.2.2.2.2.2 ByteArray.empty [] 0 0 0 false) (Ev.no rfl (Ev.now _))) (Ev.now _)))
  rw [h1 H]
  have dc := laidCount_ev W.2.1 W.2.2.2.1 hc
  have hw := H.2.1
  have hh := H.2.2.1
  have hx := H.2.2.2.2.2.1
  have hy := H.2.2.2.2.2.2.1
  have ew : w64 (W.2.1 - 1) = W.2.1 - 1 := w64_of (by omega) (by omega)
  have eh : w64 (W.2.2.1 - 1) = W.2.2.1 - 1 := w64_of (by omega) (by omega)
  have inner : Ev (fun k => laws_FnPlainsMove_c_c_2_c_c_c_c_c k (W, laidP W, true)) true := by
    refine Ev.step (fun k => laws_FnPlainsMove_c_c_2_c_c_c_c_c.eq k W.1 W.2.1 W.2.2.1 W.2.2.2.1 W.2.2.2.2.1 W.2.2.2.2.2.1 W.2.2.2.2.2.2 W.1 (plSp W.2.1 W.2.2.2.1) W.2.2.2.2.1 W.2.2.2.2.2.1 W.2.2.2.2.2.2 true) (Ev.yes rfl ?_)
    rw [ew, eh]
    by_cases x0 : W.2.2.2.2.1 > 0
    rotate_left
    · exact Ev.no (decide_eq_false x0) (Ev.now _)
    refine Ev.yes (decide_eq_true x0) ?_
    by_cases x1 : W.2.2.2.2.1 < W.2.1 - 1
    rotate_left
    · exact Ev.no (decide_eq_false x1) (Ev.now _)
    refine Ev.yes (decide_eq_true x1) ?_
    by_cases y0 : W.2.2.2.2.2.1 > 0
    rotate_left
    · exact Ev.no (decide_eq_false y0) (Ev.now _)
    refine Ev.yes (decide_eq_true y0) ?_
    by_cases y1 : W.2.2.2.2.2.1 < W.2.2.1 - 1
    rotate_left
    · exact Ev.no (decide_eq_false y1) (Ev.now _)
    refine Ev.yes (decide_eq_true y1) ?_
    have H' := okO_step W H
    have hz := okO_size H'
    obtain ⟨r, e3, _, v3, _⟩ := laid_both (stepO W) (by omega) (by omega)
    rw [v3 H'] at e3
    have eS := laid_step H ⟨x0, x1⟩ ⟨y0, y1⟩
    have e1' : (stepO W).1 = W.1 := rfl
    have K' := laid_ok H'
    have K := laid_ok H
    rw [e1', ← eS] at K'
    have lz := plP_len W.2.1 W.2.2.2.1 W.2.2.2.1.size
    have q2 := stepPI_ev W.1 (laidP W).2 hr (by show (plSp W.2.1 W.2.2.2.1).length ≤ _; unfold plSp; omega) K K'
    rw [eS] at q2
    have lz' := plP_len (stepO W).2.1 (stepO W).2.2.2.1 (stepO W).2.2.2.1.size
    exact Ev.bind (stepWI_ev W hr hc H) (Ev.bind q2 (Ev.bind e3 (Ev.no rfl (Ev.no rfl (Ev.no rfl (Ev.bind (dPlain_ev (laidP (stepO W)) (by show (plSp (stepO W).2.1 (stepO W).2.2.2.1).length ≤ _; unfold plSp; omega)) (Ev.no rfl (Ev.now _))))))))
  exact Ev.step (fun k => laws_FnPlainsMove_c_c_2_c_c_c_c.eq k W.1 W.2.1 W.2.2.1 W.2.2.2.1 W.2.2.2.2.1 W.2.2.2.2.2.1 W.2.2.2.2.2.2 W.1 (plSp W.2.1 W.2.2.2.1) W.2.2.2.2.1 W.2.2.2.2.2.1 W.2.2.2.2.2.2 true) (Ev.yes rfl (Ev.bind dc (Ev.no (neq_self _) (Ev.no (neq_self _) (Ev.no (neq_self _) (Ev.no (neq_self _) (Ev.bind inner (Ev.now _))))))))
theorem end4 (p : Pl) (hrl : p.1.size ≤ 1048576) (hsp : p.2.1.length ≤ 1048576) (u v c : Int) (n : Pl × Bool) (hn : n.2 = true → PaintArg p.1 p.2 u v c ∧ n.1 = (p.1, paintF u v c p.2.1, p.2.2) ∧ OkP p.1 (paintF u v c p.2.1, p.2.2)) (e : Int × Bool) (he : OkP p.1 p.2 ∧ (Far u ∧ Far v) → e = (colF u v p.2.1, true)) (W : Wo) (l : Pl × Bool) (h5 : Ev (fun k => laws_FnPlainsMove_c_c_2_c_c_c_c k (W, l.1, l.2)) true) :
    Ev (fun k => laws_FnPlainsMove_c_c_2_c_c_c k (p, u, v, c, n.1, n.2, e.1, e.2, W, l.1, l.2)) true := by
  refine Ev.step (fun k => laws_FnPlainsMove_c_c_2_c_c_c.eq k p.1 p.2.1 p.2.2.1 p.2.2.2.1 p.2.2.2.2 u v c n.1.1 n.1.2.1 n.1.2.2.1 n.1.2.2.2.1 n.1.2.2.2.2 n.2 e.1 e.2 W.1 W.2.1 W.2.2.1 W.2.2.2.1 W.2.2.2.2.1 W.2.2.2.2.2.1 W.2.2.2.2.2.2 l.1.1 l.1.2.1 l.1.2.2.1 l.1.2.2.2.1 l.1.2.2.2.2 l.2) ?_
  cases hb : n.2 with
  | false => exact Ev.no rfl (Ev.bind h5 (Ev.now _))
  | true =>
    obtain ⟨⟨⟨H, hq⟩, hc⟩, en, G⟩ := hn hb
    have he := he ⟨H, hq⟩
    have hS := H.2.2.2.2
    have hR1 := H.1.1
    have hcr := col_range (x := u) (y := v) (show (1 : Int) ≤ (p.1.size : Int) by omega) hS
    obtain ⟨r1, a1, _, v1, _⟩ := colour_both p.1 (paintF u v c p.2.1, p.2.2) hrl (by have := G.2.1; simp only at this ⊢; omega) u v
    rw [v1 ⟨G, hq⟩] at a1
    have e1 : colF u v (paintF u v c p.2.1) = c := col_paint u v c hc.1 p.2.1
    simp only at a1
    rw [e1] at a1
    have e2 : paintF u v (colF u v p.2.1) (paintF u v c p.2.1) = p.2.1 := by rw [paint_paint, paint_same hS]
    obtain ⟨r2, a2, _, _, v2, _⟩ := paint_both p.1 (paintF u v c p.2.1, p.2.2) hrl (by have := G.2.1; simp only at this ⊢; omega) u v (colF u v p.2.1)
    simp only at v2
    rw [e2] at v2
    rw [v2 ⟨⟨G, hq⟩, hcr⟩ H] at a2
    rw [en, he]
    exact Ev.yes rfl (Ev.bind a1 (Ev.bind a2 (Ev.no rfl (Ev.no rfl (Ev.no (neq_self _) (Ev.no rfl (Ev.bind (dPlain_ev p hsp) (Ev.no rfl (Ev.bind h5 (Ev.now _))))))))))
theorem end3 (q : Pl) (hrl : q.1.size ≤ 1048576) (hsp : q.2.1.length ≤ 1048576) (x y : Int) (m : Pl × Bool) (hm : m.2 = true → ∃ T, m.1 = (q.1, T) ∧ OkP q.1 q.2 ∧ OkP q.1 T ∧ (Far x ∧ Far y) ∧ PPic (mvP x y) q.2 T) (p : Pl) (u v c : Int) (n : Pl × Bool) (e : Int × Bool) (W : Wo) (l : Pl × Bool) (h4 : Ev (fun k => laws_FnPlainsMove_c_c_2_c_c_c k (p, u, v, c, n.1, n.2, e.1, e.2, W, l.1, l.2)) true) :
    Ev (fun k => laws_FnPlainsMove_c_c_2_c_c k (q, x, y, m.1, m.2, p, u, v, c, n.1, n.2, e.1, e.2, W, l.1, l.2)) true := by
  refine Ev.step (fun k => laws_FnPlainsMove_c_c_2_c_c.eq k q.1 q.2.1 q.2.2.1 q.2.2.2.1 q.2.2.2.2 x y m.1.1 m.1.2.1 m.1.2.2.1 m.1.2.2.2.1 m.1.2.2.2.2 m.2 p.1 p.2.1 p.2.2.1 p.2.2.2.1 p.2.2.2.2 u v c n.1.1 n.1.2.1 n.1.2.2.1 n.1.2.2.2.1 n.1.2.2.2.2 n.2 e.1 e.2 W.1 W.2.1 W.2.2.1 W.2.2.2.1 W.2.2.2.2.1 W.2.2.2.2.2.1 W.2.2.2.2.2.2 l.1.1 l.1.2.1 l.1.2.2.1 l.1.2.2.2.1 l.1.2.2.2.2 l.2) ?_
  cases hb : m.2 with
  | false => exact Ev.no rfl (Ev.bind h4 (Ev.now _))
  | true =>
    obtain ⟨T, em, H, G, ⟨hx, hy⟩, PT⟩ := hm hb
    have fx : Far (-x) := by unfold Far at hx ⊢; omega
    have fy : Far (-y) := by unfold Far at hy ⊢; omega
    have ex : w64 (0 - x) = -x := by unfold Far at hx; rw [w64_of (by omega) (by omega), Int.zero_sub]
    have ey : w64 (0 - y) = -y := by unfold Far at hy; rw [w64_of (by omega) (by omega), Int.zero_sub]
    obtain ⟨U, PU, g1, _⟩ := moveP_ev q.1 T hrl G fx fy
    obtain rfl := move_two H.2.2.2.2.2 PT PU
    have a1 := (g1 H).1
    rw [em, ex, ey]
    exact Ev.yes rfl (Ev.bind a1 (Ev.no rfl (Ev.bind (dPlain_ev _ hsp) (Ev.no rfl (Ev.bind h4 (Ev.now _))))))
theorem rest (more : List Int) (hm : ∀ x ∈ more, 0 ≤ x ∧ x ≤ 255) : Ev (fun k => laws_FnPlainsMove_c_c_2 k more) true := by
  obtain ⟨q, x, y, d1, z1, z2⟩ := drawMoveP_ev more hm
  obtain ⟨m, m1, m2, m3, m4⟩ := move_both q.1 q.2 (by omega) (by omega) x y
  obtain ⟨p, u, v, c, d2, z3, z4⟩ := drawPaint_ev more hm
  obtain ⟨n, n1, n2, n3, _, n5⟩ := paint_both p.1 p.2 (by omega) (by omega) u v c
  obtain ⟨e, e1, e2, e3, _⟩ := colour_both p.1 p.2 (by omega) (by omega) u v
  obtain ⟨W, d3, z5, z6⟩ := drawLaid_ev more hm
  obtain ⟨l, l1, l2, l3, l4⟩ := laid_both W (by omega) (by omega)
  obtain ⟨rl, d4, z7⟩ := drawFirst_ev more hm
  obtain ⟨b, f1, f2, f3⟩ := first_both rl (by omega)
  have h5 := end5 W (by omega) (by omega) l l3 l4
  have h4 := end4 p (by omega) (by omega) u v c n n3 e e3 W l h5
  have h3 := end3 q (by omega) (by omega) x y m m3 p u v c n e W l h4
  have dm := dPlain_ev m.1 (by omega)
  have dn := dPlain_ev n.1 (by omega)
  have hll : l.1.2.1.length ≤ 1048576 := by
    by_cases H : OkO W
    · rw [l3 H]
      have := plP_len W.2.1 W.2.2.2.1 W.2.2.2.1.size
      show (plSp W.2.1 W.2.2.2.1).length ≤ _
      unfold plSp
      omega
    · rw [l4 H]
      exact Nat.zero_le _
  have dl := dPlain_ev l.1 hll
  have df := dPlain_ev (if b then (rl, [], 0, 0, 0) else zeroP) (by cases b <;> exact Nat.zero_le _)
  have wI : Ev (fun k => impl_IsWorld k W) l.2 := by
    have a := isW_ev W (by omega) (by omega)
    by_cases H : OkO W
    · rw [l3 H]
      exact a.isT H
    · rw [l4 H]
      exact a.isF H
  have sb : ∀ b : Bool, (!(b == b)) = false := fun b => by cases b <;> rfl
  generalize (if b then ((rl, [], 0, 0, 0) : Pl) else zeroP) = F at *
  refine Ev.step (fun k => laws_FnPlainsMove_c_c_2.eq k more) (Ev.bind d1 (Ev.bind m1 (Ev.bind m2 (Ev.bind d2 (Ev.bind n1 (Ev.bind n2 (Ev.bind e1 (Ev.bind e2 (Ev.bind d3 (Ev.bind l1 (Ev.bind l2 (Ev.bind d4 (Ev.bind f1 (Ev.bind f2 (Ev.bind (Ev.step (fun k => laws_FnPlainsMove_c_c_2_c.eq k q.1 q.2.1 q.2.2.1 q.2.2.2.1 q.2.2.2.2 x y m.1.1 m.1.2.1 m.1.2.2.1 m.1.2.2.2.1 m.1.2.2.2.2 m.2 m.1.1 m.1.2.1 m.1.2.2.1 m.1.2.2.2.1 m.1.2.2.2.2 m.2 p.1 p.2.1 p.2.2.1 p.2.2.2.1 p.2.2.2.2 u v c n.1.1 n.1.2.1 n.1.2.2.1 n.1.2.2.2.1 n.1.2.2.2.2 n.2 n.1.1 n.1.2.1 n.1.2.2.1 n.1.2.2.2.1 n.1.2.2.2.2 n.2 e.1 e.2 e.1 e.2 W.1 W.2.1 W.2.2.1 W.2.2.2.1 W.2.2.2.2.1 W.2.2.2.2.2.1 W.2.2.2.2.2.2 l.1.1 l.1.2.1 l.1.2.2.1 l.1.2.2.2.1 l.1.2.2.2.2 l.2 l.1.1 l.1.2.1 l.1.2.2.1 l.1.2.2.2.1 l.1.2.2.2.2 l.2 rl F.1 F.2.1 F.2.2.1 F.2.2.2.1 F.2.2.2.2 b F.1 F.2.1 F.2.2.1 F.2.2.2.1 F.2.2.2.2 b) ?_) (Ev.now _))))))))))))))))
  exact Ev.no (sb _) (Ev.bind dm (Ev.no rfl (Ev.no (sb _) (Ev.bind dn (Ev.no rfl (Ev.no (sb _) (Ev.no (neq_self _) (Ev.no (sb _) (Ev.bind dl (Ev.no rfl (Ev.no (sb _) (Ev.bind df (Ev.no rfl (Ev.bind f3 (Ev.no (sb _) (Ev.bind wI (Ev.no (sb _) (Ev.bind h3 (Ev.now _)))))))))))))))))))
theorem main (code more : List Int) (h1 : code.length ≤ 9223372036854775807) (h2 : more.length ≤ 9223372036854775807) (hc : ∀ x ∈ code, 0 ≤ x ∧ x ≤ 255) (hm : ∀ x ∈ more, 0 ≤ x ∧ x ≤ 255) : ∃ k, laws_FnPlainsMove k (code, more) = some true := by
  obtain ⟨b, eb, _⟩ := big_ev code more h1 h2
  refine Ev.rounds (Ev.step (fun k => laws_FnPlainsMove.eq k code more) (Ev.bind eb (Ev.cond (fun _ => Ev.now _) fun _ => ?_)))
  have tl := rest more hm
  obtain ⟨⟨rl, S⟩, d, z1, z2⟩ := drawTurnP_ev code hc
  have z1 : rl.size ≤ 10 := z1
  have z2 : S.1.length ≤ 400 := z2
  have hrl : rl.size ≤ 1048576 := by omega
  have hsp : S.1.length ≤ 1048576 := by omega
  have aI := isPl_ev rl S hrl hsp
  obtain ⟨bx, b1, b2, b3, b4⟩ := box_both rl S hrl hsp
  obtain ⟨pc, p1, p2, p3, p4⟩ := picture_both rl S hrl hsp
  have sS : ∀ s : ByteArray, (!(strEq s s)) = false := fun s => by rw [strEq_self]; rfl
  by_cases H : OkP rl S
  rotate_left
  · obtain ⟨t1, t2, t3, t4⟩ := noTurn rl S hrl hsp H
    have b4 := b4 H
    have p3 := p3 fun h => H h.1
    subst b4 p3
    have dz := dPlain_ev zeroP (Nat.zero_le _)
    exact Ev.bind d (Ev.bind t1 (Ev.bind t2 (Ev.bind t3 (Ev.bind t4 (Ev.bind b1 (Ev.bind b2 (Ev.bind p1 (Ev.bind p2 (Ev.no rfl (Ev.bind dz (Ev.no rfl (Ev.no rfl (Ev.bind dz (Ev.no rfl (Ev.no rfl (Ev.bind (dSame_ev [] (by simp)) (Ev.no rfl (Ev.no rfl (Ev.no (sS _) (Ev.bind (aI.isF H) (Ev.no rfl (Ev.no rfl (Ev.no rfl (Ev.no rfl
      (Ev.bind (Ev.step (fun k => laws_FnPlainsMove_c.eq k more rl S.1 S.2.1 S.2.2.1 S.2.2.2 _ _ _ _ _ _ _ _ _ _ _ _ _ _) (Ev.no rfl (Ev.bind tl (Ev.now _)))) (Ev.now _))))))))))))))))))))))))))
  obtain ⟨T, PT, HT, t1, t2⟩ := turnP_ev rl S hrl H
  obtain ⟨M, PM, HM, t3, t4⟩ := mirrorP_ev rl S hrl H
  have hro : (oth rl).size ≤ 1048576 := by rw [oth_size]; exact hrl
  obtain ⟨M2, PM2, HM2, t5, _⟩ := mirrorP_ev (oth rl) M hro HM
  obtain rfl := mirror_two H.2.2.2.2.2 H.2.2.2.1 PM PM2
  rw [oth_oth] at t5
  have b3 := b3 H
  subst b3
  have dT := dPlain_ev (rl, T) (by show T.1.length ≤ _; have := HT.2.1; omega)
  have dM := dPlain_ev (oth rl, M) (by show M.1.length ≤ _; have := HM.2.1; omega)
  have dB := dSame_ev (bl (boxF M2)) (by show 4 ≤ _; omega)
  obtain ⟨pict, five⟩ := pc
  have five1 : ¬ PicSmall M2 → five = false := fun h => congrArg Prod.snd (p3 fun q => h q.2)
  have five2 : PicSmall M2 → ∃ W n : Nat, (W : Int) = (boxF M2).2.1 - (boxF M2).1 + 1 ∧ ((n + 1 : Nat) : Int) = (boxF M2).2.2.2 - (boxF M2).2.2.1 + 1 ∧ pict = ofBytes (pcL (boxF M2).1 W (boxF M2).2.2.1 M2.1 (n + 1)) ∧ five = true := fun h => by
    obtain ⟨W, n, q1, q2, q3⟩ := p4 H h
    exact ⟨W, n, q1, q2, congrArg Prod.fst q3, congrArg Prod.snd q3⟩
  have four := four_ev more hrl H (rl, T) (oth rl, M) (bl (boxF M2)) pict five
  have sym := sym_ev more hrl H HT HM PT PM pict five five1 five2
  have C : Ev (fun k => laws_FnPlainsMove_c k (more, (rl, M2), (rl, T), true, (oth rl, M), bl (boxF M2), pict, five)) true :=
    Ev.step (fun k => laws_FnPlainsMove_c.eq k more rl M2.1 M2.2.1 M2.2.2.1 M2.2.2.2 rl T.1 T.2.1 T.2.2.1 T.2.2.2 true (oth rl) M.1 M.2.1 M.2.2.1 M.2.2.2 (bl (boxF M2)) pict five) (Ev.yes rfl (Ev.bind four (Ev.bind t5 (Ev.bind sym (Ev.bind tl (Ev.now _))))))
  have fin : Ev (fun k => cond five (cond (!true) (some false) ((laws_FnPlainsMove_c k (more, (rl, M2), (rl, T), true, (oth rl, M), bl (boxF M2), pict, five)).bind fun r15 => some r15)) ((laws_FnPlainsMove_c k (more, (rl, M2), (rl, T), true, (oth rl, M), bl (boxF M2), pict, five)).bind fun r16 => some r16)) true := by
    cases five with
    | true => exact Ev.yes rfl (Ev.no rfl (Ev.bind C (Ev.now _)))
    | false => exact Ev.no rfl (Ev.bind C (Ev.now _))
  have s5 : (!(five == five)) = false := by cases five <;> rfl
  exact Ev.bind d (Ev.bind t1 (Ev.bind t2 (Ev.bind t3 (Ev.bind t4 (Ev.bind b1 (Ev.bind b2 (Ev.bind p1 (Ev.bind p2 (Ev.no rfl (Ev.bind dT (Ev.no rfl (Ev.no rfl (Ev.bind dM (Ev.no rfl (Ev.no rfl (Ev.bind dB (Ev.no rfl (Ev.no s5 (Ev.no (sS _) (Ev.bind (aI.isT H) (Ev.no rfl (Ev.no rfl (Ev.no rfl fin)))))))))))))))))))))))
theorem pure : ∀ d : Dl laws_FnPlainsMove.ins, goodL laws_FnPlainsMove.ins d → ∃ k, laws_FnPlainsMove k d = some true := by
  rintro ⟨code, more⟩ ⟨hg1, hg2⟩
  exact main code more hg1.1 hg2.1 (fun x hx => good8 (hg1.2 x hx)) (fun x hx => good8 (hg2.2 x hx))
end Go.Proofs.YtblgfbkifhfjpaaGreatDoor.fnPlainsMove
