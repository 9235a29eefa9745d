/- The plain law FnExactPaintedAfter. -/
import Derived.Test.YtdgfpdbfcpbgfaaOk
import Derived.Test.YtdgfpdbfcpbgfaaPuScene4
namespace Go.Proofs.Ytdgfpdbfcpbgfaa.fnExactPaintedAfter
open Go Go.Proofs Go.Proofs.YtdgfpdbfcpbgfaaS
set_option linter.unusedVariables false
/-- How many bytes are not '0', counted one by one. -/
theorem count_ev (st ti : Int) (rs : List Rw) (w h : Int) (cs : ByteArray) (x y wy sa : Int) (hc : cs.size ≤ 1048576) : ∀ (m i : Nat) (n : Int), i + m = cs.size → 0 ≤ n → n ≤ i →
    Ev (fun k => spec_PaintedAfter_l k ((st, ti, rs, w, h, cs, x, y, wy, sa), n, (i : Int))) (n + (((cs.data.toList.drop i).length : Int) - ((cs.data.toList.drop i).count 48 : Int)))
  | 0, i, n, hi, h0, h1 => Ev.step (fun k => spec_PaintedAfter_l.eq k st ti rs w h cs x y wy sa n (i : Int)) (Ev.no (not_lt_nat (by omega)) (Ev.now' (by
      rw [List.drop_of_length_le (by rw [← size_list]; omega)]
      simp)))
  | m + 1, i, n, hi, h0, h1 => by
    obtain ⟨c, hx⟩ := nat_list (l := cs.data.toList) (i := i) (by rw [← size_list]; omega)
    have hlt : i < cs.data.toList.length := (List.getElem?_eq_some_iff.1 hx).1
    have hd : cs.data.toList.drop i = c :: cs.data.toList.drop (i + 1) := by
      rw [List.drop_eq_getElem_cons hlt, (List.getElem?_eq_some_iff.1 hx).2]
    have e : w64 (n + 1) = n + 1 := w64_of (by omega) (by omega)
    refine Ev.step (fun k => spec_PaintedAfter_l.eq k st ti rs w h cs x y wy sa n (i : Int)) (Ev.yes (lt_nat (by omega)) (Ev.yes (inB_nat (by omega)) ?_))
    rw [Int.toNat_natCast, bt_at hx, w64_succ (by omega), e, hd]
    by_cases h48 : c = 48
    · subst h48
      refine Ev.no rfl ?_
      have := count_ev st ti rs w h cs x y wy sa hc m (i + 1) n (by omega) h0 (by omega)
      rw [List.count_cons_self, List.length_cons]
      rw [show ((((cs.data.toList.drop (i + 1)).length + 1 : Nat) : Int) - (((cs.data.toList.drop (i + 1)).count 48 + 1 : Nat) : Int)) = ((cs.data.toList.drop (i + 1)).length : Int) - ((cs.data.toList.drop (i + 1)).count 48 : Int) by omega]
      exact this
    · have hb : (((c.toNat : Int)) != 48) = true := by
        rw [bne_iff_ne]
        intro e
        apply h48
        apply UInt8.toNat_inj.1
        show c.toNat = 48
        omega
      refine Ev.yes hb ?_
      have := count_ev st ti rs w h cs x y wy sa hc m (i + 1) (n + 1) (by omega) (by omega) (by omega)
      rw [List.count_cons_of_ne h48, List.length_cons]
      rw [show n + ((((cs.data.toList.drop (i + 1)).length + 1 : Nat) : Int) - ((cs.data.toList.drop (i + 1)).count 48 : Int)) = n + 1 + (((cs.data.toList.drop (i + 1)).length : Int) - ((cs.data.toList.drop (i + 1)).count 48 : Int)) by omega]
      exact this
theorem main (st ti : Int) (rs : List Rw) (w h : Int) (cs : ByteArray) (x y wy sa : Int) (steps : Int) (hl : rs.length ≤ 9223372036854775807) (hr : ∀ x ∈ rs, x.2.1.size ≤ 9223372036854775807) (hc : cs.size ≤ 9223372036854775807) : ∃ k, laws_FnExactPaintedAfter k ((st, ti, rs, w, h, cs, x, y, wy, sa), steps) = some true := by
  refine Ev.rounds (Ev.step (fun k => laws_FnExactPaintedAfter.eq k st ti rs w h cs x y wy sa steps) ?_)
  obtain ⟨r, h1, h2⟩ := szScene_ev st ti rs w h cs x y wy sa hr hl hc
  refine Ev.bind h1 (Ev.cond (fun _ => Ev.now _) fun hn => ?_)
  have hl2 : rs.length ≤ 1048576 := by
    rcases h2 with h2 | h2
    · exact absurd h2 (of_decide_eq_false hn)
    · exact h2
  have hto := toScene_ev st ti rs w h cs x y wy sa hl2
  obtain ⟨st', ti', rs', w', h', cs', x', y', wy', sa', ok, hsp, him, hl', hz, hsz⟩ := sceneAfter_ev st ti rs w h cs x y wy sa hl2 hc steps
  have he0 := eqScene_ev st ti rs w h cs x y wy sa hl2
  have hcnt : strCount1 cs' (bs [48]) = some (cs'.data.toList.count 48 : Int) := rfl
  have hle := List.count_le_length (a := (48 : UInt8)) (l := cs'.data.toList)
  have hsl := size_list cs'
  have hspec : Ev (fun k => spec_PaintedAfter k ((st, ti, rs, w, h, cs, x, y, wy, sa), steps)) ((cs'.size : Int) - (cs'.data.toList.count 48 : Int), ok) := by
    refine Ev.step (fun k => spec_PaintedAfter.eq k st ti rs w h cs x y wy sa steps) (Ev.bind hsp ?_)
    cases ok with
    | false =>
      obtain rfl := hz rfl
      exact Ev.yes rfl (Ev.now' rfl)
    | true =>
      have := count_ev st' ti' rs' w' h' cs' x' y' wy' sa' hsz cs'.size 0 0 (by omega) (by omega) (by omega)
      rw [List.drop_zero, ← hsl, Int.zero_add] at this
      exact Ev.no rfl (Ev.bind this (Ev.now _))
  have himpl : Ev (fun k => impl_PaintedAfter k ((st, ti, rs, w, h, cs, x, y, wy, sa), steps)) ((cs'.size : Int) - (cs'.data.toList.count 48 : Int), ok) := by
    refine Ev.step (fun k => impl_PaintedAfter.eq k st ti rs w h cs x y wy sa steps) (Ev.bind him (Ev.bind (a := (cs'.data.toList.count 48 : Int)) (Ev.step (fun k => strings_Count.eq k (cs', bs [48])) (by rw [show ((fun d : ByteArray × ByteArray => strCount1 d.1 d.2) (cs', bs [48])) = some (cs'.data.toList.count 48 : Int) from hcnt]; exact Ev.now _)) (Ev.now' ?_)))
    show (w64 ((cs'.size : Int) - _), ok) = _
    rw [w64_of (by omega) (by omega)]
  have ok1 : (!(ok == ok)) = false := by cases ok <;> rfl
  exact Ev.bind hto (Ev.bind hspec (Ev.bind hto (Ev.bind himpl (Ev.no (neq_self _) (Ev.no ok1 (Ev.bind hto (Ev.bind he0 (Ev.no rfl (Ev.now _)))))))))
theorem pure : ∀ d : Dl laws_FnExactPaintedAfter.ins, goodL laws_FnExactPaintedAfter.ins d → ∃ k, laws_FnExactPaintedAfter k d = some true := by
  rintro ⟨⟨st, ti, rs, w, h, cs, x, y, wy, sa⟩, steps⟩ hg
  exact main st ti rs w h cs x y wy sa steps hg.1.2.2.1.1 (fun x hx => (hg.1.2.2.1.2 x hx).2.1) hg.1.2.2.2.2.2.1
end Go.Proofs.Ytdgfpdbfcpbgfaa.fnExactPaintedAfter
