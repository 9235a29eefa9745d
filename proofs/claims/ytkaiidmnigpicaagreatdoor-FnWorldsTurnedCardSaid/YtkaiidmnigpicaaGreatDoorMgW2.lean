/- Several texts in one: PuWText, PuWTurn, PuWEnd, PuWCell. -/
import Derived.Test.YtkaiidmnigpicaaGreatDoorMgW1
import Derived.Test.YtkaiidmnigpicaaGreatDoorSimRp
namespace Go.Proofs.YtkaiidmnigpicaaGreatDoorS
open Go
set_option linter.unusedVariables false
set_option linter.unusedSimpArgs false

def worT (rl : ByteArray) (a b : Nat) (cs : ByteArray) (x y wy : Nat) : ByteArray :=
  rl ++ bs [58] ++ decS a ++ bs [120] ++ decS b ++ bs [58] ++ cs ++ bs [58] ++ decS x ++ bs [44] ++ decS y ++ bs [44] ++ decS wy
structure WParts (s rl : ByteArray) (a b : Nat) (cs : ByteArray) (x y wy : Nat) : Prop where
  all : ∃ p q, splitS 58 s = [rl, p, cs, q] ∧ splitS 120 p = [decS a, decS b] ∧ splitS 44 q = [decS x, decS y, decS wy]
  ok : WorldOk rl a b cs x y wy
theorem wtext_eq (s rl : ByteArray) (a b : Nat) (cs : ByteArray) (x y wy : Nat) (h : WParts s rl a b cs x y wy) : s = worT rl a b cs x y wy := by
  obtain ⟨p, q, h1, h2, h3⟩ := h.all
  have e1 := splitS_join 58 s
  have e2 := splitS_join 120 p
  have e3 := splitS_join 44 q
  rw [h1] at e1
  rw [h2] at e2
  rw [h3] at e3
  rw [← e1, ← e2, ← e3]
  unfold worT
  apply ba_ext
  simp only [joinB, mkS_list, append_list, List.map_cons, List.map_nil, Lib.join_cons, Lib.joinTail, decS_list]
  simp [bs]
theorem joinB_two (a b : Nat) (c : UInt8) : decS a ++ bs [c] ++ decS b = joinB [decS a, decS b] (bs [c]) := by
  apply ba_ext
  simp only [joinB, mkS_list, append_list, List.map_cons, List.map_nil, Lib.join_cons, Lib.joinTail, decS_list]
  simp [bs]
theorem joinB_three (a b d : Nat) (c : UInt8) : decS a ++ bs [c] ++ decS b ++ bs [c] ++ decS d = joinB [decS a, decS b, decS d] (bs [c]) := by
  apply ba_ext
  simp only [joinB, mkS_list, append_list, List.map_cons, List.map_nil, Lib.join_cons, Lib.joinTail, decS_list]
  simp [bs]
theorem worT_join (rl : ByteArray) (a b : Nat) (cs : ByteArray) (x y wy : Nat) : worT rl a b cs x y wy = joinB [rl, joinB [decS a, decS b] (bs [120]), cs, joinB [decS x, decS y, decS wy] (bs [44])] (bs [58]) := by
  unfold worT
  apply ba_ext
  simp only [joinB, mkS_list, append_list, List.map_cons, List.map_nil, Lib.join_cons, Lib.joinTail, decS_list]
  simp [bs]
theorem text_wparts (rl : ByteArray) (a b : Nat) (cs : ByteArray) (x y wy : Nat) (H : WorldOk rl a b cs x y wy) : WParts (worT rl a b cs x y wy) rl a b cs x y wy := by
  refine ⟨⟨joinB [decS a, decS b] (bs [120]), joinB [decS x, decS y, decS wy] (bs [44]), ?_, ?_, ?_⟩, H⟩
  · rw [worT_join]
    refine splitS_joined 58 _ (by simp) fun z hz hc => ?_
    obtain ⟨hR, hw, hh, hs, hcs, _⟩ := H
    simp only [List.mem_cons, List.not_mem_nil, or_false] at hz
    rcases hz with rfl | rfl | rfl | rfl
    · rcases hR.2 _ hc with q | q | q | q <;> exact absurd q (by decide)
    · rw [← joinB_two] at hc
      simp only [append_list, List.mem_append] at hc
      rcases hc with (hc | hc) | hc
      · exact dec_free _ 58 (by decide) hc
      · have hc : (58 : UInt8) ∈ ([120] : List UInt8) := hc
        exact absurd hc (by decide)
      · exact dec_free _ 58 (by decide) hc
    · obtain ⟨c1, c2⟩ := hcs _ hc
      have hr6 := hR.1
      have : (58 : UInt8).toNat = 58 := rfl
      omega
    · rw [← joinB_three] at hc
      simp only [append_list, List.mem_append] at hc
      rcases hc with (((hc | hc) | hc) | hc) | hc
      · exact dec_free _ 58 (by decide) hc
      · have hc : (58 : UInt8) ∈ ([44] : List UInt8) := hc
        exact absurd hc (by decide)
      · exact dec_free _ 58 (by decide) hc
      · have hc : (58 : UInt8) ∈ ([44] : List UInt8) := hc
        exact absurd hc (by decide)
      · exact dec_free _ 58 (by decide) hc
  · refine splitS_joined 120 _ (by simp) fun z hz => ?_
    simp only [List.mem_cons, List.not_mem_nil, or_false] at hz
    rcases hz with rfl | rfl <;> exact dec_free _ 120 (by decide)
  · refine splitS_joined 44 _ (by simp) fun z hz => ?_
    simp only [List.mem_cons, List.not_mem_nil, or_false] at hz
    rcases hz with rfl | rfl | rfl <;> exact dec_free _ 44 (by decide)
theorem one_dec {n : Nat} (h : n < 10) : (decS n).size = 1 := by
  rw [size_list, decS_list, dec_small h]
  rfl
theorem worT_size (rl : ByteArray) (a b : Nat) (cs : ByteArray) (x y wy : Nat) (H : WorldOk rl a b cs x y wy) : (worT rl a b cs x y wy).size ≤ 100 := by
  obtain ⟨hR, hw, hh, hs, hcs, hx, hy, hwy⟩ := H
  have hr6 := hR.1
  have hm := mul_range (a := (a : Int)) (b := (b : Int)) (by omega) (by omega) (by omega) (by omega)
  have z1 : (bs [120]).size = 1 := rfl
  have z2 : (bs [58]).size = 1 := rfl
  have z3 : (bs [44]).size = 1 := rfl
  unfold worT
  simp only [ByteArray.size_append, one_dec (n := a) (by omega), one_dec (n := b) (by omega), one_dec (n := x) (by omega), one_dec (n := y) (by omega), one_dec (n := wy) (by omega), z1, z2, z3]
  omega
/-- What reading a text answers. -/
def WAns (s : ByteArray) (r : Wo × Bool) : Prop := (∃ (rl : ByteArray) (a b : Nat) (cs : ByteArray) (x y wy : Nat), WParts s rl a b cs x y wy ∧ r = ((rl, (a : Int), (b : Int), cs, (x : Int), (y : Int), (wy : Int)), true)) ∨ ((∀ (rl : ByteArray) (a b : Nat) (cs : ByteArray) (x y wy : Nat), ¬ WParts s rl a b cs x y wy) ∧ r = (zeroO, false))
theorem WAns.one {s : ByteArray} {r r' : Wo × Bool} (h : WAns s r) (h' : WAns s r') : r = r' := by
  rcases h with ⟨rl, a, b, cs, x, y, wy, h, rfl⟩ | ⟨h, rfl⟩
  · rcases h' with ⟨rl', a', b', cs', x', y', wy', h', rfl⟩ | ⟨h', rfl⟩
    · obtain ⟨p, q, e1, e2, e3⟩ := h.all
      obtain ⟨p', q', e1', e2', e3'⟩ := h'.all
      rw [e1] at e1'
      simp only [List.cons.injEq, and_true] at e1'
      obtain ⟨rfl, rfl, rfl, rfl⟩ := e1'
      rw [e2] at e2'
      rw [e3] at e3'
      simp only [List.cons.injEq, and_true] at e2' e3'
      obtain ⟨i1, i2⟩ := e2'
      obtain ⟨i3, i4, i5⟩ := e3'
      rw [decS_inj i1, decS_inj i2, decS_inj i3, decS_inj i4, decS_inj i5]
    · exact absurd h (h' rl a b cs x y wy)
  · rcases h' with ⟨rl', a', b', cs', x', y', wy', h', rfl⟩ | ⟨h', rfl⟩
    · exact absurd h' (h rl' a' b' cs' x' y' wy')
    · rfl
theorem okO_nat : ∀ {W : Wo}, OkO W → ∃ (rl : ByteArray) (a b : Nat) (cs : ByteArray) (x y wy : Nat), W = (rl, (a : Int), (b : Int), cs, (x : Int), (y : Int), (wy : Int)) ∧ WorldOk rl a b cs x y wy
  | (rl, w, h, cs, x, y, wy), H => by
    have H : WorldOk rl w h cs x y wy := H
    obtain ⟨hR, hw, hh, hs, hcs, hx, hy, hwy⟩ := id H
    obtain ⟨a, rfl⟩ := Int.eq_ofNat_of_zero_le (show 0 ≤ w by omega)
    obtain ⟨b, rfl⟩ := Int.eq_ofNat_of_zero_le (show 0 ≤ h by omega)
    obtain ⟨x, rfl⟩ := Int.eq_ofNat_of_zero_le hx.1
    obtain ⟨y, rfl⟩ := Int.eq_ofNat_of_zero_le hy.1
    obtain ⟨wy, rfl⟩ := Int.eq_ofNat_of_zero_le hwy.1
    exact ⟨rl, a, b, cs, x, y, wy, rfl, H⟩
theorem four {α : Type} {l : List α} (h : l.length = 4) : ∃ a b c d, l = [a, b, c, d] := by
  match l, h with
  | [a, b, c, d], _ => exact ⟨a, b, c, d, rfl⟩
theorem three {α : Type} {l : List α} (h : l.length = 3) : ∃ a b c, l = [a, b, c] := by
  match l, h with
  | [a, b, c], _ => exact ⟨a, b, c, rfl⟩
theorem two {α : Type} {l : List α} (h : l.length = 2) : ∃ a b, l = [a, b] := by
  match l, h with
  | [a, b], _ => exact ⟨a, b, rfl⟩
theorem len_ne {n m : Nat} (h : n ≠ m) : ((n : Int) != (m : Int)) = true := by rw [bne_iff_ne]; omega
theorem isNum_of {s : ByteArray} {v : Int} (h : IsNum s v) (h0 : 0 ≤ v) : ∃ n : Nat, v = n ∧ s = decS n := by
  rcases h with ⟨n, _, h1, h2⟩ | ⟨_, h⟩
  · exact ⟨n, h2, h1⟩
  · omega
theorem isNum_dec {n : Nat} {v : Int} (hn : n ≤ 999999) (h : IsNum (decS n) v) : v = n := by
  rcases h with ⟨m, _, h1, h2⟩ | ⟨h, _⟩
  · rw [h2, decS_inj h1]
  · exact absurd rfl (h n hn)

theorem bytesOf_set (s : ByteArray) (i : Nat) (c : UInt8) : bytesOf (setByte s i c) = (bytesOf s).set i (c.toNat : Int) := by
  unfold bytesOf setByte
  rw [List.toList_toArray, List.map_set]
theorem ofBytes_bytesOf (s : ByteArray) : ofBytes (bytesOf s) = s := by
  unfold bytesOf
  rw [ofBytes_of]
theorem bytesOf_zero (n : Nat) : bytesOf (bs (List.replicate n 0)) = List.replicate n 0 := by
  unfold bytesOf
  show (List.replicate n (0 : UInt8)).map _ = _
  rw [List.map_replicate]
  rfl
/-! ### The program's way -/
section
variable {S : Sym} {w h w' h' : Int} (hw : 1 ≤ w ∧ w ≤ 9) (hh : 1 ≤ h ∧ h ≤ 9) (hw' : 1 ≤ w' ∧ w' ≤ 9) (hh' : 1 ≤ h' ∧ h' ≤ 9) (O : SymOk S w h w' h') {cs : ByteArray} (hs : (cs.size : Int) = w * h)
include hw hh hw' hh' O hs
theorem moved_gen (L : Nat → List Int → Int → Option (List Int)) (stop : ∀ out : List Int, Ev (fun k => L k out (cs.size : Int)) out)
    (step : ∀ (i : Nat) (x y : Int) (c : UInt8) (out r : List Int), i < cs.size → InR w h x y → InR w' h' (S.f x y).1 (S.f x y).2 → (i : Int).tmod w = x → w64 ((i : Int).tdiv w) = y → cs.data.toList[i]? = some c → (out.length : Int) = w' * h' → Ev (fun k => L k (out.set ((S.f x y).2 * w' + (S.f x y).1).toNat (c.toNat : Int)) ((i + 1 : Nat) : Int)) r → Ev (fun k => L k out (i : Int)) r) :
    ∀ (m i : Nat) (cs' : ByteArray), i + m = cs.size → Laid S w h cs w' h' (i : Int) cs' → ∃ cs'', PicC S w h cs w' h' cs'' ∧ Ev (fun k => L k (bytesOf cs') (i : Int)) (bytesOf cs'')
  | 0, i, cs', hi, H => by
    obtain rfl : i = cs.size := by omega
    rw [hs] at H
    exact ⟨cs', H.done hw hh, stop _⟩
  | m + 1, i, cs', hi, H => by
    have hm := mul_range (a := w) (b := h) (by omega) (by omega) (by omega) (by omega)
    have ht : (i : Int).tmod w = (i : Int) % w := Int.tmod_eq_emod_of_nonneg (by omega)
    have hd : (i : Int).tdiv w = (i : Int) / w := Int.tdiv_eq_ediv_of_nonneg (by omega)
    have hx : 0 ≤ (i : Int) % w ∧ (i : Int) % w ≤ w - 1 := ⟨Int.emod_nonneg _ (by omega), by have := Int.emod_lt_of_pos (i : Int) (show 0 < w by omega); omega⟩
    have hy : 0 ≤ (i : Int) / w ∧ (i : Int) / w ≤ h - 1 := ⟨Int.ediv_nonneg (by omega) (by omega), by
      have : (i : Int) / w < h := Int.ediv_lt_of_lt_mul (by omega) (by rw [Int.mul_comm]; omega)
      omega⟩
    have he : (i : Int) / w * w + (i : Int) % w = i := by
      have := Int.mul_ediv_add_emod (i : Int) w
      rw [Int.mul_comm] at this
      omega
    obtain ⟨c, hc⟩ := byte_at (cs := cs) (i := i) (by omega)
    have hc' : cs.data.toList[((i : Int) / w * w + (i : Int) % w).toNat]? = some c := by rw [he, Int.toNat_natCast]; exact hc
    have hin : InR w h ((i : Int) % w) ((i : Int) / w) := ⟨hx, hy⟩
    have H' := Laid.next hw hh hw' hh' O hin hc' (by rw [he]; exact H)
    rw [he, show (i : Int) + 1 = ((i + 1 : Nat) : Int) by omega] at H'
    obtain ⟨cs'', p, q⟩ := moved_gen L stop step m (i + 1) _ (by omega) H'
    rw [bytesOf_set] at q
    exact ⟨cs'', p, step i _ _ c _ _ (by omega) hin (O.fwd _ _ hin).1 ht (by rw [hd]; exact w64_of (by omega) (by omega)) hc (by rw [bytesOf_len]; exact H.1) q⟩
end
section
variable {rl : ByteArray} {w h : Int} {cs : ByteArray} {x y wy : Int} (H : WorldOk rl w h cs x y wy)
include H
theorem zero_laid (S : Sym) {w' h' : Int} (hw' : 1 ≤ w' ∧ w' ≤ 9) (hh' : 1 ≤ h' ∧ h' ≤ 9) (c : UInt8) : Laid S w h cs w' h' ((0 : Nat) : Int) (bs (List.replicate (w' * h').toNat c)) := by
  have hm := mul_range (a := w') (b := h') (by omega) (by omega) (by omega) (by omega)
  refine Laid.start H.2.1.1 ?_
  rw [size_list]
  show ((List.replicate (w' * h').toNat c).length : Int) = _
  rw [List.length_replicate]
  omega
theorem movedT_ev : ∃ cs', PicC (turnS h) w h cs h w cs' ∧ Ev (fun k => impl_moved k (cs, w, h, w, h)) cs' := by
  obtain ⟨hR, hw, hh, hs, hcs, hx, hy, hwy⟩ := id H
  have hm := mul_range (a := h) (b := w) (by omega) (by omega) (by omega) (by omega)
  have hm2 := mul_range (a := w) (b := h) (by omega) (by omega) (by omega) (by omega)
  have hz := zero_laid H (turnS h) hh hw 0
  obtain ⟨cs', p, q⟩ := moved_gen hw hh hh hw (turnS_ok hw hh) hs (fun k out i => impl_moved_l k (cs, w, h, h, out, (cs.size : Int), i))
    (fun out => Ev.step (fun k => impl_moved_l.eq k cs w h h out _ _) (Ev.no (decide_eq_false (by omega)) (Ev.now _)))
    (fun i x y c out r hi hin hin2 e1 e2 hc hl hr => by
      have hb := bt_at hc
      have e3 : w64 (w64 (x * h) + (h - 1 - y)) = x * h + (h - 1 - y) := at64 hin2.1 hin2.2 hh hw
      obtain ⟨a1, a2, a3, a4⟩ := at_range hin2.1 hin2.2 hh hw
      have a3 : 0 ≤ x * h + (h - 1 - y) := a3
      have a4 : x * h + (h - 1 - y) < h * w := a4
      obtain ⟨hix, hiy⟩ := hin
      refine Ev.step (fun k => impl_moved_l.eq k cs w h h out _ _) (Ev.yes (lt_nat hi) (Ev.yes (bne_iff_ne.2 (by omega)) (Ev.yes (bne_iff_ne.2 (by omega)) ?_)))
      rw [e1, e2]
      refine Ev.bind (a := (h - 1 - y, x)) (Ev.step (fun k => impl_TurnWorld_1.eq k x y h) (Ev.now' (by rw [w64_of (n := h - 1) (by omega) (by omega), w64_of (by omega) (by omega)]))) ?_
      refine Ev.yes (inB_nat hi) ?_
      dsimp only
      rw [e3, Int.toNat_natCast, hb, w64_succ (by omega)]
      exact Ev.yes (inB_of (by omega) (by omega)) hr)
    cs.size 0 _ (by omega) hz
  rw [bytesOf_zero] at q
  refine ⟨cs', p, Ev.step (fun k => impl_moved.eq k cs w h w h) ?_⟩
  rw [w64_of (n := h * w) (by omega) (by omega)]
  refine Ev.yes (by rw [decide_eq_true (by omega), decide_eq_true (by omega), fits_of (by omega)]; rfl) (Ev.bind q (Ev.now' ?_))
  rw [ofBytes_bytesOf]
theorem movedM_ev (a1 : ByteArray) (a2 : ByteArray) (a3 a4 a5 a6 : Int) : ∃ cs', PicC (mirS w) w h cs w h cs' ∧ Ev (fun k => impl_moved_2 k (cs, w, w, h, (a1, w, a3, a2, a4, a5, a6))) cs' := by
  obtain ⟨hR, hw, hh, hs, hcs, hx, hy, hwy⟩ := id H
  have hm := mul_range (a := w) (b := h) (by omega) (by omega) (by omega) (by omega)
  have hz := zero_laid H (mirS w) hw hh 0
  obtain ⟨cs', p, q⟩ := moved_gen hw hh hw hh (mirS_ok hw hh) hs (fun k out i => impl_moved_2_l k (cs, w, w, (a1, w, a3, a2, a4, a5, a6), out, (cs.size : Int), i))
    (fun out => Ev.step (fun k => impl_moved_2_l.eq k cs w w a1 w a3 a2 a4 a5 a6 out _ _) (Ev.no (decide_eq_false (by omega)) (Ev.now _)))
    (fun i x y c out r hi hin hin2 e1 e2 hc hl hr => by
      have hb := bt_at hc
      have e3 : w64 (w64 (y * w) + (w - 1 - x)) = y * w + (w - 1 - x) := at64 hin2.1 hin2.2 hw hh
      obtain ⟨c1, c2, c3, c4⟩ := at_range hin2.1 hin2.2 hw hh
      have c3 : 0 ≤ y * w + (w - 1 - x) := c3
      have c4 : y * w + (w - 1 - x) < w * h := c4
      obtain ⟨hix, hiy⟩ := hin
      refine Ev.step (fun k => impl_moved_2_l.eq k cs w w a1 w a3 a2 a4 a5 a6 out _ _) (Ev.yes (lt_nat hi) (Ev.yes (bne_iff_ne.2 (by omega)) (Ev.yes (bne_iff_ne.2 (by omega)) ?_)))
      rw [e1, e2]
      refine Ev.bind (a := (w - 1 - x, y)) (Ev.step (fun k => impl_MirrorWorld_1.eq k x y a1 w a3 a2 a4 a5 a6) (Ev.now' (by rw [w64_of (n := w - 1) (by omega) (by omega), w64_of (by omega) (by omega)]))) ?_
      refine Ev.yes (inB_nat hi) ?_
      dsimp only
      rw [e3, Int.toNat_natCast, hb, w64_succ (by omega)]
      exact Ev.yes (inB_of (by omega) (by omega)) hr)
    cs.size 0 _ (by omega) hz
  rw [bytesOf_zero] at q
  refine ⟨cs', p, Ev.step (fun k => impl_moved_2.eq k cs w w h a1 w a3 a2 a4 a5 a6) ?_⟩
  rw [w64_of (n := w * h) (by omega) (by omega)]
  refine Ev.yes (by rw [decide_eq_true (by omega), decide_eq_true (by omega), fits_of (by omega)]; rfl) (Ev.bind q (Ev.now' ?_))
  rw [ofBytes_bytesOf]
theorem shift1_ev (a1 a2 : ByteArray) (a4 a5 a6 r d x y : Int) (hr : InR w h r d) (hin : InR w h x y) : Ev (fun k => impl_ShiftWorld_1 k (x, y, r, (a1, w, h, a2, a4, a5, a6), d)) ((x + r) % w, (y + d) % h) := by
  obtain ⟨hR, hw, hh, hs, hcs, _⟩ := id H
  obtain ⟨⟨r0, r1⟩, d0, d1⟩ := hr
  obtain ⟨⟨x0, x1⟩, y0, y1⟩ := hin
  refine Ev.step (fun k => impl_ShiftWorld_1.eq k x y r a1 w h a2 a4 a5 a6 d) (Ev.yes (bne_iff_ne.2 (by omega)) (Ev.yes (bne_iff_ne.2 (by omega)) (Ev.now' ?_)))
  rw [w64_of (n := x + r) (by omega) (by omega), w64_of (n := y + d) (by omega) (by omega), Int.tmod_eq_emod_of_nonneg (by omega), Int.tmod_eq_emod_of_nonneg (by omega)]
theorem movedS_ev (a1 a2 : ByteArray) (a4 a5 a6 r d : Int) (hr : InR w h r d) : ∃ cs', PicC (shiS w h r d) w h cs w h cs' ∧ Ev (fun k => impl_moved_3 k (cs, w, w, h, (r, (a1, w, h, a2, a4, a5, a6), d))) cs' := by
  obtain ⟨hR, hw, hh, hs, hcs, hx, hy, hwy⟩ := id H
  have hm := mul_range (a := w) (b := h) (by omega) (by omega) (by omega) (by omega)
  have hz := zero_laid H (shiS w h r d) hw hh 0
  obtain ⟨cs', p, q⟩ := moved_gen hw hh hw hh (shiS_ok hw hh hr) hs (fun k out i => impl_moved_3_l k (cs, w, w, (r, (a1, w, h, a2, a4, a5, a6), d), out, (cs.size : Int), i))
    (fun out => Ev.step (fun k => impl_moved_3_l.eq k cs w w r a1 w h a2 a4 a5 a6 d out _ _) (Ev.no (decide_eq_false (by omega)) (Ev.now _)))
    (fun i x y c out rr hi hin hin2 e1 e2 hc hl hrr => by
      have hb := bt_at hc
      have e3 : w64 (w64 ((y + d) % h * w) + (x + r) % w) = (y + d) % h * w + (x + r) % w := at64 hin2.1 hin2.2 hw hh
      obtain ⟨c1, c2, c3, c4⟩ := at_range hin2.1 hin2.2 hw hh
      have c3 : 0 ≤ (y + d) % h * w + (x + r) % w := c3
      have c4 : (y + d) % h * w + (x + r) % w < w * h := c4
      refine Ev.step (fun k => impl_moved_3_l.eq k cs w w r a1 w h a2 a4 a5 a6 d out _ _) (Ev.yes (lt_nat hi) (Ev.yes (bne_iff_ne.2 (by omega)) (Ev.yes (bne_iff_ne.2 (by omega)) ?_)))
      rw [e1, e2]
      refine Ev.bind (shift1_ev H a1 a2 a4 a5 a6 r d x y hr hin) ?_
      refine Ev.yes (inB_nat hi) ?_
      dsimp only
      rw [e3, Int.toNat_natCast, hb, w64_succ (by omega)]
      exact Ev.yes (inB_of (by omega) (by omega)) hrr)
    cs.size 0 _ (by omega) hz
  rw [bytesOf_zero] at q
  refine ⟨cs', p, Ev.step (fun k => impl_moved_3.eq k cs w w h r a1 w h a2 a4 a5 a6 d) ?_⟩
  rw [w64_of (n := w * h) (by omega) (by omega)]
  refine Ev.yes (by rw [decide_eq_true (by omega), decide_eq_true (by omega), fits_of (by omega)]; rfl) (Ev.bind q (Ev.now' ?_))
  rw [ofBytes_bytesOf]
end
/-! ### The reference's way -/
theorem woZeros_ev (n : Nat) (hn : n ≤ 1000) : Ev (fun k => spec_woZeros k (n : Int)) (bs (List.replicate n 48)) := by
  have loop : ∀ (m i : Nat), i + m = n → Ev (fun k => spec_woZeros_l k ((m : Int), bs (List.replicate i 48))) (bs (List.replicate n 48)) := by
    intro m
    induction m with
    | zero =>
      intro i hi
      obtain rfl : i = n := by omega
      exact Ev.step (fun k => spec_woZeros_l.eq k _ _) (Ev.no rfl (Ev.now _))
    | succ m ih =>
      intro i hi
      have hz : (bs (List.replicate i 48)).size = i := by rw [size_list]; show (List.replicate i (48 : UInt8)).length = i; rw [List.length_replicate]
      have e : bs (List.replicate i 48) ++ bs [48] = bs (List.replicate (i + 1) 48) := ba_ext (by
        rw [append_list]
        show List.replicate i 48 ++ [48] = List.replicate (i + 1) 48
        rw [List.replicate_succ'])
      refine Ev.step (fun k => spec_woZeros_l.eq k _ _) (Ev.yes (decide_eq_true (by omega)) (Ev.yes (fitS_of (by rw [hz]; show i + 1 < _; omega)) ?_))
      rw [e, show w64 (((m + 1 : Nat) : Int) - 1) = (m : Int) by rw [w64_of (by omega) (by omega)]; omega]
      exact ih (i + 1) (by omega)
  exact Ev.step (fun k => spec_woZeros.eq k (n : Int)) (Ev.bind (loop n 0 (by omega)) (Ev.now _))
section
variable {rl : ByteArray} {w h : Int} {cs : ByteArray} {x y wy : Int} (H : WorldOk rl w h cs x y wy)
include H
theorem woColour_at {a b : Int} (hab : InR w h a b) {c : UInt8} (hc : cs.data.toList[(b * w + a).toNat]? = some c) : Ev (fun k => spec_woColour k ((rl, w, h, cs, x, y, wy), a, b)) ((c.toNat : Int) - 48) := by
  obtain ⟨hR, hw, hh, hs, hcs, _⟩ := H
  have hr6 := hR.1
  obtain ⟨a1, a2, a3, a4⟩ := at_range hab.1 hab.2 hw hh
  obtain ⟨c48, cti⟩ := hcs c (List.mem_of_getElem? hc)
  have eA := at64 hab.1 hab.2 hw hh
  refine Ev.step (fun k => spec_woColour.eq k rl w h cs x y wy a b) ?_
  rw [eA]
  exact Ev.yes (inB_of a3 (by omega)) (Ev.now' (by rw [bt_at hc, w8_of (by omega) (by have := c.toNat_lt; omega), w64_of (by omega) (by omega)]))
variable {S : Sym} {w' h' : Int} (hw' : 1 ≤ w' ∧ w' ≤ 9) (hh' : 1 ≤ h' ∧ h' ≤ 9) (O : SymOk S w h w' h') (b0 b1 b2 b3 b4 b5 : Int)
  (HB : ∀ a b, InR w h a b → Ev (fun k => spec_l1Mod k ((w64 ((w64 ((w64 (b0 * a)) + (w64 (b1 * b)))) + b2)), w')) (S.f a b).1 ∧ Ev (fun k => spec_l1Mod k ((w64 ((w64 ((w64 (b3 * a)) + (w64 (b4 * b)))) + b5)), h')) (S.f a b).2)
include hw' hh' O HB
theorem mapIn_ev (b : Nat) (hb : (b : Int) < h) : ∀ (m a : Nat) (cs' : ByteArray) (X Y : Int), ((a + m : Nat) : Int) = w → Laid S w h cs w' h' ((b : Int) * w + a) cs' → (y * w + x < (b : Int) * w + a → (X, Y) = S.f x y) →
    ∃ cs'' X' Y', Laid S w h cs w' h' ((b : Int) * w + w) cs'' ∧ (y * w + x < (b : Int) * w + w → (X', Y') = S.f x y) ∧
      Ev (fun k => spec_woMap_l_l k (w', h', (rl, w, h, cs, x, y, wy), (b0, b1, b2, b3, b4, b5), zeroO, (rl, w', h', cs', X, Y, wy), (b : Int), (a : Int))) (w', h', (rl, w, h, cs, x, y, wy), (b0, b1, b2, b3, b4, b5), zeroO, (rl, w', h', cs'', X', Y', wy), (b : Int))
  | 0, a, cs', X, Y, ha, L, P => by
    have ea : (a : Int) = w := by omega
    rw [ea] at L P ⊢
    exact ⟨cs', X, Y, L, P, Ev.step (fun k => spec_woMap_l_l.eq k w' h' rl w h cs x y wy b0 b1 b2 b3 b4 b5 ByteArray.empty 0 0 ByteArray.empty 0 0 0 rl w' h' cs' X Y wy b w) (Ev.no (decide_eq_false (by omega)) (Ev.now _))⟩
  | m + 1, a, cs', X, Y, ha, L, P => by
    obtain ⟨hR, hw, hh, hs, hcs, hx, hy, hwy⟩ := id H
    have hr6 := hR.1
    have hab : InR w h (a : Int) (b : Int) := ⟨by omega, by omega⟩
    obtain ⟨a1, a2, a3, a4⟩ := at_range hab.1 hab.2 hw hh
    obtain ⟨c, hc⟩ := byte_at (cs := cs) (i := ((b : Int) * w + a).toNat) (by omega)
    obtain ⟨c48, cti⟩ := hcs c (List.mem_of_getElem? hc)
    obtain ⟨f1, f2⟩ := O.fwd a b hab
    obtain ⟨m1, m2⟩ := HB a b hab
    have col := woColour_at H hab hc
    have pnt := woPaint_ev rl w' h' cs' X Y wy (S.f a b).1 (S.f a b).2 ((c.toNat : Int) - 48) hw' hh' f1.1 f1.2 L.1 (by omega)
    rw [of_digit c48] at pnt
    have L' := Laid.next hw hh hw' hh' O hab hc L
    have en : (b : Int) * w + a + 1 = (b : Int) * w + ((a + 1 : Nat) : Int) := by omega
    rw [en] at L'
    have e1 : w64 ((a : Int) + 1) = ((a + 1 : Nat) : Int) := w64_succ (by omega)
    have hat : y * w + x = (b : Int) * w + a ↔ x = a ∧ y = b := at_inj hx hab.1
    have start : ∀ r, Ev (fun k => cond ((a : Int) == x) (cond ((b : Int) == y)
        (spec_woMap_l_l k (w', h', (rl, w, h, cs, x, y, wy), (b0, b1, b2, b3, b4, b5), zeroO, (rl, w', h', setByte cs' ((S.f a b).2 * w' + (S.f a b).1).toNat c, (S.f a b).1, (S.f a b).2, wy), (b : Int), ((a + 1 : Nat) : Int)))
        (spec_woMap_l_l k (w', h', (rl, w, h, cs, x, y, wy), (b0, b1, b2, b3, b4, b5), zeroO, (rl, w', h', setByte cs' ((S.f a b).2 * w' + (S.f a b).1).toNat c, X, Y, wy), (b : Int), ((a + 1 : Nat) : Int))))
        (spec_woMap_l_l k (w', h', (rl, w, h, cs, x, y, wy), (b0, b1, b2, b3, b4, b5), zeroO, (rl, w', h', setByte cs' ((S.f a b).2 * w' + (S.f a b).1).toNat c, X, Y, wy), (b : Int), ((a + 1 : Nat) : Int)))) r →
        Ev (fun k => spec_woMap_l_l k (w', h', (rl, w, h, cs, x, y, wy), (b0, b1, b2, b3, b4, b5), zeroO, (rl, w', h', cs', X, Y, wy), (b : Int), (a : Int))) r := fun r hr => by
      refine Ev.step (fun k => spec_woMap_l_l.eq k w' h' rl w h cs x y wy b0 b1 b2 b3 b4 b5 ByteArray.empty 0 0 ByteArray.empty 0 0 0 rl w' h' cs' X Y wy b a) (Ev.yes (decide_eq_true (by omega)) (Ev.bind m1 (Ev.bind m2 (Ev.bind col (Ev.bind pnt ?_)))))
      rw [e1]
      exact hr
    by_cases e : x = a ∧ y = b
    · obtain ⟨cs'', X', Y', q1, q2, q3⟩ := mapIn_ev b hb m (a + 1) _ (S.f a b).1 (S.f a b).2 (by omega) L' (fun _ => by rw [e.1, e.2])
      exact ⟨cs'', X', Y', q1, q2, start _ (Ev.yes (beq_iff_eq.2 e.1.symm) (Ev.yes (beq_iff_eq.2 e.2.symm) q3))⟩
    · obtain ⟨cs'', X', Y', q1, q2, q3⟩ := mapIn_ev b hb m (a + 1) _ X Y (by omega) L' (fun q => P (by
        have : ¬ (y * w + x = (b : Int) * w + a) := fun q => e (hat.1 q)
        omega))
      refine ⟨cs'', X', Y', q1, q2, start _ ?_⟩
      by_cases ex : (a : Int) = x
      · exact Ev.yes (beq_iff_eq.2 ex) (Ev.no (beq_eq_false_iff_ne.2 fun q => e ⟨ex.symm, q.symm⟩) q3)
      · exact Ev.no (beq_eq_false_iff_ne.2 ex) q3
theorem mapOut_ev : ∀ (m b : Nat) (cs' : ByteArray) (X Y : Int), ((b + m : Nat) : Int) = h → Laid S w h cs w' h' ((b : Int) * w) cs' → (y * w + x < (b : Int) * w → (X, Y) = S.f x y) →
    ∃ cs'' X' Y', Laid S w h cs w' h' (h * w) cs'' ∧ (y * w + x < h * w → (X', Y') = S.f x y) ∧
      Ev (fun k => spec_woMap_l k (w', h', (rl, w, h, cs, x, y, wy), (b0, b1, b2, b3, b4, b5), zeroO, (rl, w', h', cs', X, Y, wy), (b : Int))) (zeroO, (rl, w', h', cs'', X', Y', wy))
  | 0, b, cs', X, Y, hb, L, P => by
    have eb : (b : Int) = h := by omega
    rw [eb] at L P ⊢
    exact ⟨cs', X, Y, L, P, Ev.step (fun k => spec_woMap_l.eq k w' h' rl w h cs x y wy b0 b1 b2 b3 b4 b5 ByteArray.empty 0 0 ByteArray.empty 0 0 0 rl w' h' cs' X Y wy h) (Ev.no (decide_eq_false (by omega)) (Ev.now _))⟩
  | m + 1, b, cs', X, Y, hb, L, P => by
    obtain ⟨hR, hw, hh, hs, hcs, hx, hy, hwy⟩ := id H
    obtain ⟨c1, X1, Y1, q1, q2, q3⟩ := mapIn_ev H hw' hh' O b0 b1 b2 b3 b4 b5 HB b (by omega) w.toNat 0 cs' X Y (by omega) (by rw [show (b : Int) * w + ((0 : Nat) : Int) = (b : Int) * w by omega]; exact L) (fun q => P (by omega))
    have en : (b : Int) * w + w = ((b + 1 : Nat) : Int) * w := by rw [Int.natCast_add, Int.add_mul]; omega
    rw [en] at q1 q2
    obtain ⟨cs'', X', Y', r1, r2, r3⟩ := mapOut_ev m (b + 1) c1 X1 Y1 (by omega) q1 q2
    refine ⟨cs'', X', Y', r1, r2, Ev.step (fun k => spec_woMap_l.eq k w' h' rl w h cs x y wy b0 b1 b2 b3 b4 b5 ByteArray.empty 0 0 ByteArray.empty 0 0 0 rl w' h' cs' X Y wy b) (Ev.yes (decide_eq_true (by omega)) (Ev.bind q3 ?_))⟩
    rw [w64_succ (by omega)]
    exact r3
theorem woMap_ev : ∃ cs', PicC S w h cs w' h' cs' ∧ Ev (fun k => spec_woMap k ((rl, w, h, cs, x, y, wy), w', h', (b0, b1, b2, b3, b4, b5))) (rl, w', h', cs', (S.f x y).1, (S.f x y).2, wy) := by
  obtain ⟨hR, hw, hh, hs, hcs, hx, hy, hwy⟩ := id H
  have hm := mul_range (a := w') (b := h') (by omega) (by omega) (by omega) (by omega)
  obtain ⟨a1, a2, a3, a4⟩ := at_range hx hy hw hh
  have hz := zero_laid H S hw' hh' 48
  obtain ⟨cs', X, Y, q1, q2, q3⟩ := mapOut_ev H hw' hh' O b0 b1 b2 b3 b4 b5 HB h.toNat 0 _ 0 0 (by omega) (by rw [show ((0 : Nat) : Int) * w = ((0 : Nat) : Int) by rw [Int.natCast_zero, Int.zero_mul]]; exact hz) (fun q => by rw [Int.natCast_zero, Int.zero_mul] at q; omega)
  rw [Int.mul_comm h w] at q1 q2
  have e := q2 a4
  have ex : X = (S.f x y).1 := congrArg Prod.fst e
  have ey : Y = (S.f x y).2 := congrArg Prod.snd e
  subst ex ey
  have hzz := woZeros_ev (w' * h').toNat (by omega)
  rw [Int.toNat_of_nonneg (by omega)] at hzz
  refine ⟨cs', q1.done hw hh, Ev.step (fun k => spec_woMap.eq k rl w h cs x y wy w' h' b0 b1 b2 b3 b4 b5) ?_⟩
  rw [w64_of (n := w' * h') (by omega) (by omega)]
  exact Ev.bind hzz (Ev.bind q3 (Ev.now _))
end
/-! ### Turned, mirrored, shifted -/
theorem turnW_ev : ∀ {W : Wo}, OkO W → ∃ V, Pic (turnS W.2.2.1) W.2.2.1 W.2.1 W V ∧ Ev (fun k => impl_TurnWorld k W) (V, true) ∧ Ev (fun k => spec_TurnWorld k W) (V, true)
  | (rl, w, h, cs, x, y, wy), H => by
    have H : WorldOk rl w h cs x y wy := H
    obtain ⟨hR, hw, hh, hs, hcs, hx, hy, hwy⟩ := id H
    have hm := mul_range (a := w) (b := h) (by omega) (by omega) (by omega) (by omega)
    have hr6 := hR.1
    have O := turnS_ok hw hh
    obtain ⟨c1, p1, q1⟩ := movedT_ev H
    have HB : ∀ a b, InR w h a b → Ev (fun k => spec_l1Mod k ((w64 ((w64 ((w64 (0 * a)) + (w64 ((-1) * b)))) + w64 (h - 1))), h)) ((turnS h).f a b).1 ∧ Ev (fun k => spec_l1Mod k ((w64 ((w64 ((w64 (1 * a)) + (w64 (0 * b)))) + 0)), w)) ((turnS h).f a b).2 := fun a b hab => by
      obtain ⟨ha, hb⟩ := hab
      have e1 : w64 (w64 (w64 (0 * a) + w64 ((-1) * b)) + w64 (h - 1)) = h - 1 - b := by
        rw [Int.zero_mul, show (-1) * b = -b by omega, w64_of (n := 0) (by omega) (by omega), w64_of (n := -b) (by omega) (by omega), w64_of (n := h - 1) (by omega) (by omega), w64_of (n := 0 + -b) (by omega) (by omega), w64_of (by omega) (by omega)]
        omega
      have e2 : w64 (w64 (w64 (1 * a) + w64 (0 * b)) + 0) = a := by
        rw [Int.zero_mul, Int.one_mul, w64_of (n := 0) (by omega) (by omega), w64_of (n := a) (by omega) (by omega), w64_of (n := a + 0) (by omega) (by omega), w64_of (by omega) (by omega)]
        omega
      rw [e1, e2]
      have g1 := l1Mod_gen (h - 1 - b) h (by omega) (by omega)
      have g2 := l1Mod_gen a w (by omega) (by omega)
      rw [Int.emod_eq_of_lt (by omega) (by omega)] at g1 g2
      exact ⟨g1, g2⟩
    obtain ⟨c2, p2, q2⟩ := woMap_ev H hh hw O 0 (-1) (w64 (h - 1)) 1 0 0 HB
    obtain rfl := picC_unique hh hw O p1 p2
    have eW : (w64 (wy + 1)).tmod 4 = (wy + 1) % 4 := by rw [w64_of (by omega) (by omega), Int.tmod_eq_emod_of_nonneg (by omega)]
    have g1 := (isWorld_ev rl w h cs x y wy (by omega) (by omega)).isT H
    have g2 := (woGood_ev rl w h cs x y wy).isT H
    refine ⟨(rl, h, w, c1, h - 1 - y, x, (wy + 1) % 4), ⟨rfl, rfl, rfl, p1.1, p1.2, rfl, rfl⟩, Ev.step (fun k => impl_TurnWorld.eq k rl w h cs x y wy) (Ev.bind g1 (Ev.no rfl ?_)), Ev.step (fun k => spec_TurnWorld.eq k rl w h cs x y wy) (Ev.bind g2 (Ev.no rfl (Ev.bind q2 (Ev.now' ?_))))⟩
    · refine Ev.bind q1 (Ev.bind (a := (h - 1 - y, x)) (Ev.step (fun k => impl_TurnWorld_1.eq k x y h) (Ev.now' (by rw [w64_of (n := h - 1) (by omega) (by omega), w64_of (by omega) (by omega)]))) (Ev.now' ?_))
      rw [eW]
    · rw [eW]
      rfl
theorem mirW_ev : ∀ {W : Wo}, OkO W → ∃ V, Pic (mirS W.2.1) W.2.1 W.2.2.1 W V ∧ Ev (fun k => impl_MirrorWorld k W) (V, true) ∧ Ev (fun k => spec_MirrorWorld k W) (V, true)
  | (rl, w, h, cs, x, y, wy), H => by
    have H : WorldOk rl w h cs x y wy := H
    obtain ⟨hR, hw, hh, hs, hcs, hx, hy, hwy⟩ := id H
    have hm := mul_range (a := w) (b := h) (by omega) (by omega) (by omega) (by omega)
    have hr6 := hR.1
    have O := mirS_ok hw hh
    obtain ⟨c1, p1, q1⟩ := movedM_ev H rl cs h x y wy
    have HB : ∀ a b, InR w h a b → Ev (fun k => spec_l1Mod k ((w64 ((w64 ((w64 ((-1) * a)) + (w64 (0 * b)))) + w64 (w - 1))), w)) ((mirS w).f a b).1 ∧ Ev (fun k => spec_l1Mod k ((w64 ((w64 ((w64 (0 * a)) + (w64 (1 * b)))) + 0)), h)) ((mirS w).f a b).2 := fun a b hab => by
      obtain ⟨ha, hb⟩ := hab
      have e1 : w64 (w64 (w64 ((-1) * a) + w64 (0 * b)) + w64 (w - 1)) = w - 1 - a := by
        rw [Int.zero_mul, show (-1) * a = -a by omega, w64_of (n := 0) (by omega) (by omega), w64_of (n := -a) (by omega) (by omega), w64_of (n := w - 1) (by omega) (by omega), w64_of (n := -a + 0) (by omega) (by omega), w64_of (by omega) (by omega)]
        omega
      have e2 : w64 (w64 (w64 (0 * a) + w64 (1 * b)) + 0) = b := by
        rw [Int.zero_mul, Int.one_mul, w64_of (n := 0) (by omega) (by omega), w64_of (n := b) (by omega) (by omega), w64_of (n := 0 + b) (by omega) (by omega), w64_of (by omega) (by omega)]
        omega
      rw [e1, e2]
      have g1 := l1Mod_gen (w - 1 - a) w (by omega) (by omega)
      have g2 := l1Mod_gen b h (by omega) (by omega)
      rw [Int.emod_eq_of_lt (by omega) (by omega)] at g1 g2
      exact ⟨g1, g2⟩
    obtain ⟨c2, p2, q2⟩ := woMap_ev H hw hh O (-1) 0 (w64 (w - 1)) 0 1 0 HB
    obtain rfl := picC_unique hw hh O p1 p2
    have eW : (w64 (4 - wy)).tmod 4 = (4 - wy) % 4 := by rw [w64_of (by omega) (by omega), Int.tmod_eq_emod_of_nonneg (by omega)]
    have g1 := (isWorld_ev rl w h cs x y wy (by omega) (by omega)).isT H
    have g2 := (woGood_ev rl w h cs x y wy).isT H
    have o1 := other_ev rl (by omega)
    have o2 := woOther_ev rl (by omega)
    refine ⟨(oth rl, w, h, c1, w - 1 - x, y, (4 - wy) % 4), ⟨rfl, rfl, rfl, p1.1, p1.2, rfl, rfl⟩, Ev.step (fun k => impl_MirrorWorld.eq k rl w h cs x y wy) (Ev.bind g1 (Ev.no rfl ?_)), Ev.step (fun k => spec_MirrorWorld.eq k rl w h cs x y wy) (Ev.bind g2 (Ev.no rfl (Ev.bind q2 (Ev.bind o2 (Ev.now' ?_)))))⟩
    · exact Ev.bind q1 (Ev.bind (a := (w - 1 - x, y)) (Ev.step (fun k => impl_MirrorWorld_1.eq k x y rl w h c1 x y wy) (Ev.now' (by rw [w64_of (n := w - 1) (by omega) (by omega), w64_of (by omega) (by omega)]))) (Ev.bind o1 (Ev.bind (otherWay_ev wy hwy) (Ev.now _))))
    · rw [eW]
      rfl
theorem isPlace_ev (W : Wo) (hr : W.1.size ≤ 1048576) (hc : W.2.2.2.1.size ≤ 1048576) (a b : Int) : EvB (fun k => impl_isPlace k (W, a, b)) (OkO W ∧ InR W.2.1 W.2.2.1 a b) := by
  have g := isW_ev W hr hc
  obtain ⟨rl, w, h, cs, x, y, wy⟩ := W
  refine EvB.step (fun k => impl_isPlace.eq k rl w h cs x y wy a b) (EvB.and g fun H => ?_)
  have H : WorldOk rl w h cs x y wy := H
  obtain ⟨hR, hw, hh, _⟩ := id H
  exact ((isAnt_ev w h a b 0 (by omega) (by omega)).ret).iff ⟨fun q => ⟨q.1, q.2.1⟩, fun q => ⟨q.1, q.2, by omega⟩⟩
theorem woCell_ev (W : Wo) (a b : Int) : EvB (fun k => spec_woCell k (W, a, b)) (OkO W ∧ InR W.2.1 W.2.2.1 a b) := by
  have g := goodW_ev W
  obtain ⟨rl, w, h, cs, x, y, wy⟩ := W
  refine EvB.step (fun k => spec_woCell.eq k rl w h cs x y wy a b) (EvB.and g fun H => ?_)
  have H : WorldOk rl w h cs x y wy := H
  obtain ⟨hR, hw, hh, _⟩ := id H
  rw [w64_of (n := w - 1) (by omega) (by omega), w64_of (n := h - 1) (by omega) (by omega)]
  exact EvB.and (l1In_ev a 0 (w - 1)) fun _ => (l1In_ev b 0 (h - 1)).ret
theorem shiW_ev : ∀ {W : Wo} (a b : Int), OkO W → InR W.2.1 W.2.2.1 a b → ∃ V, Pic (shiS W.2.1 W.2.2.1 a b) W.2.1 W.2.2.1 W V ∧ Ev (fun k => impl_ShiftWorld k (W, a, b)) (V, true) ∧ Ev (fun k => spec_ShiftWorld k (W, a, b)) (V, true)
  | (rl, w, h, cs, x, y, wy), r, d, H, hrd => by
    have i1 := okO_size H
    have g1 := (isPlace_ev (rl, w, h, cs, x, y, wy) (by omega) (by omega) r d).isT ⟨H, hrd⟩
    have g2 := (woCell_ev (rl, w, h, cs, x, y, wy) r d).isT ⟨H, hrd⟩
    have H : WorldOk rl w h cs x y wy := H
    have hrd : InR w h r d := hrd
    obtain ⟨hR, hw, hh, hs, hcs, hx, hy, hwy⟩ := id H
    have hm := mul_range (a := w) (b := h) (by omega) (by omega) (by omega) (by omega)
    have O := shiS_ok hw hh hrd
    obtain ⟨c1, p1, q1⟩ := movedS_ev H rl cs x y wy r d hrd
    have HB : ∀ a b, InR w h a b → Ev (fun k => spec_l1Mod k ((w64 ((w64 ((w64 (1 * a)) + (w64 (0 * b)))) + r)), w)) ((shiS w h r d).f a b).1 ∧ Ev (fun k => spec_l1Mod k ((w64 ((w64 ((w64 (0 * a)) + (w64 (1 * b)))) + d)), h)) ((shiS w h r d).f a b).2 := fun a b hab => by
      obtain ⟨ha, hb⟩ := hab
      obtain ⟨hr, hd⟩ := hrd
      have e1 : w64 (w64 (w64 (1 * a) + w64 (0 * b)) + r) = a + r := by
        rw [Int.zero_mul, Int.one_mul, w64_of (n := 0) (by omega) (by omega), w64_of (n := a) (by omega) (by omega), w64_of (n := a + 0) (by omega) (by omega), w64_of (by omega) (by omega)]
        omega
      have e2 : w64 (w64 (w64 (0 * a) + w64 (1 * b)) + d) = b + d := by
        rw [Int.zero_mul, Int.one_mul, w64_of (n := 0) (by omega) (by omega), w64_of (n := b) (by omega) (by omega), w64_of (n := 0 + b) (by omega) (by omega), w64_of (by omega) (by omega)]
        omega
      rw [e1, e2]
      exact ⟨l1Mod_gen (a + r) w (by omega) (by omega), l1Mod_gen (b + d) h (by omega) (by omega)⟩
    obtain ⟨c2, p2, q2⟩ := woMap_ev H hw hh O 1 0 r 0 1 d HB
    obtain rfl := picC_unique hw hh O p1 p2
    refine ⟨(rl, w, h, c1, (x + r) % w, (y + d) % h, wy), ⟨rfl, rfl, rfl, p1.1, p1.2, rfl, rfl⟩, Ev.step (fun k => impl_ShiftWorld.eq k rl w h cs x y wy r d) (Ev.bind g1 (Ev.no rfl ?_)), Ev.step (fun k => spec_ShiftWorld.eq k rl w h cs x y wy r d) (Ev.bind g2 (Ev.no rfl (Ev.bind q2 (Ev.now _))))⟩
    exact Ev.bind q1 (Ev.bind (shift1_ev H rl c1 x y wy r d x y hrd ⟨hx, hy⟩) (Ev.now _))
theorem step1_ev : ∀ {W : Wo}, OkO W → Ev (fun k => impl_StepWorld k W) (stepO W, true)
  | (rl, w, h, cs, x, y, wy), H => by
    obtain ⟨z1, z2⟩ := okO_size H
    have a := (isW_ev (rl, w, h, cs, x, y, wy) (by simp only at z1 ⊢; omega) (by simp only at z2 ⊢; omega)).isT H
    have g : Ev (fun k => impl_isGoing k ((rl, w, h, cs, x, y, wy), 1)) true := Ev.step (fun k => impl_isGoing.eq k rl w h cs x y wy 1) (Ev.bind a (Ev.yes rfl (Ev.bind ((within_ev 1 0 3000).isT (by omega)) (Ev.now _))))
    have s := stepI_ev (rl, w, h, cs, x, y, wy) H
    have l : Ev (fun k => impl_WorldAfter_l k ((rl, w, h, cs, x, y, wy), zeroO, 1, 0)) (stepO (rl, w, h, cs, x, y, wy), zeroO) := by
      refine Ev.step (fun k => impl_WorldAfter_l.eq k rl w h cs x y wy ByteArray.empty 0 0 ByteArray.empty 0 0 0 1 0) (Ev.yes rfl (Ev.bind s ?_))
      obtain ⟨q1, q2, q3, q4, q5, q6, q7⟩ := stepO (rl, w, h, cs, x, y, wy)
      exact Ev.step (fun k => impl_WorldAfter_l.eq k q1 q2 q3 q4 q5 q6 q7 ByteArray.empty 0 0 ByteArray.empty 0 0 0 1 (w64 (0 + 1))) (Ev.no rfl (Ev.now _))
    exact Ev.step (fun k => impl_StepWorld.eq k rl w h cs x y wy) (Ev.bind (Ev.step (fun k => impl_WorldAfter.eq k rl w h cs x y wy 1) (Ev.bind g (Ev.no rfl (Ev.bind l (Ev.now _))))) (Ev.now _))
/-! ### Texts -/
theorem fitW {x y : ByteArray} (hx : x.size ≤ 100000) (hy : y.size ≤ 100000) : fitS x y = true := fitS_of (by omega)
section
variable {rl : ByteArray} {a b : Nat} {cs : ByteArray} {x y wy : Nat} (H : WorldOk rl a b cs x y wy)
include H
theorem wtext_s : Ev (fun k => spec_woText k (rl, (a : Int), (b : Int), cs, (x : Int), (y : Int), (wy : Int))) (worT rl a b cs x y wy) := by
  obtain ⟨hR, hw, hh, hs, hcs, hx, hy, hwy⟩ := H
  have hr6 := hR.1
  have hm := mul_range (a := (a : Int)) (b := (b : Int)) (by omega) (by omega) (by omega) (by omega)
  have z1 : (bs [120]).size = 1 := rfl
  have z2 : (bs [58]).size = 1 := rfl
  have z3 : (bs [44]).size = 1 := rfl
  have za := one_dec (n := a) (by omega)
  have zb := one_dec (n := b) (by omega)
  have zx := one_dec (n := x) (by omega)
  have zy := one_dec (n := y) (by omega)
  have zw := one_dec (n := wy) (by omega)
  have F : ∀ {p q : ByteArray}, p.size ≤ 1000 → q.size ≤ 1000 → fitS p q = true := fun hp hq => fitW (by omega) (by omega)
  refine Ev.step (fun k => spec_woText.eq k rl a b cs x y wy) ?_
  refine Ev.yes (F (by omega) (by omega)) (Ev.bind (l1Num_dec a (by omega)) ?_)
  refine Ev.yes (F (by simp only [ByteArray.size_append]; omega) (by omega)) (Ev.yes (F (by simp only [ByteArray.size_append]; omega) (by omega)) (Ev.bind (l1Num_dec b (by omega)) ?_))
  refine Ev.yes (F (by simp only [ByteArray.size_append]; omega) (by omega)) (Ev.yes (F (by simp only [ByteArray.size_append]; omega) (by omega)) (Ev.yes (F (by simp only [ByteArray.size_append]; omega) (by omega)) (Ev.yes (F (by simp only [ByteArray.size_append]; omega) (by omega)) (Ev.bind (l1Num_dec x (by omega)) ?_))))
  refine Ev.yes (F (by simp only [ByteArray.size_append]; omega) (by omega)) (Ev.yes (F (by simp only [ByteArray.size_append]; omega) (by omega)) (Ev.bind (l1Num_dec y (by omega)) ?_))
  refine Ev.yes (F (by simp only [ByteArray.size_append]; omega) (by omega)) (Ev.yes (F (by simp only [ByteArray.size_append]; omega) (by omega)) (Ev.bind (l1Num_dec wy (by omega)) ?_))
  exact Ev.yes (F (by simp only [ByteArray.size_append]; omega) (by omega)) (Ev.now _)
theorem wtext_i : Ev (fun k => impl_worldText k (rl, (a : Int), (b : Int), cs, (x : Int), (y : Int), (wy : Int))) (worT rl a b cs x y wy) := by
  have hz := worT_size rl a b cs x y wy H
  obtain ⟨hR, hw, hh, hs, hcs, hx, hy, hwy⟩ := H
  have t1 := listText_ev (bs [120]) [(a : Int), (b : Int)] (by simp) (by decide) (by intro n hn; simp at hn; omega)
  have t1 : Ev (fun k => impl_listText k (bs [120], [(a : Int), (b : Int)])) (joinB [decS a, decS b] (bs [120])) := t1
  have t2 := listText_ev (bs [44]) [(x : Int), (y : Int), (wy : Int)] (by simp) (by decide) (by intro n hn; simp at hn; omega)
  have t2 : Ev (fun k => impl_listText k (bs [44], [(x : Int), (y : Int), (wy : Int)])) (joinB [decS x, decS y, decS wy] (bs [44])) := t2
  have t3 := join_ev [rl, joinB [decS a, decS b] (bs [120]), cs, joinB [decS x, decS y, decS wy] (bs [44])] (bs [58]) (by simp) (by rw [← worT_join]; omega)
  rw [← worT_join] at t3
  exact Ev.step (fun k => impl_worldText.eq k rl a b cs x y wy) (Ev.bind t1 (Ev.bind t2 (Ev.bind t3 (Ev.now _))))
end
theorem wtext_ok {W : Wo} (H : OkO W) : ∃ s, Ev (fun k => impl_WorldText k W) (s, true) ∧ Ev (fun k => spec_WorldText k W) (s, true) ∧ s.size ≤ 100 ∧ ∃ rl a b cs x y wy, W = (rl, ((a : Nat) : Int), ((b : Nat) : Int), cs, ((x : Nat) : Int), ((y : Nat) : Int), ((wy : Nat) : Int)) ∧ WParts s rl a b cs x y wy := by
  obtain ⟨z1, z2⟩ := okO_size H
  have ha := (isW_ev W (by omega) (by omega)).isT H
  have hb := (goodW_ev W).isT H
  obtain ⟨rl, a, b, cs, x, y, wy, rfl, HW⟩ := okO_nat H
  exact ⟨worT rl a b cs x y wy, Ev.step (fun k => impl_WorldText.eq k rl a b cs x y wy) (Ev.bind ha (Ev.no rfl (Ev.bind (wtext_i HW) (Ev.now _)))), Ev.step (fun k => spec_WorldText.eq k rl a b cs x y wy) (Ev.bind hb (Ev.no rfl (Ev.bind (wtext_s HW) (Ev.now _)))), worT_size rl a b cs x y wy HW, rl, a, b, cs, x, y, wy, rfl, text_wparts rl a b cs x y wy HW⟩
theorem wtext_no {W : Wo} (hr : W.1.size ≤ 1048576) (hc : W.2.2.2.1.size ≤ 1048576) (H : ¬ OkO W) : Ev (fun k => impl_WorldText k W) (ByteArray.empty, false) ∧ Ev (fun k => spec_WorldText k W) (ByteArray.empty, false) := by
  have ha := (isW_ev W hr hc).isF H
  have hb := (goodW_ev W).isF H
  obtain ⟨rl, w, h, cs, x, y, wy⟩ := W
  exact ⟨Ev.step (fun k => impl_WorldText.eq k rl w h cs x y wy) (Ev.bind ha (Ev.yes rfl (Ev.now _))), Ev.step (fun k => spec_WorldText.eq k rl w h cs x y wy) (Ev.bind hb (Ev.yes rfl (Ev.now _)))⟩
/-! ### Reading -/
theorem parseI_ev (s : ByteArray) (hs : s.size ≤ 1048576) : ∃ r, Ev (fun k => impl_ParseWorld k s) r ∧ WAns s r := by
  have hsp : Ev (fun k => strings_Split k (s, bs [58])) (splitS 58 s) := Ev.step (fun k => (strings_Split.eq k (s, bs [58])).trans (strSplit_pieces s 58 (by omega))) (Ev.now _)
  by_cases h4 : (splitS 58 s).length = 4
  rotate_left
  · refine ⟨(zeroO, false), Ev.step (fun k => impl_ParseWorld.eq k s) (Ev.bind hsp (Ev.yes (len_ne h4) (Ev.now _))), .inr ⟨fun rl a b cs x y wy h => ?_, rfl⟩⟩
    obtain ⟨p, q, e1, _⟩ := h.all
    rw [e1] at h4
    exact h4 rfl
  have hpc := splitS_piece 58 s
  obtain ⟨rl, p, cs, q, e⟩ := four h4
  rw [e] at hsp hpc
  have hrl := hpc rl (by simp)
  have hp := hpc p (by simp)
  have hcs := hpc cs (by simp)
  have hq := hpc q (by simp)
  have parts : ∀ {rl' : ByteArray} {a b : Nat} {cs' : ByteArray} {x y wy : Nat}, WParts s rl' a b cs' x y wy → rl' = rl ∧ cs' = cs ∧ splitS 120 p = [decS a, decS b] ∧ splitS 44 q = [decS x, decS y, decS wy] := fun {rl' a b cs' x y wy} h => by
    obtain ⟨p', q', e1, e2, e3⟩ := h.all
    rw [e] at e1
    simp only [List.cons.injEq, and_true] at e1
    obtain ⟨rfl, rfl, rfl, rfl⟩ := e1
    exact ⟨rfl, rfl, e2, e3⟩
  have nums : ∀ {rl' : ByteArray} {a b : Nat} {cs' : ByteArray} {x y wy : Nat}, WParts s rl' a b cs' x y wy → NumsOk 120 p 2 9 [a, b] ∧ NumsOk 44 q 3 9 [x, y, wy] := fun {rl' a b cs' x y wy} h => by
    obtain ⟨_, _, e2, e3⟩ := parts h
    obtain ⟨hR, hw, hh, hs, _, hx, hy, hwy⟩ := h.ok
    refine ⟨⟨rfl, fun n hn => ?_, e2⟩, ⟨rfl, fun n hn => ?_, e3⟩⟩
    · simp only [List.mem_cons, List.not_mem_nil, or_false] at hn
      omega
    · simp only [List.mem_cons, List.not_mem_nil, or_false] at hn
      omega
  have n1 := numbers_ev p 120 2 9 (by omega) (by omega) (by omega)
  have n2 := numbers_ev q 44 3 9 (by omega) (by omega) (by omega)
  have st : ∀ (l1 l2 : List Int) (o1 o2 : Bool) (v : Wo × Bool), l1.length = 2 → l2.length = 3 → Ev (fun k => impl_numbers k (p, bs [120], 2, 9)) (l1, o1) → Ev (fun k => impl_numbers k (q, bs [44], 3, 9)) (l2, o2) →
      Ev (fun k => cond (!o1) (some (zeroO, false)) (cond (!o2) (some (zeroO, false)) ((impl_IsWorld k (rl, l1.getD 0 default, l1.getD 1 default, cs, l2.getD 0 default, l2.getD 1 default, l2.getD 2 default)).bind fun r4 => cond (!r4) (some (zeroO, false)) (some ((rl, l1.getD 0 default, l1.getD 1 default, cs, l2.getD 0 default, l2.getD 1 default, l2.getD 2 default), true))))) v → Ev (fun k => impl_ParseWorld k s) v := fun l1 l2 o1 o2 v z1 z2 q1 q2 hv => by
    have i0 : inB 0 l1.length = true := inB_of (by omega) (by omega)
    have i1 : inB 1 l1.length = true := inB_of (by omega) (by omega)
    have j0 : inB 0 l2.length = true := inB_of (by omega) (by omega)
    have j1 : inB 1 l2.length = true := inB_of (by omega) (by omega)
    have j2 : inB 2 l2.length = true := inB_of (by omega) (by omega)
    exact Ev.step (fun k => impl_ParseWorld.eq k s) (Ev.bind hsp (Ev.no rfl (Ev.yes rfl (Ev.bind q1 (Ev.yes rfl (Ev.bind q2 (Ev.yes rfl (Ev.yes i0 (Ev.yes i1 (Ev.yes rfl (Ev.yes j0 (Ev.yes j1 (Ev.yes j2 hv)))))))))))))
  rcases n1 with ⟨l, g1, g2⟩ | ⟨g1, g2⟩
  rotate_left
  · have no : ∀ (rl' : ByteArray) (a b : Nat) (cs' : ByteArray) (x y wy : Nat), ¬ WParts s rl' a b cs' x y wy := fun rl' a b cs' x y wy h => g1 _ (nums h).1
    rcases n2 with ⟨l2, f1, f2⟩ | ⟨f1, f2⟩
    · exact ⟨(zeroO, false), st _ _ _ _ _ (by simp) (by rw [List.length_map]; exact f1.1) g2 f2 (Ev.yes rfl (Ev.now _)), .inr ⟨no, rfl⟩⟩
    · exact ⟨(zeroO, false), st _ _ _ _ _ (by simp) (by simp) g2 f2 (Ev.yes rfl (Ev.now _)), .inr ⟨no, rfl⟩⟩
  obtain ⟨a, b, rfl⟩ := two g1.1
  rcases n2 with ⟨l2, f1, f2⟩ | ⟨f1, f2⟩
  rotate_left
  · exact ⟨(zeroO, false), st _ _ _ _ _ rfl (by simp) g2 f2 (Ev.no rfl (Ev.yes rfl (Ev.now _))), .inr ⟨fun rl' a b cs' x y wy h => f1 _ (nums h).2, rfl⟩⟩
  obtain ⟨x, y, wy, rfl⟩ := three f1.1
  have W := isW_ev (rl, (a : Int), (b : Int), cs, (x : Int), (y : Int), (wy : Int)) (by show rl.size ≤ _; omega) (by show cs.size ≤ _; omega)
  by_cases H : OkO (rl, (a : Int), (b : Int), cs, (x : Int), (y : Int), (wy : Int))
  · exact ⟨_, st _ _ _ _ _ rfl rfl g2 f2 (Ev.no rfl (Ev.no rfl (Ev.bind (W.isT H) (Ev.no rfl (Ev.now _))))), .inl ⟨rl, a, b, cs, x, y, wy, ⟨⟨p, q, e, g1.2.2, f1.2.2⟩, H⟩, rfl⟩⟩
  · refine ⟨(zeroO, false), st _ _ _ _ _ rfl rfl g2 f2 (Ev.no rfl (Ev.no rfl (Ev.bind (W.isF H) (Ev.yes rfl (Ev.now _))))), .inr ⟨fun rl' a' b' cs' x' y' wy' h => H ?_, rfl⟩⟩
    obtain ⟨rfl, rfl, e2, e3⟩ := parts h
    have k1 := g1.2.2.symm.trans e2
    have k2 := f1.2.2.symm.trans e3
    simp only [List.map_cons, List.map_nil, List.cons.injEq, and_true] at k1 k2
    obtain ⟨k1, k3⟩ := k1
    obtain ⟨k2, k4, k5⟩ := k2
    rw [decS_inj k1, decS_inj k3, decS_inj k2, decS_inj k4, decS_inj k5]
    exact h.ok
theorem parseS_ev (s : ByteArray) (hs : s.size ≤ 1048576) : ∃ r, Ev (fun k => spec_ParseWorld k s) r ∧ WAns s r := by
  have out : ∀ v : Wo × Bool, Ev (fun k => spec_woParse k s) v → Ev (fun k => spec_ParseWorld k s) v := fun v h => Ev.step (fun k => spec_ParseWorld.eq k s) (Ev.bind h (Ev.now _))
  have bad : (∀ (rl : ByteArray) (a b : Nat) (cs : ByteArray) (x y wy : Nat), ¬ WParts s rl a b cs x y wy) → Ev (fun k => spec_woParse k s) (zeroO, false) → ∃ r, Ev (fun k => spec_ParseWorld k s) r ∧ WAns s r := fun h1 h2 => ⟨_, out _ h2, .inr ⟨h1, rfl⟩⟩
  have hsp := l1Split_ev s 58 hs
  by_cases hbig : (s.size : Int) > 120
  · refine bad (fun rl a b cs x y wy h => ?_) (Ev.step (fun k => spec_woParse.eq k s) (Ev.bind hsp (Ev.yes (decide_eq_true hbig) (Ev.now _))))
    have e := wtext_eq s rl a b cs x y wy h
    have := worT_size rl a b cs x y wy h.ok
    rw [← e] at this
    omega
  by_cases h4 : (splitS 58 s).length = 4
  rotate_left
  · refine bad (fun rl a b cs x y wy h => ?_) (Ev.step (fun k => spec_woParse.eq k s) (Ev.bind hsp (Ev.no (decide_eq_false hbig) (Ev.yes (len_ne h4) (Ev.now _)))))
    obtain ⟨p, q, e1, _⟩ := h.all
    rw [e1] at h4
    exact h4 rfl
  have hpc := splitS_piece 58 s
  obtain ⟨rl, p, cs, q, e⟩ := four h4
  rw [e] at hsp hpc
  have hp := hpc p (by simp)
  have hq := hpc q (by simp)
  have parts : ∀ {rl' : ByteArray} {a b : Nat} {cs' : ByteArray} {x y wy : Nat}, WParts s rl' a b cs' x y wy → rl' = rl ∧ cs' = cs ∧ splitS 120 p = [decS a, decS b] ∧ splitS 44 q = [decS x, decS y, decS wy] := fun {rl' a b cs' x y wy} h => by
    obtain ⟨p', q', e1, e2, e3⟩ := h.all
    rw [e] at e1
    simp only [List.cons.injEq, and_true] at e1
    obtain ⟨rfl, rfl, rfl, rfl⟩ := e1
    exact ⟨rfl, rfl, e2, e3⟩
  have s1 := l1Split_ev p 120 (by omega)
  have s2 := l1Split_ev q 44 (by omega)
  have c1 := splitS_piece 120 p
  have c2 := splitS_piece 44 q
  have st : ∀ v, Ev (fun k => cond (((splitS 120 p).length : Int) != 2) (some (zeroO, false)) _) v → Ev (fun k => spec_woParse k s) v := fun v hv =>
    Ev.step (fun k => spec_woParse.eq k s) (Ev.bind hsp (Ev.no (decide_eq_false hbig) (Ev.no rfl (Ev.yes rfl (Ev.bind s1 (Ev.yes rfl (Ev.bind s2 hv)))))))
  by_cases h2 : (splitS 120 p).length = 2
  rotate_left
  · refine bad (fun rl' a b cs' x y wy h => h2 ?_) (st _ (Ev.yes (len_ne h2) (Ev.now _)))
    rw [(parts h).2.2.1]
    rfl
  by_cases h3 : (splitS 44 q).length = 3
  rotate_left
  · refine bad (fun rl' a b cs' x y wy h => h3 ?_) (st _ (Ev.no (by rw [h2]; rfl) (Ev.yes (len_ne h3) (Ev.now _))))
    rw [(parts h).2.2.2]
    rfl
  obtain ⟨u1, u2, e2⟩ := two h2
  obtain ⟨t1, t2, t3, e3⟩ := three h3
  rw [e2, e3] at st
  rw [e2] at c1
  rw [e3] at c2
  obtain ⟨v1, r1, i1⟩ := l1Read_ev u1 (by have := c1 u1 (by simp); omega)
  obtain ⟨v2, r2, i2⟩ := l1Read_ev u2 (by have := c1 u2 (by simp); omega)
  obtain ⟨v3, r3, i3⟩ := l1Read_ev t1 (by have := c2 t1 (by simp); omega)
  obtain ⟨v4, r4, i4⟩ := l1Read_ev t2 (by have := c2 t2 (by simp); omega)
  obtain ⟨v5, r5, i5⟩ := l1Read_ev t3 (by have := c2 t3 (by simp); omega)
  have st2 : ∀ v, Ev (fun k => (spec_woGood k (rl, v1, v2, cs, v3, v4, v5)).bind fun r9 => cond (!r9) (some (zeroO, false)) (some ((rl, v1, v2, cs, v3, v4, v5), true))) v → Ev (fun k => spec_woParse k s) v := fun v hv =>
    st v (Ev.no rfl (Ev.no rfl (Ev.yes rfl (Ev.yes rfl (Ev.bind r1 (Ev.yes rfl (Ev.bind r2 (Ev.yes rfl (Ev.yes rfl (Ev.bind r3 (Ev.yes rfl (Ev.bind r4 (Ev.yes rfl (Ev.bind r5 hv))))))))))))))
  have G := goodW_ev (rl, v1, v2, cs, v3, v4, v5)
  by_cases H : OkO (rl, v1, v2, cs, v3, v4, v5)
  · have H' : WorldOk rl v1 v2 cs v3 v4 v5 := H
    obtain ⟨hR, hw, hh, hs', _, hx, hy, hwy⟩ := id H'
    obtain ⟨a, rfl, ja⟩ := isNum_of i1 (by omega)
    obtain ⟨b, rfl, jb⟩ := isNum_of i2 (by omega)
    obtain ⟨x, rfl, jx⟩ := isNum_of i3 hx.1
    obtain ⟨y, rfl, jy⟩ := isNum_of i4 hy.1
    obtain ⟨wy, rfl, jw⟩ := isNum_of i5 hwy.1
    exact ⟨_, out _ (st2 _ (Ev.bind (G.isT H) (Ev.no rfl (Ev.now _)))), .inl ⟨rl, a, b, cs, x, y, wy, ⟨⟨p, q, e, by rw [e2, ja, jb], by rw [e3, jx, jy, jw]⟩, H'⟩, rfl⟩⟩
  · refine bad (fun rl' a b cs' x y wy h => H ?_) (st2 _ (Ev.bind (G.isF H) (Ev.yes rfl (Ev.now _))))
    obtain ⟨rfl, rfl, q1, q2⟩ := parts h
    rw [e2] at q1
    rw [e3] at q2
    simp only [List.cons.injEq, and_true] at q1 q2
    obtain ⟨rfl, rfl⟩ := q1
    obtain ⟨rfl, rfl, rfl⟩ := q2
    have HW := h.ok
    obtain ⟨hR, hw, hh, hs', _, hx, hy, hwy⟩ := id HW
    rw [isNum_dec (by omega) i1, isNum_dec (by omega) i2, isNum_dec (by omega) i3, isNum_dec (by omega) i4, isNum_dec (by omega) i5]
    exact HW
theorem parseW_both (s : ByteArray) (hs : s.size ≤ 1048576) : ∃ r : Wo × Bool, Ev (fun k => impl_ParseWorld k s) r ∧ Ev (fun k => spec_ParseWorld k s) r ∧ (r.2 = true → Ev (fun k => impl_WorldText k r.1) (s, true)) := by
  obtain ⟨r, e, A⟩ := parseI_ev s hs
  obtain ⟨r', e', A'⟩ := parseS_ev s hs
  obtain rfl := A.one A'
  refine ⟨r, e, e', fun hr => ?_⟩
  rcases A with ⟨rl, a, b, cs, x, y, wy, h, rfl⟩ | ⟨_, rfl⟩
  · have HW := h.ok
    have H : OkO (rl, (a : Int), (b : Int), cs, (x : Int), (y : Int), (wy : Int)) := HW
    obtain ⟨z1, z2⟩ := okO_size H
    have ha := (isW_ev _ (by omega) (by omega)).isT H
    have et := wtext_eq s rl a b cs x y wy h
    have t := wtext_i HW
    rw [← et] at t
    exact Ev.step (fun k => impl_WorldText.eq k rl a b cs x y wy) (Ev.bind ha (Ev.no rfl (Ev.bind t (Ev.now _))))
  · exact Bool.noConfusion hr
/-- A world's text is read as that world. -/
theorem parse_text {W : Wo} (H : OkO W) : ∃ s, Ev (fun k => impl_WorldText k W) (s, true) ∧ Ev (fun k => spec_WorldText k W) (s, true) ∧ Ev (fun k => impl_ParseWorld k s) (W, true) := by
  obtain ⟨s, e1, e2, z, rl, a, b, cs, x, y, wy, rfl, P⟩ := wtext_ok H
  obtain ⟨r, e, A⟩ := parseI_ev s (by omega)
  have er : r = ((rl, (a : Int), (b : Int), cs, (x : Int), (y : Int), (wy : Int)), true) := A.one (.inl ⟨rl, a, b, cs, x, y, wy, P, rfl⟩)
  exact ⟨s, e1, e2, er ▸ e⟩
def paintW : Wo → Int → Int → Int → Wo
  | (rl, w, h, cs, X, Y, wy), x, y, c => (rl, w, h, putB w cs x y c, X, Y, wy)
def colW (W : Wo) (x y : Int) : Int := colB W.2.1 W.2.2.2.1 x y
theorem colourAt_yes : ∀ {W : Wo} {x y : Int}, OkO W → InR W.2.1 W.2.2.1 x y → Ev (fun k => impl_ColourAt k (W, x, y)) (colW W x y, true) ∧ Ev (fun k => spec_ColourAt k (W, x, y)) (colW W x y, true)
  | (rl, w, h, cs, X, Y, wy), x, y, H, hin => by
    obtain ⟨z1, z2⟩ := okO_size H
    have a := (isPlace_ev (rl, w, h, cs, X, Y, wy) (by omega) (by omega) x y).isT ⟨H, hin⟩
    have b := (woCell_ev (rl, w, h, cs, X, Y, wy) x y).isT ⟨H, hin⟩
    have HW : WorldOk rl w h cs X Y wy := H
    obtain ⟨hR, hw, hh, hs, hcs, _⟩ := id HW
    have hr6 := hR.1
    have hin : InR w h x y := hin
    obtain ⟨c, hc, e, c48, cti⟩ := cell_ex (rl := rl) hw hh hs hcs hin.1 hin.2
    obtain ⟨a1, a2, a3, a4⟩ := at_range hin.1 hin.2 hw hh
    have eA := at64 hin.1 hin.2 hw hh
    refine ⟨Ev.step (fun k => impl_ColourAt.eq k rl w h cs X Y wy x y) (Ev.bind a (Ev.no rfl ?_)), Ev.step (fun k => spec_ColourAt.eq k rl w h cs X Y wy x y) (Ev.bind b (Ev.no rfl (Ev.bind (woColour_at HW hin hc) (Ev.now' ?_))))⟩
    · rw [eA, bt_at hc]
      refine Ev.yes (inB_of a3 (by omega)) (Ev.now' ?_)
      show (w64 (w8 ((c.toNat : Int) - 48)), true) = (colB w cs x y, true)
      rw [w8_of (by omega) (by have := c.toNat_lt; omega), w64_of (by omega) (by omega), e]
    · show ((c.toNat : Int) - 48, true) = (colB w cs x y, true)
      rw [e]
theorem colourAt_no : ∀ {W : Wo} {x y : Int}, W.1.size ≤ 1048576 → W.2.2.2.1.size ≤ 1048576 → ¬ (OkO W ∧ InR W.2.1 W.2.2.1 x y) → Ev (fun k => impl_ColourAt k (W, x, y)) (0, false) ∧ Ev (fun k => spec_ColourAt k (W, x, y)) (0, false)
  | (rl, w, h, cs, X, Y, wy), x, y, z1, z2, H => by
    have a := (isPlace_ev (rl, w, h, cs, X, Y, wy) z1 z2 x y).isF H
    have b := (woCell_ev (rl, w, h, cs, X, Y, wy) x y).isF H
    exact ⟨Ev.step (fun k => impl_ColourAt.eq k rl w h cs X Y wy x y) (Ev.bind a (Ev.yes rfl (Ev.now _))), Ev.step (fun k => spec_ColourAt.eq k rl w h cs X Y wy x y) (Ev.bind b (Ev.yes rfl (Ev.now _)))⟩
theorem paint_yes : ∀ {W : Wo} {x y c : Int}, OkO W → InR W.2.1 W.2.2.1 x y → (0 ≤ c ∧ c ≤ (W.1.size : Int) - 1) → Ev (fun k => impl_PaintCell k (W, x, y, c)) (paintW W x y c, true) ∧ Ev (fun k => spec_PaintCell k (W, x, y, c)) (paintW W x y c, true) ∧ OkO (paintW W x y c) ∧ colW (paintW W x y c) x y = c ∧ paintW (paintW W x y c) x y (colW W x y) = W ∧ (0 ≤ colW W x y ∧ colW W x y ≤ (W.1.size : Int) - 1)
  | (rl, w, h, cs, X, Y, wy), x, y, c, H, hin, hc => by
    obtain ⟨z1, z2⟩ := okO_size H
    have a := (isPlace_ev (rl, w, h, cs, X, Y, wy) (by omega) (by omega) x y).isT ⟨H, hin⟩
    have b := (woCell_ev (rl, w, h, cs, X, Y, wy) x y).isT ⟨H, hin⟩
    have HW : WorldOk rl w h cs X Y wy := H
    obtain ⟨hR, hw, hh, hs, hcs, hx, hy, hwy⟩ := id HW
    have hr6 := hR.1
    have hin : InR w h x y := hin
    have hc : 0 ≤ c ∧ c ≤ (rl.size : Int) - 1 := hc
    obtain ⟨a1, a2, a3, a4⟩ := at_range hin.1 hin.2 hw hh
    have eA := at64 hin.1 hin.2 hw hh
    have eR : w64 ((rl.size : Int) - 1) = (rl.size : Int) - 1 := w64_of (by omega) (by omega)
    obtain ⟨p1, p2⟩ := put_same (rl := rl) hw hh hs hcs hin.1 hin.2 c (by omega)
    obtain ⟨c0, _, e0, q1, q2⟩ := cell_ex (rl := rl) hw hh hs hcs hin.1 hin.2
    refine ⟨Ev.step (fun k => impl_PaintCell.eq k rl w h cs X Y wy x y c) (Ev.bind a (Ev.no rfl ?_)), Ev.step (fun k => spec_PaintCell.eq k rl w h cs X Y wy x y c) (Ev.bind b (Ev.no rfl ?_)), (show WorldOk rl w h (putB w cs x y c) X Y wy from ⟨hR, hw, hh, by unfold putB; rw [setByte_size]; exact hs, by unfold putB; exact cells_set hcs _ hc (by omega), hx, hy, hwy⟩), p1, ?_, ?_⟩
    · rw [eR, eA]
      exact Ev.bind ((within_ev c 0 _).isT hc) (Ev.no rfl (Ev.bind (painted_ev cs _ c ⟨a3, by omega⟩ (by omega)) (Ev.now _)))
    · rw [eR]
      exact Ev.bind ((l1In_ev c 0 _).isT hc) (Ev.no rfl (Ev.bind (woPaint_ev rl w h cs X Y wy x y c hw hh hin.1 hin.2 hs (by omega)) (Ev.now _)))
    · show (rl, w, h, putB w (putB w cs x y c) x y (colB w cs x y), X, Y, wy) = _
      rw [p2]
    · show 0 ≤ colB w cs x y ∧ colB w cs x y ≤ (rl.size : Int) - 1
      rw [e0]
      omega
theorem paint_no : ∀ {W : Wo} {x y c : Int}, W.1.size ≤ 1048576 → W.2.2.2.1.size ≤ 1048576 → ¬ ((OkO W ∧ InR W.2.1 W.2.2.1 x y) ∧ (0 ≤ c ∧ c ≤ (W.1.size : Int) - 1)) → Ev (fun k => impl_PaintCell k (W, x, y, c)) (zeroO, false) ∧ Ev (fun k => spec_PaintCell k (W, x, y, c)) (zeroO, false)
  | (rl, w, h, cs, X, Y, wy), x, y, c, z1, z2, H => by
    have z1 : rl.size ≤ 1048576 := z1
    have eR : w64 ((rl.size : Int) - 1) = (rl.size : Int) - 1 := w64_of (by omega) (by omega)
    have A := isPlace_ev (rl, w, h, cs, X, Y, wy) z1 z2 x y
    have B := woCell_ev (rl, w, h, cs, X, Y, wy) x y
    by_cases P : OkO (rl, w, h, cs, X, Y, wy) ∧ InR w h x y
    · have hc : ¬ (0 ≤ c ∧ c ≤ (rl.size : Int) - 1) := fun hc => H ⟨P, hc⟩
      refine ⟨Ev.step (fun k => impl_PaintCell.eq k rl w h cs X Y wy x y c) (Ev.bind (A.isT P) (Ev.no rfl ?_)), Ev.step (fun k => spec_PaintCell.eq k rl w h cs X Y wy x y c) (Ev.bind (B.isT P) (Ev.no rfl ?_))⟩
      · rw [eR]
        exact Ev.bind ((within_ev c 0 _).isF hc) (Ev.yes rfl (Ev.now _))
      · rw [eR]
        exact Ev.bind ((l1In_ev c 0 _).isF hc) (Ev.yes rfl (Ev.now _))
    · exact ⟨Ev.step (fun k => impl_PaintCell.eq k rl w h cs X Y wy x y c) (Ev.bind (A.isF P) (Ev.yes rfl (Ev.now _))), Ev.step (fun k => spec_PaintCell.eq k rl w h cs X Y wy x y c) (Ev.bind (B.isF P) (Ev.yes rfl (Ev.now _)))⟩
theorem place_both : ∀ (W : Wo) (x y v : Int), W.1.size ≤ 1048576 → W.2.2.2.1.size ≤ 1048576 → ∃ r : Wo × Bool, Ev (fun k => impl_PlaceAnt k (W, x, y, v)) r ∧ Ev (fun k => spec_PlaceAnt k (W, x, y, v)) r ∧ (r.2 = true → r.1.2.2.2.2.1 = x ∧ r.1.2.2.2.2.2.1 = y ∧ r.1.2.2.2.2.2.2 = v ∧ r.1.2.2.2.1 = W.2.2.2.1)
  | (rl, w, h, cs, X, Y, wy), x, y, v, z1, z2 => by
    have A := isPlace_ev (rl, w, h, cs, X, Y, wy) z1 z2 x y
    have B := woCell_ev (rl, w, h, cs, X, Y, wy) x y
    have V : EvB (fun k => impl_isWay k v) (0 ≤ v ∧ v ≤ 3) := EvB.step (fun k => impl_isWay.eq k v) (within_ev v 0 3).ret
    have U := l1In_ev v 0 3
    by_cases P : OkO (rl, w, h, cs, X, Y, wy) ∧ InR w h x y
    · by_cases hv : 0 ≤ v ∧ v ≤ 3
      · exact ⟨((rl, w, h, cs, x, y, v), true), Ev.step (fun k => impl_PlaceAnt.eq k rl w h cs X Y wy x y v) (Ev.bind (A.isT P) (Ev.no rfl (Ev.bind (V.isT hv) (Ev.no rfl (Ev.now _))))), Ev.step (fun k => spec_PlaceAnt.eq k rl w h cs X Y wy x y v) (Ev.bind (B.isT P) (Ev.no rfl (Ev.bind (U.isT hv) (Ev.no rfl (Ev.now _))))), fun _ => ⟨rfl, rfl, rfl, rfl⟩⟩
      · exact ⟨(zeroO, false), Ev.step (fun k => impl_PlaceAnt.eq k rl w h cs X Y wy x y v) (Ev.bind (A.isT P) (Ev.no rfl (Ev.bind (V.isF hv) (Ev.yes rfl (Ev.now _))))), Ev.step (fun k => spec_PlaceAnt.eq k rl w h cs X Y wy x y v) (Ev.bind (B.isT P) (Ev.no rfl (Ev.bind (U.isF hv) (Ev.yes rfl (Ev.now _))))), nofun⟩
    · exact ⟨(zeroO, false), Ev.step (fun k => impl_PlaceAnt.eq k rl w h cs X Y wy x y v) (Ev.bind (A.isF P) (Ev.yes rfl (Ev.now _))), Ev.step (fun k => spec_PlaceAnt.eq k rl w h cs X Y wy x y v) (Ev.bind (B.isF P) (Ev.yes rfl (Ev.now _))), nofun⟩
/-! ### Rules and empty worlds -/
theorem other_both (rl : ByteArray) (hz : rl.size ≤ 1048576) : ∃ r : ByteArray × Bool, Ev (fun k => impl_OtherRule k rl) r ∧ Ev (fun k => spec_OtherRule k rl) r ∧ ((RuleOk rl ∧ r = (oth rl, true)) ∨ (¬ RuleOk rl ∧ r = (ByteArray.empty, false))) := by
  have A := isRuleR_ev rl (by omega)
  have B := woRuleR_ev rl
  by_cases h : RuleOk rl
  · exact ⟨(oth rl, true), Ev.step (fun k => impl_OtherRule.eq k rl) (Ev.bind (A.isT h) (Ev.no rfl (Ev.bind (other_ev rl hz) (Ev.now _)))), Ev.step (fun k => spec_OtherRule.eq k rl) (Ev.bind (B.isT h) (Ev.no rfl (Ev.bind (woOther_ev rl hz) (Ev.now _)))), .inl ⟨h, rfl⟩⟩
  · exact ⟨(ByteArray.empty, false), Ev.step (fun k => impl_OtherRule.eq k rl) (Ev.bind (A.isF h) (Ev.yes rfl (Ev.now _))), Ev.step (fun k => spec_OtherRule.eq k rl) (Ev.bind (B.isF h) (Ev.yes rfl (Ev.now _))), .inr ⟨h, rfl⟩⟩
theorem other_back {rl : ByteArray} (h : RuleOk rl) : Ev (fun k => impl_OtherRule k (oth rl)) (rl, true) := by
  have h1 := h.1
  obtain ⟨r, e, _, q⟩ := other_both (oth rl) (by rw [oth_size]; omega)
  rcases q with ⟨_, rfl⟩ | ⟨q, _⟩
  · rw [oth_oth] at e
    exact e
  · exact absurd (ruleOk_oth h) q
def zerosW (n : Nat) : ByteArray := bs (List.replicate n 48)
theorem zerosW_list (n : Nat) : (zerosW n).data.toList = List.replicate n 48 := rfl
theorem zerosW_size (n : Nat) : (zerosW n).size = n := by rw [size_list, zerosW_list, List.length_replicate]
theorem rep_one (c : UInt8) : ∀ n : Nat, Lib.repeatL [c] n = List.replicate n c
  | 0 => rfl
  | n + 1 => by
    have ih := rep_one c n
    simp only [Lib.repeatL] at ih ⊢
    simp [List.replicate_succ] at ih ⊢
    try exact ih
theorem repeatW_ev (n : Nat) (hn : n ≤ 1000) : Ev (fun k => strings_Repeat k (bs [48], (n : Int))) (zerosW n) :=
  Ev.step (fun k => (strings_Repeat.eq k (bs [48], (n : Int))).trans (show strRep (bs [48]) (n : Int) = some (zerosW n) from by
    unfold strRep
    rw [if_pos ⟨⟨by omega, by omega⟩, by decide⟩]
    congr 1
    apply ba_ext
    show Lib.repeatL [48] (n : Int).toNat = List.replicate n 48
    rw [Int.toNat_natCast, rep_one])) (Ev.now _)
theorem isSizeW_ev (w h : Int) : EvB (fun k => impl_isSize k (w, h)) ((1 ≤ w ∧ w ≤ 9) ∧ (1 ≤ h ∧ h ≤ 9)) := EvB.step (fun k => impl_isSize.eq k w h) (EvB.and (within_ev w 1 9) fun _ => (within_ev h 1 9).ret)
theorem emptyW_both (rl : ByteArray) (w h : Int) (hz : rl.size ≤ 1048576) : ∃ r : Wo × Bool, Ev (fun k => impl_EmptyWorld k (rl, w, h)) r ∧ Ev (fun k => spec_EmptyWorld k (rl, w, h)) r ∧ (r.2 = true → r.1 = (rl, w, h, zerosW (w * h).toNat, 0, 0, 0) ∧ OkO r.1) := by
  have A := isRuleR_ev rl (by omega)
  have B := woRuleR_ev rl
  have S := isSizeW_ev w h
  have S3 := l1In_ev w 1 9
  have S4 := l1In_ev h 1 9
  by_cases hR : RuleOk rl
  rotate_left
  · exact ⟨(zeroO, false), Ev.step (fun k => impl_EmptyWorld.eq k rl w h) (Ev.bind (A.isF hR) (Ev.yes rfl (Ev.now _))), Ev.step (fun k => spec_EmptyWorld.eq k rl w h) (Ev.bind (B.isF hR) (Ev.yes rfl (Ev.now _))), nofun⟩
  by_cases hw : 1 ≤ w ∧ w ≤ 9
  rotate_left
  · exact ⟨(zeroO, false), Ev.step (fun k => impl_EmptyWorld.eq k rl w h) (Ev.bind (A.isT hR) (Ev.no rfl (Ev.bind (S.isF fun q => hw q.1) (Ev.yes rfl (Ev.now _))))), Ev.step (fun k => spec_EmptyWorld.eq k rl w h) (Ev.bind (B.isT hR) (Ev.no rfl (Ev.bind (S3.isF hw) (Ev.yes rfl (Ev.now _))))), nofun⟩
  by_cases hh : 1 ≤ h ∧ h ≤ 9
  rotate_left
  · exact ⟨(zeroO, false), Ev.step (fun k => impl_EmptyWorld.eq k rl w h) (Ev.bind (A.isT hR) (Ev.no rfl (Ev.bind (S.isF fun q => hh q.2) (Ev.yes rfl (Ev.now _))))), Ev.step (fun k => spec_EmptyWorld.eq k rl w h) (Ev.bind (B.isT hR) (Ev.no rfl (Ev.bind (S3.isT hw) (Ev.no rfl (Ev.bind (S4.isF hh) (Ev.yes rfl (Ev.now _))))))), nofun⟩
  have hm := mul_range (a := w) (b := h) hw.1 hw.2 hh.1 hh.2
  have hr6 := hR.1
  have e1 : w64 (w * h) = ((w * h).toNat : Int) := by rw [w64_of (by omega) (by omega)]; omega
  refine ⟨((rl, w, h, zerosW (w * h).toNat, 0, 0, 0), true), Ev.step (fun k => impl_EmptyWorld.eq k rl w h) (Ev.bind (A.isT hR) (Ev.no rfl (Ev.bind (S.isT ⟨hw, hh⟩) (Ev.no rfl (Ev.bind ?_ (Ev.now _)))))), Ev.step (fun k => spec_EmptyWorld.eq k rl w h) (Ev.bind (B.isT hR) (Ev.no rfl (Ev.bind (S3.isT hw) (Ev.no rfl (Ev.bind (S4.isT hh) (Ev.no rfl (Ev.bind ?_ (Ev.now _)))))))), fun _ => ⟨rfl, (show WorldOk rl w h (zerosW (w * h).toNat) 0 0 0 from ⟨hR, hw, hh, by rw [zerosW_size]; omega, fun c hc => ?_, by omega, by omega, by omega⟩)⟩⟩
  · rw [e1]
    exact repeatW_ev _ (by omega)
  · rw [e1]
    exact woZeros_ev _ (by omega)
  · rw [zerosW_list] at hc
    rw [List.eq_of_mem_replicate hc]
    exact ⟨by decide, by show (48 : Int) ≤ _; omega⟩
theorem count_zero {rl : ByteArray} {w h : Int} (H : OkO (rl, w, h, zerosW (w * h).toNat, 0, 0, 0)) : ∃ R, Ev (fun k => impl_CountColours k (rl, w, h, zerosW (w * h).toNat, 0, 0, 0)) (R, true) ∧ 1 ≤ R.length ∧ R.getD 0 default = w64 (w * h) := by
  obtain ⟨z1, z2⟩ := okO_size H
  have a := (isW_ev (rl, w, h, zerosW (w * h).toNat, 0, 0, 0) (by simp only at z1 ⊢; omega) (by simp only at z2 ⊢; omega)).isT H
  have HW : WorldOk rl w h (zerosW (w * h).toNat) 0 0 0 := H
  obtain ⟨hR, hw, hh, hs, _⟩ := HW
  have hr6 := hR.1
  have hm := mul_range (a := w) (b := h) hw.1 hw.2 hh.1 hh.2
  obtain ⟨m, hmz⟩ : ∃ m, rl.size = m + 1 := ⟨rl.size - 1, by omega⟩
  have hbl : (bytesOf (zerosW (w * h).toNat)).length = (w * h).toNat := by unfold bytesOf; rw [List.length_map, zerosW_list, List.length_replicate]
  have hgt : ∀ i : Nat, i < (w * h).toNat → (bytesOf (zerosW (w * h).toNat)).getD i default = 48 := fun i hi => getD_at (by unfold bytesOf; rw [zerosW_list, List.getElem?_map, List.getElem?_replicate, if_pos hi]; rfl)
  have loop : ∀ (n i : Nat), i + n = (w * h).toNat → Ev (fun k => impl_CountColours_l k ((i : Int) :: List.replicate m 0, bytesOf (zerosW (w * h).toNat), (((w * h).toNat : Nat) : Int), (i : Int))) ((((w * h).toNat : Nat) : Int) :: List.replicate m 0) := by
    intro n
    induction n with
    | zero =>
      intro i hi
      obtain rfl : i = (w * h).toNat := by omega
      exact Ev.step (fun k => impl_CountColours_l.eq k _ _ _ _) (Ev.no (not_lt_nat (Nat.lt_irrefl _)) (Ev.now _))
    | succ n ih =>
      intro i hi
      have e0 : w8 ((48 : Int) - 48) = 0 := rfl
      have i0 : inB 0 ((i : Int) :: List.replicate m 0).length = true := inB_of (by omega) (by simp only [List.length_cons]; omega)
      refine Ev.step (fun k => impl_CountColours_l.eq k _ _ _ _) (Ev.yes (lt_nat (by omega)) (Ev.yes (by rw [hbl]; exact inB_nat (by omega)) ?_))
      rw [Int.toNat_natCast, hgt i (by omega), e0]
      refine Ev.yes i0 (Ev.yes i0 ?_)
      have es : ((i : Int) :: List.replicate m (0 : Int)).set (0 : Int).toNat (w64 (((i : Int) :: List.replicate m (0 : Int)).getD (0 : Int).toNat default + 1)) = ((i + 1 : Nat) : Int) :: List.replicate m 0 := by
        show w64 ((i : Int) + 1) :: List.replicate m (0 : Int) = _
        rw [w64_succ (by omega)]
      rw [es, w64_succ (by omega)]
      exact ih (i + 1) (by omega)
  refine ⟨(((w * h).toNat : Nat) : Int) :: List.replicate m 0, Ev.step (fun k => impl_CountColours.eq k rl w h _ 0 0 0) (Ev.bind a (Ev.no rfl (Ev.yes (by rw [decide_eq_true (by omega), decide_eq_true (by omega), Int.toNat_natCast, fits_of (by omega)]; rfl) (Ev.bind ?_ (Ev.now _))))), by simp only [List.length_cons]; omega, ?_⟩
  · rw [Int.toNat_natCast, hbl, hmz]
    exact loop (w * h).toNat 0 (by omega)
  · show (((w * h).toNat : Nat) : Int) = _
    rw [w64_of (by omega) (by omega)]
    omega
/-! ### The way back, as the reference tells it -/
theorem woReverse_ev (s : ByteArray) (hs : s.size ≤ 1000) : Ev (fun k => spec_woReverse k s) (bs s.data.toList.reverse) := by
  have hz := size_list s
  have loop : ∀ m : Nat, m ≤ s.size → Ev (fun k => spec_woReverse_l k (s, bs ((s.data.toList.drop m).reverse), (m : Int) - 1)) (bs s.data.toList.reverse) := by
    intro m
    induction m with
    | zero => intro _; exact Ev.step (fun k => spec_woReverse_l.eq k s _ _) (Ev.no rfl (Ev.now _))
    | succ m ih =>
      intro hm
      obtain ⟨c, hc⟩ := byte_at (cs := s) (i := m) (by omega)
      have e1 : (((m + 1 : Nat) : Int) - 1) = (m : Int) := by omega
      have hzd : (bs ((s.data.toList.drop (m + 1)).reverse)).size ≤ 1000 := by rw [bs_size, List.length_reverse, List.length_drop]; omega
      have z1 : (bs [c]).size = 1 := rfl
      refine Ev.step (fun k => spec_woReverse_l.eq k s _ _) ?_
      rw [e1, w64_succ (by omega), Int.toNat_natCast, Int.toNat_natCast, cut_one hc]
      refine Ev.yes (decide_eq_true (by omega)) (Ev.yes (by rw [decide_eq_true (by omega), decide_eq_true (by omega), decide_eq_true (by omega), decide_eq_true (by omega)]; rfl) (Ev.yes (fitS_of (by omega)) ?_))
      have e2 : bs ((s.data.toList.drop (m + 1)).reverse) ++ bs [c] = bs ((s.data.toList.drop m).reverse) := ba_ext (by
        rw [append_list, bs_list, bs_list, bs_list]
        have hd : s.data.toList.drop m = c :: s.data.toList.drop (m + 1) := by
          rw [List.drop_eq_getElem_cons (by omega), (List.getElem?_eq_some_iff.1 hc).2]
        rw [hd, List.reverse_cons])
      rw [e2, w64_of (by omega) (by omega)]
      exact ih (by omega)
  have h0 := loop s.size (Nat.le_refl _)
  rw [List.drop_of_length_le (by omega)] at h0
  refine Ev.step (fun k => spec_woReverse.eq k s) ?_
  rw [w64_of (by omega) (by omega)]
  exact Ev.bind h0 (Ev.now _)
theorem backS_ev : ∀ {W : Wo}, OkO W → Ev (fun k => spec_BackWorld k W) (revO W, true)
  | (rl, w, h, cs, x, y, wy), H => by
    have g := (goodW_ev (rl, w, h, cs, x, y, wy)).isT H
    have HW : WorldOk rl w h cs x y wy := H
    obtain ⟨hR, hw, hh, hs, hcs, hx, hy, hwy⟩ := id HW
    have hr6 := hR.1
    have hm := mul_range (a := w) (b := h) hw.1 hw.2 hh.1 hh.2
    have hz := size_list cs
    have hk : (1 : Int) ≤ (rl.size : Int) ∧ (rl.size : Int) ≤ 6 := by omega
    have eL : w64 ((rl.size : Int) - 1) = (rl.size : Int) - 1 := w64_of (by omega) (by omega)
    have loop : ∀ (n i : Nat), i + n = cs.size → Ev (fun k => spec_BackWorld_l k ((rl, w, h, cs, x, y, wy), zeroO, (rl.size : Int) - 1, (revR rl, w, h, bs ((cs.data.toList.take i).map (negC (rl.size : Int))), x, y, wy), (i : Int))) ((rl, w, h, cs, x, y, wy), zeroO, (revR rl, w, h, negS (rl.size : Int) cs, x, y, wy)) := by
      intro n
      induction n with
      | zero =>
        intro i hi
        rw [List.take_of_length_le (by omega)]
        exact Ev.step (fun k => spec_BackWorld_l.eq k rl w h cs x y wy ByteArray.empty 0 0 ByteArray.empty 0 0 0 _ (revR rl) w h _ x y wy _) (Ev.no (not_lt_nat (by omega)) (Ev.now _))
      | succ n ih =>
        intro i hi
        obtain ⟨c, hc⟩ := byte_at (cs := cs) (i := i) (by omega)
        obtain ⟨c48, cti⟩ := hcs c (List.mem_of_getElem? hc)
        have hclt := c.toNat_lt
        have e1 : w64 (w64 (w8 ((c.toNat : Int) - 48)) - 1) = (c.toNat : Int) - 48 - 1 := by rw [w8_of (by omega) (by omega), w64_of (n := (c.toNat : Int) - 48) (by omega) (by omega), w64_of (by omega) (by omega)]
        have g1 := l1Mod_gen ((c.toNat : Int) - 48 - 1) (rl.size : Int) (by omega) (by omega)
        have hng : (rl.size : Int) - 1 - ((c.toNat : Int) - 48 - 1) % (rl.size : Int) = ng (rl.size : Int) ((c.toNat : Int) - 48) := by
          unfold ng
          by_cases h0 : (c.toNat : Int) - 48 = 0
          · rw [h0, Int.sub_zero, Int.emod_self]
            have : ((0 : Int) - 1) % (rl.size : Int) = (rl.size : Int) - 1 := by
              have e : ((0 : Int) - 1) = ((rl.size : Int) - 1) + (rl.size : Int) * (-1) := by omega
              rw [e, Int.add_mul_emod_self_left, Int.emod_eq_of_lt (by omega) (by omega)]
            rw [this]
            omega
          · rw [Int.emod_eq_of_lt (by omega) (by omega), Int.emod_eq_of_lt (by omega) (by omega)]
            omega
        have hrg := ng_range ((c.toNat : Int) - 48) hk.1
        have e2 : w64 ((rl.size : Int) - 1 - ((c.toNat : Int) - 48 - 1) % (rl.size : Int)) = ng (rl.size : Int) ((c.toNat : Int) - 48) := by rw [hng, w64_of (by omega) (by omega)]
        have g2 := l1Num_ev (ng (rl.size : Int) ((c.toNat : Int) - 48)) (by omega)
        have z1 : (ofBytes [48 + ng (rl.size : Int) ((c.toNat : Int) - 48)]).size = 1 := rfl
        have z2 : (bs ((cs.data.toList.take i).map (negC (rl.size : Int)))).size ≤ 100 := by rw [bs_size, List.length_map, List.length_take]; omega
        have e3 : bs ((cs.data.toList.take i).map (negC (rl.size : Int))) ++ ofBytes [48 + ng (rl.size : Int) ((c.toNat : Int) - 48)] = bs ((cs.data.toList.take (i + 1)).map (negC (rl.size : Int))) := ba_ext (by
          rw [append_list, bs_list, bs_list, List.take_add_one, hc, Option.toList_some, List.map_append]
          rfl)
        refine Ev.step (fun k => spec_BackWorld_l.eq k rl w h cs x y wy ByteArray.empty 0 0 ByteArray.empty 0 0 0 _ (revR rl) w h _ x y wy _) (Ev.yes (lt_nat (by omega)) (Ev.yes (inB_nat (by omega)) ?_))
        rw [Int.toNat_natCast, bt_at hc, e1]
        refine Ev.bind g1 ?_
        rw [e2]
        refine Ev.bind g2 (Ev.yes (fitS_of (by omega)) ?_)
        rw [e3, w64_succ (by omega)]
        exact ih (i + 1) (by omega)
    have hwz : 0 ≤ (wy + 2) % 4 ∧ (wy + 2) % 4 ≤ 3 := by omega
    have eW : (w64 (wy + 2)).tmod 4 = (wy + 2) % 4 := by rw [w64_of (by omega) (by omega), Int.tmod_eq_emod_of_nonneg (by omega)]
    have hrv := woReverse_ev (oth rl) (by rw [oth_size]; omega)
    have hgo := woGo_ev (revR rl) w h (negS (rl.size : Int) cs) x y ((wy + 2) % 4) hw hh hx hy hwz
    refine Ev.step (fun k => spec_BackWorld.eq k rl w h cs x y wy) (Ev.bind g (Ev.no rfl (Ev.bind (woOther_ev rl (by omega)) (Ev.bind hrv ?_))))
    rw [eL]
    refine Ev.bind (loop cs.size 0 (by omega)) ?_
    simp only [eW]
    exact Ev.bind hgo (Ev.now _)
/-! ### No world -/
theorem noW {W : Wo} (z1 : W.1.size ≤ 1048576) (z2 : W.2.2.2.1.size ≤ 1048576) (H : ¬ OkO W) : Ev (fun k => impl_TurnWorld k W) (zeroO, false) ∧ Ev (fun k => spec_TurnWorld k W) (zeroO, false) ∧ Ev (fun k => impl_MirrorWorld k W) (zeroO, false) ∧ Ev (fun k => spec_MirrorWorld k W) (zeroO, false) ∧ Ev (fun k => impl_BackWorld k W) (zeroO, false) ∧ Ev (fun k => spec_BackWorld k W) (zeroO, false) := by
  have a := (isW_ev W z1 z2).isF H
  have b := (goodW_ev W).isF H
  obtain ⟨rl, w, h, cs, x, y, wy⟩ := W
  exact ⟨Ev.step (fun k => impl_TurnWorld.eq k rl w h cs x y wy) (Ev.bind a (Ev.yes rfl (Ev.now _))), Ev.step (fun k => spec_TurnWorld.eq k rl w h cs x y wy) (Ev.bind b (Ev.yes rfl (Ev.now _))), Ev.step (fun k => impl_MirrorWorld.eq k rl w h cs x y wy) (Ev.bind a (Ev.yes rfl (Ev.now _))), Ev.step (fun k => spec_MirrorWorld.eq k rl w h cs x y wy) (Ev.bind b (Ev.yes rfl (Ev.now _))), Ev.step (fun k => impl_BackWorld.eq k rl w h cs x y wy) (Ev.bind a (Ev.yes rfl (Ev.now _))), Ev.step (fun k => spec_BackWorld.eq k rl w h cs x y wy) (Ev.bind b (Ev.yes rfl (Ev.now _)))⟩
theorem shiftW_no : ∀ {W : Wo} {a b : Int}, W.1.size ≤ 1048576 → W.2.2.2.1.size ≤ 1048576 → ¬ (OkO W ∧ InR W.2.1 W.2.2.1 a b) → Ev (fun k => impl_ShiftWorld k (W, a, b)) (zeroO, false) ∧ Ev (fun k => spec_ShiftWorld k (W, a, b)) (zeroO, false)
  | (rl, w, h, cs, x, y, wy), r, d, z1, z2, H => by
    have a := (isPlace_ev (rl, w, h, cs, x, y, wy) z1 z2 r d).isF H
    have b := (woCell_ev (rl, w, h, cs, x, y, wy) r d).isF H
    exact ⟨Ev.step (fun k => impl_ShiftWorld.eq k rl w h cs x y wy r d) (Ev.bind a (Ev.yes rfl (Ev.now _))), Ev.step (fun k => spec_ShiftWorld.eq k rl w h cs x y wy r d) (Ev.bind b (Ev.yes rfl (Ev.now _)))⟩
/-! ### Draws -/
def SmallW (W : Wo) : Prop := W.1.size ≤ 1000 ∧ W.2.2.2.1.size ≤ 1000
section
variable (code : List Int) (hc : ∀ x ∈ code, 0 ≤ x ∧ x ≤ 255)
include hc
theorem drawW_ev : ∃ W, Ev (fun k => spec_DrawTurnWorld k code) W ∧ SmallW W := by
  obtain ⟨W, c1, e1, s1, _⟩ := world_ev 0 (code, 0, 0) (CurOk.start hc) (by omega)
  exact ⟨W, Ev.step (fun k => spec_DrawTurnWorld.eq k code) (Ev.bind (Ev.step (fun k => spec_DrawIsWorld.eq k code) (Ev.bind e1 (Ev.now _))) (Ev.now _)), s1⟩
theorem drawColour_ev : ∃ W x y, Ev (fun k => spec_DrawColourAt k code) (W, x, y) ∧ SmallW W := by
  obtain ⟨W, c1, e1, s1, H1⟩ := world_ev 0 (code, 0, 0) (CurOk.start hc) (by omega)
  obtain ⟨a, c2, e2, _, _, H2⟩ := pick_ev _ c1 H1 (by omega) 6
  obtain ⟨b, c3, e3, _, _, H3⟩ := pick_ev _ c2 H2 (by omega) 12
  obtain ⟨d, c4, e4, _, _, H4⟩ := pick_ev _ c3 H3 (by omega) 6
  exact ⟨W, _, _, Ev.step (fun k => spec_DrawColourAt.eq k code) (Ev.bind e1 (Ev.bind e2 (Ev.bind e3 (Ev.bind e4 (Ev.now _))))), s1⟩
theorem drawShift_ev : ∃ W x y, Ev (fun k => spec_DrawShiftWorld k code) (W, x, y) ∧ SmallW W := by
  obtain ⟨W, x, y, e, s⟩ := drawColour_ev code hc
  exact ⟨W, x, y, Ev.step (fun k => spec_DrawShiftWorld.eq k code) (Ev.bind e (Ev.now _)), s⟩
theorem drawPaint_ev : ∃ W x y c, Ev (fun k => spec_DrawPaintCell k code) (W, x, y, c) ∧ SmallW W := by
  obtain ⟨W, x, y, e, s⟩ := drawColour_ev code hc
  obtain ⟨a, c4, e4, _, H4⟩ := among_ev 0 (code, 0, 0) (CurOk.start hc) (by omega) [0, 1, 0, 1, 2, 5, (-1), 4611686018427387904] (by decide)
  exact ⟨W, x, y, a, Ev.step (fun k => spec_DrawPaintCell.eq k code) (Ev.bind e (Ev.bind e4 (Ev.now _))), s⟩
theorem drawPlace_ev : ∃ W x y c, Ev (fun k => spec_DrawPlaceAnt k code) (W, x, y, c) ∧ SmallW W := by
  obtain ⟨W, x, y, e, s⟩ := drawColour_ev code hc
  obtain ⟨a, c4, e4, _, H4⟩ := among_ev 0 (code, 0, 0) (CurOk.start hc) (by omega) [0, 1, 2, 3, 4, (-1)] (by decide)
  exact ⟨W, x, y, a, Ev.step (fun k => spec_DrawPlaceAnt.eq k code) (Ev.bind e (Ev.bind e4 (Ev.now _))), s⟩
theorem drawEmptyW_ev : ∃ rl w h, Ev (fun k => spec_DrawEmptyWorld k code) (rl, w, h) ∧ rl.size ≤ 1000 := by
  obtain ⟨rl, c1, e1, s1, H1⟩ := rule_ev 0 (code, 0, 0) (CurOk.start hc) (by omega)
  obtain ⟨a, c4, e4, _, H4⟩ := among_ev _ c1 H1 (by omega) [1, 2, 3, 9, 10, 0, (-1)] (by decide)
  obtain ⟨b, c5, e5, _, H5⟩ := among_ev _ c4 H4 (by omega) [1, 2, 3, 9, 10, 4611686018427387904] (by decide)
  exact ⟨rl, a, b, Ev.step (fun k => spec_DrawEmptyWorld.eq k code) (Ev.bind e1 (Ev.bind e4 (Ev.bind e5 (Ev.now _)))), by omega⟩
theorem drawParseW_ev : ∃ s, Ev (fun k => spec_DrawParseWorld k code) s ∧ s.size ≤ 2000 := by
  obtain ⟨W, c1, e1, HW, _, H1⟩ := sureWorld_ev 0 (code, 0, 0) (CurOk.start hc) (by omega) 3 (by omega)
  obtain ⟨rl, a, b, cs, x, y, wy, rfl, HW⟩ := okO_nat HW
  have et := wtext_s HW
  have zt := worT_size rl a b cs x y wy HW
  obtain ⟨o, c2, e2, H2⟩ := one_ev _ c1 H1 (by omega) 3
  have h9 : (bs [48, 49, 50, 51, 76, 82, 58, 44, 120]).size = 9 := rfl
  obtain ⟨u, c3, e3, zu, _⟩ := spoilt_ev _ c2 (worT rl a b cs x y wy) (bs [48, 49, 50, 51, 76, 82, 58, 44, 120]) H2 (by omega) (by omega) (by rw [h9]; omega)
  cases o with
  | true => exact ⟨u, Ev.step (fun k => spec_DrawParseWorld.eq k code) (Ev.bind e1 (Ev.bind et (Ev.bind e2 (Ev.yes rfl (Ev.bind e3 (Ev.now _)))))), by omega⟩
  | false => exact ⟨worT rl a b cs x y wy, Ev.step (fun k => spec_DrawParseWorld.eq k code) (Ev.bind e1 (Ev.bind et (Ev.bind e2 (Ev.no rfl (Ev.now _))))), by omega⟩
end
end Go.Proofs.YtkaiidmnigpicaaGreatDoorS
