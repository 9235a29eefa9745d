/- The plain law FnWorldsTurned. -/
import Derived.Test.YtkaiidmnigpicaaGreatDoorOk
import Derived.Test.YtkaiidmnigpicaaGreatDoorMgW2
namespace Go.Proofs.YtkaiidmnigpicaaGreatDoor.fnWorldsTurned
open Go Go.Proofs Go.Proofs.YtkaiidmnigpicaaGreatDoorS
set_option linter.unusedVariables false
set_option linter.unusedSimpArgs false
set_option maxRecDepth 100000
theorem pic_dim : ∀ {S : Sym} {w' h' : Int} {W V : Wo}, Pic S w' h' W V → V.2.1 = w' ∧ V.2.2.1 = h'
  | S, w', h', (_, _, _, _, _, _, _), (_, _, _, _, _, _, _), P => ⟨P.2.1, P.2.2.1⟩
theorem turn_law : ∀ {W : Wo}, OkO W → ∃ V X V2 V3, Ev (fun k => impl_TurnWorld k W) (V, true) ∧ Ev (fun k => spec_TurnWorld k W) (V, true) ∧ Ev (fun k => impl_StepWorld k V) (X, true) ∧ Ev (fun k => impl_TurnWorld k (stepO W)) (X, true) ∧ Ev (fun k => impl_TurnWorld k V) (V2, true) ∧ Ev (fun k => impl_TurnWorld k V2) (V3, true) ∧ Ev (fun k => impl_TurnWorld k V3) (W, true)
  | (rl, w, h, cs, x, y, wy), H => by
    have HW : WorldOk rl w h cs x y wy := H
    obtain ⟨hR, hw, hh, _⟩ := id HW
    have O := turnS_ok hw hh
    have O2 := turnS_ok hh hw
    obtain ⟨V, P, e1, e2⟩ := turnW_ev H
    have P : Pic (turnS h) h w (rl, w, h, cs, x, y, wy) V := P
    have KV : OkO V := pic_ok hh hw (fun _ q => q) O H P
    have PS := pic_step hh hw O H P
    obtain ⟨X, PX, e3, _⟩ := turnW_ev (okO_step _ H)
    obtain rfl := pic_unique (W := stepO (rl, w, h, cs, x, y, wy)) hh hw O PS PX
    obtain ⟨d1, d2⟩ := pic_dim P
    obtain ⟨V2, P2, e4, _⟩ := turnW_ev KV
    rw [d1, d2] at P2
    have K2 : OkO V2 := pic_ok hw hh (fun _ q => q) (by rw [d1, d2]; exact O2) KV P2
    obtain ⟨d3, d4⟩ := pic_dim P2
    obtain ⟨V3, P3, e5, _⟩ := turnW_ev K2
    rw [d3, d4] at P3
    have K3 : OkO V3 := pic_ok hh hw (fun _ q => q) (by rw [d3, d4]; exact O) K2 P3
    obtain ⟨d5, d6⟩ := pic_dim P3
    obtain ⟨V4, P4, e6, _⟩ := turnW_ev K3
    rw [d5, d6] at P4
    obtain rfl := turn4 (W := (rl, w, h, cs, x, y, wy)) H P P2 P3 P4
    exact ⟨V, _, V2, V3, e1, e2, step1_ev KV, e3, e4, e5, e6⟩
theorem mir_law : ∀ {W : Wo}, OkO W → ∃ V X, Ev (fun k => impl_MirrorWorld k W) (V, true) ∧ Ev (fun k => spec_MirrorWorld k W) (V, true) ∧ Ev (fun k => impl_StepWorld k V) (X, true) ∧ Ev (fun k => impl_MirrorWorld k (stepO W)) (X, true) ∧ Ev (fun k => impl_MirrorWorld k V) (W, true)
  | (rl, w, h, cs, x, y, wy), H => by
    have HW : WorldOk rl w h cs x y wy := H
    obtain ⟨hR, hw, hh, _⟩ := id HW
    have O := mirS_ok hw hh
    obtain ⟨V, P, e1, e2⟩ := mirW_ev H
    have P : Pic (mirS w) w h (rl, w, h, cs, x, y, wy) V := P
    have KV : OkO V := pic_ok hw hh (fun _ q => ruleOk_oth q) O H P
    have PS := pic_step hw hh O H P
    obtain ⟨X, PX, e3, _⟩ := mirW_ev (okO_step _ H)
    obtain rfl := pic_unique (W := stepO (rl, w, h, cs, x, y, wy)) hw hh O PS PX
    obtain ⟨d1, d2⟩ := pic_dim P
    obtain ⟨V2, P2, e4, _⟩ := mirW_ev KV
    rw [d1, d2] at P2
    obtain rfl := mir2 (W := (rl, w, h, cs, x, y, wy)) H P P2
    exact ⟨V, _, e1, e2, step1_ev KV, e3, e4⟩
theorem shi_law : ∀ {W : Wo} {r d : Int}, OkO W → InR W.2.1 W.2.2.1 r d → ∃ V X, Ev (fun k => impl_ShiftWorld k (W, r, d)) (V, true) ∧ Ev (fun k => spec_ShiftWorld k (W, r, d)) (V, true) ∧ Ev (fun k => impl_StepWorld k V) (X, true) ∧ Ev (fun k => impl_ShiftWorld k (stepO W, r, d)) (X, true) ∧ Ev (fun k => impl_ShiftWorld k (V, (w64 (W.2.1 - r)).tmod W.2.1, (w64 (W.2.2.1 - d)).tmod W.2.2.1)) (W, true)
  | (rl, w, h, cs, x, y, wy), r, d, H, hin => by
    have HW : WorldOk rl w h cs x y wy := H
    obtain ⟨hR, hw, hh, _⟩ := id HW
    have hin : InR w h r d := hin
    have O := shiS_ok hw hh hin
    obtain ⟨V, P, e1, e2⟩ := shiW_ev r d H hin
    have P : Pic (shiS w h r d) w h (rl, w, h, cs, x, y, wy) V := P
    have KV : OkO V := pic_ok hw hh (fun _ q => q) O H P
    have PS := pic_step hw hh O H P
    obtain ⟨X, PX, e3, _⟩ := shiW_ev r d (okO_step _ H) hin
    obtain rfl := pic_unique (W := stepO (rl, w, h, cs, x, y, wy)) hw hh O PS PX
    obtain ⟨d1, d2⟩ := pic_dim P
    obtain ⟨⟨r0, r1⟩, q0, q1⟩ := id hin
    have m1 := Int.emod_nonneg (w - r) (show w ≠ 0 by omega)
    have m2 := Int.emod_lt_of_pos (w - r) (show 0 < w by omega)
    have m3 := Int.emod_nonneg (h - d) (show h ≠ 0 by omega)
    have m4 := Int.emod_lt_of_pos (h - d) (show 0 < h by omega)
    have t1 : (w64 (w - r)).tmod w = (w - r) % w := by rw [w64_of (by omega) (by omega), Int.tmod_eq_emod_of_nonneg (by omega)]
    have t2 : (w64 (h - d)).tmod h = (h - d) % h := by rw [w64_of (by omega) (by omega), Int.tmod_eq_emod_of_nonneg (by omega)]
    obtain ⟨V2, P2, e4, _⟩ := shiW_ev ((w - r) % w) ((h - d) % h) KV (by rw [d1, d2]; exact ⟨⟨m1, by omega⟩, m3, by omega⟩)
    rw [d1, d2] at P2
    obtain rfl := shi2 (W := (rl, w, h, cs, x, y, wy)) H hin P P2
    refine ⟨V, _, e1, e2, step1_ev KV, e3, ?_⟩
    show Ev (fun k => impl_ShiftWorld k (V, (w64 (w - r)).tmod w, (w64 (h - d)).tmod h)) _
    rw [t1, t2]
    exact e4
/-! ### Stages, the last one first -/
theorem st8 (s : ByteArray) (R : Wo) (nt : Bool) (h8 : nt = true → Ev (fun k => impl_WorldText k R) (s, true)) : Ev (fun k => laws_FnWorldsTurned_c_c_c_c_c_c_c_c k (s, R, nt)) true := by
  obtain ⟨R1, R2, R3, R4, R5, R6, R7⟩ := R
  cases nt with
  | false => exact Ev.step (fun k => laws_FnWorldsTurned_c_c_c_c_c_c_c_c.eq k s R1 R2 R3 R4 R5 R6 R7 false) (Ev.no rfl (Ev.now _))
  | true => exact Ev.step (fun k => laws_FnWorldsTurned_c_c_c_c_c_c_c_c.eq k s R1 R2 R3 R4 R5 R6 R7 true) (Ev.yes rfl (Ev.bind (h8 rfl) (Ev.yes rfl (Ev.now' (strEq_self _)))))
theorem st7 (rule other : ByteArray) (sv : Bool) (s : ByteArray) (R : Wo) (nt : Bool) (h7 : sv = true → Ev (fun k => impl_OtherRule k other) (rule, true)) (h8 : nt = true → Ev (fun k => impl_WorldText k R) (s, true)) : Ev (fun k => laws_FnWorldsTurned_c_c_c_c_c_c_c k (rule, other, sv, s, R, nt)) true := by
  have s8 := st8 s R nt h8
  obtain ⟨R1, R2, R3, R4, R5, R6, R7⟩ := R
  cases sv with
  | false => exact Ev.step (fun k => laws_FnWorldsTurned_c_c_c_c_c_c_c.eq k rule other false s R1 R2 R3 R4 R5 R6 R7 nt) (Ev.no rfl (Ev.bind s8 (Ev.now _)))
  | true => exact Ev.step (fun k => laws_FnWorldsTurned_c_c_c_c_c_c_c.eq k rule other true s R1 R2 R3 R4 R5 R6 R7 nt) (Ev.yes rfl (Ev.bind (h7 rfl) (Ev.no rfl (Ev.no (sameS _) (Ev.bind s8 (Ev.now _))))))
theorem st6 (rule : ByteArray) (width height : Int) (E : Wo) (ff : Bool) (other : ByteArray) (sv : Bool) (s : ByteArray) (R : Wo) (nt : Bool) (h6 : ff = true → ∃ L, Ev (fun k => impl_CountColours k E) (L, true) ∧ 1 ≤ L.length ∧ L.getD 0 default = w64 (width * height)) (h7 : sv = true → Ev (fun k => impl_OtherRule k other) (rule, true)) (h8 : nt = true → Ev (fun k => impl_WorldText k R) (s, true)) :
    Ev (fun k => laws_FnWorldsTurned_c_c_c_c_c_c k (rule, width, height, E, ff, other, sv, s, R, nt)) true := by
  have s7 := st7 rule other sv s R nt h7 h8
  obtain ⟨R1, R2, R3, R4, R5, R6, R7⟩ := R
  obtain ⟨E1, E2, E3, E4, E5, E6, E7⟩ := E
  cases ff with
  | false => exact Ev.step (fun k => laws_FnWorldsTurned_c_c_c_c_c_c.eq k rule width height E1 E2 E3 E4 E5 E6 E7 false other sv s R1 R2 R3 R4 R5 R6 R7 nt) (Ev.no rfl (Ev.bind s7 (Ev.now _)))
  | true =>
    obtain ⟨L, e, l1, l2⟩ := h6 rfl
    exact Ev.step (fun k => laws_FnWorldsTurned_c_c_c_c_c_c.eq k rule width height E1 E2 E3 E4 E5 E6 E7 true other sv s R1 R2 R3 R4 R5 R6 R7 nt) (Ev.yes rfl (Ev.bind e (Ev.no rfl (Ev.yes (inB_of (by omega) (by simp only; omega)) (Ev.no (by simp only [l2]; exact neq_self _) (Ev.bind s7 (Ev.now _)))))))
theorem st5 (Z : Wo) (i j way : Int) (D : Wo) (el : Bool) (rule : ByteArray) (width height : Int) (E : Wo) (ff : Bool) (other : ByteArray) (sv : Bool) (s : ByteArray) (R : Wo) (nt : Bool)
    (h5 : el = true → D.2.2.2.2.1 = i ∧ D.2.2.2.2.2.1 = j ∧ D.2.2.2.2.2.2 = way ∧ D.2.2.2.1 = Z.2.2.2.1) (h6 : ff = true → ∃ L, Ev (fun k => impl_CountColours k E) (L, true) ∧ 1 ≤ L.length ∧ L.getD 0 default = w64 (width * height)) (h7 : sv = true → Ev (fun k => impl_OtherRule k other) (rule, true)) (h8 : nt = true → Ev (fun k => impl_WorldText k R) (s, true)) :
    Ev (fun k => laws_FnWorldsTurned_c_c_c_c_c k (Z, i, j, way, D, el, rule, width, height, E, ff, other, sv, s, R, nt)) true := by
  have s6 := st6 rule width height E ff other sv s R nt h6 h7 h8
  obtain ⟨R1, R2, R3, R4, R5, R6, R7⟩ := R
  obtain ⟨E1, E2, E3, E4, E5, E6, E7⟩ := E
  obtain ⟨D1, D2, D3, D4, D5, D6, D7⟩ := D
  obtain ⟨Z1, Z2, Z3, Z4, Z5, Z6, Z7⟩ := Z
  cases el with
  | false => exact Ev.step (fun k => laws_FnWorldsTurned_c_c_c_c_c.eq k Z1 Z2 Z3 Z4 Z5 Z6 Z7 i j way D1 D2 D3 D4 D5 D6 D7 false rule width height E1 E2 E3 E4 E5 E6 E7 ff other sv s R1 R2 R3 R4 R5 R6 R7 nt) (Ev.no rfl (Ev.bind s6 (Ev.now _)))
  | true =>
    obtain ⟨q1, q2, q3, q4⟩ := h5 rfl
    simp only at q1 q2 q3 q4
    subst q1 q2 q3 q4
    exact Ev.step (fun k => laws_FnWorldsTurned_c_c_c_c_c.eq k Z1 Z2 Z3 D4 Z5 Z6 Z7 D5 D6 D7 D1 D2 D3 D4 D5 D6 D7 true rule width height E1 E2 E3 E4 E5 E6 E7 ff other sv s R1 R2 R3 R4 R5 R6 R7 nt) (Ev.yes rfl (Ev.no (neq_self _) (Ev.no (neq_self _) (Ev.no (neq_self _) (Ev.no (sameS _) (Ev.bind s6 (Ev.now _)))))))
theorem st4 (U : Wo) (p q c : Int) (A : Wo) (ni : Bool) (Z : Wo) (i j way : Int) (D : Wo) (el : Bool) (rule : ByteArray) (width height : Int) (E : Wo) (ff : Bool) (other : ByteArray) (sv : Bool) (s : ByteArray) (R : Wo) (nt : Bool)
    (h4 : ni = true → ∃ old, Ev (fun k => impl_ColourAt k (A, p, q)) (c, true) ∧ Ev (fun k => impl_ColourAt k (U, p, q)) (old, true) ∧ Ev (fun k => impl_PaintCell k (A, p, q, old)) (U, true))
    (h5 : el = true → D.2.2.2.2.1 = i ∧ D.2.2.2.2.2.1 = j ∧ D.2.2.2.2.2.2 = way ∧ D.2.2.2.1 = Z.2.2.2.1) (h6 : ff = true → ∃ L, Ev (fun k => impl_CountColours k E) (L, true) ∧ 1 ≤ L.length ∧ L.getD 0 default = w64 (width * height)) (h7 : sv = true → Ev (fun k => impl_OtherRule k other) (rule, true)) (h8 : nt = true → Ev (fun k => impl_WorldText k R) (s, true)) :
    Ev (fun k => laws_FnWorldsTurned_c_c_c_c k (U, p, q, c, A, ni, Z, i, j, way, D, el, rule, width, height, E, ff, other, sv, s, R, nt)) true := by
  have s5 := st5 Z i j way D el rule width height E ff other sv s R nt h5 h6 h7 h8
  have sm := same7 U
  obtain ⟨R1, R2, R3, R4, R5, R6, R7⟩ := R
  obtain ⟨E1, E2, E3, E4, E5, E6, E7⟩ := E
  obtain ⟨D1, D2, D3, D4, D5, D6, D7⟩ := D
  obtain ⟨Z1, Z2, Z3, Z4, Z5, Z6, Z7⟩ := Z
  obtain ⟨A1, A2, A3, A4, A5, A6, A7⟩ := A
  obtain ⟨U1, U2, U3, U4, U5, U6, U7⟩ := U
  cases ni with
  | false => exact Ev.step (fun k => laws_FnWorldsTurned_c_c_c_c.eq k U1 U2 U3 U4 U5 U6 U7 p q c A1 A2 A3 A4 A5 A6 A7 false Z1 Z2 Z3 Z4 Z5 Z6 Z7 i j way D1 D2 D3 D4 D5 D6 D7 el rule width height E1 E2 E3 E4 E5 E6 E7 ff other sv s R1 R2 R3 R4 R5 R6 R7 nt) (Ev.no rfl (Ev.bind s5 (Ev.now _)))
  | true =>
    obtain ⟨old, e1, e2, e3⟩ := h4 rfl
    exact Ev.step (fun k => laws_FnWorldsTurned_c_c_c_c.eq k U1 U2 U3 U4 U5 U6 U7 p q c A1 A2 A3 A4 A5 A6 A7 true Z1 Z2 Z3 Z4 Z5 Z6 Z7 i j way D1 D2 D3 D4 D5 D6 D7 el rule width height E1 E2 E3 E4 E5 E6 E7 ff other sv s R1 R2 R3 R4 R5 R6 R7 nt) (Ev.yes rfl (Ev.bind e1 (Ev.bind e2 (Ev.bind e3 (Ev.no rfl (Ev.no (neq_self _) (Ev.no rfl (Ev.no rfl (Ev.no sm (Ev.bind s5 (Ev.now _)))))))))))
theorem st3 (V : Wo) (x y : Int) (S : Wo) (se : Bool) (U : Wo) (p q c : Int) (A : Wo) (ni : Bool) (Z : Wo) (i j way : Int) (D : Wo) (el : Bool) (rule : ByteArray) (width height : Int) (E : Wo) (ff : Bool) (other : ByteArray) (sv : Bool) (s : ByteArray) (R : Wo) (nt : Bool)
    (h3 : se = true → (V.2.1 ≠ 0 ∧ V.2.2.1 ≠ 0) ∧ ∃ N X, Ev (fun k => impl_StepWorld k V) (N, true) ∧ Ev (fun k => impl_StepWorld k S) (X, true) ∧ Ev (fun k => impl_ShiftWorld k (N, x, y)) (X, true) ∧ Ev (fun k => impl_ShiftWorld k (S, (w64 (V.2.1 - x)).tmod V.2.1, (w64 (V.2.2.1 - y)).tmod V.2.2.1)) (V, true))
    (h4 : ni = true → ∃ old, Ev (fun k => impl_ColourAt k (A, p, q)) (c, true) ∧ Ev (fun k => impl_ColourAt k (U, p, q)) (old, true) ∧ Ev (fun k => impl_PaintCell k (A, p, q, old)) (U, true))
    (h5 : el = true → D.2.2.2.2.1 = i ∧ D.2.2.2.2.2.1 = j ∧ D.2.2.2.2.2.2 = way ∧ D.2.2.2.1 = Z.2.2.2.1) (h6 : ff = true → ∃ L, Ev (fun k => impl_CountColours k E) (L, true) ∧ 1 ≤ L.length ∧ L.getD 0 default = w64 (width * height)) (h7 : sv = true → Ev (fun k => impl_OtherRule k other) (rule, true)) (h8 : nt = true → Ev (fun k => impl_WorldText k R) (s, true)) :
    Ev (fun k => laws_FnWorldsTurned_c_c_c k (V, x, y, S, se, U, p, q, c, A, ni, Z, i, j, way, D, el, rule, width, height, E, ff, other, sv, s, R, nt)) true := by
  have s4 := st4 U p q c A ni Z i j way D el rule width height E ff other sv s R nt h4 h5 h6 h7 h8
  have sm := same7 V
  obtain ⟨R1, R2, R3, R4, R5, R6, R7⟩ := R
  obtain ⟨E1, E2, E3, E4, E5, E6, E7⟩ := E
  obtain ⟨D1, D2, D3, D4, D5, D6, D7⟩ := D
  obtain ⟨Z1, Z2, Z3, Z4, Z5, Z6, Z7⟩ := Z
  obtain ⟨A1, A2, A3, A4, A5, A6, A7⟩ := A
  obtain ⟨U1, U2, U3, U4, U5, U6, U7⟩ := U
  obtain ⟨S1, S2, S3, S4, S5, S6, S7⟩ := S
  obtain ⟨V1, V2, V3, V4, V5, V6, V7⟩ := V
  cases se with
  | false => exact Ev.step (fun k => laws_FnWorldsTurned_c_c_c.eq k V1 V2 V3 V4 V5 V6 V7 x y S1 S2 S3 S4 S5 S6 S7 false U1 U2 U3 U4 U5 U6 U7 p q c A1 A2 A3 A4 A5 A6 A7 ni Z1 Z2 Z3 Z4 Z5 Z6 Z7 i j way D1 D2 D3 D4 D5 D6 D7 el rule width height E1 E2 E3 E4 E5 E6 E7 ff other sv s R1 R2 R3 R4 R5 R6 R7 nt) (Ev.no rfl (Ev.bind s4 (Ev.now _)))
  | true =>
    obtain ⟨⟨n1, n2⟩, N, X, e1, e2, e3, e4⟩ := h3 rfl
    exact Ev.step (fun k => laws_FnWorldsTurned_c_c_c.eq k V1 V2 V3 V4 V5 V6 V7 x y S1 S2 S3 S4 S5 S6 S7 true U1 U2 U3 U4 U5 U6 U7 p q c A1 A2 A3 A4 A5 A6 A7 ni Z1 Z2 Z3 Z4 Z5 Z6 Z7 i j way D1 D2 D3 D4 D5 D6 D7 el rule width height E1 E2 E3 E4 E5 E6 E7 ff other sv s R1 R2 R3 R4 R5 R6 R7 nt) (Ev.yes rfl (Ev.bind e1 (Ev.bind e2 (Ev.bind e3 (Ev.yes (bne_iff_ne.2 n1) (Ev.yes (bne_iff_ne.2 n2) (Ev.bind e4 (Ev.no rfl (Ev.no rfl (Ev.no rfl (Ev.no (same7 X) (Ev.no rfl (Ev.no sm (Ev.bind s4 (Ev.now _)))))))))))))))
theorem st2 (more : List Int) (hc : ∀ x ∈ more, 0 ≤ x ∧ x ≤ 255) : Ev (fun k => laws_FnWorldsTurned_c_c k more) true := by
  obtain ⟨V, x, y, d1, v1, v2⟩ := drawShift_ev more hc
  obtain ⟨U, p, q, c, d2, u1, u2⟩ := drawPaint_ev more hc
  obtain ⟨Z, i, j, way, d3, z1, z2⟩ := drawPlace_ev more hc
  obtain ⟨Q, f, g, d4, q1, q2⟩ := drawColour_ev more hc
  obtain ⟨rl, w, h, d5, r1⟩ := drawEmptyW_ev more hc
  obtain ⟨s, d6, s1⟩ := drawParseW_ev more hc
  obtain ⟨rS, a1, b1, A1⟩ : ∃ rS : Wo × Bool, Ev (fun k => impl_ShiftWorld k (V, x, y)) rS ∧ Ev (fun k => spec_ShiftWorld k (V, x, y)) rS ∧ (rS.2 = true → (V.2.1 ≠ 0 ∧ V.2.2.1 ≠ 0) ∧ ∃ N X, Ev (fun k => impl_StepWorld k V) (N, true) ∧ Ev (fun k => impl_StepWorld k rS.1) (X, true) ∧ Ev (fun k => impl_ShiftWorld k (N, x, y)) (X, true) ∧ Ev (fun k => impl_ShiftWorld k (rS.1, (w64 (V.2.1 - x)).tmod V.2.1, (w64 (V.2.2.1 - y)).tmod V.2.2.1)) (V, true)) := by
    by_cases P : OkO V ∧ InR V.2.1 V.2.2.1 x y
    · obtain ⟨S, X, e1, e2, e3, e4, e5⟩ := shi_law P.1 P.2
      refine ⟨(S, true), e1, e2, fun _ => ⟨?_, stepO V, X, step1_ev P.1, e3, e4, e5⟩⟩
      have h1 := P.1.2.1
      have h2 := P.1.2.2.1
      omega
    · obtain ⟨e1, e2⟩ := shiftW_no (by omega) (by omega) P
      exact ⟨_, e1, e2, nofun⟩
  obtain ⟨rP, a2, b2, A2⟩ : ∃ rP : Wo × Bool, Ev (fun k => impl_PaintCell k (U, p, q, c)) rP ∧ Ev (fun k => spec_PaintCell k (U, p, q, c)) rP ∧ (rP.2 = true → ∃ old, Ev (fun k => impl_ColourAt k (rP.1, p, q)) (c, true) ∧ Ev (fun k => impl_ColourAt k (U, p, q)) (old, true) ∧ Ev (fun k => impl_PaintCell k (rP.1, p, q, old)) (U, true)) := by
    by_cases P : (OkO U ∧ InR U.2.1 U.2.2.1 p q) ∧ (0 ≤ c ∧ c ≤ (U.1.size : Int) - 1)
    · obtain ⟨⟨P1, P2⟩, P3⟩ := P
      obtain ⟨e1, e2, K, e3, e4, e5⟩ := paint_yes P1 P2 P3
      refine ⟨_, e1, e2, fun _ => ⟨colW U p q, ?_, (colourAt_yes P1 P2).1, ?_⟩⟩
      · have := (colourAt_yes (x := p) (y := q) K (by obtain ⟨_, _, _, _, _, _, _⟩ := U; exact P2)).1
        rw [e3] at this
        exact this
      · have := (paint_yes (x := p) (y := q) (c := colW U p q) K (by obtain ⟨_, _, _, _, _, _, _⟩ := U; exact P2) (by obtain ⟨_, _, _, _, _, _, _⟩ := U; exact e5)).1
        rw [e4] at this
        exact this
    · obtain ⟨e1, e2⟩ := paint_no (by omega) (by omega) P
      exact ⟨_, e1, e2, nofun⟩
  obtain ⟨rA, a3, b3, A3⟩ := place_both Z i j way (by omega) (by omega)
  obtain ⟨rC, a4, b4⟩ : ∃ rC : Int × Bool, Ev (fun k => impl_ColourAt k (Q, f, g)) rC ∧ Ev (fun k => spec_ColourAt k (Q, f, g)) rC := by
    by_cases P : OkO Q ∧ InR Q.2.1 Q.2.2.1 f g
    · exact ⟨_, (colourAt_yes P.1 P.2).1, (colourAt_yes P.1 P.2).2⟩
    · obtain ⟨e1, e2⟩ := colourAt_no (by omega) (by omega) P
      exact ⟨_, e1, e2⟩
  obtain ⟨rE, a5, b5, A5⟩ := emptyW_both rl w h (by omega)
  obtain ⟨rO, a6, b6, A6⟩ := other_both rl (by omega)
  obtain ⟨rR, a7, b7, A7⟩ := parseW_both s (by omega)
  have h6 : rE.2 = true → ∃ L, Ev (fun k => impl_CountColours k rE.1) (L, true) ∧ 1 ≤ L.length ∧ L.getD 0 default = w64 (w * h) := fun hr => by
    obtain ⟨e, K⟩ := A5 hr
    rw [e] at K ⊢
    exact count_zero K
  have h7 : rO.2 = true → Ev (fun k => impl_OtherRule k rO.1) (rl, true) := fun hr => by
    rcases A6 with ⟨hR, rfl⟩ | ⟨_, rfl⟩
    · exact other_back hR
    · exact Bool.noConfusion hr
  have s3 := st3 V x y rS.1 rS.2 U p q c rP.1 rP.2 Z i j way rA.1 rA.2 rl w h rE.1 rE.2 rO.1 rO.2 s rR.1 rR.2 A1 A2 A3 h6 h7 A7
  have IR := isRuleR_ev rl (by omega)
  have WR := woRuleR_ev rl
  have go : ∀ b : Bool, Ev (fun k => impl_IsRule k rl) b → Ev (fun k => spec_woRule k rl) b → rO.2 = b → Ev (fun k => laws_FnWorldsTurned_c_c k more) true := fun b i1 i2 hb =>
    Ev.step (fun k => laws_FnWorldsTurned_c_c.eq k more) (Ev.bind d1 (Ev.bind a1 (Ev.bind b1 (Ev.bind d2 (Ev.bind a2 (Ev.bind b2 (Ev.bind d3 (Ev.bind a3 (Ev.bind b3 (Ev.bind d4 (Ev.bind a4 (Ev.bind b4 (Ev.bind d5 (Ev.bind a5 (Ev.bind b5 (Ev.bind a6 (Ev.bind b6 (Ev.bind d6 (Ev.bind a7 (Ev.bind b7 (Ev.no (sameB _) (Ev.no (same7 rS.1) (Ev.no (sameB _) (Ev.no (same7 rP.1) (Ev.no (sameB _) (Ev.no (same7 rA.1) (Ev.no (sameB _) (Ev.no (neq_self _) (Ev.no (sameB _) (Ev.no (same7 rE.1) (Ev.no (sameB _) (Ev.no (sameS _) (Ev.no (sameB _) (Ev.no (same7 rR.1) (Ev.bind i1 (Ev.no (by rw [hb]; exact sameB _) (Ev.bind i1 (Ev.bind (Ev.step (fun k => spec_IsRule.eq k rl) (Ev.bind i2 (Ev.now _))) (Ev.no (sameB _) (Ev.bind s3 (Ev.now _)))))))))))))))))))))))))))))))))))))))))
  by_cases hR : RuleOk rl
  · refine go true (IR.isT hR) (WR.isT hR) ?_
    rcases A6 with ⟨_, rfl⟩ | ⟨q, _⟩
    · rfl
    · exact absurd hR q
  · refine go false (IR.isF hR) (WR.isF hR) ?_
    rcases A6 with ⟨q, _⟩ | ⟨_, rfl⟩
    · exact absurd q hR
    · rfl
theorem st1 (more : List Int) (hc : ∀ x ∈ more, 0 ≤ x ∧ x ≤ 255) (W T : Wo) (ok : Bool) (M B : Wo) (t : ByteArray)
    (h1 : ok = true → OkO W ∧ OkO B ∧ ∃ X V2 V3 Y, Ev (fun k => impl_TurnWorld k W) (T, true) ∧ Ev (fun k => impl_StepWorld k T) (X, true) ∧ Ev (fun k => impl_TurnWorld k (stepO W)) (X, true) ∧ Ev (fun k => impl_TurnWorld k T) (V2, true) ∧ Ev (fun k => impl_TurnWorld k V2) (V3, true) ∧ Ev (fun k => impl_TurnWorld k V3) (W, true) ∧
      Ev (fun k => impl_StepWorld k M) (Y, true) ∧ Ev (fun k => impl_MirrorWorld k (stepO W)) (Y, true) ∧ Ev (fun k => impl_MirrorWorld k M) (W, true) ∧ Ev (fun k => impl_ParseWorld k t) (W, true)) :
    Ev (fun k => laws_FnWorldsTurned_c k (more, W, T, ok, M, B, t)) true := by
  have s2 := st2 more hc
  cases ok with
  | false =>
    obtain ⟨W1, W2, W3, W4, W5, W6, W7⟩ := W
    obtain ⟨T1, T2, T3, T4, T5, T6, T7⟩ := T
    obtain ⟨M1, M2, M3, M4, M5, M6, M7⟩ := M
    obtain ⟨B1, B2, B3, B4, B5, B6, B7⟩ := B
    exact Ev.step (fun k => laws_FnWorldsTurned_c.eq k more W1 W2 W3 W4 W5 W6 W7 T1 T2 T3 T4 T5 T6 T7 false M1 M2 M3 M4 M5 M6 M7 B1 B2 B3 B4 B5 B6 B7 t) (Ev.no rfl (Ev.bind s2 (Ev.now _)))
  | true =>
    obtain ⟨K, KB, X, V2, V3, Y, e0, e1, e2, e3, e4, e5, e6, e7, e8, e9⟩ := h1 rfl
    obtain ⟨z1, z2⟩ := okO_size KB
    have iB := (isW_ev B (by omega) (by omega)).isT KB
    have sW := step1_ev K
    have sm := same7 W
    have l4 : Ev (fun k => laws_FnWorldsTurned_c_l k (more, W, W, 4)) (.inr (more, W, W)) := by
      obtain ⟨W1, W2, W3, W4, W5, W6, W7⟩ := W
      exact Ev.step (fun k => laws_FnWorldsTurned_c_l.eq k more W1 W2 W3 W4 W5 W6 W7 W1 W2 W3 W4 W5 W6 W7 4) (Ev.no rfl (Ev.now _))
    have one : ∀ (N N' : Wo) (k0 : Int) (r), k0 < 4 → Ev (fun k => impl_TurnWorld k N) (N', true) → Ev (fun k => laws_FnWorldsTurned_c_l k (more, W, N', w64 (k0 + 1))) r → Ev (fun k => laws_FnWorldsTurned_c_l k (more, W, N, k0)) r := fun N N' k0 r hk e hr => by
      obtain ⟨W1, W2, W3, W4, W5, W6, W7⟩ := W
      obtain ⟨N1, N2, N3, N4, N5, N6, N7⟩ := N
      exact Ev.step (fun k => laws_FnWorldsTurned_c_l.eq k more W1 W2 W3 W4 W5 W6 W7 N1 N2 N3 N4 N5 N6 N7 k0) (Ev.yes (decide_eq_true hk) (Ev.bind e (Ev.no rfl hr)))
    have lp : Ev (fun k => laws_FnWorldsTurned_c_l k (more, W, W, 0)) (.inr (more, W, W)) := one W T 0 _ (by omega) e0 (one T V2 1 _ (by omega) e3 (one V2 V3 2 _ (by omega) e4 (one V3 W 3 _ (by omega) e5 l4)))
    obtain ⟨W1, W2, W3, W4, W5, W6, W7⟩ := W
    obtain ⟨T1, T2, T3, T4, T5, T6, T7⟩ := T
    obtain ⟨M1, M2, M3, M4, M5, M6, M7⟩ := M
    obtain ⟨B1, B2, B3, B4, B5, B6, B7⟩ := B
    exact Ev.step (fun k => laws_FnWorldsTurned_c.eq k more W1 W2 W3 W4 W5 W6 W7 T1 T2 T3 T4 T5 T6 T7 true M1 M2 M3 M4 M5 M6 M7 B1 B2 B3 B4 B5 B6 B7 t) (Ev.yes rfl (Ev.bind sW (Ev.bind e1 (Ev.bind e2 (Ev.bind e6 (Ev.bind e7 (Ev.bind e8 (Ev.bind e9 (Ev.no rfl (Ev.no rfl (Ev.no rfl (Ev.no (same7 X) (Ev.no rfl (Ev.no rfl (Ev.no (same7 Y) (Ev.no rfl (Ev.no sm (Ev.no rfl (Ev.no sm (Ev.bind iB (Ev.no rfl (Ev.bind lp (Ev.no sm (Ev.bind s2 (Ev.now _)))))))))))))))))))))))))
theorem main (code more : List Int) (h1 : code.length ≤ 9223372036854775807) (h2 : more.length ≤ 9223372036854775807) (hc : ∀ x ∈ code, 0 ≤ x ∧ x ≤ 255) (hm : ∀ x ∈ more, 0 ≤ x ∧ x ≤ 255) : ∃ k, laws_FnWorldsTurned k (code, more) = some true := by
  refine Ev.rounds ?_
  obtain ⟨b, hb, hbf⟩ := big_ev code more h1 h2
  cases b with
  | true => exact Ev.step (fun k => laws_FnWorldsTurned.eq k code more) (Ev.bind hb (Ev.yes rfl (Ev.now _)))
  | false =>
    obtain ⟨W, d1, w1, w2⟩ := drawW_ev code hc
    have go : ∀ (T M B : Wo) (t : ByteArray) (ok : Bool), Ev (fun k => impl_TurnWorld k W) (T, ok) → Ev (fun k => spec_TurnWorld k W) (T, ok) → Ev (fun k => impl_MirrorWorld k W) (M, ok) → Ev (fun k => spec_MirrorWorld k W) (M, ok) → Ev (fun k => impl_BackWorld k W) (B, ok) → Ev (fun k => spec_BackWorld k W) (B, ok) → Ev (fun k => impl_WorldText k W) (t, ok) → Ev (fun k => spec_WorldText k W) (t, ok) → Ev (fun k => impl_IsWorld k W) ok → Ev (fun k => laws_FnWorldsTurned_c k (more, W, T, ok, M, B, t)) true → Ev (fun k => laws_FnWorldsTurned k (code, more)) true := fun T M B t ok a1 b1 a2 b2 a3 b3 a4 b4 iw q =>
      Ev.step (fun k => laws_FnWorldsTurned.eq k code more) (Ev.bind hb (Ev.no rfl (Ev.bind d1 (Ev.bind a1 (Ev.bind b1 (Ev.bind a2 (Ev.bind b2 (Ev.bind a3 (Ev.bind b3 (Ev.bind a4 (Ev.bind b4 (Ev.no (sameB _) (Ev.no (same7 T) (Ev.no (sameB _) (Ev.no (same7 M) (Ev.no (sameB _) (Ev.no (same7 B) (Ev.no (sameB _) (Ev.no (sameS _) (Ev.no (sameB _) (Ev.no (sameB _) (Ev.no (sameB _) (Ev.bind iw (Ev.no (sameB _) (Ev.bind q (Ev.now _))))))))))))))))))))))))))
    by_cases K : OkO W
    · obtain ⟨T, X, V2, V3, a1, b1, e1, e2, e3, e4, e5⟩ := turn_law K
      obtain ⟨M, Y, a2, b2, e6, e7, e8⟩ := mir_law K
      obtain ⟨t, a4, b4, e9⟩ := parse_text K
      have iw := (isW_ev W (by omega) (by omega)).isT K
      exact go T M (revO W) t true a1 b1 a2 b2 (backWorld_ev W K) (backS_ev K) a4 b4 iw (st1 more hm W T true M (revO W) t fun _ => ⟨K, rev_ok W K, X, V2, V3, Y, a1, e1, e2, e3, e4, e5, e6, e7, e8, e9⟩)
    · obtain ⟨a1, b1, a2, b2, a3, b3⟩ := noW (W := W) (by omega) (by omega) K
      obtain ⟨a4, b4⟩ := wtext_no (W := W) (by omega) (by omega) K
      have iw := (isW_ev W (by omega) (by omega)).isF K
      exact go zeroO zeroO zeroO ByteArray.empty false a1 b1 a2 b2 a3 b3 a4 b4 iw (st1 more hm W zeroO false zeroO zeroO ByteArray.empty nofun)
theorem pure : ∀ d : Dl laws_FnWorldsTurned.ins, goodL laws_FnWorldsTurned.ins d → ∃ k, laws_FnWorldsTurned k d = some true := by
  rintro ⟨code, more⟩ ⟨hg1, hg2⟩
  exact main code more hg1.1 hg2.1 (fun x hx => good8 (hg1.2 x hx)) (fun x hx => good8 (hg2.2 x hx))
end Go.Proofs.YtkaiidmnigpicaaGreatDoor.fnWorldsTurned
