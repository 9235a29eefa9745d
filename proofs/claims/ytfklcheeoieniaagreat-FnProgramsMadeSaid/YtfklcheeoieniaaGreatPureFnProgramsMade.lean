/- The plain law FnProgramsMade. -/
import Derived.Test.YtfklcheeoieniaaGreatOk
import Derived.Test.YtfklcheeoieniaaGreatPuMadeD
namespace Go.Proofs.YtfklcheeoieniaaGreat.fnProgramsMade
open Go Go.Proofs Go.Proofs.YtfklcheeoieniaaGreatS
set_option linter.unusedVariables false
set_option linter.unusedSimpArgs false
set_option maxRecDepth 10000
theorem sameS (s : ByteArray) : (!(strEq s s)) = false := by rw [strEq_self]; rfl
noncomputable abbrev spiT (n : Int) (l : List Int) (r : ByteArray × Bool) (k : Nat) : Option Bool :=
  cond r.2 ((impl_LengthOf k (r.1, 1)).bind fun r31 => (impl_QuartersOf k r.1).bind fun r32 => cond r31.2 (cond (r31.1 == (w64 ((w64 (n * (w64 (n + 1)))).tdiv 2))) (cond r32.2 (cond (r32.1 == (w64 (n - (w64 (2 * (l.length : Int)))))) (some ((r.1.size : Int) == (w64 (2 * n)))) (some false)) (some false)) (some false)) (some false)) (some true)
noncomputable abbrev groT (u : ByteArray) (K : Int) (r : ByteArray × Bool) (n : Int) (l : List Int) (q : ByteArray × Bool) (k : Nat) : Option Bool :=
  cond r.2 ((impl_PlaceAfter k (u, 3)).bind fun r29 => (impl_PlaceAfter k (r.1, 3)).bind fun r30 => cond (!r29.2.2.2) (some false) (cond (!r30.2.2.2) (some false) (cond (r30.1 != (w64 (K * r29.1))) (some false) (cond (r30.2.1 != (w64 (K * r29.2.1))) (some false) (cond (r30.2.2.1 != r29.2.2.1) (some false) (spiT n l q k)))))) (spiT n l q k)
theorem mul_range' {N : Nat} (h : 1 ≤ N ∧ N ≤ 9) : 0 ≤ (N : Int) * ((N : Int) + 1) ∧ (N : Int) * ((N : Int) + 1) ≤ 100 := by
  have : N = 1 ∨ N = 2 ∨ N = 3 ∨ N = 4 ∨ N = 5 ∨ N = 6 ∨ N = 7 ∨ N = 8 ∨ N = 9 := by omega
  rcases this with rfl | rfl | rfl | rfl | rfl | rfl | rfl | rfl | rfl <;> decide
theorem mul9 {c : Nat} (h : 1 ≤ c ∧ c ≤ 9) {x : Int} (h1 : -10000 ≤ x) (h2 : x ≤ 10000) : -100000 ≤ (c : Int) * x ∧ (c : Int) * x ≤ 100000 := by
  have : c = 1 ∨ c = 2 ∨ c = 3 ∨ c = 4 ∨ c = 5 ∨ c = 6 ∨ c = 7 ∨ c = 8 ∨ c = 9 := by omega
  rcases this with rfl | rfl | rfl | rfl | rfl | rfl | rfl | rfl | rfl <;> omega
theorem spi_ev (n : Int) (l : List Int) (hl : l.length ≤ 20) : ∃ r, Ev (fun k => impl_SpiralProgram k (n, l)) r ∧ Ev (fun k => spec_SpiralProgram k (n, l)) r ∧ Ev (fun k => spiT n l r k) true := by
  by_cases h : (1 ≤ n ∧ n ≤ 9) ∧ RisL l n
  · obtain ⟨hn, hr⟩ := h
    obtain ⟨N, rfl⟩ := Int.eq_ofNat_of_zero_le (a := n) (by omega)
    have hN : 1 ≤ N ∧ N ≤ 9 := by omega
    obtain ⟨a, b⟩ := spiral_ev l (by omega) N hN hr
    refine ⟨_, a, b, ?_⟩
    have h9 : 1 ≤ (spiP N l).length ∧ (spiP N l).length ≤ 9 := by rw [spi_len]; exact hN
    have hok := spi_ok hN.2 l
    have e1 := lengthOf_ev (spiP N l) h9 hok
    have e2 := quarters_of_ev (spiP N l) h9 hok
    obtain ⟨c1, c2⟩ := spi_count N l
    have c3 := spi_lefts hr
    have s1 := spi_sum hN l
    have hz := enc_size (spiP N l)
    rw [spi_len] at hz
    have m1 := mul_range' hN
    refine Ev.yes rfl (Ev.bind e1 (Ev.bind e2 (Ev.yes rfl (Ev.yes ?_ (Ev.yes rfl (Ev.yes ?_ (Ev.now' ?_)))))))
    · rw [beq_iff_eq]
      show (lenP (spiP N l) : Int) = w64 ((w64 ((N : Int) * w64 ((N : Int) + 1))).tdiv 2)
      rw [w64_of (n := (N : Int) + 1) (by omega) (by omega), w64_of (n := (N : Int) * ((N : Int) + 1)) (by omega) (by omega), ← s1, w64_of (by omega) (by rw [s1, Int.tdiv_eq_ediv_of_nonneg (by omega)]; omega)]
    · rw [beq_iff_eq]
      show (cntP 82 (spiP N l) : Int) - (cntP 76 (spiP N l) : Int) + 2 * (cntP 85 (spiP N l) : Int) = w64 ((N : Int) - w64 (2 * (l.length : Int)))
      rw [w64_of (n := 2 * (l.length : Int)) (by omega) (by omega), w64_of (by omega) (by omega)]
      omega
    · rw [beq_iff_eq]
      show ((enc (spiP N l)).size : Int) = w64 (2 * (N : Int))
      rw [w64_of (by omega) (by omega)]
      omega
  · obtain ⟨a, b⟩ := spiral_no l (by omega) n h
    exact ⟨_, a, b, Ev.no rfl (Ev.now _)⟩
theorem near_rep {P : List Pa} (hP : ∀ p ∈ P, PaOk p) (hl : P.length ≤ 9) : ∀ (m : Nat) {n : Int} {t : Tu}, NearT n t → NearT (n + 81 * (m : Int)) (repT m P t)
  | 0, n, t, h => by
    show NearT (n + 81 * ((0 : Nat) : Int)) t
    rw [show n + 81 * ((0 : Nat) : Int) = n by omega]
    exact h
  | m + 1, n, t, h => by
    obtain ⟨h1, h2, h3⟩ := near_run hP h
    have := near_rep hP hl m (n := n + 81) (t := YtfklcheeoieniaaGreatS.runT P t) ⟨by omega, by omega, h3⟩
    rw [show n + 81 + 81 * (m : Int) = n + 81 * ((m + 1 : Nat) : Int) by omega] at this
    exact this
theorem gro_ev (u : ByteArray) (hu : u.size ≤ 1000) (K : Int) (n : Int) (l : List Int) (q : ByteArray × Bool) (hq : Ev (fun k => spiT n l q k) true) : ∃ r, Ev (fun k => impl_GrowProgram k (u, K)) r ∧ Ev (fun k => spec_GrowProgram k (u, K)) r ∧ Ev (fun k => groT u K r n l q k) true := by
  by_cases h : ProgOk u ∧ 1 ≤ K ∧ K ≤ 9
  · obtain ⟨hu, hK⟩ := h
    obtain ⟨P, rfl, h9, hP⟩ := prog_enc hu
    obtain ⟨c, rfl⟩ := Int.eq_ofNat_of_zero_le (a := K) (by omega)
    obtain ⟨g1, g2⟩ := grow_ev P h9 hP c (by omega)
    by_cases hc : ∀ p ∈ P, p.1 * c ≤ 9
    · obtain ⟨a, b⟩ := g1 hc
      refine ⟨_, a, b, ?_⟩
      have gl : 1 ≤ (growP c P).length ∧ (growP c P).length ≤ 9 := by rw [growP_len]; exact h9
      have p1 : Ev (fun k => impl_PlaceAfter k (enc P, 3)) _ := place_ev P h9 hP 3 (by omega)
      have p2 : Ev (fun k => impl_PlaceAfter k (enc (growP c P), 3)) _ := place_ev (growP c P) gl (growP_ok hP hc) 3 (by omega)
      have e0 : growT c (0, 0, 0) = (0, 0, 0) := by
        show ((c : Int) * 0, (c : Int) * 0, (0 : Int)) = (0, 0, 0)
        rw [Int.mul_zero]
      have er := rep_grow c P 3 (0, 0, 0)
      rw [e0] at er
      rw [er] at p2
      obtain ⟨⟨b1, b2⟩, ⟨b3, b4⟩, b5⟩ := near_rep hP h9.2 3 (n := 0) (t := (0, 0, 0)) ⟨by simp only; omega, by simp only; omega, by simp only; omega⟩
      generalize repT 3 P (0, 0, 0) = t at p1 p2 b1 b2 b3 b4 b5
      have m1 := mul9 (c := c) (by omega) (x := t.1) (by omega) (by omega)
      have m2 := mul9 (c := c) (by omega) (x := t.2.1) (by omega) (by omega)
      refine Ev.yes rfl (Ev.bind p1 (Ev.bind p2 (Ev.no rfl (Ev.no rfl (Ev.no ?_ (Ev.no ?_ (Ev.no (neq_self _) hq)))))))
      · show ((c : Int) * t.1 != w64 ((c : Int) * t.1)) = false
        rw [w64_of (by omega) (by omega)]
        exact neq_self _
      · show ((c : Int) * t.2.1 != w64 ((c : Int) * t.2.1)) = false
        rw [w64_of (by omega) (by omega)]
        exact neq_self _
    · obtain ⟨a, b⟩ := g2 hc
      exact ⟨_, a, b, Ev.no rfl hq⟩
  · obtain ⟨a, b⟩ := grow_no u (by omega) K h
    exact ⟨_, a, b, Ev.no rfl hq⟩
theorem tail (more : List Int) (hm : ∀ x ∈ more, 0 ≤ x ∧ x ≤ 255) : Ev (fun k => (spec_DrawJoinPrograms k more).bind fun r17 => (impl_JoinPrograms k r17).bind fun r18 => (spec_JoinPrograms k r17).bind fun r19 => (spec_DrawGrowProgram k more).bind fun r20 => (impl_GrowProgram k r20).bind fun r21 => (spec_GrowProgram k r20).bind fun r22 => (spec_DrawSpiralProgram k more).bind fun r23 => (impl_SpiralProgram k r23).bind fun r24 => (spec_SpiralProgram k r23).bind fun r25 => cond (!(r18.2 == r19.2)) (some false) (cond (!(strEq r18.1 r19.1)) (some false) (cond (!(r21.2 == r22.2)) (some false) (cond (!(strEq r21.1 r22.1)) (some false) (cond (!(r24.2 == r25.2)) (some false) (cond (!(strEq r24.1 r25.1)) (some false) (cond r18.2 ((impl_PlaceAfter k (r17.1, 1)).bind fun r26 => (impl_PlaceAfter k (r17.2, 1)).bind fun r27 => (impl_PlaceAfter k (r18.1, 1)).bind fun r28 => cond (r26.2.2.1 == 1) (cond (!r26.2.2.2) (some false) (cond (!r27.2.2.2) (some false) (cond (!r28.2.2.2) (some false) (cond (r28.1 != (w64 (r26.1 + (w64 (0 - r27.2.1))))) (some false) (cond (r28.2.1 != (w64 (r26.2.1 + r27.1))) (some false) (cond (r28.2.2.1 != ((w64 (r26.2.2.1 + r27.2.2.1)).tmod 4)) (some false) (cond r21.2 ((impl_PlaceAfter k (r20.1, 3)).bind fun r29 => (impl_PlaceAfter k (r21.1, 3)).bind fun r30 => cond (!r29.2.2.2) (some false) (cond (!r30.2.2.2) (some false) (cond (r30.1 != (w64 (r20.2 * r29.1))) (some false) (cond (r30.2.1 != (w64 (r20.2 * r29.2.1))) (some false) (cond (r30.2.2.1 != r29.2.2.1) (some false) (cond r24.2 ((impl_LengthOf k (r24.1, 1)).bind fun r31 => (impl_QuartersOf k r24.1).bind fun r32 => cond r31.2 (cond (r31.1 == (w64 ((w64 (r23.1 * (w64 (r23.1 + 1)))).tdiv 2))) (cond r32.2 (cond (r32.1 == (w64 (r23.1 - (w64 (2 * (r23.2.length : Int)))))) (some ((r24.1.size : Int) == (w64 (2 * r23.1)))) (some false)) (some false)) (some false)) (some false)) (some true))))))) (cond r24.2 ((impl_LengthOf k (r24.1, 1)).bind fun r33 => (impl_QuartersOf k r24.1).bind fun r34 => cond r33.2 (cond (r33.1 == (w64 ((w64 (r23.1 * (w64 (r23.1 + 1)))).tdiv 2))) (cond r34.2 (cond (r34.1 == (w64 (r23.1 - (w64 (2 * (r23.2.length : Int)))))) (some ((r24.1.size : Int) == (w64 (2 * r23.1)))) (some false)) (some false)) (some false)) (some false)) (some true))))))))) (cond (r26.2.2.1 == 2) (cond (!r26.2.2.2) (some false) (cond (!r27.2.2.2) (some false) (cond (!r28.2.2.2) (some false) (cond (r28.1 != (w64 (r26.1 + (w64 (0 - r27.1))))) (some false) (cond (r28.2.1 != (w64 (r26.2.1 + (w64 (0 - r27.2.1))))) (some false) (cond (r28.2.2.1 != ((w64 (r26.2.2.1 + r27.2.2.1)).tmod 4)) (some false) (cond r21.2 ((impl_PlaceAfter k (r20.1, 3)).bind fun r35 => (impl_PlaceAfter k (r21.1, 3)).bind fun r36 => cond (!r35.2.2.2) (some false) (cond (!r36.2.2.2) (some false) (cond (r36.1 != (w64 (r20.2 * r35.1))) (some false) (cond (r36.2.1 != (w64 (r20.2 * r35.2.1))) (some false) (cond (r36.2.2.1 != r35.2.2.1) (some false) (cond r24.2 ((impl_LengthOf k (r24.1, 1)).bind fun r37 => (impl_QuartersOf k r24.1).bind fun r38 => cond r37.2 (cond (r37.1 == (w64 ((w64 (r23.1 * (w64 (r23.1 + 1)))).tdiv 2))) (cond r38.2 (cond (r38.1 == (w64 (r23.1 - (w64 (2 * (r23.2.length : Int)))))) (some ((r24.1.size : Int) == (w64 (2 * r23.1)))) (some false)) (some false)) (some false)) (some false)) (some true))))))) (cond r24.2 ((impl_LengthOf k (r24.1, 1)).bind fun r39 => (impl_QuartersOf k r24.1).bind fun r40 => cond r39.2 (cond (r39.1 == (w64 ((w64 (r23.1 * (w64 (r23.1 + 1)))).tdiv 2))) (cond r40.2 (cond (r40.1 == (w64 (r23.1 - (w64 (2 * (r23.2.length : Int)))))) (some ((r24.1.size : Int) == (w64 (2 * r23.1)))) (some false)) (some false)) (some false)) (some false)) (some true))))))))) (cond (r26.2.2.1 == 3) (cond (!r26.2.2.2) (some false) (cond (!r27.2.2.2) (some false) (cond (!r28.2.2.2) (some false) (cond (r28.1 != (w64 (r26.1 + r27.2.1))) (some false) (cond (r28.2.1 != (w64 (r26.2.1 + (w64 (0 - r27.1))))) (some false) (cond (r28.2.2.1 != ((w64 (r26.2.2.1 + r27.2.2.1)).tmod 4)) (some false) (cond r21.2 ((impl_PlaceAfter k (r20.1, 3)).bind fun r41 => (impl_PlaceAfter k (r21.1, 3)).bind fun r42 => cond (!r41.2.2.2) (some false) (cond (!r42.2.2.2) (some false) (cond (r42.1 != (w64 (r20.2 * r41.1))) (some false) (cond (r42.2.1 != (w64 (r20.2 * r41.2.1))) (some false) (cond (r42.2.2.1 != r41.2.2.1) (some false) (cond r24.2 ((impl_LengthOf k (r24.1, 1)).bind fun r43 => (impl_QuartersOf k r24.1).bind fun r44 => cond r43.2 (cond (r43.1 == (w64 ((w64 (r23.1 * (w64 (r23.1 + 1)))).tdiv 2))) (cond r44.2 (cond (r44.1 == (w64 (r23.1 - (w64 (2 * (r23.2.length : Int)))))) (some ((r24.1.size : Int) == (w64 (2 * r23.1)))) (some false)) (some false)) (some false)) (some false)) (some true))))))) (cond r24.2 ((impl_LengthOf k (r24.1, 1)).bind fun r45 => (impl_QuartersOf k r24.1).bind fun r46 => cond r45.2 (cond (r45.1 == (w64 ((w64 (r23.1 * (w64 (r23.1 + 1)))).tdiv 2))) (cond r46.2 (cond (r46.1 == (w64 (r23.1 - (w64 (2 * (r23.2.length : Int)))))) (some ((r24.1.size : Int) == (w64 (2 * r23.1)))) (some false)) (some false)) (some false)) (some false)) (some true))))))))) (cond (!r26.2.2.2) (some false) (cond (!r27.2.2.2) (some false) (cond (!r28.2.2.2) (some false) (cond (r28.1 != (w64 (r26.1 + r27.1))) (some false) (cond (r28.2.1 != (w64 (r26.2.1 + r27.2.1))) (some false) (cond (r28.2.2.1 != ((w64 (r26.2.2.1 + r27.2.2.1)).tmod 4)) (some false) (cond r21.2 ((impl_PlaceAfter k (r20.1, 3)).bind fun r47 => (impl_PlaceAfter k (r21.1, 3)).bind fun r48 => cond (!r47.2.2.2) (some false) (cond (!r48.2.2.2) (some false) (cond (r48.1 != (w64 (r20.2 * r47.1))) (some false) (cond (r48.2.1 != (w64 (r20.2 * r47.2.1))) (some false) (cond (r48.2.2.1 != r47.2.2.1) (some false) (cond r24.2 ((impl_LengthOf k (r24.1, 1)).bind fun r49 => (impl_QuartersOf k r24.1).bind fun r50 => cond r49.2 (cond (r49.1 == (w64 ((w64 (r23.1 * (w64 (r23.1 + 1)))).tdiv 2))) (cond r50.2 (cond (r50.1 == (w64 (r23.1 - (w64 (2 * (r23.2.length : Int)))))) (some ((r24.1.size : Int) == (w64 (2 * r23.1)))) (some false)) (some false)) (some false)) (some false)) (some true))))))) (cond r24.2 ((impl_LengthOf k (r24.1, 1)).bind fun r51 => (impl_QuartersOf k r24.1).bind fun r52 => cond r51.2 (cond (r51.1 == (w64 ((w64 (r23.1 * (w64 (r23.1 + 1)))).tdiv 2))) (cond r52.2 (cond (r52.1 == (w64 (r23.1 - (w64 (2 * (r23.2.length : Int)))))) (some ((r24.1.size : Int) == (w64 (2 * r23.1)))) (some false)) (some false)) (some false)) (some false)) (some true)))))))))))) (cond r21.2 ((impl_PlaceAfter k (r20.1, 3)).bind fun r53 => (impl_PlaceAfter k (r21.1, 3)).bind fun r54 => cond (!r53.2.2.2) (some false) (cond (!r54.2.2.2) (some false) (cond (r54.1 != (w64 (r20.2 * r53.1))) (some false) (cond (r54.2.1 != (w64 (r20.2 * r53.2.1))) (some false) (cond (r54.2.2.1 != r53.2.2.1) (some false) (cond r24.2 ((impl_LengthOf k (r24.1, 1)).bind fun r55 => (impl_QuartersOf k r24.1).bind fun r56 => cond r55.2 (cond (r55.1 == (w64 ((w64 (r23.1 * (w64 (r23.1 + 1)))).tdiv 2))) (cond r56.2 (cond (r56.1 == (w64 (r23.1 - (w64 (2 * (r23.2.length : Int)))))) (some ((r24.1.size : Int) == (w64 (2 * r23.1)))) (some false)) (some false)) (some false)) (some false)) (some true))))))) (cond r24.2 ((impl_LengthOf k (r24.1, 1)).bind fun r57 => (impl_QuartersOf k r24.1).bind fun r58 => cond r57.2 (cond (r57.1 == (w64 ((w64 (r23.1 * (w64 (r23.1 + 1)))).tdiv 2))) (cond r58.2 (cond (r58.1 == (w64 (r23.1 - (w64 (2 * (r23.2.length : Int)))))) (some ((r24.1.size : Int) == (w64 (2 * r23.1)))) (some false)) (some false)) (some false)) (some false)) (some true)))))))))) true := by
  obtain ⟨s, t, ej, zs, zt⟩ := drawJoin_ev more hm
  obtain ⟨u, K, eg, zu⟩ := drawGrow_ev more hm
  obtain ⟨n, l, es, hl⟩ := drawSpiral_ev more hm
  obtain ⟨S, s1, s2, s3⟩ := spi_ev n l hl
  obtain ⟨G, g1, g2, g3⟩ := gro_ev u (by omega) K n l S s3
  obtain ⟨j1, j2⟩ := join_ev s t (by omega) (by omega)
  have sb : ∀ b : Bool, (!(b == b)) = false := fun b => by cases b <;> rfl
  by_cases H : ProgOk s ∧ ProgOk t ∧ ProgOk (s ++ t)
  · obtain ⟨a, b⟩ := j1 H
    obtain ⟨h1, h2, h3⟩ := H
    obtain ⟨P, rfl, hP9, hP⟩ := prog_enc h1
    obtain ⟨Q, rfl, hQ9, hQ⟩ := prog_enc h2
    rw [enc_append] at a b h3
    have hz := enc_size (P ++ Q)
    have hz9 := h3.2.1
    have hPQ : ∀ p ∈ P ++ Q, PaOk p := fun p hp => (List.mem_append.1 hp).elim (hP p) (hQ p)
    have p1 : Ev (fun k => impl_PlaceAfter k (enc P, 1)) _ := place_ev P hP9 hP 1 (by omega)
    have p2 : Ev (fun k => impl_PlaceAfter k (enc Q, 1)) _ := place_ev Q hQ9 hQ 1 (by omega)
    have p3 : Ev (fun k => impl_PlaceAfter k (enc (P ++ Q), 1)) _ := place_ev (P ++ Q) (by omega) hPQ 1 (by omega)
    have ea : ∀ R : List Pa, repT 1 R (0, 0, 0) = YtfklcheeoieniaaGreatS.runT R (0, 0, 0) := fun R => rfl
    rw [ea] at p1 p2 p3
    rw [run_append] at p3
    have n0 : NearT 0 (0, 0, 0) := ⟨by simp only; omega, by simp only; omega, by simp only; omega⟩
    have nP := near_run hP n0
    have nQ := near_run hQ n0
    generalize YtfklcheeoieniaaGreatS.runT P (0, 0, 0) = tp at p1 p3 nP
    obtain ⟨x, y, w⟩ := tp
    obtain ⟨x1, y1, w1⟩ := nP
    simp only at x1 y1 w1
    rw [run_from Q x y w w1] at p3
    generalize YtfklcheeoieniaaGreatS.runT Q (0, 0, 0) = tq at p2 p3 nQ
    obtain ⟨x', y', w'⟩ := tq
    obtain ⟨x2, y2, w2⟩ := nQ
    simp only at x2 y2 w2 p1 p2 p3
    have ew : ((w + w') % 4 != (w64 (w + w')).tmod 4) = false := by
      rw [w64_of (by omega) (by omega), Int.tmod_eq_emod_of_nonneg (by omega)]
      exact neq_self _
    have neg : ∀ z : Int, -10000 ≤ z ∧ z ≤ 10000 → w64 (0 - z) = -z := fun z hz => by rw [w64_of (by omega) (by omega)]; omega
    have ad : ∀ z z' e : Int, -10000 ≤ z ∧ z ≤ 10000 → -10000 ≤ e ∧ e ≤ 10000 → e = z' → (z + z' != w64 (z + e)) = false := fun z z' e h1 h2 h3 => by
      subst h3
      rw [w64_of (by omega) (by omega)]
      exact neq_self _
    have cw : w = 0 ∨ w = 1 ∨ w = 2 ∨ w = 3 := by omega
    rcases cw with rfl | rfl | rfl | rfl
    · have er : rotT 0 x' y' = (x', y') := rfl
      rw [er] at p3
      have u1 := ad x x' x' (by omega) (by omega) rfl
      have u2 := ad y y' y' (by omega) (by omega) rfl
      repeat' first
        | exact g3
        | exact Ev.now _
        | refine Ev.bind (by assumption) ?_
        | refine Ev.no (by first | rfl | assumption | exact neq_self _ | exact sb _ | exact sameS _) ?_
        | refine Ev.yes (by first | rfl | assumption) ?_
    · have er : rotT 1 x' y' = (-y', x') := rfl
      rw [er] at p3
      have u1 := ad x (-y') (w64 (0 - y')) (by omega) (by rw [neg _ (by omega)]; omega) (neg _ (by omega))
      have u2 := ad y x' x' (by omega) (by omega) rfl
      repeat' first
        | exact g3
        | exact Ev.now _
        | refine Ev.bind (by assumption) ?_
        | refine Ev.no (by first | rfl | assumption | exact neq_self _ | exact sb _ | exact sameS _) ?_
        | refine Ev.yes (by first | rfl | assumption) ?_
    · have er : rotT 2 x' y' = (-x', -y') := rfl
      rw [er] at p3
      have u1 := ad x (-x') (w64 (0 - x')) (by omega) (by rw [neg _ (by omega)]; omega) (neg _ (by omega))
      have u2 := ad y (-y') (w64 (0 - y')) (by omega) (by rw [neg _ (by omega)]; omega) (neg _ (by omega))
      repeat' first
        | exact g3
        | exact Ev.now _
        | refine Ev.bind (by assumption) ?_
        | refine Ev.no (by first | rfl | assumption | exact neq_self _ | exact sb _ | exact sameS _) ?_
        | refine Ev.yes (by first | rfl | assumption) ?_
    · have er : rotT 3 x' y' = (y', -x') := rfl
      rw [er] at p3
      have u1 := ad x y' y' (by omega) (by omega) rfl
      have u2 := ad y (-x') (w64 (0 - x')) (by omega) (by rw [neg _ (by omega)]; omega) (neg _ (by omega))
      repeat' first
        | exact g3
        | exact Ev.now _
        | refine Ev.bind (by assumption) ?_
        | refine Ev.no (by first | rfl | assumption | exact neq_self _ | exact sb _ | exact sameS _) ?_
        | refine Ev.yes (by first | rfl | assumption) ?_
  · obtain ⟨a, b⟩ := j2 H
    repeat' first
      | exact g3
      | exact Ev.now _
      | refine Ev.bind (by assumption) ?_
      | refine Ev.no (by first | rfl | assumption | exact neq_self _ | exact sb _ | exact sameS _) ?_
      | refine Ev.yes (by first | rfl | assumption) ?_
theorem main (code more : List Int) (h1 : code.length ≤ 9223372036854775807) (h2 : more.length ≤ 9223372036854775807) (hc : ∀ x ∈ code, 0 ≤ x ∧ x ≤ 255) (hm : ∀ x ∈ more, 0 ≤ x ∧ x ≤ 255) : ∃ k, laws_FnProgramsMade k (code, more) = some true := by
  obtain ⟨b, eb, _⟩ := big_ev code more h1 h2
  refine Ev.rounds (Ev.step (fun k => laws_FnProgramsMade.eq k code more) (Ev.bind eb (Ev.cond (fun _ => Ev.now _) fun _ => ?_)))
  have g3 := tail more hm
  have sb : ∀ b : Bool, (!(b == b)) = false := fun b => by cases b <;> rfl
  obtain ⟨s, ed, zs⟩ := drawBackP_ev code hc
  by_cases H : ProgOk s
  · obtain ⟨P, rfl, h9, hP⟩ := prog_enc H
    have bl : 1 ≤ (backP P).length ∧ (backP P).length ≤ 9 := by unfold backP; rw [List.length_reverse, othP_len]; exact h9
    have ol : 1 ≤ (othP P).length ∧ (othP P).length ≤ 9 := by rw [othP_len]; exact h9
    have bok : ∀ p ∈ backP P, PaOk p := rev_ok' (othP_ok P hP)
    have ook := othP_ok P hP
    have b1 := backI_ev P h9 hP
    have b2 := backS_ev P h9 hP
    have o1 := otherI_ev P h9 hP
    have o2 := otherS_ev P h9 hP
    have i1 := isP_ev P h9 hP
    have bb := backI_ev (backP P) bl bok
    rw [backP_backP] at bb
    have oo := otherI_ev (othP P) ol ook
    rw [othP_othP] at oo
    have q1 := quarters_of_ev P h9 hP
    have q2 := quarters_of_ev (othP P) ol ook
    obtain ⟨c1, c2, c3⟩ := cntP_oth P
    rw [c1, c2, c3] at q2
    have p1 : Ev (fun k => impl_PlaceAfter k (enc P, 1)) _ := place_ev P h9 hP 1 (by omega)
    have p2 : Ev (fun k => impl_PlaceAfter k (enc (othP P), 1)) _ := place_ev (othP P) ol ook 1 (by omega)
    have ea : ∀ R : List Pa, repT 1 R (0, 0, 0) = YtfklcheeoieniaaGreatS.runT R (0, 0, 0) := fun R => rfl
    rw [ea] at p1 p2
    have em := run_mir P (0, 0, 0) ⟨by simp only; omega, by simp only; omega⟩ hP
    have e0 : mirT (0, 0, 0) = (0, 0, 0) := rfl
    rw [e0] at em
    rw [em] at p2
    have nP := near_run hP (n := 0) (t := (0, 0, 0)) ⟨by simp only; omega, by simp only; omega, by simp only; omega⟩
    generalize YtfklcheeoieniaaGreatS.runT P (0, 0, 0) = tp at p1 p2 nP
    obtain ⟨x, y, w⟩ := tp
    obtain ⟨x1, y1, w1⟩ := nP
    simp only at x1 y1 w1
    have ex : (-x != w64 (0 - x)) = false := by
      rw [w64_of (by omega) (by omega), show 0 - x = -x by omega]
      exact neq_self _
    have l1 := lengthOf_ev (backP P) bl bok
    rw [lenP_back] at l1
    have l2 := lengthOf_ev P h9 hP
    have cb : ∀ c : UInt8, cntP c P ≤ 9 := fun c => by
      unfold cntP
      have := List.count_le_length (a := c) (l := P.map fun p => p.2)
      rw [List.length_map] at this
      omega
    have b82 := cb 82
    have b76 := cb 76
    have b85 := cb 85
    have ar := around_ev more P h9.2 hP ((cntP 82 P : Int) - (cntP 76 P : Int) + 2 * (cntP 85 P : Int)) ((cntP 76 P : Int) - (cntP 82 P : Int) + 2 * (cntP 85 P : Int))
    have e4 : (w64 (((cntP 82 P : Int) - (cntP 76 P : Int) + 2 * (cntP 85 P : Int)) + ((cntP 76 P : Int) - (cntP 82 P : Int) + 2 * (cntP 85 P : Int))) != w64 (4 * (cntP 85 P : Int))) = false := by
      rw [show ((cntP 82 P : Int) - (cntP 76 P : Int) + 2 * (cntP 85 P : Int)) + ((cntP 76 P : Int) - (cntP 82 P : Int) + 2 * (cntP 85 P : Int)) = 4 * (cntP 85 P : Int) by omega]
      exact neq_self _
    repeat' first
      | exact g3
      | exact Ev.now _
      | refine Ev.bind (by assumption) ?_
      | refine Ev.no (by first | rfl | assumption | exact neq_self _ | exact sb _ | exact sameS _) ?_
      | refine Ev.yes (by first | rfl | assumption) ?_
  · have i1 := (isProgram_ev s (by omega)).isF H
    have i2 := (tuGood_ev s (by omega)).isF H
    have b1 : Ev (fun k => impl_BackProgram k s) (ByteArray.empty, false) := Ev.step (fun k => impl_BackProgram.eq k s) (Ev.bind i1 (Ev.yes rfl (Ev.now _)))
    have b2 : Ev (fun k => spec_BackProgram k s) (ByteArray.empty, false) := Ev.step (fun k => spec_BackProgram.eq k s) (Ev.bind i2 (Ev.yes rfl (Ev.now _)))
    have o1 : Ev (fun k => impl_OtherProgram k s) (ByteArray.empty, false) := Ev.step (fun k => impl_OtherProgram.eq k s) (Ev.bind i1 (Ev.yes rfl (Ev.now _)))
    have o2 : Ev (fun k => spec_OtherProgram k s) (ByteArray.empty, false) := Ev.step (fun k => spec_OtherProgram.eq k s) (Ev.bind i2 (Ev.yes rfl (Ev.now _)))
    repeat' first
      | exact g3
      | exact Ev.now _
      | refine Ev.bind (by assumption) ?_
      | refine Ev.no (by first | rfl | assumption | exact neq_self _ | exact sb _ | exact sameS _) ?_
      | refine Ev.yes (by first | rfl | assumption) ?_
theorem good8 {x : Int} (h : (Sh.int IntKind.u8).good x) : 0 ≤ x ∧ x ≤ 255 := by
  have h : (Lit.int .u8 x).wf = true := h
  simp [Lit.wf, IntKind.min, IntKind.max, IntKind.bits, IntKind.signed] at h
  omega
theorem pure : ∀ d : Dl laws_FnProgramsMade.ins, goodL laws_FnProgramsMade.ins d → ∃ k, laws_FnProgramsMade k d = some true := by
  rintro ⟨code, more⟩ ⟨hg1, hg2⟩
  exact main code more hg1.1 hg2.1 (fun x hx => good8 (hg1.2 x hx)) (fun x hx => good8 (hg2.2 x hx))
end Go.Proofs.YtfklcheeoieniaaGreat.fnProgramsMade
