/- Printed by a program of this session (wip/tools), with the kit's printer: plain functions and their walks. -/
import Derived.Test.YteemifeclhenbaaDoorP0
import Derived.Test.YteemifeclhenbaaDoorP2
import Derived.Test.YteemifeclhenbaaDoorP3
import Derived.Test.YteemifeclhenbaaDoorP4
import Derived.Test.YteemifeclhenbaaDoorP5
import Derived.Test.YteemifeclhenbaaDoorP6
import Derived.Test.YteemifeclhenbaaDoorP7
namespace Go.Proofs.YteemifeclhenbaaDoor.P
open Go.RowKit Go.Proofs.YteemifeclhenbaaDoorW.PrintWords Go.Proofs.YteemifeclhenbaaDoorW.PrintLast Go.Proofs.YteemifeclhenbaaDoorW.PrintMore
attribute [local go_sem] max2_int min2_int max_two min_two max_three min_three max_four min_four   -- for this text's walks alone
set_option linter.unusedVariables false
set_option linter.unusedSimpArgs false

/-! ### laws_FnExactAddClue: function 6 -/
def laws_FnExactAddClue.f (k : Nat) (a0_0 : ByteArray) (a0_1 : Int) (a0_2 : Int) (l0_3 : List (S26)) (a1_0 : Int) (a1_1 : Int) (a1_2 : Int) : Option (Bool) := (laws_szPuzzle.f a0_0 a0_1 a0_2 l0_3 1048576).bind fun t272 => (if t272 < 0 then (some true) else ((laws_toPuzzle.f k a0_0 a0_1 a0_2 l0_3).bind fun bt273 => ((laws_toClue.f a1_0 a1_1 a1_2).bind fun bt279 => ((spec_AddClue.f k bt273.1 bt273.2.1 bt273.2.2.1 bt273.2.2.2 bt279.1 bt279.2.1 bt279.2.2).bind fun bt282 => ((laws_toPuzzle.f k a0_0 a0_1 a0_2 l0_3).bind fun bt290 => ((laws_toClue.f a1_0 a1_1 a1_2).bind fun bt297 => ((impl_AddClue.f k bt290.1 bt290.2.1 bt290.2.2.1 bt290.2.2.2 bt297.1 bt297.2.1 bt297.2.2).bind fun bt300 => ((laws_eqPuzzle.f k bt300.1 bt300.2.1 bt300.2.2.1 bt300.2.2.2.1 bt282.1 bt282.2.1 bt282.2.2.1 bt282.2.2.2.1).bind fun t308 => (if t308 = true then (if (bt300.2.2.2.2 != bt282.2.2.2.2) = true then (none) else ((laws_toPuzzle.f k a0_0 a0_1 a0_2 l0_3).bind fun bt309 => ((laws_eqPuzzle.f k bt290.1 bt290.2.1 bt290.2.2.1 bt290.2.2.2 bt309.1 bt309.2.1 bt309.2.2.1 bt309.2.2.2).bind fun t315 => (if t315 = true then ((laws_markPuzzle.f k bt290.1 bt290.2.1 bt290.2.2.1 bt290.2.2.2 1).bind fun bt316 => (if bt316.1 < 0 then (none) else ((laws_eqPuzzle.f k bt300.1 bt300.2.1 bt300.2.2.1 bt300.2.2.2.1 bt282.1 bt282.2.1 bt282.2.2.1 bt282.2.2.2.1).bind fun t318 => (if t318 = true then ((laws_markPuzzle.f k bt300.1 bt300.2.1 bt300.2.2.1 bt300.2.2.2.1 1).bind fun bt319 => ((laws_heldPuzzle.f k bt300.1 bt300.2.1 bt300.2.2.1 bt319.2 1).bind fun t321 => (if t321 < 0 then (none) else (if t321 = bt319.1 then ((laws_toPuzzle.f k a0_0 a0_1 a0_2 l0_3).bind fun bt322 => ((laws_toClue.f a1_0 a1_1 a1_2).bind fun bt328 => ((impl_AddClue.f k bt322.1 bt322.2.1 bt322.2.2.1 bt322.2.2.2 bt328.1 bt328.2.1 bt328.2.2).bind fun bt331 => ((laws_eqPuzzle.f k bt331.1 bt331.2.1 bt331.2.2.1 bt331.2.2.2.1 bt282.1 bt282.2.1 bt282.2.2.1 bt282.2.2.2.1).bind fun t339 => (if t339 = true then (if (bt331.2.2.2.2 != bt282.2.2.2.2) = true then (none) else ((laws_heldPuzzle.f k bt300.1 bt300.2.1 bt300.2.2.1 bt319.2 1).bind fun t340 => (if t340 < 0 then (none) else (if t340 = bt319.1 then (some true) else (none))))) else (none)))))) else (none))))) else (none))))) else (none))))) else (none))))))))))
def laws_FnExactAddClue.T5 : Bool × List (List Nat × List Nat) := (true, [([], []), ([0], [0]), ([], []), ([2, 1], [2]), ([1, 3, 3], [1, 3]), ([4], [4]), ([5], [5]), ([5], [5]), ([], []), ([8, 6, 4, 0, 1, 2, 3, 4, 5, 6, 8], [6, 8]), ([7, 9, 0, 1, 2, 3, 4, 5, 6, 7, 8, 9], [7])])
def laws_FnExactAddClue.B5 : List Nat := [0, 1, 0, 7, 15, 31, 63, 63, 0, 383, 1023]
theorem laws_FnExactAddClue.tab5 : rtab .any (opsOf Tryd.f6 5) = laws_FnExactAddClue.T5 := by kernel_rfl
theorem laws_FnExactAddClue.bits5 : waitsOk laws_FnExactAddClue.T5.2 laws_FnExactAddClue.B5 = true := by kernel_rfl
def laws_FnExactAddClue.T7 : Bool × List (List Nat × List Nat) := (true, [([], []), ([], []), ([1], [1]), ([0, 2, 2], [0, 2]), ([3], [3]), ([4], [4]), ([4], [4]), ([], []), ([7, 5, 3, 0, 1, 2, 3, 4, 5, 7], [5, 7]), ([6, 8, 0, 1, 2, 3, 4, 5, 6, 7, 8], [6])])
def laws_FnExactAddClue.B7 : List Nat := [0, 0, 2, 7, 15, 31, 31, 0, 191, 511]
theorem laws_FnExactAddClue.tab7 : rtab .any (opsOf Tryd.f6 7) = laws_FnExactAddClue.T7 := by kernel_rfl
theorem laws_FnExactAddClue.bits7 : waitsOk laws_FnExactAddClue.T7.2 laws_FnExactAddClue.B7 = true := by kernel_rfl
def laws_FnExactAddClue.T24 : Bool × List (List Nat × List Nat) := (true, [([], []), ([0], [0]), ([], []), ([2, 1], [2]), ([1, 3, 3], [1, 3]), ([4], [4]), ([5], [5]), ([5], [5]), ([], []), ([8, 6, 4, 0, 1, 2, 3, 4, 5, 6, 8], [6, 8]), ([7, 9, 0, 1, 2, 3, 4, 5, 6, 7, 8, 9], [7])])
def laws_FnExactAddClue.B24 : List Nat := [0, 1, 0, 7, 15, 31, 63, 63, 0, 383, 1023]
theorem laws_FnExactAddClue.tab24 : rtab .any (opsOf Tryd.f6 24) = laws_FnExactAddClue.T24 := by kernel_rfl
theorem laws_FnExactAddClue.bits24 : waitsOk laws_FnExactAddClue.T24.2 laws_FnExactAddClue.B24 = true := by kernel_rfl
set_option maxHeartbeats 8000000 in
set_option maxRecDepth 100000 in
theorem laws_FnExactAddClue.calls (k : Nat) (a0_0 : ByteArray) (a0_1 : Int) (a0_2 : Int) (A0_3 : Option Addr) (c0_3 : Nat) (l0_3 : List (S26)) (a1_0 : Int) (a1_1 : Int) (a1_2 : Int) (r : Bool) (w : World) (hr0_3 : Kd.C k26 w A0_3 l0_3.length l0_3) (hc0_3 : l0_3.length ≤ c0_3) (h : laws_FnExactAddClue.f k a0_0 a0_1 a0_2 l0_3 a1_0 a1_1 a1_2 = some r) :
    Calls Tryd.prog 6 #[.agg #[.string a0_0, .int .i64 a0_1, .int .i64 a0_2, .slice A0_3 l0_3.length c0_3], .agg #[.int .i64 a1_0, .int .i64 a1_1, .int .i64 a1_2]] w fun e w' => e = .returned (.bool r) ∧ Below w.heap.size w w' := by
  have hu33 := Tryd.underlying33
  have hu26 := Tryd.underlying26
  have hu38 := Tryd.underlying38
  have HR0_3 := Aside0.mk hr0_3
  have HC0_3 := Aside0.mk hc0_3
  clear hr0_3 hc0_3
  have HB := Aside0.mk (Below.refl w.heap.size w)
  have H : ((laws_szPuzzle.f a0_0 a0_1 a0_2 l0_3 1048576).bind fun t272 => (if t272 < 0 then (some true) else ((laws_toPuzzle.f k a0_0 a0_1 a0_2 l0_3).bind fun bt273 => ((laws_toClue.f a1_0 a1_1 a1_2).bind fun bt279 => ((spec_AddClue.f k bt273.1 bt273.2.1 bt273.2.2.1 bt273.2.2.2 bt279.1 bt279.2.1 bt279.2.2).bind fun bt282 => ((laws_toPuzzle.f k a0_0 a0_1 a0_2 l0_3).bind fun bt290 => ((laws_toClue.f a1_0 a1_1 a1_2).bind fun bt297 => ((impl_AddClue.f k bt290.1 bt290.2.1 bt290.2.2.1 bt290.2.2.2 bt297.1 bt297.2.1 bt297.2.2).bind fun bt300 => ((laws_eqPuzzle.f k bt300.1 bt300.2.1 bt300.2.2.1 bt300.2.2.2.1 bt282.1 bt282.2.1 bt282.2.2.1 bt282.2.2.2.1).bind fun t308 => (if t308 = true then (if (bt300.2.2.2.2 != bt282.2.2.2.2) = true then (none) else ((laws_toPuzzle.f k a0_0 a0_1 a0_2 l0_3).bind fun bt309 => ((laws_eqPuzzle.f k bt290.1 bt290.2.1 bt290.2.2.1 bt290.2.2.2 bt309.1 bt309.2.1 bt309.2.2.1 bt309.2.2.2).bind fun t315 => (if t315 = true then ((laws_markPuzzle.f k bt290.1 bt290.2.1 bt290.2.2.1 bt290.2.2.2 1).bind fun bt316 => (if bt316.1 < 0 then (none) else ((laws_eqPuzzle.f k bt300.1 bt300.2.1 bt300.2.2.1 bt300.2.2.2.1 bt282.1 bt282.2.1 bt282.2.2.1 bt282.2.2.2.1).bind fun t318 => (if t318 = true then ((laws_markPuzzle.f k bt300.1 bt300.2.1 bt300.2.2.1 bt300.2.2.2.1 1).bind fun bt319 => ((laws_heldPuzzle.f k bt300.1 bt300.2.1 bt300.2.2.1 bt319.2 1).bind fun t321 => (if t321 < 0 then (none) else (if t321 = bt319.1 then ((laws_toPuzzle.f k a0_0 a0_1 a0_2 l0_3).bind fun bt322 => ((laws_toClue.f a1_0 a1_1 a1_2).bind fun bt328 => ((impl_AddClue.f k bt322.1 bt322.2.1 bt322.2.2.1 bt322.2.2.2 bt328.1 bt328.2.1 bt328.2.2).bind fun bt331 => ((laws_eqPuzzle.f k bt331.1 bt331.2.1 bt331.2.2.1 bt331.2.2.2.1 bt282.1 bt282.2.1 bt282.2.2.1 bt282.2.2.2.1).bind fun t339 => (if t339 = true then (if (bt331.2.2.2.2 != bt282.2.2.2.2) = true then (none) else ((laws_heldPuzzle.f k bt300.1 bt300.2.1 bt300.2.2.1 bt319.2 1).bind fun t340 => (if t340 < 0 then (none) else (if t340 = bt319.1 then (some true) else (none))))) else (none)))))) else (none))))) else (none))))) else (none))))) else (none))))))))))) = some r := h
  clear h
  replace H := Option.bind_eq_some_iff.mp H
  obtain ⟨t272, A30, H⟩ := H
  try dsimp only at H
  have A3 := Aside0.mk A30
  clear A30
  by_cases c4 : t272 < 0
  · rw [if_pos c4] at H
    have c4b0 : decide (t272 < 0) = true := decide_eq_true c4
    clear c4
    obtain rfl := Option.some.inj H
    go_enter Tryd.func6, Tryd.ntmps6
    go_wp2_with (first | ((with_reducible refine gate_dst (N := 2) rfl ?_); refine box_event ?hg (N := 2) ?hd (cs := #[.string a0_0, .int .i64 a0_1, .int .i64 a0_2, .slice A0_3 l0_3.length c0_3]) (t := 33) ?hr ?_; (case hd => rfl); (case hg => rfl); (case hr => first | (go_simp; done) | (go_simp; rfl)); intro gb270 hg w5 hbox hb; have n0_ := Aside0.mk (below_step (by repeat (first | (with_reducible first | exact HB.out | apply below_alloc | apply pw_below_drewN | apply below_drew1) | exact HB.out)) hb); have n1_ := Aside0.mk (hbox); have n2_ := Aside0.mk ((by rw [hg]; exact (below_size (by repeat (first | (with_reducible first | exact HB.out | apply below_alloc | apply pw_below_drewN | apply below_drew1) | exact HB.out))) : w.heap.size ≤ gb270)); have n3_ := Aside0.mk ((by rw [hg]; exact (below_size (by repeat (first | (with_reducible first | exact HB.out | apply below_alloc | apply pw_below_drewN | apply below_drew1) | exact HB.out))) : w.heap.size ≤ gb270)); clear HB; have HB := n0_; have BK270 := n1_; have GW270 := n2_; have GE270 := n3_; clear n0_ n1_ n2_ n3_; clear hb hbox hg) | ((with_reducible refine gate_dst (N := 3) rfl ?_); refine box_event ?hg (N := 3) ?hd (cs := #[.int .i64 a1_0, .int .i64 a1_1, .int .i64 a1_2]) (t := 26) ?hr ?_; (case hd => rfl); (case hg => rfl); (case hr => first | (go_simp; done) | (go_simp; rfl)); intro gb271 hg w6 hbox hb; have n0_ := Aside0.mk (blk_below (g := gb270) (o := .cells #[.string a0_0, .int .i64 a0_1, .int .i64 a0_2, .slice A0_3 l0_3.length c0_3] 33 (0, 0)) (pkB BK270.out) hb); have n1_ := Aside0.mk (below_step (by repeat (first | (with_reducible first | exact HB.out | apply below_alloc | apply pw_below_drewN | apply below_drew1 | refine below_set ?_ GE270.out) | exact HB.out)) hb); have n2_ := Aside0.mk (hbox); have n3_ := Aside0.mk ((by rw [hg]; exact (below_size (by repeat (first | (with_reducible first | exact HB.out | apply below_alloc | apply pw_below_drewN | apply below_drew1 | refine below_set ?_ GE270.out) | exact HB.out))) : w.heap.size ≤ gb271)); have n4_ := Aside0.mk ((by rw [hg]; exact (below_size (by repeat (first | (with_reducible first | exact HB.out | apply below_alloc | apply pw_below_drewN | apply below_drew1 | refine below_set ?_ GE270.out) | exact HB.out))) : w.heap.size ≤ gb271)); have n5_ := Aside0.mk ((by rw [hg]; exact Nat.ne_of_lt (blk_lt (g := gb270) (o := .cells #[.string a0_0, .int .i64 a0_1, .int .i64 a0_2, .slice A0_3 l0_3.length c0_3] 33 (0, 0)) (pkB BK270.out)) : gb270 ≠ gb271)); have n6_ := Aside0.mk ((by rw [hg]; exact Nat.ne_of_gt (blk_lt (g := gb270) (o := .cells #[.string a0_0, .int .i64 a0_1, .int .i64 a0_2, .slice A0_3 l0_3.length c0_3] 33 (0, 0)) (pkB BK270.out)) : gb271 ≠ gb270)); clear BK270; clear HB; have BK270 := n0_; have HB := n1_; have BK271 := n2_; have GW271 := n3_; have GE271 := n4_; have NB270_271 := n5_; have NB271_270 := n6_; clear n0_ n1_ n2_ n3_ n4_ n5_ n6_; clear hb hbox hg; have hnb7 := NB270_271.out; have hnc7 := NB271_270.out; have hcz8_0 : w6.cell? ⟨gb270, 0, none⟩ = some (.string a0_0) := (blk_cell BK270.out 0).trans rfl; have hcz8_1 : w6.cell? ⟨gb270, 1, none⟩ = some (.int .i64 a0_1) := (blk_cell BK270.out 1).trans rfl; have hcz8_2 : w6.cell? ⟨gb270, 2, none⟩ = some (.int .i64 a0_2) := (blk_cell BK270.out 2).trans rfl; have hcz8_3 : w6.cell? ⟨gb270, 3, none⟩ = some (.slice A0_3 l0_3.length c0_3) := (blk_cell BK270.out 3).trans rfl; have hfz8_0 := blk_frozen BK270.out 0; have hfz8_1 := blk_frozen BK270.out 1; have hfz8_2 := blk_frozen BK270.out 2; have hfz8_3 := blk_frozen BK270.out 3) | ((with_reducible refine gate_callee (f := 25) rfl ?_); refine goesL_ (some 18) rfl rfl Tryd.func25 (by kernel_rfl) rfl #[.agg #[.string a0_0, .int .i64 a0_1, .int .i64 a0_2, .slice A0_3 l0_3.length c0_3], .int .i64 1048576] rfl (by (try simp only [List.map_toArray, List.map_cons, List.map_nil]); first | done | rfl | (simp only [List.length_drop, List.length_take]; rfl)) ?_; (with_reducible refine (laws_szPuzzle.calls a0_0 a0_1 a0_2 _ _ l0_3 1048576 t272 _ ?side1 ?side2 A3.out).mono ?_); (case side1 => repeat (first | exact (Kd.C_below HR0_3.out HB.out) | (with_reducible refine Kd.C_alloc ?_ _) | (with_reducible refine Kd.C_drewN ?_ _) | (with_reducible refine Kd.C_drew ?_))); (case side2 => exact HC0_3.out); rintro e w9 ⟨rfl, hb⟩; refine ⟨_, rfl, ?_⟩; have n0_ := Aside0.mk (blk_below (g := gb270) (o := .cells #[.string a0_0, .int .i64 a0_1, .int .i64 a0_2, .slice A0_3 l0_3.length c0_3] 33 (0, 0)) (pkB BK270.out) hb); have n1_ := Aside0.mk (blk_below (g := gb271) (o := .cells #[.int .i64 a1_0, .int .i64 a1_1, .int .i64 a1_2] 26 (0, 0)) (pkB BK271.out) hb); have n2_ := Aside0.mk (below_step (by repeat (first | (with_reducible first | exact HB.out | apply below_alloc | apply pw_below_drewN | apply below_drew1 | refine below_set ?_ GE270.out | refine below_set ?_ GE271.out) | exact HB.out)) hb); clear BK270; clear BK271; clear HB; have BK270 := n0_; have BK271 := n1_; have HB := n2_; clear n0_ n1_ n2_; (try clear hb); (try clear hb2); (try clear hk); (try clear hi)))
    go_ret
    exact ⟨by first | rfl | (simp [errW_none, errW_some] <;> rfl) | (simp [*, errW_none, errW_some] <;> rfl) | (congr 2; simp [wrap64, IntKind.wrap, IntKind.bits, IntKind.signed]; omega), by repeat (first | (with_reducible first | exact HB.out | apply below_alloc | apply pw_below_drewN | apply below_drew1 | refine below_set ?_ GE270.out | refine below_set ?_ GE271.out) | exact HB.out)⟩
  · rw [if_neg c4] at H
    have c4b0 : decide (t272 < 0) = false := decide_eq_false c4
    clear c4
    replace H := Option.bind_eq_some_iff.mp H
    obtain ⟨⟨t273, t274, t275, t276⟩, A100, H⟩ := H
    try dsimp only at H
    have A10 := Aside0.mk A100
    clear A100
    replace H := Option.bind_eq_some_iff.mp H
    obtain ⟨⟨t279, t280, t281⟩, A110, H⟩ := H
    try dsimp only at H
    have A11 := Aside0.mk A110
    clear A110
    replace H := Option.bind_eq_some_iff.mp H
    obtain ⟨⟨t282, t283, t284, t285, t288⟩, A120, H⟩ := H
    try dsimp only at H
    have A12 := Aside0.mk A120
    clear A120
    replace H := Option.bind_eq_some_iff.mp H
    obtain ⟨⟨t290, t291, t292, t293⟩, A130, H⟩ := H
    try dsimp only at H
    have A13 := Aside0.mk A130
    clear A130
    replace H := Option.bind_eq_some_iff.mp H
    obtain ⟨⟨t297, t298, t299⟩, A140, H⟩ := H
    try dsimp only at H
    have A14 := Aside0.mk A140
    clear A140
    replace H := Option.bind_eq_some_iff.mp H
    obtain ⟨⟨t300, t301, t302, t303, t306⟩, A150, H⟩ := H
    try dsimp only at H
    have A15 := Aside0.mk A150
    clear A150
    replace H := Option.bind_eq_some_iff.mp H
    obtain ⟨t308, A160, H⟩ := H
    try dsimp only at H
    have A16 := Aside0.mk A160
    clear A160
    by_cases c17 : t308 = true
    rotate_left
    · exact absurd H (by rw [if_neg c17]; simp)
    subst c17
    rw [if_pos rfl] at H
    try dsimp only at H
    by_cases c18 : (t306 != t288) = true
    · rw [if_pos c18] at H
      exact absurd H (by simp)
    rw [if_neg c18] at H
    have c18b0 : (t306 != t288) = false := by simpa using c18
    (try (have c18b1 : decide (t306 = t288) = true := by simpa using c18))
    (try (have c18b2 : (t306 == t288) = true := by simpa using c18))
    clear c18
    replace H := Option.bind_eq_some_iff.mp H
    obtain ⟨⟨t309, t310, t311, t312⟩, A190, H⟩ := H
    try dsimp only at H
    have A19 := Aside0.mk A190
    clear A190
    replace H := Option.bind_eq_some_iff.mp H
    obtain ⟨t315, A200, H⟩ := H
    try dsimp only at H
    have A20 := Aside0.mk A200
    clear A200
    by_cases c21 : t315 = true
    rotate_left
    · exact absurd H (by rw [if_neg c21]; simp)
    subst c21
    rw [if_pos rfl] at H
    try dsimp only at H
    replace H := Option.bind_eq_some_iff.mp H
    obtain ⟨⟨t316, t317⟩, A220, H⟩ := H
    try dsimp only at H
    have A22 := Aside0.mk A220
    clear A220
    by_cases c23 : t316 < 0
    · rw [if_pos c23] at H
      exact absurd H (by simp)
    rw [if_neg c23] at H
    have c23b0 : decide (t316 < 0) = false := decide_eq_false c23
    clear c23
    replace H := Option.bind_eq_some_iff.mp H
    obtain ⟨t318, A240, H⟩ := H
    try dsimp only at H
    have A24 := Aside0.mk A240
    clear A240
    by_cases c25 : t318 = true
    rotate_left
    · exact absurd H (by rw [if_neg c25]; simp)
    subst c25
    rw [if_pos rfl] at H
    try dsimp only at H
    replace H := Option.bind_eq_some_iff.mp H
    obtain ⟨⟨t319, t320⟩, A260, H⟩ := H
    try dsimp only at H
    have A26 := Aside0.mk A260
    clear A260
    replace H := Option.bind_eq_some_iff.mp H
    obtain ⟨t321, A270, H⟩ := H
    try dsimp only at H
    have A27 := Aside0.mk A270
    clear A270
    by_cases c28 : t321 < 0
    · rw [if_pos c28] at H
      exact absurd H (by simp)
    rw [if_neg c28] at H
    have c28b0 : decide (t321 < 0) = false := decide_eq_false c28
    clear c28
    by_cases c29 : t321 = t319
    rotate_left
    · rw [if_neg c29] at H
      exact absurd H (by simp)
    rw [if_pos c29] at H
    have c29b0 : (t321 == t319) = true := beq_iff_eq.mpr c29
    have c29b1 : (t321 != t319) = false := bne_eq_false_iff_eq.mpr c29
    clear c29
    replace H := Option.bind_eq_some_iff.mp H
    obtain ⟨⟨t322, t323, t324, t325⟩, A300, H⟩ := H
    try dsimp only at H
    have A30 := Aside0.mk A300
    clear A300
    replace H := Option.bind_eq_some_iff.mp H
    obtain ⟨⟨t328, t329, t330⟩, A310, H⟩ := H
    try dsimp only at H
    have A31 := Aside0.mk A310
    clear A310
    replace H := Option.bind_eq_some_iff.mp H
    obtain ⟨⟨t331, t332, t333, t334, t337⟩, A320, H⟩ := H
    try dsimp only at H
    have A32 := Aside0.mk A320
    clear A320
    replace H := Option.bind_eq_some_iff.mp H
    obtain ⟨t339, A330, H⟩ := H
    try dsimp only at H
    have A33 := Aside0.mk A330
    clear A330
    by_cases c34 : t339 = true
    rotate_left
    · exact absurd H (by rw [if_neg c34]; simp)
    subst c34
    rw [if_pos rfl] at H
    try dsimp only at H
    by_cases c35 : (t337 != t288) = true
    · rw [if_pos c35] at H
      exact absurd H (by simp)
    rw [if_neg c35] at H
    have c35b0 : (t337 != t288) = false := by simpa using c35
    (try (have c35b1 : decide (t337 = t288) = true := by simpa using c35))
    (try (have c35b2 : (t337 == t288) = true := by simpa using c35))
    clear c35
    replace H := Option.bind_eq_some_iff.mp H
    obtain ⟨t340, A360, H⟩ := H
    try dsimp only at H
    have A36 := Aside0.mk A360
    clear A360
    by_cases c37 : t340 < 0
    · rw [if_pos c37] at H
      exact absurd H (by simp)
    rw [if_neg c37] at H
    have c37b0 : decide (t340 < 0) = false := decide_eq_false c37
    clear c37
    by_cases c38 : t340 = t319
    rotate_left
    · rw [if_neg c38] at H
      exact absurd H (by simp)
    rw [if_pos c38] at H
    have c38b0 : (t340 == t319) = true := beq_iff_eq.mpr c38
    have c38b1 : (t340 != t319) = false := bne_eq_false_iff_eq.mpr c38
    clear c38
    obtain rfl := Option.some.inj H
    go_enter Tryd.func6, Tryd.ntmps6
    try go_wp2_with (first | ((with_reducible refine gate_dst (N := 2) rfl ?_); refine box_event ?hg (N := 2) ?hd (cs := #[.string a0_0, .int .i64 a0_1, .int .i64 a0_2, .slice A0_3 l0_3.length c0_3]) (t := 33) ?hr ?_; (case hd => rfl); (case hg => rfl); (case hr => first | (go_simp; done) | (go_simp; rfl)); intro gb270 hg w39 hbox hb; have n0_ := Aside0.mk (below_step (by repeat (first | (with_reducible first | exact HB.out | apply below_alloc | apply pw_below_drewN | apply below_drew1) | exact HB.out)) hb); have n1_ := Aside0.mk (hbox); have n2_ := Aside0.mk ((by rw [hg]; exact (below_size (by repeat (first | (with_reducible first | exact HB.out | apply below_alloc | apply pw_below_drewN | apply below_drew1) | exact HB.out))) : w.heap.size ≤ gb270)); have n3_ := Aside0.mk ((by rw [hg]; exact (below_size (by repeat (first | (with_reducible first | exact HB.out | apply below_alloc | apply pw_below_drewN | apply below_drew1) | exact HB.out))) : w.heap.size ≤ gb270)); clear HB; have HB := n0_; have BK270 := n1_; have GW270 := n2_; have GE270 := n3_; clear n0_ n1_ n2_ n3_; clear hb hbox hg) | ((with_reducible refine gate_dst (N := 3) rfl ?_); refine box_event ?hg (N := 3) ?hd (cs := #[.int .i64 a1_0, .int .i64 a1_1, .int .i64 a1_2]) (t := 26) ?hr ?_; (case hd => rfl); (case hg => rfl); (case hr => first | (go_simp; done) | (go_simp; rfl)); intro gb271 hg w40 hbox hb; have n0_ := Aside0.mk (blk_below (g := gb270) (o := .cells #[.string a0_0, .int .i64 a0_1, .int .i64 a0_2, .slice A0_3 l0_3.length c0_3] 33 (0, 0)) (pkB BK270.out) hb); have n1_ := Aside0.mk (below_step (by repeat (first | (with_reducible first | exact HB.out | apply below_alloc | apply pw_below_drewN | apply below_drew1 | refine below_set ?_ GE270.out) | exact HB.out)) hb); have n2_ := Aside0.mk (hbox); have n3_ := Aside0.mk ((by rw [hg]; exact (below_size (by repeat (first | (with_reducible first | exact HB.out | apply below_alloc | apply pw_below_drewN | apply below_drew1 | refine below_set ?_ GE270.out) | exact HB.out))) : w.heap.size ≤ gb271)); have n4_ := Aside0.mk ((by rw [hg]; exact (below_size (by repeat (first | (with_reducible first | exact HB.out | apply below_alloc | apply pw_below_drewN | apply below_drew1 | refine below_set ?_ GE270.out) | exact HB.out))) : w.heap.size ≤ gb271)); have n5_ := Aside0.mk ((by rw [hg]; exact Nat.ne_of_lt (blk_lt (g := gb270) (o := .cells #[.string a0_0, .int .i64 a0_1, .int .i64 a0_2, .slice A0_3 l0_3.length c0_3] 33 (0, 0)) (pkB BK270.out)) : gb270 ≠ gb271)); have n6_ := Aside0.mk ((by rw [hg]; exact Nat.ne_of_gt (blk_lt (g := gb270) (o := .cells #[.string a0_0, .int .i64 a0_1, .int .i64 a0_2, .slice A0_3 l0_3.length c0_3] 33 (0, 0)) (pkB BK270.out)) : gb271 ≠ gb270)); clear BK270; clear HB; have BK270 := n0_; have HB := n1_; have BK271 := n2_; have GW271 := n3_; have GE271 := n4_; have NB270_271 := n5_; have NB271_270 := n6_; clear n0_ n1_ n2_ n3_ n4_ n5_ n6_; clear hb hbox hg; have hnb41 := NB270_271.out; have hnc41 := NB271_270.out; have hcz42_0 : w40.cell? ⟨gb270, 0, none⟩ = some (.string a0_0) := (blk_cell BK270.out 0).trans rfl; have hcz42_1 : w40.cell? ⟨gb270, 1, none⟩ = some (.int .i64 a0_1) := (blk_cell BK270.out 1).trans rfl; have hcz42_2 : w40.cell? ⟨gb270, 2, none⟩ = some (.int .i64 a0_2) := (blk_cell BK270.out 2).trans rfl; have hcz42_3 : w40.cell? ⟨gb270, 3, none⟩ = some (.slice A0_3 l0_3.length c0_3) := (blk_cell BK270.out 3).trans rfl; have hfz42_0 := blk_frozen BK270.out 0; have hfz42_1 := blk_frozen BK270.out 1; have hfz42_2 := blk_frozen BK270.out 2; have hfz42_3 := blk_frozen BK270.out 3) | ((with_reducible refine gate_callee (f := 25) rfl ?_); refine goesL_ (some 18) rfl rfl Tryd.func25 (by kernel_rfl) rfl #[.agg #[.string a0_0, .int .i64 a0_1, .int .i64 a0_2, .slice A0_3 l0_3.length c0_3], .int .i64 1048576] rfl (by (try simp only [List.map_toArray, List.map_cons, List.map_nil]); first | done | rfl | (simp only [List.length_drop, List.length_take]; rfl)) ?_; (with_reducible refine (laws_szPuzzle.calls a0_0 a0_1 a0_2 _ _ l0_3 1048576 t272 _ ?side1 ?side2 A3.out).mono ?_); (case side1 => repeat (first | exact (Kd.C_below HR0_3.out HB.out) | (with_reducible refine Kd.C_alloc ?_ _) | (with_reducible refine Kd.C_drewN ?_ _) | (with_reducible refine Kd.C_drew ?_))); (case side2 => exact HC0_3.out); rintro e w43 ⟨rfl, hb⟩; refine ⟨_, rfl, ?_⟩; have n0_ := Aside0.mk (blk_below (g := gb270) (o := .cells #[.string a0_0, .int .i64 a0_1, .int .i64 a0_2, .slice A0_3 l0_3.length c0_3] 33 (0, 0)) (pkB BK270.out) hb); have n1_ := Aside0.mk (blk_below (g := gb271) (o := .cells #[.int .i64 a1_0, .int .i64 a1_1, .int .i64 a1_2] 26 (0, 0)) (pkB BK271.out) hb); have n2_ := Aside0.mk (below_step (by repeat (first | (with_reducible first | exact HB.out | apply below_alloc | apply pw_below_drewN | apply below_drew1 | refine below_set ?_ GE270.out | refine below_set ?_ GE271.out) | exact HB.out)) hb); clear BK270; clear BK271; clear HB; have BK270 := n0_; have BK271 := n1_; have HB := n2_; clear n0_ n1_ n2_; (try clear hb); (try clear hb2); (try clear hk); (try clear hi)))
    have n0_ := Aside0.mk (blk_drew BK270.out)
    have n1_ := Aside0.mk (blk_drew BK271.out)
    have n2_ := Aside0.mk (below_drew1 HB.out)
    clear BK270
    clear BK271
    clear HB
    have BK270 := n0_
    have BK271 := n1_
    have HB := n2_
    clear n0_ n1_ n2_
    refine start_ (n := 11) (S := fun w' => True) (ds := []) #[false, false, false, false, false, false, false, false, false, false, false] (by kernel_rfl) rfl rfl trivial (fun hHeld => ?_); refine with_tabW laws_FnExactAddClue.tab5 laws_FnExactAddClue.bits5 (fun HT_ HW_ => ?_)
    generalize w43.drew = w44 at BK270 BK271 HB hHeld ⊢
    refine inv_at [0, 1, 2, 3, 4, 5, 6, 7, 8, 9, 10] (fun a0_ b a w' => ∃ (v277 : Value) (v286 : Value) (gb289 : Nat) (m1_ : Value) (m4_ : Value) (m5_ : Value) (m6_ : Value) (m8_ : Value), a = putSel a0_ b [(0, 22, .agg #[.string a0_0, .int .i64 a0_1, .int .i64 a0_2, .slice A0_3 l0_3.length c0_3]), (1, 23, m1_), (2, 24, .agg #[.int .i64 a1_0, .int .i64 a1_1, .int .i64 a1_2]), (3, 25, .agg #[.int .i64 t279, .int .i64 t280, .int .i64 t281]), (4, 26, m4_), (5, 21, m5_), (6, 27, m6_), (7, 28, .bool t288), (8, 6, m8_), (10, 7, .bool t288)] ∧ (w'.heap[gb270]? = some (.cells #[.string a0_0, .int .i64 a0_1, .int .i64 a0_2, .slice A0_3 l0_3.length c0_3] 33 (0, 0))) ∧ (w'.heap[gb271]? = some (.cells #[.int .i64 a1_0, .int .i64 a1_1, .int .i64 a1_2] 26 (0, 0))) ∧ (Below w.heap.size w w') ∧ (b 1 = true → b 4 = false → Kd.R k28 28 w' w.heap.size (fun _ => True) v277 t276) ∧ (b 4 = true → Kd.R k28 28 w' w.heap.size (fun k_ => some k_ ≠ (v286 : Value).ownBlock) v277 t276) ∧ (b 4 = true → Kd.R k28 28 w' w.heap.size (fun k_ => some k_ ≠ (v277 : Value).ownBlock) v286 t285) ∧ (b 8 = true → b 9 = false → w'.heap[gb289]? = some (.cells #[.string (⟨#[]⟩ : ByteArray), .int .i64 0, .int .i64 0, .slice none 0 0] 38 (0, 0))) ∧ (b 8 = true → w.heap.size ≤ gb289) ∧ (b 8 = true → w.heap.size ≤ gb289) ∧ (b 8 = true → gb270 ≠ gb289) ∧ (b 8 = true → gb289 ≠ gb270) ∧ (b 8 = true → gb271 ≠ gb289) ∧ (b 8 = true → gb289 ≠ gb271) ∧ (b 9 = true → w'.heap[gb289]? = some (.cells #[.string t282, .int .i64 t283, .int .i64 t284, v286] 38 (0, 0))) ∧ (b 1 = true → (m1_ : Value) = .agg #[.string t273, .int .i64 t274, .int .i64 t275, v277]) ∧ (b 4 = true → (m4_ : Value) = .tuple #[.agg #[.string t282, .int .i64 t283, .int .i64 t284, v286], .bool t288]) ∧ (b 5 = true → (m5_ : Value) = .tuple #[.agg #[.string t282, .int .i64 t283, .int .i64 t284, v286], .bool t288]) ∧ (b 6 = true → (m6_ : Value) = .agg #[.string t282, .int .i64 t283, .int .i64 t284, v286]) ∧ (b 8 = true → (m8_ : Value) = .pointer (some ⟨gb289, 0, none⟩))) HT_.out HW_.out (by kernel_rfl) (by kernel_rfl) ?_ ?_ ?_
    · exact ⟨.bool false, .bool false, 0, .bool false, .bool false, .bool false, .bool false, .bool false, by simp only [putSel, Bool.false_eq_true, if_false], BK270.out, BK271.out, HB.out, fun h_ => absurd h_ (by decide), fun h_ => absurd h_ (by decide), fun h_ => absurd h_ (by decide), fun h_ => absurd h_ (by decide), fun h_ => absurd h_ (by decide), fun h_ => absurd h_ (by decide), fun h_ => absurd h_ (by decide), fun h_ => absurd h_ (by decide), fun h_ => absurd h_ (by decide), fun h_ => absurd h_ (by decide), fun h_ => absurd h_ (by decide), fun h_ => absurd h_ (by decide), fun h_ => absurd h_ (by decide), fun h_ => absurd h_ (by decide), fun h_ => absurd h_ (by decide), fun h_ => absurd h_ (by decide)⟩
    · skip
      clear BK270 BK271 HB
      refine steps_cons ?_ ?_
      · rintro b a w' ⟨v277, v286, gb289, m1_, m4_, m5_, m6_, m8_, ha, Q_BK270, Q_BK271, Q_HB, Q_HO278, Q_HO278_e4, Q_HO287, Q_BK289, Q_GW289, Q_GE289, Q_NB270_289, Q_NB289_270, Q_NB271_289, Q_NB289_271, Q_BK289_e9, Q_X1_, Q_X4_, Q_X5_, Q_X6_, Q_X8_⟩ hb_ hon hoff
        refine ⟨_, rfl, fun K hK => ?_⟩
        have e2 : a.tmps[2]? = some (.pointer (some ⟨gb270, 0, none⟩)) := by rw [ha]; exact (putSel_off rfl).trans rfl
        replace ha := Aside0.mk ha
        have BK270 := Aside0.mk Q_BK270
        have BK271 := Aside0.mk Q_BK271
        have HB := Aside0.mk Q_HB
        have hc0_ : w'.cell? ⟨gb270, 0, none⟩ = some (.string a0_0) := (blk_cell BK270.out 0).trans rfl
        have hc1_ : w'.cell? ⟨gb270, 1, none⟩ = some (.int .i64 a0_1) := (blk_cell BK270.out 1).trans rfl
        have hc2_ : w'.cell? ⟨gb270, 2, none⟩ = some (.int .i64 a0_2) := (blk_cell BK270.out 2).trans rfl
        have hc3_ : w'.cell? ⟨gb270, 3, none⟩ = some (.slice A0_3 l0_3.length c0_3) := (blk_cell BK270.out 3).trans rfl
        refine value_ (w1 := w') (v := .agg #[.string a0_0, .int .i64 a0_1, .int .i64 a0_2, .slice A0_3 l0_3.length c0_3]) (by rfl) rfl ?_ ?_
        · go_simp
          (try simp only [i64_w])
          try rfl
        refine hK.out _ _ ⟨v277, v286, gb289, m1_, m4_, m5_, m6_, m8_, (by rw [ha.out]; exact putSel_upk 0 hb_ rfl rfl rfl), Q_BK270, Q_BK271, Q_HB, fun h0_ _ => absurd ((hoff 1 (by kernel_rfl)).symm.trans h0_) (by decide), fun h0_ => absurd ((hoff 4 (by kernel_rfl)).symm.trans h0_) (by decide), fun h0_ => absurd ((hoff 4 (by kernel_rfl)).symm.trans h0_) (by decide), Q_BK289, Q_GW289, Q_GE289, Q_NB270_289, Q_NB289_270, Q_NB271_289, Q_NB289_271, fun h0_ => absurd ((hoff 9 (by kernel_rfl)).symm.trans h0_) (by decide), fun h0_ => absurd ((hoff 1 (by kernel_rfl)).symm.trans h0_) (by decide), fun h0_ => absurd ((hoff 4 (by kernel_rfl)).symm.trans h0_) (by decide), fun h0_ => absurd ((hoff 5 (by kernel_rfl)).symm.trans h0_) (by decide), fun h0_ => absurd ((hoff 6 (by kernel_rfl)).symm.trans h0_) (by decide), Q_X8_⟩
      refine steps_cons ?_ ?_
      · rintro b a w' ⟨v277, v286, gb289, m1_, m4_, m5_, m6_, m8_, ha, Q_BK270, Q_BK271, Q_HB, Q_HO278, Q_HO278_e4, Q_HO287, Q_BK289, Q_GW289, Q_GE289, Q_NB270_289, Q_NB289_270, Q_NB271_289, Q_NB289_271, Q_BK289_e9, Q_X1_, Q_X4_, Q_X5_, Q_X6_, Q_X8_⟩ hb_ hon hoff
        refine ⟨_, rfl, fun K hK => ?_⟩
        have e22 : a.tmps[22]? = some (.agg #[.string a0_0, .int .i64 a0_1, .int .i64 a0_2, .slice A0_3 l0_3.length c0_3]) := by rw [ha]; exact putSel_on (e := (0, 22, .agg #[.string a0_0, .int .i64 a0_1, .int .i64 a0_2, .slice A0_3 l0_3.length c0_3])) 0 rfl rfl (hon 0 (by kernel_rfl)) rfl
        replace ha := Aside0.mk ha
        have BK270 := Aside0.mk Q_BK270
        have BK271 := Aside0.mk Q_BK271
        have HB := Aside0.mk Q_HB
        refine goes_ Tryd.func27 (by kernel_rfl) rfl #[.agg #[.string a0_0, .int .i64 a0_1, .int .i64 a0_2, .slice A0_3 l0_3.length c0_3]] (by rfl) rfl rfl (by first | (simp only [List.map_toArray, List.map_cons, List.map_nil, Act.eval, Array.getD_eq_getD_getElem?, Option.getD_some, e22]; done) | (simp only [List.map_toArray, List.map_cons, List.map_nil, Act.eval, Array.getD_eq_getD_getElem?, Option.getD_some, e22]; rfl)) ?_
        with_reducible refine (laws_toPuzzle.calls k a0_0 a0_1 a0_2 _ _ l0_3 t273 t274 t275 t276 _ ?side1 ?side2 A10.out).mono ?_
        (case side1 => repeat (first | exact (Kd.C_below HR0_3.out HB.out) | (with_reducible refine Kd.C_alloc ?_ _) | (with_reducible refine Kd.C_drewN ?_ _) | (with_reducible refine Kd.C_drew ?_)))
        (case side2 => exact HC0_3.out)
        rintro e w45 ⟨v277, rfl, ho0, hb⟩
        refine ⟨_, rfl, ?_⟩
        have n0_ := Aside0.mk (Kd.R_lower ho0 (below_size (by repeat (first | (with_reducible first | exact HB.out | apply below_alloc | apply pw_below_drewN | apply below_drew1 | refine below_set ?_ GE270.out | refine below_set ?_ GE271.out) | exact HB.out))))
        have n1_ := Aside0.mk (blk_below (g := gb270) (o := .cells #[.string a0_0, .int .i64 a0_1, .int .i64 a0_2, .slice A0_3 l0_3.length c0_3] 33 (0, 0)) (pkB BK270.out) hb)
        have n2_ := Aside0.mk (blk_below (g := gb271) (o := .cells #[.int .i64 a1_0, .int .i64 a1_1, .int .i64 a1_2] 26 (0, 0)) (pkB BK271.out) hb)
        have n3_ := Aside0.mk (below_step (by repeat (first | (with_reducible first | exact HB.out | apply below_alloc | apply pw_below_drewN | apply below_drew1 | refine below_set ?_ GE270.out | refine below_set ?_ GE271.out) | exact HB.out)) hb)
        have z_BK289 := fun (h0_ : b 8 = true) (h1_ : b 9 = false) => (show w45.heap[gb289]? = some (.cells #[.string (⟨#[]⟩ : ByteArray), .int .i64 0, .int .i64 0, .slice none 0 0] 38 (0, 0)) from by first | exact (blk_below (g := gb289) (o := .cells #[.string (⟨#[]⟩ : ByteArray), .int .i64 0, .int .i64 0, .slice none 0 0] 38 (0, 0)) (by (with_reducible repeat (first | refine blk_drewN ?_ _ | refine blk_drew ?_ | refine blk_alloc ?_ _)); exact (Q_BK289 h0_ h1_)) hb))
        clear BK270
        clear BK271
        clear HB
        have HO278 := n0_
        have BK270 := n1_
        have BK271 := n2_
        have HB := n3_
        clear n0_ n1_ n2_ n3_
        (try clear hb)
        (try clear hb2)
        (try clear hk)
        (try clear hi)
        (try clear ho0)
        refine hK.out _ _ ⟨v277, v286, gb289, (.agg #[.string t273, .int .i64 t274, .int .i64 t275, v277]), m4_, m5_, m6_, m8_, (by rw [ha.out]; exact putSel_upk 1 hb_ rfl rfl rfl), (pkB BK270.out), (pkB BK271.out), (by repeat (first | (with_reducible first | exact HB.out | apply below_alloc | apply pw_below_drewN | apply below_drew1 | refine below_set ?_ GE270.out | refine below_set ?_ GE271.out) | exact HB.out)), fun _ _ => (pkR HO278.out), fun h0_ => absurd ((hoff 4 (by kernel_rfl)).symm.trans h0_) (by decide), fun h0_ => absurd ((hoff 4 (by kernel_rfl)).symm.trans h0_) (by decide), z_BK289, Q_GW289, Q_GE289, Q_NB270_289, Q_NB289_270, Q_NB271_289, Q_NB289_271, fun h0_ => absurd ((hoff 9 (by kernel_rfl)).symm.trans h0_) (by decide), fun _ => rfl, fun h0_ => absurd ((hoff 4 (by kernel_rfl)).symm.trans h0_) (by decide), fun h0_ => absurd ((hoff 5 (by kernel_rfl)).symm.trans h0_) (by decide), fun h0_ => absurd ((hoff 6 (by kernel_rfl)).symm.trans h0_) (by decide), Q_X8_⟩
      refine steps_cons ?_ ?_
      · rintro b a w' ⟨v277, v286, gb289, m1_, m4_, m5_, m6_, m8_, ha, Q_BK270, Q_BK271, Q_HB, Q_HO278, Q_HO278_e4, Q_HO287, Q_BK289, Q_GW289, Q_GE289, Q_NB270_289, Q_NB289_270, Q_NB271_289, Q_NB289_271, Q_BK289_e9, Q_X1_, Q_X4_, Q_X5_, Q_X6_, Q_X8_⟩ hb_ hon hoff
        refine ⟨_, rfl, fun K hK => ?_⟩
        have e3 : a.tmps[3]? = some (.pointer (some ⟨gb271, 0, none⟩)) := by rw [ha]; exact (putSel_off rfl).trans rfl
        replace ha := Aside0.mk ha
        have BK270 := Aside0.mk Q_BK270
        have BK271 := Aside0.mk Q_BK271
        have HB := Aside0.mk Q_HB
        have hc0_ : w'.cell? ⟨gb271, 0, none⟩ = some (.int .i64 a1_0) := (blk_cell BK271.out 0).trans rfl
        have hc1_ : w'.cell? ⟨gb271, 1, none⟩ = some (.int .i64 a1_1) := (blk_cell BK271.out 1).trans rfl
        have hc2_ : w'.cell? ⟨gb271, 2, none⟩ = some (.int .i64 a1_2) := (blk_cell BK271.out 2).trans rfl
        refine value_ (w1 := w') (v := .agg #[.int .i64 a1_0, .int .i64 a1_1, .int .i64 a1_2]) (by rfl) rfl ?_ ?_
        · go_simp
          (try simp only [i64_w])
          try rfl
        refine hK.out _ _ ⟨v277, v286, gb289, m1_, m4_, m5_, m6_, m8_, (by rw [ha.out]; exact putSel_upk 2 hb_ rfl rfl rfl), Q_BK270, Q_BK271, Q_HB, Q_HO278, fun h0_ => absurd ((hoff 4 (by kernel_rfl)).symm.trans h0_) (by decide), fun h0_ => absurd ((hoff 4 (by kernel_rfl)).symm.trans h0_) (by decide), Q_BK289, Q_GW289, Q_GE289, Q_NB270_289, Q_NB289_270, Q_NB271_289, Q_NB289_271, fun h0_ => absurd ((hoff 9 (by kernel_rfl)).symm.trans h0_) (by decide), Q_X1_, fun h0_ => absurd ((hoff 4 (by kernel_rfl)).symm.trans h0_) (by decide), fun h0_ => absurd ((hoff 5 (by kernel_rfl)).symm.trans h0_) (by decide), fun h0_ => absurd ((hoff 6 (by kernel_rfl)).symm.trans h0_) (by decide), Q_X8_⟩
      refine steps_cons ?_ ?_
      · rintro b a w' ⟨v277, v286, gb289, m1_, m4_, m5_, m6_, m8_, ha, Q_BK270, Q_BK271, Q_HB, Q_HO278, Q_HO278_e4, Q_HO287, Q_BK289, Q_GW289, Q_GE289, Q_NB270_289, Q_NB289_270, Q_NB271_289, Q_NB289_271, Q_BK289_e9, Q_X1_, Q_X4_, Q_X5_, Q_X6_, Q_X8_⟩ hb_ hon hoff
        refine ⟨_, rfl, fun K hK => ?_⟩
        have e24 : a.tmps[24]? = some (.agg #[.int .i64 a1_0, .int .i64 a1_1, .int .i64 a1_2]) := by rw [ha]; exact putSel_on (e := (2, 24, .agg #[.int .i64 a1_0, .int .i64 a1_1, .int .i64 a1_2])) 2 rfl rfl (hon 2 (by kernel_rfl)) rfl
        replace ha := Aside0.mk ha
        have BK270 := Aside0.mk Q_BK270
        have BK271 := Aside0.mk Q_BK271
        have HB := Aside0.mk Q_HB
        have HO278 := Aside0.mk (Q_HO278 (hon 1 (by kernel_rfl)) (hoff 4 (by kernel_rfl)))
        refine goes_ Tryd.func23 (by kernel_rfl) rfl #[.agg #[.int .i64 a1_0, .int .i64 a1_1, .int .i64 a1_2]] (by rfl) rfl rfl (by first | (simp only [List.map_toArray, List.map_cons, List.map_nil, Act.eval, Array.getD_eq_getD_getElem?, Option.getD_some, e24]; done) | (simp only [List.map_toArray, List.map_cons, List.map_nil, Act.eval, Array.getD_eq_getD_getElem?, Option.getD_some, e24]; rfl)) ?_
        with_reducible refine (laws_toClue.calls a1_0 a1_1 a1_2 t279 t280 t281 _ A11.out).mono ?_
        rintro e w47 ⟨rfl, hb⟩
        refine ⟨_, rfl, ?_⟩
        have n0_ := Aside0.mk (Kd.R_below (pkR HO278.out) hb)
        have n1_ := Aside0.mk (blk_below (g := gb270) (o := .cells #[.string a0_0, .int .i64 a0_1, .int .i64 a0_2, .slice A0_3 l0_3.length c0_3] 33 (0, 0)) (pkB BK270.out) hb)
        have n2_ := Aside0.mk (blk_below (g := gb271) (o := .cells #[.int .i64 a1_0, .int .i64 a1_1, .int .i64 a1_2] 26 (0, 0)) (pkB BK271.out) hb)
        have n3_ := Aside0.mk (below_step (by repeat (first | (with_reducible first | exact HB.out | apply below_alloc | apply pw_below_drewN | apply below_drew1 | refine below_set ?_ GE270.out | refine below_set ?_ GE271.out) | exact HB.out)) hb)
        have z_BK289 := fun (h0_ : b 8 = true) (h1_ : b 9 = false) => (show w47.heap[gb289]? = some (.cells #[.string (⟨#[]⟩ : ByteArray), .int .i64 0, .int .i64 0, .slice none 0 0] 38 (0, 0)) from by first | exact (blk_below (g := gb289) (o := .cells #[.string (⟨#[]⟩ : ByteArray), .int .i64 0, .int .i64 0, .slice none 0 0] 38 (0, 0)) (by (with_reducible repeat (first | refine blk_drewN ?_ _ | refine blk_drew ?_ | refine blk_alloc ?_ _)); exact (Q_BK289 h0_ h1_)) hb))
        clear HO278
        clear BK270
        clear BK271
        clear HB
        have HO278 := n0_
        have BK270 := n1_
        have BK271 := n2_
        have HB := n3_
        clear n0_ n1_ n2_ n3_
        (try clear hb)
        (try clear hb2)
        (try clear hk)
        (try clear hi)
        refine hK.out _ _ ⟨v277, v286, gb289, m1_, m4_, m5_, m6_, m8_, (by rw [ha.out]; exact putSel_upk 3 hb_ rfl rfl rfl), (pkB BK270.out), (pkB BK271.out), (by repeat (first | (with_reducible first | exact HB.out | apply below_alloc | apply pw_below_drewN | apply below_drew1 | refine below_set ?_ GE270.out | refine below_set ?_ GE271.out) | exact HB.out)), fun _ _ => (pkR HO278.out), fun h0_ => absurd ((hoff 4 (by kernel_rfl)).symm.trans h0_) (by decide), fun h0_ => absurd ((hoff 4 (by kernel_rfl)).symm.trans h0_) (by decide), z_BK289, Q_GW289, Q_GE289, Q_NB270_289, Q_NB289_270, Q_NB271_289, Q_NB289_271, fun h0_ => absurd ((hoff 9 (by kernel_rfl)).symm.trans h0_) (by decide), Q_X1_, fun h0_ => absurd ((hoff 4 (by kernel_rfl)).symm.trans h0_) (by decide), fun h0_ => absurd ((hoff 5 (by kernel_rfl)).symm.trans h0_) (by decide), fun h0_ => absurd ((hoff 6 (by kernel_rfl)).symm.trans h0_) (by decide), Q_X8_⟩
      refine steps_cons ?_ ?_
      · rintro b a w' ⟨v277, v286, gb289, m1_, m4_, m5_, m6_, m8_, ha, Q_BK270, Q_BK271, Q_HB, Q_HO278, Q_HO278_e4, Q_HO287, Q_BK289, Q_GW289, Q_GE289, Q_NB270_289, Q_NB289_270, Q_NB271_289, Q_NB289_271, Q_BK289_e9, Q_X1_, Q_X4_, Q_X5_, Q_X6_, Q_X8_⟩ hb_ hon hoff
        refine ⟨_, rfl, fun K hK => ?_⟩
        have e23 : a.tmps[23]? = some (m1_) := by rw [ha]; exact putSel_on (e := (1, 23, m1_)) 1 rfl rfl (hon 1 (by kernel_rfl)) rfl
        rw [Q_X1_ (hon 1 (by kernel_rfl))] at e23
        have e25 : a.tmps[25]? = some (.agg #[.int .i64 t279, .int .i64 t280, .int .i64 t281]) := by rw [ha]; exact putSel_on (e := (3, 25, .agg #[.int .i64 t279, .int .i64 t280, .int .i64 t281])) 3 rfl rfl (hon 3 (by kernel_rfl)) rfl
        replace ha := Aside0.mk ha
        have BK270 := Aside0.mk Q_BK270
        have BK271 := Aside0.mk Q_BK271
        have HB := Aside0.mk Q_HB
        have HO278 := Aside0.mk (Q_HO278 (hon 1 (by kernel_rfl)) hb_)
        obtain ⟨Ao48, co48, eo48⟩ := Kd.R_slice HO278.out
        (first | subst eo48 | (injection eo48 with f1_ f2_ f3_; have f4_ := f1_.symm; have f5_ := f3_.symm; clear f1_ f2_ f3_; subst f4_; subst f5_))
        refine goes_ Tryd.func30 (by kernel_rfl) rfl #[.agg #[.string t273, .int .i64 t274, .int .i64 t275, .slice Ao48 t276.length co48], .agg #[.int .i64 t279, .int .i64 t280, .int .i64 t281]] (by rfl) rfl rfl (by first | (simp only [List.map_toArray, List.map_cons, List.map_nil, Act.eval, Array.getD_eq_getD_getElem?, Option.getD_some, e23, e25]; done) | (simp only [List.map_toArray, List.map_cons, List.map_nil, Act.eval, Array.getD_eq_getD_getElem?, Option.getD_some, e23, e25]; rfl)) ?_
        with_reducible refine (spec_AddClue.calls k t273 t274 t275 _ _ t276 t279 t280 t281 t282 t283 t284 t285 t288 _ ?side1 ?side2 A12.out).mono ?_
        (case side1 => repeat (first | exact (Kd.R_reads' HO278.out).2.2 | (with_reducible refine Kd.C_alloc ?_ _) | (with_reducible refine Kd.C_drewN ?_ _) | (with_reducible refine Kd.C_drew ?_)))
        (case side2 => exact (Kd.R_reads' HO278.out).2.1)
        rintro e w49 ⟨v286, rfl, ho0, hb⟩
        refine ⟨_, rfl, ?_⟩
        have n0_ := Aside0.mk (Kd.R_elder' (pkR HO278.out) (Kd.R_base ho0) hb)
        have n1_ := Aside0.mk (Kd.R_lower (Kd.R_new' ho0 (Kd.R_lt (pkR HO278.out))) (below_size (by repeat (first | (with_reducible first | exact HB.out | apply below_alloc | apply pw_below_drewN | apply below_drew1 | refine below_set ?_ GE270.out | refine below_set ?_ GE271.out) | exact HB.out))))
        have n2_ := Aside0.mk (blk_below (g := gb270) (o := .cells #[.string a0_0, .int .i64 a0_1, .int .i64 a0_2, .slice A0_3 l0_3.length c0_3] 33 (0, 0)) (pkB BK270.out) hb)
        have n3_ := Aside0.mk (blk_below (g := gb271) (o := .cells #[.int .i64 a1_0, .int .i64 a1_1, .int .i64 a1_2] 26 (0, 0)) (pkB BK271.out) hb)
        have n4_ := Aside0.mk (below_step (by repeat (first | (with_reducible first | exact HB.out | apply below_alloc | apply pw_below_drewN | apply below_drew1 | refine below_set ?_ GE270.out | refine below_set ?_ GE271.out) | exact HB.out)) hb)
        have z_BK289 := fun (h0_ : b 8 = true) (h1_ : b 9 = false) => (show w49.heap[gb289]? = some (.cells #[.string (⟨#[]⟩ : ByteArray), .int .i64 0, .int .i64 0, .slice none 0 0] 38 (0, 0)) from by first | exact (blk_below (g := gb289) (o := .cells #[.string (⟨#[]⟩ : ByteArray), .int .i64 0, .int .i64 0, .slice none 0 0] 38 (0, 0)) (by (with_reducible repeat (first | refine blk_drewN ?_ _ | refine blk_drew ?_ | refine blk_alloc ?_ _)); exact (Q_BK289 h0_ h1_)) hb))
        clear HO278
        clear BK270
        clear BK271
        clear HB
        have HO278 := n0_
        have HO287 := n1_
        have BK270 := n2_
        have BK271 := n3_
        have HB := n4_
        clear n0_ n1_ n2_ n3_ n4_
        (try clear hb)
        (try clear hb2)
        (try clear hk)
        (try clear hi)
        (try clear ho0)
        refine hK.out _ _ ⟨.slice Ao48 t276.length co48, v286, gb289, m1_, (.tuple #[.agg #[.string t282, .int .i64 t283, .int .i64 t284, v286], .bool t288]), m5_, m6_, m8_, (by rw [ha.out]; exact putSel_upk 4 hb_ rfl rfl rfl), (pkB BK270.out), (pkB BK271.out), (by repeat (first | (with_reducible first | exact HB.out | apply below_alloc | apply pw_below_drewN | apply below_drew1 | refine below_set ?_ GE270.out | refine below_set ?_ GE271.out) | exact HB.out)), fun _ h1_ => absurd ((up_self b 4).symm.trans h1_) (by decide), fun _ => (by (with_reducible repeat (first | apply Kd.R_alloc | apply Kd.R_drewN | apply Kd.R_drew)); exact Kd.R_mono HO278.out (by first | exact (fun _ hk => hk.2) | (intro _ hk; simp_all))), fun _ => (by (with_reducible repeat (first | apply Kd.R_alloc | apply Kd.R_drewN | apply Kd.R_drew)); exact Kd.R_mono HO287.out (by first | exact (fun _ hk => hk.2) | (intro _ hk; simp_all))), z_BK289, Q_GW289, Q_GE289, Q_NB270_289, Q_NB289_270, Q_NB271_289, Q_NB289_271, fun h0_ => absurd ((hoff 9 (by kernel_rfl)).symm.trans h0_) (by decide), Q_X1_, fun _ => rfl, fun h0_ => absurd ((hoff 5 (by kernel_rfl)).symm.trans h0_) (by decide), fun h0_ => absurd ((hoff 6 (by kernel_rfl)).symm.trans h0_) (by decide), Q_X8_⟩
      refine steps_cons ?_ ?_
      · rintro b a w' ⟨v277, v286, gb289, m1_, m4_, m5_, m6_, m8_, ha, Q_BK270, Q_BK271, Q_HB, Q_HO278, Q_HO278_e4, Q_HO287, Q_BK289, Q_GW289, Q_GE289, Q_NB270_289, Q_NB289_270, Q_NB271_289, Q_NB289_271, Q_BK289_e9, Q_X1_, Q_X4_, Q_X5_, Q_X6_, Q_X8_⟩ hb_ hon hoff
        refine ⟨_, rfl, fun K hK => ?_⟩
        have e26 : a.tmps[26]? = some (m4_) := by rw [ha]; exact putSel_on (e := (4, 26, m4_)) 4 rfl rfl (hon 4 (by kernel_rfl)) rfl
        rw [Q_X4_ (hon 4 (by kernel_rfl))] at e26
        replace ha := Aside0.mk ha
        have BK270 := Aside0.mk Q_BK270
        have BK271 := Aside0.mk Q_BK271
        have HB := Aside0.mk Q_HB
        have HO278 := Aside0.mk (Q_HO278_e4 (hon 4 (by kernel_rfl)))
        have HO287 := Aside0.mk (Q_HO287 (hon 4 (by kernel_rfl)))
        refine value_ (w1 := w') (v := .tuple #[.agg #[.string t282, .int .i64 t283, .int .i64 t284, v286], .bool t288]) (by rfl) rfl ?_ ?_
        · go_simp
          (try simp only [i64_w])
          try rfl
        refine hK.out _ _ ⟨v277, v286, gb289, m1_, m4_, (.tuple #[.agg #[.string t282, .int .i64 t283, .int .i64 t284, v286], .bool t288]), m6_, m8_, (by rw [ha.out]; exact putSel_upk 5 hb_ rfl rfl rfl), Q_BK270, Q_BK271, Q_HB, fun _ h1_ => absurd ((hon 4 (by kernel_rfl)).symm.trans h1_) (by decide), Q_HO278_e4, Q_HO287, Q_BK289, Q_GW289, Q_GE289, Q_NB270_289, Q_NB289_270, Q_NB271_289, Q_NB289_271, fun h0_ => absurd ((hoff 9 (by kernel_rfl)).symm.trans h0_) (by decide), Q_X1_, Q_X4_, fun _ => rfl, fun h0_ => absurd ((hoff 6 (by kernel_rfl)).symm.trans h0_) (by decide), Q_X8_⟩
      refine steps_cons ?_ ?_
      · rintro b a w' ⟨v277, v286, gb289, m1_, m4_, m5_, m6_, m8_, ha, Q_BK270, Q_BK271, Q_HB, Q_HO278, Q_HO278_e4, Q_HO287, Q_BK289, Q_GW289, Q_GE289, Q_NB270_289, Q_NB289_270, Q_NB271_289, Q_NB289_271, Q_BK289_e9, Q_X1_, Q_X4_, Q_X5_, Q_X6_, Q_X8_⟩ hb_ hon hoff
        refine ⟨_, rfl, fun K hK => ?_⟩
        have e21 : a.tmps[21]? = some (m5_) := by rw [ha]; exact putSel_on (e := (5, 21, m5_)) 5 rfl rfl (hon 5 (by kernel_rfl)) rfl
        rw [Q_X5_ (hon 5 (by kernel_rfl))] at e21
        replace ha := Aside0.mk ha
        have BK270 := Aside0.mk Q_BK270
        have BK271 := Aside0.mk Q_BK271
        have HB := Aside0.mk Q_HB
        have HO278 := Aside0.mk (Q_HO278_e4 (hon 4 (by kernel_rfl)))
        have HO287 := Aside0.mk (Q_HO287 (hon 4 (by kernel_rfl)))
        refine value_ (w1 := w') (v := .agg #[.string t282, .int .i64 t283, .int .i64 t284, v286]) (by rfl) rfl ?_ ?_
        · go_simp
          (try simp only [i64_w])
          try rfl
        refine hK.out _ _ ⟨v277, v286, gb289, m1_, m4_, m5_, (.agg #[.string t282, .int .i64 t283, .int .i64 t284, v286]), m8_, (by rw [ha.out]; exact putSel_upk 6 hb_ rfl rfl rfl), Q_BK270, Q_BK271, Q_HB, fun _ h1_ => absurd ((hon 4 (by kernel_rfl)).symm.trans h1_) (by decide), Q_HO278_e4, Q_HO287, Q_BK289, Q_GW289, Q_GE289, Q_NB270_289, Q_NB289_270, Q_NB271_289, Q_NB289_271, fun h0_ => absurd ((hoff 9 (by kernel_rfl)).symm.trans h0_) (by decide), Q_X1_, Q_X4_, Q_X5_, fun _ => rfl, Q_X8_⟩
      refine steps_cons ?_ ?_
      · rintro b a w' ⟨v277, v286, gb289, m1_, m4_, m5_, m6_, m8_, ha, Q_BK270, Q_BK271, Q_HB, Q_HO278, Q_HO278_e4, Q_HO287, Q_BK289, Q_GW289, Q_GE289, Q_NB270_289, Q_NB289_270, Q_NB271_289, Q_NB289_271, Q_BK289_e9, Q_X1_, Q_X4_, Q_X5_, Q_X6_, Q_X8_⟩ hb_ hon hoff
        refine ⟨_, rfl, fun K hK => ?_⟩
        have e21 : a.tmps[21]? = some (m5_) := by rw [ha]; exact putSel_on (e := (5, 21, m5_)) 5 rfl rfl (hon 5 (by kernel_rfl)) rfl
        rw [Q_X5_ (hon 5 (by kernel_rfl))] at e21
        replace ha := Aside0.mk ha
        have BK270 := Aside0.mk Q_BK270
        have BK271 := Aside0.mk Q_BK271
        have HB := Aside0.mk Q_HB
        have HO278 := Aside0.mk (Q_HO278_e4 (hon 4 (by kernel_rfl)))
        have HO287 := Aside0.mk (Q_HO287 (hon 4 (by kernel_rfl)))
        refine value_ (w1 := w') (v := .bool t288) (by rfl) rfl ?_ ?_
        · go_simp
          (try simp only [i64_w])
          try rfl
        refine hK.out _ _ ⟨v277, v286, gb289, m1_, m4_, m5_, m6_, m8_, (by rw [ha.out]; exact putSel_upk 7 hb_ rfl rfl rfl), Q_BK270, Q_BK271, Q_HB, fun _ h1_ => absurd ((hon 4 (by kernel_rfl)).symm.trans h1_) (by decide), Q_HO278_e4, Q_HO287, Q_BK289, Q_GW289, Q_GE289, Q_NB270_289, Q_NB289_270, Q_NB271_289, Q_NB289_271, Q_BK289_e9, Q_X1_, Q_X4_, Q_X5_, Q_X6_, Q_X8_⟩
      refine steps_cons ?_ ?_
      · rintro b a w' ⟨v277, v286, gb289, m1_, m4_, m5_, m6_, m8_, ha, Q_BK270, Q_BK271, Q_HB, Q_HO278, Q_HO278_e4, Q_HO287, Q_BK289, Q_GW289, Q_GE289, Q_NB270_289, Q_NB289_270, Q_NB271_289, Q_NB289_271, Q_BK289_e9, Q_X1_, Q_X4_, Q_X5_, Q_X6_, Q_X8_⟩ hb_ hon hoff
        refine ⟨_, rfl, fun K hK => ?_⟩
        replace ha := Aside0.mk ha
        have BK270 := Aside0.mk Q_BK270
        have BK271 := Aside0.mk Q_BK271
        have HB := Aside0.mk Q_HB
        refine box_step ?hg (N := 6) ?hd (cs := #[.string (⟨#[]⟩ : ByteArray), .int .i64 0, .int .i64 0, .slice none 0 0]) (t := 38) ?hr ?_; (case hd => rfl); (case hg => rfl); (case hr => first | (go_simp; done) | (go_simp; rfl))
        intro gb289 hg w45 hbox hb
        have n0_ := Aside0.mk (blk_below (g := gb270) (o := .cells #[.string a0_0, .int .i64 a0_1, .int .i64 a0_2, .slice A0_3 l0_3.length c0_3] 33 (0, 0)) (pkB BK270.out) hb)
        have n1_ := Aside0.mk (blk_below (g := gb271) (o := .cells #[.int .i64 a1_0, .int .i64 a1_1, .int .i64 a1_2] 26 (0, 0)) (pkB BK271.out) hb)
        have n2_ := Aside0.mk (below_step (by repeat (first | (with_reducible first | exact HB.out | apply below_alloc | apply pw_below_drewN | apply below_drew1 | refine below_set ?_ GE270.out | refine below_set ?_ GE271.out) | exact HB.out)) hb)
        have n3_ := Aside0.mk (hbox)
        have n4_ := Aside0.mk ((by rw [hg]; exact (below_size (by repeat (first | (with_reducible first | exact HB.out | apply below_alloc | apply pw_below_drewN | apply below_drew1 | refine below_set ?_ GE270.out | refine below_set ?_ GE271.out) | exact HB.out))) : w.heap.size ≤ gb289))
        have n5_ := Aside0.mk ((by rw [hg]; exact (below_size (by repeat (first | (with_reducible first | exact HB.out | apply below_alloc | apply pw_below_drewN | apply below_drew1 | refine below_set ?_ GE270.out | refine below_set ?_ GE271.out) | exact HB.out))) : w.heap.size ≤ gb289))
        have n6_ := Aside0.mk ((by rw [hg]; exact Nat.ne_of_lt (blk_lt (g := gb270) (o := .cells #[.string a0_0, .int .i64 a0_1, .int .i64 a0_2, .slice A0_3 l0_3.length c0_3] 33 (0, 0)) (pkB BK270.out)) : gb270 ≠ gb289))
        have n7_ := Aside0.mk ((by rw [hg]; exact Nat.ne_of_gt (blk_lt (g := gb270) (o := .cells #[.string a0_0, .int .i64 a0_1, .int .i64 a0_2, .slice A0_3 l0_3.length c0_3] 33 (0, 0)) (pkB BK270.out)) : gb289 ≠ gb270))
        have n8_ := Aside0.mk ((by rw [hg]; exact Nat.ne_of_lt (blk_lt (g := gb271) (o := .cells #[.int .i64 a1_0, .int .i64 a1_1, .int .i64 a1_2] 26 (0, 0)) (pkB BK271.out)) : gb271 ≠ gb289))
        have n9_ := Aside0.mk ((by rw [hg]; exact Nat.ne_of_gt (blk_lt (g := gb271) (o := .cells #[.int .i64 a1_0, .int .i64 a1_1, .int .i64 a1_2] 26 (0, 0)) (pkB BK271.out)) : gb289 ≠ gb271))
        have z_HO278 := fun (h0_ : b 1 = true) (h1_ : b 4 = false) => (show Kd.R k28 28 w45 w.heap.size (fun _ => True) v277 t276 from by first | exact (Kd.R_below (by (with_reducible repeat (first | apply Kd.R_alloc | apply Kd.R_drewN | apply Kd.R_drew)); exact (Q_HO278 h0_ h1_)) hb) | exact Kd.R_mono (Kd.R_below (by (with_reducible repeat (first | apply Kd.R_alloc | apply Kd.R_drewN | apply Kd.R_drew)); exact (Q_HO278 h0_ h1_)) hb) (fun _ h_ => by first | trivial | exact h_ | exact h_.1))
        have z_HO278_e4 := fun (h0_ : b 4 = true) => (show Kd.R k28 28 w45 w.heap.size (fun k_ => some k_ ≠ (v286 : Value).ownBlock) v277 t276 from by first | exact (Kd.R_below (by (with_reducible repeat (first | apply Kd.R_alloc | apply Kd.R_drewN | apply Kd.R_drew)); exact (Q_HO278_e4 h0_)) hb) | exact Kd.R_mono (Kd.R_below (by (with_reducible repeat (first | apply Kd.R_alloc | apply Kd.R_drewN | apply Kd.R_drew)); exact (Q_HO278_e4 h0_)) hb) (fun _ h_ => by first | trivial | exact h_ | exact h_.1))
        have z_HO287 := fun (h0_ : b 4 = true) => (show Kd.R k28 28 w45 w.heap.size (fun k_ => some k_ ≠ (v277 : Value).ownBlock) v286 t285 from by first | exact (Kd.R_below (by (with_reducible repeat (first | apply Kd.R_alloc | apply Kd.R_drewN | apply Kd.R_drew)); exact (Q_HO287 h0_)) hb) | exact Kd.R_mono (Kd.R_below (by (with_reducible repeat (first | apply Kd.R_alloc | apply Kd.R_drewN | apply Kd.R_drew)); exact (Q_HO287 h0_)) hb) (fun _ h_ => by first | trivial | exact h_ | exact h_.1))
        clear BK270
        clear BK271
        clear HB
        have BK270 := n0_
        have BK271 := n1_
        have HB := n2_
        have BK289 := n3_
        have GW289 := n4_
        have GE289 := n5_
        have NB270_289 := n6_
        have NB289_270 := n7_
        have NB271_289 := n8_
        have NB289_271 := n9_
        clear n0_ n1_ n2_ n3_ n4_ n5_ n6_ n7_ n8_ n9_
        clear hb hbox hg
        refine hK.out _ _ ⟨v277, v286, gb289, m1_, m4_, m5_, m6_, (.pointer (some ⟨gb289, 0, none⟩)), (by rw [ha.out]; exact putSel_upk 8 hb_ rfl rfl rfl), (pkB BK270.out), (pkB BK271.out), (by repeat (first | (with_reducible first | exact HB.out | apply below_alloc | apply pw_below_drewN | apply below_drew1 | refine below_set ?_ GE270.out | refine below_set ?_ GE271.out | refine below_set ?_ GE289.out) | exact HB.out)), z_HO278, z_HO278_e4, z_HO287, fun _ _ => (pkB BK289.out), fun _ => GW289.out, fun _ => GE289.out, fun _ => NB270_289.out, fun _ => NB289_270.out, fun _ => NB271_289.out, fun _ => NB289_271.out, fun h0_ => absurd ((hoff 9 (by kernel_rfl)).symm.trans h0_) (by decide), Q_X1_, Q_X4_, Q_X5_, Q_X6_, fun _ => rfl⟩
      refine steps_cons ?_ ?_
      · rintro b a w' ⟨v277, v286, gb289, m1_, m4_, m5_, m6_, m8_, ha, Q_BK270, Q_BK271, Q_HB, Q_HO278, Q_HO278_e4, Q_HO287, Q_BK289, Q_GW289, Q_GE289, Q_NB270_289, Q_NB289_270, Q_NB271_289, Q_NB289_271, Q_BK289_e9, Q_X1_, Q_X4_, Q_X5_, Q_X6_, Q_X8_⟩ hb_ hon hoff
        refine ⟨_, rfl, fun K hK => ?_⟩
        have e6 : a.tmps[6]? = some (m8_) := by rw [ha]; exact putSel_on (e := (8, 6, m8_)) 8 rfl rfl (hon 8 (by kernel_rfl)) rfl
        rw [Q_X8_ (hon 8 (by kernel_rfl))] at e6
        have e27 : a.tmps[27]? = some (m6_) := by rw [ha]; exact putSel_on (e := (6, 27, m6_)) 6 rfl rfl (hon 6 (by kernel_rfl)) rfl
        rw [Q_X6_ (hon 6 (by kernel_rfl))] at e27
        replace ha := Aside0.mk ha
        have BK270 := Aside0.mk Q_BK270
        have BK271 := Aside0.mk Q_BK271
        have HB := Aside0.mk Q_HB
        have HO278 := Aside0.mk (Q_HO278_e4 (hon 4 (by kernel_rfl)))
        have HO287 := Aside0.mk (Q_HO287 (hon 4 (by kernel_rfl)))
        have BK289 := Aside0.mk (Q_BK289 (hon 8 (by kernel_rfl)) hb_)
        have GW289 := Aside0.mk (Q_GW289 (hon 8 (by kernel_rfl)))
        have GE289 := Aside0.mk (Q_GE289 (hon 8 (by kernel_rfl)))
        have NB270_289 := Aside0.mk (Q_NB270_289 (hon 8 (by kernel_rfl)))
        have NB289_270 := Aside0.mk (Q_NB289_270 (hon 8 (by kernel_rfl)))
        have NB271_289 := Aside0.mk (Q_NB271_289 (hon 8 (by kernel_rfl)))
        have NB289_271 := Aside0.mk (Q_NB289_271 (hon 8 (by kernel_rfl)))
        obtain ⟨Ao54, co54, eo54⟩ := Kd.R_slice HO287.out
        (first | subst eo54 | (injection eo54 with f1_ f2_ f3_; have f4_ := f1_.symm; have f5_ := f3_.symm; clear f1_ f2_ f3_; subst f4_; subst f5_))
        have hs51 : w'.cell? ⟨gb289, 0, none⟩ = some (.string (⟨#[]⟩ : ByteArray)) := (blk_cell BK289.out 0).trans rfl
        have hfs51 := blk_frozen BK289.out 0
        have hns51_0 := NB270_289.out
        have hns51_1 := NB271_289.out
        have hms51_0 := NB289_270.out
        have hms51_1 := NB289_271.out
        have hs52 : w'.cell? ⟨gb289, 1, none⟩ = some (.int .i64 0) := (blk_cell BK289.out 1).trans rfl
        have hfs52 := blk_frozen BK289.out 1
        have hns52_0 := NB270_289.out
        have hns52_1 := NB271_289.out
        have hms52_0 := NB289_270.out
        have hms52_1 := NB289_271.out
        have hs53 : w'.cell? ⟨gb289, 2, none⟩ = some (.int .i64 0) := (blk_cell BK289.out 2).trans rfl
        have hfs53 := blk_frozen BK289.out 2
        have hns53_0 := NB270_289.out
        have hns53_1 := NB271_289.out
        have hms53_0 := NB289_270.out
        have hms53_1 := NB289_271.out
        have hs55 : w'.cell? ⟨gb289, 3, none⟩ = some (.slice none 0 0) := (blk_cell BK289.out 3).trans rfl
        have hfs55 := blk_frozen BK289.out 3
        have hns55_0 := NB270_289.out
        have hns55_1 := NB271_289.out
        have hms55_0 := NB289_270.out
        have hms55_1 := NB289_271.out
        refine skip_ (w1 := ?_) (by rfl) rfl ?_ ?_
        rotate_left
        · go_simp
          rfl
        refine hK.out _ _ ⟨v277, .slice Ao54 t285.length co54, gb289, m1_, m4_, m5_, m6_, m8_, (by rw [ha.out]; exact putSel_none (v := undef) rfl), (by (with_reducible repeat (first | refine blk_drewN ?_ _ | refine blk_drew ?_ | refine blk_alloc ?_ _)); refine blk_far ?_ NB270_289.out _; (with_reducible repeat (first | refine blk_drewN ?_ _ | refine blk_drew ?_ | refine blk_alloc ?_ _)); refine blk_far ?_ NB270_289.out _; (with_reducible repeat (first | refine blk_drewN ?_ _ | refine blk_drew ?_ | refine blk_alloc ?_ _)); refine blk_far ?_ NB270_289.out _; (with_reducible repeat (first | refine blk_drewN ?_ _ | refine blk_drew ?_ | refine blk_alloc ?_ _)); refine blk_far ?_ NB270_289.out _; (with_reducible repeat (first | refine blk_drewN ?_ _ | refine blk_drew ?_ | refine blk_alloc ?_ _)); exact BK270.out), (by (with_reducible repeat (first | refine blk_drewN ?_ _ | refine blk_drew ?_ | refine blk_alloc ?_ _)); refine blk_far ?_ NB271_289.out _; (with_reducible repeat (first | refine blk_drewN ?_ _ | refine blk_drew ?_ | refine blk_alloc ?_ _)); refine blk_far ?_ NB271_289.out _; (with_reducible repeat (first | refine blk_drewN ?_ _ | refine blk_drew ?_ | refine blk_alloc ?_ _)); refine blk_far ?_ NB271_289.out _; (with_reducible repeat (first | refine blk_drewN ?_ _ | refine blk_drew ?_ | refine blk_alloc ?_ _)); refine blk_far ?_ NB271_289.out _; (with_reducible repeat (first | refine blk_drewN ?_ _ | refine blk_drew ?_ | refine blk_alloc ?_ _)); exact BK271.out), (by repeat (first | (with_reducible first | exact HB.out | apply below_alloc | apply pw_below_drewN | apply below_drew1 | refine below_set ?_ GE270.out | refine below_set ?_ GE271.out | refine below_set ?_ GE289.out) | exact HB.out)), fun _ h1_ => absurd ((hon 4 (by kernel_rfl)).symm.trans h1_) (by decide), fun _ => (by (with_reducible repeat (first | apply Kd.R_alloc | apply Kd.R_drewN | apply Kd.R_drew)); exact Kd.R_mono (Kd.R_far (p := ⟨gb289, 3, none⟩) (Kd.R_far (p := ⟨gb289, 2, none⟩) (Kd.R_far (p := ⟨gb289, 1, none⟩) (Kd.R_far (p := ⟨gb289, 0, none⟩) (Kd.R_types HO278.out BK289.out (by decide)) (fun _ hk => hk.2) (.string t282)) (fun _ hk => hk.2) (.int .i64 t283)) (fun _ hk => hk.2) (.int .i64 t284)) (fun _ hk => hk.2) (.slice Ao54 t285.length co54)) (by first | exact (fun _ hk => hk.1) | (intro _ hk; simp_all))), fun _ => (by (with_reducible repeat (first | apply Kd.R_alloc | apply Kd.R_drewN | apply Kd.R_drew)); exact Kd.R_mono (Kd.R_far (p := ⟨gb289, 3, none⟩) (Kd.R_far (p := ⟨gb289, 2, none⟩) (Kd.R_far (p := ⟨gb289, 1, none⟩) (Kd.R_far (p := ⟨gb289, 0, none⟩) (Kd.R_types HO287.out BK289.out (by decide)) (fun _ hk => hk.2) (.string t282)) (fun _ hk => hk.2) (.int .i64 t283)) (fun _ hk => hk.2) (.int .i64 t284)) (fun _ hk => hk.2) (.slice Ao54 t285.length co54)) (by first | exact (fun _ hk => hk.1) | (intro _ hk; simp_all))), fun _ h1_ => absurd ((up_self b 9).symm.trans h1_) (by decide), fun _ => GW289.out, fun _ => GE289.out, fun _ => NB270_289.out, fun _ => NB289_270.out, fun _ => NB271_289.out, fun _ => NB289_271.out, fun _ => (by (with_reducible repeat (first | refine blk_drewN ?_ _ | refine blk_drew ?_ | refine blk_alloc ?_ _)); refine blk_put (cs := #[.string t282, .int .i64 t283, .int .i64 t284, .slice none 0 0]) ?_ 3 _ rfl; (with_reducible repeat (first | refine blk_drewN ?_ _ | refine blk_drew ?_ | refine blk_alloc ?_ _)); refine blk_put (cs := #[.string t282, .int .i64 t283, .int .i64 0, .slice none 0 0]) ?_ 2 _ rfl; (with_reducible repeat (first | refine blk_drewN ?_ _ | refine blk_drew ?_ | refine blk_alloc ?_ _)); refine blk_put (cs := #[.string t282, .int .i64 0, .int .i64 0, .slice none 0 0]) ?_ 1 _ rfl; (with_reducible repeat (first | refine blk_drewN ?_ _ | refine blk_drew ?_ | refine blk_alloc ?_ _)); refine blk_put (cs := #[.string (⟨#[]⟩ : ByteArray), .int .i64 0, .int .i64 0, .slice none 0 0]) ?_ 0 _ rfl; (with_reducible repeat (first | refine blk_drewN ?_ _ | refine blk_drew ?_ | refine blk_alloc ?_ _)); exact BK289.out), Q_X1_, Q_X4_, Q_X5_, Q_X6_, Q_X8_⟩
      refine steps_cons ?_ ?_
      · rintro b a w' ⟨v277, v286, gb289, m1_, m4_, m5_, m6_, m8_, ha, Q_BK270, Q_BK271, Q_HB, Q_HO278, Q_HO278_e4, Q_HO287, Q_BK289, Q_GW289, Q_GE289, Q_NB270_289, Q_NB289_270, Q_NB271_289, Q_NB289_271, Q_BK289_e9, Q_X1_, Q_X4_, Q_X5_, Q_X6_, Q_X8_⟩ hb_ hon hoff
        refine ⟨_, rfl, fun K hK => ?_⟩
        have e28 : a.tmps[28]? = some (.bool t288) := by rw [ha]; exact putSel_on (e := (7, 28, .bool t288)) 7 rfl rfl (hon 7 (by kernel_rfl)) rfl
        replace ha := Aside0.mk ha
        have BK270 := Aside0.mk Q_BK270
        have BK271 := Aside0.mk Q_BK271
        have HB := Aside0.mk Q_HB
        have HO278 := Aside0.mk (Q_HO278_e4 (hon 4 (by kernel_rfl)))
        have HO287 := Aside0.mk (Q_HO287 (hon 4 (by kernel_rfl)))
        have GW289 := Aside0.mk (Q_GW289 (hon 8 (by kernel_rfl)))
        have GE289 := Aside0.mk (Q_GE289 (hon 8 (by kernel_rfl)))
        have NB270_289 := Aside0.mk (Q_NB270_289 (hon 8 (by kernel_rfl)))
        have NB289_270 := Aside0.mk (Q_NB289_270 (hon 8 (by kernel_rfl)))
        have NB271_289 := Aside0.mk (Q_NB271_289 (hon 8 (by kernel_rfl)))
        have NB289_271 := Aside0.mk (Q_NB289_271 (hon 8 (by kernel_rfl)))
        have BK289 := Aside0.mk (Q_BK289_e9 (hon 9 (by kernel_rfl)))
        refine value_ (w1 := w') (v := .bool t288) (by rfl) rfl ?_ ?_
        · go_simp
          (try simp only [i64_w])
          try rfl
        refine hK.out _ _ ⟨v277, v286, gb289, m1_, m4_, m5_, m6_, m8_, (by rw [ha.out]; exact putSel_upk 9 hb_ rfl rfl rfl), Q_BK270, Q_BK271, Q_HB, fun _ h1_ => absurd ((hon 4 (by kernel_rfl)).symm.trans h1_) (by decide), Q_HO278_e4, Q_HO287, fun _ h1_ => absurd ((hon 9 (by kernel_rfl)).symm.trans h1_) (by decide), Q_GW289, Q_GE289, Q_NB270_289, Q_NB289_270, Q_NB271_289, Q_NB289_271, Q_BK289_e9, Q_X1_, Q_X4_, Q_X5_, Q_X6_, Q_X8_⟩
      exact steps_nil
    rintro b a w55 hall ⟨v277, v286, gb289, m1_, m4_, m5_, m6_, m8_, ha, Q_BK270, Q_BK271, Q_HB, Q_HO278, Q_HO278_e4, Q_HO287, Q_BK289, Q_GW289, Q_GE289, Q_NB270_289, Q_NB289_270, Q_NB271_289, Q_NB289_271, Q_BK289_e9, Q_X1_, Q_X4_, Q_X5_, Q_X6_, Q_X8_⟩
    clear BK270 BK271 HB
    have hb0_ := hall 0 (by kernel_rfl)
    have hb1_ := hall 1 (by kernel_rfl)
    have hb2_ := hall 2 (by kernel_rfl)
    have hb3_ := hall 3 (by kernel_rfl)
    have hb4_ := hall 4 (by kernel_rfl)
    have hb5_ := hall 5 (by kernel_rfl)
    have hb6_ := hall 6 (by kernel_rfl)
    have hb7_ := hall 7 (by kernel_rfl)
    have hb8_ := hall 8 (by kernel_rfl)
    have hb9_ := hall 9 (by kernel_rfl)
    have hb10_ := hall 10 (by kernel_rfl)
    subst ha
    obtain rfl := Q_X1_ hb1_
    obtain rfl := Q_X4_ hb4_
    obtain rfl := Q_X5_ hb5_
    obtain rfl := Q_X6_ hb6_
    obtain rfl := Q_X8_ hb8_
    simp only [putSel, hb0_, hb1_, hb2_, hb3_, hb4_, hb5_, hb6_, hb7_, hb8_, hb9_, hb10_, if_true, Act.put, List.setIfInBounds_toArray, List.set_cons_zero, List.set_cons_succ]
    have BK270 := Aside0.mk Q_BK270
    clear Q_BK270
    have BK271 := Aside0.mk Q_BK271
    clear Q_BK271
    have HB := Aside0.mk Q_HB
    clear Q_HB
    clear Q_HO278
    have HO278 := Aside0.mk (Q_HO278_e4 hb4_)
    clear Q_HO278_e4
    have HO287 := Aside0.mk (Q_HO287 hb4_)
    clear Q_HO287
    clear Q_BK289
    have GW289 := Aside0.mk (Q_GW289 hb8_)
    clear Q_GW289
    have GE289 := Aside0.mk (Q_GE289 hb8_)
    clear Q_GE289
    have NB270_289 := Aside0.mk (Q_NB270_289 hb8_)
    clear Q_NB270_289
    have NB289_270 := Aside0.mk (Q_NB289_270 hb8_)
    clear Q_NB289_270
    have NB271_289 := Aside0.mk (Q_NB271_289 hb8_)
    clear Q_NB271_289
    have NB289_271 := Aside0.mk (Q_NB289_271 hb8_)
    clear Q_NB289_271
    have BK289 := Aside0.mk (Q_BK289_e9 hb9_)
    clear Q_BK289_e9
    clear hall hb0_ hb1_ hb2_ hb3_ hb4_ hb5_ hb6_ hb7_ hb8_ hb9_ hb10_
    have hnb56 := NB270_289.out
    have hnc56 := NB289_270.out
    have hcz57_0 : w55.cell? ⟨gb270, 0, none⟩ = some (.string a0_0) := (blk_cell BK270.out 0).trans rfl
    have hcz57_1 : w55.cell? ⟨gb270, 1, none⟩ = some (.int .i64 a0_1) := (blk_cell BK270.out 1).trans rfl
    have hcz57_2 : w55.cell? ⟨gb270, 2, none⟩ = some (.int .i64 a0_2) := (blk_cell BK270.out 2).trans rfl
    have hcz57_3 : w55.cell? ⟨gb270, 3, none⟩ = some (.slice A0_3 l0_3.length c0_3) := (blk_cell BK270.out 3).trans rfl
    have hfz57_0 := blk_frozen BK270.out 0
    have hfz57_1 := blk_frozen BK270.out 1
    have hfz57_2 := blk_frozen BK270.out 2
    have hfz57_3 := blk_frozen BK270.out 3
    try go_wp2_with (first | ((with_reducible refine gate_callee (f := 27) rfl ?_); refine goesL_ (some 30) rfl rfl Tryd.func27 (by kernel_rfl) rfl #[.agg #[.string a0_0, .int .i64 a0_1, .int .i64 a0_2, .slice A0_3 l0_3.length c0_3]] rfl (by (try simp only [List.map_toArray, List.map_cons, List.map_nil]); first | done | rfl | (simp only [List.length_drop, List.length_take]; rfl)) ?_; (with_reducible refine (laws_toPuzzle.calls k a0_0 a0_1 a0_2 _ _ l0_3 t290 t291 t292 t293 _ ?side1 ?side2 A13.out).mono ?_); (case side1 => repeat (first | exact (Kd.C_below HR0_3.out HB.out) | (with_reducible refine Kd.C_alloc ?_ _) | (with_reducible refine Kd.C_drewN ?_ _) | (with_reducible refine Kd.C_drew ?_))); (case side2 => exact HC0_3.out); rintro e w58 ⟨v294, rfl, ho0, hb⟩; refine ⟨_, rfl, ?_⟩; have n0_ := Aside0.mk (Kd.R_elder' (pkR HO278.out) (Kd.R_base ho0) hb); have n1_ := Aside0.mk (Kd.R_elder' (pkR HO287.out) (Kd.R_base ho0) hb); have n2_ := Aside0.mk (Kd.R_lower (Kd.R_new' (Kd.R_new' ho0 (Kd.R_lt (pkR HO278.out))) (Kd.R_lt (pkR HO287.out))) (below_size (by repeat (first | (with_reducible first | exact HB.out | apply below_alloc | apply pw_below_drewN | apply below_drew1 | refine below_set ?_ GE270.out | refine below_set ?_ GE271.out | refine below_set ?_ GE289.out) | exact HB.out)))); have n3_ := Aside0.mk (blk_below (g := gb270) (o := .cells #[.string a0_0, .int .i64 a0_1, .int .i64 a0_2, .slice A0_3 l0_3.length c0_3] 33 (0, 0)) (pkB BK270.out) hb); have n4_ := Aside0.mk (blk_below (g := gb271) (o := .cells #[.int .i64 a1_0, .int .i64 a1_1, .int .i64 a1_2] 26 (0, 0)) (pkB BK271.out) hb); have n5_ := Aside0.mk (blk_below (g := gb289) (o := .cells #[.string t282, .int .i64 t283, .int .i64 t284, v286] 38 (0, 0)) (pkB BK289.out) hb); have n6_ := Aside0.mk (below_step (by repeat (first | (with_reducible first | exact HB.out | apply below_alloc | apply pw_below_drewN | apply below_drew1 | refine below_set ?_ GE270.out | refine below_set ?_ GE271.out | refine below_set ?_ GE289.out) | exact HB.out)) hb); clear HO278; clear HO287; clear BK270; clear BK271; clear BK289; clear HB; have HO278 := n0_; have HO287 := n1_; have HO295 := n2_; have BK270 := n3_; have BK271 := n4_; have BK289 := n5_; have HB := n6_; clear n0_ n1_ n2_ n3_ n4_ n5_ n6_; (try clear hb); (try clear hb2); (try clear hk); (try clear hi); (try clear ho0)) | ((with_reducible refine gate_dst (N := 8) rfl ?_); refine box_event ?hg (N := 8) ?hd (cs := #[.string (⟨#[]⟩ : ByteArray), .int .i64 0, .int .i64 0, .slice none 0 0]) (t := 38) ?hr ?_; (case hd => rfl); (case hg => rfl); (case hr => first | (go_simp; done) | (go_simp; rfl)); intro gb296 hg w59 hbox hb; have n0_ := Aside0.mk (Kd.R_below (pkR HO278.out) hb); have n1_ := Aside0.mk (Kd.R_below (pkR HO287.out) hb); have n2_ := Aside0.mk (Kd.R_below (pkR HO295.out) hb); have n3_ := Aside0.mk (blk_below (g := gb270) (o := .cells #[.string a0_0, .int .i64 a0_1, .int .i64 a0_2, .slice A0_3 l0_3.length c0_3] 33 (0, 0)) (pkB BK270.out) hb); have n4_ := Aside0.mk (blk_below (g := gb271) (o := .cells #[.int .i64 a1_0, .int .i64 a1_1, .int .i64 a1_2] 26 (0, 0)) (pkB BK271.out) hb); have n5_ := Aside0.mk (blk_below (g := gb289) (o := .cells #[.string t282, .int .i64 t283, .int .i64 t284, v286] 38 (0, 0)) (pkB BK289.out) hb); have n6_ := Aside0.mk (below_step (by repeat (first | (with_reducible first | exact HB.out | apply below_alloc | apply pw_below_drewN | apply below_drew1 | refine below_set ?_ GE270.out | refine below_set ?_ GE271.out | refine below_set ?_ GE289.out) | exact HB.out)) hb); have n7_ := Aside0.mk (hbox); have n8_ := Aside0.mk ((by rw [hg]; exact (below_size (by repeat (first | (with_reducible first | exact HB.out | apply below_alloc | apply pw_below_drewN | apply below_drew1 | refine below_set ?_ GE270.out | refine below_set ?_ GE271.out | refine below_set ?_ GE289.out) | exact HB.out))) : w.heap.size ≤ gb296)); have n9_ := Aside0.mk ((by rw [hg]; exact (below_size (by repeat (first | (with_reducible first | exact HB.out | apply below_alloc | apply pw_below_drewN | apply below_drew1 | refine below_set ?_ GE270.out | refine below_set ?_ GE271.out | refine below_set ?_ GE289.out) | exact HB.out))) : w.heap.size ≤ gb296)); have n10_ := Aside0.mk ((by rw [hg]; exact Nat.ne_of_lt (blk_lt (g := gb270) (o := .cells #[.string a0_0, .int .i64 a0_1, .int .i64 a0_2, .slice A0_3 l0_3.length c0_3] 33 (0, 0)) (pkB BK270.out)) : gb270 ≠ gb296)); have n11_ := Aside0.mk ((by rw [hg]; exact Nat.ne_of_gt (blk_lt (g := gb270) (o := .cells #[.string a0_0, .int .i64 a0_1, .int .i64 a0_2, .slice A0_3 l0_3.length c0_3] 33 (0, 0)) (pkB BK270.out)) : gb296 ≠ gb270)); have n12_ := Aside0.mk ((by rw [hg]; exact Nat.ne_of_lt (blk_lt (g := gb271) (o := .cells #[.int .i64 a1_0, .int .i64 a1_1, .int .i64 a1_2] 26 (0, 0)) (pkB BK271.out)) : gb271 ≠ gb296)); have n13_ := Aside0.mk ((by rw [hg]; exact Nat.ne_of_gt (blk_lt (g := gb271) (o := .cells #[.int .i64 a1_0, .int .i64 a1_1, .int .i64 a1_2] 26 (0, 0)) (pkB BK271.out)) : gb296 ≠ gb271)); have n14_ := Aside0.mk ((by rw [hg]; exact Nat.ne_of_lt (blk_lt (g := gb289) (o := .cells #[.string t282, .int .i64 t283, .int .i64 t284, v286] 38 (0, 0)) (pkB BK289.out)) : gb289 ≠ gb296)); have n15_ := Aside0.mk ((by rw [hg]; exact Nat.ne_of_gt (blk_lt (g := gb289) (o := .cells #[.string t282, .int .i64 t283, .int .i64 t284, v286] 38 (0, 0)) (pkB BK289.out)) : gb296 ≠ gb289)); clear HO278; clear HO287; clear HO295; clear BK270; clear BK271; clear BK289; clear HB; have HO278 := n0_; have HO287 := n1_; have HO295 := n2_; have BK270 := n3_; have BK271 := n4_; have BK289 := n5_; have HB := n6_; have BK296 := n7_; have GW296 := n8_; have GE296 := n9_; have NB270_296 := n10_; have NB296_270 := n11_; have NB271_296 := n12_; have NB296_271 := n13_; have NB289_296 := n14_; have NB296_289 := n15_; clear n0_ n1_ n2_ n3_ n4_ n5_ n6_ n7_ n8_ n9_ n10_ n11_ n12_ n13_ n14_ n15_; clear hb hbox hg; have hnb60 := NB296_270.out; have hnc60 := NB270_296.out; have hnb61 := NB296_271.out; have hnc61 := NB271_296.out; have hnb62 := NB296_289.out; have hnc62 := NB289_296.out; have hcz63_0 : w59.cell? ⟨gb296, 0, none⟩ = some (.string (⟨#[]⟩ : ByteArray)) := (blk_cell BK296.out 0).trans rfl; have hcz63_1 : w59.cell? ⟨gb296, 1, none⟩ = some (.int .i64 0) := (blk_cell BK296.out 1).trans rfl; have hcz63_2 : w59.cell? ⟨gb296, 2, none⟩ = some (.int .i64 0) := (blk_cell BK296.out 2).trans rfl; have hcz63_3 : w59.cell? ⟨gb296, 3, none⟩ = some (.slice none 0 0) := (blk_cell BK296.out 3).trans rfl; have hfz63_0 := blk_frozen BK296.out 0; have hfz63_1 := blk_frozen BK296.out 1; have hfz63_2 := blk_frozen BK296.out 2; have hfz63_3 := blk_frozen BK296.out 3; obtain ⟨Ao64, co64, eo64⟩ := Kd.R_slice HO295.out; subst eo64))
    have n0_ : Aside0 (Kd.R k28 28 ((((w59.setCell ⟨gb296, 0, none⟩ (.string t290)).setCell ⟨gb296, 1, none⟩ (.int .i64 t291)).setCell ⟨gb296, 2, none⟩ (.int .i64 t292)).setCell ⟨gb296, 3, none⟩ (.slice Ao64 t293.length co64)) w.heap.size (fun k_ => some k_ ≠ (v286 : Value).ownBlock ∧ some k_ ≠ (.slice Ao64 t293.length co64 : Value).ownBlock) v277 t276) := ⟨by (with_reducible repeat (first | apply Kd.R_alloc | apply Kd.R_drewN | apply Kd.R_drew)); exact Kd.R_mono (Kd.R_far (p := ⟨gb296, 3, none⟩) (Kd.R_far (p := ⟨gb296, 2, none⟩) (Kd.R_far (p := ⟨gb296, 1, none⟩) (Kd.R_far (p := ⟨gb296, 0, none⟩) (Kd.R_types HO278.out BK296.out (by decide)) (fun _ hk => hk.2) (.string t290)) (fun _ hk => hk.2) (.int .i64 t291)) (fun _ hk => hk.2) (.int .i64 t292)) (fun _ hk => hk.2) (.slice Ao64 t293.length co64)) (by first | exact (fun _ hk => ⟨hk.1.1, hk.1.2⟩) | (intro _ hk; simp_all))⟩
    have n1_ : Aside0 (Kd.R k28 28 ((((w59.setCell ⟨gb296, 0, none⟩ (.string t290)).setCell ⟨gb296, 1, none⟩ (.int .i64 t291)).setCell ⟨gb296, 2, none⟩ (.int .i64 t292)).setCell ⟨gb296, 3, none⟩ (.slice Ao64 t293.length co64)) w.heap.size (fun k_ => some k_ ≠ (v277 : Value).ownBlock ∧ some k_ ≠ (.slice Ao64 t293.length co64 : Value).ownBlock) v286 t285) := ⟨by (with_reducible repeat (first | apply Kd.R_alloc | apply Kd.R_drewN | apply Kd.R_drew)); exact Kd.R_mono (Kd.R_far (p := ⟨gb296, 3, none⟩) (Kd.R_far (p := ⟨gb296, 2, none⟩) (Kd.R_far (p := ⟨gb296, 1, none⟩) (Kd.R_far (p := ⟨gb296, 0, none⟩) (Kd.R_types HO287.out BK296.out (by decide)) (fun _ hk => hk.2) (.string t290)) (fun _ hk => hk.2) (.int .i64 t291)) (fun _ hk => hk.2) (.int .i64 t292)) (fun _ hk => hk.2) (.slice Ao64 t293.length co64)) (by first | exact (fun _ hk => ⟨hk.1.1, hk.1.2⟩) | (intro _ hk; simp_all))⟩
    have n2_ : Aside0 (Kd.R k28 28 ((((w59.setCell ⟨gb296, 0, none⟩ (.string t290)).setCell ⟨gb296, 1, none⟩ (.int .i64 t291)).setCell ⟨gb296, 2, none⟩ (.int .i64 t292)).setCell ⟨gb296, 3, none⟩ (.slice Ao64 t293.length co64)) w.heap.size (fun k_ => some k_ ≠ (v277 : Value).ownBlock ∧ some k_ ≠ (v286 : Value).ownBlock) (.slice Ao64 t293.length co64) t293) := ⟨by (with_reducible repeat (first | apply Kd.R_alloc | apply Kd.R_drewN | apply Kd.R_drew)); exact Kd.R_mono (Kd.R_far (p := ⟨gb296, 3, none⟩) (Kd.R_far (p := ⟨gb296, 2, none⟩) (Kd.R_far (p := ⟨gb296, 1, none⟩) (Kd.R_far (p := ⟨gb296, 0, none⟩) (Kd.R_types HO295.out BK296.out (by decide)) (fun _ hk => hk.2) (.string t290)) (fun _ hk => hk.2) (.int .i64 t291)) (fun _ hk => hk.2) (.int .i64 t292)) (fun _ hk => hk.2) (.slice Ao64 t293.length co64)) (by first | exact (fun _ hk => ⟨hk.1.1.2, hk.1.2⟩) | (intro _ hk; simp_all))⟩
    have n3_ : Aside0 (((((w59.setCell ⟨gb296, 0, none⟩ (.string t290)).setCell ⟨gb296, 1, none⟩ (.int .i64 t291)).setCell ⟨gb296, 2, none⟩ (.int .i64 t292)).setCell ⟨gb296, 3, none⟩ (.slice Ao64 t293.length co64)).heap[gb270]? = some (.cells #[.string a0_0, .int .i64 a0_1, .int .i64 a0_2, .slice A0_3 l0_3.length c0_3] 33 (0, 0))) := ⟨by (with_reducible repeat (first | refine blk_drewN ?_ _ | refine blk_drew ?_ | refine blk_alloc ?_ _)); refine blk_far ?_ NB270_296.out _; (with_reducible repeat (first | refine blk_drewN ?_ _ | refine blk_drew ?_ | refine blk_alloc ?_ _)); refine blk_far ?_ NB270_296.out _; (with_reducible repeat (first | refine blk_drewN ?_ _ | refine blk_drew ?_ | refine blk_alloc ?_ _)); refine blk_far ?_ NB270_296.out _; (with_reducible repeat (first | refine blk_drewN ?_ _ | refine blk_drew ?_ | refine blk_alloc ?_ _)); refine blk_far ?_ NB270_296.out _; (with_reducible repeat (first | refine blk_drewN ?_ _ | refine blk_drew ?_ | refine blk_alloc ?_ _)); exact BK270.out⟩
    have n4_ : Aside0 (((((w59.setCell ⟨gb296, 0, none⟩ (.string t290)).setCell ⟨gb296, 1, none⟩ (.int .i64 t291)).setCell ⟨gb296, 2, none⟩ (.int .i64 t292)).setCell ⟨gb296, 3, none⟩ (.slice Ao64 t293.length co64)).heap[gb271]? = some (.cells #[.int .i64 a1_0, .int .i64 a1_1, .int .i64 a1_2] 26 (0, 0))) := ⟨by (with_reducible repeat (first | refine blk_drewN ?_ _ | refine blk_drew ?_ | refine blk_alloc ?_ _)); refine blk_far ?_ NB271_296.out _; (with_reducible repeat (first | refine blk_drewN ?_ _ | refine blk_drew ?_ | refine blk_alloc ?_ _)); refine blk_far ?_ NB271_296.out _; (with_reducible repeat (first | refine blk_drewN ?_ _ | refine blk_drew ?_ | refine blk_alloc ?_ _)); refine blk_far ?_ NB271_296.out _; (with_reducible repeat (first | refine blk_drewN ?_ _ | refine blk_drew ?_ | refine blk_alloc ?_ _)); refine blk_far ?_ NB271_296.out _; (with_reducible repeat (first | refine blk_drewN ?_ _ | refine blk_drew ?_ | refine blk_alloc ?_ _)); exact BK271.out⟩
    have n5_ : Aside0 (((((w59.setCell ⟨gb296, 0, none⟩ (.string t290)).setCell ⟨gb296, 1, none⟩ (.int .i64 t291)).setCell ⟨gb296, 2, none⟩ (.int .i64 t292)).setCell ⟨gb296, 3, none⟩ (.slice Ao64 t293.length co64)).heap[gb289]? = some (.cells #[.string t282, .int .i64 t283, .int .i64 t284, v286] 38 (0, 0))) := ⟨by (with_reducible repeat (first | refine blk_drewN ?_ _ | refine blk_drew ?_ | refine blk_alloc ?_ _)); refine blk_far ?_ NB289_296.out _; (with_reducible repeat (first | refine blk_drewN ?_ _ | refine blk_drew ?_ | refine blk_alloc ?_ _)); refine blk_far ?_ NB289_296.out _; (with_reducible repeat (first | refine blk_drewN ?_ _ | refine blk_drew ?_ | refine blk_alloc ?_ _)); refine blk_far ?_ NB289_296.out _; (with_reducible repeat (first | refine blk_drewN ?_ _ | refine blk_drew ?_ | refine blk_alloc ?_ _)); refine blk_far ?_ NB289_296.out _; (with_reducible repeat (first | refine blk_drewN ?_ _ | refine blk_drew ?_ | refine blk_alloc ?_ _)); exact BK289.out⟩
    have n6_ : Aside0 (((((w59.setCell ⟨gb296, 0, none⟩ (.string t290)).setCell ⟨gb296, 1, none⟩ (.int .i64 t291)).setCell ⟨gb296, 2, none⟩ (.int .i64 t292)).setCell ⟨gb296, 3, none⟩ (.slice Ao64 t293.length co64)).heap[gb296]? = some (.cells #[.string t290, .int .i64 t291, .int .i64 t292, .slice Ao64 t293.length co64] 38 (0, 0))) := ⟨by (with_reducible repeat (first | refine blk_drewN ?_ _ | refine blk_drew ?_ | refine blk_alloc ?_ _)); refine blk_put (cs := #[.string t290, .int .i64 t291, .int .i64 t292, .slice none 0 0]) ?_ 3 _ rfl; (with_reducible repeat (first | refine blk_drewN ?_ _ | refine blk_drew ?_ | refine blk_alloc ?_ _)); refine blk_put (cs := #[.string t290, .int .i64 t291, .int .i64 0, .slice none 0 0]) ?_ 2 _ rfl; (with_reducible repeat (first | refine blk_drewN ?_ _ | refine blk_drew ?_ | refine blk_alloc ?_ _)); refine blk_put (cs := #[.string t290, .int .i64 0, .int .i64 0, .slice none 0 0]) ?_ 1 _ rfl; (with_reducible repeat (first | refine blk_drewN ?_ _ | refine blk_drew ?_ | refine blk_alloc ?_ _)); refine blk_put (cs := #[.string (⟨#[]⟩ : ByteArray), .int .i64 0, .int .i64 0, .slice none 0 0]) ?_ 0 _ rfl; (with_reducible repeat (first | refine blk_drewN ?_ _ | refine blk_drew ?_ | refine blk_alloc ?_ _)); exact BK296.out⟩
    have n7_ : Aside0 (Below w.heap.size w ((((w59.setCell ⟨gb296, 0, none⟩ (.string t290)).setCell ⟨gb296, 1, none⟩ (.int .i64 t291)).setCell ⟨gb296, 2, none⟩ (.int .i64 t292)).setCell ⟨gb296, 3, none⟩ (.slice Ao64 t293.length co64))) := ⟨by repeat (first | (with_reducible first | exact HB.out | apply below_alloc | apply pw_below_drewN | apply below_drew1 | refine below_set ?_ GE270.out | refine below_set ?_ GE271.out | refine below_set ?_ GE289.out | refine below_set ?_ GE296.out) | exact HB.out)⟩
    (try clear HO278)
    (try clear HO287)
    (try clear HO295)
    (try clear BK270)
    (try clear BK271)
    (try clear BK289)
    (try clear BK296)
    (try clear HB)
    generalize ((((w59.setCell ⟨gb296, 0, none⟩ (.string t290)).setCell ⟨gb296, 1, none⟩ (.int .i64 t291)).setCell ⟨gb296, 2, none⟩ (.int .i64 t292)).setCell ⟨gb296, 3, none⟩ (.slice Ao64 t293.length co64)) = w65 at n0_ n1_ n2_ n3_ n4_ n5_ n6_ n7_ ⊢
    have HO278 := n0_
    have HO287 := n1_
    have HO295 := n2_
    have BK270 := n3_
    have BK271 := n4_
    have BK289 := n5_
    have BK296 := n6_
    have HB := n7_
    clear n0_ n1_ n2_ n3_ n4_ n5_ n6_ n7_
    have n0_ := Aside0.mk (Kd.R_drew HO278.out)
    have n1_ := Aside0.mk (Kd.R_drew HO287.out)
    have n2_ := Aside0.mk (Kd.R_drew HO295.out)
    have n3_ := Aside0.mk (blk_drew BK270.out)
    have n4_ := Aside0.mk (blk_drew BK271.out)
    have n5_ := Aside0.mk (blk_drew BK289.out)
    have n6_ := Aside0.mk (blk_drew BK296.out)
    have n7_ := Aside0.mk (below_drew1 HB.out)
    clear HO278
    clear HO287
    clear HO295
    clear BK270
    clear BK271
    clear BK289
    clear BK296
    clear HB
    have HO278 := n0_
    have HO287 := n1_
    have HO295 := n2_
    have BK270 := n3_
    have BK271 := n4_
    have BK289 := n5_
    have BK296 := n6_
    have HB := n7_
    clear n0_ n1_ n2_ n3_ n4_ n5_ n6_ n7_
    refine start_ (n := 10) (S := fun w' => True) (ds := []) #[false, false, false, false, false, false, false, false, false, false] (by kernel_rfl) rfl rfl trivial (fun hHeld => ?_); refine with_tabW laws_FnExactAddClue.tab7 laws_FnExactAddClue.bits7 (fun HT_ HW_ => ?_)
    generalize w65.drew = w66 at HO278 HO287 HO295 BK270 BK271 BK289 BK296 HB hHeld ⊢
    refine inv_at [0, 1, 2, 3, 4, 5, 6, 7, 8, 9] (fun a0_ b a w' => ∃ (v304 : Value) (gb307 : Nat) (m3_ : Value) (m4_ : Value) (m5_ : Value) (m7_ : Value), a = putSel a0_ b [(0, 32, .agg #[.string t290, .int .i64 t291, .int .i64 t292, .slice Ao64 t293.length co64]), (1, 33, .agg #[.int .i64 a1_0, .int .i64 a1_1, .int .i64 a1_2]), (2, 34, .agg #[.int .i64 t297, .int .i64 t298, .int .i64 t299]), (3, 35, m3_), (4, 31, m4_), (5, 36, m5_), (6, 37, .bool t306), (7, 9, m7_), (9, 10, .bool t306)] ∧ (b 3 = false → Kd.R k28 28 w' w.heap.size (fun k_ => some k_ ≠ (v286 : Value).ownBlock ∧ some k_ ≠ (.slice Ao64 t293.length co64 : Value).ownBlock) v277 t276) ∧ (b 3 = false → Kd.R k28 28 w' w.heap.size (fun k_ => some k_ ≠ (v277 : Value).ownBlock ∧ some k_ ≠ (.slice Ao64 t293.length co64 : Value).ownBlock) v286 t285) ∧ (b 3 = false → Kd.R k28 28 w' w.heap.size (fun k_ => some k_ ≠ (v277 : Value).ownBlock ∧ some k_ ≠ (v286 : Value).ownBlock) (.slice Ao64 t293.length co64) t293) ∧ (w'.heap[gb270]? = some (.cells #[.string a0_0, .int .i64 a0_1, .int .i64 a0_2, .slice A0_3 l0_3.length c0_3] 33 (0, 0))) ∧ (w'.heap[gb271]? = some (.cells #[.int .i64 a1_0, .int .i64 a1_1, .int .i64 a1_2] 26 (0, 0))) ∧ (w'.heap[gb289]? = some (.cells #[.string t282, .int .i64 t283, .int .i64 t284, v286] 38 (0, 0))) ∧ (w'.heap[gb296]? = some (.cells #[.string t290, .int .i64 t291, .int .i64 t292, .slice Ao64 t293.length co64] 38 (0, 0))) ∧ (Below w.heap.size w w') ∧ (b 3 = true → Kd.R k28 28 w' w.heap.size (fun k_ => some k_ ≠ (v286 : Value).ownBlock ∧ some k_ ≠ (.slice Ao64 t293.length co64 : Value).ownBlock ∧ some k_ ≠ (v304 : Value).ownBlock) v277 t276) ∧ (b 3 = true → Kd.R k28 28 w' w.heap.size (fun k_ => some k_ ≠ (v277 : Value).ownBlock ∧ some k_ ≠ (.slice Ao64 t293.length co64 : Value).ownBlock ∧ some k_ ≠ (v304 : Value).ownBlock) v286 t285) ∧ (b 3 = true → Kd.R k28 28 w' w.heap.size (fun k_ => some k_ ≠ (v277 : Value).ownBlock ∧ some k_ ≠ (v286 : Value).ownBlock ∧ some k_ ≠ (v304 : Value).ownBlock) (.slice Ao64 t293.length co64) t293) ∧ (b 3 = true → Kd.R k28 28 w' w.heap.size (fun k_ => some k_ ≠ (v277 : Value).ownBlock ∧ some k_ ≠ (v286 : Value).ownBlock ∧ some k_ ≠ (.slice Ao64 t293.length co64 : Value).ownBlock) v304 t303) ∧ (b 7 = true → b 8 = false → w'.heap[gb307]? = some (.cells #[.string (⟨#[]⟩ : ByteArray), .int .i64 0, .int .i64 0, .slice none 0 0] 38 (0, 0))) ∧ (b 7 = true → w.heap.size ≤ gb307) ∧ (b 7 = true → w.heap.size ≤ gb307) ∧ (b 7 = true → gb270 ≠ gb307) ∧ (b 7 = true → gb307 ≠ gb270) ∧ (b 7 = true → gb271 ≠ gb307) ∧ (b 7 = true → gb307 ≠ gb271) ∧ (b 7 = true → gb289 ≠ gb307) ∧ (b 7 = true → gb307 ≠ gb289) ∧ (b 7 = true → gb296 ≠ gb307) ∧ (b 7 = true → gb307 ≠ gb296) ∧ (b 8 = true → w'.heap[gb307]? = some (.cells #[.string t300, .int .i64 t301, .int .i64 t302, v304] 38 (0, 0))) ∧ (b 3 = true → (m3_ : Value) = .tuple #[.agg #[.string t300, .int .i64 t301, .int .i64 t302, v304], .bool t306]) ∧ (b 4 = true → (m4_ : Value) = .tuple #[.agg #[.string t300, .int .i64 t301, .int .i64 t302, v304], .bool t306]) ∧ (b 5 = true → (m5_ : Value) = .agg #[.string t300, .int .i64 t301, .int .i64 t302, v304]) ∧ (b 7 = true → (m7_ : Value) = .pointer (some ⟨gb307, 0, none⟩))) HT_.out HW_.out (by kernel_rfl) (by kernel_rfl) ?_ ?_ ?_
    · exact ⟨.bool false, 0, .bool false, .bool false, .bool false, .bool false, by simp only [putSel, Bool.false_eq_true, if_false], fun _ => HO278.out, fun _ => HO287.out, fun _ => HO295.out, BK270.out, BK271.out, BK289.out, BK296.out, HB.out, fun h_ => absurd h_ (by decide), fun h_ => absurd h_ (by decide), fun h_ => absurd h_ (by decide), fun h_ => absurd h_ (by decide), fun h_ => absurd h_ (by decide), fun h_ => absurd h_ (by decide), fun h_ => absurd h_ (by decide), fun h_ => absurd h_ (by decide), fun h_ => absurd h_ (by decide), fun h_ => absurd h_ (by decide), fun h_ => absurd h_ (by decide), fun h_ => absurd h_ (by decide), fun h_ => absurd h_ (by decide), fun h_ => absurd h_ (by decide), fun h_ => absurd h_ (by decide), fun h_ => absurd h_ (by decide), fun h_ => absurd h_ (by decide), fun h_ => absurd h_ (by decide), fun h_ => absurd h_ (by decide), fun h_ => absurd h_ (by decide)⟩
    · skip
      clear BK270 BK271 BK289 BK296 HB HO278 HO287 HO295
      refine steps_cons ?_ ?_
      · rintro b a w' ⟨v304, gb307, m3_, m4_, m5_, m7_, ha, Q_HO278, Q_HO287, Q_HO295, Q_BK270, Q_BK271, Q_BK289, Q_BK296, Q_HB, Q_HO278_e3, Q_HO287_e3, Q_HO295_e3, Q_HO305, Q_BK307, Q_GW307, Q_GE307, Q_NB270_307, Q_NB307_270, Q_NB271_307, Q_NB307_271, Q_NB289_307, Q_NB307_289, Q_NB296_307, Q_NB307_296, Q_BK307_e8, Q_X3_, Q_X4_, Q_X5_, Q_X7_⟩ hb_ hon hoff
        refine ⟨_, rfl, fun K hK => ?_⟩
        have e8 : a.tmps[8]? = some (.pointer (some ⟨gb296, 0, none⟩)) := by rw [ha]; exact (putSel_off rfl).trans rfl
        replace ha := Aside0.mk ha
        have HO278 := Aside0.mk (Q_HO278 (hoff 3 (by kernel_rfl)))
        have HO287 := Aside0.mk (Q_HO287 (hoff 3 (by kernel_rfl)))
        have HO295 := Aside0.mk (Q_HO295 (hoff 3 (by kernel_rfl)))
        have BK270 := Aside0.mk Q_BK270
        have BK271 := Aside0.mk Q_BK271
        have BK289 := Aside0.mk Q_BK289
        have BK296 := Aside0.mk Q_BK296
        have HB := Aside0.mk Q_HB
        have hc0_ : w'.cell? ⟨gb296, 0, none⟩ = some (.string t290) := (blk_cell BK296.out 0).trans rfl
        have hc1_ : w'.cell? ⟨gb296, 1, none⟩ = some (.int .i64 t291) := (blk_cell BK296.out 1).trans rfl
        have hc2_ : w'.cell? ⟨gb296, 2, none⟩ = some (.int .i64 t292) := (blk_cell BK296.out 2).trans rfl
        have hc3_ : w'.cell? ⟨gb296, 3, none⟩ = some (.slice Ao64 t293.length co64) := (blk_cell BK296.out 3).trans rfl
        refine value_ (w1 := w') (v := .agg #[.string t290, .int .i64 t291, .int .i64 t292, .slice Ao64 t293.length co64]) (by rfl) rfl ?_ ?_
        · go_simp
          (try simp only [i64_w])
          try rfl
        refine hK.out _ _ ⟨v304, gb307, m3_, m4_, m5_, m7_, (by rw [ha.out]; exact putSel_upk 0 hb_ rfl rfl rfl), Q_HO278, Q_HO287, Q_HO295, Q_BK270, Q_BK271, Q_BK289, Q_BK296, Q_HB, fun h0_ => absurd ((hoff 3 (by kernel_rfl)).symm.trans h0_) (by decide), fun h0_ => absurd ((hoff 3 (by kernel_rfl)).symm.trans h0_) (by decide), fun h0_ => absurd ((hoff 3 (by kernel_rfl)).symm.trans h0_) (by decide), fun h0_ => absurd ((hoff 3 (by kernel_rfl)).symm.trans h0_) (by decide), Q_BK307, Q_GW307, Q_GE307, Q_NB270_307, Q_NB307_270, Q_NB271_307, Q_NB307_271, Q_NB289_307, Q_NB307_289, Q_NB296_307, Q_NB307_296, fun h0_ => absurd ((hoff 8 (by kernel_rfl)).symm.trans h0_) (by decide), fun h0_ => absurd ((hoff 3 (by kernel_rfl)).symm.trans h0_) (by decide), fun h0_ => absurd ((hoff 4 (by kernel_rfl)).symm.trans h0_) (by decide), fun h0_ => absurd ((hoff 5 (by kernel_rfl)).symm.trans h0_) (by decide), Q_X7_⟩
      refine steps_cons ?_ ?_
      · rintro b a w' ⟨v304, gb307, m3_, m4_, m5_, m7_, ha, Q_HO278, Q_HO287, Q_HO295, Q_BK270, Q_BK271, Q_BK289, Q_BK296, Q_HB, Q_HO278_e3, Q_HO287_e3, Q_HO295_e3, Q_HO305, Q_BK307, Q_GW307, Q_GE307, Q_NB270_307, Q_NB307_270, Q_NB271_307, Q_NB307_271, Q_NB289_307, Q_NB307_289, Q_NB296_307, Q_NB307_296, Q_BK307_e8, Q_X3_, Q_X4_, Q_X5_, Q_X7_⟩ hb_ hon hoff
        refine ⟨_, rfl, fun K hK => ?_⟩
        have e3 : a.tmps[3]? = some (.pointer (some ⟨gb271, 0, none⟩)) := by rw [ha]; exact (putSel_off rfl).trans rfl
        replace ha := Aside0.mk ha
        have HO278 := Aside0.mk (Q_HO278 (hoff 3 (by kernel_rfl)))
        have HO287 := Aside0.mk (Q_HO287 (hoff 3 (by kernel_rfl)))
        have HO295 := Aside0.mk (Q_HO295 (hoff 3 (by kernel_rfl)))
        have BK270 := Aside0.mk Q_BK270
        have BK271 := Aside0.mk Q_BK271
        have BK289 := Aside0.mk Q_BK289
        have BK296 := Aside0.mk Q_BK296
        have HB := Aside0.mk Q_HB
        have hc0_ : w'.cell? ⟨gb271, 0, none⟩ = some (.int .i64 a1_0) := (blk_cell BK271.out 0).trans rfl
        have hc1_ : w'.cell? ⟨gb271, 1, none⟩ = some (.int .i64 a1_1) := (blk_cell BK271.out 1).trans rfl
        have hc2_ : w'.cell? ⟨gb271, 2, none⟩ = some (.int .i64 a1_2) := (blk_cell BK271.out 2).trans rfl
        refine value_ (w1 := w') (v := .agg #[.int .i64 a1_0, .int .i64 a1_1, .int .i64 a1_2]) (by rfl) rfl ?_ ?_
        · go_simp
          (try simp only [i64_w])
          try rfl
        refine hK.out _ _ ⟨v304, gb307, m3_, m4_, m5_, m7_, (by rw [ha.out]; exact putSel_upk 1 hb_ rfl rfl rfl), Q_HO278, Q_HO287, Q_HO295, Q_BK270, Q_BK271, Q_BK289, Q_BK296, Q_HB, fun h0_ => absurd ((hoff 3 (by kernel_rfl)).symm.trans h0_) (by decide), fun h0_ => absurd ((hoff 3 (by kernel_rfl)).symm.trans h0_) (by decide), fun h0_ => absurd ((hoff 3 (by kernel_rfl)).symm.trans h0_) (by decide), fun h0_ => absurd ((hoff 3 (by kernel_rfl)).symm.trans h0_) (by decide), Q_BK307, Q_GW307, Q_GE307, Q_NB270_307, Q_NB307_270, Q_NB271_307, Q_NB307_271, Q_NB289_307, Q_NB307_289, Q_NB296_307, Q_NB307_296, fun h0_ => absurd ((hoff 8 (by kernel_rfl)).symm.trans h0_) (by decide), fun h0_ => absurd ((hoff 3 (by kernel_rfl)).symm.trans h0_) (by decide), fun h0_ => absurd ((hoff 4 (by kernel_rfl)).symm.trans h0_) (by decide), fun h0_ => absurd ((hoff 5 (by kernel_rfl)).symm.trans h0_) (by decide), Q_X7_⟩
      refine steps_cons ?_ ?_
      · rintro b a w' ⟨v304, gb307, m3_, m4_, m5_, m7_, ha, Q_HO278, Q_HO287, Q_HO295, Q_BK270, Q_BK271, Q_BK289, Q_BK296, Q_HB, Q_HO278_e3, Q_HO287_e3, Q_HO295_e3, Q_HO305, Q_BK307, Q_GW307, Q_GE307, Q_NB270_307, Q_NB307_270, Q_NB271_307, Q_NB307_271, Q_NB289_307, Q_NB307_289, Q_NB296_307, Q_NB307_296, Q_BK307_e8, Q_X3_, Q_X4_, Q_X5_, Q_X7_⟩ hb_ hon hoff
        refine ⟨_, rfl, fun K hK => ?_⟩
        have e33 : a.tmps[33]? = some (.agg #[.int .i64 a1_0, .int .i64 a1_1, .int .i64 a1_2]) := by rw [ha]; exact putSel_on (e := (1, 33, .agg #[.int .i64 a1_0, .int .i64 a1_1, .int .i64 a1_2])) 1 rfl rfl (hon 1 (by kernel_rfl)) rfl
        replace ha := Aside0.mk ha
        have HO278 := Aside0.mk (Q_HO278 (hoff 3 (by kernel_rfl)))
        have HO287 := Aside0.mk (Q_HO287 (hoff 3 (by kernel_rfl)))
        have HO295 := Aside0.mk (Q_HO295 (hoff 3 (by kernel_rfl)))
        have BK270 := Aside0.mk Q_BK270
        have BK271 := Aside0.mk Q_BK271
        have BK289 := Aside0.mk Q_BK289
        have BK296 := Aside0.mk Q_BK296
        have HB := Aside0.mk Q_HB
        refine goes_ Tryd.func23 (by kernel_rfl) rfl #[.agg #[.int .i64 a1_0, .int .i64 a1_1, .int .i64 a1_2]] (by rfl) rfl rfl (by first | (simp only [List.map_toArray, List.map_cons, List.map_nil, Act.eval, Array.getD_eq_getD_getElem?, Option.getD_some, e33]; done) | (simp only [List.map_toArray, List.map_cons, List.map_nil, Act.eval, Array.getD_eq_getD_getElem?, Option.getD_some, e33]; rfl)) ?_
        with_reducible refine (laws_toClue.calls a1_0 a1_1 a1_2 t297 t298 t299 _ A14.out).mono ?_
        rintro e w67 ⟨rfl, hb⟩
        refine ⟨_, rfl, ?_⟩
        have n0_ := Aside0.mk (Kd.R_below (pkR HO278.out) hb)
        have n1_ := Aside0.mk (Kd.R_below (pkR HO287.out) hb)
        have n2_ := Aside0.mk (Kd.R_below (pkR HO295.out) hb)
        have n3_ := Aside0.mk (blk_below (g := gb270) (o := .cells #[.string a0_0, .int .i64 a0_1, .int .i64 a0_2, .slice A0_3 l0_3.length c0_3] 33 (0, 0)) (pkB BK270.out) hb)
        have n4_ := Aside0.mk (blk_below (g := gb271) (o := .cells #[.int .i64 a1_0, .int .i64 a1_1, .int .i64 a1_2] 26 (0, 0)) (pkB BK271.out) hb)
        have n5_ := Aside0.mk (blk_below (g := gb289) (o := .cells #[.string t282, .int .i64 t283, .int .i64 t284, v286] 38 (0, 0)) (pkB BK289.out) hb)
        have n6_ := Aside0.mk (blk_below (g := gb296) (o := .cells #[.string t290, .int .i64 t291, .int .i64 t292, .slice Ao64 t293.length co64] 38 (0, 0)) (pkB BK296.out) hb)
        have n7_ := Aside0.mk (below_step (by repeat (first | (with_reducible first | exact HB.out | apply below_alloc | apply pw_below_drewN | apply below_drew1 | refine below_set ?_ GE270.out | refine below_set ?_ GE271.out | refine below_set ?_ GE289.out | refine below_set ?_ GE296.out) | exact HB.out)) hb)
        have z_BK307 := fun (h0_ : b 7 = true) (h1_ : b 8 = false) => (show w67.heap[gb307]? = some (.cells #[.string (⟨#[]⟩ : ByteArray), .int .i64 0, .int .i64 0, .slice none 0 0] 38 (0, 0)) from by first | exact (blk_below (g := gb307) (o := .cells #[.string (⟨#[]⟩ : ByteArray), .int .i64 0, .int .i64 0, .slice none 0 0] 38 (0, 0)) (by (with_reducible repeat (first | refine blk_drewN ?_ _ | refine blk_drew ?_ | refine blk_alloc ?_ _)); exact (Q_BK307 h0_ h1_)) hb))
        clear HO278
        clear HO287
        clear HO295
        clear BK270
        clear BK271
        clear BK289
        clear BK296
        clear HB
        have HO278 := n0_
        have HO287 := n1_
        have HO295 := n2_
        have BK270 := n3_
        have BK271 := n4_
        have BK289 := n5_
        have BK296 := n6_
        have HB := n7_
        clear n0_ n1_ n2_ n3_ n4_ n5_ n6_ n7_
        (try clear hb)
        (try clear hb2)
        (try clear hk)
        (try clear hi)
        refine hK.out _ _ ⟨v304, gb307, m3_, m4_, m5_, m7_, (by rw [ha.out]; exact putSel_upk 2 hb_ rfl rfl rfl), fun _ => (pkR HO278.out), fun _ => (pkR HO287.out), fun _ => (pkR HO295.out), (pkB BK270.out), (pkB BK271.out), (pkB BK289.out), (pkB BK296.out), (by repeat (first | (with_reducible first | exact HB.out | apply below_alloc | apply pw_below_drewN | apply below_drew1 | refine below_set ?_ GE270.out | refine below_set ?_ GE271.out | refine below_set ?_ GE289.out | refine below_set ?_ GE296.out) | exact HB.out)), fun h0_ => absurd ((hoff 3 (by kernel_rfl)).symm.trans h0_) (by decide), fun h0_ => absurd ((hoff 3 (by kernel_rfl)).symm.trans h0_) (by decide), fun h0_ => absurd ((hoff 3 (by kernel_rfl)).symm.trans h0_) (by decide), fun h0_ => absurd ((hoff 3 (by kernel_rfl)).symm.trans h0_) (by decide), z_BK307, Q_GW307, Q_GE307, Q_NB270_307, Q_NB307_270, Q_NB271_307, Q_NB307_271, Q_NB289_307, Q_NB307_289, Q_NB296_307, Q_NB307_296, fun h0_ => absurd ((hoff 8 (by kernel_rfl)).symm.trans h0_) (by decide), fun h0_ => absurd ((hoff 3 (by kernel_rfl)).symm.trans h0_) (by decide), fun h0_ => absurd ((hoff 4 (by kernel_rfl)).symm.trans h0_) (by decide), fun h0_ => absurd ((hoff 5 (by kernel_rfl)).symm.trans h0_) (by decide), Q_X7_⟩
      refine steps_cons ?_ ?_
      · rintro b a w' ⟨v304, gb307, m3_, m4_, m5_, m7_, ha, Q_HO278, Q_HO287, Q_HO295, Q_BK270, Q_BK271, Q_BK289, Q_BK296, Q_HB, Q_HO278_e3, Q_HO287_e3, Q_HO295_e3, Q_HO305, Q_BK307, Q_GW307, Q_GE307, Q_NB270_307, Q_NB307_270, Q_NB271_307, Q_NB307_271, Q_NB289_307, Q_NB307_289, Q_NB296_307, Q_NB307_296, Q_BK307_e8, Q_X3_, Q_X4_, Q_X5_, Q_X7_⟩ hb_ hon hoff
        refine ⟨_, rfl, fun K hK => ?_⟩
        have e32 : a.tmps[32]? = some (.agg #[.string t290, .int .i64 t291, .int .i64 t292, .slice Ao64 t293.length co64]) := by rw [ha]; exact putSel_on (e := (0, 32, .agg #[.string t290, .int .i64 t291, .int .i64 t292, .slice Ao64 t293.length co64])) 0 rfl rfl (hon 0 (by kernel_rfl)) rfl
        have e34 : a.tmps[34]? = some (.agg #[.int .i64 t297, .int .i64 t298, .int .i64 t299]) := by rw [ha]; exact putSel_on (e := (2, 34, .agg #[.int .i64 t297, .int .i64 t298, .int .i64 t299])) 2 rfl rfl (hon 2 (by kernel_rfl)) rfl
        replace ha := Aside0.mk ha
        have HO278 := Aside0.mk (Q_HO278 hb_)
        have HO287 := Aside0.mk (Q_HO287 hb_)
        have HO295 := Aside0.mk (Q_HO295 hb_)
        have BK270 := Aside0.mk Q_BK270
        have BK271 := Aside0.mk Q_BK271
        have BK289 := Aside0.mk Q_BK289
        have BK296 := Aside0.mk Q_BK296
        have HB := Aside0.mk Q_HB
        refine goes_ Tryd.func31 (by kernel_rfl) rfl #[.agg #[.string t290, .int .i64 t291, .int .i64 t292, .slice Ao64 t293.length co64], .agg #[.int .i64 t297, .int .i64 t298, .int .i64 t299]] (by rfl) rfl rfl (by first | (simp only [List.map_toArray, List.map_cons, List.map_nil, Act.eval, Array.getD_eq_getD_getElem?, Option.getD_some, e32, e34]; done) | (simp only [List.map_toArray, List.map_cons, List.map_nil, Act.eval, Array.getD_eq_getD_getElem?, Option.getD_some, e32, e34]; rfl)) ?_
        with_reducible refine (impl_AddClue.calls k t290 t291 t292 _ _ t293 t297 t298 t299 t300 t301 t302 t303 t306 _ ?side1 ?side2 A15.out).mono ?_
        (case side1 => repeat (first | exact (Kd.R_reads' HO295.out).2.2 | (with_reducible refine Kd.C_alloc ?_ _) | (with_reducible refine Kd.C_drewN ?_ _) | (with_reducible refine Kd.C_drew ?_)))
        (case side2 => exact (Kd.R_reads' HO295.out).2.1)
        rintro e w69 ⟨v304, rfl, ho0, hb⟩
        refine ⟨_, rfl, ?_⟩
        have n0_ := Aside0.mk (Kd.R_elder' (pkR HO278.out) (Kd.R_base ho0) hb)
        have n1_ := Aside0.mk (Kd.R_elder' (pkR HO287.out) (Kd.R_base ho0) hb)
        have n2_ := Aside0.mk (Kd.R_elder' (pkR HO295.out) (Kd.R_base ho0) hb)
        have n3_ := Aside0.mk (Kd.R_lower (Kd.R_new' (Kd.R_new' (Kd.R_new' ho0 (Kd.R_lt (pkR HO278.out))) (Kd.R_lt (pkR HO287.out))) (Kd.R_lt (pkR HO295.out))) (below_size (by repeat (first | (with_reducible first | exact HB.out | apply below_alloc | apply pw_below_drewN | apply below_drew1 | refine below_set ?_ GE270.out | refine below_set ?_ GE271.out | refine below_set ?_ GE289.out | refine below_set ?_ GE296.out) | exact HB.out))))
        have n4_ := Aside0.mk (blk_below (g := gb270) (o := .cells #[.string a0_0, .int .i64 a0_1, .int .i64 a0_2, .slice A0_3 l0_3.length c0_3] 33 (0, 0)) (pkB BK270.out) hb)
        have n5_ := Aside0.mk (blk_below (g := gb271) (o := .cells #[.int .i64 a1_0, .int .i64 a1_1, .int .i64 a1_2] 26 (0, 0)) (pkB BK271.out) hb)
        have n6_ := Aside0.mk (blk_below (g := gb289) (o := .cells #[.string t282, .int .i64 t283, .int .i64 t284, v286] 38 (0, 0)) (pkB BK289.out) hb)
        have n7_ := Aside0.mk (blk_below (g := gb296) (o := .cells #[.string t290, .int .i64 t291, .int .i64 t292, .slice Ao64 t293.length co64] 38 (0, 0)) (pkB BK296.out) hb)
        have n8_ := Aside0.mk (below_step (by repeat (first | (with_reducible first | exact HB.out | apply below_alloc | apply pw_below_drewN | apply below_drew1 | refine below_set ?_ GE270.out | refine below_set ?_ GE271.out | refine below_set ?_ GE289.out | refine below_set ?_ GE296.out) | exact HB.out)) hb)
        have z_BK307 := fun (h0_ : b 7 = true) (h1_ : b 8 = false) => (show w69.heap[gb307]? = some (.cells #[.string (⟨#[]⟩ : ByteArray), .int .i64 0, .int .i64 0, .slice none 0 0] 38 (0, 0)) from by first | exact (blk_below (g := gb307) (o := .cells #[.string (⟨#[]⟩ : ByteArray), .int .i64 0, .int .i64 0, .slice none 0 0] 38 (0, 0)) (by (with_reducible repeat (first | refine blk_drewN ?_ _ | refine blk_drew ?_ | refine blk_alloc ?_ _)); exact (Q_BK307 h0_ h1_)) hb))
        clear HO278
        clear HO287
        clear HO295
        clear BK270
        clear BK271
        clear BK289
        clear BK296
        clear HB
        have HO278 := n0_
        have HO287 := n1_
        have HO295 := n2_
        have HO305 := n3_
        have BK270 := n4_
        have BK271 := n5_
        have BK289 := n6_
        have BK296 := n7_
        have HB := n8_
        clear n0_ n1_ n2_ n3_ n4_ n5_ n6_ n7_ n8_
        (try clear hb)
        (try clear hb2)
        (try clear hk)
        (try clear hi)
        (try clear ho0)
        refine hK.out _ _ ⟨v304, gb307, (.tuple #[.agg #[.string t300, .int .i64 t301, .int .i64 t302, v304], .bool t306]), m4_, m5_, m7_, (by rw [ha.out]; exact putSel_upk 3 hb_ rfl rfl rfl), fun h0_ => absurd ((up_self b 3).symm.trans h0_) (by decide), fun h0_ => absurd ((up_self b 3).symm.trans h0_) (by decide), fun h0_ => absurd ((up_self b 3).symm.trans h0_) (by decide), (pkB BK270.out), (pkB BK271.out), (pkB BK289.out), (pkB BK296.out), (by repeat (first | (with_reducible first | exact HB.out | apply below_alloc | apply pw_below_drewN | apply below_drew1 | refine below_set ?_ GE270.out | refine below_set ?_ GE271.out | refine below_set ?_ GE289.out | refine below_set ?_ GE296.out) | exact HB.out)), fun _ => (by (with_reducible repeat (first | apply Kd.R_alloc | apply Kd.R_drewN | apply Kd.R_drew)); exact Kd.R_mono HO278.out (by first | exact (fun _ hk => ⟨hk.1.1, ⟨hk.1.2, hk.2⟩⟩) | (intro _ hk; simp_all))), fun _ => (by (with_reducible repeat (first | apply Kd.R_alloc | apply Kd.R_drewN | apply Kd.R_drew)); exact Kd.R_mono HO287.out (by first | exact (fun _ hk => ⟨hk.1.1, ⟨hk.1.2, hk.2⟩⟩) | (intro _ hk; simp_all))), fun _ => (by (with_reducible repeat (first | apply Kd.R_alloc | apply Kd.R_drewN | apply Kd.R_drew)); exact Kd.R_mono HO295.out (by first | exact (fun _ hk => ⟨hk.1.1, ⟨hk.1.2, hk.2⟩⟩) | (intro _ hk; simp_all))), fun _ => (by (with_reducible repeat (first | apply Kd.R_alloc | apply Kd.R_drewN | apply Kd.R_drew)); exact Kd.R_mono HO305.out (by first | exact (fun _ hk => ⟨hk.1.1.2, ⟨hk.1.2, hk.2⟩⟩) | (intro _ hk; simp_all))), z_BK307, Q_GW307, Q_GE307, Q_NB270_307, Q_NB307_270, Q_NB271_307, Q_NB307_271, Q_NB289_307, Q_NB307_289, Q_NB296_307, Q_NB307_296, fun h0_ => absurd ((hoff 8 (by kernel_rfl)).symm.trans h0_) (by decide), fun _ => rfl, fun h0_ => absurd ((hoff 4 (by kernel_rfl)).symm.trans h0_) (by decide), fun h0_ => absurd ((hoff 5 (by kernel_rfl)).symm.trans h0_) (by decide), Q_X7_⟩
      refine steps_cons ?_ ?_
      · rintro b a w' ⟨v304, gb307, m3_, m4_, m5_, m7_, ha, Q_HO278, Q_HO287, Q_HO295, Q_BK270, Q_BK271, Q_BK289, Q_BK296, Q_HB, Q_HO278_e3, Q_HO287_e3, Q_HO295_e3, Q_HO305, Q_BK307, Q_GW307, Q_GE307, Q_NB270_307, Q_NB307_270, Q_NB271_307, Q_NB307_271, Q_NB289_307, Q_NB307_289, Q_NB296_307, Q_NB307_296, Q_BK307_e8, Q_X3_, Q_X4_, Q_X5_, Q_X7_⟩ hb_ hon hoff
        refine ⟨_, rfl, fun K hK => ?_⟩
        have e35 : a.tmps[35]? = some (m3_) := by rw [ha]; exact putSel_on (e := (3, 35, m3_)) 3 rfl rfl (hon 3 (by kernel_rfl)) rfl
        rw [Q_X3_ (hon 3 (by kernel_rfl))] at e35
        replace ha := Aside0.mk ha
        have BK270 := Aside0.mk Q_BK270
        have BK271 := Aside0.mk Q_BK271
        have BK289 := Aside0.mk Q_BK289
        have BK296 := Aside0.mk Q_BK296
        have HB := Aside0.mk Q_HB
        have HO278 := Aside0.mk (Q_HO278_e3 (hon 3 (by kernel_rfl)))
        have HO287 := Aside0.mk (Q_HO287_e3 (hon 3 (by kernel_rfl)))
        have HO295 := Aside0.mk (Q_HO295_e3 (hon 3 (by kernel_rfl)))
        have HO305 := Aside0.mk (Q_HO305 (hon 3 (by kernel_rfl)))
        refine value_ (w1 := w') (v := .tuple #[.agg #[.string t300, .int .i64 t301, .int .i64 t302, v304], .bool t306]) (by rfl) rfl ?_ ?_
        · go_simp
          (try simp only [i64_w])
          try rfl
        refine hK.out _ _ ⟨v304, gb307, m3_, (.tuple #[.agg #[.string t300, .int .i64 t301, .int .i64 t302, v304], .bool t306]), m5_, m7_, (by rw [ha.out]; exact putSel_upk 4 hb_ rfl rfl rfl), fun h0_ => absurd ((hon 3 (by kernel_rfl)).symm.trans h0_) (by decide), fun h0_ => absurd ((hon 3 (by kernel_rfl)).symm.trans h0_) (by decide), fun h0_ => absurd ((hon 3 (by kernel_rfl)).symm.trans h0_) (by decide), Q_BK270, Q_BK271, Q_BK289, Q_BK296, Q_HB, Q_HO278_e3, Q_HO287_e3, Q_HO295_e3, Q_HO305, Q_BK307, Q_GW307, Q_GE307, Q_NB270_307, Q_NB307_270, Q_NB271_307, Q_NB307_271, Q_NB289_307, Q_NB307_289, Q_NB296_307, Q_NB307_296, fun h0_ => absurd ((hoff 8 (by kernel_rfl)).symm.trans h0_) (by decide), Q_X3_, fun _ => rfl, fun h0_ => absurd ((hoff 5 (by kernel_rfl)).symm.trans h0_) (by decide), Q_X7_⟩
      refine steps_cons ?_ ?_
      · rintro b a w' ⟨v304, gb307, m3_, m4_, m5_, m7_, ha, Q_HO278, Q_HO287, Q_HO295, Q_BK270, Q_BK271, Q_BK289, Q_BK296, Q_HB, Q_HO278_e3, Q_HO287_e3, Q_HO295_e3, Q_HO305, Q_BK307, Q_GW307, Q_GE307, Q_NB270_307, Q_NB307_270, Q_NB271_307, Q_NB307_271, Q_NB289_307, Q_NB307_289, Q_NB296_307, Q_NB307_296, Q_BK307_e8, Q_X3_, Q_X4_, Q_X5_, Q_X7_⟩ hb_ hon hoff
        refine ⟨_, rfl, fun K hK => ?_⟩
        have e31 : a.tmps[31]? = some (m4_) := by rw [ha]; exact putSel_on (e := (4, 31, m4_)) 4 rfl rfl (hon 4 (by kernel_rfl)) rfl
        rw [Q_X4_ (hon 4 (by kernel_rfl))] at e31
        replace ha := Aside0.mk ha
        have BK270 := Aside0.mk Q_BK270
        have BK271 := Aside0.mk Q_BK271
        have BK289 := Aside0.mk Q_BK289
        have BK296 := Aside0.mk Q_BK296
        have HB := Aside0.mk Q_HB
        have HO278 := Aside0.mk (Q_HO278_e3 (hon 3 (by kernel_rfl)))
        have HO287 := Aside0.mk (Q_HO287_e3 (hon 3 (by kernel_rfl)))
        have HO295 := Aside0.mk (Q_HO295_e3 (hon 3 (by kernel_rfl)))
        have HO305 := Aside0.mk (Q_HO305 (hon 3 (by kernel_rfl)))
        refine value_ (w1 := w') (v := .agg #[.string t300, .int .i64 t301, .int .i64 t302, v304]) (by rfl) rfl ?_ ?_
        · go_simp
          (try simp only [i64_w])
          try rfl
        refine hK.out _ _ ⟨v304, gb307, m3_, m4_, (.agg #[.string t300, .int .i64 t301, .int .i64 t302, v304]), m7_, (by rw [ha.out]; exact putSel_upk 5 hb_ rfl rfl rfl), fun h0_ => absurd ((hon 3 (by kernel_rfl)).symm.trans h0_) (by decide), fun h0_ => absurd ((hon 3 (by kernel_rfl)).symm.trans h0_) (by decide), fun h0_ => absurd ((hon 3 (by kernel_rfl)).symm.trans h0_) (by decide), Q_BK270, Q_BK271, Q_BK289, Q_BK296, Q_HB, Q_HO278_e3, Q_HO287_e3, Q_HO295_e3, Q_HO305, Q_BK307, Q_GW307, Q_GE307, Q_NB270_307, Q_NB307_270, Q_NB271_307, Q_NB307_271, Q_NB289_307, Q_NB307_289, Q_NB296_307, Q_NB307_296, fun h0_ => absurd ((hoff 8 (by kernel_rfl)).symm.trans h0_) (by decide), Q_X3_, Q_X4_, fun _ => rfl, Q_X7_⟩
      refine steps_cons ?_ ?_
      · rintro b a w' ⟨v304, gb307, m3_, m4_, m5_, m7_, ha, Q_HO278, Q_HO287, Q_HO295, Q_BK270, Q_BK271, Q_BK289, Q_BK296, Q_HB, Q_HO278_e3, Q_HO287_e3, Q_HO295_e3, Q_HO305, Q_BK307, Q_GW307, Q_GE307, Q_NB270_307, Q_NB307_270, Q_NB271_307, Q_NB307_271, Q_NB289_307, Q_NB307_289, Q_NB296_307, Q_NB307_296, Q_BK307_e8, Q_X3_, Q_X4_, Q_X5_, Q_X7_⟩ hb_ hon hoff
        refine ⟨_, rfl, fun K hK => ?_⟩
        have e31 : a.tmps[31]? = some (m4_) := by rw [ha]; exact putSel_on (e := (4, 31, m4_)) 4 rfl rfl (hon 4 (by kernel_rfl)) rfl
        rw [Q_X4_ (hon 4 (by kernel_rfl))] at e31
        replace ha := Aside0.mk ha
        have BK270 := Aside0.mk Q_BK270
        have BK271 := Aside0.mk Q_BK271
        have BK289 := Aside0.mk Q_BK289
        have BK296 := Aside0.mk Q_BK296
        have HB := Aside0.mk Q_HB
        have HO278 := Aside0.mk (Q_HO278_e3 (hon 3 (by kernel_rfl)))
        have HO287 := Aside0.mk (Q_HO287_e3 (hon 3 (by kernel_rfl)))
        have HO295 := Aside0.mk (Q_HO295_e3 (hon 3 (by kernel_rfl)))
        have HO305 := Aside0.mk (Q_HO305 (hon 3 (by kernel_rfl)))
        refine value_ (w1 := w') (v := .bool t306) (by rfl) rfl ?_ ?_
        · go_simp
          (try simp only [i64_w])
          try rfl
        refine hK.out _ _ ⟨v304, gb307, m3_, m4_, m5_, m7_, (by rw [ha.out]; exact putSel_upk 6 hb_ rfl rfl rfl), fun h0_ => absurd ((hon 3 (by kernel_rfl)).symm.trans h0_) (by decide), fun h0_ => absurd ((hon 3 (by kernel_rfl)).symm.trans h0_) (by decide), fun h0_ => absurd ((hon 3 (by kernel_rfl)).symm.trans h0_) (by decide), Q_BK270, Q_BK271, Q_BK289, Q_BK296, Q_HB, Q_HO278_e3, Q_HO287_e3, Q_HO295_e3, Q_HO305, Q_BK307, Q_GW307, Q_GE307, Q_NB270_307, Q_NB307_270, Q_NB271_307, Q_NB307_271, Q_NB289_307, Q_NB307_289, Q_NB296_307, Q_NB307_296, Q_BK307_e8, Q_X3_, Q_X4_, Q_X5_, Q_X7_⟩
      refine steps_cons ?_ ?_
      · rintro b a w' ⟨v304, gb307, m3_, m4_, m5_, m7_, ha, Q_HO278, Q_HO287, Q_HO295, Q_BK270, Q_BK271, Q_BK289, Q_BK296, Q_HB, Q_HO278_e3, Q_HO287_e3, Q_HO295_e3, Q_HO305, Q_BK307, Q_GW307, Q_GE307, Q_NB270_307, Q_NB307_270, Q_NB271_307, Q_NB307_271, Q_NB289_307, Q_NB307_289, Q_NB296_307, Q_NB307_296, Q_BK307_e8, Q_X3_, Q_X4_, Q_X5_, Q_X7_⟩ hb_ hon hoff
        refine ⟨_, rfl, fun K hK => ?_⟩
        replace ha := Aside0.mk ha
        have BK270 := Aside0.mk Q_BK270
        have BK271 := Aside0.mk Q_BK271
        have BK289 := Aside0.mk Q_BK289
        have BK296 := Aside0.mk Q_BK296
        have HB := Aside0.mk Q_HB
        refine box_step ?hg (N := 9) ?hd (cs := #[.string (⟨#[]⟩ : ByteArray), .int .i64 0, .int .i64 0, .slice none 0 0]) (t := 38) ?hr ?_; (case hd => rfl); (case hg => rfl); (case hr => first | (go_simp; done) | (go_simp; rfl))
        intro gb307 hg w67 hbox hb
        have n3_ := Aside0.mk (blk_below (g := gb270) (o := .cells #[.string a0_0, .int .i64 a0_1, .int .i64 a0_2, .slice A0_3 l0_3.length c0_3] 33 (0, 0)) (pkB BK270.out) hb)
        have n4_ := Aside0.mk (blk_below (g := gb271) (o := .cells #[.int .i64 a1_0, .int .i64 a1_1, .int .i64 a1_2] 26 (0, 0)) (pkB BK271.out) hb)
        have n5_ := Aside0.mk (blk_below (g := gb289) (o := .cells #[.string t282, .int .i64 t283, .int .i64 t284, v286] 38 (0, 0)) (pkB BK289.out) hb)
        have n6_ := Aside0.mk (blk_below (g := gb296) (o := .cells #[.string t290, .int .i64 t291, .int .i64 t292, .slice Ao64 t293.length co64] 38 (0, 0)) (pkB BK296.out) hb)
        have n7_ := Aside0.mk (below_step (by repeat (first | (with_reducible first | exact HB.out | apply below_alloc | apply pw_below_drewN | apply below_drew1 | refine below_set ?_ GE270.out | refine below_set ?_ GE271.out | refine below_set ?_ GE289.out | refine below_set ?_ GE296.out) | exact HB.out)) hb)
        have n8_ := Aside0.mk (hbox)
        have n9_ := Aside0.mk ((by rw [hg]; exact (below_size (by repeat (first | (with_reducible first | exact HB.out | apply below_alloc | apply pw_below_drewN | apply below_drew1 | refine below_set ?_ GE270.out | refine below_set ?_ GE271.out | refine below_set ?_ GE289.out | refine below_set ?_ GE296.out) | exact HB.out))) : w.heap.size ≤ gb307))
        have n10_ := Aside0.mk ((by rw [hg]; exact (below_size (by repeat (first | (with_reducible first | exact HB.out | apply below_alloc | apply pw_below_drewN | apply below_drew1 | refine below_set ?_ GE270.out | refine below_set ?_ GE271.out | refine below_set ?_ GE289.out | refine below_set ?_ GE296.out) | exact HB.out))) : w.heap.size ≤ gb307))
        have n11_ := Aside0.mk ((by rw [hg]; exact Nat.ne_of_lt (blk_lt (g := gb270) (o := .cells #[.string a0_0, .int .i64 a0_1, .int .i64 a0_2, .slice A0_3 l0_3.length c0_3] 33 (0, 0)) (pkB BK270.out)) : gb270 ≠ gb307))
        have n12_ := Aside0.mk ((by rw [hg]; exact Nat.ne_of_gt (blk_lt (g := gb270) (o := .cells #[.string a0_0, .int .i64 a0_1, .int .i64 a0_2, .slice A0_3 l0_3.length c0_3] 33 (0, 0)) (pkB BK270.out)) : gb307 ≠ gb270))
        have n13_ := Aside0.mk ((by rw [hg]; exact Nat.ne_of_lt (blk_lt (g := gb271) (o := .cells #[.int .i64 a1_0, .int .i64 a1_1, .int .i64 a1_2] 26 (0, 0)) (pkB BK271.out)) : gb271 ≠ gb307))
        have n14_ := Aside0.mk ((by rw [hg]; exact Nat.ne_of_gt (blk_lt (g := gb271) (o := .cells #[.int .i64 a1_0, .int .i64 a1_1, .int .i64 a1_2] 26 (0, 0)) (pkB BK271.out)) : gb307 ≠ gb271))
        have n15_ := Aside0.mk ((by rw [hg]; exact Nat.ne_of_lt (blk_lt (g := gb289) (o := .cells #[.string t282, .int .i64 t283, .int .i64 t284, v286] 38 (0, 0)) (pkB BK289.out)) : gb289 ≠ gb307))
        have n16_ := Aside0.mk ((by rw [hg]; exact Nat.ne_of_gt (blk_lt (g := gb289) (o := .cells #[.string t282, .int .i64 t283, .int .i64 t284, v286] 38 (0, 0)) (pkB BK289.out)) : gb307 ≠ gb289))
        have n17_ := Aside0.mk ((by rw [hg]; exact Nat.ne_of_lt (blk_lt (g := gb296) (o := .cells #[.string t290, .int .i64 t291, .int .i64 t292, .slice Ao64 t293.length co64] 38 (0, 0)) (pkB BK296.out)) : gb296 ≠ gb307))
        have n18_ := Aside0.mk ((by rw [hg]; exact Nat.ne_of_gt (blk_lt (g := gb296) (o := .cells #[.string t290, .int .i64 t291, .int .i64 t292, .slice Ao64 t293.length co64] 38 (0, 0)) (pkB BK296.out)) : gb307 ≠ gb296))
        have z_HO278 := fun (h0_ : b 3 = false) => (show Kd.R k28 28 w67 w.heap.size (fun k_ => some k_ ≠ (v286 : Value).ownBlock ∧ some k_ ≠ (.slice Ao64 t293.length co64 : Value).ownBlock) v277 t276 from by first | exact (Kd.R_below (by (with_reducible repeat (first | apply Kd.R_alloc | apply Kd.R_drewN | apply Kd.R_drew)); exact (Q_HO278 h0_)) hb) | exact Kd.R_mono (Kd.R_below (by (with_reducible repeat (first | apply Kd.R_alloc | apply Kd.R_drewN | apply Kd.R_drew)); exact (Q_HO278 h0_)) hb) (fun _ h_ => by first | trivial | exact h_ | exact h_.1))
        have z_HO287 := fun (h0_ : b 3 = false) => (show Kd.R k28 28 w67 w.heap.size (fun k_ => some k_ ≠ (v277 : Value).ownBlock ∧ some k_ ≠ (.slice Ao64 t293.length co64 : Value).ownBlock) v286 t285 from by first | exact (Kd.R_below (by (with_reducible repeat (first | apply Kd.R_alloc | apply Kd.R_drewN | apply Kd.R_drew)); exact (Q_HO287 h0_)) hb) | exact Kd.R_mono (Kd.R_below (by (with_reducible repeat (first | apply Kd.R_alloc | apply Kd.R_drewN | apply Kd.R_drew)); exact (Q_HO287 h0_)) hb) (fun _ h_ => by first | trivial | exact h_ | exact h_.1))
        have z_HO295 := fun (h0_ : b 3 = false) => (show Kd.R k28 28 w67 w.heap.size (fun k_ => some k_ ≠ (v277 : Value).ownBlock ∧ some k_ ≠ (v286 : Value).ownBlock) (.slice Ao64 t293.length co64) t293 from by first | exact (Kd.R_below (by (with_reducible repeat (first | apply Kd.R_alloc | apply Kd.R_drewN | apply Kd.R_drew)); exact (Q_HO295 h0_)) hb) | exact Kd.R_mono (Kd.R_below (by (with_reducible repeat (first | apply Kd.R_alloc | apply Kd.R_drewN | apply Kd.R_drew)); exact (Q_HO295 h0_)) hb) (fun _ h_ => by first | trivial | exact h_ | exact h_.1))
        have z_HO278_e3 := fun (h0_ : b 3 = true) => (show Kd.R k28 28 w67 w.heap.size (fun k_ => some k_ ≠ (v286 : Value).ownBlock ∧ some k_ ≠ (.slice Ao64 t293.length co64 : Value).ownBlock ∧ some k_ ≠ (v304 : Value).ownBlock) v277 t276 from by first | exact (Kd.R_below (by (with_reducible repeat (first | apply Kd.R_alloc | apply Kd.R_drewN | apply Kd.R_drew)); exact (Q_HO278_e3 h0_)) hb) | exact Kd.R_mono (Kd.R_below (by (with_reducible repeat (first | apply Kd.R_alloc | apply Kd.R_drewN | apply Kd.R_drew)); exact (Q_HO278_e3 h0_)) hb) (fun _ h_ => by first | trivial | exact h_ | exact h_.1))
        have z_HO287_e3 := fun (h0_ : b 3 = true) => (show Kd.R k28 28 w67 w.heap.size (fun k_ => some k_ ≠ (v277 : Value).ownBlock ∧ some k_ ≠ (.slice Ao64 t293.length co64 : Value).ownBlock ∧ some k_ ≠ (v304 : Value).ownBlock) v286 t285 from by first | exact (Kd.R_below (by (with_reducible repeat (first | apply Kd.R_alloc | apply Kd.R_drewN | apply Kd.R_drew)); exact (Q_HO287_e3 h0_)) hb) | exact Kd.R_mono (Kd.R_below (by (with_reducible repeat (first | apply Kd.R_alloc | apply Kd.R_drewN | apply Kd.R_drew)); exact (Q_HO287_e3 h0_)) hb) (fun _ h_ => by first | trivial | exact h_ | exact h_.1))
        have z_HO295_e3 := fun (h0_ : b 3 = true) => (show Kd.R k28 28 w67 w.heap.size (fun k_ => some k_ ≠ (v277 : Value).ownBlock ∧ some k_ ≠ (v286 : Value).ownBlock ∧ some k_ ≠ (v304 : Value).ownBlock) (.slice Ao64 t293.length co64) t293 from by first | exact (Kd.R_below (by (with_reducible repeat (first | apply Kd.R_alloc | apply Kd.R_drewN | apply Kd.R_drew)); exact (Q_HO295_e3 h0_)) hb) | exact Kd.R_mono (Kd.R_below (by (with_reducible repeat (first | apply Kd.R_alloc | apply Kd.R_drewN | apply Kd.R_drew)); exact (Q_HO295_e3 h0_)) hb) (fun _ h_ => by first | trivial | exact h_ | exact h_.1))
        have z_HO305 := fun (h0_ : b 3 = true) => (show Kd.R k28 28 w67 w.heap.size (fun k_ => some k_ ≠ (v277 : Value).ownBlock ∧ some k_ ≠ (v286 : Value).ownBlock ∧ some k_ ≠ (.slice Ao64 t293.length co64 : Value).ownBlock) v304 t303 from by first | exact (Kd.R_below (by (with_reducible repeat (first | apply Kd.R_alloc | apply Kd.R_drewN | apply Kd.R_drew)); exact (Q_HO305 h0_)) hb) | exact Kd.R_mono (Kd.R_below (by (with_reducible repeat (first | apply Kd.R_alloc | apply Kd.R_drewN | apply Kd.R_drew)); exact (Q_HO305 h0_)) hb) (fun _ h_ => by first | trivial | exact h_ | exact h_.1))
        clear BK270
        clear BK271
        clear BK289
        clear BK296
        clear HB
        have BK270 := n3_
        have BK271 := n4_
        have BK289 := n5_
        have BK296 := n6_
        have HB := n7_
        have BK307 := n8_
        have GW307 := n9_
        have GE307 := n10_
        have NB270_307 := n11_
        have NB307_270 := n12_
        have NB271_307 := n13_
        have NB307_271 := n14_
        have NB289_307 := n15_
        have NB307_289 := n16_
        have NB296_307 := n17_
        have NB307_296 := n18_
        clear n3_ n4_ n5_ n6_ n7_ n8_ n9_ n10_ n11_ n12_ n13_ n14_ n15_ n16_ n17_ n18_
        clear hb hbox hg
        refine hK.out _ _ ⟨v304, gb307, m3_, m4_, m5_, (.pointer (some ⟨gb307, 0, none⟩)), (by rw [ha.out]; exact putSel_upk 7 hb_ rfl rfl rfl), z_HO278, z_HO287, z_HO295, (pkB BK270.out), (pkB BK271.out), (pkB BK289.out), (pkB BK296.out), (by repeat (first | (with_reducible first | exact HB.out | apply below_alloc | apply pw_below_drewN | apply below_drew1 | refine below_set ?_ GE270.out | refine below_set ?_ GE271.out | refine below_set ?_ GE289.out | refine below_set ?_ GE296.out | refine below_set ?_ GE307.out) | exact HB.out)), z_HO278_e3, z_HO287_e3, z_HO295_e3, z_HO305, fun _ _ => (pkB BK307.out), fun _ => GW307.out, fun _ => GE307.out, fun _ => NB270_307.out, fun _ => NB307_270.out, fun _ => NB271_307.out, fun _ => NB307_271.out, fun _ => NB289_307.out, fun _ => NB307_289.out, fun _ => NB296_307.out, fun _ => NB307_296.out, fun h0_ => absurd ((hoff 8 (by kernel_rfl)).symm.trans h0_) (by decide), Q_X3_, Q_X4_, Q_X5_, fun _ => rfl⟩
      refine steps_cons ?_ ?_
      · rintro b a w' ⟨v304, gb307, m3_, m4_, m5_, m7_, ha, Q_HO278, Q_HO287, Q_HO295, Q_BK270, Q_BK271, Q_BK289, Q_BK296, Q_HB, Q_HO278_e3, Q_HO287_e3, Q_HO295_e3, Q_HO305, Q_BK307, Q_GW307, Q_GE307, Q_NB270_307, Q_NB307_270, Q_NB271_307, Q_NB307_271, Q_NB289_307, Q_NB307_289, Q_NB296_307, Q_NB307_296, Q_BK307_e8, Q_X3_, Q_X4_, Q_X5_, Q_X7_⟩ hb_ hon hoff
        refine ⟨_, rfl, fun K hK => ?_⟩
        have e9 : a.tmps[9]? = some (m7_) := by rw [ha]; exact putSel_on (e := (7, 9, m7_)) 7 rfl rfl (hon 7 (by kernel_rfl)) rfl
        rw [Q_X7_ (hon 7 (by kernel_rfl))] at e9
        have e36 : a.tmps[36]? = some (m5_) := by rw [ha]; exact putSel_on (e := (5, 36, m5_)) 5 rfl rfl (hon 5 (by kernel_rfl)) rfl
        rw [Q_X5_ (hon 5 (by kernel_rfl))] at e36
        replace ha := Aside0.mk ha
        have BK270 := Aside0.mk Q_BK270
        have BK271 := Aside0.mk Q_BK271
        have BK289 := Aside0.mk Q_BK289
        have BK296 := Aside0.mk Q_BK296
        have HB := Aside0.mk Q_HB
        have HO278 := Aside0.mk (Q_HO278_e3 (hon 3 (by kernel_rfl)))
        have HO287 := Aside0.mk (Q_HO287_e3 (hon 3 (by kernel_rfl)))
        have HO295 := Aside0.mk (Q_HO295_e3 (hon 3 (by kernel_rfl)))
        have HO305 := Aside0.mk (Q_HO305 (hon 3 (by kernel_rfl)))
        have BK307 := Aside0.mk (Q_BK307 (hon 7 (by kernel_rfl)) hb_)
        have GW307 := Aside0.mk (Q_GW307 (hon 7 (by kernel_rfl)))
        have GE307 := Aside0.mk (Q_GE307 (hon 7 (by kernel_rfl)))
        have NB270_307 := Aside0.mk (Q_NB270_307 (hon 7 (by kernel_rfl)))
        have NB307_270 := Aside0.mk (Q_NB307_270 (hon 7 (by kernel_rfl)))
        have NB271_307 := Aside0.mk (Q_NB271_307 (hon 7 (by kernel_rfl)))
        have NB307_271 := Aside0.mk (Q_NB307_271 (hon 7 (by kernel_rfl)))
        have NB289_307 := Aside0.mk (Q_NB289_307 (hon 7 (by kernel_rfl)))
        have NB307_289 := Aside0.mk (Q_NB307_289 (hon 7 (by kernel_rfl)))
        have NB296_307 := Aside0.mk (Q_NB296_307 (hon 7 (by kernel_rfl)))
        have NB307_296 := Aside0.mk (Q_NB307_296 (hon 7 (by kernel_rfl)))
        obtain ⟨Ao74, co74, eo74⟩ := Kd.R_slice HO305.out
        (first | subst eo74 | (injection eo74 with f1_ f2_ f3_; have f4_ := f1_.symm; have f5_ := f3_.symm; clear f1_ f2_ f3_; subst f4_; subst f5_))
        have hs71 : w'.cell? ⟨gb307, 0, none⟩ = some (.string (⟨#[]⟩ : ByteArray)) := (blk_cell BK307.out 0).trans rfl
        have hfs71 := blk_frozen BK307.out 0
        have hns71_0 := NB270_307.out
        have hns71_1 := NB271_307.out
        have hns71_2 := NB289_307.out
        have hns71_3 := NB296_307.out
        have hms71_0 := NB307_270.out
        have hms71_1 := NB307_271.out
        have hms71_2 := NB307_289.out
        have hms71_3 := NB307_296.out
        have hs72 : w'.cell? ⟨gb307, 1, none⟩ = some (.int .i64 0) := (blk_cell BK307.out 1).trans rfl
        have hfs72 := blk_frozen BK307.out 1
        have hns72_0 := NB270_307.out
        have hns72_1 := NB271_307.out
        have hns72_2 := NB289_307.out
        have hns72_3 := NB296_307.out
        have hms72_0 := NB307_270.out
        have hms72_1 := NB307_271.out
        have hms72_2 := NB307_289.out
        have hms72_3 := NB307_296.out
        have hs73 : w'.cell? ⟨gb307, 2, none⟩ = some (.int .i64 0) := (blk_cell BK307.out 2).trans rfl
        have hfs73 := blk_frozen BK307.out 2
        have hns73_0 := NB270_307.out
        have hns73_1 := NB271_307.out
        have hns73_2 := NB289_307.out
        have hns73_3 := NB296_307.out
        have hms73_0 := NB307_270.out
        have hms73_1 := NB307_271.out
        have hms73_2 := NB307_289.out
        have hms73_3 := NB307_296.out
        have hs75 : w'.cell? ⟨gb307, 3, none⟩ = some (.slice none 0 0) := (blk_cell BK307.out 3).trans rfl
        have hfs75 := blk_frozen BK307.out 3
        have hns75_0 := NB270_307.out
        have hns75_1 := NB271_307.out
        have hns75_2 := NB289_307.out
        have hns75_3 := NB296_307.out
        have hms75_0 := NB307_270.out
        have hms75_1 := NB307_271.out
        have hms75_2 := NB307_289.out
        have hms75_3 := NB307_296.out
        refine skip_ (w1 := ?_) (by rfl) rfl ?_ ?_
        rotate_left
        · go_simp
          rfl
        refine hK.out _ _ ⟨.slice Ao74 t303.length co74, gb307, m3_, m4_, m5_, m7_, (by rw [ha.out]; exact putSel_none (v := undef) rfl), fun h0_ => absurd ((hon 3 (by kernel_rfl)).symm.trans h0_) (by decide), fun h0_ => absurd ((hon 3 (by kernel_rfl)).symm.trans h0_) (by decide), fun h0_ => absurd ((hon 3 (by kernel_rfl)).symm.trans h0_) (by decide), (by (with_reducible repeat (first | refine blk_drewN ?_ _ | refine blk_drew ?_ | refine blk_alloc ?_ _)); refine blk_far ?_ NB270_307.out _; (with_reducible repeat (first | refine blk_drewN ?_ _ | refine blk_drew ?_ | refine blk_alloc ?_ _)); refine blk_far ?_ NB270_307.out _; (with_reducible repeat (first | refine blk_drewN ?_ _ | refine blk_drew ?_ | refine blk_alloc ?_ _)); refine blk_far ?_ NB270_307.out _; (with_reducible repeat (first | refine blk_drewN ?_ _ | refine blk_drew ?_ | refine blk_alloc ?_ _)); refine blk_far ?_ NB270_307.out _; (with_reducible repeat (first | refine blk_drewN ?_ _ | refine blk_drew ?_ | refine blk_alloc ?_ _)); exact BK270.out), (by (with_reducible repeat (first | refine blk_drewN ?_ _ | refine blk_drew ?_ | refine blk_alloc ?_ _)); refine blk_far ?_ NB271_307.out _; (with_reducible repeat (first | refine blk_drewN ?_ _ | refine blk_drew ?_ | refine blk_alloc ?_ _)); refine blk_far ?_ NB271_307.out _; (with_reducible repeat (first | refine blk_drewN ?_ _ | refine blk_drew ?_ | refine blk_alloc ?_ _)); refine blk_far ?_ NB271_307.out _; (with_reducible repeat (first | refine blk_drewN ?_ _ | refine blk_drew ?_ | refine blk_alloc ?_ _)); refine blk_far ?_ NB271_307.out _; (with_reducible repeat (first | refine blk_drewN ?_ _ | refine blk_drew ?_ | refine blk_alloc ?_ _)); exact BK271.out), (by (with_reducible repeat (first | refine blk_drewN ?_ _ | refine blk_drew ?_ | refine blk_alloc ?_ _)); refine blk_far ?_ NB289_307.out _; (with_reducible repeat (first | refine blk_drewN ?_ _ | refine blk_drew ?_ | refine blk_alloc ?_ _)); refine blk_far ?_ NB289_307.out _; (with_reducible repeat (first | refine blk_drewN ?_ _ | refine blk_drew ?_ | refine blk_alloc ?_ _)); refine blk_far ?_ NB289_307.out _; (with_reducible repeat (first | refine blk_drewN ?_ _ | refine blk_drew ?_ | refine blk_alloc ?_ _)); refine blk_far ?_ NB289_307.out _; (with_reducible repeat (first | refine blk_drewN ?_ _ | refine blk_drew ?_ | refine blk_alloc ?_ _)); exact BK289.out), (by (with_reducible repeat (first | refine blk_drewN ?_ _ | refine blk_drew ?_ | refine blk_alloc ?_ _)); refine blk_far ?_ NB296_307.out _; (with_reducible repeat (first | refine blk_drewN ?_ _ | refine blk_drew ?_ | refine blk_alloc ?_ _)); refine blk_far ?_ NB296_307.out _; (with_reducible repeat (first | refine blk_drewN ?_ _ | refine blk_drew ?_ | refine blk_alloc ?_ _)); refine blk_far ?_ NB296_307.out _; (with_reducible repeat (first | refine blk_drewN ?_ _ | refine blk_drew ?_ | refine blk_alloc ?_ _)); refine blk_far ?_ NB296_307.out _; (with_reducible repeat (first | refine blk_drewN ?_ _ | refine blk_drew ?_ | refine blk_alloc ?_ _)); exact BK296.out), (by repeat (first | (with_reducible first | exact HB.out | apply below_alloc | apply pw_below_drewN | apply below_drew1 | refine below_set ?_ GE270.out | refine below_set ?_ GE271.out | refine below_set ?_ GE289.out | refine below_set ?_ GE296.out | refine below_set ?_ GE307.out) | exact HB.out)), fun _ => (by (with_reducible repeat (first | apply Kd.R_alloc | apply Kd.R_drewN | apply Kd.R_drew)); exact Kd.R_mono (Kd.R_far (p := ⟨gb307, 3, none⟩) (Kd.R_far (p := ⟨gb307, 2, none⟩) (Kd.R_far (p := ⟨gb307, 1, none⟩) (Kd.R_far (p := ⟨gb307, 0, none⟩) (Kd.R_types HO278.out BK307.out (by decide)) (fun _ hk => hk.2) (.string t300)) (fun _ hk => hk.2) (.int .i64 t301)) (fun _ hk => hk.2) (.int .i64 t302)) (fun _ hk => hk.2) (.slice Ao74 t303.length co74)) (by first | exact (fun _ hk => ⟨hk.1.1, ⟨hk.1.2.1, hk.1.2.2⟩⟩) | (intro _ hk; simp_all))), fun _ => (by (with_reducible repeat (first | apply Kd.R_alloc | apply Kd.R_drewN | apply Kd.R_drew)); exact Kd.R_mono (Kd.R_far (p := ⟨gb307, 3, none⟩) (Kd.R_far (p := ⟨gb307, 2, none⟩) (Kd.R_far (p := ⟨gb307, 1, none⟩) (Kd.R_far (p := ⟨gb307, 0, none⟩) (Kd.R_types HO287.out BK307.out (by decide)) (fun _ hk => hk.2) (.string t300)) (fun _ hk => hk.2) (.int .i64 t301)) (fun _ hk => hk.2) (.int .i64 t302)) (fun _ hk => hk.2) (.slice Ao74 t303.length co74)) (by first | exact (fun _ hk => ⟨hk.1.1, ⟨hk.1.2.1, hk.1.2.2⟩⟩) | (intro _ hk; simp_all))), fun _ => (by (with_reducible repeat (first | apply Kd.R_alloc | apply Kd.R_drewN | apply Kd.R_drew)); exact Kd.R_mono (Kd.R_far (p := ⟨gb307, 3, none⟩) (Kd.R_far (p := ⟨gb307, 2, none⟩) (Kd.R_far (p := ⟨gb307, 1, none⟩) (Kd.R_far (p := ⟨gb307, 0, none⟩) (Kd.R_types HO295.out BK307.out (by decide)) (fun _ hk => hk.2) (.string t300)) (fun _ hk => hk.2) (.int .i64 t301)) (fun _ hk => hk.2) (.int .i64 t302)) (fun _ hk => hk.2) (.slice Ao74 t303.length co74)) (by first | exact (fun _ hk => ⟨hk.1.1, ⟨hk.1.2.1, hk.1.2.2⟩⟩) | (intro _ hk; simp_all))), fun _ => (by (with_reducible repeat (first | apply Kd.R_alloc | apply Kd.R_drewN | apply Kd.R_drew)); exact Kd.R_mono (Kd.R_far (p := ⟨gb307, 3, none⟩) (Kd.R_far (p := ⟨gb307, 2, none⟩) (Kd.R_far (p := ⟨gb307, 1, none⟩) (Kd.R_far (p := ⟨gb307, 0, none⟩) (Kd.R_types HO305.out BK307.out (by decide)) (fun _ hk => hk.2) (.string t300)) (fun _ hk => hk.2) (.int .i64 t301)) (fun _ hk => hk.2) (.int .i64 t302)) (fun _ hk => hk.2) (.slice Ao74 t303.length co74)) (by first | exact (fun _ hk => ⟨hk.1.1, ⟨hk.1.2.1, hk.1.2.2⟩⟩) | (intro _ hk; simp_all))), fun _ h1_ => absurd ((up_self b 8).symm.trans h1_) (by decide), fun _ => GW307.out, fun _ => GE307.out, fun _ => NB270_307.out, fun _ => NB307_270.out, fun _ => NB271_307.out, fun _ => NB307_271.out, fun _ => NB289_307.out, fun _ => NB307_289.out, fun _ => NB296_307.out, fun _ => NB307_296.out, fun _ => (by (with_reducible repeat (first | refine blk_drewN ?_ _ | refine blk_drew ?_ | refine blk_alloc ?_ _)); refine blk_put (cs := #[.string t300, .int .i64 t301, .int .i64 t302, .slice none 0 0]) ?_ 3 _ rfl; (with_reducible repeat (first | refine blk_drewN ?_ _ | refine blk_drew ?_ | refine blk_alloc ?_ _)); refine blk_put (cs := #[.string t300, .int .i64 t301, .int .i64 0, .slice none 0 0]) ?_ 2 _ rfl; (with_reducible repeat (first | refine blk_drewN ?_ _ | refine blk_drew ?_ | refine blk_alloc ?_ _)); refine blk_put (cs := #[.string t300, .int .i64 0, .int .i64 0, .slice none 0 0]) ?_ 1 _ rfl; (with_reducible repeat (first | refine blk_drewN ?_ _ | refine blk_drew ?_ | refine blk_alloc ?_ _)); refine blk_put (cs := #[.string (⟨#[]⟩ : ByteArray), .int .i64 0, .int .i64 0, .slice none 0 0]) ?_ 0 _ rfl; (with_reducible repeat (first | refine blk_drewN ?_ _ | refine blk_drew ?_ | refine blk_alloc ?_ _)); exact BK307.out), Q_X3_, Q_X4_, Q_X5_, Q_X7_⟩
      refine steps_cons ?_ ?_
      · rintro b a w' ⟨v304, gb307, m3_, m4_, m5_, m7_, ha, Q_HO278, Q_HO287, Q_HO295, Q_BK270, Q_BK271, Q_BK289, Q_BK296, Q_HB, Q_HO278_e3, Q_HO287_e3, Q_HO295_e3, Q_HO305, Q_BK307, Q_GW307, Q_GE307, Q_NB270_307, Q_NB307_270, Q_NB271_307, Q_NB307_271, Q_NB289_307, Q_NB307_289, Q_NB296_307, Q_NB307_296, Q_BK307_e8, Q_X3_, Q_X4_, Q_X5_, Q_X7_⟩ hb_ hon hoff
        refine ⟨_, rfl, fun K hK => ?_⟩
        have e37 : a.tmps[37]? = some (.bool t306) := by rw [ha]; exact putSel_on (e := (6, 37, .bool t306)) 6 rfl rfl (hon 6 (by kernel_rfl)) rfl
        replace ha := Aside0.mk ha
        have BK270 := Aside0.mk Q_BK270
        have BK271 := Aside0.mk Q_BK271
        have BK289 := Aside0.mk Q_BK289
        have BK296 := Aside0.mk Q_BK296
        have HB := Aside0.mk Q_HB
        have HO278 := Aside0.mk (Q_HO278_e3 (hon 3 (by kernel_rfl)))
        have HO287 := Aside0.mk (Q_HO287_e3 (hon 3 (by kernel_rfl)))
        have HO295 := Aside0.mk (Q_HO295_e3 (hon 3 (by kernel_rfl)))
        have HO305 := Aside0.mk (Q_HO305 (hon 3 (by kernel_rfl)))
        have GW307 := Aside0.mk (Q_GW307 (hon 7 (by kernel_rfl)))
        have GE307 := Aside0.mk (Q_GE307 (hon 7 (by kernel_rfl)))
        have NB270_307 := Aside0.mk (Q_NB270_307 (hon 7 (by kernel_rfl)))
        have NB307_270 := Aside0.mk (Q_NB307_270 (hon 7 (by kernel_rfl)))
        have NB271_307 := Aside0.mk (Q_NB271_307 (hon 7 (by kernel_rfl)))
        have NB307_271 := Aside0.mk (Q_NB307_271 (hon 7 (by kernel_rfl)))
        have NB289_307 := Aside0.mk (Q_NB289_307 (hon 7 (by kernel_rfl)))
        have NB307_289 := Aside0.mk (Q_NB307_289 (hon 7 (by kernel_rfl)))
        have NB296_307 := Aside0.mk (Q_NB296_307 (hon 7 (by kernel_rfl)))
        have NB307_296 := Aside0.mk (Q_NB307_296 (hon 7 (by kernel_rfl)))
        have BK307 := Aside0.mk (Q_BK307_e8 (hon 8 (by kernel_rfl)))
        refine value_ (w1 := w') (v := .bool t306) (by rfl) rfl ?_ ?_
        · go_simp
          (try simp only [i64_w])
          try rfl
        refine hK.out _ _ ⟨v304, gb307, m3_, m4_, m5_, m7_, (by rw [ha.out]; exact putSel_upk 8 hb_ rfl rfl rfl), fun h0_ => absurd ((hon 3 (by kernel_rfl)).symm.trans h0_) (by decide), fun h0_ => absurd ((hon 3 (by kernel_rfl)).symm.trans h0_) (by decide), fun h0_ => absurd ((hon 3 (by kernel_rfl)).symm.trans h0_) (by decide), Q_BK270, Q_BK271, Q_BK289, Q_BK296, Q_HB, Q_HO278_e3, Q_HO287_e3, Q_HO295_e3, Q_HO305, fun _ h1_ => absurd ((hon 8 (by kernel_rfl)).symm.trans h1_) (by decide), Q_GW307, Q_GE307, Q_NB270_307, Q_NB307_270, Q_NB271_307, Q_NB307_271, Q_NB289_307, Q_NB307_289, Q_NB296_307, Q_NB307_296, Q_BK307_e8, Q_X3_, Q_X4_, Q_X5_, Q_X7_⟩
      exact steps_nil
    rintro b a w75 hall ⟨v304, gb307, m3_, m4_, m5_, m7_, ha, Q_HO278, Q_HO287, Q_HO295, Q_BK270, Q_BK271, Q_BK289, Q_BK296, Q_HB, Q_HO278_e3, Q_HO287_e3, Q_HO295_e3, Q_HO305, Q_BK307, Q_GW307, Q_GE307, Q_NB270_307, Q_NB307_270, Q_NB271_307, Q_NB307_271, Q_NB289_307, Q_NB307_289, Q_NB296_307, Q_NB307_296, Q_BK307_e8, Q_X3_, Q_X4_, Q_X5_, Q_X7_⟩
    clear BK270 BK271 BK289 BK296 HB HO278 HO287 HO295
    have hb0_ := hall 0 (by kernel_rfl)
    have hb1_ := hall 1 (by kernel_rfl)
    have hb2_ := hall 2 (by kernel_rfl)
    have hb3_ := hall 3 (by kernel_rfl)
    have hb4_ := hall 4 (by kernel_rfl)
    have hb5_ := hall 5 (by kernel_rfl)
    have hb6_ := hall 6 (by kernel_rfl)
    have hb7_ := hall 7 (by kernel_rfl)
    have hb8_ := hall 8 (by kernel_rfl)
    have hb9_ := hall 9 (by kernel_rfl)
    subst ha
    obtain rfl := Q_X3_ hb3_
    obtain rfl := Q_X4_ hb4_
    obtain rfl := Q_X5_ hb5_
    obtain rfl := Q_X7_ hb7_
    simp only [putSel, hb0_, hb1_, hb2_, hb3_, hb4_, hb5_, hb6_, hb7_, hb8_, hb9_, if_true, Act.put, List.setIfInBounds_toArray, List.set_cons_zero, List.set_cons_succ]
    clear Q_HO278
    clear Q_HO287
    clear Q_HO295
    have BK270 := Aside0.mk Q_BK270
    clear Q_BK270
    have BK271 := Aside0.mk Q_BK271
    clear Q_BK271
    have BK289 := Aside0.mk Q_BK289
    clear Q_BK289
    have BK296 := Aside0.mk Q_BK296
    clear Q_BK296
    have HB := Aside0.mk Q_HB
    clear Q_HB
    have HO278 := Aside0.mk (Q_HO278_e3 hb3_)
    clear Q_HO278_e3
    have HO287 := Aside0.mk (Q_HO287_e3 hb3_)
    clear Q_HO287_e3
    have HO295 := Aside0.mk (Q_HO295_e3 hb3_)
    clear Q_HO295_e3
    have HO305 := Aside0.mk (Q_HO305 hb3_)
    clear Q_HO305
    clear Q_BK307
    have GW307 := Aside0.mk (Q_GW307 hb7_)
    clear Q_GW307
    have GE307 := Aside0.mk (Q_GE307 hb7_)
    clear Q_GE307
    have NB270_307 := Aside0.mk (Q_NB270_307 hb7_)
    clear Q_NB270_307
    have NB307_270 := Aside0.mk (Q_NB307_270 hb7_)
    clear Q_NB307_270
    have NB271_307 := Aside0.mk (Q_NB271_307 hb7_)
    clear Q_NB271_307
    have NB307_271 := Aside0.mk (Q_NB307_271 hb7_)
    clear Q_NB307_271
    have NB289_307 := Aside0.mk (Q_NB289_307 hb7_)
    clear Q_NB289_307
    have NB307_289 := Aside0.mk (Q_NB307_289 hb7_)
    clear Q_NB307_289
    have NB296_307 := Aside0.mk (Q_NB296_307 hb7_)
    clear Q_NB296_307
    have NB307_296 := Aside0.mk (Q_NB307_296 hb7_)
    clear Q_NB307_296
    have BK307 := Aside0.mk (Q_BK307_e8 hb8_)
    clear Q_BK307_e8
    clear hall hb0_ hb1_ hb2_ hb3_ hb4_ hb5_ hb6_ hb7_ hb8_ hb9_
    have hnb76 := NB307_270.out
    have hnc76 := NB270_307.out
    have hnb77 := NB307_271.out
    have hnc77 := NB271_307.out
    have hnb78 := NB307_289.out
    have hnc78 := NB289_307.out
    have hnb79 := NB307_296.out
    have hnc79 := NB296_307.out
    have hcz80_0 : w75.cell? ⟨gb307, 0, none⟩ = some (.string t300) := (blk_cell BK307.out 0).trans rfl
    have hcz80_1 : w75.cell? ⟨gb307, 1, none⟩ = some (.int .i64 t301) := (blk_cell BK307.out 1).trans rfl
    have hcz80_2 : w75.cell? ⟨gb307, 2, none⟩ = some (.int .i64 t302) := (blk_cell BK307.out 2).trans rfl
    have hcz80_3 : w75.cell? ⟨gb307, 3, none⟩ = some (v304) := (blk_cell BK307.out 3).trans rfl
    have hfz80_0 := blk_frozen BK307.out 0
    have hfz80_1 := blk_frozen BK307.out 1
    have hfz80_2 := blk_frozen BK307.out 2
    have hfz80_3 := blk_frozen BK307.out 3
    have hnb81 := NB289_271.out
    have hnc81 := NB271_289.out
    have hcz82_0 : w75.cell? ⟨gb289, 0, none⟩ = some (.string t282) := (blk_cell BK289.out 0).trans rfl
    have hcz82_1 : w75.cell? ⟨gb289, 1, none⟩ = some (.int .i64 t283) := (blk_cell BK289.out 1).trans rfl
    have hcz82_2 : w75.cell? ⟨gb289, 2, none⟩ = some (.int .i64 t284) := (blk_cell BK289.out 2).trans rfl
    have hcz82_3 : w75.cell? ⟨gb289, 3, none⟩ = some (v286) := (blk_cell BK289.out 3).trans rfl
    have hfz82_0 := blk_frozen BK289.out 0
    have hfz82_1 := blk_frozen BK289.out 1
    have hfz82_2 := blk_frozen BK289.out 2
    have hfz82_3 := blk_frozen BK289.out 3
    obtain ⟨Ao83, co83, eo83⟩ := Kd.R_slice HO305.out
    subst eo83
    obtain ⟨Ao84, co84, eo84⟩ := Kd.R_slice HO287.out
    subst eo84
    try go_wp2_with (first | ((with_reducible refine gate_callee (f := 29) rfl ?_); refine goesL_ (some 40) rfl rfl Tryd.func29 (by kernel_rfl) rfl #[.agg #[.string t300, .int .i64 t301, .int .i64 t302, .slice Ao83 t303.length co83], .agg #[.string t282, .int .i64 t283, .int .i64 t284, .slice Ao84 t285.length co84]] rfl (by (try simp only [List.map_toArray, List.map_cons, List.map_nil]); first | done | rfl | (simp only [List.length_drop, List.length_take]; rfl)) ?_; (with_reducible refine (laws_eqPuzzle.calls k t300 t301 t302 _ _ t303 t282 t283 t284 _ _ t285 true _ ?side1 ?side2 ?side3 ?side4 A16.out).mono ?_); (case side1 => repeat (first | exact (Kd.R_reads' HO305.out).2.2 | (with_reducible refine Kd.C_alloc ?_ _) | (with_reducible refine Kd.C_drewN ?_ _) | (with_reducible refine Kd.C_drew ?_))); (case side2 => exact (Kd.R_reads' HO305.out).2.1); (case side3 => repeat (first | exact (Kd.R_reads' HO287.out).2.2 | (with_reducible refine Kd.C_alloc ?_ _) | (with_reducible refine Kd.C_drewN ?_ _) | (with_reducible refine Kd.C_drew ?_))); (case side4 => exact (Kd.R_reads' HO287.out).2.1); rintro e w85 ⟨rfl, hb⟩; refine ⟨_, rfl, ?_⟩; have n0_ := Aside0.mk (Kd.R_below (pkR HO278.out) hb); have n1_ := Aside0.mk (Kd.R_below (pkR HO287.out) hb); have n2_ := Aside0.mk (Kd.R_below (pkR HO295.out) hb); have n3_ := Aside0.mk (Kd.R_below (pkR HO305.out) hb); have n4_ := Aside0.mk (blk_below (g := gb270) (o := .cells #[.string a0_0, .int .i64 a0_1, .int .i64 a0_2, .slice A0_3 l0_3.length c0_3] 33 (0, 0)) (pkB BK270.out) hb); have n5_ := Aside0.mk (blk_below (g := gb271) (o := .cells #[.int .i64 a1_0, .int .i64 a1_1, .int .i64 a1_2] 26 (0, 0)) (pkB BK271.out) hb); have n6_ := Aside0.mk (blk_below (g := gb289) (o := .cells #[.string t282, .int .i64 t283, .int .i64 t284, .slice Ao84 t285.length co84] 38 (0, 0)) (pkB BK289.out) hb); have n7_ := Aside0.mk (blk_below (g := gb296) (o := .cells #[.string t290, .int .i64 t291, .int .i64 t292, .slice Ao64 t293.length co64] 38 (0, 0)) (pkB BK296.out) hb); have n8_ := Aside0.mk (blk_below (g := gb307) (o := .cells #[.string t300, .int .i64 t301, .int .i64 t302, .slice Ao83 t303.length co83] 38 (0, 0)) (pkB BK307.out) hb); have n9_ := Aside0.mk (below_step (by repeat (first | (with_reducible first | exact HB.out | apply below_alloc | apply pw_below_drewN | apply below_drew1 | refine below_set ?_ GE270.out | refine below_set ?_ GE271.out | refine below_set ?_ GE289.out | refine below_set ?_ GE296.out | refine below_set ?_ GE307.out) | exact HB.out)) hb); clear HO278; clear HO287; clear HO295; clear HO305; clear BK270; clear BK271; clear BK289; clear BK296; clear BK307; clear HB; have HO278 := n0_; have HO287 := n1_; have HO295 := n2_; have HO305 := n3_; have BK270 := n4_; have BK271 := n5_; have BK289 := n6_; have BK296 := n7_; have BK307 := n8_; have HB := n9_; clear n0_ n1_ n2_ n3_ n4_ n5_ n6_ n7_ n8_ n9_; (try clear hb); (try clear hb2); (try clear hk); (try clear hi)))
    have n0_ := Aside0.mk (Kd.R_drew HO278.out)
    have n1_ := Aside0.mk (Kd.R_drew HO287.out)
    have n2_ := Aside0.mk (Kd.R_drew HO295.out)
    have n3_ := Aside0.mk (Kd.R_drew HO305.out)
    have n4_ := Aside0.mk (blk_drew BK270.out)
    have n5_ := Aside0.mk (blk_drew BK271.out)
    have n6_ := Aside0.mk (blk_drew BK289.out)
    have n7_ := Aside0.mk (blk_drew BK296.out)
    have n8_ := Aside0.mk (blk_drew BK307.out)
    have n9_ := Aside0.mk (below_drew1 HB.out)
    clear HO278
    clear HO287
    clear HO295
    clear HO305
    clear BK270
    clear BK271
    clear BK289
    clear BK296
    clear BK307
    clear HB
    have HO278 := n0_
    have HO287 := n1_
    have HO295 := n2_
    have HO305 := n3_
    have BK270 := n4_
    have BK271 := n5_
    have BK289 := n6_
    have BK296 := n7_
    have BK307 := n8_
    have HB := n9_
    clear n0_ n1_ n2_ n3_ n4_ n5_ n6_ n7_ n8_ n9_
    refine start_ (n := 5) (S := fun w' => w'.cell? ⟨gb296, 0, none⟩ = some (.string t290) ∧ w'.cell? ⟨gb296, 1, none⟩ = some (.int .i64 t291) ∧ w'.cell? ⟨gb296, 2, none⟩ = some (.int .i64 t292) ∧ w'.cell? ⟨gb296, 3, none⟩ = some (.slice Ao64 t293.length co64) ∧ w'.cell? ⟨gb270, 0, none⟩ = some (.string a0_0) ∧ w'.cell? ⟨gb270, 1, none⟩ = some (.int .i64 a0_1) ∧ w'.cell? ⟨gb270, 2, none⟩ = some (.int .i64 a0_2) ∧ w'.cell? ⟨gb270, 3, none⟩ = some (.slice A0_3 l0_3.length c0_3)) (ds := []) #[false, false, false, false, false] (by kernel_rfl) rfl rfl ⟨(blk_cell BK296.out 0).trans rfl, (blk_cell BK296.out 1).trans rfl, (blk_cell BK296.out 2).trans rfl, (blk_cell BK296.out 3).trans rfl, (blk_cell BK270.out 0).trans rfl, (blk_cell BK270.out 1).trans rfl, (blk_cell BK270.out 2).trans rfl, (blk_cell BK270.out 3).trans rfl⟩ (fun hHeld => ?_)
    generalize w85.drew = w86 at HO278 HO287 HO295 HO305 BK270 BK271 BK289 BK296 BK307 HB hHeld ⊢
    refine take_ (i := 0) (N := some 47) (v := ?_) (a' := ?_) #[true, false, false, false, false] rfl rfl (by kernel_rfl) (fun _ _ _ h => h) (Or.inl ⟨by rfl, ?_⟩) hHeld ?_ ?_
    rotate_left
    · rintro w' ⟨s0, s1, s2, s3, s4, s5, s6, s7⟩
      go_simp
      with_reducible rfl
    rotate_left
    · simp only [Act.put, List.setIfInBounds_toArray, List.set_cons_zero, List.set_cons_succ, i64_w, i32_w]
      rfl
    refine take_ (i := 1) (N := some 48) (v := ?_) (a' := ?_) #[true, true, false, false, false] rfl rfl (by kernel_rfl) (fun _ _ _ h => h) (Or.inl ⟨by rfl, ?_⟩) hHeld ?_ ?_
    rotate_left
    · rintro w' ⟨s0, s1, s2, s3, s4, s5, s6, s7⟩
      go_simp
      with_reducible rfl
    rotate_left
    · simp only [Act.put, List.setIfInBounds_toArray, List.set_cons_zero, List.set_cons_succ, i64_w, i32_w]
      rfl
    refine one_ (i := 2) (N := some 49) #[true, true, true, false, false] rfl rfl (by kernel_rfl) (by decide) (fun K hK => ?_)
    refine goes_ Tryd.func27 (by kernel_rfl) rfl #[.agg #[.string a0_0, .int .i64 a0_1, .int .i64 a0_2, .slice A0_3 l0_3.length c0_3]] (by rfl) rfl rfl (by (try simp only [List.map_toArray, List.map_cons, List.map_nil]); first | done | rfl | (simp only [List.length_drop, List.length_take]; rfl)) ?_
    with_reducible refine (laws_toPuzzle.calls k a0_0 a0_1 a0_2 _ _ l0_3 t309 t310 t311 t312 _ ?side1 ?side2 A19.out).mono ?_
    (case side1 => repeat (first | exact (Kd.C_below HR0_3.out HB.out) | (with_reducible refine Kd.C_alloc ?_ _) | (with_reducible refine Kd.C_drewN ?_ _) | (with_reducible refine Kd.C_drew ?_)))
    (case side2 => exact HC0_3.out)
    rintro e w87 ⟨v313, rfl, ho0, hb⟩
    refine ⟨_, rfl, ?_⟩
    have n0_ := Aside0.mk (Kd.R_elder' (pkR HO278.out) (Kd.R_base ho0) hb)
    have n1_ := Aside0.mk (Kd.R_elder' (pkR HO287.out) (Kd.R_base ho0) hb)
    have n2_ := Aside0.mk (Kd.R_elder' (pkR HO295.out) (Kd.R_base ho0) hb)
    have n3_ := Aside0.mk (Kd.R_elder' (pkR HO305.out) (Kd.R_base ho0) hb)
    have n4_ := Aside0.mk (Kd.R_lower (Kd.R_new' (Kd.R_new' (Kd.R_new' (Kd.R_new' ho0 (Kd.R_lt (pkR HO278.out))) (Kd.R_lt (pkR HO287.out))) (Kd.R_lt (pkR HO295.out))) (Kd.R_lt (pkR HO305.out))) (below_size (by repeat (first | (with_reducible first | exact HB.out | apply below_alloc | apply pw_below_drewN | apply below_drew1 | refine below_set ?_ GE270.out | refine below_set ?_ GE271.out | refine below_set ?_ GE289.out | refine below_set ?_ GE296.out | refine below_set ?_ GE307.out) | exact HB.out))))
    have n5_ := Aside0.mk (blk_below (g := gb270) (o := .cells #[.string a0_0, .int .i64 a0_1, .int .i64 a0_2, .slice A0_3 l0_3.length c0_3] 33 (0, 0)) (pkB BK270.out) hb)
    have n6_ := Aside0.mk (blk_below (g := gb271) (o := .cells #[.int .i64 a1_0, .int .i64 a1_1, .int .i64 a1_2] 26 (0, 0)) (pkB BK271.out) hb)
    have n7_ := Aside0.mk (blk_below (g := gb289) (o := .cells #[.string t282, .int .i64 t283, .int .i64 t284, .slice Ao84 t285.length co84] 38 (0, 0)) (pkB BK289.out) hb)
    have n8_ := Aside0.mk (blk_below (g := gb296) (o := .cells #[.string t290, .int .i64 t291, .int .i64 t292, .slice Ao64 t293.length co64] 38 (0, 0)) (pkB BK296.out) hb)
    have n9_ := Aside0.mk (blk_below (g := gb307) (o := .cells #[.string t300, .int .i64 t301, .int .i64 t302, .slice Ao83 t303.length co83] 38 (0, 0)) (pkB BK307.out) hb)
    have n10_ := Aside0.mk (below_step (by repeat (first | (with_reducible first | exact HB.out | apply below_alloc | apply pw_below_drewN | apply below_drew1 | refine below_set ?_ GE270.out | refine below_set ?_ GE271.out | refine below_set ?_ GE289.out | refine below_set ?_ GE296.out | refine below_set ?_ GE307.out) | exact HB.out)) hb)
    clear HO278
    clear HO287
    clear HO295
    clear HO305
    clear BK270
    clear BK271
    clear BK289
    clear BK296
    clear BK307
    clear HB
    have HO278 := n0_
    have HO287 := n1_
    have HO295 := n2_
    have HO305 := n3_
    have HO314 := n4_
    have BK270 := n5_
    have BK271 := n6_
    have BK289 := n7_
    have BK296 := n8_
    have BK307 := n9_
    have HB := n10_
    clear n0_ n1_ n2_ n3_ n4_ n5_ n6_ n7_ n8_ n9_ n10_
    (try clear hb)
    (try clear hb2)
    (try clear hk)
    (try clear hi)
    (try clear ho0)
    obtain ⟨Ao88, co88, eo88⟩ := Kd.R_slice HO314.out
    (first | subst eo88 | (injection eo88 with f1_ f2_ f3_; have f4_ := f1_.symm; have f5_ := f3_.symm; clear f1_ f2_ f3_; subst f4_; subst f5_))
    refine hK.out _ _ ⟨(blk_cell BK296.out 0).trans rfl, (blk_cell BK296.out 1).trans rfl, (blk_cell BK296.out 2).trans rfl, (blk_cell BK296.out 3).trans rfl, (blk_cell BK270.out 0).trans rfl, (blk_cell BK270.out 1).trans rfl, (blk_cell BK270.out 2).trans rfl, (blk_cell BK270.out 3).trans rfl⟩ (fun hHeld => ?_)
    clear hK K
    refine norm_ (a' := ?_) ?_ ?_
    rotate_left
    · show Act.put _ (some 49) _ = _
      simp only [Act.put, List.setIfInBounds_toArray, List.set_cons_zero, List.set_cons_succ, i64_w, i32_w]
      rfl
    refine one_ (i := 3) (N := some 50) #[true, true, true, true, false] rfl rfl (by kernel_rfl) (by decide) (fun K hK => ?_)
    refine goes_ Tryd.func29 (by kernel_rfl) rfl #[.agg #[.string t290, .int .i64 t291, .int .i64 t292, .slice Ao64 t293.length co64], .agg #[.string t309, .int .i64 t310, .int .i64 t311, .slice Ao88 t312.length co88]] (by rfl) rfl rfl (by (try simp only [List.map_toArray, List.map_cons, List.map_nil]); first | done | rfl | (simp only [List.length_drop, List.length_take]; rfl)) ?_
    with_reducible refine (laws_eqPuzzle.calls k t290 t291 t292 _ _ t293 t309 t310 t311 _ _ t312 true _ ?side1 ?side2 ?side3 ?side4 A20.out).mono ?_
    (case side1 => repeat (first | exact (Kd.R_reads' HO295.out).2.2 | (with_reducible refine Kd.C_alloc ?_ _) | (with_reducible refine Kd.C_drewN ?_ _) | (with_reducible refine Kd.C_drew ?_)))
    (case side2 => exact (Kd.R_reads' HO295.out).2.1)
    (case side3 => repeat (first | exact (Kd.R_reads' HO314.out).2.2 | (with_reducible refine Kd.C_alloc ?_ _) | (with_reducible refine Kd.C_drewN ?_ _) | (with_reducible refine Kd.C_drew ?_)))
    (case side4 => exact (Kd.R_reads' HO314.out).2.1)
    rintro e w89 ⟨rfl, hb⟩
    refine ⟨_, rfl, ?_⟩
    have n0_ := Aside0.mk (Kd.R_below (pkR HO278.out) hb)
    have n1_ := Aside0.mk (Kd.R_below (pkR HO287.out) hb)
    have n2_ := Aside0.mk (Kd.R_below (pkR HO295.out) hb)
    have n3_ := Aside0.mk (Kd.R_below (pkR HO305.out) hb)
    have n4_ := Aside0.mk (Kd.R_below (pkR HO314.out) hb)
    have n5_ := Aside0.mk (blk_below (g := gb270) (o := .cells #[.string a0_0, .int .i64 a0_1, .int .i64 a0_2, .slice A0_3 l0_3.length c0_3] 33 (0, 0)) (pkB BK270.out) hb)
    have n6_ := Aside0.mk (blk_below (g := gb271) (o := .cells #[.int .i64 a1_0, .int .i64 a1_1, .int .i64 a1_2] 26 (0, 0)) (pkB BK271.out) hb)
    have n7_ := Aside0.mk (blk_below (g := gb289) (o := .cells #[.string t282, .int .i64 t283, .int .i64 t284, .slice Ao84 t285.length co84] 38 (0, 0)) (pkB BK289.out) hb)
    have n8_ := Aside0.mk (blk_below (g := gb296) (o := .cells #[.string t290, .int .i64 t291, .int .i64 t292, .slice Ao64 t293.length co64] 38 (0, 0)) (pkB BK296.out) hb)
    have n9_ := Aside0.mk (blk_below (g := gb307) (o := .cells #[.string t300, .int .i64 t301, .int .i64 t302, .slice Ao83 t303.length co83] 38 (0, 0)) (pkB BK307.out) hb)
    have n10_ := Aside0.mk (below_step (by repeat (first | (with_reducible first | exact HB.out | apply below_alloc | apply pw_below_drewN | apply below_drew1 | refine below_set ?_ GE270.out | refine below_set ?_ GE271.out | refine below_set ?_ GE289.out | refine below_set ?_ GE296.out | refine below_set ?_ GE307.out) | exact HB.out)) hb)
    clear HO278
    clear HO287
    clear HO295
    clear HO305
    clear HO314
    clear BK270
    clear BK271
    clear BK289
    clear BK296
    clear BK307
    clear HB
    have HO278 := n0_
    have HO287 := n1_
    have HO295 := n2_
    have HO305 := n3_
    have HO314 := n4_
    have BK270 := n5_
    have BK271 := n6_
    have BK289 := n7_
    have BK296 := n8_
    have BK307 := n9_
    have HB := n10_
    clear n0_ n1_ n2_ n3_ n4_ n5_ n6_ n7_ n8_ n9_ n10_
    (try clear hb)
    (try clear hb2)
    (try clear hk)
    (try clear hi)
    refine hK.out _ _ ⟨(blk_cell BK296.out 0).trans rfl, (blk_cell BK296.out 1).trans rfl, (blk_cell BK296.out 2).trans rfl, (blk_cell BK296.out 3).trans rfl, (blk_cell BK270.out 0).trans rfl, (blk_cell BK270.out 1).trans rfl, (blk_cell BK270.out 2).trans rfl, (blk_cell BK270.out 3).trans rfl⟩ (fun hHeld => ?_)
    clear hK K
    refine norm_ (a' := ?_) ?_ ?_
    rotate_left
    · show Act.put _ (some 50) _ = _
      simp only [Act.put, List.setIfInBounds_toArray, List.set_cons_zero, List.set_cons_succ, i64_w, i32_w]
      rfl
    refine pure_ (i := 4) (N := some 51) (v := ?_) (a' := ?_) #[true, true, true, true, true] rfl rfl (by kernel_rfl) (fun _ _ _ h => h) (Or.inl ⟨by rfl, ?_⟩) ?_ ?_
    rotate_left
    · intro w'
      go_simp
      with_reducible rfl
    rotate_left
    · simp only [Act.put, List.setIfInBounds_toArray, List.set_cons_zero, List.set_cons_succ, i64_w, i32_w]
      rfl
    refine done_ (by kernel_rfl) ?_
    have hcz90_0 : w89.cell? ⟨gb296, 0, none⟩ = some (.string t290) := (blk_cell BK296.out 0).trans rfl
    have hcz90_1 : w89.cell? ⟨gb296, 1, none⟩ = some (.int .i64 t291) := (blk_cell BK296.out 1).trans rfl
    have hcz90_2 : w89.cell? ⟨gb296, 2, none⟩ = some (.int .i64 t292) := (blk_cell BK296.out 2).trans rfl
    have hcz90_3 : w89.cell? ⟨gb296, 3, none⟩ = some (.slice Ao64 t293.length co64) := (blk_cell BK296.out 3).trans rfl
    have hfz90_0 := blk_frozen BK296.out 0
    have hfz90_1 := blk_frozen BK296.out 1
    have hfz90_2 := blk_frozen BK296.out 2
    have hfz90_3 := blk_frozen BK296.out 3
    try go_wp2_with (first | ((with_reducible refine gate_callee (f := 32) rfl ?_); refine goesL_ (some 54) rfl rfl Tryd.func32 (by kernel_rfl) rfl #[.agg #[.string t290, .int .i64 t291, .int .i64 t292, .slice Ao64 t293.length co64], .int .i64 1] rfl (by (try simp only [List.map_toArray, List.map_cons, List.map_nil]); first | done | rfl | (simp only [List.length_drop, List.length_take]; rfl)) ?_; (with_reducible refine (laws_markPuzzle.calls k t290 t291 t292 (fun k_ => some k_ = (.slice Ao64 t293.length co64 : Value).ownBlock) (.slice Ao64 t293.length co64) t293 1 t316 t317 w _ ?side1 ?side2 A22.out).mono ?_); (case side1 => repeat (first | (with_reducible first | exact HB.out | apply below_alloc | apply pw_below_drewN | apply below_drew1 | refine below_set ?_ GE270.out | refine below_set ?_ GE271.out | refine below_set ?_ GE289.out | refine below_set ?_ GE296.out | refine below_set ?_ GE307.out) | exact HB.out)); (case side2 => exact Kd.R_tight rfl HO295.out); rintro e w91 ⟨rfl, hy0, hb, hkp⟩; refine ⟨_, rfl, ?_⟩; have n0_ := Aside0.mk (blk_kept (pkB BK270.out) hkp (fun hs_ => (fun e_ => (Kd.R_ne HO295.out BK270.out (by decide)) e_) hs_)); have n1_ := Aside0.mk (blk_kept (pkB BK271.out) hkp (fun hs_ => (fun e_ => (Kd.R_ne HO295.out BK271.out (by decide)) e_) hs_)); have n2_ := Aside0.mk (Kd.R_mono (ok' := fun k_ => some k_ ≠ (.slice Ao84 t285.length co84 : Value).ownBlock ∧ some k_ ≠ (.slice Ao64 t293.length co64 : Value).ownBlock ∧ some k_ ≠ (.slice Ao83 t303.length co83 : Value).ownBlock ∧ some k_ ≠ (.slice Ao88 t312.length co88 : Value).ownBlock) (Kd.R_keptB (HO278.out) hkp (fun k_ hk_ hs_ => (hk_.1.2.1) hs_)) (fun k_ hk_ => ⟨hk_.1.1.1, hk_.1.1.2.1, hk_.1.1.2.2, hk_.1.2⟩)); have n3_ := Aside0.mk (Kd.R_mono (ok' := fun k_ => some k_ ≠ (v277 : Value).ownBlock ∧ some k_ ≠ (.slice Ao64 t293.length co64 : Value).ownBlock ∧ some k_ ≠ (.slice Ao83 t303.length co83 : Value).ownBlock ∧ some k_ ≠ (.slice Ao88 t312.length co88 : Value).ownBlock) (Kd.R_keptB (HO287.out) hkp (fun k_ hk_ hs_ => (hk_.1.2.1) hs_)) (fun k_ hk_ => ⟨hk_.1.1.1, hk_.1.1.2.1, hk_.1.1.2.2, hk_.1.2⟩)); have n4_ := Aside0.mk (blk_kept (pkB BK289.out) hkp (fun hs_ => (fun e_ => (Kd.R_ne HO295.out BK289.out (by decide)) e_) hs_)); have n5_ := Aside0.mk (Kd.R_reok rfl hy0 (fun k_ e_ => HO295.out.1 k_ e_)); have n6_ := Aside0.mk (blk_kept (pkB BK296.out) hkp (fun hs_ => (fun e_ => (Kd.R_ne HO295.out BK296.out (by decide)) e_) hs_)); have n7_ := Aside0.mk (Kd.R_mono (ok' := fun k_ => some k_ ≠ (v277 : Value).ownBlock ∧ some k_ ≠ (.slice Ao84 t285.length co84 : Value).ownBlock ∧ some k_ ≠ (.slice Ao64 t293.length co64 : Value).ownBlock ∧ some k_ ≠ (.slice Ao88 t312.length co88 : Value).ownBlock) (Kd.R_keptB (HO305.out) hkp (fun k_ hk_ hs_ => (hk_.1.2.2) hs_)) (fun k_ hk_ => ⟨hk_.1.1.1, hk_.1.1.2.1, hk_.1.1.2.2, hk_.1.2⟩)); have n8_ := Aside0.mk (blk_kept (pkB BK307.out) hkp (fun hs_ => (fun e_ => (Kd.R_ne HO295.out BK307.out (by decide)) e_) hs_)); have n9_ := Aside0.mk (Kd.R_mono (ok' := fun k_ => some k_ ≠ (v277 : Value).ownBlock ∧ some k_ ≠ (.slice Ao84 t285.length co84 : Value).ownBlock ∧ some k_ ≠ (.slice Ao64 t293.length co64 : Value).ownBlock ∧ some k_ ≠ (.slice Ao83 t303.length co83 : Value).ownBlock) (Kd.R_keptB (HO314.out) hkp (fun k_ hk_ hs_ => (hk_.1.2) hs_)) (fun k_ hk_ => ⟨hk_.1.1.1.1.2, hk_.1.1.1.2, hk_.1.1.2, hk_.1.2⟩)); have n10_ := Aside0.mk (hb); clear BK270; clear BK271; clear HO278; clear HO287; clear BK289; clear HO295; clear BK296; clear HO305; clear BK307; clear HO314; clear HB; have BK270 := n0_; have BK271 := n1_; have HO278 := n2_; have HO287 := n3_; have BK289 := n4_; have HO295 := n5_; have BK296 := n6_; have HO305 := n7_; have BK307 := n8_; have HO314 := n9_; have HB := n10_; clear n0_ n1_ n2_ n3_ n4_ n5_ n6_ n7_ n8_ n9_ n10_; (try clear hb); (try clear hkp); (try clear hy0); have hcz92_0 : w91.cell? ⟨gb307, 0, none⟩ = some (.string t300) := (blk_cell BK307.out 0).trans rfl; have hcz92_1 : w91.cell? ⟨gb307, 1, none⟩ = some (.int .i64 t301) := (blk_cell BK307.out 1).trans rfl; have hcz92_2 : w91.cell? ⟨gb307, 2, none⟩ = some (.int .i64 t302) := (blk_cell BK307.out 2).trans rfl; have hcz92_3 : w91.cell? ⟨gb307, 3, none⟩ = some (.slice Ao83 t303.length co83) := (blk_cell BK307.out 3).trans rfl; have hfz92_0 := blk_frozen BK307.out 0; have hfz92_1 := blk_frozen BK307.out 1; have hfz92_2 := blk_frozen BK307.out 2; have hfz92_3 := blk_frozen BK307.out 3; have hcz93_0 : w91.cell? ⟨gb289, 0, none⟩ = some (.string t282) := (blk_cell BK289.out 0).trans rfl; have hcz93_1 : w91.cell? ⟨gb289, 1, none⟩ = some (.int .i64 t283) := (blk_cell BK289.out 1).trans rfl; have hcz93_2 : w91.cell? ⟨gb289, 2, none⟩ = some (.int .i64 t284) := (blk_cell BK289.out 2).trans rfl; have hcz93_3 : w91.cell? ⟨gb289, 3, none⟩ = some (.slice Ao84 t285.length co84) := (blk_cell BK289.out 3).trans rfl; have hfz93_0 := blk_frozen BK289.out 0; have hfz93_1 := blk_frozen BK289.out 1; have hfz93_2 := blk_frozen BK289.out 2; have hfz93_3 := blk_frozen BK289.out 3) | (go_at_call 29; (with_reducible refine (laws_eqPuzzle.calls k t300 t301 t302 _ _ t303 t282 t283 t284 _ _ t285 true _ ?side1 ?side2 ?side3 ?side4 A24.out).mono ?_); (case side1 => repeat (first | exact (Kd.R_reads' HO305.out).2.2 | (with_reducible refine Kd.C_alloc ?_ _) | (with_reducible refine Kd.C_drewN ?_ _) | (with_reducible refine Kd.C_drew ?_))); (case side2 => exact (Kd.R_reads' HO305.out).2.1); (case side3 => repeat (first | exact (Kd.R_reads' HO287.out).2.2 | (with_reducible refine Kd.C_alloc ?_ _) | (with_reducible refine Kd.C_drewN ?_ _) | (with_reducible refine Kd.C_drew ?_))); (case side4 => exact (Kd.R_reads' HO287.out).2.1); rintro e w94 ⟨rfl, hb⟩; have n0_ := Aside0.mk (Kd.R_below (pkR HO278.out) hb); have n1_ := Aside0.mk (Kd.R_below (pkR HO287.out) hb); have n2_ := Aside0.mk (Kd.R_below (pkR HO295.out) hb); have n3_ := Aside0.mk (Kd.R_below (pkR HO305.out) hb); have n4_ := Aside0.mk (Kd.R_below (pkR HO314.out) hb); have n5_ := Aside0.mk (blk_below (g := gb270) (o := .cells #[.string a0_0, .int .i64 a0_1, .int .i64 a0_2, .slice A0_3 l0_3.length c0_3] 33 (0, 0)) (pkB BK270.out) hb); have n6_ := Aside0.mk (blk_below (g := gb271) (o := .cells #[.int .i64 a1_0, .int .i64 a1_1, .int .i64 a1_2] 26 (0, 0)) (pkB BK271.out) hb); have n7_ := Aside0.mk (blk_below (g := gb289) (o := .cells #[.string t282, .int .i64 t283, .int .i64 t284, .slice Ao84 t285.length co84] 38 (0, 0)) (pkB BK289.out) hb); have n8_ := Aside0.mk (blk_below (g := gb296) (o := .cells #[.string t290, .int .i64 t291, .int .i64 t292, .slice Ao64 t293.length co64] 38 (0, 0)) (pkB BK296.out) hb); have n9_ := Aside0.mk (blk_below (g := gb307) (o := .cells #[.string t300, .int .i64 t301, .int .i64 t302, .slice Ao83 t303.length co83] 38 (0, 0)) (pkB BK307.out) hb); have n10_ := Aside0.mk (below_step (by repeat (first | (with_reducible first | exact HB.out | apply below_alloc | apply pw_below_drewN | apply below_drew1 | refine below_set ?_ GE270.out | refine below_set ?_ GE271.out | refine below_set ?_ GE289.out | refine below_set ?_ GE296.out | refine below_set ?_ GE307.out) | exact HB.out)) hb); clear HO278; clear HO287; clear HO295; clear HO305; clear HO314; clear BK270; clear BK271; clear BK289; clear BK296; clear BK307; clear HB; have HO278 := n0_; have HO287 := n1_; have HO295 := n2_; have HO305 := n3_; have HO314 := n4_; have BK270 := n5_; have BK271 := n6_; have BK289 := n7_; have BK296 := n8_; have BK307 := n9_; have HB := n10_; clear n0_ n1_ n2_ n3_ n4_ n5_ n6_ n7_ n8_ n9_ n10_; (try clear hb); (try clear hb2); (try clear hk); (try clear hi); have hcz95_0 : w94.cell? ⟨gb307, 0, none⟩ = some (.string t300) := (blk_cell BK307.out 0).trans rfl; have hcz95_1 : w94.cell? ⟨gb307, 1, none⟩ = some (.int .i64 t301) := (blk_cell BK307.out 1).trans rfl; have hcz95_2 : w94.cell? ⟨gb307, 2, none⟩ = some (.int .i64 t302) := (blk_cell BK307.out 2).trans rfl; have hcz95_3 : w94.cell? ⟨gb307, 3, none⟩ = some (.slice Ao83 t303.length co83) := (blk_cell BK307.out 3).trans rfl; have hfz95_0 := blk_frozen BK307.out 0; have hfz95_1 := blk_frozen BK307.out 1; have hfz95_2 := blk_frozen BK307.out 2; have hfz95_3 := blk_frozen BK307.out 3) | ((with_reducible refine gate_callee (f := 32) rfl ?_); refine goesL_ (some 70) rfl rfl Tryd.func32 (by kernel_rfl) rfl #[.agg #[.string t300, .int .i64 t301, .int .i64 t302, .slice Ao83 t303.length co83], .int .i64 1] rfl (by (try simp only [List.map_toArray, List.map_cons, List.map_nil]); first | done | rfl | (simp only [List.length_drop, List.length_take]; rfl)) ?_; (with_reducible refine (laws_markPuzzle.calls k t300 t301 t302 (fun k_ => some k_ = (.slice Ao83 t303.length co83 : Value).ownBlock) (.slice Ao83 t303.length co83) t303 1 t319 t320 w _ ?side1 ?side2 A26.out).mono ?_); (case side1 => repeat (first | (with_reducible first | exact HB.out | apply below_alloc | apply pw_below_drewN | apply below_drew1 | refine below_set ?_ GE270.out | refine below_set ?_ GE271.out | refine below_set ?_ GE289.out | refine below_set ?_ GE296.out | refine below_set ?_ GE307.out) | exact HB.out)); (case side2 => exact Kd.R_tight rfl HO305.out); rintro e w96 ⟨rfl, hy0, hb, hkp⟩; refine ⟨_, rfl, ?_⟩; have n0_ := Aside0.mk (blk_kept (pkB BK270.out) hkp (fun hs_ => (fun e_ => (Kd.R_ne HO305.out BK270.out (by decide)) e_) hs_)); have n1_ := Aside0.mk (blk_kept (pkB BK271.out) hkp (fun hs_ => (fun e_ => (Kd.R_ne HO305.out BK271.out (by decide)) e_) hs_)); have n2_ := Aside0.mk (Kd.R_mono (ok' := fun k_ => some k_ ≠ (.slice Ao84 t285.length co84 : Value).ownBlock ∧ some k_ ≠ (.slice Ao64 t293.length co64 : Value).ownBlock ∧ some k_ ≠ (.slice Ao83 t303.length co83 : Value).ownBlock ∧ some k_ ≠ (.slice Ao88 t312.length co88 : Value).ownBlock) (Kd.R_keptB (HO278.out) hkp (fun k_ hk_ hs_ => (hk_.2.2.1) hs_)) (fun k_ hk_ => ⟨hk_.1.1, hk_.1.2.1, hk_.1.2.2.1, hk_.1.2.2.2⟩)); have n3_ := Aside0.mk (Kd.R_mono (ok' := fun k_ => some k_ ≠ (v277 : Value).ownBlock ∧ some k_ ≠ (.slice Ao64 t293.length co64 : Value).ownBlock ∧ some k_ ≠ (.slice Ao83 t303.length co83 : Value).ownBlock ∧ some k_ ≠ (.slice Ao88 t312.length co88 : Value).ownBlock) (Kd.R_keptB (HO287.out) hkp (fun k_ hk_ hs_ => (hk_.2.2.1) hs_)) (fun k_ hk_ => ⟨hk_.1.1, hk_.1.2.1, hk_.1.2.2.1, hk_.1.2.2.2⟩)); have n4_ := Aside0.mk (blk_kept (pkB BK289.out) hkp (fun hs_ => (fun e_ => (Kd.R_ne HO305.out BK289.out (by decide)) e_) hs_)); have n5_ := Aside0.mk (Kd.R_mono (ok' := fun k_ => some k_ ≠ (v277 : Value).ownBlock ∧ some k_ ≠ (.slice Ao84 t285.length co84 : Value).ownBlock ∧ some k_ ≠ (.slice Ao83 t303.length co83 : Value).ownBlock ∧ some k_ ≠ (.slice Ao88 t312.length co88 : Value).ownBlock) (Kd.R_keptB (HO295.out) hkp (fun k_ hk_ hs_ => (hk_.1.2.2) hs_)) (fun k_ hk_ => ⟨hk_.1.1.1, hk_.1.1.2.1, hk_.1.1.2.2, hk_.1.2⟩)); have n6_ := Aside0.mk (blk_kept (pkB BK296.out) hkp (fun hs_ => (fun e_ => (Kd.R_ne HO305.out BK296.out (by decide)) e_) hs_)); have n7_ := Aside0.mk (Kd.R_reok rfl hy0 (fun k_ e_ => HO305.out.1 k_ e_)); have n8_ := Aside0.mk (blk_kept (pkB BK307.out) hkp (fun hs_ => (fun e_ => (Kd.R_ne HO305.out BK307.out (by decide)) e_) hs_)); have n9_ := Aside0.mk (Kd.R_mono (ok' := fun k_ => some k_ ≠ (v277 : Value).ownBlock ∧ some k_ ≠ (.slice Ao84 t285.length co84 : Value).ownBlock ∧ some k_ ≠ (.slice Ao64 t293.length co64 : Value).ownBlock ∧ some k_ ≠ (.slice Ao83 t303.length co83 : Value).ownBlock) (Kd.R_keptB (HO314.out) hkp (fun k_ hk_ hs_ => (hk_.2.2.2) hs_)) (fun k_ hk_ => ⟨hk_.1.1, hk_.1.2.1, hk_.1.2.2.1, hk_.1.2.2.2⟩)); have n10_ := Aside0.mk (hb); clear BK270; clear BK271; clear HO278; clear HO287; clear BK289; clear HO295; clear BK296; clear HO305; clear BK307; clear HO314; clear HB; have BK270 := n0_; have BK271 := n1_; have HO278 := n2_; have HO287 := n3_; have BK289 := n4_; have HO295 := n5_; have BK296 := n6_; have HO305 := n7_; have BK307 := n8_; have HO314 := n9_; have HB := n10_; clear n0_ n1_ n2_ n3_ n4_ n5_ n6_ n7_ n8_ n9_ n10_; (try clear hb); (try clear hkp); (try clear hy0); have hcz97_0 : w96.cell? ⟨gb307, 0, none⟩ = some (.string t300) := (blk_cell BK307.out 0).trans rfl; have hcz97_1 : w96.cell? ⟨gb307, 1, none⟩ = some (.int .i64 t301) := (blk_cell BK307.out 1).trans rfl; have hcz97_2 : w96.cell? ⟨gb307, 2, none⟩ = some (.int .i64 t302) := (blk_cell BK307.out 2).trans rfl; have hcz97_3 : w96.cell? ⟨gb307, 3, none⟩ = some (.slice Ao83 t303.length co83) := (blk_cell BK307.out 3).trans rfl; have hfz97_0 := blk_frozen BK307.out 0; have hfz97_1 := blk_frozen BK307.out 1; have hfz97_2 := blk_frozen BK307.out 2; have hfz97_3 := blk_frozen BK307.out 3) | ((with_reducible refine gate_callee (f := 33) rfl ?_); refine goesL_ (some 73) rfl rfl Tryd.func33 (by kernel_rfl) rfl #[.agg #[.string t300, .int .i64 t301, .int .i64 t302, .slice Ao83 t320.length co83], .int .i64 1] rfl (by (try simp only [List.map_toArray, List.map_cons, List.map_nil]); first | done | (rw [show t320.length = t303.length from (Kd.R_reads' HO305.out).1.symm] <;> rfl) | rfl | (simp only [List.length_drop, List.length_take]; rfl)) ?_; (with_reducible refine (laws_heldPuzzle.calls k t300 t301 t302 _ _ t320 1 t321 _ ?side1 ?side2 A27.out).mono ?_); (case side1 => repeat (first | exact (Kd.R_reads' HO305.out).2.2 | (with_reducible refine Kd.C_alloc ?_ _) | (with_reducible refine Kd.C_drewN ?_ _) | (with_reducible refine Kd.C_drew ?_))); (case side2 => rw [show t320.length = t303.length from (Kd.R_reads' HO305.out).1.symm]; exact (Kd.R_reads' HO305.out).2.1); rintro e w98 ⟨rfl, hb⟩; refine ⟨_, rfl, ?_⟩; have n0_ := Aside0.mk (Kd.R_below (pkR HO278.out) hb); have n1_ := Aside0.mk (Kd.R_below (pkR HO287.out) hb); have n2_ := Aside0.mk (Kd.R_below (pkR HO295.out) hb); have n3_ := Aside0.mk (Kd.R_below (pkR HO305.out) hb); have n4_ := Aside0.mk (Kd.R_below (pkR HO314.out) hb); have n5_ := Aside0.mk (blk_below (g := gb270) (o := .cells #[.string a0_0, .int .i64 a0_1, .int .i64 a0_2, .slice A0_3 l0_3.length c0_3] 33 (0, 0)) (pkB BK270.out) hb); have n6_ := Aside0.mk (blk_below (g := gb271) (o := .cells #[.int .i64 a1_0, .int .i64 a1_1, .int .i64 a1_2] 26 (0, 0)) (pkB BK271.out) hb); have n7_ := Aside0.mk (blk_below (g := gb289) (o := .cells #[.string t282, .int .i64 t283, .int .i64 t284, .slice Ao84 t285.length co84] 38 (0, 0)) (pkB BK289.out) hb); have n8_ := Aside0.mk (blk_below (g := gb296) (o := .cells #[.string t290, .int .i64 t291, .int .i64 t292, .slice Ao64 t293.length co64] 38 (0, 0)) (pkB BK296.out) hb); have n9_ := Aside0.mk (blk_below (g := gb307) (o := .cells #[.string t300, .int .i64 t301, .int .i64 t302, .slice Ao83 t303.length co83] 38 (0, 0)) (pkB BK307.out) hb); have n10_ := Aside0.mk (below_step (by repeat (first | (with_reducible first | exact HB.out | apply below_alloc | apply pw_below_drewN | apply below_drew1 | refine below_set ?_ GE270.out | refine below_set ?_ GE271.out | refine below_set ?_ GE289.out | refine below_set ?_ GE296.out | refine below_set ?_ GE307.out) | exact HB.out)) hb); clear HO278; clear HO287; clear HO295; clear HO305; clear HO314; clear BK270; clear BK271; clear BK289; clear BK296; clear BK307; clear HB; have HO278 := n0_; have HO287 := n1_; have HO295 := n2_; have HO305 := n3_; have HO314 := n4_; have BK270 := n5_; have BK271 := n6_; have BK289 := n7_; have BK296 := n8_; have BK307 := n9_; have HB := n10_; clear n0_ n1_ n2_ n3_ n4_ n5_ n6_ n7_ n8_ n9_ n10_; (try clear hb); (try clear hb2); (try clear hk); (try clear hi)))
    have n0_ := Aside0.mk (Kd.R_drew HO278.out)
    have n1_ := Aside0.mk (Kd.R_drew HO287.out)
    have n2_ := Aside0.mk (Kd.R_drew HO295.out)
    have n3_ := Aside0.mk (Kd.R_drew HO305.out)
    have n4_ := Aside0.mk (Kd.R_drew HO314.out)
    have n5_ := Aside0.mk (blk_drew BK270.out)
    have n6_ := Aside0.mk (blk_drew BK271.out)
    have n7_ := Aside0.mk (blk_drew BK289.out)
    have n8_ := Aside0.mk (blk_drew BK296.out)
    have n9_ := Aside0.mk (blk_drew BK307.out)
    have n10_ := Aside0.mk (below_drew1 HB.out)
    clear HO278
    clear HO287
    clear HO295
    clear HO305
    clear HO314
    clear BK270
    clear BK271
    clear BK289
    clear BK296
    clear BK307
    clear HB
    have HO278 := n0_
    have HO287 := n1_
    have HO295 := n2_
    have HO305 := n3_
    have HO314 := n4_
    have BK270 := n5_
    have BK271 := n6_
    have BK289 := n7_
    have BK296 := n8_
    have BK307 := n9_
    have HB := n10_
    clear n0_ n1_ n2_ n3_ n4_ n5_ n6_ n7_ n8_ n9_ n10_
    refine start_ (n := 11) (S := fun w' => True) (ds := []) #[false, false, false, false, false, false, false, false, false, false, false] (by kernel_rfl) rfl rfl trivial (fun hHeld => ?_); refine with_tabW laws_FnExactAddClue.tab24 laws_FnExactAddClue.bits24 (fun HT_ HW_ => ?_)
    generalize w98.drew = w99 at HO278 HO287 HO295 HO305 HO314 BK270 BK271 BK289 BK296 BK307 HB hHeld ⊢
    refine inv_at [0, 1, 2, 3, 4, 5, 6, 7, 8, 9, 10] (fun a0_ b a w' => ∃ (v326 : Value) (v335 : Value) (gb338 : Nat) (m1_ : Value) (m4_ : Value) (m5_ : Value) (m6_ : Value) (m8_ : Value), a = putSel a0_ b [(0, 80, .agg #[.string a0_0, .int .i64 a0_1, .int .i64 a0_2, .slice A0_3 l0_3.length c0_3]), (1, 81, m1_), (2, 82, .agg #[.int .i64 a1_0, .int .i64 a1_1, .int .i64 a1_2]), (3, 83, .agg #[.int .i64 t328, .int .i64 t329, .int .i64 t330]), (4, 84, m4_), (5, 79, m5_), (6, 85, m6_), (7, 86, .bool t337), (8, 14, m8_), (10, 15, .bool t337)] ∧ (b 1 = false → Kd.R k28 28 w' w.heap.size (fun k_ => some k_ ≠ (.slice Ao84 t285.length co84 : Value).ownBlock ∧ some k_ ≠ (.slice Ao64 t293.length co64 : Value).ownBlock ∧ some k_ ≠ (.slice Ao83 t303.length co83 : Value).ownBlock ∧ some k_ ≠ (.slice Ao88 t312.length co88 : Value).ownBlock) v277 t276) ∧ (b 1 = false → Kd.R k28 28 w' w.heap.size (fun k_ => some k_ ≠ (v277 : Value).ownBlock ∧ some k_ ≠ (.slice Ao64 t293.length co64 : Value).ownBlock ∧ some k_ ≠ (.slice Ao83 t303.length co83 : Value).ownBlock ∧ some k_ ≠ (.slice Ao88 t312.length co88 : Value).ownBlock) (.slice Ao84 t285.length co84) t285) ∧ (b 1 = false → Kd.R k28 28 w' w.heap.size (fun k_ => some k_ ≠ (v277 : Value).ownBlock ∧ some k_ ≠ (.slice Ao84 t285.length co84 : Value).ownBlock ∧ some k_ ≠ (.slice Ao83 t303.length co83 : Value).ownBlock ∧ some k_ ≠ (.slice Ao88 t312.length co88 : Value).ownBlock) (.slice Ao64 t293.length co64) t317) ∧ (b 1 = false → Kd.R k28 28 w' w.heap.size (fun k_ => some k_ ≠ (v277 : Value).ownBlock ∧ some k_ ≠ (.slice Ao84 t285.length co84 : Value).ownBlock ∧ some k_ ≠ (.slice Ao64 t293.length co64 : Value).ownBlock ∧ some k_ ≠ (.slice Ao88 t312.length co88 : Value).ownBlock) (.slice Ao83 t303.length co83) t320) ∧ (b 1 = false → Kd.R k28 28 w' w.heap.size (fun k_ => some k_ ≠ (v277 : Value).ownBlock ∧ some k_ ≠ (.slice Ao84 t285.length co84 : Value).ownBlock ∧ some k_ ≠ (.slice Ao64 t293.length co64 : Value).ownBlock ∧ some k_ ≠ (.slice Ao83 t303.length co83 : Value).ownBlock) (.slice Ao88 t312.length co88) t312) ∧ (w'.heap[gb270]? = some (.cells #[.string a0_0, .int .i64 a0_1, .int .i64 a0_2, .slice A0_3 l0_3.length c0_3] 33 (0, 0))) ∧ (w'.heap[gb271]? = some (.cells #[.int .i64 a1_0, .int .i64 a1_1, .int .i64 a1_2] 26 (0, 0))) ∧ (w'.heap[gb289]? = some (.cells #[.string t282, .int .i64 t283, .int .i64 t284, .slice Ao84 t285.length co84] 38 (0, 0))) ∧ (w'.heap[gb296]? = some (.cells #[.string t290, .int .i64 t291, .int .i64 t292, .slice Ao64 t293.length co64] 38 (0, 0))) ∧ (w'.heap[gb307]? = some (.cells #[.string t300, .int .i64 t301, .int .i64 t302, .slice Ao83 t303.length co83] 38 (0, 0))) ∧ (Below w.heap.size w w') ∧ (b 1 = true → b 4 = false → Kd.R k28 28 w' w.heap.size (fun k_ => some k_ ≠ (.slice Ao84 t285.length co84 : Value).ownBlock ∧ some k_ ≠ (.slice Ao64 t293.length co64 : Value).ownBlock ∧ some k_ ≠ (.slice Ao83 t303.length co83 : Value).ownBlock ∧ some k_ ≠ (.slice Ao88 t312.length co88 : Value).ownBlock ∧ some k_ ≠ (v326 : Value).ownBlock) v277 t276) ∧ (b 1 = true → b 4 = false → Kd.R k28 28 w' w.heap.size (fun k_ => some k_ ≠ (v277 : Value).ownBlock ∧ some k_ ≠ (.slice Ao64 t293.length co64 : Value).ownBlock ∧ some k_ ≠ (.slice Ao83 t303.length co83 : Value).ownBlock ∧ some k_ ≠ (.slice Ao88 t312.length co88 : Value).ownBlock ∧ some k_ ≠ (v326 : Value).ownBlock) (.slice Ao84 t285.length co84) t285) ∧ (b 1 = true → b 4 = false → Kd.R k28 28 w' w.heap.size (fun k_ => some k_ ≠ (v277 : Value).ownBlock ∧ some k_ ≠ (.slice Ao84 t285.length co84 : Value).ownBlock ∧ some k_ ≠ (.slice Ao83 t303.length co83 : Value).ownBlock ∧ some k_ ≠ (.slice Ao88 t312.length co88 : Value).ownBlock ∧ some k_ ≠ (v326 : Value).ownBlock) (.slice Ao64 t293.length co64) t317) ∧ (b 1 = true → b 4 = false → Kd.R k28 28 w' w.heap.size (fun k_ => some k_ ≠ (v277 : Value).ownBlock ∧ some k_ ≠ (.slice Ao84 t285.length co84 : Value).ownBlock ∧ some k_ ≠ (.slice Ao64 t293.length co64 : Value).ownBlock ∧ some k_ ≠ (.slice Ao88 t312.length co88 : Value).ownBlock ∧ some k_ ≠ (v326 : Value).ownBlock) (.slice Ao83 t303.length co83) t320) ∧ (b 1 = true → b 4 = false → Kd.R k28 28 w' w.heap.size (fun k_ => some k_ ≠ (v277 : Value).ownBlock ∧ some k_ ≠ (.slice Ao84 t285.length co84 : Value).ownBlock ∧ some k_ ≠ (.slice Ao64 t293.length co64 : Value).ownBlock ∧ some k_ ≠ (.slice Ao83 t303.length co83 : Value).ownBlock ∧ some k_ ≠ (v326 : Value).ownBlock) (.slice Ao88 t312.length co88) t312) ∧ (b 1 = true → b 4 = false → Kd.R k28 28 w' w.heap.size (fun k_ => some k_ ≠ (v277 : Value).ownBlock ∧ some k_ ≠ (.slice Ao84 t285.length co84 : Value).ownBlock ∧ some k_ ≠ (.slice Ao64 t293.length co64 : Value).ownBlock ∧ some k_ ≠ (.slice Ao83 t303.length co83 : Value).ownBlock ∧ some k_ ≠ (.slice Ao88 t312.length co88 : Value).ownBlock) v326 t325) ∧ (b 4 = true → Kd.R k28 28 w' w.heap.size (fun k_ => some k_ ≠ (.slice Ao84 t285.length co84 : Value).ownBlock ∧ some k_ ≠ (.slice Ao64 t293.length co64 : Value).ownBlock ∧ some k_ ≠ (.slice Ao83 t303.length co83 : Value).ownBlock ∧ some k_ ≠ (.slice Ao88 t312.length co88 : Value).ownBlock ∧ some k_ ≠ (v326 : Value).ownBlock ∧ some k_ ≠ (v335 : Value).ownBlock) v277 t276) ∧ (b 4 = true → Kd.R k28 28 w' w.heap.size (fun k_ => some k_ ≠ (v277 : Value).ownBlock ∧ some k_ ≠ (.slice Ao64 t293.length co64 : Value).ownBlock ∧ some k_ ≠ (.slice Ao83 t303.length co83 : Value).ownBlock ∧ some k_ ≠ (.slice Ao88 t312.length co88 : Value).ownBlock ∧ some k_ ≠ (v326 : Value).ownBlock ∧ some k_ ≠ (v335 : Value).ownBlock) (.slice Ao84 t285.length co84) t285) ∧ (b 4 = true → Kd.R k28 28 w' w.heap.size (fun k_ => some k_ ≠ (v277 : Value).ownBlock ∧ some k_ ≠ (.slice Ao84 t285.length co84 : Value).ownBlock ∧ some k_ ≠ (.slice Ao83 t303.length co83 : Value).ownBlock ∧ some k_ ≠ (.slice Ao88 t312.length co88 : Value).ownBlock ∧ some k_ ≠ (v326 : Value).ownBlock ∧ some k_ ≠ (v335 : Value).ownBlock) (.slice Ao64 t293.length co64) t317) ∧ (b 4 = true → Kd.R k28 28 w' w.heap.size (fun k_ => some k_ ≠ (v277 : Value).ownBlock ∧ some k_ ≠ (.slice Ao84 t285.length co84 : Value).ownBlock ∧ some k_ ≠ (.slice Ao64 t293.length co64 : Value).ownBlock ∧ some k_ ≠ (.slice Ao88 t312.length co88 : Value).ownBlock ∧ some k_ ≠ (v326 : Value).ownBlock ∧ some k_ ≠ (v335 : Value).ownBlock) (.slice Ao83 t303.length co83) t320) ∧ (b 4 = true → Kd.R k28 28 w' w.heap.size (fun k_ => some k_ ≠ (v277 : Value).ownBlock ∧ some k_ ≠ (.slice Ao84 t285.length co84 : Value).ownBlock ∧ some k_ ≠ (.slice Ao64 t293.length co64 : Value).ownBlock ∧ some k_ ≠ (.slice Ao83 t303.length co83 : Value).ownBlock ∧ some k_ ≠ (v326 : Value).ownBlock ∧ some k_ ≠ (v335 : Value).ownBlock) (.slice Ao88 t312.length co88) t312) ∧ (b 4 = true → Kd.R k28 28 w' w.heap.size (fun k_ => some k_ ≠ (v277 : Value).ownBlock ∧ some k_ ≠ (.slice Ao84 t285.length co84 : Value).ownBlock ∧ some k_ ≠ (.slice Ao64 t293.length co64 : Value).ownBlock ∧ some k_ ≠ (.slice Ao83 t303.length co83 : Value).ownBlock ∧ some k_ ≠ (.slice Ao88 t312.length co88 : Value).ownBlock ∧ some k_ ≠ (v335 : Value).ownBlock) v326 t325) ∧ (b 4 = true → Kd.R k28 28 w' w.heap.size (fun k_ => some k_ ≠ (v277 : Value).ownBlock ∧ some k_ ≠ (.slice Ao84 t285.length co84 : Value).ownBlock ∧ some k_ ≠ (.slice Ao64 t293.length co64 : Value).ownBlock ∧ some k_ ≠ (.slice Ao83 t303.length co83 : Value).ownBlock ∧ some k_ ≠ (.slice Ao88 t312.length co88 : Value).ownBlock ∧ some k_ ≠ (v326 : Value).ownBlock) v335 t334) ∧ (b 8 = true → b 9 = false → w'.heap[gb338]? = some (.cells #[.string (⟨#[]⟩ : ByteArray), .int .i64 0, .int .i64 0, .slice none 0 0] 38 (0, 0))) ∧ (b 8 = true → w.heap.size ≤ gb338) ∧ (b 8 = true → w.heap.size ≤ gb338) ∧ (b 8 = true → gb270 ≠ gb338) ∧ (b 8 = true → gb338 ≠ gb270) ∧ (b 8 = true → gb271 ≠ gb338) ∧ (b 8 = true → gb338 ≠ gb271) ∧ (b 8 = true → gb289 ≠ gb338) ∧ (b 8 = true → gb338 ≠ gb289) ∧ (b 8 = true → gb296 ≠ gb338) ∧ (b 8 = true → gb338 ≠ gb296) ∧ (b 8 = true → gb307 ≠ gb338) ∧ (b 8 = true → gb338 ≠ gb307) ∧ (b 9 = true → w'.heap[gb338]? = some (.cells #[.string t331, .int .i64 t332, .int .i64 t333, v335] 38 (0, 0))) ∧ (b 1 = true → (m1_ : Value) = .agg #[.string t322, .int .i64 t323, .int .i64 t324, v326]) ∧ (b 4 = true → (m4_ : Value) = .tuple #[.agg #[.string t331, .int .i64 t332, .int .i64 t333, v335], .bool t337]) ∧ (b 5 = true → (m5_ : Value) = .tuple #[.agg #[.string t331, .int .i64 t332, .int .i64 t333, v335], .bool t337]) ∧ (b 6 = true → (m6_ : Value) = .agg #[.string t331, .int .i64 t332, .int .i64 t333, v335]) ∧ (b 8 = true → (m8_ : Value) = .pointer (some ⟨gb338, 0, none⟩))) HT_.out HW_.out (by kernel_rfl) (by kernel_rfl) ?_ ?_ ?_
    · exact ⟨.bool false, .bool false, 0, .bool false, .bool false, .bool false, .bool false, .bool false, by simp only [putSel, Bool.false_eq_true, if_false], fun _ => HO278.out, fun _ => HO287.out, fun _ => HO295.out, fun _ => HO305.out, fun _ => HO314.out, BK270.out, BK271.out, BK289.out, BK296.out, BK307.out, HB.out, fun h_ => absurd h_ (by decide), fun h_ => absurd h_ (by decide), fun h_ => absurd h_ (by decide), fun h_ => absurd h_ (by decide), fun h_ => absurd h_ (by decide), fun h_ => absurd h_ (by decide), fun h_ => absurd h_ (by decide), fun h_ => absurd h_ (by decide), fun h_ => absurd h_ (by decide), fun h_ => absurd h_ (by decide), fun h_ => absurd h_ (by decide), fun h_ => absurd h_ (by decide), fun h_ => absurd h_ (by decide), fun h_ => absurd h_ (by decide), fun h_ => absurd h_ (by decide), fun h_ => absurd h_ (by decide), fun h_ => absurd h_ (by decide), fun h_ => absurd h_ (by decide), fun h_ => absurd h_ (by decide), fun h_ => absurd h_ (by decide), fun h_ => absurd h_ (by decide), fun h_ => absurd h_ (by decide), fun h_ => absurd h_ (by decide), fun h_ => absurd h_ (by decide), fun h_ => absurd h_ (by decide), fun h_ => absurd h_ (by decide), fun h_ => absurd h_ (by decide), fun h_ => absurd h_ (by decide), fun h_ => absurd h_ (by decide), fun h_ => absurd h_ (by decide), fun h_ => absurd h_ (by decide), fun h_ => absurd h_ (by decide)⟩
    · skip
      clear BK270 BK271 BK289 BK296 BK307 HB HO278 HO287 HO295 HO305 HO314
      refine steps_cons ?_ ?_
      · rintro b a w' ⟨v326, v335, gb338, m1_, m4_, m5_, m6_, m8_, ha, Q_HO278, Q_HO287, Q_HO295, Q_HO305, Q_HO314, Q_BK270, Q_BK271, Q_BK289, Q_BK296, Q_BK307, Q_HB, Q_HO278_e1, Q_HO287_e1, Q_HO295_e1, Q_HO305_e1, Q_HO314_e1, Q_HO327, Q_HO278_e4, Q_HO287_e4, Q_HO295_e4, Q_HO305_e4, Q_HO314_e4, Q_HO327_e4, Q_HO336, Q_BK338, Q_GW338, Q_GE338, Q_NB270_338, Q_NB338_270, Q_NB271_338, Q_NB338_271, Q_NB289_338, Q_NB338_289, Q_NB296_338, Q_NB338_296, Q_NB307_338, Q_NB338_307, Q_BK338_e9, Q_X1_, Q_X4_, Q_X5_, Q_X6_, Q_X8_⟩ hb_ hon hoff
        refine ⟨_, rfl, fun K hK => ?_⟩
        have e2 : a.tmps[2]? = some (.pointer (some ⟨gb270, 0, none⟩)) := by rw [ha]; exact (putSel_off rfl).trans rfl
        replace ha := Aside0.mk ha
        have HO278 := Aside0.mk (Q_HO278 (hoff 1 (by kernel_rfl)))
        have HO287 := Aside0.mk (Q_HO287 (hoff 1 (by kernel_rfl)))
        have HO295 := Aside0.mk (Q_HO295 (hoff 1 (by kernel_rfl)))
        have HO305 := Aside0.mk (Q_HO305 (hoff 1 (by kernel_rfl)))
        have HO314 := Aside0.mk (Q_HO314 (hoff 1 (by kernel_rfl)))
        have BK270 := Aside0.mk Q_BK270
        have BK271 := Aside0.mk Q_BK271
        have BK289 := Aside0.mk Q_BK289
        have BK296 := Aside0.mk Q_BK296
        have BK307 := Aside0.mk Q_BK307
        have HB := Aside0.mk Q_HB
        have hc0_ : w'.cell? ⟨gb270, 0, none⟩ = some (.string a0_0) := (blk_cell BK270.out 0).trans rfl
        have hc1_ : w'.cell? ⟨gb270, 1, none⟩ = some (.int .i64 a0_1) := (blk_cell BK270.out 1).trans rfl
        have hc2_ : w'.cell? ⟨gb270, 2, none⟩ = some (.int .i64 a0_2) := (blk_cell BK270.out 2).trans rfl
        have hc3_ : w'.cell? ⟨gb270, 3, none⟩ = some (.slice A0_3 l0_3.length c0_3) := (blk_cell BK270.out 3).trans rfl
        refine value_ (w1 := w') (v := .agg #[.string a0_0, .int .i64 a0_1, .int .i64 a0_2, .slice A0_3 l0_3.length c0_3]) (by rfl) rfl ?_ ?_
        · go_simp
          (try simp only [i64_w])
          try rfl
        refine hK.out _ _ ⟨v326, v335, gb338, m1_, m4_, m5_, m6_, m8_, (by rw [ha.out]; exact putSel_upk 0 hb_ rfl rfl rfl), Q_HO278, Q_HO287, Q_HO295, Q_HO305, Q_HO314, Q_BK270, Q_BK271, Q_BK289, Q_BK296, Q_BK307, Q_HB, fun h0_ _ => absurd ((hoff 1 (by kernel_rfl)).symm.trans h0_) (by decide), fun h0_ _ => absurd ((hoff 1 (by kernel_rfl)).symm.trans h0_) (by decide), fun h0_ _ => absurd ((hoff 1 (by kernel_rfl)).symm.trans h0_) (by decide), fun h0_ _ => absurd ((hoff 1 (by kernel_rfl)).symm.trans h0_) (by decide), fun h0_ _ => absurd ((hoff 1 (by kernel_rfl)).symm.trans h0_) (by decide), fun h0_ _ => absurd ((hoff 1 (by kernel_rfl)).symm.trans h0_) (by decide), fun h0_ => absurd ((hoff 4 (by kernel_rfl)).symm.trans h0_) (by decide), fun h0_ => absurd ((hoff 4 (by kernel_rfl)).symm.trans h0_) (by decide), fun h0_ => absurd ((hoff 4 (by kernel_rfl)).symm.trans h0_) (by decide), fun h0_ => absurd ((hoff 4 (by kernel_rfl)).symm.trans h0_) (by decide), fun h0_ => absurd ((hoff 4 (by kernel_rfl)).symm.trans h0_) (by decide), fun h0_ => absurd ((hoff 4 (by kernel_rfl)).symm.trans h0_) (by decide), fun h0_ => absurd ((hoff 4 (by kernel_rfl)).symm.trans h0_) (by decide), Q_BK338, Q_GW338, Q_GE338, Q_NB270_338, Q_NB338_270, Q_NB271_338, Q_NB338_271, Q_NB289_338, Q_NB338_289, Q_NB296_338, Q_NB338_296, Q_NB307_338, Q_NB338_307, fun h0_ => absurd ((hoff 9 (by kernel_rfl)).symm.trans h0_) (by decide), fun h0_ => absurd ((hoff 1 (by kernel_rfl)).symm.trans h0_) (by decide), fun h0_ => absurd ((hoff 4 (by kernel_rfl)).symm.trans h0_) (by decide), fun h0_ => absurd ((hoff 5 (by kernel_rfl)).symm.trans h0_) (by decide), fun h0_ => absurd ((hoff 6 (by kernel_rfl)).symm.trans h0_) (by decide), Q_X8_⟩
      refine steps_cons ?_ ?_
      · rintro b a w' ⟨v326, v335, gb338, m1_, m4_, m5_, m6_, m8_, ha, Q_HO278, Q_HO287, Q_HO295, Q_HO305, Q_HO314, Q_BK270, Q_BK271, Q_BK289, Q_BK296, Q_BK307, Q_HB, Q_HO278_e1, Q_HO287_e1, Q_HO295_e1, Q_HO305_e1, Q_HO314_e1, Q_HO327, Q_HO278_e4, Q_HO287_e4, Q_HO295_e4, Q_HO305_e4, Q_HO314_e4, Q_HO327_e4, Q_HO336, Q_BK338, Q_GW338, Q_GE338, Q_NB270_338, Q_NB338_270, Q_NB271_338, Q_NB338_271, Q_NB289_338, Q_NB338_289, Q_NB296_338, Q_NB338_296, Q_NB307_338, Q_NB338_307, Q_BK338_e9, Q_X1_, Q_X4_, Q_X5_, Q_X6_, Q_X8_⟩ hb_ hon hoff
        refine ⟨_, rfl, fun K hK => ?_⟩
        have e80 : a.tmps[80]? = some (.agg #[.string a0_0, .int .i64 a0_1, .int .i64 a0_2, .slice A0_3 l0_3.length c0_3]) := by rw [ha]; exact putSel_on (e := (0, 80, .agg #[.string a0_0, .int .i64 a0_1, .int .i64 a0_2, .slice A0_3 l0_3.length c0_3])) 0 rfl rfl (hon 0 (by kernel_rfl)) rfl
        replace ha := Aside0.mk ha
        have HO278 := Aside0.mk (Q_HO278 hb_)
        have HO287 := Aside0.mk (Q_HO287 hb_)
        have HO295 := Aside0.mk (Q_HO295 hb_)
        have HO305 := Aside0.mk (Q_HO305 hb_)
        have HO314 := Aside0.mk (Q_HO314 hb_)
        have BK270 := Aside0.mk Q_BK270
        have BK271 := Aside0.mk Q_BK271
        have BK289 := Aside0.mk Q_BK289
        have BK296 := Aside0.mk Q_BK296
        have BK307 := Aside0.mk Q_BK307
        have HB := Aside0.mk Q_HB
        refine goes_ Tryd.func27 (by kernel_rfl) rfl #[.agg #[.string a0_0, .int .i64 a0_1, .int .i64 a0_2, .slice A0_3 l0_3.length c0_3]] (by rfl) rfl rfl (by first | (simp only [List.map_toArray, List.map_cons, List.map_nil, Act.eval, Array.getD_eq_getD_getElem?, Option.getD_some, e80]; done) | (simp only [List.map_toArray, List.map_cons, List.map_nil, Act.eval, Array.getD_eq_getD_getElem?, Option.getD_some, e80]; rfl)) ?_
        with_reducible refine (laws_toPuzzle.calls k a0_0 a0_1 a0_2 _ _ l0_3 t322 t323 t324 t325 _ ?side1 ?side2 A30.out).mono ?_
        (case side1 => repeat (first | exact (Kd.C_below HR0_3.out HB.out) | (with_reducible refine Kd.C_alloc ?_ _) | (with_reducible refine Kd.C_drewN ?_ _) | (with_reducible refine Kd.C_drew ?_)))
        (case side2 => exact HC0_3.out)
        rintro e w100 ⟨v326, rfl, ho0, hb⟩
        refine ⟨_, rfl, ?_⟩
        have n0_ := Aside0.mk (Kd.R_elder' (pkR HO278.out) (Kd.R_base ho0) hb)
        have n1_ := Aside0.mk (Kd.R_elder' (pkR HO287.out) (Kd.R_base ho0) hb)
        have n2_ := Aside0.mk (Kd.R_elder' (pkR HO295.out) (Kd.R_base ho0) hb)
        have n3_ := Aside0.mk (Kd.R_elder' (pkR HO305.out) (Kd.R_base ho0) hb)
        have n4_ := Aside0.mk (Kd.R_elder' (pkR HO314.out) (Kd.R_base ho0) hb)
        have n5_ := Aside0.mk (Kd.R_lower (Kd.R_new' (Kd.R_new' (Kd.R_new' (Kd.R_new' (Kd.R_new' ho0 (Kd.R_lt (pkR HO278.out))) (Kd.R_lt (pkR HO287.out))) (Kd.R_lt (pkR HO295.out))) (Kd.R_lt (pkR HO305.out))) (Kd.R_lt (pkR HO314.out))) (below_size (by repeat (first | (with_reducible first | exact HB.out | apply below_alloc | apply pw_below_drewN | apply below_drew1 | refine below_set ?_ GE270.out | refine below_set ?_ GE271.out | refine below_set ?_ GE289.out | refine below_set ?_ GE296.out | refine below_set ?_ GE307.out) | exact HB.out))))
        have n6_ := Aside0.mk (blk_below (g := gb270) (o := .cells #[.string a0_0, .int .i64 a0_1, .int .i64 a0_2, .slice A0_3 l0_3.length c0_3] 33 (0, 0)) (pkB BK270.out) hb)
        have n7_ := Aside0.mk (blk_below (g := gb271) (o := .cells #[.int .i64 a1_0, .int .i64 a1_1, .int .i64 a1_2] 26 (0, 0)) (pkB BK271.out) hb)
        have n8_ := Aside0.mk (blk_below (g := gb289) (o := .cells #[.string t282, .int .i64 t283, .int .i64 t284, .slice Ao84 t285.length co84] 38 (0, 0)) (pkB BK289.out) hb)
        have n9_ := Aside0.mk (blk_below (g := gb296) (o := .cells #[.string t290, .int .i64 t291, .int .i64 t292, .slice Ao64 t293.length co64] 38 (0, 0)) (pkB BK296.out) hb)
        have n10_ := Aside0.mk (blk_below (g := gb307) (o := .cells #[.string t300, .int .i64 t301, .int .i64 t302, .slice Ao83 t303.length co83] 38 (0, 0)) (pkB BK307.out) hb)
        have n11_ := Aside0.mk (below_step (by repeat (first | (with_reducible first | exact HB.out | apply below_alloc | apply pw_below_drewN | apply below_drew1 | refine below_set ?_ GE270.out | refine below_set ?_ GE271.out | refine below_set ?_ GE289.out | refine below_set ?_ GE296.out | refine below_set ?_ GE307.out) | exact HB.out)) hb)
        have z_BK338 := fun (h0_ : b 8 = true) (h1_ : b 9 = false) => (show w100.heap[gb338]? = some (.cells #[.string (⟨#[]⟩ : ByteArray), .int .i64 0, .int .i64 0, .slice none 0 0] 38 (0, 0)) from by first | exact (blk_below (g := gb338) (o := .cells #[.string (⟨#[]⟩ : ByteArray), .int .i64 0, .int .i64 0, .slice none 0 0] 38 (0, 0)) (by (with_reducible repeat (first | refine blk_drewN ?_ _ | refine blk_drew ?_ | refine blk_alloc ?_ _)); exact (Q_BK338 h0_ h1_)) hb))
        clear HO278
        clear HO287
        clear HO295
        clear HO305
        clear HO314
        clear BK270
        clear BK271
        clear BK289
        clear BK296
        clear BK307
        clear HB
        have HO278 := n0_
        have HO287 := n1_
        have HO295 := n2_
        have HO305 := n3_
        have HO314 := n4_
        have HO327 := n5_
        have BK270 := n6_
        have BK271 := n7_
        have BK289 := n8_
        have BK296 := n9_
        have BK307 := n10_
        have HB := n11_
        clear n0_ n1_ n2_ n3_ n4_ n5_ n6_ n7_ n8_ n9_ n10_ n11_
        (try clear hb)
        (try clear hb2)
        (try clear hk)
        (try clear hi)
        (try clear ho0)
        refine hK.out _ _ ⟨v326, v335, gb338, (.agg #[.string t322, .int .i64 t323, .int .i64 t324, v326]), m4_, m5_, m6_, m8_, (by rw [ha.out]; exact putSel_upk 1 hb_ rfl rfl rfl), fun h0_ => absurd ((up_self b 1).symm.trans h0_) (by decide), fun h0_ => absurd ((up_self b 1).symm.trans h0_) (by decide), fun h0_ => absurd ((up_self b 1).symm.trans h0_) (by decide), fun h0_ => absurd ((up_self b 1).symm.trans h0_) (by decide), fun h0_ => absurd ((up_self b 1).symm.trans h0_) (by decide), (pkB BK270.out), (pkB BK271.out), (pkB BK289.out), (pkB BK296.out), (pkB BK307.out), (by repeat (first | (with_reducible first | exact HB.out | apply below_alloc | apply pw_below_drewN | apply below_drew1 | refine below_set ?_ GE270.out | refine below_set ?_ GE271.out | refine below_set ?_ GE289.out | refine below_set ?_ GE296.out | refine below_set ?_ GE307.out) | exact HB.out)), fun _ _ => (by (with_reducible repeat (first | apply Kd.R_alloc | apply Kd.R_drewN | apply Kd.R_drew)); exact Kd.R_mono HO278.out (by first | exact (fun _ hk => ⟨hk.1.1, ⟨hk.1.2.1, ⟨hk.1.2.2.1, ⟨hk.1.2.2.2, hk.2⟩⟩⟩⟩) | (intro _ hk; simp_all))), fun _ _ => (by (with_reducible repeat (first | apply Kd.R_alloc | apply Kd.R_drewN | apply Kd.R_drew)); exact Kd.R_mono HO287.out (by first | exact (fun _ hk => ⟨hk.1.1, ⟨hk.1.2.1, ⟨hk.1.2.2.1, ⟨hk.1.2.2.2, hk.2⟩⟩⟩⟩) | (intro _ hk; simp_all))), fun _ _ => (by (with_reducible repeat (first | apply Kd.R_alloc | apply Kd.R_drewN | apply Kd.R_drew)); exact Kd.R_mono HO295.out (by first | exact (fun _ hk => ⟨hk.1.1, ⟨hk.1.2.1, ⟨hk.1.2.2.1, ⟨hk.1.2.2.2, hk.2⟩⟩⟩⟩) | (intro _ hk; simp_all))), fun _ _ => (by (with_reducible repeat (first | apply Kd.R_alloc | apply Kd.R_drewN | apply Kd.R_drew)); exact Kd.R_mono HO305.out (by first | exact (fun _ hk => ⟨hk.1.1, ⟨hk.1.2.1, ⟨hk.1.2.2.1, ⟨hk.1.2.2.2, hk.2⟩⟩⟩⟩) | (intro _ hk; simp_all))), fun _ _ => (by (with_reducible repeat (first | apply Kd.R_alloc | apply Kd.R_drewN | apply Kd.R_drew)); exact Kd.R_mono HO314.out (by first | exact (fun _ hk => ⟨hk.1.1, ⟨hk.1.2.1, ⟨hk.1.2.2.1, ⟨hk.1.2.2.2, hk.2⟩⟩⟩⟩) | (intro _ hk; simp_all))), fun _ _ => (by (with_reducible repeat (first | apply Kd.R_alloc | apply Kd.R_drewN | apply Kd.R_drew)); exact Kd.R_mono HO327.out (by first | exact (fun _ hk => ⟨hk.1.1.1.1.2, ⟨hk.1.1.1.2, ⟨hk.1.1.2, ⟨hk.1.2, hk.2⟩⟩⟩⟩) | (intro _ hk; simp_all))), fun h0_ => absurd ((hoff 4 (by kernel_rfl)).symm.trans h0_) (by decide), fun h0_ => absurd ((hoff 4 (by kernel_rfl)).symm.trans h0_) (by decide), fun h0_ => absurd ((hoff 4 (by kernel_rfl)).symm.trans h0_) (by decide), fun h0_ => absurd ((hoff 4 (by kernel_rfl)).symm.trans h0_) (by decide), fun h0_ => absurd ((hoff 4 (by kernel_rfl)).symm.trans h0_) (by decide), fun h0_ => absurd ((hoff 4 (by kernel_rfl)).symm.trans h0_) (by decide), fun h0_ => absurd ((hoff 4 (by kernel_rfl)).symm.trans h0_) (by decide), z_BK338, Q_GW338, Q_GE338, Q_NB270_338, Q_NB338_270, Q_NB271_338, Q_NB338_271, Q_NB289_338, Q_NB338_289, Q_NB296_338, Q_NB338_296, Q_NB307_338, Q_NB338_307, fun h0_ => absurd ((hoff 9 (by kernel_rfl)).symm.trans h0_) (by decide), fun _ => rfl, fun h0_ => absurd ((hoff 4 (by kernel_rfl)).symm.trans h0_) (by decide), fun h0_ => absurd ((hoff 5 (by kernel_rfl)).symm.trans h0_) (by decide), fun h0_ => absurd ((hoff 6 (by kernel_rfl)).symm.trans h0_) (by decide), Q_X8_⟩
      refine steps_cons ?_ ?_
      · rintro b a w' ⟨v326, v335, gb338, m1_, m4_, m5_, m6_, m8_, ha, Q_HO278, Q_HO287, Q_HO295, Q_HO305, Q_HO314, Q_BK270, Q_BK271, Q_BK289, Q_BK296, Q_BK307, Q_HB, Q_HO278_e1, Q_HO287_e1, Q_HO295_e1, Q_HO305_e1, Q_HO314_e1, Q_HO327, Q_HO278_e4, Q_HO287_e4, Q_HO295_e4, Q_HO305_e4, Q_HO314_e4, Q_HO327_e4, Q_HO336, Q_BK338, Q_GW338, Q_GE338, Q_NB270_338, Q_NB338_270, Q_NB271_338, Q_NB338_271, Q_NB289_338, Q_NB338_289, Q_NB296_338, Q_NB338_296, Q_NB307_338, Q_NB338_307, Q_BK338_e9, Q_X1_, Q_X4_, Q_X5_, Q_X6_, Q_X8_⟩ hb_ hon hoff
        refine ⟨_, rfl, fun K hK => ?_⟩
        have e3 : a.tmps[3]? = some (.pointer (some ⟨gb271, 0, none⟩)) := by rw [ha]; exact (putSel_off rfl).trans rfl
        replace ha := Aside0.mk ha
        have BK270 := Aside0.mk Q_BK270
        have BK271 := Aside0.mk Q_BK271
        have BK289 := Aside0.mk Q_BK289
        have BK296 := Aside0.mk Q_BK296
        have BK307 := Aside0.mk Q_BK307
        have HB := Aside0.mk Q_HB
        have hc0_ : w'.cell? ⟨gb271, 0, none⟩ = some (.int .i64 a1_0) := (blk_cell BK271.out 0).trans rfl
        have hc1_ : w'.cell? ⟨gb271, 1, none⟩ = some (.int .i64 a1_1) := (blk_cell BK271.out 1).trans rfl
        have hc2_ : w'.cell? ⟨gb271, 2, none⟩ = some (.int .i64 a1_2) := (blk_cell BK271.out 2).trans rfl
        refine value_ (w1 := w') (v := .agg #[.int .i64 a1_0, .int .i64 a1_1, .int .i64 a1_2]) (by rfl) rfl ?_ ?_
        · go_simp
          (try simp only [i64_w])
          try rfl
        refine hK.out _ _ ⟨v326, v335, gb338, m1_, m4_, m5_, m6_, m8_, (by rw [ha.out]; exact putSel_upk 2 hb_ rfl rfl rfl), Q_HO278, Q_HO287, Q_HO295, Q_HO305, Q_HO314, Q_BK270, Q_BK271, Q_BK289, Q_BK296, Q_BK307, Q_HB, Q_HO278_e1, Q_HO287_e1, Q_HO295_e1, Q_HO305_e1, Q_HO314_e1, Q_HO327, fun h0_ => absurd ((hoff 4 (by kernel_rfl)).symm.trans h0_) (by decide), fun h0_ => absurd ((hoff 4 (by kernel_rfl)).symm.trans h0_) (by decide), fun h0_ => absurd ((hoff 4 (by kernel_rfl)).symm.trans h0_) (by decide), fun h0_ => absurd ((hoff 4 (by kernel_rfl)).symm.trans h0_) (by decide), fun h0_ => absurd ((hoff 4 (by kernel_rfl)).symm.trans h0_) (by decide), fun h0_ => absurd ((hoff 4 (by kernel_rfl)).symm.trans h0_) (by decide), fun h0_ => absurd ((hoff 4 (by kernel_rfl)).symm.trans h0_) (by decide), Q_BK338, Q_GW338, Q_GE338, Q_NB270_338, Q_NB338_270, Q_NB271_338, Q_NB338_271, Q_NB289_338, Q_NB338_289, Q_NB296_338, Q_NB338_296, Q_NB307_338, Q_NB338_307, fun h0_ => absurd ((hoff 9 (by kernel_rfl)).symm.trans h0_) (by decide), Q_X1_, fun h0_ => absurd ((hoff 4 (by kernel_rfl)).symm.trans h0_) (by decide), fun h0_ => absurd ((hoff 5 (by kernel_rfl)).symm.trans h0_) (by decide), fun h0_ => absurd ((hoff 6 (by kernel_rfl)).symm.trans h0_) (by decide), Q_X8_⟩
      refine steps_cons ?_ ?_
      · rintro b a w' ⟨v326, v335, gb338, m1_, m4_, m5_, m6_, m8_, ha, Q_HO278, Q_HO287, Q_HO295, Q_HO305, Q_HO314, Q_BK270, Q_BK271, Q_BK289, Q_BK296, Q_BK307, Q_HB, Q_HO278_e1, Q_HO287_e1, Q_HO295_e1, Q_HO305_e1, Q_HO314_e1, Q_HO327, Q_HO278_e4, Q_HO287_e4, Q_HO295_e4, Q_HO305_e4, Q_HO314_e4, Q_HO327_e4, Q_HO336, Q_BK338, Q_GW338, Q_GE338, Q_NB270_338, Q_NB338_270, Q_NB271_338, Q_NB338_271, Q_NB289_338, Q_NB338_289, Q_NB296_338, Q_NB338_296, Q_NB307_338, Q_NB338_307, Q_BK338_e9, Q_X1_, Q_X4_, Q_X5_, Q_X6_, Q_X8_⟩ hb_ hon hoff
        refine ⟨_, rfl, fun K hK => ?_⟩
        have e82 : a.tmps[82]? = some (.agg #[.int .i64 a1_0, .int .i64 a1_1, .int .i64 a1_2]) := by rw [ha]; exact putSel_on (e := (2, 82, .agg #[.int .i64 a1_0, .int .i64 a1_1, .int .i64 a1_2])) 2 rfl rfl (hon 2 (by kernel_rfl)) rfl
        replace ha := Aside0.mk ha
        have BK270 := Aside0.mk Q_BK270
        have BK271 := Aside0.mk Q_BK271
        have BK289 := Aside0.mk Q_BK289
        have BK296 := Aside0.mk Q_BK296
        have BK307 := Aside0.mk Q_BK307
        have HB := Aside0.mk Q_HB
        have HO278 := Aside0.mk (Q_HO278_e1 (hon 1 (by kernel_rfl)) (hoff 4 (by kernel_rfl)))
        have HO287 := Aside0.mk (Q_HO287_e1 (hon 1 (by kernel_rfl)) (hoff 4 (by kernel_rfl)))
        have HO295 := Aside0.mk (Q_HO295_e1 (hon 1 (by kernel_rfl)) (hoff 4 (by kernel_rfl)))
        have HO305 := Aside0.mk (Q_HO305_e1 (hon 1 (by kernel_rfl)) (hoff 4 (by kernel_rfl)))
        have HO314 := Aside0.mk (Q_HO314_e1 (hon 1 (by kernel_rfl)) (hoff 4 (by kernel_rfl)))
        have HO327 := Aside0.mk (Q_HO327 (hon 1 (by kernel_rfl)) (hoff 4 (by kernel_rfl)))
        refine goes_ Tryd.func23 (by kernel_rfl) rfl #[.agg #[.int .i64 a1_0, .int .i64 a1_1, .int .i64 a1_2]] (by rfl) rfl rfl (by first | (simp only [List.map_toArray, List.map_cons, List.map_nil, Act.eval, Array.getD_eq_getD_getElem?, Option.getD_some, e82]; done) | (simp only [List.map_toArray, List.map_cons, List.map_nil, Act.eval, Array.getD_eq_getD_getElem?, Option.getD_some, e82]; rfl)) ?_
        with_reducible refine (laws_toClue.calls a1_0 a1_1 a1_2 t328 t329 t330 _ A31.out).mono ?_
        rintro e w102 ⟨rfl, hb⟩
        refine ⟨_, rfl, ?_⟩
        have n0_ := Aside0.mk (Kd.R_below (pkR HO278.out) hb)
        have n1_ := Aside0.mk (Kd.R_below (pkR HO287.out) hb)
        have n2_ := Aside0.mk (Kd.R_below (pkR HO295.out) hb)
        have n3_ := Aside0.mk (Kd.R_below (pkR HO305.out) hb)
        have n4_ := Aside0.mk (Kd.R_below (pkR HO314.out) hb)
        have n5_ := Aside0.mk (Kd.R_below (pkR HO327.out) hb)
        have n6_ := Aside0.mk (blk_below (g := gb270) (o := .cells #[.string a0_0, .int .i64 a0_1, .int .i64 a0_2, .slice A0_3 l0_3.length c0_3] 33 (0, 0)) (pkB BK270.out) hb)
        have n7_ := Aside0.mk (blk_below (g := gb271) (o := .cells #[.int .i64 a1_0, .int .i64 a1_1, .int .i64 a1_2] 26 (0, 0)) (pkB BK271.out) hb)
        have n8_ := Aside0.mk (blk_below (g := gb289) (o := .cells #[.string t282, .int .i64 t283, .int .i64 t284, .slice Ao84 t285.length co84] 38 (0, 0)) (pkB BK289.out) hb)
        have n9_ := Aside0.mk (blk_below (g := gb296) (o := .cells #[.string t290, .int .i64 t291, .int .i64 t292, .slice Ao64 t293.length co64] 38 (0, 0)) (pkB BK296.out) hb)
        have n10_ := Aside0.mk (blk_below (g := gb307) (o := .cells #[.string t300, .int .i64 t301, .int .i64 t302, .slice Ao83 t303.length co83] 38 (0, 0)) (pkB BK307.out) hb)
        have n11_ := Aside0.mk (below_step (by repeat (first | (with_reducible first | exact HB.out | apply below_alloc | apply pw_below_drewN | apply below_drew1 | refine below_set ?_ GE270.out | refine below_set ?_ GE271.out | refine below_set ?_ GE289.out | refine below_set ?_ GE296.out | refine below_set ?_ GE307.out) | exact HB.out)) hb)
        have z_BK338 := fun (h0_ : b 8 = true) (h1_ : b 9 = false) => (show w102.heap[gb338]? = some (.cells #[.string (⟨#[]⟩ : ByteArray), .int .i64 0, .int .i64 0, .slice none 0 0] 38 (0, 0)) from by first | exact (blk_below (g := gb338) (o := .cells #[.string (⟨#[]⟩ : ByteArray), .int .i64 0, .int .i64 0, .slice none 0 0] 38 (0, 0)) (by (with_reducible repeat (first | refine blk_drewN ?_ _ | refine blk_drew ?_ | refine blk_alloc ?_ _)); exact (Q_BK338 h0_ h1_)) hb))
        clear HO278
        clear HO287
        clear HO295
        clear HO305
        clear HO314
        clear HO327
        clear BK270
        clear BK271
        clear BK289
        clear BK296
        clear BK307
        clear HB
        have HO278 := n0_
        have HO287 := n1_
        have HO295 := n2_
        have HO305 := n3_
        have HO314 := n4_
        have HO327 := n5_
        have BK270 := n6_
        have BK271 := n7_
        have BK289 := n8_
        have BK296 := n9_
        have BK307 := n10_
        have HB := n11_
        clear n0_ n1_ n2_ n3_ n4_ n5_ n6_ n7_ n8_ n9_ n10_ n11_
        (try clear hb)
        (try clear hb2)
        (try clear hk)
        (try clear hi)
        refine hK.out _ _ ⟨v326, v335, gb338, m1_, m4_, m5_, m6_, m8_, (by rw [ha.out]; exact putSel_upk 3 hb_ rfl rfl rfl), fun h0_ => absurd ((hon 1 (by kernel_rfl)).symm.trans h0_) (by decide), fun h0_ => absurd ((hon 1 (by kernel_rfl)).symm.trans h0_) (by decide), fun h0_ => absurd ((hon 1 (by kernel_rfl)).symm.trans h0_) (by decide), fun h0_ => absurd ((hon 1 (by kernel_rfl)).symm.trans h0_) (by decide), fun h0_ => absurd ((hon 1 (by kernel_rfl)).symm.trans h0_) (by decide), (pkB BK270.out), (pkB BK271.out), (pkB BK289.out), (pkB BK296.out), (pkB BK307.out), (by repeat (first | (with_reducible first | exact HB.out | apply below_alloc | apply pw_below_drewN | apply below_drew1 | refine below_set ?_ GE270.out | refine below_set ?_ GE271.out | refine below_set ?_ GE289.out | refine below_set ?_ GE296.out | refine below_set ?_ GE307.out) | exact HB.out)), fun _ _ => (pkR HO278.out), fun _ _ => (pkR HO287.out), fun _ _ => (pkR HO295.out), fun _ _ => (pkR HO305.out), fun _ _ => (pkR HO314.out), fun _ _ => (pkR HO327.out), fun h0_ => absurd ((hoff 4 (by kernel_rfl)).symm.trans h0_) (by decide), fun h0_ => absurd ((hoff 4 (by kernel_rfl)).symm.trans h0_) (by decide), fun h0_ => absurd ((hoff 4 (by kernel_rfl)).symm.trans h0_) (by decide), fun h0_ => absurd ((hoff 4 (by kernel_rfl)).symm.trans h0_) (by decide), fun h0_ => absurd ((hoff 4 (by kernel_rfl)).symm.trans h0_) (by decide), fun h0_ => absurd ((hoff 4 (by kernel_rfl)).symm.trans h0_) (by decide), fun h0_ => absurd ((hoff 4 (by kernel_rfl)).symm.trans h0_) (by decide), z_BK338, Q_GW338, Q_GE338, Q_NB270_338, Q_NB338_270, Q_NB271_338, Q_NB338_271, Q_NB289_338, Q_NB338_289, Q_NB296_338, Q_NB338_296, Q_NB307_338, Q_NB338_307, fun h0_ => absurd ((hoff 9 (by kernel_rfl)).symm.trans h0_) (by decide), Q_X1_, fun h0_ => absurd ((hoff 4 (by kernel_rfl)).symm.trans h0_) (by decide), fun h0_ => absurd ((hoff 5 (by kernel_rfl)).symm.trans h0_) (by decide), fun h0_ => absurd ((hoff 6 (by kernel_rfl)).symm.trans h0_) (by decide), Q_X8_⟩
      refine steps_cons ?_ ?_
      · rintro b a w' ⟨v326, v335, gb338, m1_, m4_, m5_, m6_, m8_, ha, Q_HO278, Q_HO287, Q_HO295, Q_HO305, Q_HO314, Q_BK270, Q_BK271, Q_BK289, Q_BK296, Q_BK307, Q_HB, Q_HO278_e1, Q_HO287_e1, Q_HO295_e1, Q_HO305_e1, Q_HO314_e1, Q_HO327, Q_HO278_e4, Q_HO287_e4, Q_HO295_e4, Q_HO305_e4, Q_HO314_e4, Q_HO327_e4, Q_HO336, Q_BK338, Q_GW338, Q_GE338, Q_NB270_338, Q_NB338_270, Q_NB271_338, Q_NB338_271, Q_NB289_338, Q_NB338_289, Q_NB296_338, Q_NB338_296, Q_NB307_338, Q_NB338_307, Q_BK338_e9, Q_X1_, Q_X4_, Q_X5_, Q_X6_, Q_X8_⟩ hb_ hon hoff
        refine ⟨_, rfl, fun K hK => ?_⟩
        have e81 : a.tmps[81]? = some (m1_) := by rw [ha]; exact putSel_on (e := (1, 81, m1_)) 1 rfl rfl (hon 1 (by kernel_rfl)) rfl
        rw [Q_X1_ (hon 1 (by kernel_rfl))] at e81
        have e83 : a.tmps[83]? = some (.agg #[.int .i64 t328, .int .i64 t329, .int .i64 t330]) := by rw [ha]; exact putSel_on (e := (3, 83, .agg #[.int .i64 t328, .int .i64 t329, .int .i64 t330])) 3 rfl rfl (hon 3 (by kernel_rfl)) rfl
        replace ha := Aside0.mk ha
        have BK270 := Aside0.mk Q_BK270
        have BK271 := Aside0.mk Q_BK271
        have BK289 := Aside0.mk Q_BK289
        have BK296 := Aside0.mk Q_BK296
        have BK307 := Aside0.mk Q_BK307
        have HB := Aside0.mk Q_HB
        have HO278 := Aside0.mk (Q_HO278_e1 (hon 1 (by kernel_rfl)) hb_)
        have HO287 := Aside0.mk (Q_HO287_e1 (hon 1 (by kernel_rfl)) hb_)
        have HO295 := Aside0.mk (Q_HO295_e1 (hon 1 (by kernel_rfl)) hb_)
        have HO305 := Aside0.mk (Q_HO305_e1 (hon 1 (by kernel_rfl)) hb_)
        have HO314 := Aside0.mk (Q_HO314_e1 (hon 1 (by kernel_rfl)) hb_)
        have HO327 := Aside0.mk (Q_HO327 (hon 1 (by kernel_rfl)) hb_)
        obtain ⟨Ao103, co103, eo103⟩ := Kd.R_slice HO327.out
        (first | subst eo103 | (injection eo103 with f1_ f2_ f3_; have f4_ := f1_.symm; have f5_ := f3_.symm; clear f1_ f2_ f3_; subst f4_; subst f5_))
        refine goes_ Tryd.func31 (by kernel_rfl) rfl #[.agg #[.string t322, .int .i64 t323, .int .i64 t324, .slice Ao103 t325.length co103], .agg #[.int .i64 t328, .int .i64 t329, .int .i64 t330]] (by rfl) rfl rfl (by first | (simp only [List.map_toArray, List.map_cons, List.map_nil, Act.eval, Array.getD_eq_getD_getElem?, Option.getD_some, e81, e83]; done) | (simp only [List.map_toArray, List.map_cons, List.map_nil, Act.eval, Array.getD_eq_getD_getElem?, Option.getD_some, e81, e83]; rfl)) ?_
        with_reducible refine (impl_AddClue.calls k t322 t323 t324 _ _ t325 t328 t329 t330 t331 t332 t333 t334 t337 _ ?side1 ?side2 A32.out).mono ?_
        (case side1 => repeat (first | exact (Kd.R_reads' HO327.out).2.2 | (with_reducible refine Kd.C_alloc ?_ _) | (with_reducible refine Kd.C_drewN ?_ _) | (with_reducible refine Kd.C_drew ?_)))
        (case side2 => exact (Kd.R_reads' HO327.out).2.1)
        rintro e w104 ⟨v335, rfl, ho0, hb⟩
        refine ⟨_, rfl, ?_⟩
        have n0_ := Aside0.mk (Kd.R_elder' (pkR HO278.out) (Kd.R_base ho0) hb)
        have n1_ := Aside0.mk (Kd.R_elder' (pkR HO287.out) (Kd.R_base ho0) hb)
        have n2_ := Aside0.mk (Kd.R_elder' (pkR HO295.out) (Kd.R_base ho0) hb)
        have n3_ := Aside0.mk (Kd.R_elder' (pkR HO305.out) (Kd.R_base ho0) hb)
        have n4_ := Aside0.mk (Kd.R_elder' (pkR HO314.out) (Kd.R_base ho0) hb)
        have n5_ := Aside0.mk (Kd.R_elder' (pkR HO327.out) (Kd.R_base ho0) hb)
        have n6_ := Aside0.mk (Kd.R_lower (Kd.R_new' (Kd.R_new' (Kd.R_new' (Kd.R_new' (Kd.R_new' (Kd.R_new' ho0 (Kd.R_lt (pkR HO278.out))) (Kd.R_lt (pkR HO287.out))) (Kd.R_lt (pkR HO295.out))) (Kd.R_lt (pkR HO305.out))) (Kd.R_lt (pkR HO314.out))) (Kd.R_lt (pkR HO327.out))) (below_size (by repeat (first | (with_reducible first | exact HB.out | apply below_alloc | apply pw_below_drewN | apply below_drew1 | refine below_set ?_ GE270.out | refine below_set ?_ GE271.out | refine below_set ?_ GE289.out | refine below_set ?_ GE296.out | refine below_set ?_ GE307.out) | exact HB.out))))
        have n7_ := Aside0.mk (blk_below (g := gb270) (o := .cells #[.string a0_0, .int .i64 a0_1, .int .i64 a0_2, .slice A0_3 l0_3.length c0_3] 33 (0, 0)) (pkB BK270.out) hb)
        have n8_ := Aside0.mk (blk_below (g := gb271) (o := .cells #[.int .i64 a1_0, .int .i64 a1_1, .int .i64 a1_2] 26 (0, 0)) (pkB BK271.out) hb)
        have n9_ := Aside0.mk (blk_below (g := gb289) (o := .cells #[.string t282, .int .i64 t283, .int .i64 t284, .slice Ao84 t285.length co84] 38 (0, 0)) (pkB BK289.out) hb)
        have n10_ := Aside0.mk (blk_below (g := gb296) (o := .cells #[.string t290, .int .i64 t291, .int .i64 t292, .slice Ao64 t293.length co64] 38 (0, 0)) (pkB BK296.out) hb)
        have n11_ := Aside0.mk (blk_below (g := gb307) (o := .cells #[.string t300, .int .i64 t301, .int .i64 t302, .slice Ao83 t303.length co83] 38 (0, 0)) (pkB BK307.out) hb)
        have n12_ := Aside0.mk (below_step (by repeat (first | (with_reducible first | exact HB.out | apply below_alloc | apply pw_below_drewN | apply below_drew1 | refine below_set ?_ GE270.out | refine below_set ?_ GE271.out | refine below_set ?_ GE289.out | refine below_set ?_ GE296.out | refine below_set ?_ GE307.out) | exact HB.out)) hb)
        have z_BK338 := fun (h0_ : b 8 = true) (h1_ : b 9 = false) => (show w104.heap[gb338]? = some (.cells #[.string (⟨#[]⟩ : ByteArray), .int .i64 0, .int .i64 0, .slice none 0 0] 38 (0, 0)) from by first | exact (blk_below (g := gb338) (o := .cells #[.string (⟨#[]⟩ : ByteArray), .int .i64 0, .int .i64 0, .slice none 0 0] 38 (0, 0)) (by (with_reducible repeat (first | refine blk_drewN ?_ _ | refine blk_drew ?_ | refine blk_alloc ?_ _)); exact (Q_BK338 h0_ h1_)) hb))
        clear HO278
        clear HO287
        clear HO295
        clear HO305
        clear HO314
        clear HO327
        clear BK270
        clear BK271
        clear BK289
        clear BK296
        clear BK307
        clear HB
        have HO278 := n0_
        have HO287 := n1_
        have HO295 := n2_
        have HO305 := n3_
        have HO314 := n4_
        have HO327 := n5_
        have HO336 := n6_
        have BK270 := n7_
        have BK271 := n8_
        have BK289 := n9_
        have BK296 := n10_
        have BK307 := n11_
        have HB := n12_
        clear n0_ n1_ n2_ n3_ n4_ n5_ n6_ n7_ n8_ n9_ n10_ n11_ n12_
        (try clear hb)
        (try clear hb2)
        (try clear hk)
        (try clear hi)
        (try clear ho0)
        refine hK.out _ _ ⟨.slice Ao103 t325.length co103, v335, gb338, m1_, (.tuple #[.agg #[.string t331, .int .i64 t332, .int .i64 t333, v335], .bool t337]), m5_, m6_, m8_, (by rw [ha.out]; exact putSel_upk 4 hb_ rfl rfl rfl), fun h0_ => absurd ((hon 1 (by kernel_rfl)).symm.trans h0_) (by decide), fun h0_ => absurd ((hon 1 (by kernel_rfl)).symm.trans h0_) (by decide), fun h0_ => absurd ((hon 1 (by kernel_rfl)).symm.trans h0_) (by decide), fun h0_ => absurd ((hon 1 (by kernel_rfl)).symm.trans h0_) (by decide), fun h0_ => absurd ((hon 1 (by kernel_rfl)).symm.trans h0_) (by decide), (pkB BK270.out), (pkB BK271.out), (pkB BK289.out), (pkB BK296.out), (pkB BK307.out), (by repeat (first | (with_reducible first | exact HB.out | apply below_alloc | apply pw_below_drewN | apply below_drew1 | refine below_set ?_ GE270.out | refine below_set ?_ GE271.out | refine below_set ?_ GE289.out | refine below_set ?_ GE296.out | refine below_set ?_ GE307.out) | exact HB.out)), fun _ h1_ => absurd ((up_self b 4).symm.trans h1_) (by decide), fun _ h1_ => absurd ((up_self b 4).symm.trans h1_) (by decide), fun _ h1_ => absurd ((up_self b 4).symm.trans h1_) (by decide), fun _ h1_ => absurd ((up_self b 4).symm.trans h1_) (by decide), fun _ h1_ => absurd ((up_self b 4).symm.trans h1_) (by decide), fun _ h1_ => absurd ((up_self b 4).symm.trans h1_) (by decide), fun _ => (by (with_reducible repeat (first | apply Kd.R_alloc | apply Kd.R_drewN | apply Kd.R_drew)); exact Kd.R_mono HO278.out (by first | exact (fun _ hk => ⟨hk.1.1, ⟨hk.1.2.1, ⟨hk.1.2.2.1, ⟨hk.1.2.2.2.1, ⟨hk.1.2.2.2.2, hk.2⟩⟩⟩⟩⟩) | (intro _ hk; simp_all))), fun _ => (by (with_reducible repeat (first | apply Kd.R_alloc | apply Kd.R_drewN | apply Kd.R_drew)); exact Kd.R_mono HO287.out (by first | exact (fun _ hk => ⟨hk.1.1, ⟨hk.1.2.1, ⟨hk.1.2.2.1, ⟨hk.1.2.2.2.1, ⟨hk.1.2.2.2.2, hk.2⟩⟩⟩⟩⟩) | (intro _ hk; simp_all))), fun _ => (by (with_reducible repeat (first | apply Kd.R_alloc | apply Kd.R_drewN | apply Kd.R_drew)); exact Kd.R_mono HO295.out (by first | exact (fun _ hk => ⟨hk.1.1, ⟨hk.1.2.1, ⟨hk.1.2.2.1, ⟨hk.1.2.2.2.1, ⟨hk.1.2.2.2.2, hk.2⟩⟩⟩⟩⟩) | (intro _ hk; simp_all))), fun _ => (by (with_reducible repeat (first | apply Kd.R_alloc | apply Kd.R_drewN | apply Kd.R_drew)); exact Kd.R_mono HO305.out (by first | exact (fun _ hk => ⟨hk.1.1, ⟨hk.1.2.1, ⟨hk.1.2.2.1, ⟨hk.1.2.2.2.1, ⟨hk.1.2.2.2.2, hk.2⟩⟩⟩⟩⟩) | (intro _ hk; simp_all))), fun _ => (by (with_reducible repeat (first | apply Kd.R_alloc | apply Kd.R_drewN | apply Kd.R_drew)); exact Kd.R_mono HO314.out (by first | exact (fun _ hk => ⟨hk.1.1, ⟨hk.1.2.1, ⟨hk.1.2.2.1, ⟨hk.1.2.2.2.1, ⟨hk.1.2.2.2.2, hk.2⟩⟩⟩⟩⟩) | (intro _ hk; simp_all))), fun _ => (by (with_reducible repeat (first | apply Kd.R_alloc | apply Kd.R_drewN | apply Kd.R_drew)); exact Kd.R_mono HO327.out (by first | exact (fun _ hk => ⟨hk.1.1, ⟨hk.1.2.1, ⟨hk.1.2.2.1, ⟨hk.1.2.2.2.1, ⟨hk.1.2.2.2.2, hk.2⟩⟩⟩⟩⟩) | (intro _ hk; simp_all))), fun _ => (by (with_reducible repeat (first | apply Kd.R_alloc | apply Kd.R_drewN | apply Kd.R_drew)); exact Kd.R_mono HO336.out (by first | exact (fun _ hk => ⟨hk.1.1.1.1.1.2, ⟨hk.1.1.1.1.2, ⟨hk.1.1.1.2, ⟨hk.1.1.2, ⟨hk.1.2, hk.2⟩⟩⟩⟩⟩) | (intro _ hk; simp_all))), z_BK338, Q_GW338, Q_GE338, Q_NB270_338, Q_NB338_270, Q_NB271_338, Q_NB338_271, Q_NB289_338, Q_NB338_289, Q_NB296_338, Q_NB338_296, Q_NB307_338, Q_NB338_307, fun h0_ => absurd ((hoff 9 (by kernel_rfl)).symm.trans h0_) (by decide), Q_X1_, fun _ => rfl, fun h0_ => absurd ((hoff 5 (by kernel_rfl)).symm.trans h0_) (by decide), fun h0_ => absurd ((hoff 6 (by kernel_rfl)).symm.trans h0_) (by decide), Q_X8_⟩
      refine steps_cons ?_ ?_
      · rintro b a w' ⟨v326, v335, gb338, m1_, m4_, m5_, m6_, m8_, ha, Q_HO278, Q_HO287, Q_HO295, Q_HO305, Q_HO314, Q_BK270, Q_BK271, Q_BK289, Q_BK296, Q_BK307, Q_HB, Q_HO278_e1, Q_HO287_e1, Q_HO295_e1, Q_HO305_e1, Q_HO314_e1, Q_HO327, Q_HO278_e4, Q_HO287_e4, Q_HO295_e4, Q_HO305_e4, Q_HO314_e4, Q_HO327_e4, Q_HO336, Q_BK338, Q_GW338, Q_GE338, Q_NB270_338, Q_NB338_270, Q_NB271_338, Q_NB338_271, Q_NB289_338, Q_NB338_289, Q_NB296_338, Q_NB338_296, Q_NB307_338, Q_NB338_307, Q_BK338_e9, Q_X1_, Q_X4_, Q_X5_, Q_X6_, Q_X8_⟩ hb_ hon hoff
        refine ⟨_, rfl, fun K hK => ?_⟩
        have e84 : a.tmps[84]? = some (m4_) := by rw [ha]; exact putSel_on (e := (4, 84, m4_)) 4 rfl rfl (hon 4 (by kernel_rfl)) rfl
        rw [Q_X4_ (hon 4 (by kernel_rfl))] at e84
        replace ha := Aside0.mk ha
        have BK270 := Aside0.mk Q_BK270
        have BK271 := Aside0.mk Q_BK271
        have BK289 := Aside0.mk Q_BK289
        have BK296 := Aside0.mk Q_BK296
        have BK307 := Aside0.mk Q_BK307
        have HB := Aside0.mk Q_HB
        have HO278 := Aside0.mk (Q_HO278_e4 (hon 4 (by kernel_rfl)))
        have HO287 := Aside0.mk (Q_HO287_e4 (hon 4 (by kernel_rfl)))
        have HO295 := Aside0.mk (Q_HO295_e4 (hon 4 (by kernel_rfl)))
        have HO305 := Aside0.mk (Q_HO305_e4 (hon 4 (by kernel_rfl)))
        have HO314 := Aside0.mk (Q_HO314_e4 (hon 4 (by kernel_rfl)))
        have HO327 := Aside0.mk (Q_HO327_e4 (hon 4 (by kernel_rfl)))
        have HO336 := Aside0.mk (Q_HO336 (hon 4 (by kernel_rfl)))
        refine value_ (w1 := w') (v := .tuple #[.agg #[.string t331, .int .i64 t332, .int .i64 t333, v335], .bool t337]) (by rfl) rfl ?_ ?_
        · go_simp
          (try simp only [i64_w])
          try rfl
        refine hK.out _ _ ⟨v326, v335, gb338, m1_, m4_, (.tuple #[.agg #[.string t331, .int .i64 t332, .int .i64 t333, v335], .bool t337]), m6_, m8_, (by rw [ha.out]; exact putSel_upk 5 hb_ rfl rfl rfl), fun h0_ => absurd ((hon 1 (by kernel_rfl)).symm.trans h0_) (by decide), fun h0_ => absurd ((hon 1 (by kernel_rfl)).symm.trans h0_) (by decide), fun h0_ => absurd ((hon 1 (by kernel_rfl)).symm.trans h0_) (by decide), fun h0_ => absurd ((hon 1 (by kernel_rfl)).symm.trans h0_) (by decide), fun h0_ => absurd ((hon 1 (by kernel_rfl)).symm.trans h0_) (by decide), Q_BK270, Q_BK271, Q_BK289, Q_BK296, Q_BK307, Q_HB, fun _ h1_ => absurd ((hon 4 (by kernel_rfl)).symm.trans h1_) (by decide), fun _ h1_ => absurd ((hon 4 (by kernel_rfl)).symm.trans h1_) (by decide), fun _ h1_ => absurd ((hon 4 (by kernel_rfl)).symm.trans h1_) (by decide), fun _ h1_ => absurd ((hon 4 (by kernel_rfl)).symm.trans h1_) (by decide), fun _ h1_ => absurd ((hon 4 (by kernel_rfl)).symm.trans h1_) (by decide), fun _ h1_ => absurd ((hon 4 (by kernel_rfl)).symm.trans h1_) (by decide), Q_HO278_e4, Q_HO287_e4, Q_HO295_e4, Q_HO305_e4, Q_HO314_e4, Q_HO327_e4, Q_HO336, Q_BK338, Q_GW338, Q_GE338, Q_NB270_338, Q_NB338_270, Q_NB271_338, Q_NB338_271, Q_NB289_338, Q_NB338_289, Q_NB296_338, Q_NB338_296, Q_NB307_338, Q_NB338_307, fun h0_ => absurd ((hoff 9 (by kernel_rfl)).symm.trans h0_) (by decide), Q_X1_, Q_X4_, fun _ => rfl, fun h0_ => absurd ((hoff 6 (by kernel_rfl)).symm.trans h0_) (by decide), Q_X8_⟩
      refine steps_cons ?_ ?_
      · rintro b a w' ⟨v326, v335, gb338, m1_, m4_, m5_, m6_, m8_, ha, Q_HO278, Q_HO287, Q_HO295, Q_HO305, Q_HO314, Q_BK270, Q_BK271, Q_BK289, Q_BK296, Q_BK307, Q_HB, Q_HO278_e1, Q_HO287_e1, Q_HO295_e1, Q_HO305_e1, Q_HO314_e1, Q_HO327, Q_HO278_e4, Q_HO287_e4, Q_HO295_e4, Q_HO305_e4, Q_HO314_e4, Q_HO327_e4, Q_HO336, Q_BK338, Q_GW338, Q_GE338, Q_NB270_338, Q_NB338_270, Q_NB271_338, Q_NB338_271, Q_NB289_338, Q_NB338_289, Q_NB296_338, Q_NB338_296, Q_NB307_338, Q_NB338_307, Q_BK338_e9, Q_X1_, Q_X4_, Q_X5_, Q_X6_, Q_X8_⟩ hb_ hon hoff
        refine ⟨_, rfl, fun K hK => ?_⟩
        have e79 : a.tmps[79]? = some (m5_) := by rw [ha]; exact putSel_on (e := (5, 79, m5_)) 5 rfl rfl (hon 5 (by kernel_rfl)) rfl
        rw [Q_X5_ (hon 5 (by kernel_rfl))] at e79
        replace ha := Aside0.mk ha
        have BK270 := Aside0.mk Q_BK270
        have BK271 := Aside0.mk Q_BK271
        have BK289 := Aside0.mk Q_BK289
        have BK296 := Aside0.mk Q_BK296
        have BK307 := Aside0.mk Q_BK307
        have HB := Aside0.mk Q_HB
        have HO278 := Aside0.mk (Q_HO278_e4 (hon 4 (by kernel_rfl)))
        have HO287 := Aside0.mk (Q_HO287_e4 (hon 4 (by kernel_rfl)))
        have HO295 := Aside0.mk (Q_HO295_e4 (hon 4 (by kernel_rfl)))
        have HO305 := Aside0.mk (Q_HO305_e4 (hon 4 (by kernel_rfl)))
        have HO314 := Aside0.mk (Q_HO314_e4 (hon 4 (by kernel_rfl)))
        have HO327 := Aside0.mk (Q_HO327_e4 (hon 4 (by kernel_rfl)))
        have HO336 := Aside0.mk (Q_HO336 (hon 4 (by kernel_rfl)))
        refine value_ (w1 := w') (v := .agg #[.string t331, .int .i64 t332, .int .i64 t333, v335]) (by rfl) rfl ?_ ?_
        · go_simp
          (try simp only [i64_w])
          try rfl
        refine hK.out _ _ ⟨v326, v335, gb338, m1_, m4_, m5_, (.agg #[.string t331, .int .i64 t332, .int .i64 t333, v335]), m8_, (by rw [ha.out]; exact putSel_upk 6 hb_ rfl rfl rfl), fun h0_ => absurd ((hon 1 (by kernel_rfl)).symm.trans h0_) (by decide), fun h0_ => absurd ((hon 1 (by kernel_rfl)).symm.trans h0_) (by decide), fun h0_ => absurd ((hon 1 (by kernel_rfl)).symm.trans h0_) (by decide), fun h0_ => absurd ((hon 1 (by kernel_rfl)).symm.trans h0_) (by decide), fun h0_ => absurd ((hon 1 (by kernel_rfl)).symm.trans h0_) (by decide), Q_BK270, Q_BK271, Q_BK289, Q_BK296, Q_BK307, Q_HB, fun _ h1_ => absurd ((hon 4 (by kernel_rfl)).symm.trans h1_) (by decide), fun _ h1_ => absurd ((hon 4 (by kernel_rfl)).symm.trans h1_) (by decide), fun _ h1_ => absurd ((hon 4 (by kernel_rfl)).symm.trans h1_) (by decide), fun _ h1_ => absurd ((hon 4 (by kernel_rfl)).symm.trans h1_) (by decide), fun _ h1_ => absurd ((hon 4 (by kernel_rfl)).symm.trans h1_) (by decide), fun _ h1_ => absurd ((hon 4 (by kernel_rfl)).symm.trans h1_) (by decide), Q_HO278_e4, Q_HO287_e4, Q_HO295_e4, Q_HO305_e4, Q_HO314_e4, Q_HO327_e4, Q_HO336, Q_BK338, Q_GW338, Q_GE338, Q_NB270_338, Q_NB338_270, Q_NB271_338, Q_NB338_271, Q_NB289_338, Q_NB338_289, Q_NB296_338, Q_NB338_296, Q_NB307_338, Q_NB338_307, fun h0_ => absurd ((hoff 9 (by kernel_rfl)).symm.trans h0_) (by decide), Q_X1_, Q_X4_, Q_X5_, fun _ => rfl, Q_X8_⟩
      refine steps_cons ?_ ?_
      · rintro b a w' ⟨v326, v335, gb338, m1_, m4_, m5_, m6_, m8_, ha, Q_HO278, Q_HO287, Q_HO295, Q_HO305, Q_HO314, Q_BK270, Q_BK271, Q_BK289, Q_BK296, Q_BK307, Q_HB, Q_HO278_e1, Q_HO287_e1, Q_HO295_e1, Q_HO305_e1, Q_HO314_e1, Q_HO327, Q_HO278_e4, Q_HO287_e4, Q_HO295_e4, Q_HO305_e4, Q_HO314_e4, Q_HO327_e4, Q_HO336, Q_BK338, Q_GW338, Q_GE338, Q_NB270_338, Q_NB338_270, Q_NB271_338, Q_NB338_271, Q_NB289_338, Q_NB338_289, Q_NB296_338, Q_NB338_296, Q_NB307_338, Q_NB338_307, Q_BK338_e9, Q_X1_, Q_X4_, Q_X5_, Q_X6_, Q_X8_⟩ hb_ hon hoff
        refine ⟨_, rfl, fun K hK => ?_⟩
        have e79 : a.tmps[79]? = some (m5_) := by rw [ha]; exact putSel_on (e := (5, 79, m5_)) 5 rfl rfl (hon 5 (by kernel_rfl)) rfl
        rw [Q_X5_ (hon 5 (by kernel_rfl))] at e79
        replace ha := Aside0.mk ha
        have BK270 := Aside0.mk Q_BK270
        have BK271 := Aside0.mk Q_BK271
        have BK289 := Aside0.mk Q_BK289
        have BK296 := Aside0.mk Q_BK296
        have BK307 := Aside0.mk Q_BK307
        have HB := Aside0.mk Q_HB
        have HO278 := Aside0.mk (Q_HO278_e4 (hon 4 (by kernel_rfl)))
        have HO287 := Aside0.mk (Q_HO287_e4 (hon 4 (by kernel_rfl)))
        have HO295 := Aside0.mk (Q_HO295_e4 (hon 4 (by kernel_rfl)))
        have HO305 := Aside0.mk (Q_HO305_e4 (hon 4 (by kernel_rfl)))
        have HO314 := Aside0.mk (Q_HO314_e4 (hon 4 (by kernel_rfl)))
        have HO327 := Aside0.mk (Q_HO327_e4 (hon 4 (by kernel_rfl)))
        have HO336 := Aside0.mk (Q_HO336 (hon 4 (by kernel_rfl)))
        refine value_ (w1 := w') (v := .bool t337) (by rfl) rfl ?_ ?_
        · go_simp
          (try simp only [i64_w])
          try rfl
        refine hK.out _ _ ⟨v326, v335, gb338, m1_, m4_, m5_, m6_, m8_, (by rw [ha.out]; exact putSel_upk 7 hb_ rfl rfl rfl), fun h0_ => absurd ((hon 1 (by kernel_rfl)).symm.trans h0_) (by decide), fun h0_ => absurd ((hon 1 (by kernel_rfl)).symm.trans h0_) (by decide), fun h0_ => absurd ((hon 1 (by kernel_rfl)).symm.trans h0_) (by decide), fun h0_ => absurd ((hon 1 (by kernel_rfl)).symm.trans h0_) (by decide), fun h0_ => absurd ((hon 1 (by kernel_rfl)).symm.trans h0_) (by decide), Q_BK270, Q_BK271, Q_BK289, Q_BK296, Q_BK307, Q_HB, fun _ h1_ => absurd ((hon 4 (by kernel_rfl)).symm.trans h1_) (by decide), fun _ h1_ => absurd ((hon 4 (by kernel_rfl)).symm.trans h1_) (by decide), fun _ h1_ => absurd ((hon 4 (by kernel_rfl)).symm.trans h1_) (by decide), fun _ h1_ => absurd ((hon 4 (by kernel_rfl)).symm.trans h1_) (by decide), fun _ h1_ => absurd ((hon 4 (by kernel_rfl)).symm.trans h1_) (by decide), fun _ h1_ => absurd ((hon 4 (by kernel_rfl)).symm.trans h1_) (by decide), Q_HO278_e4, Q_HO287_e4, Q_HO295_e4, Q_HO305_e4, Q_HO314_e4, Q_HO327_e4, Q_HO336, Q_BK338, Q_GW338, Q_GE338, Q_NB270_338, Q_NB338_270, Q_NB271_338, Q_NB338_271, Q_NB289_338, Q_NB338_289, Q_NB296_338, Q_NB338_296, Q_NB307_338, Q_NB338_307, Q_BK338_e9, Q_X1_, Q_X4_, Q_X5_, Q_X6_, Q_X8_⟩
      refine steps_cons ?_ ?_
      · rintro b a w' ⟨v326, v335, gb338, m1_, m4_, m5_, m6_, m8_, ha, Q_HO278, Q_HO287, Q_HO295, Q_HO305, Q_HO314, Q_BK270, Q_BK271, Q_BK289, Q_BK296, Q_BK307, Q_HB, Q_HO278_e1, Q_HO287_e1, Q_HO295_e1, Q_HO305_e1, Q_HO314_e1, Q_HO327, Q_HO278_e4, Q_HO287_e4, Q_HO295_e4, Q_HO305_e4, Q_HO314_e4, Q_HO327_e4, Q_HO336, Q_BK338, Q_GW338, Q_GE338, Q_NB270_338, Q_NB338_270, Q_NB271_338, Q_NB338_271, Q_NB289_338, Q_NB338_289, Q_NB296_338, Q_NB338_296, Q_NB307_338, Q_NB338_307, Q_BK338_e9, Q_X1_, Q_X4_, Q_X5_, Q_X6_, Q_X8_⟩ hb_ hon hoff
        refine ⟨_, rfl, fun K hK => ?_⟩
        replace ha := Aside0.mk ha
        have BK270 := Aside0.mk Q_BK270
        have BK271 := Aside0.mk Q_BK271
        have BK289 := Aside0.mk Q_BK289
        have BK296 := Aside0.mk Q_BK296
        have BK307 := Aside0.mk Q_BK307
        have HB := Aside0.mk Q_HB
        refine box_step ?hg (N := 14) ?hd (cs := #[.string (⟨#[]⟩ : ByteArray), .int .i64 0, .int .i64 0, .slice none 0 0]) (t := 38) ?hr ?_; (case hd => rfl); (case hg => rfl); (case hr => first | (go_simp; done) | (go_simp; rfl))
        intro gb338 hg w100 hbox hb
        have n5_ := Aside0.mk (blk_below (g := gb270) (o := .cells #[.string a0_0, .int .i64 a0_1, .int .i64 a0_2, .slice A0_3 l0_3.length c0_3] 33 (0, 0)) (pkB BK270.out) hb)
        have n6_ := Aside0.mk (blk_below (g := gb271) (o := .cells #[.int .i64 a1_0, .int .i64 a1_1, .int .i64 a1_2] 26 (0, 0)) (pkB BK271.out) hb)
        have n7_ := Aside0.mk (blk_below (g := gb289) (o := .cells #[.string t282, .int .i64 t283, .int .i64 t284, .slice Ao84 t285.length co84] 38 (0, 0)) (pkB BK289.out) hb)
        have n8_ := Aside0.mk (blk_below (g := gb296) (o := .cells #[.string t290, .int .i64 t291, .int .i64 t292, .slice Ao64 t293.length co64] 38 (0, 0)) (pkB BK296.out) hb)
        have n9_ := Aside0.mk (blk_below (g := gb307) (o := .cells #[.string t300, .int .i64 t301, .int .i64 t302, .slice Ao83 t303.length co83] 38 (0, 0)) (pkB BK307.out) hb)
        have n10_ := Aside0.mk (below_step (by repeat (first | (with_reducible first | exact HB.out | apply below_alloc | apply pw_below_drewN | apply below_drew1 | refine below_set ?_ GE270.out | refine below_set ?_ GE271.out | refine below_set ?_ GE289.out | refine below_set ?_ GE296.out | refine below_set ?_ GE307.out) | exact HB.out)) hb)
        have n11_ := Aside0.mk (hbox)
        have n12_ := Aside0.mk ((by rw [hg]; exact (below_size (by repeat (first | (with_reducible first | exact HB.out | apply below_alloc | apply pw_below_drewN | apply below_drew1 | refine below_set ?_ GE270.out | refine below_set ?_ GE271.out | refine below_set ?_ GE289.out | refine below_set ?_ GE296.out | refine below_set ?_ GE307.out) | exact HB.out))) : w.heap.size ≤ gb338))
        have n13_ := Aside0.mk ((by rw [hg]; exact (below_size (by repeat (first | (with_reducible first | exact HB.out | apply below_alloc | apply pw_below_drewN | apply below_drew1 | refine below_set ?_ GE270.out | refine below_set ?_ GE271.out | refine below_set ?_ GE289.out | refine below_set ?_ GE296.out | refine below_set ?_ GE307.out) | exact HB.out))) : w.heap.size ≤ gb338))
        have n14_ := Aside0.mk ((by rw [hg]; exact Nat.ne_of_lt (blk_lt (g := gb270) (o := .cells #[.string a0_0, .int .i64 a0_1, .int .i64 a0_2, .slice A0_3 l0_3.length c0_3] 33 (0, 0)) (pkB BK270.out)) : gb270 ≠ gb338))
        have n15_ := Aside0.mk ((by rw [hg]; exact Nat.ne_of_gt (blk_lt (g := gb270) (o := .cells #[.string a0_0, .int .i64 a0_1, .int .i64 a0_2, .slice A0_3 l0_3.length c0_3] 33 (0, 0)) (pkB BK270.out)) : gb338 ≠ gb270))
        have n16_ := Aside0.mk ((by rw [hg]; exact Nat.ne_of_lt (blk_lt (g := gb271) (o := .cells #[.int .i64 a1_0, .int .i64 a1_1, .int .i64 a1_2] 26 (0, 0)) (pkB BK271.out)) : gb271 ≠ gb338))
        have n17_ := Aside0.mk ((by rw [hg]; exact Nat.ne_of_gt (blk_lt (g := gb271) (o := .cells #[.int .i64 a1_0, .int .i64 a1_1, .int .i64 a1_2] 26 (0, 0)) (pkB BK271.out)) : gb338 ≠ gb271))
        have n18_ := Aside0.mk ((by rw [hg]; exact Nat.ne_of_lt (blk_lt (g := gb289) (o := .cells #[.string t282, .int .i64 t283, .int .i64 t284, .slice Ao84 t285.length co84] 38 (0, 0)) (pkB BK289.out)) : gb289 ≠ gb338))
        have n19_ := Aside0.mk ((by rw [hg]; exact Nat.ne_of_gt (blk_lt (g := gb289) (o := .cells #[.string t282, .int .i64 t283, .int .i64 t284, .slice Ao84 t285.length co84] 38 (0, 0)) (pkB BK289.out)) : gb338 ≠ gb289))
        have n20_ := Aside0.mk ((by rw [hg]; exact Nat.ne_of_lt (blk_lt (g := gb296) (o := .cells #[.string t290, .int .i64 t291, .int .i64 t292, .slice Ao64 t293.length co64] 38 (0, 0)) (pkB BK296.out)) : gb296 ≠ gb338))
        have n21_ := Aside0.mk ((by rw [hg]; exact Nat.ne_of_gt (blk_lt (g := gb296) (o := .cells #[.string t290, .int .i64 t291, .int .i64 t292, .slice Ao64 t293.length co64] 38 (0, 0)) (pkB BK296.out)) : gb338 ≠ gb296))
        have n22_ := Aside0.mk ((by rw [hg]; exact Nat.ne_of_lt (blk_lt (g := gb307) (o := .cells #[.string t300, .int .i64 t301, .int .i64 t302, .slice Ao83 t303.length co83] 38 (0, 0)) (pkB BK307.out)) : gb307 ≠ gb338))
        have n23_ := Aside0.mk ((by rw [hg]; exact Nat.ne_of_gt (blk_lt (g := gb307) (o := .cells #[.string t300, .int .i64 t301, .int .i64 t302, .slice Ao83 t303.length co83] 38 (0, 0)) (pkB BK307.out)) : gb338 ≠ gb307))
        have z_HO278 := fun (h0_ : b 1 = false) => (show Kd.R k28 28 w100 w.heap.size (fun k_ => some k_ ≠ (.slice Ao84 t285.length co84 : Value).ownBlock ∧ some k_ ≠ (.slice Ao64 t293.length co64 : Value).ownBlock ∧ some k_ ≠ (.slice Ao83 t303.length co83 : Value).ownBlock ∧ some k_ ≠ (.slice Ao88 t312.length co88 : Value).ownBlock) v277 t276 from by first | exact (Kd.R_below (by (with_reducible repeat (first | apply Kd.R_alloc | apply Kd.R_drewN | apply Kd.R_drew)); exact (Q_HO278 h0_)) hb) | exact Kd.R_mono (Kd.R_below (by (with_reducible repeat (first | apply Kd.R_alloc | apply Kd.R_drewN | apply Kd.R_drew)); exact (Q_HO278 h0_)) hb) (fun _ h_ => by first | trivial | exact h_ | exact h_.1))
        have z_HO287 := fun (h0_ : b 1 = false) => (show Kd.R k28 28 w100 w.heap.size (fun k_ => some k_ ≠ (v277 : Value).ownBlock ∧ some k_ ≠ (.slice Ao64 t293.length co64 : Value).ownBlock ∧ some k_ ≠ (.slice Ao83 t303.length co83 : Value).ownBlock ∧ some k_ ≠ (.slice Ao88 t312.length co88 : Value).ownBlock) (.slice Ao84 t285.length co84) t285 from by first | exact (Kd.R_below (by (with_reducible repeat (first | apply Kd.R_alloc | apply Kd.R_drewN | apply Kd.R_drew)); exact (Q_HO287 h0_)) hb) | exact Kd.R_mono (Kd.R_below (by (with_reducible repeat (first | apply Kd.R_alloc | apply Kd.R_drewN | apply Kd.R_drew)); exact (Q_HO287 h0_)) hb) (fun _ h_ => by first | trivial | exact h_ | exact h_.1))
        have z_HO295 := fun (h0_ : b 1 = false) => (show Kd.R k28 28 w100 w.heap.size (fun k_ => some k_ ≠ (v277 : Value).ownBlock ∧ some k_ ≠ (.slice Ao84 t285.length co84 : Value).ownBlock ∧ some k_ ≠ (.slice Ao83 t303.length co83 : Value).ownBlock ∧ some k_ ≠ (.slice Ao88 t312.length co88 : Value).ownBlock) (.slice Ao64 t293.length co64) t317 from by first | exact (Kd.R_below (by (with_reducible repeat (first | apply Kd.R_alloc | apply Kd.R_drewN | apply Kd.R_drew)); exact (Q_HO295 h0_)) hb) | exact Kd.R_mono (Kd.R_below (by (with_reducible repeat (first | apply Kd.R_alloc | apply Kd.R_drewN | apply Kd.R_drew)); exact (Q_HO295 h0_)) hb) (fun _ h_ => by first | trivial | exact h_ | exact h_.1))
        have z_HO305 := fun (h0_ : b 1 = false) => (show Kd.R k28 28 w100 w.heap.size (fun k_ => some k_ ≠ (v277 : Value).ownBlock ∧ some k_ ≠ (.slice Ao84 t285.length co84 : Value).ownBlock ∧ some k_ ≠ (.slice Ao64 t293.length co64 : Value).ownBlock ∧ some k_ ≠ (.slice Ao88 t312.length co88 : Value).ownBlock) (.slice Ao83 t303.length co83) t320 from by first | exact (Kd.R_below (by (with_reducible repeat (first | apply Kd.R_alloc | apply Kd.R_drewN | apply Kd.R_drew)); exact (Q_HO305 h0_)) hb) | exact Kd.R_mono (Kd.R_below (by (with_reducible repeat (first | apply Kd.R_alloc | apply Kd.R_drewN | apply Kd.R_drew)); exact (Q_HO305 h0_)) hb) (fun _ h_ => by first | trivial | exact h_ | exact h_.1))
        have z_HO314 := fun (h0_ : b 1 = false) => (show Kd.R k28 28 w100 w.heap.size (fun k_ => some k_ ≠ (v277 : Value).ownBlock ∧ some k_ ≠ (.slice Ao84 t285.length co84 : Value).ownBlock ∧ some k_ ≠ (.slice Ao64 t293.length co64 : Value).ownBlock ∧ some k_ ≠ (.slice Ao83 t303.length co83 : Value).ownBlock) (.slice Ao88 t312.length co88) t312 from by first | exact (Kd.R_below (by (with_reducible repeat (first | apply Kd.R_alloc | apply Kd.R_drewN | apply Kd.R_drew)); exact (Q_HO314 h0_)) hb) | exact Kd.R_mono (Kd.R_below (by (with_reducible repeat (first | apply Kd.R_alloc | apply Kd.R_drewN | apply Kd.R_drew)); exact (Q_HO314 h0_)) hb) (fun _ h_ => by first | trivial | exact h_ | exact h_.1))
        have z_HO278_e1 := fun (h0_ : b 1 = true) (h1_ : b 4 = false) => (show Kd.R k28 28 w100 w.heap.size (fun k_ => some k_ ≠ (.slice Ao84 t285.length co84 : Value).ownBlock ∧ some k_ ≠ (.slice Ao64 t293.length co64 : Value).ownBlock ∧ some k_ ≠ (.slice Ao83 t303.length co83 : Value).ownBlock ∧ some k_ ≠ (.slice Ao88 t312.length co88 : Value).ownBlock ∧ some k_ ≠ (v326 : Value).ownBlock) v277 t276 from by first | exact (Kd.R_below (by (with_reducible repeat (first | apply Kd.R_alloc | apply Kd.R_drewN | apply Kd.R_drew)); exact (Q_HO278_e1 h0_ h1_)) hb) | exact Kd.R_mono (Kd.R_below (by (with_reducible repeat (first | apply Kd.R_alloc | apply Kd.R_drewN | apply Kd.R_drew)); exact (Q_HO278_e1 h0_ h1_)) hb) (fun _ h_ => by first | trivial | exact h_ | exact h_.1))
        have z_HO287_e1 := fun (h0_ : b 1 = true) (h1_ : b 4 = false) => (show Kd.R k28 28 w100 w.heap.size (fun k_ => some k_ ≠ (v277 : Value).ownBlock ∧ some k_ ≠ (.slice Ao64 t293.length co64 : Value).ownBlock ∧ some k_ ≠ (.slice Ao83 t303.length co83 : Value).ownBlock ∧ some k_ ≠ (.slice Ao88 t312.length co88 : Value).ownBlock ∧ some k_ ≠ (v326 : Value).ownBlock) (.slice Ao84 t285.length co84) t285 from by first | exact (Kd.R_below (by (with_reducible repeat (first | apply Kd.R_alloc | apply Kd.R_drewN | apply Kd.R_drew)); exact (Q_HO287_e1 h0_ h1_)) hb) | exact Kd.R_mono (Kd.R_below (by (with_reducible repeat (first | apply Kd.R_alloc | apply Kd.R_drewN | apply Kd.R_drew)); exact (Q_HO287_e1 h0_ h1_)) hb) (fun _ h_ => by first | trivial | exact h_ | exact h_.1))
        have z_HO295_e1 := fun (h0_ : b 1 = true) (h1_ : b 4 = false) => (show Kd.R k28 28 w100 w.heap.size (fun k_ => some k_ ≠ (v277 : Value).ownBlock ∧ some k_ ≠ (.slice Ao84 t285.length co84 : Value).ownBlock ∧ some k_ ≠ (.slice Ao83 t303.length co83 : Value).ownBlock ∧ some k_ ≠ (.slice Ao88 t312.length co88 : Value).ownBlock ∧ some k_ ≠ (v326 : Value).ownBlock) (.slice Ao64 t293.length co64) t317 from by first | exact (Kd.R_below (by (with_reducible repeat (first | apply Kd.R_alloc | apply Kd.R_drewN | apply Kd.R_drew)); exact (Q_HO295_e1 h0_ h1_)) hb) | exact Kd.R_mono (Kd.R_below (by (with_reducible repeat (first | apply Kd.R_alloc | apply Kd.R_drewN | apply Kd.R_drew)); exact (Q_HO295_e1 h0_ h1_)) hb) (fun _ h_ => by first | trivial | exact h_ | exact h_.1))
        have z_HO305_e1 := fun (h0_ : b 1 = true) (h1_ : b 4 = false) => (show Kd.R k28 28 w100 w.heap.size (fun k_ => some k_ ≠ (v277 : Value).ownBlock ∧ some k_ ≠ (.slice Ao84 t285.length co84 : Value).ownBlock ∧ some k_ ≠ (.slice Ao64 t293.length co64 : Value).ownBlock ∧ some k_ ≠ (.slice Ao88 t312.length co88 : Value).ownBlock ∧ some k_ ≠ (v326 : Value).ownBlock) (.slice Ao83 t303.length co83) t320 from by first | exact (Kd.R_below (by (with_reducible repeat (first | apply Kd.R_alloc | apply Kd.R_drewN | apply Kd.R_drew)); exact (Q_HO305_e1 h0_ h1_)) hb) | exact Kd.R_mono (Kd.R_below (by (with_reducible repeat (first | apply Kd.R_alloc | apply Kd.R_drewN | apply Kd.R_drew)); exact (Q_HO305_e1 h0_ h1_)) hb) (fun _ h_ => by first | trivial | exact h_ | exact h_.1))
        have z_HO314_e1 := fun (h0_ : b 1 = true) (h1_ : b 4 = false) => (show Kd.R k28 28 w100 w.heap.size (fun k_ => some k_ ≠ (v277 : Value).ownBlock ∧ some k_ ≠ (.slice Ao84 t285.length co84 : Value).ownBlock ∧ some k_ ≠ (.slice Ao64 t293.length co64 : Value).ownBlock ∧ some k_ ≠ (.slice Ao83 t303.length co83 : Value).ownBlock ∧ some k_ ≠ (v326 : Value).ownBlock) (.slice Ao88 t312.length co88) t312 from by first | exact (Kd.R_below (by (with_reducible repeat (first | apply Kd.R_alloc | apply Kd.R_drewN | apply Kd.R_drew)); exact (Q_HO314_e1 h0_ h1_)) hb) | exact Kd.R_mono (Kd.R_below (by (with_reducible repeat (first | apply Kd.R_alloc | apply Kd.R_drewN | apply Kd.R_drew)); exact (Q_HO314_e1 h0_ h1_)) hb) (fun _ h_ => by first | trivial | exact h_ | exact h_.1))
        have z_HO327 := fun (h0_ : b 1 = true) (h1_ : b 4 = false) => (show Kd.R k28 28 w100 w.heap.size (fun k_ => some k_ ≠ (v277 : Value).ownBlock ∧ some k_ ≠ (.slice Ao84 t285.length co84 : Value).ownBlock ∧ some k_ ≠ (.slice Ao64 t293.length co64 : Value).ownBlock ∧ some k_ ≠ (.slice Ao83 t303.length co83 : Value).ownBlock ∧ some k_ ≠ (.slice Ao88 t312.length co88 : Value).ownBlock) v326 t325 from by first | exact (Kd.R_below (by (with_reducible repeat (first | apply Kd.R_alloc | apply Kd.R_drewN | apply Kd.R_drew)); exact (Q_HO327 h0_ h1_)) hb) | exact Kd.R_mono (Kd.R_below (by (with_reducible repeat (first | apply Kd.R_alloc | apply Kd.R_drewN | apply Kd.R_drew)); exact (Q_HO327 h0_ h1_)) hb) (fun _ h_ => by first | trivial | exact h_ | exact h_.1))
        have z_HO278_e4 := fun (h0_ : b 4 = true) => (show Kd.R k28 28 w100 w.heap.size (fun k_ => some k_ ≠ (.slice Ao84 t285.length co84 : Value).ownBlock ∧ some k_ ≠ (.slice Ao64 t293.length co64 : Value).ownBlock ∧ some k_ ≠ (.slice Ao83 t303.length co83 : Value).ownBlock ∧ some k_ ≠ (.slice Ao88 t312.length co88 : Value).ownBlock ∧ some k_ ≠ (v326 : Value).ownBlock ∧ some k_ ≠ (v335 : Value).ownBlock) v277 t276 from by first | exact (Kd.R_below (by (with_reducible repeat (first | apply Kd.R_alloc | apply Kd.R_drewN | apply Kd.R_drew)); exact (Q_HO278_e4 h0_)) hb) | exact Kd.R_mono (Kd.R_below (by (with_reducible repeat (first | apply Kd.R_alloc | apply Kd.R_drewN | apply Kd.R_drew)); exact (Q_HO278_e4 h0_)) hb) (fun _ h_ => by first | trivial | exact h_ | exact h_.1))
        have z_HO287_e4 := fun (h0_ : b 4 = true) => (show Kd.R k28 28 w100 w.heap.size (fun k_ => some k_ ≠ (v277 : Value).ownBlock ∧ some k_ ≠ (.slice Ao64 t293.length co64 : Value).ownBlock ∧ some k_ ≠ (.slice Ao83 t303.length co83 : Value).ownBlock ∧ some k_ ≠ (.slice Ao88 t312.length co88 : Value).ownBlock ∧ some k_ ≠ (v326 : Value).ownBlock ∧ some k_ ≠ (v335 : Value).ownBlock) (.slice Ao84 t285.length co84) t285 from by first | exact (Kd.R_below (by (with_reducible repeat (first | apply Kd.R_alloc | apply Kd.R_drewN | apply Kd.R_drew)); exact (Q_HO287_e4 h0_)) hb) | exact Kd.R_mono (Kd.R_below (by (with_reducible repeat (first | apply Kd.R_alloc | apply Kd.R_drewN | apply Kd.R_drew)); exact (Q_HO287_e4 h0_)) hb) (fun _ h_ => by first | trivial | exact h_ | exact h_.1))
        have z_HO295_e4 := fun (h0_ : b 4 = true) => (show Kd.R k28 28 w100 w.heap.size (fun k_ => some k_ ≠ (v277 : Value).ownBlock ∧ some k_ ≠ (.slice Ao84 t285.length co84 : Value).ownBlock ∧ some k_ ≠ (.slice Ao83 t303.length co83 : Value).ownBlock ∧ some k_ ≠ (.slice Ao88 t312.length co88 : Value).ownBlock ∧ some k_ ≠ (v326 : Value).ownBlock ∧ some k_ ≠ (v335 : Value).ownBlock) (.slice Ao64 t293.length co64) t317 from by first | exact (Kd.R_below (by (with_reducible repeat (first | apply Kd.R_alloc | apply Kd.R_drewN | apply Kd.R_drew)); exact (Q_HO295_e4 h0_)) hb) | exact Kd.R_mono (Kd.R_below (by (with_reducible repeat (first | apply Kd.R_alloc | apply Kd.R_drewN | apply Kd.R_drew)); exact (Q_HO295_e4 h0_)) hb) (fun _ h_ => by first | trivial | exact h_ | exact h_.1))
        have z_HO305_e4 := fun (h0_ : b 4 = true) => (show Kd.R k28 28 w100 w.heap.size (fun k_ => some k_ ≠ (v277 : Value).ownBlock ∧ some k_ ≠ (.slice Ao84 t285.length co84 : Value).ownBlock ∧ some k_ ≠ (.slice Ao64 t293.length co64 : Value).ownBlock ∧ some k_ ≠ (.slice Ao88 t312.length co88 : Value).ownBlock ∧ some k_ ≠ (v326 : Value).ownBlock ∧ some k_ ≠ (v335 : Value).ownBlock) (.slice Ao83 t303.length co83) t320 from by first | exact (Kd.R_below (by (with_reducible repeat (first | apply Kd.R_alloc | apply Kd.R_drewN | apply Kd.R_drew)); exact (Q_HO305_e4 h0_)) hb) | exact Kd.R_mono (Kd.R_below (by (with_reducible repeat (first | apply Kd.R_alloc | apply Kd.R_drewN | apply Kd.R_drew)); exact (Q_HO305_e4 h0_)) hb) (fun _ h_ => by first | trivial | exact h_ | exact h_.1))
        have z_HO314_e4 := fun (h0_ : b 4 = true) => (show Kd.R k28 28 w100 w.heap.size (fun k_ => some k_ ≠ (v277 : Value).ownBlock ∧ some k_ ≠ (.slice Ao84 t285.length co84 : Value).ownBlock ∧ some k_ ≠ (.slice Ao64 t293.length co64 : Value).ownBlock ∧ some k_ ≠ (.slice Ao83 t303.length co83 : Value).ownBlock ∧ some k_ ≠ (v326 : Value).ownBlock ∧ some k_ ≠ (v335 : Value).ownBlock) (.slice Ao88 t312.length co88) t312 from by first | exact (Kd.R_below (by (with_reducible repeat (first | apply Kd.R_alloc | apply Kd.R_drewN | apply Kd.R_drew)); exact (Q_HO314_e4 h0_)) hb) | exact Kd.R_mono (Kd.R_below (by (with_reducible repeat (first | apply Kd.R_alloc | apply Kd.R_drewN | apply Kd.R_drew)); exact (Q_HO314_e4 h0_)) hb) (fun _ h_ => by first | trivial | exact h_ | exact h_.1))
        have z_HO327_e4 := fun (h0_ : b 4 = true) => (show Kd.R k28 28 w100 w.heap.size (fun k_ => some k_ ≠ (v277 : Value).ownBlock ∧ some k_ ≠ (.slice Ao84 t285.length co84 : Value).ownBlock ∧ some k_ ≠ (.slice Ao64 t293.length co64 : Value).ownBlock ∧ some k_ ≠ (.slice Ao83 t303.length co83 : Value).ownBlock ∧ some k_ ≠ (.slice Ao88 t312.length co88 : Value).ownBlock ∧ some k_ ≠ (v335 : Value).ownBlock) v326 t325 from by first | exact (Kd.R_below (by (with_reducible repeat (first | apply Kd.R_alloc | apply Kd.R_drewN | apply Kd.R_drew)); exact (Q_HO327_e4 h0_)) hb) | exact Kd.R_mono (Kd.R_below (by (with_reducible repeat (first | apply Kd.R_alloc | apply Kd.R_drewN | apply Kd.R_drew)); exact (Q_HO327_e4 h0_)) hb) (fun _ h_ => by first | trivial | exact h_ | exact h_.1))
        have z_HO336 := fun (h0_ : b 4 = true) => (show Kd.R k28 28 w100 w.heap.size (fun k_ => some k_ ≠ (v277 : Value).ownBlock ∧ some k_ ≠ (.slice Ao84 t285.length co84 : Value).ownBlock ∧ some k_ ≠ (.slice Ao64 t293.length co64 : Value).ownBlock ∧ some k_ ≠ (.slice Ao83 t303.length co83 : Value).ownBlock ∧ some k_ ≠ (.slice Ao88 t312.length co88 : Value).ownBlock ∧ some k_ ≠ (v326 : Value).ownBlock) v335 t334 from by first | exact (Kd.R_below (by (with_reducible repeat (first | apply Kd.R_alloc | apply Kd.R_drewN | apply Kd.R_drew)); exact (Q_HO336 h0_)) hb) | exact Kd.R_mono (Kd.R_below (by (with_reducible repeat (first | apply Kd.R_alloc | apply Kd.R_drewN | apply Kd.R_drew)); exact (Q_HO336 h0_)) hb) (fun _ h_ => by first | trivial | exact h_ | exact h_.1))
        clear BK270
        clear BK271
        clear BK289
        clear BK296
        clear BK307
        clear HB
        have BK270 := n5_
        have BK271 := n6_
        have BK289 := n7_
        have BK296 := n8_
        have BK307 := n9_
        have HB := n10_
        have BK338 := n11_
        have GW338 := n12_
        have GE338 := n13_
        have NB270_338 := n14_
        have NB338_270 := n15_
        have NB271_338 := n16_
        have NB338_271 := n17_
        have NB289_338 := n18_
        have NB338_289 := n19_
        have NB296_338 := n20_
        have NB338_296 := n21_
        have NB307_338 := n22_
        have NB338_307 := n23_
        clear n5_ n6_ n7_ n8_ n9_ n10_ n11_ n12_ n13_ n14_ n15_ n16_ n17_ n18_ n19_ n20_ n21_ n22_ n23_
        clear hb hbox hg
        refine hK.out _ _ ⟨v326, v335, gb338, m1_, m4_, m5_, m6_, (.pointer (some ⟨gb338, 0, none⟩)), (by rw [ha.out]; exact putSel_upk 8 hb_ rfl rfl rfl), z_HO278, z_HO287, z_HO295, z_HO305, z_HO314, (pkB BK270.out), (pkB BK271.out), (pkB BK289.out), (pkB BK296.out), (pkB BK307.out), (by repeat (first | (with_reducible first | exact HB.out | apply below_alloc | apply pw_below_drewN | apply below_drew1 | refine below_set ?_ GE270.out | refine below_set ?_ GE271.out | refine below_set ?_ GE289.out | refine below_set ?_ GE296.out | refine below_set ?_ GE307.out | refine below_set ?_ GE338.out) | exact HB.out)), z_HO278_e1, z_HO287_e1, z_HO295_e1, z_HO305_e1, z_HO314_e1, z_HO327, z_HO278_e4, z_HO287_e4, z_HO295_e4, z_HO305_e4, z_HO314_e4, z_HO327_e4, z_HO336, fun _ _ => (pkB BK338.out), fun _ => GW338.out, fun _ => GE338.out, fun _ => NB270_338.out, fun _ => NB338_270.out, fun _ => NB271_338.out, fun _ => NB338_271.out, fun _ => NB289_338.out, fun _ => NB338_289.out, fun _ => NB296_338.out, fun _ => NB338_296.out, fun _ => NB307_338.out, fun _ => NB338_307.out, fun h0_ => absurd ((hoff 9 (by kernel_rfl)).symm.trans h0_) (by decide), Q_X1_, Q_X4_, Q_X5_, Q_X6_, fun _ => rfl⟩
      refine steps_cons ?_ ?_
      · rintro b a w' ⟨v326, v335, gb338, m1_, m4_, m5_, m6_, m8_, ha, Q_HO278, Q_HO287, Q_HO295, Q_HO305, Q_HO314, Q_BK270, Q_BK271, Q_BK289, Q_BK296, Q_BK307, Q_HB, Q_HO278_e1, Q_HO287_e1, Q_HO295_e1, Q_HO305_e1, Q_HO314_e1, Q_HO327, Q_HO278_e4, Q_HO287_e4, Q_HO295_e4, Q_HO305_e4, Q_HO314_e4, Q_HO327_e4, Q_HO336, Q_BK338, Q_GW338, Q_GE338, Q_NB270_338, Q_NB338_270, Q_NB271_338, Q_NB338_271, Q_NB289_338, Q_NB338_289, Q_NB296_338, Q_NB338_296, Q_NB307_338, Q_NB338_307, Q_BK338_e9, Q_X1_, Q_X4_, Q_X5_, Q_X6_, Q_X8_⟩ hb_ hon hoff
        refine ⟨_, rfl, fun K hK => ?_⟩
        have e14 : a.tmps[14]? = some (m8_) := by rw [ha]; exact putSel_on (e := (8, 14, m8_)) 8 rfl rfl (hon 8 (by kernel_rfl)) rfl
        rw [Q_X8_ (hon 8 (by kernel_rfl))] at e14
        have e85 : a.tmps[85]? = some (m6_) := by rw [ha]; exact putSel_on (e := (6, 85, m6_)) 6 rfl rfl (hon 6 (by kernel_rfl)) rfl
        rw [Q_X6_ (hon 6 (by kernel_rfl))] at e85
        replace ha := Aside0.mk ha
        have BK270 := Aside0.mk Q_BK270
        have BK271 := Aside0.mk Q_BK271
        have BK289 := Aside0.mk Q_BK289
        have BK296 := Aside0.mk Q_BK296
        have BK307 := Aside0.mk Q_BK307
        have HB := Aside0.mk Q_HB
        have HO278 := Aside0.mk (Q_HO278_e4 (hon 4 (by kernel_rfl)))
        have HO287 := Aside0.mk (Q_HO287_e4 (hon 4 (by kernel_rfl)))
        have HO295 := Aside0.mk (Q_HO295_e4 (hon 4 (by kernel_rfl)))
        have HO305 := Aside0.mk (Q_HO305_e4 (hon 4 (by kernel_rfl)))
        have HO314 := Aside0.mk (Q_HO314_e4 (hon 4 (by kernel_rfl)))
        have HO327 := Aside0.mk (Q_HO327_e4 (hon 4 (by kernel_rfl)))
        have HO336 := Aside0.mk (Q_HO336 (hon 4 (by kernel_rfl)))
        have BK338 := Aside0.mk (Q_BK338 (hon 8 (by kernel_rfl)) hb_)
        have GW338 := Aside0.mk (Q_GW338 (hon 8 (by kernel_rfl)))
        have GE338 := Aside0.mk (Q_GE338 (hon 8 (by kernel_rfl)))
        have NB270_338 := Aside0.mk (Q_NB270_338 (hon 8 (by kernel_rfl)))
        have NB338_270 := Aside0.mk (Q_NB338_270 (hon 8 (by kernel_rfl)))
        have NB271_338 := Aside0.mk (Q_NB271_338 (hon 8 (by kernel_rfl)))
        have NB338_271 := Aside0.mk (Q_NB338_271 (hon 8 (by kernel_rfl)))
        have NB289_338 := Aside0.mk (Q_NB289_338 (hon 8 (by kernel_rfl)))
        have NB338_289 := Aside0.mk (Q_NB338_289 (hon 8 (by kernel_rfl)))
        have NB296_338 := Aside0.mk (Q_NB296_338 (hon 8 (by kernel_rfl)))
        have NB338_296 := Aside0.mk (Q_NB338_296 (hon 8 (by kernel_rfl)))
        have NB307_338 := Aside0.mk (Q_NB307_338 (hon 8 (by kernel_rfl)))
        have NB338_307 := Aside0.mk (Q_NB338_307 (hon 8 (by kernel_rfl)))
        obtain ⟨Ao109, co109, eo109⟩ := Kd.R_slice HO336.out
        (first | subst eo109 | (injection eo109 with f1_ f2_ f3_; have f4_ := f1_.symm; have f5_ := f3_.symm; clear f1_ f2_ f3_; subst f4_; subst f5_))
        have hs106 : w'.cell? ⟨gb338, 0, none⟩ = some (.string (⟨#[]⟩ : ByteArray)) := (blk_cell BK338.out 0).trans rfl
        have hfs106 := blk_frozen BK338.out 0
        have hns106_0 := NB270_338.out
        have hns106_1 := NB271_338.out
        have hns106_2 := NB289_338.out
        have hns106_3 := NB296_338.out
        have hns106_4 := NB307_338.out
        have hms106_0 := NB338_270.out
        have hms106_1 := NB338_271.out
        have hms106_2 := NB338_289.out
        have hms106_3 := NB338_296.out
        have hms106_4 := NB338_307.out
        have hs107 : w'.cell? ⟨gb338, 1, none⟩ = some (.int .i64 0) := (blk_cell BK338.out 1).trans rfl
        have hfs107 := blk_frozen BK338.out 1
        have hns107_0 := NB270_338.out
        have hns107_1 := NB271_338.out
        have hns107_2 := NB289_338.out
        have hns107_3 := NB296_338.out
        have hns107_4 := NB307_338.out
        have hms107_0 := NB338_270.out
        have hms107_1 := NB338_271.out
        have hms107_2 := NB338_289.out
        have hms107_3 := NB338_296.out
        have hms107_4 := NB338_307.out
        have hs108 : w'.cell? ⟨gb338, 2, none⟩ = some (.int .i64 0) := (blk_cell BK338.out 2).trans rfl
        have hfs108 := blk_frozen BK338.out 2
        have hns108_0 := NB270_338.out
        have hns108_1 := NB271_338.out
        have hns108_2 := NB289_338.out
        have hns108_3 := NB296_338.out
        have hns108_4 := NB307_338.out
        have hms108_0 := NB338_270.out
        have hms108_1 := NB338_271.out
        have hms108_2 := NB338_289.out
        have hms108_3 := NB338_296.out
        have hms108_4 := NB338_307.out
        have hs110 : w'.cell? ⟨gb338, 3, none⟩ = some (.slice none 0 0) := (blk_cell BK338.out 3).trans rfl
        have hfs110 := blk_frozen BK338.out 3
        have hns110_0 := NB270_338.out
        have hns110_1 := NB271_338.out
        have hns110_2 := NB289_338.out
        have hns110_3 := NB296_338.out
        have hns110_4 := NB307_338.out
        have hms110_0 := NB338_270.out
        have hms110_1 := NB338_271.out
        have hms110_2 := NB338_289.out
        have hms110_3 := NB338_296.out
        have hms110_4 := NB338_307.out
        refine skip_ (w1 := ?_) (by rfl) rfl ?_ ?_
        rotate_left
        · go_simp
          rfl
        refine hK.out _ _ ⟨v326, .slice Ao109 t334.length co109, gb338, m1_, m4_, m5_, m6_, m8_, (by rw [ha.out]; exact putSel_none (v := undef) rfl), fun h0_ => absurd ((hon 1 (by kernel_rfl)).symm.trans h0_) (by decide), fun h0_ => absurd ((hon 1 (by kernel_rfl)).symm.trans h0_) (by decide), fun h0_ => absurd ((hon 1 (by kernel_rfl)).symm.trans h0_) (by decide), fun h0_ => absurd ((hon 1 (by kernel_rfl)).symm.trans h0_) (by decide), fun h0_ => absurd ((hon 1 (by kernel_rfl)).symm.trans h0_) (by decide), (by (with_reducible repeat (first | refine blk_drewN ?_ _ | refine blk_drew ?_ | refine blk_alloc ?_ _)); refine blk_far ?_ NB270_338.out _; (with_reducible repeat (first | refine blk_drewN ?_ _ | refine blk_drew ?_ | refine blk_alloc ?_ _)); refine blk_far ?_ NB270_338.out _; (with_reducible repeat (first | refine blk_drewN ?_ _ | refine blk_drew ?_ | refine blk_alloc ?_ _)); refine blk_far ?_ NB270_338.out _; (with_reducible repeat (first | refine blk_drewN ?_ _ | refine blk_drew ?_ | refine blk_alloc ?_ _)); refine blk_far ?_ NB270_338.out _; (with_reducible repeat (first | refine blk_drewN ?_ _ | refine blk_drew ?_ | refine blk_alloc ?_ _)); exact BK270.out), (by (with_reducible repeat (first | refine blk_drewN ?_ _ | refine blk_drew ?_ | refine blk_alloc ?_ _)); refine blk_far ?_ NB271_338.out _; (with_reducible repeat (first | refine blk_drewN ?_ _ | refine blk_drew ?_ | refine blk_alloc ?_ _)); refine blk_far ?_ NB271_338.out _; (with_reducible repeat (first | refine blk_drewN ?_ _ | refine blk_drew ?_ | refine blk_alloc ?_ _)); refine blk_far ?_ NB271_338.out _; (with_reducible repeat (first | refine blk_drewN ?_ _ | refine blk_drew ?_ | refine blk_alloc ?_ _)); refine blk_far ?_ NB271_338.out _; (with_reducible repeat (first | refine blk_drewN ?_ _ | refine blk_drew ?_ | refine blk_alloc ?_ _)); exact BK271.out), (by (with_reducible repeat (first | refine blk_drewN ?_ _ | refine blk_drew ?_ | refine blk_alloc ?_ _)); refine blk_far ?_ NB289_338.out _; (with_reducible repeat (first | refine blk_drewN ?_ _ | refine blk_drew ?_ | refine blk_alloc ?_ _)); refine blk_far ?_ NB289_338.out _; (with_reducible repeat (first | refine blk_drewN ?_ _ | refine blk_drew ?_ | refine blk_alloc ?_ _)); refine blk_far ?_ NB289_338.out _; (with_reducible repeat (first | refine blk_drewN ?_ _ | refine blk_drew ?_ | refine blk_alloc ?_ _)); refine blk_far ?_ NB289_338.out _; (with_reducible repeat (first | refine blk_drewN ?_ _ | refine blk_drew ?_ | refine blk_alloc ?_ _)); exact BK289.out), (by (with_reducible repeat (first | refine blk_drewN ?_ _ | refine blk_drew ?_ | refine blk_alloc ?_ _)); refine blk_far ?_ NB296_338.out _; (with_reducible repeat (first | refine blk_drewN ?_ _ | refine blk_drew ?_ | refine blk_alloc ?_ _)); refine blk_far ?_ NB296_338.out _; (with_reducible repeat (first | refine blk_drewN ?_ _ | refine blk_drew ?_ | refine blk_alloc ?_ _)); refine blk_far ?_ NB296_338.out _; (with_reducible repeat (first | refine blk_drewN ?_ _ | refine blk_drew ?_ | refine blk_alloc ?_ _)); refine blk_far ?_ NB296_338.out _; (with_reducible repeat (first | refine blk_drewN ?_ _ | refine blk_drew ?_ | refine blk_alloc ?_ _)); exact BK296.out), (by (with_reducible repeat (first | refine blk_drewN ?_ _ | refine blk_drew ?_ | refine blk_alloc ?_ _)); refine blk_far ?_ NB307_338.out _; (with_reducible repeat (first | refine blk_drewN ?_ _ | refine blk_drew ?_ | refine blk_alloc ?_ _)); refine blk_far ?_ NB307_338.out _; (with_reducible repeat (first | refine blk_drewN ?_ _ | refine blk_drew ?_ | refine blk_alloc ?_ _)); refine blk_far ?_ NB307_338.out _; (with_reducible repeat (first | refine blk_drewN ?_ _ | refine blk_drew ?_ | refine blk_alloc ?_ _)); refine blk_far ?_ NB307_338.out _; (with_reducible repeat (first | refine blk_drewN ?_ _ | refine blk_drew ?_ | refine blk_alloc ?_ _)); exact BK307.out), (by repeat (first | (with_reducible first | exact HB.out | apply below_alloc | apply pw_below_drewN | apply below_drew1 | refine below_set ?_ GE270.out | refine below_set ?_ GE271.out | refine below_set ?_ GE289.out | refine below_set ?_ GE296.out | refine below_set ?_ GE307.out | refine below_set ?_ GE338.out) | exact HB.out)), fun _ h1_ => absurd ((hon 4 (by kernel_rfl)).symm.trans h1_) (by decide), fun _ h1_ => absurd ((hon 4 (by kernel_rfl)).symm.trans h1_) (by decide), fun _ h1_ => absurd ((hon 4 (by kernel_rfl)).symm.trans h1_) (by decide), fun _ h1_ => absurd ((hon 4 (by kernel_rfl)).symm.trans h1_) (by decide), fun _ h1_ => absurd ((hon 4 (by kernel_rfl)).symm.trans h1_) (by decide), fun _ h1_ => absurd ((hon 4 (by kernel_rfl)).symm.trans h1_) (by decide), fun _ => (by (with_reducible repeat (first | apply Kd.R_alloc | apply Kd.R_drewN | apply Kd.R_drew)); exact Kd.R_mono (Kd.R_far (p := ⟨gb338, 3, none⟩) (Kd.R_far (p := ⟨gb338, 2, none⟩) (Kd.R_far (p := ⟨gb338, 1, none⟩) (Kd.R_far (p := ⟨gb338, 0, none⟩) (Kd.R_types HO278.out BK338.out (by decide)) (fun _ hk => hk.2) (.string t331)) (fun _ hk => hk.2) (.int .i64 t332)) (fun _ hk => hk.2) (.int .i64 t333)) (fun _ hk => hk.2) (.slice Ao109 t334.length co109)) (by first | exact (fun _ hk => ⟨hk.1.1, ⟨hk.1.2.1, ⟨hk.1.2.2.1, ⟨hk.1.2.2.2.1, ⟨hk.1.2.2.2.2.1, hk.1.2.2.2.2.2⟩⟩⟩⟩⟩) | (intro _ hk; simp_all))), fun _ => (by (with_reducible repeat (first | apply Kd.R_alloc | apply Kd.R_drewN | apply Kd.R_drew)); exact Kd.R_mono (Kd.R_far (p := ⟨gb338, 3, none⟩) (Kd.R_far (p := ⟨gb338, 2, none⟩) (Kd.R_far (p := ⟨gb338, 1, none⟩) (Kd.R_far (p := ⟨gb338, 0, none⟩) (Kd.R_types HO287.out BK338.out (by decide)) (fun _ hk => hk.2) (.string t331)) (fun _ hk => hk.2) (.int .i64 t332)) (fun _ hk => hk.2) (.int .i64 t333)) (fun _ hk => hk.2) (.slice Ao109 t334.length co109)) (by first | exact (fun _ hk => ⟨hk.1.1, ⟨hk.1.2.1, ⟨hk.1.2.2.1, ⟨hk.1.2.2.2.1, ⟨hk.1.2.2.2.2.1, hk.1.2.2.2.2.2⟩⟩⟩⟩⟩) | (intro _ hk; simp_all))), fun _ => (by (with_reducible repeat (first | apply Kd.R_alloc | apply Kd.R_drewN | apply Kd.R_drew)); exact Kd.R_mono (Kd.R_far (p := ⟨gb338, 3, none⟩) (Kd.R_far (p := ⟨gb338, 2, none⟩) (Kd.R_far (p := ⟨gb338, 1, none⟩) (Kd.R_far (p := ⟨gb338, 0, none⟩) (Kd.R_types HO295.out BK338.out (by decide)) (fun _ hk => hk.2) (.string t331)) (fun _ hk => hk.2) (.int .i64 t332)) (fun _ hk => hk.2) (.int .i64 t333)) (fun _ hk => hk.2) (.slice Ao109 t334.length co109)) (by first | exact (fun _ hk => ⟨hk.1.1, ⟨hk.1.2.1, ⟨hk.1.2.2.1, ⟨hk.1.2.2.2.1, ⟨hk.1.2.2.2.2.1, hk.1.2.2.2.2.2⟩⟩⟩⟩⟩) | (intro _ hk; simp_all))), fun _ => (by (with_reducible repeat (first | apply Kd.R_alloc | apply Kd.R_drewN | apply Kd.R_drew)); exact Kd.R_mono (Kd.R_far (p := ⟨gb338, 3, none⟩) (Kd.R_far (p := ⟨gb338, 2, none⟩) (Kd.R_far (p := ⟨gb338, 1, none⟩) (Kd.R_far (p := ⟨gb338, 0, none⟩) (Kd.R_types HO305.out BK338.out (by decide)) (fun _ hk => hk.2) (.string t331)) (fun _ hk => hk.2) (.int .i64 t332)) (fun _ hk => hk.2) (.int .i64 t333)) (fun _ hk => hk.2) (.slice Ao109 t334.length co109)) (by first | exact (fun _ hk => ⟨hk.1.1, ⟨hk.1.2.1, ⟨hk.1.2.2.1, ⟨hk.1.2.2.2.1, ⟨hk.1.2.2.2.2.1, hk.1.2.2.2.2.2⟩⟩⟩⟩⟩) | (intro _ hk; simp_all))), fun _ => (by (with_reducible repeat (first | apply Kd.R_alloc | apply Kd.R_drewN | apply Kd.R_drew)); exact Kd.R_mono (Kd.R_far (p := ⟨gb338, 3, none⟩) (Kd.R_far (p := ⟨gb338, 2, none⟩) (Kd.R_far (p := ⟨gb338, 1, none⟩) (Kd.R_far (p := ⟨gb338, 0, none⟩) (Kd.R_types HO314.out BK338.out (by decide)) (fun _ hk => hk.2) (.string t331)) (fun _ hk => hk.2) (.int .i64 t332)) (fun _ hk => hk.2) (.int .i64 t333)) (fun _ hk => hk.2) (.slice Ao109 t334.length co109)) (by first | exact (fun _ hk => ⟨hk.1.1, ⟨hk.1.2.1, ⟨hk.1.2.2.1, ⟨hk.1.2.2.2.1, ⟨hk.1.2.2.2.2.1, hk.1.2.2.2.2.2⟩⟩⟩⟩⟩) | (intro _ hk; simp_all))), fun _ => (by (with_reducible repeat (first | apply Kd.R_alloc | apply Kd.R_drewN | apply Kd.R_drew)); exact Kd.R_mono (Kd.R_far (p := ⟨gb338, 3, none⟩) (Kd.R_far (p := ⟨gb338, 2, none⟩) (Kd.R_far (p := ⟨gb338, 1, none⟩) (Kd.R_far (p := ⟨gb338, 0, none⟩) (Kd.R_types HO327.out BK338.out (by decide)) (fun _ hk => hk.2) (.string t331)) (fun _ hk => hk.2) (.int .i64 t332)) (fun _ hk => hk.2) (.int .i64 t333)) (fun _ hk => hk.2) (.slice Ao109 t334.length co109)) (by first | exact (fun _ hk => ⟨hk.1.1, ⟨hk.1.2.1, ⟨hk.1.2.2.1, ⟨hk.1.2.2.2.1, ⟨hk.1.2.2.2.2.1, hk.1.2.2.2.2.2⟩⟩⟩⟩⟩) | (intro _ hk; simp_all))), fun _ => (by (with_reducible repeat (first | apply Kd.R_alloc | apply Kd.R_drewN | apply Kd.R_drew)); exact Kd.R_mono (Kd.R_far (p := ⟨gb338, 3, none⟩) (Kd.R_far (p := ⟨gb338, 2, none⟩) (Kd.R_far (p := ⟨gb338, 1, none⟩) (Kd.R_far (p := ⟨gb338, 0, none⟩) (Kd.R_types HO336.out BK338.out (by decide)) (fun _ hk => hk.2) (.string t331)) (fun _ hk => hk.2) (.int .i64 t332)) (fun _ hk => hk.2) (.int .i64 t333)) (fun _ hk => hk.2) (.slice Ao109 t334.length co109)) (by first | exact (fun _ hk => ⟨hk.1.1, ⟨hk.1.2.1, ⟨hk.1.2.2.1, ⟨hk.1.2.2.2.1, ⟨hk.1.2.2.2.2.1, hk.1.2.2.2.2.2⟩⟩⟩⟩⟩) | (intro _ hk; simp_all))), fun _ h1_ => absurd ((up_self b 9).symm.trans h1_) (by decide), fun _ => GW338.out, fun _ => GE338.out, fun _ => NB270_338.out, fun _ => NB338_270.out, fun _ => NB271_338.out, fun _ => NB338_271.out, fun _ => NB289_338.out, fun _ => NB338_289.out, fun _ => NB296_338.out, fun _ => NB338_296.out, fun _ => NB307_338.out, fun _ => NB338_307.out, fun _ => (by (with_reducible repeat (first | refine blk_drewN ?_ _ | refine blk_drew ?_ | refine blk_alloc ?_ _)); refine blk_put (cs := #[.string t331, .int .i64 t332, .int .i64 t333, .slice none 0 0]) ?_ 3 _ rfl; (with_reducible repeat (first | refine blk_drewN ?_ _ | refine blk_drew ?_ | refine blk_alloc ?_ _)); refine blk_put (cs := #[.string t331, .int .i64 t332, .int .i64 0, .slice none 0 0]) ?_ 2 _ rfl; (with_reducible repeat (first | refine blk_drewN ?_ _ | refine blk_drew ?_ | refine blk_alloc ?_ _)); refine blk_put (cs := #[.string t331, .int .i64 0, .int .i64 0, .slice none 0 0]) ?_ 1 _ rfl; (with_reducible repeat (first | refine blk_drewN ?_ _ | refine blk_drew ?_ | refine blk_alloc ?_ _)); refine blk_put (cs := #[.string (⟨#[]⟩ : ByteArray), .int .i64 0, .int .i64 0, .slice none 0 0]) ?_ 0 _ rfl; (with_reducible repeat (first | refine blk_drewN ?_ _ | refine blk_drew ?_ | refine blk_alloc ?_ _)); exact BK338.out), Q_X1_, Q_X4_, Q_X5_, Q_X6_, Q_X8_⟩
      refine steps_cons ?_ ?_
      · rintro b a w' ⟨v326, v335, gb338, m1_, m4_, m5_, m6_, m8_, ha, Q_HO278, Q_HO287, Q_HO295, Q_HO305, Q_HO314, Q_BK270, Q_BK271, Q_BK289, Q_BK296, Q_BK307, Q_HB, Q_HO278_e1, Q_HO287_e1, Q_HO295_e1, Q_HO305_e1, Q_HO314_e1, Q_HO327, Q_HO278_e4, Q_HO287_e4, Q_HO295_e4, Q_HO305_e4, Q_HO314_e4, Q_HO327_e4, Q_HO336, Q_BK338, Q_GW338, Q_GE338, Q_NB270_338, Q_NB338_270, Q_NB271_338, Q_NB338_271, Q_NB289_338, Q_NB338_289, Q_NB296_338, Q_NB338_296, Q_NB307_338, Q_NB338_307, Q_BK338_e9, Q_X1_, Q_X4_, Q_X5_, Q_X6_, Q_X8_⟩ hb_ hon hoff
        refine ⟨_, rfl, fun K hK => ?_⟩
        have e86 : a.tmps[86]? = some (.bool t337) := by rw [ha]; exact putSel_on (e := (7, 86, .bool t337)) 7 rfl rfl (hon 7 (by kernel_rfl)) rfl
        replace ha := Aside0.mk ha
        have BK270 := Aside0.mk Q_BK270
        have BK271 := Aside0.mk Q_BK271
        have BK289 := Aside0.mk Q_BK289
        have BK296 := Aside0.mk Q_BK296
        have BK307 := Aside0.mk Q_BK307
        have HB := Aside0.mk Q_HB
        have HO278 := Aside0.mk (Q_HO278_e4 (hon 4 (by kernel_rfl)))
        have HO287 := Aside0.mk (Q_HO287_e4 (hon 4 (by kernel_rfl)))
        have HO295 := Aside0.mk (Q_HO295_e4 (hon 4 (by kernel_rfl)))
        have HO305 := Aside0.mk (Q_HO305_e4 (hon 4 (by kernel_rfl)))
        have HO314 := Aside0.mk (Q_HO314_e4 (hon 4 (by kernel_rfl)))
        have HO327 := Aside0.mk (Q_HO327_e4 (hon 4 (by kernel_rfl)))
        have HO336 := Aside0.mk (Q_HO336 (hon 4 (by kernel_rfl)))
        have GW338 := Aside0.mk (Q_GW338 (hon 8 (by kernel_rfl)))
        have GE338 := Aside0.mk (Q_GE338 (hon 8 (by kernel_rfl)))
        have NB270_338 := Aside0.mk (Q_NB270_338 (hon 8 (by kernel_rfl)))
        have NB338_270 := Aside0.mk (Q_NB338_270 (hon 8 (by kernel_rfl)))
        have NB271_338 := Aside0.mk (Q_NB271_338 (hon 8 (by kernel_rfl)))
        have NB338_271 := Aside0.mk (Q_NB338_271 (hon 8 (by kernel_rfl)))
        have NB289_338 := Aside0.mk (Q_NB289_338 (hon 8 (by kernel_rfl)))
        have NB338_289 := Aside0.mk (Q_NB338_289 (hon 8 (by kernel_rfl)))
        have NB296_338 := Aside0.mk (Q_NB296_338 (hon 8 (by kernel_rfl)))
        have NB338_296 := Aside0.mk (Q_NB338_296 (hon 8 (by kernel_rfl)))
        have NB307_338 := Aside0.mk (Q_NB307_338 (hon 8 (by kernel_rfl)))
        have NB338_307 := Aside0.mk (Q_NB338_307 (hon 8 (by kernel_rfl)))
        have BK338 := Aside0.mk (Q_BK338_e9 (hon 9 (by kernel_rfl)))
        refine value_ (w1 := w') (v := .bool t337) (by rfl) rfl ?_ ?_
        · go_simp
          (try simp only [i64_w])
          try rfl
        refine hK.out _ _ ⟨v326, v335, gb338, m1_, m4_, m5_, m6_, m8_, (by rw [ha.out]; exact putSel_upk 9 hb_ rfl rfl rfl), fun h0_ => absurd ((hon 1 (by kernel_rfl)).symm.trans h0_) (by decide), fun h0_ => absurd ((hon 1 (by kernel_rfl)).symm.trans h0_) (by decide), fun h0_ => absurd ((hon 1 (by kernel_rfl)).symm.trans h0_) (by decide), fun h0_ => absurd ((hon 1 (by kernel_rfl)).symm.trans h0_) (by decide), fun h0_ => absurd ((hon 1 (by kernel_rfl)).symm.trans h0_) (by decide), Q_BK270, Q_BK271, Q_BK289, Q_BK296, Q_BK307, Q_HB, fun _ h1_ => absurd ((hon 4 (by kernel_rfl)).symm.trans h1_) (by decide), fun _ h1_ => absurd ((hon 4 (by kernel_rfl)).symm.trans h1_) (by decide), fun _ h1_ => absurd ((hon 4 (by kernel_rfl)).symm.trans h1_) (by decide), fun _ h1_ => absurd ((hon 4 (by kernel_rfl)).symm.trans h1_) (by decide), fun _ h1_ => absurd ((hon 4 (by kernel_rfl)).symm.trans h1_) (by decide), fun _ h1_ => absurd ((hon 4 (by kernel_rfl)).symm.trans h1_) (by decide), Q_HO278_e4, Q_HO287_e4, Q_HO295_e4, Q_HO305_e4, Q_HO314_e4, Q_HO327_e4, Q_HO336, fun _ h1_ => absurd ((hon 9 (by kernel_rfl)).symm.trans h1_) (by decide), Q_GW338, Q_GE338, Q_NB270_338, Q_NB338_270, Q_NB271_338, Q_NB338_271, Q_NB289_338, Q_NB338_289, Q_NB296_338, Q_NB338_296, Q_NB307_338, Q_NB338_307, Q_BK338_e9, Q_X1_, Q_X4_, Q_X5_, Q_X6_, Q_X8_⟩
      exact steps_nil
    rintro b a w110 hall ⟨v326, v335, gb338, m1_, m4_, m5_, m6_, m8_, ha, Q_HO278, Q_HO287, Q_HO295, Q_HO305, Q_HO314, Q_BK270, Q_BK271, Q_BK289, Q_BK296, Q_BK307, Q_HB, Q_HO278_e1, Q_HO287_e1, Q_HO295_e1, Q_HO305_e1, Q_HO314_e1, Q_HO327, Q_HO278_e4, Q_HO287_e4, Q_HO295_e4, Q_HO305_e4, Q_HO314_e4, Q_HO327_e4, Q_HO336, Q_BK338, Q_GW338, Q_GE338, Q_NB270_338, Q_NB338_270, Q_NB271_338, Q_NB338_271, Q_NB289_338, Q_NB338_289, Q_NB296_338, Q_NB338_296, Q_NB307_338, Q_NB338_307, Q_BK338_e9, Q_X1_, Q_X4_, Q_X5_, Q_X6_, Q_X8_⟩
    clear BK270 BK271 BK289 BK296 BK307 HB HO278 HO287 HO295 HO305 HO314
    have hb0_ := hall 0 (by kernel_rfl)
    have hb1_ := hall 1 (by kernel_rfl)
    have hb2_ := hall 2 (by kernel_rfl)
    have hb3_ := hall 3 (by kernel_rfl)
    have hb4_ := hall 4 (by kernel_rfl)
    have hb5_ := hall 5 (by kernel_rfl)
    have hb6_ := hall 6 (by kernel_rfl)
    have hb7_ := hall 7 (by kernel_rfl)
    have hb8_ := hall 8 (by kernel_rfl)
    have hb9_ := hall 9 (by kernel_rfl)
    have hb10_ := hall 10 (by kernel_rfl)
    subst ha
    obtain rfl := Q_X1_ hb1_
    obtain rfl := Q_X4_ hb4_
    obtain rfl := Q_X5_ hb5_
    obtain rfl := Q_X6_ hb6_
    obtain rfl := Q_X8_ hb8_
    simp only [putSel, hb0_, hb1_, hb2_, hb3_, hb4_, hb5_, hb6_, hb7_, hb8_, hb9_, hb10_, if_true, Act.put, List.setIfInBounds_toArray, List.set_cons_zero, List.set_cons_succ]
    clear Q_HO278
    clear Q_HO287
    clear Q_HO295
    clear Q_HO305
    clear Q_HO314
    have BK270 := Aside0.mk Q_BK270
    clear Q_BK270
    have BK271 := Aside0.mk Q_BK271
    clear Q_BK271
    have BK289 := Aside0.mk Q_BK289
    clear Q_BK289
    have BK296 := Aside0.mk Q_BK296
    clear Q_BK296
    have BK307 := Aside0.mk Q_BK307
    clear Q_BK307
    have HB := Aside0.mk Q_HB
    clear Q_HB
    clear Q_HO278_e1
    clear Q_HO287_e1
    clear Q_HO295_e1
    clear Q_HO305_e1
    clear Q_HO314_e1
    clear Q_HO327
    have HO278 := Aside0.mk (Q_HO278_e4 hb4_)
    clear Q_HO278_e4
    have HO287 := Aside0.mk (Q_HO287_e4 hb4_)
    clear Q_HO287_e4
    have HO295 := Aside0.mk (Q_HO295_e4 hb4_)
    clear Q_HO295_e4
    have HO305 := Aside0.mk (Q_HO305_e4 hb4_)
    clear Q_HO305_e4
    have HO314 := Aside0.mk (Q_HO314_e4 hb4_)
    clear Q_HO314_e4
    have HO327 := Aside0.mk (Q_HO327_e4 hb4_)
    clear Q_HO327_e4
    have HO336 := Aside0.mk (Q_HO336 hb4_)
    clear Q_HO336
    clear Q_BK338
    have GW338 := Aside0.mk (Q_GW338 hb8_)
    clear Q_GW338
    have GE338 := Aside0.mk (Q_GE338 hb8_)
    clear Q_GE338
    have NB270_338 := Aside0.mk (Q_NB270_338 hb8_)
    clear Q_NB270_338
    have NB338_270 := Aside0.mk (Q_NB338_270 hb8_)
    clear Q_NB338_270
    have NB271_338 := Aside0.mk (Q_NB271_338 hb8_)
    clear Q_NB271_338
    have NB338_271 := Aside0.mk (Q_NB338_271 hb8_)
    clear Q_NB338_271
    have NB289_338 := Aside0.mk (Q_NB289_338 hb8_)
    clear Q_NB289_338
    have NB338_289 := Aside0.mk (Q_NB338_289 hb8_)
    clear Q_NB338_289
    have NB296_338 := Aside0.mk (Q_NB296_338 hb8_)
    clear Q_NB296_338
    have NB338_296 := Aside0.mk (Q_NB338_296 hb8_)
    clear Q_NB338_296
    have NB307_338 := Aside0.mk (Q_NB307_338 hb8_)
    clear Q_NB307_338
    have NB338_307 := Aside0.mk (Q_NB338_307 hb8_)
    clear Q_NB338_307
    have BK338 := Aside0.mk (Q_BK338_e9 hb9_)
    clear Q_BK338_e9
    clear hall hb0_ hb1_ hb2_ hb3_ hb4_ hb5_ hb6_ hb7_ hb8_ hb9_ hb10_
    have hnb111 := NB338_270.out
    have hnc111 := NB270_338.out
    have hnb112 := NB338_271.out
    have hnc112 := NB271_338.out
    have hnb113 := NB338_289.out
    have hnc113 := NB289_338.out
    have hnb114 := NB338_296.out
    have hnc114 := NB296_338.out
    have hnb115 := NB338_307.out
    have hnc115 := NB307_338.out
    have hcz116_0 : w110.cell? ⟨gb338, 0, none⟩ = some (.string t331) := (blk_cell BK338.out 0).trans rfl
    have hcz116_1 : w110.cell? ⟨gb338, 1, none⟩ = some (.int .i64 t332) := (blk_cell BK338.out 1).trans rfl
    have hcz116_2 : w110.cell? ⟨gb338, 2, none⟩ = some (.int .i64 t333) := (blk_cell BK338.out 2).trans rfl
    have hcz116_3 : w110.cell? ⟨gb338, 3, none⟩ = some (v335) := (blk_cell BK338.out 3).trans rfl
    have hfz116_0 := blk_frozen BK338.out 0
    have hfz116_1 := blk_frozen BK338.out 1
    have hfz116_2 := blk_frozen BK338.out 2
    have hfz116_3 := blk_frozen BK338.out 3
    have hcz117_0 : w110.cell? ⟨gb289, 0, none⟩ = some (.string t282) := (blk_cell BK289.out 0).trans rfl
    have hcz117_1 : w110.cell? ⟨gb289, 1, none⟩ = some (.int .i64 t283) := (blk_cell BK289.out 1).trans rfl
    have hcz117_2 : w110.cell? ⟨gb289, 2, none⟩ = some (.int .i64 t284) := (blk_cell BK289.out 2).trans rfl
    have hcz117_3 : w110.cell? ⟨gb289, 3, none⟩ = some (.slice Ao84 t285.length co84) := (blk_cell BK289.out 3).trans rfl
    have hfz117_0 := blk_frozen BK289.out 0
    have hfz117_1 := blk_frozen BK289.out 1
    have hfz117_2 := blk_frozen BK289.out 2
    have hfz117_3 := blk_frozen BK289.out 3
    obtain ⟨Ao118, co118, eo118⟩ := Kd.R_slice HO336.out
    subst eo118
    try go_wp2_with (first | ((with_reducible refine gate_callee (f := 29) rfl ?_); refine goesL_ (some 89) rfl rfl Tryd.func29 (by kernel_rfl) rfl #[.agg #[.string t331, .int .i64 t332, .int .i64 t333, .slice Ao118 t334.length co118], .agg #[.string t282, .int .i64 t283, .int .i64 t284, .slice Ao84 t285.length co84]] rfl (by (try simp only [List.map_toArray, List.map_cons, List.map_nil]); first | done | rfl | (simp only [List.length_drop, List.length_take]; rfl)) ?_; (with_reducible refine (laws_eqPuzzle.calls k t331 t332 t333 _ _ t334 t282 t283 t284 _ _ t285 true _ ?side1 ?side2 ?side3 ?side4 A33.out).mono ?_); (case side1 => repeat (first | exact (Kd.R_reads' HO336.out).2.2 | (with_reducible refine Kd.C_alloc ?_ _) | (with_reducible refine Kd.C_drewN ?_ _) | (with_reducible refine Kd.C_drew ?_))); (case side2 => exact (Kd.R_reads' HO336.out).2.1); (case side3 => repeat (first | exact (Kd.R_reads' HO287.out).2.2 | (with_reducible refine Kd.C_alloc ?_ _) | (with_reducible refine Kd.C_drewN ?_ _) | (with_reducible refine Kd.C_drew ?_))); (case side4 => exact (Kd.R_reads' HO287.out).2.1); rintro e w119 ⟨rfl, hb⟩; refine ⟨_, rfl, ?_⟩; have n0_ := Aside0.mk (Kd.R_below (pkR HO278.out) hb); have n1_ := Aside0.mk (Kd.R_below (pkR HO287.out) hb); have n2_ := Aside0.mk (Kd.R_below (pkR HO295.out) hb); have n3_ := Aside0.mk (Kd.R_below (pkR HO305.out) hb); have n4_ := Aside0.mk (Kd.R_below (pkR HO314.out) hb); have n5_ := Aside0.mk (Kd.R_below (pkR HO327.out) hb); have n6_ := Aside0.mk (Kd.R_below (pkR HO336.out) hb); have n7_ := Aside0.mk (blk_below (g := gb270) (o := .cells #[.string a0_0, .int .i64 a0_1, .int .i64 a0_2, .slice A0_3 l0_3.length c0_3] 33 (0, 0)) (pkB BK270.out) hb); have n8_ := Aside0.mk (blk_below (g := gb271) (o := .cells #[.int .i64 a1_0, .int .i64 a1_1, .int .i64 a1_2] 26 (0, 0)) (pkB BK271.out) hb); have n9_ := Aside0.mk (blk_below (g := gb289) (o := .cells #[.string t282, .int .i64 t283, .int .i64 t284, .slice Ao84 t285.length co84] 38 (0, 0)) (pkB BK289.out) hb); have n10_ := Aside0.mk (blk_below (g := gb296) (o := .cells #[.string t290, .int .i64 t291, .int .i64 t292, .slice Ao64 t293.length co64] 38 (0, 0)) (pkB BK296.out) hb); have n11_ := Aside0.mk (blk_below (g := gb307) (o := .cells #[.string t300, .int .i64 t301, .int .i64 t302, .slice Ao83 t303.length co83] 38 (0, 0)) (pkB BK307.out) hb); have n12_ := Aside0.mk (blk_below (g := gb338) (o := .cells #[.string t331, .int .i64 t332, .int .i64 t333, .slice Ao118 t334.length co118] 38 (0, 0)) (pkB BK338.out) hb); have n13_ := Aside0.mk (below_step (by repeat (first | (with_reducible first | exact HB.out | apply below_alloc | apply pw_below_drewN | apply below_drew1 | refine below_set ?_ GE270.out | refine below_set ?_ GE271.out | refine below_set ?_ GE289.out | refine below_set ?_ GE296.out | refine below_set ?_ GE307.out | refine below_set ?_ GE338.out) | exact HB.out)) hb); clear HO278; clear HO287; clear HO295; clear HO305; clear HO314; clear HO327; clear HO336; clear BK270; clear BK271; clear BK289; clear BK296; clear BK307; clear BK338; clear HB; have HO278 := n0_; have HO287 := n1_; have HO295 := n2_; have HO305 := n3_; have HO314 := n4_; have HO327 := n5_; have HO336 := n6_; have BK270 := n7_; have BK271 := n8_; have BK289 := n9_; have BK296 := n10_; have BK307 := n11_; have BK338 := n12_; have HB := n13_; clear n0_ n1_ n2_ n3_ n4_ n5_ n6_ n7_ n8_ n9_ n10_ n11_ n12_ n13_; (try clear hb); (try clear hb2); (try clear hk); (try clear hi); have hcz120_0 : w119.cell? ⟨gb307, 0, none⟩ = some (.string t300) := (blk_cell BK307.out 0).trans rfl; have hcz120_1 : w119.cell? ⟨gb307, 1, none⟩ = some (.int .i64 t301) := (blk_cell BK307.out 1).trans rfl; have hcz120_2 : w119.cell? ⟨gb307, 2, none⟩ = some (.int .i64 t302) := (blk_cell BK307.out 2).trans rfl; have hcz120_3 : w119.cell? ⟨gb307, 3, none⟩ = some (.slice Ao83 t303.length co83) := (blk_cell BK307.out 3).trans rfl; have hfz120_0 := blk_frozen BK307.out 0; have hfz120_1 := blk_frozen BK307.out 1; have hfz120_2 := blk_frozen BK307.out 2; have hfz120_3 := blk_frozen BK307.out 3) | ((with_reducible refine gate_callee (f := 33) rfl ?_); refine goesL_ (some 98) rfl rfl Tryd.func33 (by kernel_rfl) rfl #[.agg #[.string t300, .int .i64 t301, .int .i64 t302, .slice Ao83 t320.length co83], .int .i64 1] rfl (by (try simp only [List.map_toArray, List.map_cons, List.map_nil]); first | done | (rw [show t320.length = t303.length from (Kd.R_reads' HO305.out).1.symm] <;> rfl) | rfl | (simp only [List.length_drop, List.length_take]; rfl)) ?_; (with_reducible refine (laws_heldPuzzle.calls k t300 t301 t302 _ _ t320 1 t340 _ ?side1 ?side2 A36.out).mono ?_); (case side1 => repeat (first | exact (Kd.R_reads' HO305.out).2.2 | (with_reducible refine Kd.C_alloc ?_ _) | (with_reducible refine Kd.C_drewN ?_ _) | (with_reducible refine Kd.C_drew ?_))); (case side2 => rw [show t320.length = t303.length from (Kd.R_reads' HO305.out).1.symm]; exact (Kd.R_reads' HO305.out).2.1); rintro e w121 ⟨rfl, hb⟩; refine ⟨_, rfl, ?_⟩; have n0_ := Aside0.mk (Kd.R_below (pkR HO278.out) hb); have n1_ := Aside0.mk (Kd.R_below (pkR HO287.out) hb); have n2_ := Aside0.mk (Kd.R_below (pkR HO295.out) hb); have n3_ := Aside0.mk (Kd.R_below (pkR HO305.out) hb); have n4_ := Aside0.mk (Kd.R_below (pkR HO314.out) hb); have n5_ := Aside0.mk (Kd.R_below (pkR HO327.out) hb); have n6_ := Aside0.mk (Kd.R_below (pkR HO336.out) hb); have n7_ := Aside0.mk (blk_below (g := gb270) (o := .cells #[.string a0_0, .int .i64 a0_1, .int .i64 a0_2, .slice A0_3 l0_3.length c0_3] 33 (0, 0)) (pkB BK270.out) hb); have n8_ := Aside0.mk (blk_below (g := gb271) (o := .cells #[.int .i64 a1_0, .int .i64 a1_1, .int .i64 a1_2] 26 (0, 0)) (pkB BK271.out) hb); have n9_ := Aside0.mk (blk_below (g := gb289) (o := .cells #[.string t282, .int .i64 t283, .int .i64 t284, .slice Ao84 t285.length co84] 38 (0, 0)) (pkB BK289.out) hb); have n10_ := Aside0.mk (blk_below (g := gb296) (o := .cells #[.string t290, .int .i64 t291, .int .i64 t292, .slice Ao64 t293.length co64] 38 (0, 0)) (pkB BK296.out) hb); have n11_ := Aside0.mk (blk_below (g := gb307) (o := .cells #[.string t300, .int .i64 t301, .int .i64 t302, .slice Ao83 t303.length co83] 38 (0, 0)) (pkB BK307.out) hb); have n12_ := Aside0.mk (blk_below (g := gb338) (o := .cells #[.string t331, .int .i64 t332, .int .i64 t333, .slice Ao118 t334.length co118] 38 (0, 0)) (pkB BK338.out) hb); have n13_ := Aside0.mk (below_step (by repeat (first | (with_reducible first | exact HB.out | apply below_alloc | apply pw_below_drewN | apply below_drew1 | refine below_set ?_ GE270.out | refine below_set ?_ GE271.out | refine below_set ?_ GE289.out | refine below_set ?_ GE296.out | refine below_set ?_ GE307.out | refine below_set ?_ GE338.out) | exact HB.out)) hb); clear HO278; clear HO287; clear HO295; clear HO305; clear HO314; clear HO327; clear HO336; clear BK270; clear BK271; clear BK289; clear BK296; clear BK307; clear BK338; clear HB; have HO278 := n0_; have HO287 := n1_; have HO295 := n2_; have HO305 := n3_; have HO314 := n4_; have HO327 := n5_; have HO336 := n6_; have BK270 := n7_; have BK271 := n8_; have BK289 := n9_; have BK296 := n10_; have BK307 := n11_; have BK338 := n12_; have HB := n13_; clear n0_ n1_ n2_ n3_ n4_ n5_ n6_ n7_ n8_ n9_ n10_ n11_ n12_ n13_; (try clear hb); (try clear hb2); (try clear hk); (try clear hi)))
    go_ret
    exact ⟨by first | rfl | (simp [errW_none, errW_some] <;> rfl) | (simp [*, errW_none, errW_some] <;> rfl) | (congr 2; simp [wrap64, IntKind.wrap, IntKind.bits, IntKind.signed]; omega), by repeat (first | (with_reducible first | exact HB.out | apply below_alloc | apply pw_below_drewN | apply below_drew1 | refine below_set ?_ GE270.out | refine below_set ?_ GE271.out | refine below_set ?_ GE289.out | refine below_set ?_ GE296.out | refine below_set ?_ GE307.out | refine below_set ?_ GE338.out) | exact HB.out)⟩

end Go.Proofs.YteemifeclhenbaaDoor.P
