/- What a row's conditions tell of the world in which a law is called. -/
import Derived.Test.YtkaiidmnigpicaaGreatDoorWI
import Derived.Test.YtkaiidmnigpicaaGreatDoorRows
import Derived.Stop.LaidErr
import Derived.LaidSub
import Derived.KernelRfl
import Derived.Test.YtkaiidmnigpicaaGreatDoorShelf
namespace Go.Proofs.YtkaiidmnigpicaaGreatDoorS
open Go Go.Proofs Go.Proofs.YtkaiidmnigpicaaGreatDoor
set_option maxRecDepth 100000
set_option linter.unusedVariables false
theorem laid_plain {P : Program} {l : List (String × DataW Unit)} {W : World} (h : laidMetH P l W) (e : (l.filter fun x => x.2.handleName?.isNone) = l) : laidMet P l W := by
  have := (laidMetH_iff.1 h).1
  rwa [e] at this
theorem laid_iface {P : Program} {n nm : String} {d : DataW Unit} {r : List (String × DataW Unit)} {W : World} (h : laidMet P ((n, .iface nm d) :: r) W) {g : Nat} {ti : TypeId} (hg : P.globalNamed n = some g) (ht : (P.globals[g]?).map (·.type) = some ti) (hi' : (match P.underlying ti with | some (.interface _) => true | _ => false) = true) (hc : P.cellsOf ti = 1) :
    ∃ ev, W.cell? ⟨g, 0, none⟩ = some ev ∧ (ev = .nilIface ∨ ∃ te pe, ev = .iface te pe) := by
  obtain ⟨ms, hi⟩ : ∃ ms, P.underlying ti = some (.interface ms) := by
    split at hi'
    · exact ⟨_, by assumption⟩
    · cases hi'
  obtain ⟨ps, ⟨g0, t0, cs0, f0, p0, q0, hg0, ht0, hv0, hd0, _, e0⟩, _, hrows⟩ := h
  obtain rfl := Option.some.inj (hg.symm.trans hg0)
  obtain rfl := Option.some.inj (ht.symm.trans ht0)
  obtain ⟨l0⟩ := cs0
  obtain ⟨f1, u, v, hl, _, _⟩ := iface_of_trod hi hd0
  have hl : l0 = [.iface u v] := hl
  subst hl
  exact ⟨.iface u v, by simpa using World.var?_cell hg0 hv0 0, .inr ⟨u, v, rfl⟩⟩
theorem wi_of {W : World} (hl : laidMetH Tryz.prog Rows.fnWorldsTurnedRow.laid W) (hs : W.ShapedOpen Tryz.prog) : WI W := by
  have h : laidMet Tryz.prog Rows.fnWorldsTurnedRow.laid W := laid_plain hl (by kernel_rfl)
  have hp : laidMet Tryz.prog (("math/bits.deBruijn32tab", Rows.laid_math_bits_deBruijn32tab) :: ("math/bits.deBruijn64tab", Rows.laid_math_bits_deBruijn64tab) :: ("internal/strconv.uint64pow10", Rows.laid_internal_strconv_uint64pow10) :: Rows.fnWorldsTurnedRow.laid.drop 3) W := h
  have ep : (Rows.laid_internal_strconv_uint64pow10 : DataW Unit) = Lib.tabData .u64 Lib.pow10Tab := by kernel_rfl
  have hp := hp.tail.tail
  rw [ep] at hp
  have h_esyn : laidMet Tryz.prog (("math/bits.deBruijn32tab", Rows.laid_math_bits_deBruijn32tab) :: ("math/bits.deBruijn64tab", Rows.laid_math_bits_deBruijn64tab) :: ("internal/strconv.uint64pow10", Rows.laid_internal_strconv_uint64pow10) :: ("unicode/utf8.acceptRanges", Rows.laid_unicode_utf8_acceptRanges) :: ("strconv.ErrRange", Rows.laid_strconv_ErrRange) :: ("strconv.ErrSyntax", Rows.laid_strconv_ErrSyntax) :: Rows.fnWorldsTurnedRow.laid.drop 6) W := h
  obtain ⟨cs_esyn, e_esyn⟩ := laid_iface h_esyn.tail.tail.tail.tail.tail (g := 3) (ti := 105) (by kernel_rfl) (by kernel_rfl) (by kernel_rfl) (by kernel_rfl)
  have h_erng : laidMet Tryz.prog (("math/bits.deBruijn32tab", Rows.laid_math_bits_deBruijn32tab) :: ("math/bits.deBruijn64tab", Rows.laid_math_bits_deBruijn64tab) :: ("internal/strconv.uint64pow10", Rows.laid_internal_strconv_uint64pow10) :: ("unicode/utf8.acceptRanges", Rows.laid_unicode_utf8_acceptRanges) :: ("strconv.ErrRange", Rows.laid_strconv_ErrRange) :: Rows.fnWorldsTurnedRow.laid.drop 5) W := h
  obtain ⟨cs_erng, e_erng⟩ := laid_iface h_erng.tail.tail.tail.tail (g := 4) (ti := 105) (by kernel_rfl) (by kernel_rfl) (by kernel_rfl) (by kernel_rfl)
  exact ⟨Tryz.laysM146.s1_3 W hs, Lib.tabIs_of_head (g := 5) (t := 216) (e := 73) (n := 20) (by kernel_rfl) (by kernel_rfl) (by kernel_rfl) (by kernel_rfl) (by kernel_rfl) (by kernel_rfl) hp, ⟨cs_esyn, e_esyn⟩, ⟨cs_erng, e_erng⟩⟩
end Go.Proofs.YtkaiidmnigpicaaGreatDoorS
