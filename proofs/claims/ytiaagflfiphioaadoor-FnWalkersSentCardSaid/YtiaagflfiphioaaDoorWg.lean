/- What a row's conditions tell of the world in which a law is called. -/
import Derived.Test.YtiaagflfiphioaaDoorWI
import Derived.Test.YtiaagflfiphioaaDoorRows
import Derived.Stop.LaidErr
import Derived.LaidSub
import Derived.KernelRfl
namespace Go.Proofs.YtiaagflfiphioaaDoorS
open Go Go.Proofs Go.Proofs.YtiaagflfiphioaaDoor
set_option maxRecDepth 100000
set_option linter.unusedVariables false
theorem laid_plain {P : Program} {l : List (String × DataW Unit)} {W : World} (h : laidMetH P l W) (e : (l.filter fun x => x.2.handleName?.isNone) = l) : laidMet P l W := by
  have := (laidMetH_iff.1 h).1
  rwa [e] at this
theorem wi_of {W : World} (hl : laidMetH Tryd.prog Rows.fnExactLoopOfSceneRow.laid W) (hs : W.ShapedOpen Tryd.prog) : WI W := by
  have h : laidMet Tryd.prog Rows.fnExactLoopOfSceneRow.laid W := laid_plain hl (by kernel_rfl)
  have hp : laidMet Tryd.prog (("math/bits.deBruijn32tab", Rows.laid_math_bits_deBruijn32tab) :: ("math/bits.deBruijn64tab", Rows.laid_math_bits_deBruijn64tab) :: ("internal/strconv.uint64pow10", Rows.laid_internal_strconv_uint64pow10) :: Rows.fnExactLoopOfSceneRow.laid.drop 3) W := h
  have ep : (Rows.laid_internal_strconv_uint64pow10 : DataW Unit) = Lib.tabData .u64 Lib.pow10Tab := by kernel_rfl
  have hp := hp.tail.tail
  rw [ep] at hp
  exact ⟨Lib.tabIs_of_head (g := 0) (t := 172) (e := 76) (n := 20) (by kernel_rfl) (by kernel_rfl) (by kernel_rfl) (by kernel_rfl) (by kernel_rfl) (by kernel_rfl) hp⟩
end Go.Proofs.YtiaagflfiphioaaDoorS
