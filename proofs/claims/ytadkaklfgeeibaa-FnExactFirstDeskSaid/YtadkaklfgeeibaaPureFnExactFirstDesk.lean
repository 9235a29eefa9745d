/- The pure statement of FnExactFirstDesk. -/
import Derived.Test.YtadkaklfgeeibaaSayFnExactFirstDesk
namespace Go.Proofs.Ytadkaklfgeeibaa.fnExactFirstDesk
open Go.RowKit Go.Proofs.Ytadkaklfgeeibaa.P Go.Proofs.YtadkaklfgeeibaaW.PrintWords
theorem pure : Pure := by
  have h : strings_Repeat.f (⟨#[48]⟩ : ByteArray) 9 = some ⟨#[48, 48, 48, 48, 48, 48, 48, 48, 48]⟩ := by
    unfold strings_Repeat.f
    rw [if_pos (by decide)]
    rfl
  unfold Pure laws_FnExactFirstDesk.f spec_FirstDesk.f impl_FirstDesk.f
  rw [h]
  simp [laws_eqDesk.f, laws_eqWorld.f]
end Go.Proofs.Ytadkaklfgeeibaa.fnExactFirstDesk
