import Derived.Test.YtadkaklfgeeibaaP0
import Derived.Test.YtadkaklfgeeibaaShelf
namespace Go.Proofs.Ytadkaklfgeeibaa.P
open Go.RowKit Go.Proofs.YtadkaklfgeeibaaW.PrintWords Go.Proofs.YtadkaklfgeeibaaW.PrintLast Go.Proofs.YtadkaklfgeeibaaW.PrintMore
/-- strings.Repeat, where the result is of a size that one allocation holds. -/
def strings_Repeat.f (a0 : ByteArray) (a1 : Int) : Option ByteArray :=
  if 0 ≤ a1 ∧ a1 ≤ 140737488351232 ∧ (a0.size : Int) * a1 ≤ 140737488351232 then some ⟨(Lib.repeatL a0.data.toList a1.toNat).toArray⟩ else none
theorem strings_Repeat.calls (a0 : ByteArray) (a1 : Int) (r : ByteArray) (w : World) (h : strings_Repeat.f a0 a1 = some r) :
    Calls Try.prog 7 #[.string a0, .int .i64 a1] w fun e w' => e = .returned (.string r) ∧ Below w.heap.size w w' := by
  unfold strings_Repeat.f at h
  split at h
  · rename_i hc
    obtain ⟨h0, h1, h2⟩ := hc
    obtain ⟨n, rfl⟩ := Int.eq_ofNat_of_zero_le h0
    obtain rfl := Option.some.inj h
    have h3 : a0.size * n ≤ 140737488351232 := by rw [← Int.natCast_mul] at h2; omega
    exact Try.strings_Repeat a0 n w (by omega) (by omega)
  · cases h
end Go.Proofs.Ytadkaklfgeeibaa.P
