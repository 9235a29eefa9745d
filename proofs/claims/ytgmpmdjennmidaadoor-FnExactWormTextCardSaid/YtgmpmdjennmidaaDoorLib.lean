/- The library's functions at this seat (printed by wip/sim/gen.py). -/
import Derived.Test.YtgmpmdjennmidaaDoorSimFs
import Derived.Test.YtgmpmdjennmidaaDoorShelf
import Derived.WalkKit
namespace Go.Proofs.YtgmpmdjennmidaaDoorS
open Go Go.Proofs Go.RowKit
set_option maxRecDepth 100000
theorem runeCount_calls (a : ByteArray) (r : Int) (w : World) (h : runeCount a = some r) : Calls Tryd.prog 45 #[.string a] w fun e w' => e = .returned (.int .i64 r) ∧ Below w.heap.size w w' := by
  unfold runeCount at h
  split at h <;> cases h
  rename_i hs
  exact (Tryd.utf8_RuneCountInString a w hs).mono fun e w' ⟨h1, pos, h2⟩ => ⟨h1, h2 ▸ (Below.refl _ w).alloc (Nat.le_refl _) _⟩
theorem itoaSmall_calls (a : Int) (r : ByteArray) (w : World) (h : itoaSmall a = some r) : Calls Tryd.prog 28 #[.int .i64 a] w fun e w' => e = .returned (.string r) ∧ Below w.heap.size w w' := by
  unfold itoaSmall at h
  split at h <;> cases h
  rename_i hs
  obtain ⟨n, rfl⟩ := Int.eq_ofNat_of_zero_le hs.1
  exact (Tryd.strconv_Itoa_small n (by omega) w).mono fun e w' ⟨h1, h2⟩ => ⟨h1, h2 ▸ Below.refl _ _⟩
end Go.Proofs.YtgmpmdjennmidaaDoorS
