/- The library's functions at this seat (printed by wip/sim/gen.py). -/
import Derived.Test.YtiaagflfiphioaaDoorSimFt
import Derived.Test.YtiaagflfiphioaaDoorSimFs
import Derived.Test.YtiaagflfiphioaaDoorShelf
import Derived.WalkKit
namespace Go.Proofs.YtiaagflfiphioaaDoorS
open Go Go.Proofs Go.RowKit
set_option maxRecDepth 100000
theorem strContains1_calls (a b : ByteArray) (r : Bool) (w : World) (h : strContains1 a b = some r) : Calls Tryd.prog 143 #[.string a, .string b] w fun e w' => e = .returned (.bool r) ∧ Below w.heap.size w w' := by
  unfold strContains1 at h
  split at h <;> cases h
  rename_i c hb
  obtain ⟨⟨L⟩⟩ := b
  have hb : L = [c] := hb
  subst hb
  exact (Tryd.strings_Contains_one a c w).mono fun e w' ⟨h1, h2⟩ => ⟨h1, h2 ▸ Below.refl _ _⟩
theorem itoaAll_calls (a : Int) (w : World) (hw : WG w) (h0 : -9223372036854775808 ≤ a) (h1 : a ≤ 9223372036854775807) : Calls Tryd.prog 104 #[.int .i64 a] w fun e w' => e = .returned (.string ⟨(Lib.itoa a).toArray⟩) ∧ Below w.heap.size w w' := by
  obtain ⟨v, hv, _, hs⟩ := hw
  have ht : Lib.TabIs Tryd.prog w "internal/strconv.uint64pow10" .u64 Lib.pow10Tab := World.var_heap hs hv.pow10
  refine (Tryd.strconv_Itoa a h0 h1 w ht).mono fun e w' h => ?_
  obtain ⟨h1, k, os, rfl⟩ := h
  exact ⟨h1, below_grow w k os⟩
end Go.Proofs.YtiaagflfiphioaaDoorS
