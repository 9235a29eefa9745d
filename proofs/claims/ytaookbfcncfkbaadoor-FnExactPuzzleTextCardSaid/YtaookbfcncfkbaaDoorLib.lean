/- The library's functions at this seat (printed by wip/sim/gen.py). -/
import Derived.Test.YtaookbfcncfkbaaDoorSimFt
import Derived.Test.YtaookbfcncfkbaaDoorSimFs
import Derived.Test.YtaookbfcncfkbaaDoorShelf
import Derived.WalkKit
import Derived.Shelf.Strings.SlTrimAscii
namespace Go.Proofs.YtaookbfcncfkbaaDoorS
open Go Go.Proofs Go.RowKit
set_option maxRecDepth 100000
theorem strTrim_calls (a b : ByteArray) (r : ByteArray) (w : World) (h : strTrim a b = some r) : Calls Tryd.prog 69 #[.string a, .string b] w fun e w' => e = .returned (.string r) ∧ Below w.heap.size w w' := by
  unfold strTrim at h
  split at h
  · rename_i hc
    obtain ⟨h0, h1, h2⟩ := hc
    obtain rfl := Option.some.inj h
    exact Any.strings_Trim_laid Tryd.lays160 (by kernel_rfl) a b w h0 h1 (ascii_of_all h2)
  · cases h
theorem itoaAll_calls (a : Int) (w : World) (hw : WG w) (h0 : -9223372036854775808 ≤ a) (h1 : a ≤ 9223372036854775807) : Calls Tryd.prog 42 #[.int .i64 a] w fun e w' => e = .returned (.string ⟨(Lib.itoa a).toArray⟩) ∧ Below w.heap.size w w' := by
  obtain ⟨v, hv, _, hs⟩ := hw
  have ht : Lib.TabIs Tryd.prog w "internal/strconv.uint64pow10" .u64 Lib.pow10Tab := World.var_heap hs hv.pow10
  refine (Tryd.strconv_Itoa a h0 h1 w ht).mono fun e w' h => ?_
  obtain ⟨h1, k, os, rfl⟩ := h
  exact ⟨h1, below_grow w k os⟩
end Go.Proofs.YtaookbfcncfkbaaDoorS
