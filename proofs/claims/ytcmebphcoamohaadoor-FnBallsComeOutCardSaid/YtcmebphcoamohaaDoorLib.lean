/- The library's functions at this seat (printed by wip/sim/gen.py). -/
import Derived.Test.YtcmebphcoamohaaDoorSimFs
import Derived.Test.YtcmebphcoamohaaDoorShelf
import Derived.WalkKit
import Derived.Shelf.Strings.SlTrimAscii
namespace Go.Proofs.YtcmebphcoamohaaDoorS
open Go Go.Proofs Go.RowKit
set_option maxRecDepth 100000
theorem strTrim_calls (a b : ByteArray) (r : ByteArray) (w : World) (h : strTrim a b = some r) : Calls Tryd.prog 43 #[.string a, .string b] w fun e w' => e = .returned (.string r) ∧ Below w.heap.size w w' := by
  unfold strTrim at h
  split at h
  · rename_i hc
    obtain ⟨h0, h1, h2⟩ := hc
    obtain rfl := Option.some.inj h
    exact Any.strings_Trim_laid Tryd.lays160 (by kernel_rfl) a b w h0 h1 (ascii_of_all h2)
  · cases h
end Go.Proofs.YtcmebphcoamohaaDoorS
