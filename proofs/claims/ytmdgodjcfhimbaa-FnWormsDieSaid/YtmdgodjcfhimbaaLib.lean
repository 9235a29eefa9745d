/- The library's functions at this seat (printed by wip/sim/gen.py). -/
import Derived.Test.YtmdgodjcfhimbaaSimFs
import Derived.Test.YtmdgodjcfhimbaaShelf
import Derived.WalkKit
namespace Go.Proofs.YtmdgodjcfhimbaaS
open Go Go.Proofs Go.RowKit
set_option maxRecDepth 100000
theorem strCount1_calls (a b : ByteArray) (r : Int) (w : World) (h : strCount1 a b = some r) : Calls Try.prog 39 #[.string a, .string b] w fun e w' => e = .returned (.int .i64 r) ∧ Below w.heap.size w w' := by
  unfold strCount1 at h
  split at h <;> cases h
  rename_i c hb
  obtain ⟨⟨L⟩⟩ := b
  have hb : L = [c] := hb
  subst hb
  exact (Try.strings_Count_one a c w).mono fun e w' ⟨h1, h2⟩ => ⟨h1, h2 ▸ Below.refl _ _⟩
end Go.Proofs.YtmdgodjcfhimbaaS
