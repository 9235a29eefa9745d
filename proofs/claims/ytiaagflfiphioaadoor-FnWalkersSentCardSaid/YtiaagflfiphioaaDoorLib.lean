/- The library's functions at this seat (printed by wip/sim/gen.py). -/
import Derived.Test.YtiaagflfiphioaaDoorSimFt
import Derived.Test.YtiaagflfiphioaaDoorSimFs
import Derived.Test.YtiaagflfiphioaaDoorShelf
import Derived.WalkKit
namespace Go.Proofs.YtiaagflfiphioaaDoorS
open Go Go.Proofs Go.RowKit
set_option maxRecDepth 100000
theorem clone100_ok : EntOk Tryd.prog (.fr 100 [⟨0, false, .slc false (.int .i64)⟩] [] [⟨0, false, .slc true (.int .i64)⟩] fun d => cloneB (s := (.int .i64)) 8 d) := by
  obtain ⟨i0, hi, hz⟩ := Option.map_eq_some_iff.1 (by kernel_rfl : (Tryd.prog.info? 3).map (fun i => (i.zero.map fun z => z.cells.size, i.size, i.bytes)) = some (some 1, 1, 8))
  simp only [Prod.mk.injEq] at hz
  obtain ⟨hz0, hz1, hz2⟩ := hz
  obtain ⟨z, hz, hzs⟩ := Option.map_eq_some_iff.1 hz0
  exact clone_ok Tryd.func100 (by kernel_rfl) rfl (.int .i64) 8 (by decide) 3 (fun b off n c news w h1 h2 h3 h4 h5 => Tryd.slices_Clone i0 z 1 8 hi hz hz1 hz2 hzs (by decide) Tryd.sizeOf3 b off n c news w h1 h2 h3 h4 h5) (fun n c w => Tryd.slices_Clone_nil n c w)
theorem itoaAll_calls (a : Int) (w : World) (hw : WG w) (h0 : -9223372036854775808 ≤ a) (h1 : a ≤ 9223372036854775807) : Calls Tryd.prog 104 #[.int .i64 a] w fun e w' => e = .returned (.string ⟨(Lib.itoa a).toArray⟩) ∧ Below w.heap.size w w' := by
  obtain ⟨v, hv, _, hs⟩ := hw
  have ht : Lib.TabIs Tryd.prog w "internal/strconv.uint64pow10" .u64 Lib.pow10Tab := World.var_heap hs hv.pow10
  refine (Tryd.strconv_Itoa a h0 h1 w ht).mono fun e w' h => ?_
  obtain ⟨h1, k, os, rfl⟩ := h
  exact ⟨h1, below_grow w k os⟩
end Go.Proofs.YtiaagflfiphioaaDoorS
