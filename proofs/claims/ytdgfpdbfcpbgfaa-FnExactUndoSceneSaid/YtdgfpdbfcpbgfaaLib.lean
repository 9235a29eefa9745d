/- The library's functions at this seat (printed by wip/sim/gen.py). -/
import Derived.Test.YtdgfpdbfcpbgfaaSimFs
import Derived.Test.YtdgfpdbfcpbgfaaShelf
import Derived.WalkKit
namespace Go.Proofs.YtdgfpdbfcpbgfaaS
open Go Go.Proofs Go.RowKit
set_option maxRecDepth 100000
theorem clone76_ok : EntOk Try.prog (.fr 76 [⟨0, false, .slc false (.pair (.int .i64) (.pair .str (.int .i64)))⟩] [] [⟨0, false, .slc true (.pair (.int .i64) (.pair .str (.int .i64)))⟩] fun d => cloneB (s := (.pair (.int .i64) (.pair .str (.int .i64)))) 32 d) := by
  obtain ⟨i0, hi, hz⟩ := Option.map_eq_some_iff.1 (by kernel_rfl : (Try.prog.info? 57).map (fun i => (i.zero.map fun z => z.cells.size, i.size, i.bytes)) = some (some 3, 3, 32))
  simp only [Prod.mk.injEq] at hz
  obtain ⟨hz0, hz1, hz2⟩ := hz
  obtain ⟨z, hz, hzs⟩ := Option.map_eq_some_iff.1 hz0
  exact clone_ok Try.func76 (by kernel_rfl) rfl (.pair (.int .i64) (.pair .str (.int .i64))) 32 (by decide) 57 (fun b off n c news w h1 h2 h3 h4 h5 => Try.slices_Clone i0 z 3 32 hi hz hz1 hz2 hzs (by decide) Try.sizeOf57 b off n c news w h1 h2 h3 h4 h5) (fun n c w => Try.slices_Clone_nil n c w)
theorem strContains1_calls (a b : ByteArray) (r : Bool) (w : World) (h : strContains1 a b = some r) : Calls Try.prog 81 #[.string a, .string b] w fun e w' => e = .returned (.bool r) ∧ Below w.heap.size w w' := by
  unfold strContains1 at h
  split at h <;> cases h
  rename_i c hb
  obtain ⟨⟨L⟩⟩ := b
  have hb : L = [c] := hb
  subst hb
  exact (Try.strings_Contains_one a c w).mono fun e w' ⟨h1, h2⟩ => ⟨h1, h2 ▸ Below.refl _ _⟩
theorem strCount1_calls (a b : ByteArray) (r : Int) (w : World) (h : strCount1 a b = some r) : Calls Try.prog 22 #[.string a, .string b] w fun e w' => e = .returned (.int .i64 r) ∧ Below w.heap.size w w' := by
  unfold strCount1 at h
  split at h <;> cases h
  rename_i c hb
  obtain ⟨⟨L⟩⟩ := b
  have hb : L = [c] := hb
  subst hb
  exact (Try.strings_Count_one a c w).mono fun e w' ⟨h1, h2⟩ => ⟨h1, h2 ▸ Below.refl _ _⟩
end Go.Proofs.YtdgfpdbfcpbgfaaS
