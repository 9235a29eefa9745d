/- What the law FnExactAddClue asks of plain functions. -/
import Derived.Test.YteemifeclhenbaaDoorP8
import Derived.Test.YteemifeclhenbaaDoorOpens
namespace Go.Proofs.YteemifeclhenbaaDoor.fnExactAddClue
open Go.RowKit Go.Proofs.YteemifeclhenbaaDoor Go.Proofs.YteemifeclhenbaaDoor.P Go.Proofs.YteemifeclhenbaaDoorW.PrintWords
theorem cells26 : Tryd.prog.cellsOf 26 = k26.sz := by kernel_rfl
def G26 (x : S26) : Prop := (Lit.int .i64 x.f0).wf = true ∧ (Lit.int .i64 x.f1).wf = true ∧ (Lit.int .i64 x.f2).wf = true
theorem open26 : Opens.Opens Tryd.prog 26 k26 G26 := by
  intro H enc w fuel cs y hy
  obtain ⟨x, hK, hG⟩ := Opens.opens_iso (Opens.opens_struct Tryd.underlying26 (by kernel_rfl) (Opens.opensF_cons (l0 := 1) (Opens.opens_int Tryd.underlying3) rfl (by kernel_rfl) (Opens.opensF_cons (l0 := 1) (Opens.opens_int Tryd.underlying3) rfl (by kernel_rfl) (Opens.opensF_one (len := 1) (Opens.opens_int Tryd.underlying3) rfl (by kernel_rfl))))) (fun x : S26 => (x.f0, x.f1, x.f2)) (fun p => ⟨p.1, p.2.1, p.2.2⟩) (fun _ => rfl) H enc w fuel cs y hy
  refine ⟨x, hK, ?_⟩
  simp only at hG
  unfold G26
  exact hG
/-- The pure statement. -/
def Pure : Prop := ∀ (a0_0 : ByteArray) (a0_1 : Int) (a0_2 : Int) (l0_3 : List (S26)) (a1_0 : Int) (a1_1 : Int) (a1_2 : Int), a0_0.size ≤ maxLen → (Lit.int .i64 a0_1).wf = true → (Lit.int .i64 a0_2).wf = true → (l0_3.length ≤ maxLen ∧ (∀ x_ ∈ l0_3, G26 x_)) → (Lit.int .i64 a1_0).wf = true → (Lit.int .i64 a1_1).wf = true → (Lit.int .i64 a1_2).wf = true → ∃ k, laws_FnExactAddClue.f k a0_0 a0_1 a0_2 l0_3 a1_0 a1_1 a1_2 = some true
end Go.Proofs.YteemifeclhenbaaDoor.fnExactAddClue
